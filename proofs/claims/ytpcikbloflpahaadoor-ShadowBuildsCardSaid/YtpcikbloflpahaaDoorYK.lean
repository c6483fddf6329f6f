/-
  Chapter 7: what lay writes, and where (plain).
-/
import Derived.Test.YtpcikbloflpahaaDoorZBu6
import Derived.Test.YtpcikbloflpahaaDoorZTr2
namespace Go.Proofs.YtpcikbloflpahaaDoor
set_option linter.unusedVariables false
set_option linter.unusedSimpArgs false
open Go.RowKit Go.Shelf Go.Maps

/-- Writes to sectors that were free, each to one of its own. -/
def Fresh (c c' : List Int) (E : Ws) : Prop :=
  c'.length = c.length ∧ (E.map Prod.fst).Nodup ∧ (∀ x ∈ E, freeQ c x.1 = true) ∧ (∀ n, n ∈ E.map Prod.fst → c'.getD n 0 = 1) ∧ ∀ n, n ∉ E.map Prod.fst → c'.getD n 0 = c.getD n 0
theorem Fresh.nil (c : List Int) : Fresh c c [] := ⟨rfl, List.nodup_nil, (fun x hx => by cases hx), (fun n hn => by cases hn), fun n _ => rfl⟩
theorem Fresh.step {c c' : List Int} {E : Ws} (h : Fresh c c' E) (hf : 0 < freeN c') (d : List Int) : Fresh c (c'.set (takeN c') 1) (E ++ [(takeN c', d)]) := by
  obtain ⟨h1, h2, h3, h4, h5⟩ := h
  obtain ⟨t1, t2, t3, -⟩ := takeN_ok hf
  obtain ⟨f1, f2, f3⟩ := freeQ_iff.1 (takeC_some t1).1
  have hn : takeN c' ∉ E.map Prod.fst := fun hm => by have := h4 _ hm; omega
  refine ⟨by rw [List.length_set]; exact h1, ?_, fun x hx => ?_, fun n hm => ?_, fun n hm => ?_⟩
  · rw [List.map_append, List.nodup_append]
    refine ⟨h2, by simp, fun a ha b hb e => ?_⟩
    simp at hb
    subst hb e
    exact hn ha
  · rcases List.mem_append.1 hx with hx | hx
    · exact h3 x hx
    · simp at hx
      subst hx
      exact freeQ_iff.2 ⟨f1, by omega, by rw [← h5 _ hn]; exact f3⟩
  · rw [set_getD7 _ _ _ _ t3]
    by_cases e : takeN c' = n
    · rw [if_pos e]
    · rw [if_neg e]
      rw [List.map_append, List.mem_append] at hm
      rcases hm with hm | hm
      · exact h4 n hm
      · simp at hm; exact absurd hm.symm e
  · rw [set_getD7 _ _ _ _ t3]
    have e : ¬ takeN c' = n := fun e => hm (by rw [List.map_append, List.mem_append]; right; simp [e])
    rw [if_neg e]
    exact h5 n (fun hq => hm (by rw [List.map_append, List.mem_append]; exact .inl hq))
/-- Behind j pages. -/
theorem pages_inv (F : LfF) (c : List Int) (ps : List Chg) (hok : okF F) (hg : ∀ p ∈ ps, 0 ≤ p.1 ∧ p.1 < 128) (ha : ps.Pairwise (fun a b => a.1 < b.1)) (hs : ∀ p ∈ ps, (F (p.1 / 32)).isSome = true) (hf : ps.length ≤ freeN c) (j : Nat) (hj : j ≤ ps.length) :
    Fresh c (pagesL F c [] (ps.take j)).2.1 (pagesL F c [] (ps.take j)).2.2 ∧ (pagesL F c [] (ps.take j)).2.2.length = j ∧ okF (pagesL F c [] (ps.take j)).1 ∧
    (∀ m (h : m < j), ∃ (h2 : m < (pagesL F c [] (ps.take j)).2.2.length), (pagesL F c [] (ps.take j)).2.2[m].2 = (ps[m]'(by omega)).2 ∧ ∃ l, (pagesL F c [] (ps.take j)).1 ((ps[m]'(by omega)).1 / 32) = some l ∧ l.getD ((ps[m]'(by omega)).1 % 32).toNat 0 = ((pagesL F c [] (ps.take j)).2.2[m].1 : Int)) ∧
    (∀ (i : Int) l, (pagesL F c [] (ps.take j)).1 i = some l → ∃ l0, F i = some l0 ∧ ∀ k : Nat, k < 32 → (∀ p ∈ ps.take j, p.1 ≠ 32 * i + (k : Int)) → l.getD k 0 = l0.getD k 0) := by
  induction j with
  | zero => exact ⟨Fresh.nil c, rfl, hok, fun m h => by omega, fun i l hl => ⟨l, hl, fun k _ _ => rfl⟩⟩
  | succ j ih =>
    obtain ⟨i1, i2, i3, i4, i5⟩ := ih (by omega)
    have hfr := pagesL_free F c [] ps hf j (by omega)
    have hlt : j < ps.length := by omega
    have htk : ps.take (j + 1) = ps.take j ++ [ps[j]] := List.take_succ_eq_append_getElem hlt
    have hsn : pagesL F c [] (ps.take (j + 1)) = stP (pagesL F c [] (ps.take j)) ps[j] := by rw [htk, pagesL_snoc]
    have hgj := hg _ (List.getElem_mem hlt)
    have hbef : ∀ p ∈ ps.take j, p.1 < ps[j].1 := fun p hp => by
      obtain ⟨i, hi, rfl⟩ := List.getElem_of_mem hp
      rw [List.length_take] at hi
      rw [List.getElem_take]
      exact List.pairwise_iff_getElem.1 ha i j (by omega) hlt (by omega)
    have hsj := hs _ (List.getElem_mem hlt)
    rw [← pagesL_some F c [] (ps.take j)] at hsj
    rw [hsn]
    generalize pagesL F c [] (ps.take j) = s at *
    obtain ⟨F1, c1, ws1⟩ := s
    dsimp only at i1 i2 i3 i4 i5 hfr hsj
    unfold stP
    dsimp only
    have hfs := i1.step (by omega) ps[j].2
    have hok2 : okF (setF F1 (ps[j].1 / 32) (ps[j].1 % 32).toNat (takeN c1)) := fun i l hl => by
      unfold setF at hl
      by_cases e : i = ps[j].1 / 32
      · rw [if_pos e, Option.map_eq_some_iff] at hl
        obtain ⟨l0, e1, rfl⟩ := hl
        rw [List.length_set, e]
        exact i3 _ _ e1
      · rw [if_neg e] at hl; exact i3 i l hl
    refine ⟨hfs, by rw [List.length_append, i2]; rfl, hok2, fun m hm => ?_, fun i l hl => ?_⟩
    · refine ⟨by rw [List.length_append, i2]; simp; omega, ?_⟩
      by_cases e : m = j
      · subst e
        have hget : (ws1 ++ [(takeN c1, (ps[m]'hlt).2)])[m]'(by rw [List.length_append, i2]; simp) = (takeN c1, (ps[m]'hlt).2) := by
          rw [List.getElem_append_right (by omega)]
          simp [i2]
        rw [hget]
        refine ⟨rfl, ?_⟩
        obtain ⟨l0, hl0⟩ := Option.isSome_iff_exists.1 hsj
        have hl32 := (i3 _ _ hl0).2.2
        refine ⟨l0.set (ps[m].1 % 32).toNat (takeN c1), by unfold setF; rw [if_pos rfl, hl0]; rfl, ?_⟩
        rw [set_getD7 _ _ _ _ (by omega), if_pos rfl]
      · obtain ⟨h2, q1, l, q2, q3⟩ := i4 m (by omega)
        have hget : (ws1 ++ [(takeN c1, (ps[j]'hlt).2)])[m]'(by rw [List.length_append, i2]; simp; omega) = ws1[m] := List.getElem_append_left h2
        rw [hget]
        refine ⟨q1, ?_⟩
        have hpm : ps[m].1 < ps[j].1 := List.pairwise_iff_getElem.1 ha m j (by omega) hlt (by omega)
        have hgm := hg _ (List.getElem_mem (h := (by omega : m < ps.length)))
        by_cases e2 : ps[m].1 / 32 = ps[j].1 / 32
        · refine ⟨l.set (ps[j].1 % 32).toNat (takeN c1), by unfold setF; rw [if_pos e2, ← e2, q2]; rfl, ?_⟩
          have hl32 := (i3 _ _ q2).2.2
          rw [set_getD7 _ _ _ _ (by omega), if_neg (by omega)]
          exact q3
        · exact ⟨l, by unfold setF; rw [if_neg e2]; exact q2, q3⟩
    · unfold setF at hl
      by_cases e : i = ps[j].1 / 32
      · rw [if_pos e, Option.map_eq_some_iff] at hl
        obtain ⟨l1, e1, rfl⟩ := hl
        rw [← e] at e1
        obtain ⟨l0, q1, q2⟩ := i5 i l1 e1
        refine ⟨l0, q1, fun k hk hn => ?_⟩
        have hl32 := (i3 _ _ e1).2.2
        have hnj := hn ps[j] (by rw [htk]; exact List.mem_append_right _ (List.mem_singleton_self _))
        rw [set_getD7 _ _ _ _ (by omega), if_neg (by omega)]
        exact q2 k hk (fun p hp => hn p (by rw [htk]; exact List.mem_append_left _ hp))
      · rw [if_neg e] at hl
        obtain ⟨l0, q1, q2⟩ := i5 i l hl
        exact ⟨l0, q1, fun k hk hn => q2 k hk (fun p hp => hn p (by rw [htk]; exact List.mem_append_left _ hp))⟩
/-- Behind q leaves. -/
theorem leaves_inv (F : LfF) (tn c0 c : List Int) (ws : Ws) (htn : tn.length = 32) (h0 : Fresh c0 c ws) (hf : cntU F 4 ≤ freeN c) (q : Nat) (hq : q ≤ 4) :
    Fresh c0 (leavesL F tn c ws q).2.1 (leavesL F tn c ws q).2.2 ∧ (leavesL F tn c ws q).2.2.length = ws.length + cntU F q ∧ (∀ m (h : m < ws.length), ∃ h2, (leavesL F tn c ws q).2.2[m]'h2 = ws[m]) ∧
    ∀ (i : Nat) lf, i < q → F (i : Int) = some lf → ∃ h2, ((leavesL F tn c ws q).2.2[ws.length + cntU F i]'h2).2 = encN lf ∧ (leavesL F tn c ws q).1.getD i 0 = (((leavesL F tn c ws q).2.2[ws.length + cntU F i]'h2).1 : Int) := by
  induction q with
  | zero => exact ⟨h0, rfl, fun m h => ⟨h, rfl⟩, fun i lf h => by omega⟩
  | succ q ih =>
    obtain ⟨i1, i2, i3, i4⟩ := ih (by omega)
    obtain ⟨f1, f2, -⟩ := leavesL_free F tn c ws htn hf q (by omega)
    have hu := cntU_le F (q + 1) (by omega)
    rw [← cntU4] at hu
    rw [cntU_succ] at hu
    rw [leavesL_succ, cntU_succ]
    generalize leavesL F tn c ws q = t at *
    obtain ⟨ta, ct, wt⟩ := t
    dsimp only at i1 i2 i3 i4 f1 f2
    unfold stL
    cases hF : F (q : Int) with
    | none =>
      have h1 : one4 F (q : Int) = 0 := by unfold one4; rw [hF]; rfl
      refine ⟨i1, by dsimp only; omega, i3, fun i lf hi hl => ?_⟩
      by_cases e : i = q
      · subst e; rw [hF] at hl; cases hl
      · exact i4 i lf (by omega) hl
    | some lf0 =>
      have h1 : one4 F (q : Int) = 1 := by unfold one4; rw [hF]; rfl
      dsimp only
      refine ⟨i1.step (by omega) _, by rw [List.length_append, i2, h1]; simp; omega, fun m h => ?_, fun i lf hi hl => ?_⟩
      · obtain ⟨h2, e⟩ := i3 m h
        exact ⟨by rw [List.length_append]; omega, by rw [List.getElem_append_left h2]; exact e⟩
      · by_cases e : i = q
        · subst e
          rw [hF] at hl
          cases hl
          refine ⟨by rw [List.length_append, i2]; simp, ?_⟩
          have hget : (wt ++ [(takeN ct, encN lf0)])[ws.length + cntU F i]'(by rw [List.length_append, i2]; simp) = (takeN ct, encN lf0) := by
            rw [List.getElem_append_right (by omega)]
            simp [i2]
          rw [hget, set_getD7 _ _ _ _ (by omega), if_pos rfl]
          exact ⟨rfl, rfl⟩
        · obtain ⟨h2, q1, q2⟩ := i4 i lf (by omega) hl
          refine ⟨by rw [List.length_append]; omega, ?_⟩
          have hget : (wt ++ [(takeN ct, encN lf0)])[ws.length + cntU F i]'(by rw [List.length_append]; omega) = wt[ws.length + cntU F i] := List.getElem_append_left h2
          rw [hget, set_getD7 _ _ _ _ (by omega), if_neg (fun h => e h.symm)]
          exact ⟨q1, q2⟩
end Go.Proofs.YtpcikbloflpahaaDoor
namespace Go.Proofs.YtpcikbloflpahaaDoor
set_option linter.unusedVariables false
set_option linter.unusedSimpArgs false
open Go.RowKit Go.Shelf Go.Maps

theorem pln_all (B tn : List Int) (cs : List Chg) (hg : ∀ c ∈ cs, 0 ≤ c.1 ∧ c.1 < 128 ∧ c.2.length = 64) (ha : cs.Pairwise (fun a b => a.1 < b.1)) (n : Nat) (hn : n ≤ cs.length) :
    (∀ (i : Int) (k : Nat), k < 32 → (∀ c ∈ cs.take n, c.1 = 32 * i + (k : Int) → (leafG7 (plnF B tn (cs.take n)) B tn i).getD k 0 = if blankB c.2 then 0 else -1) ∧ ((∀ c ∈ cs.take n, c.1 ≠ 32 * i + (k : Int)) → (leafG7 (plnF B tn (cs.take n)) B tn i).getD k 0 = (rdN B (tn.getD i.toNat 0)).getD k 0)) ∧
    ∀ i : Int, (plnF B tn (cs.take n) i).isSome = true ↔ ∃ c ∈ cs.take n, c.1 / 32 = i := by
  induction n with
  | zero =>
    refine ⟨fun i k hk => ⟨fun c hc => by simp at hc, fun _ => rfl⟩, fun i => ?_⟩
    simp [plnF]
  | succ n ih =>
    obtain ⟨ih1, ih2⟩ := ih (by omega)
    have hlt : n < cs.length := by omega
    have hgn := hg _ (List.getElem_mem hlt)
    have hok : okF (plnF B tn (cs.take n)) := plnF_ok _ _ _ (fun c hc => by have := hg c (List.mem_of_mem_take hc); exact ⟨this.1, this.2.1⟩)
    have hll := fun i => leafG7_len hok B tn i
    have e3 := plnF_snoc B tn (cs.take n) cs[n]
    have hbef : ∀ p ∈ cs.take n, p.1 < cs[n].1 := fun p hp => by
      obtain ⟨i, hi, rfl⟩ := List.getElem_of_mem hp
      rw [List.length_take] at hi
      rw [List.getElem_take]
      exact List.pairwise_iff_getElem.1 ha i n (by omega) hlt (by omega)
    have htk : cs.take (n + 1) = cs.take n ++ [cs[n]] := List.take_succ_eq_append_getElem hlt
    rw [← htk] at e3
    rw [e3, htk]
    generalize cs[n] = c0 at *
    obtain ⟨pg, dt⟩ := c0
    dsimp only at hgn hbef
    obtain ⟨h0, h1, -⟩ := hgn
    generalize plnF B tn (cs.take n) = F at *
    have hs : ∀ i, leafG7 (stepL B tn F (pg, dt)) B tn i = if i = pg / 32 then (leafG7 F B tn (pg / 32)).set (pg % 32).toNat (if blankB dt then 0 else -1) else leafG7 F B tn i := fun i => by
      unfold stepL
      dsimp only
      by_cases e : i = pg / 32
      · rw [if_pos e]
        show (if i = pg / 32 then some _ else F i).getD _ = _
        rw [if_pos e]; rfl
      · rw [if_neg e]
        show (if i = pg / 32 then some _ else F i).getD _ = _
        rw [if_neg e]; rfl
    refine ⟨fun i k hk => ?_, fun i => ?_⟩
    · rw [hs]
      obtain ⟨j1, j2⟩ := ih1 i k hk
      by_cases e : i = pg / 32
      · rw [if_pos e, set_getD7 _ _ _ _ (by rw [hll]; omega)]
        by_cases e2 : (pg % 32).toNat = k
        · rw [if_pos e2]
          refine ⟨fun c hc he => ?_, fun hc => absurd (show pg = 32 * i + (k : Int) by omega) (hc (pg, dt) (List.mem_append_right _ (List.mem_singleton_self _)))⟩
          rcases List.mem_append.1 hc with hc | hc
          · have := hbef c hc; omega
          · rw [List.mem_singleton] at hc; subst hc; rfl
        · rw [if_neg e2, ← e]
          refine ⟨fun c hc he => ?_, fun hc => j2 (fun c hc2 => hc c (List.mem_append_left _ hc2))⟩
          rcases List.mem_append.1 hc with hc | hc
          · exact j1 c hc he
          · rw [List.mem_singleton] at hc; subst hc; dsimp only at he; omega
      · rw [if_neg e]
        refine ⟨fun c hc he => ?_, fun hc => j2 (fun c hc2 => hc c (List.mem_append_left _ hc2))⟩
        rcases List.mem_append.1 hc with hc | hc
        · exact j1 c hc he
        · rw [List.mem_singleton] at hc; subst hc; dsimp only at he; omega
    · unfold stepL
      dsimp only
      by_cases e : i = pg / 32
      · rw [if_pos e]
        exact ⟨fun _ => ⟨(pg, dt), List.mem_append_right _ (List.mem_singleton_self _), e.symm⟩, fun _ => rfl⟩
      · rw [if_neg e, ih2]
        constructor
        · rintro ⟨c, hc, h⟩; exact ⟨c, List.mem_append_left _ hc, h⟩
        · rintro ⟨c, hc, h⟩
          rcases List.mem_append.1 hc with hc | hc
          · exact ⟨c, hc, h⟩
          · rw [List.mem_singleton] at hc; subst hc; exact absurd h.symm e
/-- A memory with pages changed. -/
def chgB (m : List Int) (cs : List Chg) : List Int := cs.foldl (fun m c => spl m (64 * c.1.toNat) c.2) m
theorem chgB_snoc (m : List Int) (cs : List Chg) (c : Chg) : chgB m (cs ++ [c]) = spl (chgB m cs) (64 * c.1.toNat) c.2 := by simp [chgB]
theorem chg_sec (m : List Int) (hm : m.length = 8192) (cs : List Chg) (hg : ∀ c ∈ cs, 0 ≤ c.1 ∧ c.1 < 128 ∧ c.2.length = 64) (ha : cs.Pairwise (fun a b => a.1 < b.1)) (n : Nat) (hn : n ≤ cs.length) :
    (chgB m (cs.take n)).length = 8192 ∧ ∀ q : Nat, q < 128 → (∀ c ∈ cs.take n, c.1 = (q : Int) → secB (chgB m (cs.take n)) q = c.2) ∧ ((∀ c ∈ cs.take n, c.1 ≠ (q : Int)) → secB (chgB m (cs.take n)) q = secB m q) := by
  induction n with
  | zero => exact ⟨hm, fun q hq => ⟨fun c hc => by simp at hc, fun _ => rfl⟩⟩
  | succ n ih =>
    obtain ⟨i1, i2⟩ := ih (by omega)
    have hlt : n < cs.length := by omega
    obtain ⟨g1, g2, g3⟩ := hg _ (List.getElem_mem hlt)
    have hbef : ∀ p ∈ cs.take n, p.1 < cs[n].1 := fun p hp => by
      obtain ⟨i, hi, rfl⟩ := List.getElem_of_mem hp
      rw [List.length_take] at hi
      rw [List.getElem_take]
      exact List.pairwise_iff_getElem.1 ha i n (by omega) hlt (by omega)
    rw [List.take_succ_eq_append_getElem hlt, chgB_snoc]
    generalize cs[n] = c0 at *
    refine ⟨by rw [spl_len (by rw [g3, i1]; omega), i1], fun q hq => ?_⟩
    obtain ⟨j1, j2⟩ := i2 q hq
    rw [secB_spl g3 (by rw [i1]; omega)]
    by_cases e : q = c0.1.toNat
    · rw [if_pos e]
      refine ⟨fun c hc he => ?_, fun hc => absurd (show c0.1 = (q : Int) by omega) (hc c0 (List.mem_append_right _ (List.mem_singleton_self _)))⟩
      rcases List.mem_append.1 hc with hc | hc
      · have := hbef c hc; omega
      · rw [List.mem_singleton] at hc; subst hc; rfl
    · rw [if_neg e]
      refine ⟨fun c hc he => ?_, fun hc => j2 (fun c hc2 => hc c (List.mem_append_left _ hc2))⟩
      rcases List.mem_append.1 hc with hc | hc
      · exact j1 c hc he
      · rw [List.mem_singleton] at hc; subst hc; omega
theorem blank_zs {d : List Int} (hd : d.length = 64) (h : blankB d = true) : d = zs 64 := by
  unfold blankB at h
  rw [List.all_eq_true] at h
  apply List.ext_getElem (by rw [hd]; rfl)
  intro i h1 h2
  have := h _ (List.getElem_mem h1)
  simp only [zs, List.getElem_replicate]
  simpa using this
theorem lastW_notin {E : Ws} {n : Nat} (h : n ∉ E.map Prod.fst) : lastW E (n : Int) = none := by
  suffices ∀ m ≤ E.length, lastW (E.take m) (n : Int) = none by
    have := this E.length (Nat.le_refl _)
    rwa [List.take_length] at this
  intro m
  induction m with
  | zero => intro _; rfl
  | succ m ih =>
    intro hm
    rw [List.take_succ_eq_append_getElem (by omega), lastW_snoc, ih (by omega), if_neg]
    intro e
    exact h (List.mem_map.2 ⟨E[m], List.getElem_mem _, by omega⟩)
theorem lastW_at {E : Ws} (hn : (E.map Prod.fst).Nodup) (m : Nat) (hm : m < E.length) : lastW E (E[m].1 : Int) = some E[m].2 := by
  suffices ∀ j ≤ E.length, m < j → lastW (E.take j) (E[m].1 : Int) = some E[m].2 by
    have := this E.length (Nat.le_refl _) hm
    rwa [List.take_length] at this
  intro j
  induction j with
  | zero => intro _ h; omega
  | succ j ih =>
    intro hj hmj
    rw [List.take_succ_eq_append_getElem (by omega), lastW_snoc]
    by_cases e : m = j
    · subst e; rw [if_pos rfl]
    · rw [if_neg, ih (by omega) (by omega)]
      intro he
      have h1 := List.pairwise_iff_getElem.1 hn m j (by simpa using hm) (by simp; omega) (by omega)
      simp only [List.getElem_map] at h1
      omega
end Go.Proofs.YtpcikbloflpahaaDoor
namespace Go.Proofs.YtpcikbloflpahaaDoor
set_option linter.unusedVariables false
set_option linter.unusedSimpArgs false
open Go.RowKit Go.Shelf Go.Maps

theorem cntU_lt {F : LfF} {i j : Nat} (h : (F (i : Int)).isSome = true) (hij : i < j) (hj : j ≤ 4) : cntU F i < cntU F j := by
  have h1 : cntU F (i + 1) = cntU F i + 1 := by rw [cntU_succ]; unfold one4; rw [if_pos h]
  have mono : ∀ a b, a ≤ b → b ≤ 4 → cntU F a ≤ cntU F b := fun a b hab hb => by
    induction b with
    | zero => have : a = 0 := by omega
              subst this; exact Nat.le_refl _
    | succ b ih =>
      by_cases e : a = b + 1
      · subst e; exact Nat.le_refl _
      · have := ih (by omega) (by omega)
        rw [cntU_succ]
        omega
  have := mono (i + 1) j (by omega) hj
  omega
/-- Which place a write is for. -/
def PosOf (F1 : LfF) (ps : List Chg) (a m : Nat) : Prop :=
  (a = 0 ∧ m = ps.length + cnt4 F1) ∨ (∃ i, i < 4 ∧ a = 1 + i ∧ (F1 (i : Int)).isSome = true ∧ m = ps.length + cntU F1 i) ∨ ∃ (h : m < ps.length), (a : Int) = 5 + ps[m].1
theorem posOf_inj {F1 : LfF} {ps : List Chg} (hps : ∀ p ∈ ps, 0 ≤ p.1 ∧ p.1 < 128) {a b m : Nat} (h : PosOf F1 ps a m) (k : PosOf F1 ps b m) : a = b := by
  have hlt : ∀ i : Nat, i < 4 → (F1 (i : Int)).isSome = true → cntU F1 i < cnt4 F1 := fun i hi hs => by
    rw [← cntU4]; exact cntU_lt hs hi (Nat.le_refl _)
  rcases h with ⟨rfl, h⟩ | ⟨i, hi, rfl, hs, h⟩ | ⟨h, h2⟩
  · rcases k with ⟨rfl, k⟩ | ⟨j, hj, rfl, ks, k⟩ | ⟨k, k2⟩
    · rfl
    · have := hlt j hj ks; omega
    · omega
  · rcases k with ⟨rfl, k⟩ | ⟨j, hj, rfl, ks, k⟩ | ⟨k, k2⟩
    · have := hlt i hi hs; omega
    · rcases Nat.lt_trichotomy i j with q | q | q
      · have := cntU_lt hs q (by omega); omega
      · subst q; rfl
      · have := cntU_lt ks q (by omega); omega
    · omega
  · rcases k with ⟨rfl, k⟩ | ⟨j, hj, rfl, ks, k⟩ | ⟨k, k2⟩
    · omega
    · omega
    · omega
theorem new_core {B : List Int} {N : Nat} {top : Int} (hBl : B.length = 64 * N) (hB : ∀ x ∈ B, 0 ≤ x ∧ x < 256) (hold : TreeOk B N top) {cs ps : List Chg} (hg : ∀ x ∈ cs, 0 ≤ x.1 ∧ x.1 < 128 ∧ x.2.length = 64) (ha : cs.Pairwise (fun a b => a.1 < b.1)) (hpc : ∀ p ∈ ps, p ∈ cs)
    {c c' : List Int} (hcl : c.length = N) (hheld : ∀ a, a < 133 → valT B top a ≠ 0 → c.getD (valT B top a).toNat 0 ≠ 0)
    {E : Ws} (hfr : Fresh c c' E) (hok : okW N E) {now : Int} {T' : List Int} {F1 : LfF} (hTl : T'.length = 32) (hTr : ∀ x ∈ T', 0 ≤ x ∧ x ≤ 65535) (hF : okF F1) (hFr : ∀ (i : Int) l, F1 i = some l → ∀ x ∈ l, 0 ≤ x ∧ x ≤ 65535)
    (h1 : ∀ m (h : m < ps.length), ∃ h2, (E[m]'h2).2 = ps[m].2)
    (h2 : ∀ (i : Nat) lf, i < 4 → F1 (i : Int) = some lf → ∃ h2, (E[ps.length + cntU F1 i]'h2).2 = encN lf ∧ T'.getD i 0 = ((E[ps.length + cntU F1 i]'h2).1 : Int))
    (h3 : (now = 0 ∧ T' = nd0) ∨ ∃ h2, now = ((E[ps.length + cnt4 F1]'h2).1 : Int) ∧ (E[ps.length + cnt4 F1]'h2).2 = encN T')
    (hnone : ∀ i : Nat, i < 32 → F1 (i : Int) = none → (T'.getD i 0 = (rdN B top).getD i 0 ∧ ∀ x ∈ cs, x.1 / 32 ≠ (i : Int)) ∨ (T'.getD i 0 = 0 ∧ ∀ k : Nat, k < 32 → (∀ x ∈ cs, x.1 = 32 * (i : Int) + (k : Int) → blankB x.2 = true) ∧ ((∀ x ∈ cs, x.1 ≠ 32 * (i : Int) + (k : Int)) → (rdN B ((rdN B top).getD i 0)).getD k 0 = 0)))
    (hsome : ∀ (i : Nat) l, i < 4 → F1 (i : Int) = some l → ∀ k : Nat, k < 32 → (∃ m, ∃ (h : m < ps.length) (h2 : m < E.length), ps[m].1 = 32 * (i : Int) + (k : Int) ∧ l.getD k 0 = (E[m].1 : Int)) ∨ (l.getD k 0 = 0 ∧ ∃ x ∈ cs, x.1 = 32 * (i : Int) + (k : Int) ∧ blankB x.2 = true) ∨ (l.getD k 0 = (rdN B ((rdN B top).getD i 0)).getD k 0 ∧ ∀ x ∈ cs, x.1 ≠ 32 * (i : Int) + (k : Int))) :
    TreeOk (applyW B E) N now ∧ memB (applyW B E) now = chgB (memB B top) cs := by
  obtain ⟨f1, f2, f3, f4, f5⟩ := hfr
  obtain ⟨a1, a2, a3⟩ := applyW_all hBl hB E hok
  have hEn : ∀ m (h : m < E.length), secB (applyW B E) E[m].1 = E[m].2 := fun m h => by rw [a3, lastW_at f2 m h]; rfl
  have hEp : ∀ m (h : m < E.length), 2 ≤ E[m].1 ∧ E[m].1 < N ∧ c.getD E[m].1 0 = 0 := fun m h => by
    obtain ⟨q1, q2, q3⟩ := freeQ_iff.1 (f3 _ (List.getElem_mem h))
    exact ⟨q1, by omega, q3⟩
  -- a held sector stays
  have hkeep : ∀ a, a < 133 → valT B top a ≠ 0 → secB (applyW B E) (valT B top a).toNat = secB B (valT B top a).toNat := fun a h hv => by
    rw [a3, lastW_notin]
    · rfl
    · intro hm
      rw [List.mem_map] at hm
      obtain ⟨x, hx, e⟩ := hm
      have := (freeQ_iff.1 (f3 x hx)).2.2
      rw [e] at this
      exact hheld a h hv this
  -- the new top
  have hnow : now ≠ 0 → rdN (applyW B E) now = T' := fun hz => by
    rcases h3 with ⟨h, -⟩ | ⟨hh, e1, e2⟩
    · exact absurd h hz
    · unfold rdN
      rw [if_neg hz]
      unfold ndB
      rw [e1, Int.toNat_natCast, hEn _ hh, e2]
      exact decN_encN T' hTl hTr
  -- a leaf
  have hleaf : ∀ i : Nat, i < 4 → ∀ lf, F1 (i : Int) = some lf → rdN (applyW B E) (T'.getD i 0) = lf := fun i hi lf hl => by
    obtain ⟨hh, e1, e2⟩ := h2 i lf hi hl
    have hp := hEp _ hh
    unfold rdN
    rw [e2, if_neg (by omega)]
    unfold ndB
    rw [Int.toNat_natCast, hEn _ hh, e1]
    exact decN_encN lf (hF _ _ hl).2.2 (hFr _ _ hl)
  have hold' : ∀ i : Nat, i < 4 → rdN (applyW B E) ((rdN B top).getD i 0) = rdN B ((rdN B top).getD i 0) := fun i hi => rdN_agree (fun hz => by
    have := hkeep (1 + i) (by omega)
    rw [valT_leaf B top i hi] at this
    exact this hz)
  have hT4 : ∀ i : Nat, 4 ≤ i → i < 32 → T'.getD i 0 = 0 := fun i h4 h32 => by
    have hn : F1 (i : Int) = none := by
      cases hq : F1 (i : Int) with
      | none => rfl
      | some l => have := (hF _ _ hq).2.1; omega
    rcases hnone i h32 hn with ⟨h, -⟩ | ⟨h, -⟩
    · rw [h]; exact hold.1 i h4 h32
    · exact h
  -- each page: where its sector comes from
  have hpage : ∀ i k : Nat, i < 4 → k < 32 → ((rdN (applyW B E) (T'.getD i 0)).getD k 0 = 0 ∨ (∃ m, ∃ (h : m < ps.length) (h2 : m < E.length), ps[m].1 = 32 * (i : Int) + (k : Int) ∧ (rdN (applyW B E) (T'.getD i 0)).getD k 0 = (E[m].1 : Int)) ∨ ((rdN (applyW B E) (T'.getD i 0)).getD k 0 = valT B top (5 + (32 * i + k)))) ∧
      pageB (applyW B E) ((rdN (applyW B E) (T'.getD i 0)).getD k 0) = secB (chgB (memB B top) cs) (32 * i + k) := fun i k hi hk => by
    have hml : (memB B top).length = 8192 := (memJ_sec hBl (fitP_of hold) 128).1
    have hms : secB (memB B top) (32 * i + k) = pageB B (valT B top (5 + (32 * i + k))) := by
      have := (memJ_sec hBl (fitP_of hold) 128).2 (32 * i + k) (by omega)
      rw [if_pos (by omega), pgB_get B top _ (by omega)] at this
      exact this
    obtain ⟨-, hcs⟩ := chg_sec (memB B top) hml cs hg ha cs.length (Nat.le_refl _)
    rw [List.take_length] at hcs
    obtain ⟨hc1, hc2⟩ := hcs (32 * i + k) (by omega)
    have hcast : ((32 * i + k : Nat) : Int) = 32 * (i : Int) + (k : Int) := by omega
    rw [hcast] at hc1 hc2
    have hov := valT_page B top i k hk
    have hpo : pageB (applyW B E) (valT B top (5 + (32 * i + k))) = pageB B (valT B top (5 + (32 * i + k))) := by
      unfold pageB
      by_cases hp : 0 < valT B top (5 + (32 * i + k))
      · rw [if_pos hp, if_pos hp]; exact hkeep _ (by omega) (by omega)
      · rw [if_neg hp, if_neg hp]
    cases hq : F1 (i : Int) with
    | some l =>
      rw [hleaf i hi l hq]
      rcases hsome i l hi hq k hk with ⟨m, hm, hm2, e1, e2⟩ | ⟨e1, x, hx, e2, e3⟩ | ⟨e1, e2⟩
      · refine ⟨.inr (.inl ⟨m, hm, hm2, e1, e2⟩), ?_⟩
        rw [e2, hc1 _ (hpc _ (List.getElem_mem hm)) e1]
        unfold pageB
        have := hEp m hm2
        rw [if_pos (by omega), Int.toNat_natCast, hEn m hm2]
        obtain ⟨hh, q⟩ := h1 m hm
        exact q
      · refine ⟨.inl e1, ?_⟩
        rw [e1, hc1 x hx e2, blank_zs (hg x hx).2.2 e3]
        rfl
      · refine ⟨.inr (.inr (by rw [e1, hov])), ?_⟩
        rw [e1, ← hov, hpo, hc2 e2, hms]
    | none =>
      rcases hnone i (by omega) hq with ⟨e1, e2⟩ | ⟨e1, e2⟩
      · rw [e1, hold' i hi]
        refine ⟨.inr (.inr hov.symm), ?_⟩
        rw [← hov, hpo, hc2 (fun x hx e => e2 x hx (by omega)), hms]
      · rw [e1, rd_zero]
        refine ⟨.inl rfl, ?_⟩
        obtain ⟨j1, j2⟩ := e2 k hk
        by_cases hex : ∃ x ∈ cs, x.1 = 32 * (i : Int) + (k : Int)
        · obtain ⟨x, hx, e⟩ := hex
          rw [hc1 x hx e, blank_zs (hg x hx).2.2 (j1 x hx e)]
          rfl
        · have hno : ∀ x ∈ cs, x.1 ≠ 32 * (i : Int) + (k : Int) := fun x hx e => hex ⟨x, hx, e⟩
          rw [hc2 hno, hms, hov, j2 hno]
          rfl
  have hTz : now = 0 → T' = nd0 := fun hz => by
    rcases h3 with ⟨-, h⟩ | ⟨hh, e1, -⟩
    · exact h
    · have := hEp _ hh; omega
  -- the places of the new tree
  have hv0 : valT (applyW B E) now 0 = now := rfl
  have hvl : ∀ i : Nat, i < 4 → valT (applyW B E) now (1 + i) = T'.getD i 0 := fun i hi => by
    rw [valT_leaf _ _ i hi]
    by_cases hz : now = 0
    · rw [hz, rd_zero, hTz hz, nd0_get]
    · rw [hnow hz]
  have hvp : ∀ i k : Nat, i < 4 → k < 32 → valT (applyW B E) now (5 + (32 * i + k)) = (rdN (applyW B E) (T'.getD i 0)).getD k 0 := fun i k hi hk => by
    rw [valT_page _ _ i k hk]
    by_cases hz : now = 0
    · rw [hz, rd_zero, hTz hz, nd0_get]
    · rw [hnow hz]
  -- where each comes from
  have hcl3 : ∀ a, a < 133 → valT (applyW B E) now a = 0 ∨ (∃ m, ∃ (h : m < E.length), valT (applyW B E) now a = (E[m].1 : Int) ∧ PosOf F1 ps a m) ∨ (valT (applyW B E) now a = valT B top a ∧ valT B top a ≠ 0) := fun a ha => by
    by_cases e0 : a = 0
    · subst e0
      rw [hv0]
      rcases h3 with ⟨h, -⟩ | ⟨hh, e1, -⟩
      · exact .inl h
      · exact .inr (.inl ⟨_, hh, e1, .inl ⟨rfl, rfl⟩⟩)
    · by_cases e5 : a < 5
      · obtain ⟨i, rfl⟩ : ∃ i, a = 1 + i := ⟨a - 1, by omega⟩
        rw [hvl i (by omega)]
        cases hq : F1 (i : Int) with
        | some lf =>
          obtain ⟨hh, -, e2⟩ := h2 i lf (by omega) hq
          exact .inr (.inl ⟨_, hh, e2, .inr (.inl ⟨i, by omega, rfl, by rw [hq]; rfl, rfl⟩)⟩)
        | none =>
          rcases hnone i (by omega) hq with ⟨e1, -⟩ | ⟨e1, -⟩
          · rw [e1, ← valT_leaf B top i (by omega)]
            by_cases hz : valT B top (1 + i) = 0
            · exact .inl hz
            · exact .inr (.inr ⟨rfl, hz⟩)
          · exact .inl e1
      · obtain ⟨p, rfl⟩ : ∃ p, a = 5 + p := ⟨a - 5, by omega⟩
        obtain ⟨i, k, hk, rfl⟩ : ∃ i k, k < 32 ∧ p = 32 * i + k := ⟨p / 32, p % 32, by omega, by omega⟩
        rw [hvp i k (by omega) hk]
        rcases (hpage i k (by omega) hk).1 with h | ⟨m, hm, hm2, e1, e2⟩ | h
        · exact .inl h
        · exact .inr (.inl ⟨m, hm2, e2, .inr (.inr ⟨hm, by rw [e1]; omega⟩)⟩)
        · rw [h]
          by_cases hz : valT B top (5 + (32 * i + k)) = 0
          · exact .inl hz
          · exact .inr (.inr ⟨rfl, hz⟩)
  refine ⟨⟨fun i h4 h32 => ?_, fun a ha hv => ?_, fun a b ha' hb hab hv he => ?_⟩, ?_⟩
  · by_cases hz : now = 0
    · rw [hz, rd_zero]
    · rw [hnow hz]; exact hT4 i h4 h32
  · rcases hcl3 a ha with h | ⟨m, hm, e, -⟩ | ⟨e, hz⟩
    · exact absurd h hv
    · have := hEp m hm; omega
    · rw [e]; exact hold.2.1 a ha hz
  · rcases hcl3 a ha' with h | ⟨m, hm, e, hp⟩ | ⟨e, hz⟩
    · exact hv h
    · rcases hcl3 b hb with h' | ⟨m', hm', e', hp'⟩ | ⟨e', hz'⟩
      · exact hv (he.trans h')
      · have hmm : m = m' := by
          apply Decidable.byContradiction
          intro hne
          have hnd := List.pairwise_iff_getElem.1 f2
          rcases Nat.lt_or_gt_of_ne hne with q | q
          · have := hnd m m' (by simpa using hm) (by simpa using hm') q
            simp only [List.getElem_map] at this
            omega
          · have := hnd m' m (by simpa using hm') (by simpa using hm) q
            simp only [List.getElem_map] at this
            omega
        subst hmm
        exact hab (posOf_inj (fun p hp => ⟨(hg p (hpc p hp)).1, (hg p (hpc p hp)).2.1⟩) hp hp')
      · have h0 := hheld b hb hz'
        have h1' := (hEp m hm).2.2
        rw [← e', ← he, e, Int.toNat_natCast] at h0
        exact h0 h1'
    · rcases hcl3 b hb with h' | ⟨m', hm', e', hp'⟩ | ⟨e', hz'⟩
      · exact hv (he.trans h')
      · have h0 := hheld a ha' hz
        have h1' := (hEp m' hm').2.2
        rw [← e, he, e', Int.toNat_natCast] at h0
        exact h0 h1'
      · exact hold.2.2 a b ha' hb hab hz (by rw [← e, ← e']; exact he)
  · have hml : (memB B top).length = 8192 := (memJ_sec hBl (fitP_of hold) 128).1
    obtain ⟨hcl', -⟩ := chg_sec (memB B top) hml cs hg ha cs.length (Nat.le_refl _)
    rw [List.take_length] at hcl'
    have hfit : fitP (applyW B E) N (pgB (applyW B E) now 128) := fun p hp => by
      rw [pgB_get _ _ p hp]
      rcases hcl3 (5 + p) (by omega) with h | ⟨m, hm, e, -⟩ | ⟨e, hz⟩
      · left; omega
      · have := hEp m hm; right; omega
      · right; rw [e]; exact (hold.2.1 (5 + p) (by omega) hz).2
    obtain ⟨k1, k2⟩ := memJ_sec a1 hfit 128
    refine ext_sec (n := 128) k1 hcl' (fun p hp => ?_)
    have := k2 p hp
    rw [if_pos hp, pgB_get _ _ p hp] at this
    show secB (memJ (applyW B E) (pgB (applyW B E) now 128) 128) p = _
    rw [this]
    obtain ⟨i, k, hk, rfl⟩ : ∃ i k, k < 32 ∧ p = 32 * i + k := ⟨p / 32, p % 32, by omega, by omega⟩
    rw [hvp i k (by omega) hk]
    exact (hpage i k (by omega) hk).2
end Go.Proofs.YtpcikbloflpahaaDoor
namespace Go.Proofs.YtpcikbloflpahaaDoor
set_option linter.unusedVariables false
set_option linter.unusedSimpArgs false
open Go.RowKit Go.Shelf Go.Maps

theorem leaves_mem (F : LfF) (tn c : List Int) (ws : Ws) (q : Nat) : ∀ x ∈ (leavesL F tn c ws q).2.2, x ∈ ws ∨ ∃ (i : Nat) (lf : List Int), F (i : Int) = some lf ∧ x.2 = encN lf := by
  induction q with
  | zero => exact fun x hx => .inl hx
  | succ q ih =>
    intro x hx
    rw [leavesL_succ] at hx
    unfold stL at hx
    cases hF : F (q : Int) with
    | none => rw [hF] at hx; exact ih x hx
    | some lf =>
      rw [hF] at hx
      dsimp only at hx
      rcases List.mem_append.1 hx with h | h
      · exact ih x h
      · rw [List.mem_singleton] at h
        subst h
        exact .inr ⟨q, lf, hF, rfl⟩
theorem bld_tree {B : List Int} {N : Nat} {top : Int} (hBl : B.length = 64 * N) (hB : ∀ x ∈ B, 0 ≤ x ∧ x < 256) (hN : N ≤ 2000) (hold : TreeOk B N top) (Lc : List ChA) (hgl : ∀ y ∈ Lc, goodC y) (hbr : ∀ x ∈ outG (pagesG Lc 128), ∀ b ∈ x.2, 0 ≤ b ∧ b < 256)
    {c : List Int} (hcl : c.length = N) (hheld : ∀ a, a < 133 → valT B top a ≠ 0 → c.getD (valT B top a).toNat 0 ≠ 0) (hroom : bldN B top Lc ≤ freeN c) :
    Fresh c (bldR B top Lc c []).2.1 (bldR B top Lc c []).2.2 ∧ okW N (bldR B top Lc c []).2.2 ∧ TreeOk (applyW B (bldR B top Lc c []).2.2) N (bldR B top Lc c []).1 ∧ memB (applyW B (bldR B top Lc c []).2.2) (bldR B top Lc c []).1 = chgB (memB B top) (outG (pagesG Lc 128)) := by
  have hg := outG_good hgl
  have ha := outG_asc Lc
  have hplan := plan_ok hB top _ hg hbr ha
  have hiff0 := fun hf => layT_nd0 (bldF B top Lc) (bldT B top Lc) c [] (fullC (outG (pagesG Lc 128))) (bldT_len _ _ _) hf
  have hbn := bldN_eq B top Lc
  have hkept := fun k hk h => bld_kept (B := B) (top := top) (Lc := Lc) k hk h
  rw [bldF_eq, bldT_eq] at hplan
  rw [bldR_eq]
  obtain ⟨hP, hT⟩ := hplan
  have hcsps : ∀ p ∈ fullC (outG (pagesG Lc 128)), p ∈ outG (pagesG Lc 128) := fun p hp => (List.mem_filter.1 hp).1
  have hpa : (fullC (outG (pagesG Lc 128))).Pairwise (fun a b => a.1 < b.1) := ha.filter _
  have hall := pln_all B (rdN B top) (outG (pagesG Lc 128)) hg ha (outG (pagesG Lc 128)).length (Nat.le_refl _)
  rw [List.take_length] at hall
  obtain ⟨hent, hsm⟩ := hall
  have hfull : ∀ x ∈ outG (pagesG Lc 128), blankB x.2 = false → x ∈ fullC (outG (pagesG Lc 128)) := fun x hx h => List.mem_filter.2 ⟨hx, by simp [h]⟩
  have hkeepF : ∀ i l, bldF B top Lc i = some l → plnF B (rdN B top) (outG (pagesG Lc 128)) i = some l := fun i l h => by
    unfold bldF keepF at h
    cases hq : plnF B (rdN B top) (outG (pagesG Lc 128)) i with
    | none => rw [hq] at h; cases h
    | some l0 =>
      rw [hq] at h
      simp only [Option.bind_some] at h
      split at h
      · cases h
      · exact h
  have hTg : ∀ k : Nat, k < 32 → (bldT B top Lc).getD k 0 = match plnF B (rdN B top) (outG (pagesG Lc 128)) (k : Int) with | none => (rdN B top).getD k 0 | some l => if l = nd0 then 0 else -1 := fun k hk => by
    unfold bldT
    rw [List.getD_eq_getElem?_getD, List.getElem?_eq_getElem (by rw [topF_len]; omega)]
    simp only [topF, List.getElem_map, List.getElem_range, Option.getD_some]
    cases plnF B (rdN B top) (outG (pagesG Lc 128)) (k : Int) <;> rfl
  have hdrop : ∀ i : Nat, bldF B top Lc (i : Int) = none → plnF B (rdN B top) (outG (pagesG Lc 128)) (i : Int) = none ∨ plnF B (rdN B top) (outG (pagesG Lc 128)) (i : Int) = some nd0 := fun i h => by
    unfold bldF keepF at h
    cases hq : plnF B (rdN B top) (outG (pagesG Lc 128)) (i : Int) with
    | none => exact .inl rfl
    | some l0 =>
      rw [hq] at h
      simp only [Option.bind_some] at h
      split at h
      · rename_i e; rw [e]; exact .inr rfl
      · cases h
  generalize hcs : outG (pagesG Lc 128) = cs at *
  generalize hps : fullC cs = ps at *
  generalize bldF B top Lc = F at *
  generalize bldT B top Lc = T at *
  obtain ⟨hokF, hPr, hPs⟩ := hP
  have hiff := hiff0 (by omega) (fun i l hl => by have := hokF i l hl; omega) hkept
  obtain ⟨p1, p2, p3, p4, p5⟩ := pages_inv F c ps hokF (fun p hp => ⟨(hPs p hp).1.1, (hPs p hp).1.2.1⟩) hpa (fun p hp => (hPs p hp).2) (by omega) ps.length (Nat.le_refl _)
  have pfr := pagesL_free F c [] ps (by omega) ps.length (Nat.le_refl _)
  have psm := pagesL_some F c [] ps
  have hE : layR F T c [] ps = layE (leavesL (pagesL F c [] ps).1 T (pagesL F c [] ps).2.1 (pagesL F c [] ps).2.2 4) := rfl
  have hLT : layT F T c [] ps = (leavesL (pagesL F c [] ps).1 T (pagesL F c [] ps).2.1 (pagesL F c [] ps).2.2 4).1 := rfl
  rw [List.take_length] at p1 p2 p3 p4 p5 pfr
  generalize pagesL F c [] ps = s at *
  obtain ⟨F1, c1, ws1⟩ := s
  dsimp only at p1 p2 p3 p4 p5 pfr psm hE hLT
  have hcnt : cnt4 F1 = cnt4 F := by unfold cnt4 one4; simp only [psm]
  have hu4 := cntU4 F1
  have hTlen : T.length = 32 := hT.1
  obtain ⟨l1, l2, l3, l4⟩ := leaves_inv F1 T c c1 ws1 hTlen p1 (by omega) 4 (Nat.le_refl _)
  have lm := leaves_mem F1 T c1 ws1 4
  obtain ⟨r1, r2, r3⟩ := leavesL_free F1 T c1 ws1 hTlen (by omega) 4 (Nat.le_refl _)
  generalize leavesL F1 T c1 ws1 4 = t at *
  obtain ⟨T', c2, ws2⟩ := t
  dsimp only at l1 l2 l3 l4 lm r1 r2 r3 hE hLT
  rw [hLT] at hiff
  -- the result, its writes
  have hR : ∃ E now cc, layR F T c [] ps = (now, cc, E) ∧ Fresh c cc E ∧ (∀ m (h : m < ws2.length), ∃ h2, E[m]'h2 = ws2[m]) ∧ (∀ x ∈ E, x ∈ ws2 ∨ x.2 = encN T') ∧ ((now = 0 ∧ T' = nd0) ∨ ∃ h2, now = ((E[ps.length + cnt4 F1]'h2).1 : Int) ∧ (E[ps.length + cnt4 F1]'h2).2 = encN T') := by
    rw [hE]
    unfold layE
    by_cases hz : T' = nd0
    · refine ⟨ws2, 0, c2, by dsimp only; rw [if_pos hz], l1, fun m h => ⟨h, rfl⟩, fun x hx => .inl hx, .inl ⟨rfl, hz⟩⟩
    · have hTz : ¬ T = nd0 := fun e => hz (hiff.2 e)
      rw [if_neg hTz] at hbn
      have hf2 : 0 < freeN c2 := by omega
      refine ⟨ws2 ++ [(takeN c2, encN T')], (takeN c2 : Int), c2.set (takeN c2) 1, by dsimp only; rw [if_neg hz], l1.step hf2 _, fun m h => ⟨by rw [List.length_append]; omega, List.getElem_append_left h⟩, fun x hx => ?_, .inr ?_⟩
      · rcases List.mem_append.1 hx with h | h
        · exact .inl h
        · rw [List.mem_singleton] at h; subst h; exact .inr rfl
      · have hlen : ws2.length = ps.length + cnt4 F1 := by rw [l2, p2, hu4]
        have hget : (ws2 ++ [(takeN c2, encN T')])[ps.length + cnt4 F1]'(by rw [List.length_append, hlen]; simp) = (takeN c2, encN T') := by
          rw [List.getElem_append_right (by omega)]
          simp [hlen]
        refine ⟨by rw [List.length_append, hlen]; simp, ?_⟩
        rw [hget]
        exact ⟨rfl, rfl⟩
  obtain ⟨E, now, cc, hRe, hfr, hEw, hEm, h3⟩ := hR
  rw [hRe]
  dsimp only
  have hElen : ws2.length ≤ E.length := by
    by_cases h0 : ws2.length = 0
    · omega
    · obtain ⟨h2, -⟩ := hEw (ws2.length - 1) (by omega)
      omega
  -- entries of the leaves that are written
  have hF1F : ∀ (i : Nat) l, F1 (i : Int) = some l → ∃ l0, F (i : Int) = some l0 ∧ plnF B (rdN B top) cs (i : Int) = some l0 ∧ ∀ k : Nat, k < 32 → (∀ p ∈ ps, p.1 ≠ 32 * (i : Int) + (k : Int)) → l.getD k 0 = l0.getD k 0 := fun i l hl => by
    obtain ⟨l0, q1, q2⟩ := p5 _ l hl
    exact ⟨l0, q1, hkeepF _ _ q1, q2⟩
  have hEws : ∀ m (h : m < ps.length), ∃ h2 : m < E.length, E[m] = ws1[m]'(by omega) := fun m h => by
    obtain ⟨a1, a2⟩ := l3 m (by omega)
    obtain ⟨b1, b2⟩ := hEw m a1
    exact ⟨b1, by rw [b2, a2]⟩
  have hsomeE : ∀ (i : Nat) l, i < 4 → F1 (i : Int) = some l → ∀ k : Nat, k < 32 → (∃ m, ∃ (h : m < ps.length) (h2 : m < E.length), ps[m].1 = 32 * (i : Int) + (k : Int) ∧ l.getD k 0 = (E[m].1 : Int)) ∨ (l.getD k 0 = 0 ∧ ∃ x ∈ cs, x.1 = 32 * (i : Int) + (k : Int) ∧ blankB x.2 = true) ∨ (l.getD k 0 = (rdN B ((rdN B top).getD i 0)).getD k 0 ∧ ∀ x ∈ cs, x.1 ≠ 32 * (i : Int) + (k : Int)) := fun i l hi hl k hk => by
    by_cases hex : ∃ p ∈ ps, p.1 = 32 * (i : Int) + (k : Int)
    · obtain ⟨p, hp, he⟩ := hex
      obtain ⟨m, hm, rfl⟩ := List.getElem_of_mem hp
      obtain ⟨g2, -, l', q2, q3⟩ := p4 m hm
      obtain ⟨b1, b2⟩ := hEws m hm
      left
      refine ⟨m, hm, b1, he, ?_⟩
      have e1 : ps[m].1 / 32 = (i : Int) := by omega
      have e2 : (ps[m].1 % 32).toNat = k := by omega
      rw [e1, hl] at q2
      cases q2
      rw [e2] at q3
      rw [q3, b2]
    · have hno : ∀ p ∈ ps, p.1 ≠ 32 * (i : Int) + (k : Int) := fun p hp e => hex ⟨p, hp, e⟩
      obtain ⟨l0, -, q1, q2⟩ := hF1F i l hl
      rw [q2 k hk hno]
      obtain ⟨j1, j2⟩ := hent (i : Int) k hk
      have hlf : leafG7 (plnF B (rdN B top) cs) B (rdN B top) (i : Int) = l0 := by unfold leafG7; rw [q1]; rfl
      rw [hlf] at j1 j2
      right
      by_cases hc : ∃ x ∈ cs, x.1 = 32 * (i : Int) + (k : Int)
      · obtain ⟨x, hx, e⟩ := hc
        left
        cases hb : blankB x.2 with
        | true => exact ⟨by rw [j1 x hx e, hb]; rfl, x, hx, e, hb⟩
        | false => exact absurd e (hno x (hfull x hx hb))
      · right
        have hnc : ∀ x ∈ cs, x.1 ≠ 32 * (i : Int) + (k : Int) := fun x hx e => hc ⟨x, hx, e⟩
        exact ⟨by rw [j2 hnc, Int.toNat_natCast], hnc⟩
  have hnoneE : ∀ i : Nat, i < 32 → F1 (i : Int) = none → (T'.getD i 0 = (rdN B top).getD i 0 ∧ ∀ x ∈ cs, x.1 / 32 ≠ (i : Int)) ∨ (T'.getD i 0 = 0 ∧ ∀ k : Nat, k < 32 → (∀ x ∈ cs, x.1 = 32 * (i : Int) + (k : Int) → blankB x.2 = true) ∧ ((∀ x ∈ cs, x.1 ≠ 32 * (i : Int) + (k : Int)) → (rdN B ((rdN B top).getD i 0)).getD k 0 = 0)) := fun i hi hn => by
    have hFn : F (i : Int) = none := by
      have := psm (i : Int)
      rw [hn] at this
      cases hq : F (i : Int) with
      | none => rfl
      | some l => rw [hq] at this; cases this
    have hTi := (r3 i hi).2 (fun h => by rw [hn] at h; exact absurd h.2 (by simp))
    rw [hTi, hTg i hi]
    rcases hdrop i hFn with h | h
    · left
      rw [h]
      refine ⟨rfl, fun x hx e => ?_⟩
      have := (hsm (i : Int)).2 ⟨x, hx, e⟩
      rw [h] at this
      cases this
    · right
      rw [h]
      refine ⟨by dsimp only; rw [if_pos rfl], fun k hk => ?_⟩
      obtain ⟨j1, j2⟩ := hent (i : Int) k hk
      have hlf : leafG7 (plnF B (rdN B top) cs) B (rdN B top) (i : Int) = nd0 := by unfold leafG7; rw [h]; rfl
      rw [hlf, nd0_get] at j1 j2
      refine ⟨fun x hx e => ?_, fun hc => ?_⟩
      · have := j1 x hx e
        cases hb : blankB x.2 with
        | true => rfl
        | false => rw [hb] at this; simp at this
      · have := j2 hc
        rw [Int.toNat_natCast] at this
        exact this.symm
  have hEfree : ∀ m (h : m < E.length), E[m].1 < N := fun m h => by
    have := (freeQ_iff.1 (hfr.2.2.1 _ (List.getElem_mem h))).2.1
    omega
  have hFr : ∀ (i : Int) l, F1 i = some l → ∀ x ∈ l, 0 ≤ x ∧ x ≤ 65535 := fun i l hl x hx => by
    obtain ⟨q1, q2, q3⟩ := p3 i l hl
    obtain ⟨n, rfl⟩ : ∃ n : Nat, i = (n : Int) := ⟨i.toNat, by omega⟩
    obtain ⟨k, hk, rfl⟩ := List.getElem_of_mem hx
    have e : l.getD k 0 = l[k] := by rw [List.getD_eq_getElem?_getD, List.getElem?_eq_getElem hk]; rfl
    rw [← e]
    rcases hsomeE n l (by omega) hl k (by omega) with ⟨m, hm, hm2, -, h⟩ | ⟨h, -⟩ | ⟨h, -⟩
    · have := hEfree m hm2; omega
    · omega
    · rw [h]; exact rdN_range2 hB _ k
  have h2E : ∀ (i : Nat) lf, i < 4 → F1 (i : Int) = some lf → ∃ h2, (E[ps.length + cntU F1 i]'h2).2 = encN lf ∧ T'.getD i 0 = ((E[ps.length + cntU F1 i]'h2).1 : Int) := fun i lf hi hl => by
    obtain ⟨a1, a2, a3⟩ := l4 i lf hi hl
    rw [p2] at a1
    obtain ⟨b1, b2⟩ := hEw _ a1
    refine ⟨b1, ?_⟩
    rw [b2]
    simp only [p2] at a2 a3
    exact ⟨a2, a3⟩
  have hTr : ∀ x ∈ T', 0 ≤ x ∧ x ≤ 65535 := fun x hx => by
    obtain ⟨k, hk, rfl⟩ := List.getElem_of_mem hx
    have e : T'.getD k 0 = T'[k] := by rw [List.getD_eq_getElem?_getD, List.getElem?_eq_getElem hk]; rfl
    rw [← e]
    cases hq : F1 (k : Int) with
    | some lf =>
      have hk4 := (p3 _ _ hq).2.1
      obtain ⟨b1, -, b3⟩ := h2E k lf (by omega) hq
      have := hEfree _ b1
      omega
    | none =>
      rcases hnoneE k (by omega) hq with ⟨h, -⟩ | ⟨h, -⟩
      · rw [h]; exact rdN_range2 hB _ k
      · omega
  have hok : okW N E := fun x hx => by
    obtain ⟨m, hm, e⟩ := List.getElem_of_mem hx
    refine ⟨by rw [← e]; exact hEfree m hm, ?_⟩
    rcases hEm x hx with h | h
    · rcases lm x h with h | ⟨i, lf, h, h'⟩
      · obtain ⟨j, hj, rfl⟩ := List.getElem_of_mem h
        obtain ⟨g2, g, _⟩ := p4 j (by omega)
        rw [g]
        have := (hPs _ (List.getElem_mem (h := (by omega : j < ps.length)))).1
        exact ⟨this.2.2.1, this.2.2.2⟩
      · rw [h']
        exact ⟨encN_len lf (p3 _ _ h).2.2, encN_range lf⟩
    · rw [h]
      exact ⟨encN_len T' r2, encN_range T'⟩
  have h1E : ∀ m (h : m < ps.length), ∃ h2, (E[m]'h2).2 = ps[m].2 := fun m h => by
    obtain ⟨b1, b2⟩ := hEws m h
    obtain ⟨g2, g, _⟩ := p4 m h
    exact ⟨b1, by rw [b2, g]⟩
  obtain ⟨z1, z2⟩ := new_core hBl hB hold hg ha hcsps hcl hheld hfr hok r2 hTr p3 hFr h1E h2E h3 hnoneE hsomeE
  exact ⟨hfr, hok, z1, z2⟩
end Go.Proofs.YtpcikbloflpahaaDoor
