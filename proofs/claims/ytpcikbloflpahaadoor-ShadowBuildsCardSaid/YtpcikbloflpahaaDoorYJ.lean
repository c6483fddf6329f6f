/-
  Chapter 7: a sector written, at any disk: write.
-/
import Derived.Test.YtpcikbloflpahaaDoorYI
import Derived.Test.YtpcikbloflpahaaDoorYG
import Derived.Test.YtpcikbloflpahaaDoorYO
import Derived.Test.YtpcikbloflpahaaDoorZGp4
import Derived.Test.YtpcikbloflpahaaDoorZSh16
namespace Go.Proofs.YtpcikbloflpahaaDoor
set_option linter.unusedVariables false
set_option linter.unusedSimpArgs false
open Go.RowKit Go.Shelf Go.Maps

theorem Tab64.pos {w : World} (h : Tab64 w) : 0 < w.heap.size := by
  have := h 0 (by omega)
  simp only [World.cell?] at this
  by_cases h0 : 0 < w.heap.size
  · exact h0
  · have e : w.heap.size = 0 := by omega
    have e2 : w.heap[0]? = none := Array.getElem?_eq_none (xs := w.heap) (i := 0) (by rw [e]; exact Nat.le_refl 0)
    simp [e2] at this
/-- A writer: its disk, its map of sectors. -/
structure WrG (w : World) (db mb cb fb wb N : Nat) (A : Nat → Prop) (acts : Nat) (L : List Int) (ps : List (Nat × List Int)) (c : List Int) : Prop where
  dk : DkS w db N A acts L ps
  sp : SpG w mb cb fb c
  len : c.length = N
  tab : Tab64 w
  box : w.heap[wb]? = some (.cells [.pointer (some ⟨db, 0, none⟩), .pointer (some ⟨mb, 0, none⟩)].toArray 108 (0, 0))
  a1 : ¬ A mb
  a2 : ¬ A cb
  a3 : ¬ A fb
  a4 : ¬ A wb
  a5 : ¬ A 0
  b1 : cb ≠ 0
  b2 : fb ≠ 0
section
variable {w w' : World} {db mb cb fb wb N : Nat} {A A' S : Nat → Prop} {acts acts' : Nat} {L : List Int} {ps ps' : List (Nat × List Int)} {c c' : List Int}
theorem WrG.fr (h : WrG w db mb cb fb wb N A acts L ps c) (hF : Fr S w w') (hn : ∀ k, S k → ¬ A k ∧ k ≠ mb ∧ k ≠ cb ∧ k ≠ fb ∧ k ≠ wb ∧ k ≠ 0) : WrG w' db mb cb fb wb N A acts L ps c :=
  ⟨h.dk.fr hF (fun k hk hs => (hn k hs).1 hk), h.sp.fr hF (fun k hk hs => by rcases hk with e | e | e; exact (hn k hs).2.1 e; exact (hn k hs).2.2.1 e; exact (hn k hs).2.2.2.1 e), h.len, h.tab.fr hF (fun e => (hn _ e).2.2.2.2.2 rfl), hF.heap h.box (fun e => (hn _ e).2.2.2.2.1 rfl), h.a1, h.a2, h.a3, h.a4, h.a5, h.b1, h.b2⟩
theorem WrG.fr0 (h : WrG w db mb cb fb wb N A acts L ps c) (hF : Fr No w w') : WrG w' db mb cb fb wb N A acts L ps c := h.fr hF (fun _ h => h.elim)
theorem WrG.wc (h : WrG w db mb cb fb wb N A acts L ps c) : wb ≠ cb ∧ wb ≠ fb := by
  refine ⟨fun e => ?_, fun e => ?_⟩
  · have a := h.box; have b := h.sp.cnt; rw [e, b] at a; injection a with a; injection a with _ a; exact absurd a (by decide)
  · have a := h.box; have b := h.sp.fre; rw [e, b] at a; injection a with a; injection a with _ a; exact absurd a (by decide)
/-- A sector taken. -/
theorem WrG.took (h : WrG w db mb cb fb wb N A acts L ps c) (h1 : SpG w' mb cb fb c') (hl : c'.length = c.length) (hF : Fr (fun k => k = cb ∨ k = fb) w w') : WrG w' db mb cb fb wb N A acts L ps c' :=
  ⟨h.dk.fr hF (fun k hk hs => hs.elim (fun e => h.a2 (e ▸ hk)) (fun e => h.a3 (e ▸ hk))), h1, hl.trans h.len, h.tab.fr hF (fun hs => hs.elim (fun e => h.b1 e.symm) (fun e => h.b2 e.symm)), hF.heap h.box (fun hs => hs.elim h.wc.1 h.wc.2), h.a1, h.a2, h.a3, h.a4, h.a5, h.b1, h.b2⟩
/-- A sector written. -/
theorem WrG.wrote (h : WrG w db mb cb fb wb N A acts L ps c) (h1 : DkS w' db N A' acts' L ps') (hF : Fr A w w') (hG : Gr7 w A A') : WrG w' db mb cb fb wb N A' acts' L ps' c := by
  have hg : ∀ b, ¬ A b → b < w.heap.size → ¬ A' b := fun b h1 h2 h3 => (hG b h3).elim h1 (fun h => by omega)
  exact ⟨h1, h.sp.fr hF (fun k hk => by rcases hk with rfl | rfl | rfl; exact h.a1; exact h.a2; exact h.a3), h.len, h.tab.fr hF h.a5, hF.heap h.box h.a4, hg _ h.a1 (heap_lt7 h.sp.box), hg _ h.a2 (heap_lt7 h.sp.cnt), hg _ h.a3 (heap_lt7 h.sp.fre), hg _ h.a4 (heap_lt7 h.box), hg _ h.a5 h.tab.pos, h.b1, h.b2⟩
end
set_option maxHeartbeats 2000000 in
set_option maxRecDepth 1000000 in
theorem writebG_calls {w : World} {db mb cb fb wb N : Nat} {A : Nat → Prop} {acts : Nat} {L : List Int} {ps : List (Nat × List Int)} {c : List Int} (h : WrG w db mb cb fb wb N A acts L ps c) (ha : acts < 1000000) (n : Nat) (hn : takeC c = some n) (b off cap : Nat) (bs : List Int) (hl : (bys bs).length = 64) (hbr : ∀ x ∈ bs, 0 ≤ x ∧ x < 256) (hsl : ∀ w', Fr (WrS A cb fb) w w' → w'.rangeAt b off (bys bs)) :
    Calls Tryd.prog 66 #[.pointer (some ⟨wb, 0, none⟩), .slice (some ⟨b, off, none⟩) 64 cap, .func (.func 67) #[] #[]] w fun e w' => e = .returned (.int .i64 (n : Int)) ∧ ∃ A', WrG w' db mb cb fb wb N A' (acts + 1) L (ps ++ [(n, bs)]) (c.set n 1) ∧ Fr (WrS A cb fb) w w' ∧ Gr7 w A A' := by
  have HE := Lib.hid enc1_calls
  have HM := Lib.hid must_calls
  have HT := Lib.hid (stakeg_calls h.sp h.tab n hn)
  have HSL := Lib.hid hsl
  have HL := Lib.hid hl
  have H := Lib.hid h
  have k0 : w.cell? ⟨wb, 0, none⟩ = some (.pointer (some ⟨db, 0, none⟩)) := heap_cell (o := 0) h.box rfl
  have k1 : w.cell? ⟨wb, 1, none⟩ = some (.pointer (some ⟨mb, 0, none⟩)) := heap_cell (o := 1) h.box rfl
  have hnN : n < N := by have := (takeC_some hn).2.1; have := h.len; omega
  have HBR := Lib.hid hbr
  clear h hsl hl hn hbr
  go_enter Tryd.func66, Tryd.ntmps66
  go_wp2_with fail
  refine (HE.out _ _).mono ?_
  rintro e w1 ⟨rfl, rfl⟩
  go_wp2_with fail
  refine (HM.out _).mono ?_
  rintro e w1 ⟨rfl, rfl⟩
  go_wp2_with fail
  refine HT.out.mono ?_
  rintro e w1 ⟨rfl, h1, hF1⟩
  have H1 := Lib.hid (H.out.took h1 (by simp) hF1)
  have HF1 := Lib.hid (hF1.mono (T := WrS A cb fb) (fun k _ hk => .inr hk))
  have k0 : w1.cell? ⟨wb, 0, none⟩ = some (.pointer (some ⟨db, 0, none⟩)) := heap_cell (o := 0) H1.out.box rfl
  clear h1 hF1
  go_wp2_with fail
  refine (HM.out _).mono ?_
  rintro e w2 ⟨rfl, rfl⟩
  go_wp2_with fail
  refine (dwriteS_calls H1.out.dk ha n hnN b off cap bs HL.out HBR.out (fun w' hF => HSL.out _ (HF1.out.trans (hF.mono (fun k _ hk => .inl hk))))).mono ?_
  rintro e w2 ⟨rfl, A', h2, hF2, hG2⟩
  have H2 := Lib.hid (H1.out.wrote h2 hF2 hG2)
  have HF2 := Lib.hid (HF1.out.trans (hF2.mono (fun k _ hk => .inl hk)))
  have HG2 : RowKit.Hid (Gr7 w A A') := Lib.hid (fun j hj => (hG2 j hj).imp id (fun h => Nat.le_trans HF1.out.size h))
  clear h2 hF2 hG2
  go_wp2_with fail
  refine (HM.out _).mono ?_
  rintro e w3 ⟨rfl, rfl⟩
  go_wp2_with fail
  go_ret
  exact ⟨rfl, A', H2.out, HF2.out, HG2.out⟩

set_option maxHeartbeats 2000000 in
set_option maxRecDepth 1000000 in
theorem writenG_calls {w : World} {db mb cb fb wb N : Nat} {A : Nat → Prop} {acts : Nat} {L : List Int} {ps : List (Nat × List Int)} {c : List Int} (h : WrG w db mb cb fb wb N A acts L ps c) (ha : acts < 1000000) (n : Nat) (hn : takeC c = some n) (nl : List Int) (hnl : nl.length = 32) (hnr : ∀ x ∈ nl, 0 ≤ x ∧ x ≤ 65535) :
    Calls Tryd.prog 68 #[.pointer (some ⟨wb, 0, none⟩), .agg (nds nl).toArray, .func (.func 69) #[] #[]] w fun e w' => e = .returned (.int .i64 (n : Int)) ∧ ∃ A', WrG w' db mb cb fb wb N A' (acts + 1) L (ps ++ [(n, encN nl)]) (c.set n 1) ∧ Fr (WrS A cb fb) w w' ∧ Gr7 w A A' := by
  have hFA : Fr No w (w.alloc (Obj.cells (nds nl).toArray 99)) := (Fr.refl No w).alloc _
  have HN := Lib.hid (heap_nd (heap_new w (Obj.cells (nds nl).toArray 99)) hnl)
  have HE := Lib.hid (nencodeG_calls nl hnl hnr (w.alloc (Obj.cells (nds nl).toArray 99)))
  have HM := Lib.hid must_calls
  have HT := Lib.hid (fun (w1 : World) (hF : Fr No w w1) => stakeg_calls (h.fr0 hF).sp (h.fr0 hF).tab n hn)
  have H := Lib.hid h
  have HFA := Lib.hid hFA
  have hnN : n < N := by have := (takeC_some hn).2.1; have := h.len; omega
  have HEL := Lib.hid (And.intro (encN_len nl hnl) (encN_range nl))
  clear h hn hnl hnr hFA
  generalize encN nl = bs at *
  go_enter Tryd.func68, Tryd.ntmps68
  go_wp2_with (first
    | (refine load_nd rfl _ rfl w.heap.size 0 nl rfl HN.out ?_)
    | fail "arm")
  refine HE.out.mono ?_
  rintro e w1 ⟨r, rfl, hF1, hown⟩
  have hlen := HEL.out.1
  obtain ⟨b, off, cap, rfl, hb1, hb2, hr⟩ := row_range7 hown (by intro e; have := congrArg List.length e; simp [bys, hlen] at this)
  have hF01 := HFA.out.trans hF1
  have HF01 := Lib.hid hF01
  have HR := Lib.hid hr
  have HL : RowKit.Hid ((bys bs).length = 64) := Lib.hid (by simp [bys, hlen])
  have hbw : w.heap.size ≤ b := Nat.le_trans HFA.out.size hb1
  have HBW := Lib.hid hbw
  have H1 := Lib.hid (H.out.fr0 hF01)
  have k0 : w1.cell? ⟨wb, 0, none⟩ = some (.pointer (some ⟨db, 0, none⟩)) := heap_cell (o := 0) H1.out.box rfl
  have k1 : w1.cell? ⟨wb, 1, none⟩ = some (.pointer (some ⟨mb, 0, none⟩)) := heap_cell (o := 1) H1.out.box rfl
  clear hF1 hlen hown hr hF01 hbw hb1
  go_wp2_with fail
  refine (HM.out _).mono ?_
  rintro e w2 ⟨rfl, rfl⟩
  go_wp2_with fail
  refine (HT.out w1 HF01.out).mono ?_
  rintro e w2 ⟨rfl, h1, hF1⟩
  have H2 := Lib.hid (H1.out.took h1 (by simp) hF1)
  have HF12 := Lib.hid (hF1.mono (T := WrS A cb fb) (fun k _ hk => .inr hk))
  have k0 : w2.cell? ⟨wb, 0, none⟩ = some (.pointer (some ⟨db, 0, none⟩)) := heap_cell (o := 0) H2.out.box rfl
  clear h1 hF1 k1
  go_wp2_with fail
  refine (HM.out _).mono ?_
  rintro e w3 ⟨rfl, rfl⟩
  go_wp2_with fail
  refine (dwriteS_calls H2.out.dk ha n hnN b off cap bs HL.out HEL.out.2 (fun w' hF => ?_)).mono ?_
  · have hFt := HF12.out.trans (hF.mono (fun k _ hk => .inl hk))
    refine fun j v hj => hFt.cell (HR.out j v hj) (fun e => ?_)
    have := HBW.out
    have s1 := heap_lt7 H.out.sp.cnt
    have s2 := heap_lt7 H.out.sp.fre
    rcases e with e | e | e
    · have := H.out.dk.low _ e; omega
    · omega
    · omega
  rintro e w3 ⟨rfl, A', h2, hF2, hG2⟩
  have H3 := Lib.hid (H2.out.wrote h2 hF2 hG2)
  have HF2 := Lib.hid (HF01.out.no.trans (HF12.out.trans (hF2.mono (fun k _ hk => .inl hk))))
  have HG2 : RowKit.Hid (Gr7 w A A') := Lib.hid (fun j hj => (hG2 j hj).imp id (fun h => Nat.le_trans (Nat.le_trans HF01.out.size HF12.out.size) h))
  clear h2 hF2 hG2
  go_wp2_with fail
  refine (HM.out _).mono ?_
  rintro e w4 ⟨rfl, rfl⟩
  go_wp2_with fail
  go_ret
  exact ⟨rfl, A', H3.out, HF2.out, HG2.out⟩
end Go.Proofs.YtpcikbloflpahaaDoor
namespace Go.Proofs.YtpcikbloflpahaaDoor
set_option linter.unusedVariables false
set_option linter.unusedSimpArgs false
open Go.RowKit Go.Shelf Go.Maps

theorem take_ok {c : List Int} (h : 0 < freeN c) : ∃ n, takeC c = some n := by
  cases ht : takeC c with
  | some n => exact ⟨n, rfl⟩
  | none =>
    have : freeN c = 0 := by
      unfold freeN
      rw [List.countP_eq_zero]
      intro i _
      rw [takeC_none ht]
      simp
    omega
theorem countP_range_one (p q : Nat → Bool) (N n : Nat) (hn : n < N) (h1 : p n = true) (h2 : q n = false) (h : ∀ m, m ≠ n → q m = p m) : (List.range N).countP q + 1 = (List.range N).countP p := by
  induction N with
  | zero => omega
  | succ N ih =>
    rw [List.range_succ, List.countP_append, List.countP_append]
    by_cases e : n = N
    · subst e
      have : (List.range n).countP q = (List.range n).countP p := List.countP_congr fun m hm => by
        rw [h m (by have := List.mem_range.1 hm; omega)]
      rw [this]
      simp [List.countP_cons, h1, h2]
    · have := ih (by omega)
      have h3 := h N (fun q => e q.symm)
      simp only [List.countP_cons, List.countP_nil, h3]
      omega
theorem freeQ_set {c : List Int} {n : Nat} (hn : n < c.length) {x : Int} (hx : x ≠ 0) (m : Nat) : freeQ (c.set n x) m = (freeQ c m && !decide (m = n)) := by
  unfold freeQ
  rw [List.length_set, set_getD7 _ _ _ _ hn]
  by_cases e : n = m
  · subst e; simp [hx]
  · have e2 : ¬ m = n := fun h => e h.symm
    simp [e, e2]
theorem freeN_take {c : List Int} {n : Nat} (h : takeC c = some n) : freeN (c.set n 1) + 1 = freeN c := by
  obtain ⟨h1, h2, -⟩ := takeC_some h
  unfold freeN
  rw [List.length_set]
  refine countP_range_one _ _ _ n h2 h1 ?_ (fun m hm => ?_)
  · rw [freeQ_set h2 (by decide)]; simp
  · rw [freeQ_set h2 (by decide)]; simp [hm]
abbrev Ws := List (Nat × List Int)
def takeN (c : List Int) : Nat := (takeC c).getD 0
/-- A page's sector put into its leaf. -/
def setF (F : LfF) (i : Int) (k : Nat) (n : Int) : LfF := fun j => if j = i then (F i).map fun l => l.set k n else F j
def stP (s : LfF × List Int × Ws) (p : Chg) : LfF × List Int × Ws := (setF s.1 (p.1 / 32) (p.1 % 32).toNat (takeN s.2.1), s.2.1.set (takeN s.2.1) 1, s.2.2 ++ [(takeN s.2.1, p.2)])
def pagesL (F : LfF) (c : List Int) (ws : Ws) (ps : List Chg) : LfF × List Int × Ws := ps.foldl stP (F, c, ws)
theorem pagesL_snoc (F : LfF) (c : List Int) (ws : Ws) (ps : List Chg) (p : Chg) : pagesL F c ws (ps ++ [p]) = stP (pagesL F c ws ps) p := by simp [pagesL]
def stL (F : LfF) (s : List Int × List Int × Ws) (i : Nat) : List Int × List Int × Ws :=
  match F (i : Int) with
  | none => s
  | some lf => (s.1.set i (takeN s.2.1), s.2.1.set (takeN s.2.1) 1, s.2.2 ++ [(takeN s.2.1, encN lf)])
def leavesL (F : LfF) (tn c : List Int) (ws : Ws) : Nat → List Int × List Int × Ws
  | 0 => (tn, c, ws)
  | m + 1 => stL F (leavesL F tn c ws m) m
/-- What lay comes to: the new top, who holds what, what waits. -/
def layR (F : LfF) (tn c : List Int) (ws : Ws) (ps : List Chg) : Int × List Int × Ws :=
  let s := pagesL F c ws ps
  let t := leavesL s.1 tn s.2.1 s.2.2 4
  if t.1 = nd0 then (0, t.2.1, t.2.2) else ((takeN t.2.1 : Int), t.2.1.set (takeN t.2.1) 1, t.2.2 ++ [(takeN t.2.1, encN t.1)])
/-- What a plan is like, some of its pages still to be written. -/
def OkP (F : LfF) (rest : List Chg) : Prop :=
  okF F ∧ (∀ i l, F i = some l → ∀ k : Nat, k < 32 → (0 ≤ l.getD k 0 ∧ l.getD k 0 ≤ 65535) ∨ ∃ p ∈ rest, p.1 = 32 * i + (k : Int)) ∧ ∀ p ∈ rest, (0 ≤ p.1 ∧ p.1 < 128 ∧ p.2.length = 64 ∧ ∀ x ∈ p.2, 0 ≤ x ∧ x < 256) ∧ (F (p.1 / 32)).isSome = true
theorem OkP.step {F : LfF} {p : Chg} {rest : List Chg} (h : OkP F (p :: rest)) (n : Nat) (hn : n ≤ 65535) : OkP (setF F (p.1 / 32) (p.1 % 32).toNat (n : Int)) rest := by
  obtain ⟨h1, h2, h3⟩ := h
  obtain ⟨⟨hp0, hp1, -⟩, -⟩ := h3 p (List.mem_cons_self ..)
  refine ⟨fun i l hl => ?_, fun i l hl k hk => ?_, fun q hq => ?_⟩
  · unfold setF at hl
    by_cases e : i = p.1 / 32
    · rw [if_pos e] at hl
      rw [Option.map_eq_some_iff] at hl
      obtain ⟨l0, e1, rfl⟩ := hl
      have := h1 _ _ e1
      rw [List.length_set, e]
      exact this
    · rw [if_neg e] at hl; exact h1 i l hl
  · unfold setF at hl
    by_cases e : i = p.1 / 32
    · rw [if_pos e] at hl
      rw [Option.map_eq_some_iff] at hl
      obtain ⟨l0, e1, rfl⟩ := hl
      have hlen := (h1 _ _ e1).2.2
      rw [set_getD7 _ _ _ _ (by rw [hlen]; omega)]
      by_cases e2 : (p.1 % 32).toNat = k
      · rw [if_pos e2]; left; omega
      · rw [if_neg e2]
        rcases h2 _ _ e1 k hk with h | ⟨q, hq, hqe⟩
        · exact .inl h
        · right
          rcases List.mem_cons.1 hq with rfl | hq
          · exfalso; omega
          · exact ⟨q, hq, by rw [e]; exact hqe⟩
    · rw [if_neg e] at hl
      rcases h2 i l hl k hk with h | ⟨q, hq, hqe⟩
      · exact .inl h
      · right
        rcases List.mem_cons.1 hq with rfl | hq
        · exfalso; omega
        · exact ⟨q, hq, hqe⟩
  · obtain ⟨q1, q2⟩ := h3 q (List.mem_cons_of_mem _ hq)
    refine ⟨q1, ?_⟩
    unfold setF
    by_cases e : q.1 / 32 = p.1 / 32
    · rw [if_pos e, Option.isSome_map, ← e]; exact q2
    · rw [if_neg e]; exact q2
theorem setF_some (F : LfF) (i : Int) (k : Nat) (n : Int) (j : Int) : (setF F i k n j).isSome = (F j).isSome := by
  unfold setF
  by_cases e : j = i
  · rw [if_pos e, e, Option.isSome_map]
  · rw [if_neg e]
theorem cnt4_setF (F : LfF) (i : Int) (k : Nat) (n : Int) : cnt4 (setF F i k n) = cnt4 F := by
  unfold cnt4 one4
  simp only [setF_some]
theorem mpF_setF (F : LfF) (i : Int) (k : Nat) (n : Int) {l : List Int} (hl : F i = some l) : upd (mpF F) i (some (ndV (l.set k n))) = mpF (setF F i k n) := by
  funext j
  unfold upd mpF setF
  by_cases e : j = i
  · rw [if_pos e, if_pos e, hl]; rfl
  · rw [if_neg e, if_neg e]
/-- A plan's blocks. -/
structure PlW (n : Nat) (w : World) (pb lm : Nat) (pv : Value) (vs : List (Int × Value)) (tn : List Int) (F : LfF) (old : Int) (sm : Bool) (ps : List Chg) : Prop where
  box : w.heap[pb]? = some (.cells (PlC pv tn lm old sm).toArray 129 (0, 0))
  own : w.ownsRow n 32 2 pv ps.length (chgCells vs)
  chv : ChV n ps vs w
  map : MapAt Tryd.prog 3 w lm (cnt4 F) (mpF F)
  len : tn.length = 32
def PlZ (pb lm : Nat) (pv : Value) (vs : List (Int × Value)) (k : Nat) : Prop := k = pb ∨ k = lm ∨ pv.ownBlock = some k ∨ ∃ x ∈ vs, x.2.ownBlock = some k
section
variable {n : Nat} {w w' : World} {pb lm : Nat} {pv : Value} {vs : List (Int × Value)} {tn tn' : List Int} {F F' : LfF} {old : Int} {sm : Bool} {ps : List Chg} {S : Nat → Prop}
theorem chv_row (h : ChV n ps vs w) {x : Int × Value} (hx : x ∈ vs) : ∃ m cs, w.ownsRow n 5 1 x.2 m cs := by
  obtain ⟨i, hi, rfl⟩ := List.getElem_of_mem hx
  exact ⟨_, _, (h.2 i (by rw [h.1]; exact hi) hi).2⟩
theorem chv_fr (h : ChV n ps vs w) (hF : Fr S w w') (hn : ∀ x ∈ vs, ∀ k, x.2.ownBlock = some k → ¬ S k) : ChV n ps vs w' :=
  ⟨h.1, fun i h1 h2 => ⟨(h.2 i h1 h2).1, ownsRow_fr7 (h.2 i h1 h2).2 hF (fun k e => hn _ (List.getElem_mem h2) k e)⟩⟩
theorem PlW.fr (h : PlW n w pb lm pv vs tn F old sm ps) (hF : Fr S w w') (hn : ∀ k, PlZ pb lm pv vs k → ¬ S k) : PlW n w' pb lm pv vs tn F old sm ps :=
  ⟨hF.heap h.box (hn _ (.inl rfl)), ownsRow_fr7 h.own hF (fun k e => hn _ (.inr (.inr (.inl e)))), chv_fr h.chv hF (fun x hx k e => hn _ (.inr (.inr (.inr ⟨x, hx, e⟩)))), h.map.fr hF (hn _ (.inr (.inl rfl))), h.len⟩
theorem PlW.lt (h : PlW n w pb lm pv vs tn F old sm ps) : ∀ k, PlZ pb lm pv vs k → k < w.heap.size := by
  rintro k (rfl | rfl | e | ⟨x, hx, e⟩)
  · exact heap_lt7 h.box
  · exact h.map.lt
  · exact (h.own.lt k e).2
  · obtain ⟨m, cs, hr⟩ := chv_row h.chv hx
    exact (hr.lt k e).2
theorem PlW.pm (h : PlW n w pb lm pv vs tn F old sm ps) : pb ≠ lm := fun e => by
  obtain ⟨D, ⟨es, clock, hb, -⟩, -⟩ := h.map
  have := h.box
  rw [e, hb] at this
  cases this
theorem PlW.mapped (h : PlW n w pb lm pv vs tn F old sm ps) {c : Nat} {f : Int → Option Value} (h1 : MapAt Tryd.prog 3 w' lm c f) (hc : c = cnt4 F') (hf : f = mpF F') (hF : Fr (fun k => k = lm) w w') : PlW n w' pb lm pv vs tn F' old sm ps := by
  subst hc hf
  exact ⟨hF.heap h.box h.pm, ownsRow_fr7 h.own hF (fun k e (e2 : k = lm) => map_apart7 h.map h.own (e2 ▸ e)), chv_fr h.chv hF (fun x hx k e (e2 : k = lm) => by obtain ⟨m, cs, hr⟩ := chv_row h.chv hx; exact map_apart7 h.map hr (e2 ▸ e)), h1, h.len⟩
theorem PlW.topped (h : PlW n w pb lm pv vs tn F old sm ps) (hl : tn'.length = 32) : PlW n (w.setCells pb 1 (nds tn')) pb lm pv vs tn' F old sm ps := by
  have hF := fr_setCells7 w pb 1 (nds tn')
  exact ⟨plan_set h.box (by rw [h.len, hl]), ownsRow_fr7 h.own hF (fun k e (e2 : k = pb) => not_row7 h.box (fun cs f e3 => by injection e3 with _ e3; exact absurd e3 (by decide)) h.own k e e2), chv_fr h.chv hF (fun x hx k e (e2 : k = pb) => by obtain ⟨m, cs, hr⟩ := chv_row h.chv hx; exact not_row7 h.box (fun cs f e3 => by injection e3 with _ e3; exact absurd e3 (by decide)) hr k e e2), h.map.fr hF (fun (e : lm = pb) => h.pm e.symm), hl⟩
end
/-- A plan and its writer. -/
structure LyG (n : Nat) (w : World) (db mb cb fb wb N pb lm : Nat) (pv : Value) (vs : List (Int × Value)) (A : Nat → Prop) (acts : Nat) (L : List Int) (ws : Ws) (c tn : List Int) (F : LfF) (old : Int) (sm : Bool) (ps : List Chg) : Prop where
  wr : WrG w db mb cb fb wb N A acts L ws c
  pl : PlW n w pb lm pv vs tn F old sm ps
  d : ∀ k, PlZ pb lm pv vs k → ¬ A k ∧ k ≠ mb ∧ k ≠ cb ∧ k ≠ fb ∧ k ≠ wb ∧ k ≠ 0
section
variable {n : Nat} {w w' : World} {db mb cb fb wb N pb lm : Nat} {pv : Value} {vs : List (Int × Value)} {A A' : Nat → Prop} {acts acts' : Nat} {L : List Int} {ws ws' : Ws} {c c' tn tn' : List Int} {F F' : LfF} {old : Int} {sm : Bool} {ps : List Chg}
theorem LyG.fr0 (h : LyG n w db mb cb fb wb N pb lm pv vs A acts L ws c tn F old sm ps) (hF : Fr No w w') : LyG n w' db mb cb fb wb N pb lm pv vs A acts L ws c tn F old sm ps := ⟨h.wr.fr0 hF, h.pl.fr hF (fun _ _ h => h), h.d⟩
theorem LyG.off (h : LyG n w db mb cb fb wb N pb lm pv vs A acts L ws c tn F old sm ps) : ∀ k, PlZ pb lm pv vs k → ¬ WrS A cb fb k := fun k hk hs => by
  obtain ⟨a, _, b, c, _⟩ := h.d k hk
  exact hs.elim a (fun e => e.elim b c)
theorem LyG.wrote (h : LyG n w db mb cb fb wb N pb lm pv vs A acts L ws c tn F old sm ps) (h1 : WrG w' db mb cb fb wb N A' acts' L ws' c') (hF : Fr (WrS A cb fb) w w') (hG : Gr7 w A A') : LyG n w' db mb cb fb wb N pb lm pv vs A' acts' L ws' c' tn F old sm ps :=
  ⟨h1, h.pl.fr hF h.off, fun k hk => ⟨fun hA => (hG k hA).elim (h.d k hk).1 (fun e => by have := h.pl.lt k hk; omega), (h.d k hk).2⟩⟩
theorem LyG.mapped (h : LyG n w db mb cb fb wb N pb lm pv vs A acts L ws c tn F old sm ps) {cc : Nat} {f : Int → Option Value} (h1 : MapAt Tryd.prog 3 w' lm cc f) (hc : cc = cnt4 F') (hf : f = mpF F') (hF : Fr (fun k => k = lm) w w') : LyG n w' db mb cb fb wb N pb lm pv vs A acts L ws c tn F' old sm ps :=
  ⟨h.wr.fr hF (fun k hk => h.d k (.inr (.inl hk))), h.pl.mapped h1 hc hf hF, h.d⟩
theorem LyG.topped (h : LyG n w db mb cb fb wb N pb lm pv vs A acts L ws c tn F old sm ps) (hl : tn'.length = 32) : LyG n (w.setCells pb 1 (nds tn')) db mb cb fb wb N pb lm pv vs A acts L ws c tn' F old sm ps :=
  ⟨h.wr.fr (fr_setCells7 w pb 1 (nds tn')) (fun k hk => h.d k (.inl hk)), h.pl.topped hl, h.d⟩
end
end Go.Proofs.YtpcikbloflpahaaDoor
