/-
  Chapter 7: a plan's pages laid.
-/
import Derived.Test.YtpcikbloflpahaaDoorYJ
namespace Go.Proofs.YtpcikbloflpahaaDoor
set_option linter.unusedVariables false
set_option linter.unusedSimpArgs false
open Go.RowKit Go.Shelf Go.Maps

def cntU (F : LfF) : Nat → Nat
  | 0 => 0
  | i + 1 => cntU F i + one4 F (i : Int)
theorem cntU4 (F : LfF) : cntU F 4 = cnt4 F := by
  show 0 + one4 F 0 + one4 F 1 + one4 F 2 + one4 F 3 = _
  unfold cnt4
  omega
theorem cntU_le (F : LfF) (i : Nat) (hi : i ≤ 4) : cntU F i ≤ cnt4 F := by
  rw [← cntU4]
  have : i = 0 ∨ i = 1 ∨ i = 2 ∨ i = 3 ∨ i = 4 := by omega
  rcases this with rfl | rfl | rfl | rfl | rfl <;> simp only [cntU] <;> omega
/-- What the top is like, i leaves written. -/
def OkT (F : LfF) (tn : List Int) (i : Nat) : Prop := tn.length = 32 ∧ ∀ k : Nat, k < 32 → (0 ≤ tn.getD k 0 ∧ tn.getD k 0 ≤ 65535) ∨ (i ≤ k ∧ k < 4 ∧ (F (k : Int)).isSome = true)
theorem OkT.skip {F : LfF} {tn : List Int} {i : Nat} (h : OkT F tn i) (hn : F (i : Int) = none) : OkT F tn (i + 1) := ⟨h.1, fun k hk => (h.2 k hk).imp id fun ⟨h1, h2, h3⟩ => by
  by_cases e : k = i
  · subst e; rw [hn] at h3; cases h3
  · exact ⟨by omega, h2, h3⟩⟩
theorem OkT.set {F : LfF} {tn : List Int} {i : Nat} (h : OkT F tn i) (hi : i < 4) (n : Nat) (hn : n ≤ 65535) : OkT F (tn.set i (n : Int)) (i + 1) := ⟨by rw [List.length_set]; exact h.1, fun k hk => by
  rw [set_getD7 _ _ _ _ (by have := h.1; omega)]
  by_cases e : i = k
  · rw [if_pos e]; left; omega
  · rw [if_neg e]
    exact (h.2 k hk).imp id fun ⟨h1, h2, h3⟩ => ⟨by omega, h2, h3⟩⟩
/-- Between lay's rounds over leaves. -/
def LyQ (w : World) (n db mb cb fb wb N pb lm : Nat) (pv : Value) (vs : List (Int × Value)) (A : Nat → Prop) (acts : Nat) (L : List Int) (ws : Ws) (c tn : List Int) (F : LfF) (old : Int) (ps : List Chg) (i : Nat) (wr : World) : Prop :=
  ∃ A', LyG n wr db mb cb fb wb N pb lm pv vs A' (acts + cntU F i) L (leavesL F tn c ws i).2.2 (leavesL F tn c ws i).2.1 (leavesL F tn c ws i).1 F old false ps ∧ Fr (LyS A cb fb pb lm) w wr ∧ Gr7 w A A' ∧ freeN (leavesL F tn c ws i).2.1 + cntU F i = freeN c ∧ OkT F (leavesL F tn c ws i).1 i
/-- Between lay's rounds over pages: j are written. -/
def LyP (w : World) (n db mb cb fb wb N pb lm : Nat) (pv : Value) (vs : List (Int × Value)) (A : Nat → Prop) (acts : Nat) (L : List Int) (ws : Ws) (c tn : List Int) (F : LfF) (old : Int) (ps : List Chg) (j : Nat) (wr : World) : Prop :=
  ∃ A', LyG n wr db mb cb fb wb N pb lm pv vs A' (acts + j) L (pagesL F c ws (ps.take j)).2.2 (pagesL F c ws (ps.take j)).2.1 tn (pagesL F c ws (ps.take j)).1 old false ps ∧ Fr (LyS A cb fb pb lm) w wr ∧ Gr7 w A A' ∧ freeN (pagesL F c ws (ps.take j)).2.1 + j = freeN c ∧ OkP (pagesL F c ws (ps.take j)).1 (ps.drop j) ∧ cnt4 (pagesL F c ws (ps.take j)).1 = cnt4 F
theorem OkT.imp {F F' : LfF} {tn : List Int} (h : OkT F tn 0) (hs : ∀ j, (F' j).isSome = (F j).isSome) : OkT F' tn 0 := ⟨h.1, fun k hk => (h.2 k hk).imp id fun ⟨h1, h2, h3⟩ => ⟨h1, h2, by rw [hs]; exact h3⟩⟩
theorem pagesL_some (F : LfF) (c : List Int) (ws : Ws) (ps : List Chg) (j : Int) : ((pagesL F c ws ps).1 j).isSome = (F j).isSome := by
  suffices ∀ n ≤ ps.length, ((pagesL F c ws (ps.take n)).1 j).isSome = (F j).isSome by
    have := this ps.length (Nat.le_refl _)
    rwa [List.take_length] at this
  intro n
  induction n with
  | zero => intro _; rfl
  | succ n ih =>
    intro hn
    rw [List.take_succ_eq_append_getElem (by omega), pagesL_snoc]
    unfold stP
    dsimp only
    rw [setF_some, ih (by omega)]
theorem leavesL_succ (F : LfF) (tn c : List Int) (ws : Ws) (m : Nat) : leavesL F tn c ws (m + 1) = stL F (leavesL F tn c ws m) m := rfl
theorem cntU_succ (F : LfF) (i : Nat) : cntU F (i + 1) = cntU F i + one4 F (i : Int) := rfl
theorem OkT.len {F : LfF} {tn : List Int} {i : Nat} (h : OkT F tn i) : tn.length = 32 := h.1
def layE (t : List Int × List Int × Ws) : Int × List Int × Ws := if t.1 = nd0 then (0, t.2.1, t.2.2) else ((takeN t.2.1 : Int), t.2.1.set (takeN t.2.1) 1, t.2.2 ++ [(takeN t.2.1, encN t.1)])
def layT (F : LfF) (tn c : List Int) (ws : Ws) (ps : List Chg) : List Int := (leavesL (pagesL F c ws ps).1 tn (pagesL F c ws ps).2.1 (pagesL F c ws ps).2.2 4).1
theorem layR_eq (F : LfF) (tn c : List Int) (ws : Ws) (ps : List Chg) : layR F tn c ws ps = layE (leavesL (pagesL F c ws ps).1 tn (pagesL F c ws ps).2.1 (pagesL F c ws ps).2.2 4) := rfl
theorem layT_eq (F : LfF) (tn c : List Int) (ws : Ws) (ps : List Chg) : layT F tn c ws ps = (leavesL (pagesL F c ws ps).1 tn (pagesL F c ws ps).2.1 (pagesL F c ws ps).2.2 4).1 := rfl
/-- How lay ends. -/
def LayQ (w : World) (db mb cb fb N pb lm : Nat) (A : Nat → Prop) (acts : Nat) (L : List Int) (c : List Int) (F : LfF) (ps : List Chg) (R : Int × List Int × Ws) (T : List Int) (e : Ending) (w' : World) : Prop :=
  e = .returned (.int .i64 R.1) ∧ ∃ A', DkS w' db N A' (acts + ps.length + cnt4 F + (if T = nd0 then 0 else 1)) L R.2.2 ∧ SpG w' mb cb fb R.2.1 ∧ R.2.1.length = N ∧ freeN R.2.1 + (ps.length + cnt4 F + (if T = nd0 then 0 else 1)) = freeN c ∧ Fr (LyS A cb fb pb lm) w w' ∧ Gr7 w A A'
theorem OkT.vals {F : LfF} {tn : List Int} (h : OkT F tn 4) : ∀ x ∈ tn, 0 ≤ x ∧ x ≤ 65535 := fun x hx => by
  obtain ⟨k, hk, rfl⟩ := List.getElem_of_mem hx
  rcases h.2 k (by have := h.1; omega) with h | h
  · rw [List.getD_eq_getElem?_getD, List.getElem?_eq_getElem hk] at h
    exact h
  · omega
attribute [local irreducible] nd0 pagesL OkP cnt4 freeN encN LyP LyQ cntU OkT leavesL
set_option maxHeartbeats 8000000 in
set_option maxRecDepth 1000000 in
theorem slayg_calls {n : Nat} {w : World} {db mb cb fb wb N pb lm : Nat} {pv : Value} {vs : List (Int × Value)} {A : Nat → Prop} {acts : Nat} {L : List Int} {ws : Ws} {c tn : List Int} {F : LfF} {old : Int} {ps : List Chg} (h : LyG n w db mb cb fb wb N pb lm pv vs A acts L ws c tn F old false ps) (hps : ps.length ≤ 128) (ha : acts < 900000) (hok : OkP F ps) (hokT : OkT F tn 0) (hfree0 : ps.length + cnt4 F + (if layT F tn c ws ps = nd0 then 0 else 1) ≤ freeN c) :
    Calls Tryd.prog 48 #[.pointer (some ⟨pb, 0, none⟩), .pointer (some ⟨wb, 0, none⟩)] w (LayQ w db mb cb fb N pb lm A acts L c F ps (layR F tn c ws ps) (layT F tn c ws ps)) := by
  have HRT := Lib.hid (And.intro (layR_eq F tn c ws ps) (layT_eq F tn c ws ps))
  generalize layR F tn c ws ps = R at *
  generalize layT F tn c ws ps = T at *
  obtain ⟨tz, htz⟩ : ∃ tz, (if T = nd0 then 0 else 1) = tz := ⟨_, rfl⟩
  have hfree : ps.length + cnt4 F + tz ≤ freeN c := by rw [← htz]; exact hfree0
  have HTZ := Lib.hid htz
  clear hfree0 htz
  have H0 : RowKit.Hid (LyP w n db mb cb fb wb N pb lm pv vs A acts L ws c tn F old ps 0 w) := Lib.hid (by unfold LyP; exact ⟨A, by unfold pagesL; exact h, Fr.refl _ _, Gr7.refl _ _, by unfold pagesL; rfl, by unfold pagesL; exact hok, by unfold pagesL; rfl⟩)
  obtain ⟨pa, pc, rfl⟩ := (Sl.of_owns h.pl.own).form
  have k35 : w.cell? ⟨pb, 35, none⟩ = some (.bool false) := plan35g h.pl.box h.pl.len
  have k0 : w.cell? ⟨pb, 0, none⟩ = some (.slice pa ps.length pc) := heap_cell (o := 0) h.pl.box rfl
  clear h hok
  go_enter Tryd.func48, Tryd.ntmps48
  go_wp2_with fail
  go_loopw [27] (fun i wr => ∃ j : Nat, j ≤ ps.length ∧ i = .int .i64 (j : Int) ∧ LyP w n db mb cb fb wb N pb lm (.slice pa ps.length pc) vs A acts L ws c tn F old ps j wr) (fun i _ => ps.length - (intOf i).toNat)
  case atStart => exact ⟨0, by omega, rfl, H0.out⟩
  case round =>
    obtain ⟨j, hj, rfl, hP⟩ := hrel
    have HP := Lib.hid hP
    clear hP
    by_cases hlt : j < ps.length
    · have dj : decide ((j : Int) < (ps.length : Int)) = true := decide_eq_true (by omega)
      have hP := HP.out
      unfold LyP at hP
      obtain ⟨A1, hG, hF, hGr, hfr, hok, hcn⟩ := hP
      have hcv := hG.pl.chv
      have hln := hcv.1
      obtain ⟨e1, e2⟩ := hcv.2 j (by omega) (by omega)
      obtain ⟨q0, q1⟩ := chgCells_get vs j (by omega)
      obtain ⟨g, o, hag, -, hc⟩ := (Sl.of_owns hG.pl.own).at (fun e : chgCells vs = [] => by rw [e] at q0; simp at q0)
      have x1 := hc _ _ q0
      have y1 := hc _ _ q1
      have hdr : ps.drop j = ps[j] :: ps.drop (j + 1) := List.drop_eq_getElem_cons hlt
      have htk : pagesL F c ws (ps.take (j + 1)) = stP (pagesL F c ws (ps.take j)) ps[j] := by rw [List.take_succ_eq_append_getElem hlt, pagesL_snoc]
      rw [hdr] at hok
      have hok2 := hok
      unfold OkP at hok2
      obtain ⟨hokF, -, hpr⟩ := hok2
      obtain ⟨⟨hp0, hp1, hp2, hp3⟩, hps1⟩ := hpr _ (List.mem_cons_self ..)
      have hvm : vs[j]'(by omega) ∈ vs := List.getElem_mem _
      obtain ⟨bb, off, dc, hdv, hb1, hb2, hrg⟩ := row_range7 e2 (by intro e; have := congrArg List.length e; rw [bys_len, hp2] at this; cases this)
      have hzb : PlZ pb lm (.slice pa ps.length pc) vs bb := .inr (.inr (.inr ⟨_, hvm, by rw [hdv]; rfl⟩))
      rw [e1] at x1
      rw [hdv, ← Nat.add_assoc] at y1
      rw [hp2] at y1
      generalize ps[j] = p at *
      generalize pagesL F c ws (ps.take j) = s at *
      obtain ⟨F1, c1, ws1⟩ := s
      dsimp only at hG hfr hok hokF hps1 hcn htk
      obtain ⟨pg, dt⟩ := p
      dsimp only at x1 hp0 hp1 hp2 hp3 hps1 hrg
      obtain ⟨nn, htn⟩ := take_ok (c := c1) (by omega)
      have hfn := freeN_take htn
      have htN : takeN c1 = nn := by unfold takeN; rw [htn]; rfl
      have hnl : nn < 2000 := by have := (takeC_some htn).2.1; have := hG.wr.sp.len; omega
      obtain ⟨lf, hlf⟩ := Option.isSome_iff_exists.1 hps1
      have hlfl := (hokF _ _ hlf).2.2
      obtain ⟨i, hi⟩ : ∃ i : Nat, pg / 32 = (i : Int) := ⟨(pg / 32).toNat, by omega⟩
      obtain ⟨k, hk⟩ : ∃ k : Nat, pg % 32 = (k : Int) := ⟨(pg % 32).toNat, by omega⟩
      have hi4 : i < 4 := by omega
      have hk32 : k < 32 := by omega
      have HPA : RowKit.Hid (∀ w1 : World, Calls Tryd.prog 33 #[.int .i64 pg] w1 fun e w' => e = .returned (.tuple #[.int .i64 (i : Int), .int .i64 (k : Int), .int .i64 0]) ∧ w1 = w') := Lib.hid (fun w1 => by
        have := path_calls pg w1
        rw [show pathF pg = (pg / 32, pg % 32, 0) from if_pos ⟨hp0, hp1⟩] at this
        rw [hi, hk] at this
        exact this)
      have hst : stP (F1, c1, ws1) (pg, dt) = (setF F1 (i : Int) k (nn : Int), c1.set nn 1, ws1 ++ [(nn, dt)]) := by
        unfold stP
        dsimp only
        rw [htN, hi, hk, Int.toNat_natCast]
      rw [hst] at htk
      have hok3 := hok.step nn (by omega)
      rw [hi, hk, Int.toNat_natCast] at hok3
      rw [hi] at hlf
      have hFb : Fr No wr (wr.alloc (Obj.cells #[.int .i64 pg, .slice (some ⟨bb, off, none⟩) 64 dc] 32)) := (Fr.refl No wr).alloc _
      have hGb := hG.fr0 hFb
      have HWB := Lib.hid (writebG_calls hGb.wr (by omega) nn htn bb off dc dt (by rw [bys_len, hp2]) hp3 (fun w' hF2 => fun jj v hjj => hF2.cell (hFb.cell (hrg jj v hjj) (fun h => h)) (hGb.off _ hzb)))
      have HGB := Lib.hid hGb
      have HFB := Lib.hid hFb
      have HFG := Lib.hid (And.intro hF (And.intro hGr (And.intro hfr (And.intro hfn (And.intro hok3 (And.intro hcn (And.intro htk hlf)))))))
      have HWI := Lib.hid (fun w1 => swith_calls lf hlfl k hk32 (nn : Int) w1)
      have hpm := hG.pl.pm
      have hld : lm ≠ 0 := (hG.d lm (.inr (.inl rfl))).2.2.2.2.2
      subst hag
      clear hG hcv hln e1 e2 q0 q1 hc hdr htk hok hokF hpr hps1 hp3 hp2 hvm hdv hb1 hb2 hrg hzb hst hok3 hGb hFb hF hGr hfr hfn hcn hlf htN htn hi hk
      go_wp2_with fail
      refine (HPA.out _).mono ?_
      rintro e w1 ⟨rfl, rfl⟩
      go_wp2_with fail
      refine HWB.out.mono ?_
      rintro e w2 ⟨rfl, A2, h2, hF2, hG2⟩
      have h2g := HGB.out.wrote h2 hF2 hG2
      have HG2 := Lib.hid h2g
      have HF2 := Lib.hid (HFB.out.no.trans hF2)
      have HGR2 : RowKit.Hid (Gr7 wr A1 A2) := Lib.hid (fun j hj => (hG2 j hj).imp id (fun h => Nat.le_trans HFB.out.size h))
      have k33 : w2.drew.cell? ⟨pb, 33, none⟩ = some (.map (some lm)) := plan33g (w := w2.drew) (show w2.drew.heap[pb]? = _ from h2g.pl.box) h2g.pl.len
      have hlk2 : (Instr.lookup 127 (.map (some lm)) (.int .i64 (i : Int)) false).run Tryd.prog w2.drew = .ok (.agg (nds lf).toArray) w2.drew := by
        have hz : ∀ w : World, (zeroValue 99).run Tryd.prog w = .ok (.agg (nds nd0).toArray) w := fun _ => by kernel_rfl
        have := ((h2g.pl.map.fr (Fr.refl No w2).drew (fun h => h)).look Tryd.underlying3 Tryd.underlying127 (hz _) (i : Int) (by omega)).2
        have e : mpF F1 (i : Int) = some (ndV lf) := by unfold mpF; rw [HFG.out.2.2.2.2.2.2.2]; rfl
        rw [e] at this
        exact this
      have HMP := Lib.hid h2g.pl.map
      clear h2 hF2 hG2 h2g HGB HWB x1 y1
      go_upto_region 8 with fail
      refine wp_region_held_drew (S := (fun w' => w'.cell? ⟨pb, 33, none⟩ = some (.map (some lm)))) (by kernel_rfl) k33 (fun hS0 => ?_)
      refine take_at7 (i := 0) (d := some 42) (v := ?_) rfl rfl (by kernel_rfl) (by kernel_rfl) (by kernel_rfl) (fun _ _ _ h => h) (Or.inl ⟨by rfl, ?_⟩) (by assumption) ?_
      rotate_left
      · intro w hSw; go_simp; try (with_reducible rfl)
      try simp only [Act.put, List.setIfInBounds_toArray, List.set_cons_zero, List.set_cons_succ]
      refine take_at7 (i := 1) (d := some 43) (v := ?_) rfl rfl (by kernel_rfl) (by kernel_rfl) (by kernel_rfl) (fun _ _ _ h => h) (Or.inl ⟨by rfl, ?_⟩) (by assumption) ?_
      rotate_left
      · intro w hSw; go_simp; try (with_reducible rfl)
      try simp only [Act.put, List.setIfInBounds_toArray, List.set_cons_zero, List.set_cons_succ]
      refine take_at7 (i := 2) (d := some 44) (v := ?_) rfl rfl (by kernel_rfl) (by kernel_rfl) (by kernel_rfl) (fun _ _ _ h => h) (Or.inl ⟨by rfl, ?_⟩) (by assumption) ?_
      rotate_left
      · intro w hSw; go_simp; try (with_reducible rfl)
      try simp only [Act.put, List.setIfInBounds_toArray, List.set_cons_zero, List.set_cons_succ]
      refine take_at7 (i := 3) (d := some 45) (v := ?_) rfl rfl (by kernel_rfl) (by kernel_rfl) (by kernel_rfl) (fun _ _ _ h => h) (Or.inl ⟨by rfl, ?_⟩) (by assumption) ?_
      rotate_left
      · intro w hSw; go_simp; try (with_reducible rfl)
      try simp only [Act.put, List.setIfInBounds_toArray, List.set_cons_zero, List.set_cons_succ]
      refine take_at7 (i := 4) (d := some 46) (v := ?_) rfl rfl (by kernel_rfl) (by kernel_rfl) (by kernel_rfl) (fun _ _ _ h => h) (Or.inl ⟨by rfl, ?_⟩) (by assumption) ?_
      rotate_left
      · intro w hSw; go_simp; try (with_reducible rfl)
      try simp only [Act.put, List.setIfInBounds_toArray, List.set_cons_zero, List.set_cons_succ]
      refine take_at7 (i := 5) (d := some 47) (v := ?_) rfl rfl (by kernel_rfl) (by kernel_rfl) (by kernel_rfl) (fun _ _ _ h => h) (Or.inl ⟨by rfl, ?_⟩) (by assumption) ?_
      rotate_left
      · intro w hSw; go_simp; try (with_reducible rfl)
      try simp only [Act.put, List.setIfInBounds_toArray, List.set_cons_zero, List.set_cons_succ]
      refine take_at7 (i := 6) (d := some 48) (v := ?_) rfl rfl (by kernel_rfl) (by kernel_rfl) (by kernel_rfl) (fun _ _ _ h => h) (Or.inl ⟨by rfl, ?_⟩) (by assumption) ?_
      rotate_left
      · intro w hSw; go_simp; try (with_reducible rfl)
      try simp only [Act.put, List.setIfInBounds_toArray, List.set_cons_zero, List.set_cons_succ]
      refine take_at7 (i := 7) (d := some 49) (v := ?_) rfl rfl (by kernel_rfl) (by kernel_rfl) (by kernel_rfl) (fun _ _ _ h => h) (Or.inl ⟨by rfl, ?_⟩) (by assumption) ?_
      rotate_left
      · intro w hSw; go_simp; try (with_reducible rfl)
      try simp only [Act.put, List.setIfInBounds_toArray, List.set_cons_zero, List.set_cons_succ]
      refine take_at7 (i := 8) (d := some 50) (v := ?_) rfl rfl (by kernel_rfl) (by kernel_rfl) (by kernel_rfl) (fun _ _ _ h => h) (Or.inl ⟨by rfl, ?_⟩) (by assumption) ?_
      rotate_left
      · intro w hSw; go_simp; try (with_reducible rfl)
      try simp only [Act.put, List.setIfInBounds_toArray, List.set_cons_zero, List.set_cons_succ]
      refine take_at7 (i := 9) (d := some 51) (v := ?_) rfl rfl (by kernel_rfl) (by kernel_rfl) (by kernel_rfl) (fun _ _ _ h => h) (Or.inl ⟨by rfl, ?_⟩) (by assumption) ?_
      rotate_left
      · intro w hSw; go_simp; try (with_reducible rfl)
      try simp only [Act.put, List.setIfInBounds_toArray, List.set_cons_zero, List.set_cons_succ]
      refine take_at7 (i := 11) (d := some 53) (v := ?_) rfl rfl (by kernel_rfl) (by kernel_rfl) (by kernel_rfl) (fun _ _ _ h => h) (Or.inl ⟨by rfl, ?_⟩) (by assumption) ?_
      rotate_left
      · intro w hSw; go_simp; try (with_reducible rfl)
      try simp only [Act.put, List.setIfInBounds_toArray, List.set_cons_zero, List.set_cons_succ]
      refine take_at7 (i := 12) (d := some 54) (v := ?_) rfl rfl (by kernel_rfl) (by kernel_rfl) (by kernel_rfl) (fun _ _ _ h => h) (Or.inl ⟨by rfl, ?_⟩) (by assumption) ?_
      rotate_left
      · intro w hSw; go_simp; try (with_reducible rfl)
      try simp only [Act.put, List.setIfInBounds_toArray, List.set_cons_zero, List.set_cons_succ]
      refine one_H7 (i := 10) (d := some 52) rfl rfl rfl (by kernel_rfl) (fun K hK => ?_)
      go_simp
      refine hK.out _ _ k33 (fun hHeld => ?_)
      clear hK K
      try simp only [Act.put, List.setIfInBounds_toArray, List.set_cons_zero, List.set_cons_succ]
      refine one_H7 (i := 13) (d := some 55) rfl rfl rfl (by kernel_rfl) (fun K hK => ?_)
      go_simp
      (go_at_call 60; ((with_reducible refine (HWI.out _).mono ?_); rintro e w3 ⟨rfl, hF3⟩))
      refine hK.out _ _ (hF3.cell k33 (fun h => h)) (fun hHeld => ?_)
      clear hK K
      try simp only [Act.put, List.setIfInBounds_toArray, List.set_cons_zero, List.set_cons_succ]
      have hF23 : Fr No w2 w3 := ((Fr.refl No w2).drew).trans hF3
      refine one_H7 (i := 14) (d := none) rfl rfl rfl (by kernel_rfl) (fun K hK => ?_)
      refine (wp_map_put7 (.tmp 45) (.tmp 46) (.tmp 55) 127 rfl rfl (HMP.out.fr hF23 (fun h => h)) Tryd.underlying3 Tryd.underlying127 (by unfold maxLen; have := cnt4_le F1; omega) (i : Int) (by omega) (.agg (nds (lf.set k (nn : Int))).toArray) rfl rfl ?_)
      intro w4 hmap4 hF4
      refine hK.out _ _ (hF4.cell (hF3.cell k33 (fun h => h)) (fun (e : pb = lm) => hpm e)) (fun hHeld => ?_)
      clear hK K
      try simp only [Act.put, List.setIfInBounds_toArray, List.set_cons_zero, List.set_cons_succ]
      refine wpAnyH_done (by kernel_rfl) ?_ _
      have hF24 : Fr (fun k => k = lm) w2 w4 := hF23.no.trans hF4
      have hN : LyP w n db mb cb fb wb N pb lm (.slice (some ⟨g, o, none⟩) ps.length pc) vs A acts L ws c tn F old ps (j + 1) w4 := by
        obtain ⟨g1, g2, g3, g4, g5, g6, g7, g8⟩ := HFG.out
        have g9 : mpF F1 (i : Int) = some (ndV lf) := by unfold mpF; rw [g8]; rfl
        rw [g9] at hmap4
        have hm := HG2.out.mapped (F' := setF F1 (i : Int) k (nn : Int)) hmap4 (by rw [cnt4_setF]; rfl) (mpF_setF F1 _ k _ g8) hF24
        unfold LyP
        rw [g7]
        dsimp only
        refine ⟨A2, by rw [← Nat.add_assoc]; exact hm, ?_, ?_, by omega, g5, by rw [cnt4_setF]; exact g6⟩
        · exact LyS.then (LyS.then g1 (HF2.out.mono (T := LyS A1 cb fb pb lm) (fun k _ hk => .inl hk)) g2) (hF24.mono (T := LyS A2 cb fb pb lm) (fun k _ e => .inr (.inr e))) (g2.trans HGR2.out g1.size)
        · exact g2.trans HGR2.out g1.size
      have HN := Lib.hid hN
      clear hN hmap4 hF24 hF23 hF4 hF3 hHeld hS0 hlk2 k33
      go_wp2_with fail
      refine ⟨⟨j + 1, by omega, by go_num, HN.out⟩, by simp [intOf]; omega⟩
    · obtain rfl : j = ps.length := by omega
      have dj : decide ((ps.length : Int) < (ps.length : Int)) = false := decide_eq_false (by omega)
      have hP := HP.out
      unfold LyP at hP
      rw [List.take_length, List.drop_length] at hP
      obtain ⟨A0, hG, hF, hGr, hfr, hok, hcn⟩ := hP
      have hokT1 := hokT.imp (pagesL_some F c ws ps)
      generalize pagesL F c ws ps = s at *
      obtain ⟨F1, c1, ws1⟩ := s
      dsimp only at hG hfr hok hcn hokT1
      have HFG := Lib.hid (And.intro hF hGr)
      have hcc : cnt4 F1 + tz ≤ freeN c1 := by omega
      have HN1 := Lib.hid (And.intro hfr hcn)
      have HQ0 : RowKit.Hid (LyQ wr n db mb cb fb wb N pb lm (.slice pa ps.length pc) vs A0 (acts + ps.length) L ws1 c1 tn F1 old ps 0 wr) := Lib.hid (by unfold LyQ leavesL cntU; exact ⟨A0, hG, Fr.refl _ _, Gr7.refl _ _, rfl, hokT1⟩)
      have hokE : okF F1 ∧ ∀ i l, F1 i = some l → ∀ x ∈ l, 0 ≤ x ∧ x ≤ 65535 := by
        unfold OkP at hok
        refine ⟨hok.1, fun i l hl x hx => ?_⟩
        obtain ⟨k, hk, rfl⟩ := List.getElem_of_mem hx
        have hl32 := (hok.1 i l hl).2.2
        rcases hok.2.1 i l hl k (by omega) with h | ⟨p, hp, -⟩
        · rw [List.getD_eq_getElem?_getD, List.getElem?_eq_getElem hk] at h
          exact h
        · cases hp
      have HOE := Lib.hid hokE
      clear hG hF hGr hfr hok hcn hokT1 hokE H0 HP
      obtain ⟨w9, hw9⟩ : ∃ w9, w9 = wr := ⟨_, rfl⟩
      subst hw9
      go_wp2_with fail
      go_loopw [57] (fun i wy => ∃ q : Nat, q ≤ 4 ∧ i = .int .i64 (q : Int) ∧ LyQ w9 n db mb cb fb wb N pb lm (.slice pa ps.length pc) vs A0 (acts + ps.length) L ws1 c1 tn F1 old ps q wy) (fun i _ => 4 - (intOf i).toNat)
      case atStart => exact ⟨0, by omega, rfl, HQ0.out⟩
      case round =>
        obtain ⟨q, hq, rfl, hQ⟩ := hrel
        have HQ := Lib.hid hQ
        by_cases hlt : q < 4
        · have dq : decide ((q : Int) < 4) = true := decide_eq_true (by omega)
          have hsu := leavesL_succ F1 tn c1 ws1 q
          have hcu := cntU_succ F1 q
          have hul := cntU_le F1 (q + 1) (by omega)
          unfold LyQ at hQ
          obtain ⟨A1, hG, hF, hGr, hfr, hT⟩ := hQ
          have HQD : RowKit.Hid (∀ w8 A6 (t : List Int × List Int × Ws) m, leavesL F1 tn c1 ws1 (q + 1) = t → cntU F1 (q + 1) = m → LyG n w8 db mb cb fb wb N pb lm (.slice pa ps.length pc) vs A6 (acts + ps.length + m) L t.2.2 t.2.1 t.1 F1 old false ps → Fr (LyS A0 cb fb pb lm) w9 w8 → Gr7 w9 A0 A6 → freeN t.2.1 + m = freeN c1 → OkT F1 t.1 (q + 1) → LyQ w9 n db mb cb fb wb N pb lm (.slice pa ps.length pc) vs A0 (acts + ps.length) L ws1 c1 tn F1 old ps (q + 1) w8) := Lib.hid (fun w8 A6 t m e1 e2 h1 h2 h3 h4 h5 => by subst e1 e2; unfold LyQ; exact ⟨A6, h1, h2, h3, h4, h5⟩)
          clear HRT
          generalize leavesL F1 tn c1 ws1 q = t at *
          obtain ⟨ta, ct, wst⟩ := t
          dsimp only at hG hfr hT
          have k33 : wr.cell? ⟨pb, 33, none⟩ = some (.map (some lm)) := plan33g hG.pl.box hG.pl.len
          have hz : ∀ w : World, (zeroValue 99).run Tryd.prog w = .ok (.agg (nds nd0).toArray) w := fun _ => by kernel_rfl
          have hlk := (hG.pl.map.look Tryd.underlying3 Tryd.underlying127 (hz _) (q : Int) (by omega)).1
          have HBN := Lib.hid (heap_new wr (Obj.cells (nds nd0).toArray 99))
          have HNN := Lib.hid (heap_nd HBN.out nd0_len)
          cases hq1 : F1 (q : Int) with
          | none =>
            have e : mpF F1 (q : Int) = none := by unfold mpF; rw [hq1]; rfl
            rw [e] at hlk
            simp only [Option.getD_none, Option.isSome_none] at hlk
            have h1 : one4 F1 (q : Int) = 0 := by unfold one4; rw [hq1]; rfl
            have h2 : stL F1 (ta, ct, wst) q = (ta, ct, wst) := by unfold stL; rw [hq1]
            rw [h2] at hsu
            rw [h1, Nat.add_zero] at hcu
            have HX := Lib.hid (fun w8 (hF8 : Fr No wr w8) => HQD.out w8 A1 _ _ hsu hcu (hG.fr0 hF8) (hF.trans hF8.no) hGr hfr (hT.skip hq1))
            clear hG hF hGr hfr hT hsu hcu hul h1 h2 e hq1
            go_wp2_with (first
              | (refine alloc_nd7 wr.heap.size rfl rfl rfl ?_)
              | (refine store_nd rfl _ _ rfl wr.heap.size 0 nd0 rfl rfl nd0_len HNN.out.2.2 ?_; intro hF8; have HF8 := Lib.hid (((Fr.refl No wr).alloc (Obj.cells (nds nd0).toArray 99)).trans' hF8 (fun i hi (e : i = _) => by omega)); clear hF8)
              | fail "arm")
            refine ⟨⟨q + 1, by omega, by go_num, HX.out _ HF8.out⟩, by simp [intOf]; omega⟩
          | some lf =>
            have e : mpF F1 (q : Int) = some (ndV lf) := by unfold mpF; rw [hq1]; rfl
            rw [e] at hlk
            simp only [Option.getD_some, Option.isSome_some] at hlk
            have h1 : one4 F1 (q : Int) = 1 := by unfold one4; rw [hq1]; rfl
            obtain ⟨nn, htn⟩ := take_ok (c := ct) (by rw [h1] at hcu; omega)
            have hfn := freeN_take htn
            have htN : takeN ct = nn := by unfold takeN; rw [htn]; rfl
            have hnl : nn < 2000 := by have := (takeC_some htn).2.1; have := hG.wr.sp.len; omega
            have h2 : stL F1 (ta, ct, wst) q = (ta.set q (nn : Int), ct.set nn 1, wst ++ [(nn, encN lf)]) := by unfold stL; rw [hq1]; dsimp only; rw [htN]
            rw [h2] at hsu
            rw [h1] at hcu
            have hlfl := (HOE.out.1 _ _ hq1).2.2
            have hlfr := HOE.out.2 _ _ hq1
            have hts := hT.set hlt nn (by omega)
            have hul0 := cntU_le F1 q (by omega)
            have hTAl := hT.len
            have HNX0 := Lib.hid (fun W5 (hF5 : Fr No wr W5) w8 A6 (h8 : LyG n w8 db mb cb fb wb N pb lm (.slice pa ps.length pc) vs A6 (acts + ps.length + cntU F1 q + 1) L (wst ++ [(nn, encN lf)]) (ct.set nn 1) (ta.set q (nn : Int)) F1 old false ps) (hF8 : Fr (LyS A1 cb fb pb lm) W5 w8) (hG6 : Gr7 W5 A1 A6) => (HQD.out w8 A6 _ _ hsu hcu (by rw [← Nat.add_assoc]; exact h8) (LyS.then hF (hF5.no.trans hF8) hGr) (hGr.trans (fun j hj => (hG6 j hj).imp id (fun h => Nat.le_trans hF5.size h)) hF.size) (by dsimp only; omega) hts))
            have HG := Lib.hid hG
            have HTA := Lib.hid hTAl
            have HTB : RowKit.Hid ((ta.set q (nn : Int)).length = 32) := Lib.hid (by rw [List.length_set]; exact hTAl)
            have HLB := Lib.hid hlfl
            have HWT := Lib.hid (fun w1 => swith_calls ta hTAl q (by omega) (nn : Int) w1)
            have HWN0 := Lib.hid (fun W5 (hF5 : Fr No wr W5) => writenG_calls (hG.fr0 hF5).wr (by have := cnt4_le F1; omega) nn htn lf hlfl hlfr)
            generalize ta.set q (nn : Int) = tb at *
            clear hG hF hGr hfr hT hsu hcu hul h1 h2 e hq1 htn hfn htN hlfl hlfr hts hul0 hTAl
            go_upto_region 15 with (first
              | (refine alloc_nd7 wr.heap.size rfl rfl rfl ?_)
              | (refine store_nd rfl _ _ rfl wr.heap.size 0 lf rfl rfl HLB.out HNN.out.2.2 ?_; intro hF5; have HB5 := Lib.hid (heap_setCells7 HBN.out (nds lf) (nodes_same nd0_len HLB.out)); have HF5 := Lib.hid (((Fr.refl No wr).alloc (Obj.cells (nds nd0).toArray 99)).trans' hF5 (fun i hi (e : i = _) => by omega)); clear hF5)
              | fail "arm")
            generalize World.setCells (wr.alloc (Obj.cells (nds nd0).toArray 99)) wr.heap.size 0 (nds lf) = W5 at *
            have H5 := Lib.hid (HG.out.fr0 HF5.out.drew)
            have HNX := Lib.hid (HNX0.out W5.drew HF5.out.drew)
            have HWN := Lib.hid (HWN0.out W5.drew HF5.out.drew)
            have HT5 : RowKit.Hid (W5.drew.rangeAt pb 1 (nds ta)) := Lib.hid (fun j v hj => (plan_nd H5.out.pl.box HTA.out).2.1 j v hj)
            have HL5 : RowKit.Hid (W5.drew.rangeAt wr.heap.size 0 (nds lf)) := Lib.hid (fun j v hj => by rw [Nat.zero_add]; exact heap_cell (w := W5) HB5.out (by simpa using hj))
            have HSA := Lib.hid (show (Tryd.prog.info? 99).map (·.size) = some (nds ta).length by rw [size_nd, nds_len, HTA.out])
            have HSB := Lib.hid (show (Tryd.prog.info? 99).map (·.size) = some (nds lf).length by rw [size_nd, nds_len, HLB.out])
            clear HNX0 HWN0 HQD HQ
            refine wp_region_any (by kernel_rfl) ?_
            change wpAny _ _ _ _ _ _ _ (World.drew _)
            refine take_any7 (i := 0) (d := some 70) (v := ?_) rfl rfl (by kernel_rfl) (by kernel_rfl) (by kernel_rfl) (fun _ _ _ h => h) (Or.inl ⟨by rfl, ?_⟩) ?_
            rotate_left
            · intro w; go_simp; try (with_reducible rfl)
            try simp only [Act.put, List.setIfInBounds_toArray, List.set_cons_zero, List.set_cons_succ]
            refine take_any7 (i := 1) (d := some 71) (v := ?_) rfl rfl (by kernel_rfl) (by kernel_rfl) (by kernel_rfl) (fun _ _ _ h => h) (Or.inl ⟨by rfl, ?_⟩) ?_
            rotate_left
            · intro w; go_simp; try (with_reducible rfl)
            try simp only [Act.put, List.setIfInBounds_toArray, List.set_cons_zero, List.set_cons_succ]
            refine take_any7 (i := 2) (d := some 72) (v := ?_) rfl rfl (by kernel_rfl) (by kernel_rfl) (by kernel_rfl) (fun _ _ _ h => h) (Or.inl ⟨by rfl, ?_⟩) ?_
            rotate_left
            · intro w; go_simp; try (with_reducible rfl)
            try simp only [Act.put, List.setIfInBounds_toArray, List.set_cons_zero, List.set_cons_succ]
            refine take_any7 (i := 3) (d := some 73) (v := ?_) rfl rfl (by kernel_rfl) (by kernel_rfl) (by kernel_rfl) (fun _ _ _ h => h) (Or.inl ⟨by rfl, ?_⟩) ?_
            rotate_left
            · intro w; go_simp; try (with_reducible rfl)
            try simp only [Act.put, List.setIfInBounds_toArray, List.set_cons_zero, List.set_cons_succ]
            refine take_any7 (i := 5) (d := some 75) (v := ?_) rfl rfl (by kernel_rfl) (by kernel_rfl) (by kernel_rfl) (fun _ _ _ h => h) (Or.inl ⟨by rfl, ?_⟩) ?_
            rotate_left
            · intro w; go_simp; try (with_reducible rfl)
            try simp only [Act.put, List.setIfInBounds_toArray, List.set_cons_zero, List.set_cons_succ]
            refine take_any7 (i := 6) (d := some 76) (v := ?_) rfl rfl (by kernel_rfl) (by kernel_rfl) (by kernel_rfl) (fun _ _ _ h => h) (Or.inl ⟨by rfl, ?_⟩) ?_
            rotate_left
            · intro w; go_simp; try (with_reducible rfl)
            try simp only [Act.put, List.setIfInBounds_toArray, List.set_cons_zero, List.set_cons_succ]
            refine wpAny_all (rs := [4, 7]) (by kernel_rfl) (by simp) ?_
            intro i hi
            simp only [List.mem_cons, List.not_mem_nil, or_false] at hi
            rcases hi with rfl | rfl
            · refine load_any7 (d := some 74) (v := .agg (nds ta).toArray) (S := fun w' => w'.rangeAt pb 1 (nds ta)) rfl rfl (yieldsIf_load_mid (by rfl) _ _ rfl pb 1 rfl (nds ta) _ (fun _ h => h) Tryd.underlying99 rfl HSA.out) HT5.out ?_
              try simp only [Act.put, List.setIfInBounds_toArray, List.set_cons_zero, List.set_cons_succ]
              refine wpAny_all (rs := [7]) (by kernel_rfl) (by simp) ?_
              intro i hi
              simp only [List.mem_cons, List.not_mem_nil, or_false] at hi
              subst hi
              refine load_any7 (d := some 77) (v := .agg (nds lf).toArray) (S := fun w' => w'.rangeAt wr.heap.size 0 (nds lf)) rfl rfl (yieldsIf_load_mid (by rfl) _ _ rfl wr.heap.size 0 rfl (nds lf) _ (fun _ h => h) Tryd.underlying99 rfl HSB.out) HL5.out ?_
              try simp only [Act.put, List.setIfInBounds_toArray, List.set_cons_zero, List.set_cons_succ]
              refine wpAny_all (rs := [8]) (by kernel_rfl) (by simp) ?_
              intro i hi
              simp only [List.mem_cons, List.not_mem_nil, or_false] at hi
              subst hi
              refine wpOp_step rfl (fun K hK => ?_)
              go_simp
              (go_at_call 68; ((with_reducible refine HWN.out.mono ?_); rintro e w6 ⟨rfl, A6, h6, hF6, hG6⟩))
              refine hK _ _ ?_
              clear hK K
              try simp only [Act.put, List.setIfInBounds_toArray, List.set_cons_zero, List.set_cons_succ]
              have h6g := H5.out.wrote h6 hF6 hG6
              have H6 := Lib.hid h6g
              have HF6 := Lib.hid hF6
              have HG6 := Lib.hid hG6
              have HT6 : RowKit.Hid (w6.rangeAt pb 1 (nds ta)) := Lib.hid (fun j v hj => (plan_nd h6g.pl.box HTA.out).2.1 j v hj)
              clear h6 hF6 hG6 h6g
              refine wpAny_all (rs := [9]) (by kernel_rfl) (by simp) ?_
              intro i hi
              simp only [List.mem_cons, List.not_mem_nil, or_false] at hi
              subst hi
              refine wpOp_step rfl (fun K hK => ?_)
              go_simp
              (go_at_call 60; ((with_reducible refine (HWT.out _).mono ?_); rintro e w7 ⟨rfl, hF7⟩))
              refine hK _ _ ?_
              clear hK K
              try simp only [Act.put, List.setIfInBounds_toArray, List.set_cons_zero, List.set_cons_succ]
              refine take_any7 (i := 10) (d := some 80) (v := ?_) rfl rfl (by kernel_rfl) (by kernel_rfl) (by kernel_rfl) (fun _ _ _ h => h) (Or.inl ⟨by rfl, ?_⟩) ?_
              rotate_left
              · intro w; go_simp; try (with_reducible rfl)
              try simp only [Act.put, List.setIfInBounds_toArray, List.set_cons_zero, List.set_cons_succ]
              refine take_any7 (i := 11) (d := some 81) (v := ?_) rfl rfl (by kernel_rfl) (by kernel_rfl) (by kernel_rfl) (fun _ _ _ h => h) (Or.inl ⟨by rfl, ?_⟩) ?_
              rotate_left
              · intro w; go_simp; try (with_reducible rfl)
              try simp only [Act.put, List.setIfInBounds_toArray, List.set_cons_zero, List.set_cons_succ]
              have h7 := H6.out.fr0 hF7
              refine one_any7 (i := 12) (d := none) rfl rfl rfl (by kernel_rfl) (fun K hK => ?_)
              refine wp_store_nd7 _ _ rfl pb 1 tb rfl rfl HTB.out (plan_nd h7.pl.box HTA.out).2.2 ?_
              refine hK _ _ ?_
              clear hK K
              refine wpAny_done (by kernel_rfl) ?_ _
              try simp only [Act.put, List.setIfInBounds_toArray, List.set_cons_zero, List.set_cons_succ]
              have hF8 := fr_setCells7 w7 pb 1 (nds tb)
              have h8 := h7.topped (tn' := tb) HTB.out
              have HN8 := Lib.hid (HNX.out _ A6 h8 (((HF6.out.mono (T := LyS A1 cb fb pb lm) (fun k _ hk => .inl hk)).trans hF7.no).trans (hF8.mono (T := LyS A1 cb fb pb lm) (fun k _ e => .inr (.inl e)))) HG6.out)
              generalize World.setCells w7 pb 1 (nds tb) = w8 at *
              clear h8 hF7 hF8 h7 HF6
              go_wp2_with fail
              refine ⟨⟨q + 1, by omega, by go_num, HN8.out⟩, by simp [intOf]; omega⟩
            · refine load_any7 (d := some 77) (v := .agg (nds lf).toArray) (S := fun w' => w'.rangeAt wr.heap.size 0 (nds lf)) rfl rfl (yieldsIf_load_mid (by rfl) _ _ rfl wr.heap.size 0 rfl (nds lf) _ (fun _ h => h) Tryd.underlying99 rfl HSB.out) HL5.out ?_
              try simp only [Act.put, List.setIfInBounds_toArray, List.set_cons_zero, List.set_cons_succ]
              refine wpAny_all (rs := [4, 8]) (by kernel_rfl) (by simp) ?_
              intro i hi
              simp only [List.mem_cons, List.not_mem_nil, or_false] at hi
              rcases hi with rfl | rfl
              · refine load_any7 (d := some 74) (v := .agg (nds ta).toArray) (S := fun w' => w'.rangeAt pb 1 (nds ta)) rfl rfl (yieldsIf_load_mid (by rfl) _ _ rfl pb 1 rfl (nds ta) _ (fun _ h => h) Tryd.underlying99 rfl HSA.out) HT5.out ?_
                try simp only [Act.put, List.setIfInBounds_toArray, List.set_cons_zero, List.set_cons_succ]
                refine wpAny_all (rs := [8]) (by kernel_rfl) (by simp) ?_
                intro i hi
                simp only [List.mem_cons, List.not_mem_nil, or_false] at hi
                subst hi
                refine wpOp_step rfl (fun K hK => ?_)
                go_simp
                (go_at_call 68; ((with_reducible refine HWN.out.mono ?_); rintro e w6 ⟨rfl, A6, h6, hF6, hG6⟩))
                refine hK _ _ ?_
                clear hK K
                try simp only [Act.put, List.setIfInBounds_toArray, List.set_cons_zero, List.set_cons_succ]
                have h6g := H5.out.wrote h6 hF6 hG6
                have H6 := Lib.hid h6g
                have HF6 := Lib.hid hF6
                have HG6 := Lib.hid hG6
                have HT6 : RowKit.Hid (w6.rangeAt pb 1 (nds ta)) := Lib.hid (fun j v hj => (plan_nd h6g.pl.box HTA.out).2.1 j v hj)
                clear h6 hF6 hG6 h6g
                refine wpAny_all (rs := [9]) (by kernel_rfl) (by simp) ?_
                intro i hi
                simp only [List.mem_cons, List.not_mem_nil, or_false] at hi
                subst hi
                refine wpOp_step rfl (fun K hK => ?_)
                go_simp
                (go_at_call 60; ((with_reducible refine (HWT.out _).mono ?_); rintro e w7 ⟨rfl, hF7⟩))
                refine hK _ _ ?_
                clear hK K
                try simp only [Act.put, List.setIfInBounds_toArray, List.set_cons_zero, List.set_cons_succ]
                refine take_any7 (i := 10) (d := some 80) (v := ?_) rfl rfl (by kernel_rfl) (by kernel_rfl) (by kernel_rfl) (fun _ _ _ h => h) (Or.inl ⟨by rfl, ?_⟩) ?_
                rotate_left
                · intro w; go_simp; try (with_reducible rfl)
                try simp only [Act.put, List.setIfInBounds_toArray, List.set_cons_zero, List.set_cons_succ]
                refine take_any7 (i := 11) (d := some 81) (v := ?_) rfl rfl (by kernel_rfl) (by kernel_rfl) (by kernel_rfl) (fun _ _ _ h => h) (Or.inl ⟨by rfl, ?_⟩) ?_
                rotate_left
                · intro w; go_simp; try (with_reducible rfl)
                try simp only [Act.put, List.setIfInBounds_toArray, List.set_cons_zero, List.set_cons_succ]
                have h7 := H6.out.fr0 hF7
                refine one_any7 (i := 12) (d := none) rfl rfl rfl (by kernel_rfl) (fun K hK => ?_)
                refine wp_store_nd7 _ _ rfl pb 1 tb rfl rfl HTB.out (plan_nd h7.pl.box HTA.out).2.2 ?_
                refine hK _ _ ?_
                clear hK K
                refine wpAny_done (by kernel_rfl) ?_ _
                try simp only [Act.put, List.setIfInBounds_toArray, List.set_cons_zero, List.set_cons_succ]
                have hF8 := fr_setCells7 w7 pb 1 (nds tb)
                have h8 := h7.topped (tn' := tb) HTB.out
                have HN8 := Lib.hid (HNX.out _ A6 h8 (((HF6.out.mono (T := LyS A1 cb fb pb lm) (fun k _ hk => .inl hk)).trans hF7.no).trans (hF8.mono (T := LyS A1 cb fb pb lm) (fun k _ e => .inr (.inl e)))) HG6.out)
                generalize World.setCells w7 pb 1 (nds tb) = w8 at *
                clear h8 hF7 hF8 h7 HF6
                go_wp2_with fail
                refine ⟨⟨q + 1, by omega, by go_num, HN8.out⟩, by simp [intOf]; omega⟩
              · refine wpOp_step rfl (fun K hK => ?_)
                go_simp
                (go_at_call 68; ((with_reducible refine HWN.out.mono ?_); rintro e w6 ⟨rfl, A6, h6, hF6, hG6⟩))
                refine hK _ _ ?_
                clear hK K
                try simp only [Act.put, List.setIfInBounds_toArray, List.set_cons_zero, List.set_cons_succ]
                have h6g := H5.out.wrote h6 hF6 hG6
                have H6 := Lib.hid h6g
                have HF6 := Lib.hid hF6
                have HG6 := Lib.hid hG6
                have HT6 : RowKit.Hid (w6.rangeAt pb 1 (nds ta)) := Lib.hid (fun j v hj => (plan_nd h6g.pl.box HTA.out).2.1 j v hj)
                clear h6 hF6 hG6 h6g
                refine wpAny_all (rs := [4]) (by kernel_rfl) (by simp) ?_
                intro i hi
                simp only [List.mem_cons, List.not_mem_nil, or_false] at hi
                subst hi
                refine load_any7 (d := some 74) (v := .agg (nds ta).toArray) (S := fun w' => w'.rangeAt pb 1 (nds ta)) rfl rfl (yieldsIf_load_mid (by rfl) _ _ rfl pb 1 rfl (nds ta) _ (fun _ h => h) Tryd.underlying99 rfl HSA.out) HT6.out ?_
                try simp only [Act.put, List.setIfInBounds_toArray, List.set_cons_zero, List.set_cons_succ]
                refine wpAny_all (rs := [9]) (by kernel_rfl) (by simp) ?_
                intro i hi
                simp only [List.mem_cons, List.not_mem_nil, or_false] at hi
                subst hi
                refine wpOp_step rfl (fun K hK => ?_)
                go_simp
                (go_at_call 60; ((with_reducible refine (HWT.out _).mono ?_); rintro e w7 ⟨rfl, hF7⟩))
                refine hK _ _ ?_
                clear hK K
                try simp only [Act.put, List.setIfInBounds_toArray, List.set_cons_zero, List.set_cons_succ]
                refine take_any7 (i := 10) (d := some 80) (v := ?_) rfl rfl (by kernel_rfl) (by kernel_rfl) (by kernel_rfl) (fun _ _ _ h => h) (Or.inl ⟨by rfl, ?_⟩) ?_
                rotate_left
                · intro w; go_simp; try (with_reducible rfl)
                try simp only [Act.put, List.setIfInBounds_toArray, List.set_cons_zero, List.set_cons_succ]
                refine take_any7 (i := 11) (d := some 81) (v := ?_) rfl rfl (by kernel_rfl) (by kernel_rfl) (by kernel_rfl) (fun _ _ _ h => h) (Or.inl ⟨by rfl, ?_⟩) ?_
                rotate_left
                · intro w; go_simp; try (with_reducible rfl)
                try simp only [Act.put, List.setIfInBounds_toArray, List.set_cons_zero, List.set_cons_succ]
                have h7 := H6.out.fr0 hF7
                refine one_any7 (i := 12) (d := none) rfl rfl rfl (by kernel_rfl) (fun K hK => ?_)
                refine wp_store_nd7 _ _ rfl pb 1 tb rfl rfl HTB.out (plan_nd h7.pl.box HTA.out).2.2 ?_
                refine hK _ _ ?_
                clear hK K
                refine wpAny_done (by kernel_rfl) ?_ _
                try simp only [Act.put, List.setIfInBounds_toArray, List.set_cons_zero, List.set_cons_succ]
                have hF8 := fr_setCells7 w7 pb 1 (nds tb)
                have h8 := h7.topped (tn' := tb) HTB.out
                have HN8 := Lib.hid (HNX.out _ A6 h8 (((HF6.out.mono (T := LyS A1 cb fb pb lm) (fun k _ hk => .inl hk)).trans hF7.no).trans (hF8.mono (T := LyS A1 cb fb pb lm) (fun k _ e => .inr (.inl e)))) HG6.out)
                generalize World.setCells w7 pb 1 (nds tb) = w8 at *
                clear h8 hF7 hF8 h7 HF6
                go_wp2_with fail
                refine ⟨⟨q + 1, by omega, by go_num, HN8.out⟩, by simp [intOf]; omega⟩
        · obtain rfl : q = 4 := by omega
          have dq : decide (((4 : Nat) : Int) < 4) = false := by decide
          have hu4 := cntU4 F1
          unfold LyQ at hQ
          rw [hu4] at hQ
          obtain ⟨A1, hG, hF, hGr, hfr, hT⟩ := hQ
          generalize leavesL F1 tn c1 ws1 4 = t at *
          obtain ⟨ta, ct, wst⟩ := t
          dsimp only at hG hfr hT HRT
          have hTAl := hT.len
          have hTv := hT.vals
          have HE := Lib.hid (emptyg_calls hG.pl.box hTAl)
          have hFr := Lib.hid (And.intro (LyS.then HFG.out.1 hF HFG.out.2) (HFG.out.2.trans hGr HFG.out.1.size))
          by_cases hz : ta = nd0
          · have hR : R = (0, ct, wst) ∧ T = nd0 := by rw [HRT.out.1, HRT.out.2]; unfold layE; dsimp only; rw [if_pos hz]; exact ⟨rfl, hz⟩
            rw [decide_eq_true hz] at HE
            obtain ⟨rfl, rfl⟩ := hR
            have HEND : RowKit.Hid (LayQ w db mb cb fb N pb lm A acts L c F ps (0, ct, wst) nd0 (.returned (.int .i64 0)) wr) := Lib.hid ⟨rfl, A1, by rw [if_pos rfl, Nat.add_zero, ← HN1.out.2]; exact hG.wr.dk, hG.wr.sp, hG.wr.len, by rw [if_pos rfl]; have := HN1.out; dsimp only; omega, hFr.out.1, hFr.out.2⟩
            clear hz hG hF hGr hfr hT hTAl hTv HQ HRT hu4
            go_wp2_with fail
            refine HE.out.mono ?_
            rintro e w5 ⟨rfl, rfl⟩
            go_wp2_with fail
            go_ret
            exact HEND.out
          · have htz1 : tz = 1 := by rw [← HTZ.out, HRT.out.2, if_neg hz]
            obtain ⟨nn, htn⟩ := take_ok (c := ct) (by omega)
            have hfn := freeN_take htn
            have htN : takeN ct = nn := by unfold takeN; rw [htn]; rfl
            have hR : R = ((nn : Int), ct.set nn 1, wst ++ [(nn, encN ta)]) ∧ T = ta := by rw [HRT.out.1, HRT.out.2]; unfold layE; dsimp only; rw [if_neg hz, htN]; exact ⟨rfl, rfl⟩
            rw [decide_eq_false hz] at HE
            have HNT := Lib.hid (plan_nd hG.pl.box hTAl)
            have HWN := Lib.hid (writenG_calls hG.wr (by have := cnt4_le F1; omega) nn htn ta hTAl hTv)
            obtain ⟨rfl, rfl⟩ := hR
            have HEND : RowKit.Hid (∀ w8 A6, WrG w8 db mb cb fb wb N A6 (acts + ps.length + cnt4 F1 + 1) L (wst ++ [(nn, encN T)]) (ct.set nn 1) → Fr (WrS A1 cb fb) wr w8 → Gr7 wr A1 A6 → LayQ w db mb cb fb N pb lm A acts L c F ps ((nn : Int), ct.set nn 1, wst ++ [(nn, encN T)]) T (.returned (.int .i64 (nn : Int))) w8) := Lib.hid (fun w8 A6 h8 hF8 hG8 => ⟨rfl, A6, by rw [if_neg hz, ← HN1.out.2]; exact h8.dk, h8.sp, h8.len, by rw [if_neg hz]; have := HN1.out; dsimp only; omega, LyS.then hFr.out.1 (hF8.mono (T := LyS A1 cb fb pb lm) (fun k _ hk => .inl hk)) hFr.out.2, hFr.out.2.trans hG8 hFr.out.1.size⟩)
            clear hz hG hF hGr hfr hT hTAl hTv HQ HRT hu4 htn hfn htN
            go_wp2_with fail
            refine HE.out.mono ?_
            rintro e w5 ⟨rfl, rfl⟩
            go_wp2_with (first
              | (refine load_nd rfl _ rfl pb 1 T rfl HNT.out ?_)
              | fail "arm")
            refine HWN.out.mono ?_
            rintro e w8 ⟨rfl, A6, h8, hF8, hG8⟩
            have HE8 := Lib.hid (HEND.out _ _ h8 hF8 hG8)
            clear h8 hF8 hG8
            go_wp2_with fail
            go_ret
            exact HE8.out
end Go.Proofs.YtpcikbloflpahaaDoor
