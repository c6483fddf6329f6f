/-
  Chapter 7: Build's closure, at any tree.
-/
import Derived.Test.YtpcikbloflpahaaDoorZBu5
import Derived.Test.YtpcikbloflpahaaDoorZGp5
namespace Go.Proofs.YtpcikbloflpahaaDoor
set_option linter.unusedVariables false
set_option linter.unusedSimpArgs false
open Go.RowKit Go.Shelf Go.Maps

/-- A disk, a map of its sectors, the library's table. -/
structure BdG (w : World) (db mb cb fb N : Nat) (A : Nat → Prop) (acts : Nat) (L : List Int) (ws : Ws) (c : List Int) : Prop where
  dk : DkS w db N A acts L ws
  sp : SpG w mb cb fb c
  len : c.length = N
  tab : Tab64 w
  a1 : ¬ A mb
  a2 : ¬ A cb
  a3 : ¬ A fb
  a5 : ¬ A 0
  b1 : cb ≠ 0
  b2 : fb ≠ 0
theorem BdG.fr0 {w w' : World} {db mb cb fb N : Nat} {A : Nat → Prop} {acts : Nat} {L : List Int} {ws : Ws} {c : List Int} (h : BdG w db mb cb fb N A acts L ws c) (hF : Fr No w w') : BdG w' db mb cb fb N A acts L ws c :=
  ⟨h.dk.fr0 hF, h.sp.fr0 hF, h.len, h.tab.fr hF (fun h => h), h.a1, h.a2, h.a3, h.a5, h.b1, h.b2⟩
theorem BdG.ly {n : Nat} {w : World} {db mb cb fb N pb lm : Nat} {A : Nat → Prop} {acts : Nat} {L : List Int} {ws : Ws} {c tn : List Int} {F : LfF} {old : Int} {sm : Bool} {ps : List Chg} (h : BdG w db mb cb fb N A acts L ws c) (hp : PlG n w pb lm tn F old sm ps) (hn : ∀ k, A k → k < n) (hm : mb < n) (hc : cb < n) (hf : fb < n) (h0 : 0 < n) :
    ∃ pv vs, LyG n (w.alloc (Obj.cells #[.pointer (some ⟨db, 0, none⟩), .pointer (some ⟨mb, 0, none⟩)] 108)) db mb cb fb w.heap.size N pb lm pv vs A acts L ws c tn F old sm ps := by
  have hF : Fr No w (w.alloc (Obj.cells #[.pointer (some ⟨db, 0, none⟩), .pointer (some ⟨mb, 0, none⟩)] 108)) := (Fr.refl No w).alloc _
  have h1 := h.fr0 hF
  obtain ⟨⟨pv, vs, p1, p2, p3⟩, p4, p5, p6, p7⟩ := hp
  have hW : PlW n w pb lm pv vs tn F old sm ps := ⟨p1, p2, p3, p4, p7⟩
  have hl := hW.lt
  have hg : ∀ k, PlZ pb lm pv vs k → n ≤ k := by
    rintro k (rfl | rfl | e | ⟨x, hx, e⟩)
    · exact p5
    · exact p6
    · exact (p2.lt k e).1
    · obtain ⟨m, cs, hr⟩ := chv_row p3 hx
      exact (hr.lt k e).1
  refine ⟨pv, vs, ⟨h1.dk, h1.sp, h1.len, h1.tab, heap_new _ _, h1.a1, h1.a2, h1.a3, fun hA => ?_, h1.a5, h1.b1, h1.b2⟩, hW.fr hF (fun _ _ h => h), fun k hk => ?_⟩
  · have := h.dk.low _ hA; omega
  · have a := hl k hk
    have b := hg k hk
    exact ⟨fun hA => by have := hn k hA; omega, by omega, by omega, by omega, by omega, by omega⟩
/-- What Build comes to. -/
def bldF (B : List Int) (top : Int) (Lc : List ChA) : LfF := keepF (plnF B (rdN B top) (outG (pagesG Lc 128)))
def bldT (B : List Int) (top : Int) (Lc : List ChA) : List Int := topF (rdN B top) (plnF B (rdN B top) (outG (pagesG Lc 128)))
def bldR (B : List Int) (top : Int) (Lc : List ChA) (c : List Int) (ws : Ws) : Int × List Int × Ws := layR (bldF B top Lc) (bldT B top Lc) c ws (fullC (outG (pagesG Lc 128)))
def bldN (B : List Int) (top : Int) (Lc : List ChA) : Nat := (fullC (outG (pagesG Lc 128))).length + cnt4 (bldF B top Lc) + (if bldT B top Lc = nd0 then 0 else 1)
theorem costG_bld {B : List Int} {top : Int} {Lc : List ChA} (h : outG (pagesG Lc 128) ≠ []) : costG B top Lc = (bldN B top Lc : Int) := by
  unfold costG costP bldN bldF bldT
  rw [decide_eq_false h]
  by_cases e : topF (rdN B top) (plnF B (rdN B top) (outG (pagesG Lc 128))) = nd0
  · rw [if_neg (fun q => q.2 e), if_pos e]; omega
  · rw [if_pos ⟨rfl, e⟩, if_neg e]; omega
theorem costG_same {B : List Int} {top : Int} {Lc : List ChA} (h : outG (pagesG Lc 128) = []) : costG B top Lc = 0 := by
  unfold costG costP
  rw [h]
  have : (keepF (plnF B (rdN B top) [])) = fun _ => none := by funext i; rfl
  rw [this]
  simp [fullC, cnt4, one4]
def BldE (w : World) (db mb cb fb N : Nat) (A : Nat → Prop) (acts : Nat) (L : List Int) (ws : Ws) (c : List Int) (top : Int) (Lc : List ChA) (z : Int) (w' : World) : Prop :=
  ∃ A', Gr7 w A A' ∧ ((outG (pagesG Lc 128) = [] ∧ z = top ∧ DkS w' db N A' acts L ws ∧ SpG w' mb cb fb c) ∨
    (outG (pagesG Lc 128) ≠ [] ∧ z = (bldR (applyW L ws) top Lc c ws).1 ∧ DkS w' db N A' (acts + bldN (applyW L ws) top Lc) L (bldR (applyW L ws) top Lc c ws).2.2 ∧ SpG w' mb cb fb (bldR (applyW L ws) top Lc c ws).2.1 ∧ (bldR (applyW L ws) top Lc c ws).2.1.length = N ∧ freeN (bldR (applyW L ws) top Lc c ws).2.1 + bldN (applyW L ws) top Lc = freeN c))
theorem BldE.fr {S : Nat → Prop} {w w' w'' : World} {db mb cb fb N : Nat} {A : Nat → Prop} {acts : Nat} {L : List Int} {ws : Ws} {c : List Int} {top : Int} {Lc : List ChA} {z : Int} (h : BldE w db mb cb fb N A acts L ws c top Lc z w') (hF : Fr S w' w'') (h1 : ∀ k, S k → ¬ A k ∧ k < w.heap.size) (h2 : ∀ k, S k → k ≠ mb ∧ k ≠ cb ∧ k ≠ fb) : BldE w db mb cb fb N A acts L ws c top Lc z w'' := by
  obtain ⟨A', hG, h⟩ := h
  have hA : ∀ k, A' k → ¬ S k := fun k hk hs => (hG k hk).elim (h1 k hs).1 (fun e => by have := (h1 k hs).2; omega)
  have hB : ∀ k, SpB mb cb fb k → ¬ S k := fun k hk hs => by
    obtain ⟨a, b, d⟩ := h2 k hs
    rcases hk with e | e | e
    · exact a e
    · exact b e
    · exact d e
  refine ⟨A', hG, ?_⟩
  rcases h with ⟨a, b, d, e⟩ | ⟨a, b, d, e, f⟩
  · exact .inl ⟨a, b, d.fr hF hA, e.fr hF hB⟩
  · exact .inr ⟨a, b, d.fr hF hA, e.fr hF hB, f⟩
theorem Gr7.imp' {w w' : World} {A A' : Nat → Prop} (h : Gr7 w' A A') (hs : w.heap.size ≤ w'.heap.size) : Gr7 w A A' := fun j hj => (h j hj).imp id (fun e => Nat.le_trans hs e)
theorem plg_fr0 {n : Nat} {w w' : World} {pb lm : Nat} {tn : List Int} {F : LfF} {old : Int} {sm : Bool} {ps : List Chg} (h : PlG n w pb lm tn F old sm ps) (hF : Fr No w w') : PlG n w' pb lm tn F old sm ps := by
  obtain ⟨⟨pv, vs, p1, p2, p3⟩, p4, p5, p6, p7⟩ := h
  exact ⟨⟨pv, vs, hF.heap p1 (fun h => h), ownsRow_fr7 p2 hF (fun _ _ h => h), p3.fr0 hF⟩, p4.fr hF (fun h => h), p5, p6, p7⟩
theorem bldN_eq (B : List Int) (top : Int) (Lc : List ChA) : bldN B top Lc = (fullC (outG (pagesG Lc 128))).length + cnt4 (bldF B top Lc) + (if bldT B top Lc = nd0 then 0 else 1) := rfl
theorem bldR_eq (B : List Int) (top : Int) (Lc : List ChA) (c : List Int) (ws : Ws) : bldR B top Lc c ws = layR (bldF B top Lc) (bldT B top Lc) c ws (fullC (outG (pagesG Lc 128))) := rfl
theorem bldF_eq (B : List Int) (top : Int) (Lc : List ChA) : keepF (plnF B (rdN B top) (outG (pagesG Lc 128))) = bldF B top Lc := rfl
theorem bldT_eq (B : List Int) (top : Int) (Lc : List ChA) : topF (rdN B top) (plnF B (rdN B top) (outG (pagesG Lc 128))) = bldT B top Lc := rfl
theorem bld_kept {B : List Int} {top : Int} {Lc : List ChA} (k : Nat) (hk : k < 32) (h : (bldF B top Lc (k : Int)).isSome = true) : (bldT B top Lc).getD k 0 ≠ 0 := by
  unfold bldF keepF at h
  unfold bldT
  rw [List.getD_eq_getElem?_getD, List.getElem?_eq_getElem (by rw [topF_len]; omega)]
  simp only [topF, List.getElem_map, List.getElem_range, Option.getD_some]
  cases hq : plnF B (rdN B top) (outG (pagesG Lc 128)) (k : Int) with
  | none => rw [hq] at h; cases h
  | some l =>
    rw [hq] at h
    by_cases e : l = nd0
    · simp [e] at h
    · simp [e]
theorem bldT_len (B : List Int) (top : Int) (Lc : List ChA) : (bldT B top Lc).length = 32 := topF_len _ _
theorem pagesG_mem {L : List ChA} {n : Nat} {y : ChA} (h : y ∈ pagesG L n) : y ∈ L := by
  induction n with
  | zero => simp [pagesG] at h
  | succ n ih =>
    unfold pagesG at h
    rcases List.mem_append.1 h with h | h
    · exact ih h
    · cases hl : lastG L (n : Int) with
      | none => rw [hl] at h; simp at h
      | some b =>
        rw [hl] at h
        simp at h
        subst h
        exact lastG_mem hl
attribute [local irreducible] nd0 rdN ndB decN bldR bldN bldF bldT costG freeN
set_option maxHeartbeats 8000000 in
set_option maxRecDepth 1000000 in
theorem buildg1_calls {w : World} {db mb cb fb N p0 p1 p2 p3 p4 : Nat} {A : Nat → Prop} {acts : Nat} {L : List Int} {ws : Ws} {c : List Int} (h : BdG w db mb cb fb N A acts L ws c) (ha : acts < 900000) (top : Int) (htop : -9223372036854775808 ≤ top ∧ top ≤ 9223372036854775807)
    (v : Value) (Lc : List ChA) (hv : Sl w v Lc.length (Lc.flatMap chaC)) (hok : ∀ y ∈ Lc, chaOk w y) (hlen : Lc.length ≤ 140737488355328)
    (q0 : w.cell? ⟨p0, 0, none⟩ = some (.pointer (some ⟨db, 0, none⟩))) (q1 : w.cell? ⟨p1, 0, none⟩ = some (.int .i64 top)) (q2 : w.cell? ⟨p2, 0, none⟩ = some v) (q3 : w.cell? ⟨p3, 0, none⟩ = some (.pointer (some ⟨mb, 0, none⟩))) {v0 : Value} (q4 : w.heap[p4]? = some (.cells [v0].toArray 3 (0, 0)))
    (o1 : ¬ A p4) (o2 : p4 ≠ cb) (o3 : p4 ≠ fb) (o4 : p4 ≠ mb) :
    Calls Tryd.prog 46 #[.pointer (some ⟨p0, 0, none⟩), .pointer (some ⟨p1, 0, none⟩), .pointer (some ⟨p2, 0, none⟩), .pointer (some ⟨p3, 0, none⟩), .pointer (some ⟨p4, 0, none⟩)] w fun e w' => Fr (fun k => A k ∨ k = cb ∨ k = fb ∨ k = p4) w w' ∧
      ((e = .returned (.tuple #[]) ∧ ((∀ y ∈ Lc, goodC y) ∧ (∃ s, treeB (applyW L ws) N top = some s) ∧ costG (applyW L ws) top Lc ≤ (freeN c : Int) ∧ ∃ z, w'.cell? ⟨p4, 0, none⟩ = some (.int .i64 z) ∧ BldE w db mb cb fb N A acts L ws c top Lc z w')) ∨
       ∃ n : Int, e = .panicked [{ v := .iface 122 (.agg #[.int .i64 n]), recovered := false }] ∧ Fr No w w' ∧ (CostX (applyW L ws) N top Lc n ∨ ((∀ y ∈ Lc, goodC y) ∧ (∃ s, treeB (applyW L ws) N top = some s) ∧ (freeN c : Int) < costG (applyW L ws) top Lc ∧ n = 50))) := by
  obtain ⟨av, cv, rfl⟩ := hv.form
  have HP := Lib.hid (plannedg_calls h.dk.toR top htop _ Lc hv hok hlen)
  have HQ := Lib.hid q4
  have H := Lib.hid h
  have HOK := Lib.hid hok
  have HO := Lib.hid (And.intro o1 (And.intro o2 (And.intro o3 o4)))
  have hl4 := heap_lt7 q4
  have HRG := Lib.hid ((applyW_all h.dk.ok.1 h.dk.ok.2.1 ws h.dk.ok.2.2).2.1)
  have HBE : RowKit.Hid (∀ z w', BldE w db mb cb fb N A acts L ws c top Lc z w' → BldE w db mb cb fb N A acts L ws c top Lc z w') := Lib.hid (fun _ _ h => h)
  clear h hv hok q4 o1 o2 o3 o4
  obtain ⟨B, hB⟩ : ∃ B, applyW L ws = B := ⟨_, rfl⟩
  rw [hB] at HP HRG ⊢
  have HBB := Lib.hid hB
  clear hB
  obtain ⟨z, hz⟩ : ∃ z, costG B top Lc = z := ⟨_, rfl⟩
  rw [hz]
  have HZ := Lib.hid hz
  clear hz
  obtain ⟨fc, hfc⟩ : ∃ fc, freeN c = fc := ⟨_, rfl⟩
  rw [hfc]
  have HFC := Lib.hid hfc
  clear hfc
  go_enter Tryd.func46, Tryd.ntmps46
  go_wp2_with fail
  refine HP.out.mono ?_
  rintro e w1 ⟨hF1, ⟨hb, rfl⟩ | ⟨hg, ht, rfl⟩ | ⟨hg, hs, pb, lm, rfl, hpl⟩⟩
  · have HF := Lib.hid hF1
    have HB := Lib.hid hb
    clear hF1 hb
    go_wp2_with fail
    exact ⟨rfl, HF.out.no, .inr ⟨1, rfl, HF.out, .inl (.inl ⟨HB.out, rfl⟩)⟩⟩
  · have HF := Lib.hid hF1
    have HB := Lib.hid (And.intro hg ht)
    clear hF1 hg ht
    go_wp2_with fail
    exact ⟨rfl, HF.out.no, .inr ⟨60, rfl, HF.out, .inl (.inr ⟨HB.out.1, HB.out.2, rfl⟩)⟩⟩
  have HF1 := Lib.hid hF1
  have HG := Lib.hid (And.intro hg hs)
  have HPL := Lib.hid hpl
  have HCG := Lib.hid (And.intro (outG_good hg) (outG_asc Lc))
  have k3 : w1.drew.cell? ⟨p3, 0, none⟩ = some (.pointer (some ⟨mb, 0, none⟩)) := hF1.cell q3 (fun h => h)
  have k0 : w1.cell? ⟨p0, 0, none⟩ = some (.pointer (some ⟨db, 0, none⟩)) := hF1.cell q0 (fun h => h)
  have hFd : Fr No w1 w1.drew := (Fr.refl No w1).drew
  have HC : RowKit.Hid (Calls Tryd.prog 37 #[.pointer (some ⟨pb, 0, none⟩)] w1.drew fun e w' => e = .returned (.int .i64 z) ∧ Fr No w1.drew w') := Lib.hid (by
    rw [← HZ.out]
    unfold costG
    exact costg_calls (plg_fr0 hpl hFd) (fullC_le Lc))
  have H1 := Lib.hid ((H.out.fr0 hF1).fr0 hFd)
  clear hF1 hpl q0 q1 q2 q3 hg hs hFd
  go_upto_region 1 with fail
  refine wp_region_held_drew (S := (fun w' => w'.cell? ⟨p3, 0, none⟩ = some (.pointer (some ⟨mb, 0, none⟩)))) (by kernel_rfl) k3 (fun hS0 => ?_)
  refine take_at7 (i := 0) (d := some 10) (v := ?_) rfl rfl (by kernel_rfl) (by kernel_rfl) (by kernel_rfl) (fun _ _ _ h => h) (Or.inl ⟨by rfl, ?_⟩) (by assumption) ?_
  rotate_left
  · intro w hSw; go_simp; try (with_reducible rfl)
  try simp only [Act.put, List.setIfInBounds_toArray, List.set_cons_zero, List.set_cons_succ]
  refine take_at7 (i := 2) (d := some 12) (v := ?_) rfl rfl (by kernel_rfl) (by kernel_rfl) (by kernel_rfl) (fun _ _ _ h => h) (Or.inl ⟨by rfl, ?_⟩) (by assumption) ?_
  rotate_left
  · intro w hSw; go_simp; try (with_reducible rfl)
  try simp only [Act.put, List.setIfInBounds_toArray, List.set_cons_zero, List.set_cons_succ]
  refine one_H7 (i := 1) (d := some 11) rfl rfl rfl (by kernel_rfl) (fun K hK => ?_)
  go_simp
  (go_at_call 37; ((with_reducible refine (HC.out).mono ?_); rintro e w2 ⟨rfl, hF2⟩))
  refine hK.out _ _ (hF2.cell k3 (fun h => h)) (fun hHeld => ?_)
  clear hK K
  try simp only [Act.put, List.setIfInBounds_toArray, List.set_cons_zero, List.set_cons_succ]
  have H2 := Lib.hid (H1.out.fr0 hF2)
  have hfr := sfreeg_calls H2.out.sp
  rw [HFC.out] at hfr
  have HFR := Lib.hid hfr
  clear hfr
  refine one_H7 (i := 3) (d := some 13) rfl rfl rfl (by kernel_rfl) (fun K hK => ?_)
  go_simp
  (go_at_call 24; ((with_reducible refine (HFR.out).mono ?_); rintro e w3 ⟨rfl, rfl⟩))
  refine hK.out _ _ (hF2.cell k3 (fun h => h)) (fun hHeld => ?_)
  clear hK K
  try simp only [Act.put, List.setIfInBounds_toArray, List.set_cons_zero, List.set_cons_succ]
  refine take_at7 (i := 4) (d := some 14) (v := ?_) rfl rfl (by kernel_rfl) (by kernel_rfl) (by kernel_rfl) (fun _ _ _ h => h) (Or.inl ⟨by rfl, ?_⟩) (by assumption) ?_
  rotate_left
  · intro w hSw; go_simp; try (with_reducible rfl)
  try simp only [Act.put, List.setIfInBounds_toArray, List.set_cons_zero, List.set_cons_succ]
  refine wpAnyH_done (by kernel_rfl) ?_ _
  have hF12 : Fr No w1 w3 := (Fr.refl No w1).drew.trans hF2
  have k0 := hF12.cell k0 (fun h => h)
  have k3 : w3.cell? ⟨p3, 0, none⟩ = some (.pointer (some ⟨mb, 0, none⟩)) := hF2.cell k3 (fun h => h)
  have HF12 := Lib.hid hF12
  have HF03 := Lib.hid (HF1.out.trans hF12)
  clear hF12 hF2 hS0 hHeld
  by_cases hfull : (fc : Int) < z
  · have d1 : decide ((fc : Int) < z) = true := decide_eq_true hfull
    have HX := Lib.hid hfull
    have HM := Lib.hid (smustbad_calls 50 (by decide))
    go_wp2_with fail
    refine (HM.out _).mono ?_
    rintro e w4 ⟨rfl, rfl⟩
    go_wp2_with fail
    exact ⟨rfl, HF03.out.no, .inr ⟨50, rfl, HF03.out, .inr ⟨HG.out.1, HG.out.2, HX.out, rfl⟩⟩⟩
  · have d1 : decide ((fc : Int) < z) = false := decide_eq_false hfull
    have HX := Lib.hid hfull
    have H3 := Lib.hid H2.out
    have hFa : Fr No w3 (w3.alloc (Obj.cells #[.pointer (some ⟨db, 0, none⟩), .pointer (some ⟨mb, 0, none⟩)] 108)) := (Fr.refl No w3).alloc _
    have HF3 := Lib.hid (HF03.out.trans hFa)
    have HPL3 := Lib.hid (plg_fr0 HPL.out HF12.out)
    go_wp2_with fail
    by_cases hcs : outG (pagesG Lc 128) = []
    · have hpl3 := plg_fr0 HPL3.out hFa
      rw [decide_eq_true hcs] at hpl3
      obtain ⟨⟨pv, vs, r1, r2, r3⟩, r4, r5, r6, r7⟩ := hpl3
      have HL := Lib.hid (slay_same (wb := w3.heap.size) r1 r7)
      have HCS := Lib.hid hcs
      have hb4 := HF3.out.heap HQ.out (fun h => h)
      have HB4 := Lib.hid hb4
      have HS := Lib.hid ((Fr.refl (fun k => k = p4) (w3.alloc (Obj.cells #[.pointer (some ⟨db, 0, none⟩), .pointer (some ⟨mb, 0, none⟩)] 108))).setCell (p := ⟨p4, 0, none⟩) (fun _ => rfl) (.int .i64 top))
      have HE : RowKit.Hid (BldE w db mb cb fb N A acts L ws c top Lc top (w3.alloc (Obj.cells #[.pointer (some ⟨db, 0, none⟩), .pointer (some ⟨mb, 0, none⟩)] 108))) := Lib.hid ⟨A, Gr7.refl _ _, .inl ⟨hcs, rfl, (H3.out.fr0 hFa).dk, (H3.out.fr0 hFa).sp⟩⟩
      clear r1 r2 r3 r4 r5 r6 r7 hcs hb4 hFa
      refine HL.out.mono ?_
      rintro e w4 ⟨rfl, hw4⟩
      rw [← hw4] at HB4 HS HE HF3
      clear hw4
      have k4 := heap_cell (o := 0) HB4.out rfl
      have f4 := heap_frozen (o := 0) HB4.out
      go_wp2_with fail
      go_end0
      refine ⟨HF3.out.no.trans (HS.out.mono (fun k _ (e : k = p4) => .inr (.inr (.inr e)))), .inl ⟨rfl, HG.out.1, HG.out.2, by omega, top, heap_cell (o := 0) (heap_setAt7 HB4.out 0 _) rfl, ?_⟩⟩
      exact HE.out.fr HS.out (fun k (e : k = p4) => by subst e; exact ⟨HO.out.1, hl4⟩) (fun k (e : k = p4) => by subst e; exact ⟨HO.out.2.2.2, HO.out.2.1, HO.out.2.2.1⟩)
    · have hpl3 := HPL3.out
      rw [decide_eq_false hcs] at hpl3
      have hbr : ∀ x ∈ outG (pagesG Lc 128), ∀ b ∈ x.2, 0 ≤ b ∧ b < 256 := fun x hx => by
        unfold outG at hx
        rw [List.mem_map] at hx
        obtain ⟨y, hy, rfl⟩ := hx
        exact (HOK.out y (pagesG_mem hy)).2.2.2
      have hpo := plan_ok HRG.out top _ HCG.out.1 hbr HCG.out.2
      have hbn := costG_bld (B := B) (top := top) hcs
      rw [HZ.out] at hbn
      have hroom : bldN B top Lc ≤ freeN c := by rw [HFC.out]; omega
      have hbn2 := bldN_eq B top Lc
      rw [bldF_eq, bldT_eq] at hpo hpl3
      have hiff := layT_nd0 (bldF B top Lc) (bldT B top Lc) c ws (fullC (outG (pagesG Lc 128))) (bldT_len _ _ _) (by rw [hbn2] at hroom; omega) (fun i l hl => by have := hpo.1.1 i l hl; omega) (fun k hk h => bld_kept k hk h)
      have hif : (if layT (bldF B top Lc) (bldT B top Lc) c ws (fullC (outG (pagesG Lc 128))) = nd0 then 0 else 1) = (if bldT B top Lc = nd0 then 0 else 1) := by
        by_cases e : bldT B top Lc = nd0
        · rw [if_pos e, if_pos (hiff.2 e)]
        · rw [if_neg e, if_neg (fun h => e (hiff.1 h))]
      obtain ⟨pv, vs, hly⟩ := H3.out.ly (n := w.heap.size) hpl3 H.out.dk.low (H.out.sp.low _ (.inl rfl)) (H.out.sp.low _ (.inr (.inl rfl))) (H.out.sp.low _ (.inr (.inr rfl))) H.out.tab.pos
      have hlay := slayg_calls hly (fullC_le Lc) ha hpo.1 hpo.2 (by rw [hif, ← hbn2]; exact hroom)
      rw [← bldR_eq] at hlay
      have HPN := Lib.hid (And.intro hpl3.n1 hpl3.n2)
      have HIF := Lib.hid (And.intro hif hbn2)
      have HCS := Lib.hid hcs
      have HR := Lib.hid hroom
      generalize layT (bldF B top Lc) (bldT B top Lc) c ws (fullC (outG (pagesG Lc 128))) = T at *
      clear hly hiff hif hpo hbr hpl3 hbn2 hbn hroom
      refine hlay.mono ?_
      clear hlay
      rintro e w4 ⟨rfl, A', hdk, hsp, hln, hfr, hF4, hG4⟩
      have hE : BldE w db mb cb fb N A acts L ws c top Lc (bldR B top Lc c ws).1 w4 := by
        obtain ⟨i1, i2⟩ := HIF.out
        have e1 : acts + bldN B top Lc = acts + (fullC (outG (pagesG Lc 128))).length + cnt4 (bldF B top Lc) + (if T = nd0 then 0 else 1) := by
          rw [i2, i1]
          generalize (if bldT B top Lc = nd0 then 0 else 1) = d
          omega
        have e2 : freeN (bldR B top Lc c ws).2.1 + bldN B top Lc = freeN c := by
          rw [i2, ← i1]
          exact hfr
        rw [← e1] at hdk
        have hlast : outG (pagesG Lc 128) ≠ [] ∧ (bldR B top Lc c ws).1 = (bldR (applyW L ws) top Lc c ws).1 ∧ DkS w4 db N A' (acts + bldN (applyW L ws) top Lc) L (bldR (applyW L ws) top Lc c ws).2.2 ∧ SpG w4 mb cb fb (bldR (applyW L ws) top Lc c ws).2.1 ∧ (bldR (applyW L ws) top Lc c ws).2.1.length = N ∧ freeN (bldR (applyW L ws) top Lc c ws).2.1 + bldN (applyW L ws) top Lc = freeN c := by
          rw [HBB.out]
          exact ⟨HCS.out, rfl, hdk, hsp, hln, e2⟩
        exact ⟨A', hG4.imp' HF3.out.size, .inr hlast⟩
      have hFb := HF3.out.no.trans' hF4 (S := fun k => A k ∨ k = cb ∨ k = fb) (fun i hi hs => by
        obtain ⟨n1, n2⟩ := HPN.out
        rcases hs with (hs | hs | hs) | hs | hs
        · exact .inl hs
        · exact .inr (.inl hs)
        · exact .inr (.inr hs)
        · omega
        · omega)
      have hb4 := hFb.heap HQ.out (fun hs => hs.elim HO.out.1 (fun e => e.elim HO.out.2.1 HO.out.2.2.1))
      have HB4 := Lib.hid hb4
      have HF4 := Lib.hid hFb
      have HE := Lib.hid hE
      have k4 := heap_cell (o := 0) hb4 rfl
      have f4 := heap_frozen (o := 0) hb4
      generalize (bldR B top Lc c ws).1 = zz at *
      clear hE hFb hb4 hdk hsp hln hfr hF4 hG4 hFa
      go_wp2_with fail
      go_end0
      have hS : Fr (fun k => k = p4) w4 (w4.setCell ⟨p4, 0, none⟩ (.int .i64 zz)) := (Fr.refl (fun k => k = p4) w4).setCell (p := ⟨p4, 0, none⟩) (fun _ => rfl) _
      refine ⟨(HF4.out.mono (fun k _ hk => hk.elim .inl (fun e => .inr (e.elim .inl (fun e => .inr (.inl e)))))).trans (hS.mono (fun k _ (e : k = p4) => .inr (.inr (.inr e)))), .inl ⟨rfl, HG.out.1, HG.out.2, by omega, zz, heap_cell (o := 0) (heap_setAt7 HB4.out 0 _) rfl, ?_⟩⟩
      exact HE.out.fr hS (fun k (e : k = p4) => by subst e; exact ⟨HO.out.1, hl4⟩) (fun k (e : k = p4) => by subst e; exact ⟨HO.out.2.2.2, HO.out.2.1, HO.out.2.2.1⟩)
end Go.Proofs.YtpcikbloflpahaaDoor
