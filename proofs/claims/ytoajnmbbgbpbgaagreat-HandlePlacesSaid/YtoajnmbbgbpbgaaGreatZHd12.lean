/-
  Chapter 13: Resize, Seek, Close. (Printed by wip/tools/hd12.py.)
-/
import Derived.Test.YtoajnmbbgbpbgaaGreatZHd6
import Derived.Test.YtoajnmbbgbpbgaaGreatZHd9
namespace Go.Proofs.YtoajnmbbgbpbgaaGreat
set_option linter.unusedVariables false
set_option linter.unusedSimpArgs false
open Go.RowKit Go.Shelf Go.Maps

def hresizeR (B : List Int) (h m : Int) : List Int × Int := match lookF B h with | none => (B, badE B) | some p => resizeR B p.1 m
def seek1R (B : List Int) (h s a : Int) : List Int × Int := if a < 0 ∨ s < a then (B, 1) else (setF B (cellH h + 8) a, 0)
def hseekR (B : List Int) (h a : Int) : List Int × Int := match lookF B h with | none => (B, badE B) | some p => seek1R B h p.2.1 a
def closeB (B : List Int) (h : Int) : List Int := layF B (cellH h) (zs 16)
def hcloseR (B : List Int) (h : Int) : List Int × Int := match lookF B h with | none => (B, badE B) | some p => (closeB B h, 0)

set_option maxHeartbeats 1000000 in
set_option maxRecDepth 1000000 in
theorem with_resize {w : World} {mb : Nat} {A : Nat → Prop} {F B : List Int} (hM : MemAt w mb A F B) (h : Int) (c0 : Value) (c1 : Value) {nd sz at_ : Int} (hl : lookF B h = some (nd, sz, at_)) (Q : Value → World → Prop)
    (HC : ∀ w1 A1, Mp w mb A F B w1 A1 → Calls Tryz.prog 76 #[.agg #[.int .i64 nd, .int .i64 sz, .int .i64 at_], c0, c1] w1 fun e w' => ∃ v, e = .returned v ∧ Q v w') :
    Calls Tryz.prog 38 #[.pointer (some ⟨mb, 0, none⟩), .int .i64 h, .func (.func 76) #[] #[c0, c1]] w fun e w' => ∃ v, e = .returned v ∧ Q v w' := by
  have HCK := Lib.hid (by have := fcheck_calls hM; rw [look_check hl] at this; exact this)
  have HLK := Lib.hid (fun (w1 : World) A1 (hM1 : MemAt w1 mb A1 F B) => (by
    have := look_calls hM1 h
    unfold LookP at this
    rw [hl] at this; exact this))
  have HCL := Lib.hid HC
  clear hM hl HC
  go_enter Tryz.func38, Tryz.ntmps38
  go_wp2_with fail
  refine HCK.out.mono ?_
  rintro e w1 ⟨A1, rfl, hp⟩
  have HP := Lib.hid hp
  clear hp
  go_wp2_with fail
  refine (HLK.out _ _ HP.out.1).mono ?_
  rintro e w2 ⟨A2, a, b, c, rfl, hp2, hq⟩
  have he := hq _ rfl
  injection he with he1 he2
  injection he2 with he2 he3
  subst he1; subst he2; subst he3
  have HP2 := Lib.hid ((HP.out.trans hp2).thenFr ((Fr.refl _ _).alloc (Obj.cells #[.int .i64 nd, .int .i64 sz, .int .i64 at_] 68)))
  clear hp2 hq
  go_wp2_with fail
  refine (HCL.out _ _ HP2.out).mono ?_
  rintro e w3 ⟨v, rfl, hv⟩
  go_wp2
  go_ret
  exact ⟨_, rfl, hv⟩

set_option maxHeartbeats 1000000 in
set_option maxRecDepth 1000000 in
theorem with_seek {w : World} {mb : Nat} {A : Nat → Prop} {F B : List Int} (hM : MemAt w mb A F B) (h : Int) (c0 : Value) (c1 : Value) (c2 : Value) {nd sz at_ : Int} (hl : lookF B h = some (nd, sz, at_)) (Q : Value → World → Prop)
    (HC : ∀ w1 A1, Mp w mb A F B w1 A1 → Calls Tryz.prog 77 #[.agg #[.int .i64 nd, .int .i64 sz, .int .i64 at_], c0, c1, c2] w1 fun e w' => ∃ v, e = .returned v ∧ Q v w') :
    Calls Tryz.prog 38 #[.pointer (some ⟨mb, 0, none⟩), .int .i64 h, .func (.func 77) #[] #[c0, c1, c2]] w fun e w' => ∃ v, e = .returned v ∧ Q v w' := by
  have HCK := Lib.hid (by have := fcheck_calls hM; rw [look_check hl] at this; exact this)
  have HLK := Lib.hid (fun (w1 : World) A1 (hM1 : MemAt w1 mb A1 F B) => (by
    have := look_calls hM1 h
    unfold LookP at this
    rw [hl] at this; exact this))
  have HCL := Lib.hid HC
  clear hM hl HC
  go_enter Tryz.func38, Tryz.ntmps38
  go_wp2_with fail
  refine HCK.out.mono ?_
  rintro e w1 ⟨A1, rfl, hp⟩
  have HP := Lib.hid hp
  clear hp
  go_wp2_with fail
  refine (HLK.out _ _ HP.out.1).mono ?_
  rintro e w2 ⟨A2, a, b, c, rfl, hp2, hq⟩
  have he := hq _ rfl
  injection he with he1 he2
  injection he2 with he2 he3
  subst he1; subst he2; subst he3
  have HP2 := Lib.hid ((HP.out.trans hp2).thenFr ((Fr.refl _ _).alloc (Obj.cells #[.int .i64 nd, .int .i64 sz, .int .i64 at_] 68)))
  clear hp2 hq
  go_wp2_with fail
  refine (HCL.out _ _ HP2.out).mono ?_
  rintro e w3 ⟨v, rfl, hv⟩
  go_wp2
  go_ret
  exact ⟨_, rfl, hv⟩

set_option maxHeartbeats 1000000 in
set_option maxRecDepth 1000000 in
theorem with_close {w : World} {mb : Nat} {A : Nat → Prop} {F B : List Int} (hM : MemAt w mb A F B) (h : Int) (c0 : Value) (c1 : Value) {nd sz at_ : Int} (hl : lookF B h = some (nd, sz, at_)) (Q : Value → World → Prop)
    (HC : ∀ w1 A1, Mp w mb A F B w1 A1 → Calls Tryz.prog 67 #[.agg #[.int .i64 nd, .int .i64 sz, .int .i64 at_], c0, c1] w1 fun e w' => ∃ v, e = .returned v ∧ Q v w') :
    Calls Tryz.prog 38 #[.pointer (some ⟨mb, 0, none⟩), .int .i64 h, .func (.func 67) #[] #[c0, c1]] w fun e w' => ∃ v, e = .returned v ∧ Q v w' := by
  have HCK := Lib.hid (by have := fcheck_calls hM; rw [look_check hl] at this; exact this)
  have HLK := Lib.hid (fun (w1 : World) A1 (hM1 : MemAt w1 mb A1 F B) => (by
    have := look_calls hM1 h
    unfold LookP at this
    rw [hl] at this; exact this))
  have HCL := Lib.hid HC
  clear hM hl HC
  go_enter Tryz.func38, Tryz.ntmps38
  go_wp2_with fail
  refine HCK.out.mono ?_
  rintro e w1 ⟨A1, rfl, hp⟩
  have HP := Lib.hid hp
  clear hp
  go_wp2_with fail
  refine (HLK.out _ _ HP.out.1).mono ?_
  rintro e w2 ⟨A2, a, b, c, rfl, hp2, hq⟩
  have he := hq _ rfl
  injection he with he1 he2
  injection he2 with he2 he3
  subst he1; subst he2; subst he3
  have HP2 := Lib.hid ((HP.out.trans hp2).thenFr ((Fr.refl _ _).alloc (Obj.cells #[.int .i64 nd, .int .i64 sz, .int .i64 at_] 68)))
  clear hp2 hq
  go_wp2_with fail
  refine (HCL.out _ _ HP2.out).mono ?_
  rintro e w3 ⟨v, rfl, hv⟩
  go_wp2
  go_ret
  exact ⟨_, rfl, hv⟩

set_option maxHeartbeats 1000000 in
set_option maxRecDepth 1000000 in
theorem hresize1_calls {w : World} {mb : Nat} {A : Nat → Prop} {F B : List Int} (hM : MemAt w mb A F B) (nd sz at_ m : Int) (bm bs : Nat)
    (hbm : w.heap[bm]? = some (.cells #[.pointer (some ⟨mb, 0, none⟩)] 26 (0, 0))) (hbs : w.heap[bs]? = some (.cells #[.int .i64 m] 3 (0, 0))) :
    Calls Tryz.prog 76 #[.agg #[.int .i64 nd, .int .i64 sz, .int .i64 at_], .pointer (some ⟨bm, 0, none⟩), .pointer (some ⟨bs, 0, none⟩)] w (FsP w mb A F (resizeR B nd m).1 (.int .i64 (resizeR B nd m).2)) := by
  have HFa : RowKit.Hid (Fr No w (w.alloc (Obj.cells #[.int .i64 nd, .int .i64 sz, .int .i64 at_] 68))) := Lib.hid ((Fr.refl _ _).alloc _)
  have HRZ := Lib.hid (fresize_calls (hM.fr0 HFa.out) nd m)
  have HB9 := Lib.hid (heap_new w (Obj.cells #[.int .i64 nd, .int .i64 sz, .int .i64 at_] 68))
  have c0 := heap_cell (o := 0) HB9.out rfl
  have m0 := heap_cell (o := 0) (heap_alloc (Obj.cells #[.int .i64 nd, .int .i64 sz, .int .i64 at_] 68) hbm) rfl
  have m1 := heap_cell (o := 0) (heap_alloc (Obj.cells #[.int .i64 nd, .int .i64 sz, .int .i64 at_] 68) hbs) rfl
  generalize resizeR B nd m = r at *
  clear hM hbm hbs
  go_enter Tryz.func76, Tryz.ntmps76
  go_wp2_with fail
  refine HRZ.out.mono ?_
  rintro e w1 ⟨A1, rfl, hp⟩
  have HP := Lib.hid (Mp.pre HFa.out hp)
  clear hp
  go_wp2
  go_ret
  exact ⟨A1, rfl, HP.out⟩

set_option maxHeartbeats 1000000 in
set_option maxRecDepth 1000000 in
theorem hseek1_calls {w : World} {mb : Nat} {A : Nat → Prop} {F B : List Int} (hM : MemAt w mb A F B) (nd sz at_ a h : Int) (h1 : 1 ≤ h ∧ h ≤ 4) (ba bm bh : Nat)
    (hba : w.heap[ba]? = some (.cells #[.int .i64 a] 3 (0, 0))) (hbm : w.heap[bm]? = some (.cells #[.pointer (some ⟨mb, 0, none⟩)] 26 (0, 0))) (hbh : w.heap[bh]? = some (.cells #[.int .i64 h] 3 (0, 0))) :
    Calls Tryz.prog 77 #[.agg #[.int .i64 nd, .int .i64 sz, .int .i64 at_], .pointer (some ⟨ba, 0, none⟩), .pointer (some ⟨bm, 0, none⟩), .pointer (some ⟨bh, 0, none⟩)] w (FsP w mb A F (seek1R B h sz a).1 (.int .i64 (seek1R B h sz a).2)) := by
  have HFa : RowKit.Hid (Fr No w (w.alloc (Obj.cells #[.int .i64 nd, .int .i64 sz, .int .i64 at_] 68))) := Lib.hid ((Fr.refl _ _).alloc _)
  have HMV := Lib.hid (hmove_calls (hM.fr0 HFa.out) h a h1)
  have HM := Lib.hid (Mp.refl hM)
  have HB9 := Lib.hid (heap_new w (Obj.cells #[.int .i64 nd, .int .i64 sz, .int .i64 at_] 68))
  have c1 := heap_cell (o := 1) HB9.out rfl
  have ma := heap_cell (o := 0) (heap_alloc (Obj.cells #[.int .i64 nd, .int .i64 sz, .int .i64 at_] 68) hba) rfl
  have mm := heap_cell (o := 0) (heap_alloc (Obj.cells #[.int .i64 nd, .int .i64 sz, .int .i64 at_] 68) hbm) rfl
  have mh := heap_cell (o := 0) (heap_alloc (Obj.cells #[.int .i64 nd, .int .i64 sz, .int .i64 at_] 68) hbh) rfl
  have hcase : (decide (a < 0) = true ∧ seek1R B h sz a = (B, 1)) ∨ (decide (a < 0) = false ∧ decide (sz < a) = true ∧ seek1R B h sz a = (B, 1)) ∨ (decide (a < 0) = false ∧ decide (sz < a) = false ∧ seek1R B h sz a = (setF B (cellH h + 8) a, 0)) := by
    by_cases q1 : a < 0
    · exact .inl ⟨decide_eq_true q1, by rw [seek1R, if_pos (.inl q1)]⟩
    · by_cases q2 : sz < a
      · exact .inr (.inl ⟨decide_eq_false q1, decide_eq_true q2, by rw [seek1R, if_pos (.inr q2)]⟩)
      · exact .inr (.inr ⟨decide_eq_false q1, decide_eq_false q2, by rw [seek1R, if_neg (by omega)]⟩)
  generalize seek1R B h sz a = r at *
  clear hM hba hbm hbh h1
  rcases hcase with ⟨d1, rfl⟩ | ⟨d1, d2, rfl⟩ | ⟨d1, d2, rfl⟩
  · go_enter Tryz.func77, Tryz.ntmps77
    go_wp2
    go_ret
    exact ⟨A, rfl, HM.out.thenFr HFa.out⟩
  · go_enter Tryz.func77, Tryz.ntmps77
    go_wp2
    go_ret
    exact ⟨A, rfl, HM.out.thenFr HFa.out⟩
  · go_enter Tryz.func77, Tryz.ntmps77
    go_wp2_with fail
    refine HMV.out.mono ?_
    rintro e w1 ⟨A1, rfl, hp⟩
    have HP := Lib.hid (Mp.pre HFa.out hp)
    clear hp
    go_wp2
    go_ret
    exact ⟨A1, rfl, HP.out⟩

theorem cellH_fit {h : Int} (h1 : 1 ≤ h ∧ h ≤ 4) : -9223372036854775808 ≤ cellH h ∧ cellH h ≤ 9223372036854775807 := by have := cellH_range h1; omega
set_option maxHeartbeats 2000000 in
set_option maxRecDepth 1000000 in
theorem hclose1_calls {w : World} {mb : Nat} {A : Nat → Prop} {F B : List Int} (hM : MemAt w mb A F B) (nd sz at_ h : Int) (h1 : 1 ≤ h ∧ h ≤ 4) (bm bh : Nat)
    (hbm : w.heap[bm]? = some (.cells #[.pointer (some ⟨mb, 0, none⟩)] 26 (0, 0))) (hbh : w.heap[bh]? = some (.cells #[.int .i64 h] 3 (0, 0))) (hna : ¬ A bm ∧ ¬ A bh) :
    Calls Tryz.prog 67 #[.agg #[.int .i64 nd, .int .i64 sz, .int .i64 at_], .pointer (some ⟨bm, 0, none⟩), .pointer (some ⟨bh, 0, none⟩)] w (FsP w mb A F (closeB B h) (.int .i64 0)) := by
  have hmk : ∀ w : World, (Instr.makeSlice 22 (.int .i64 16) (.int .i64 16)).run Tryz.prog w = .ok (.slice (some ⟨w.heap.size, 0, none⟩) 16 16) (w.alloc (.cells (bys (zs 16)).toArray 5)) := fun w => mk_bytes w 16 (by omega)
  have HFa : RowKit.Hid (Fr No w (w.alloc (Obj.cells #[.int .i64 nd, .int .i64 sz, .int .i64 at_] 68))) := Lib.hid ((Fr.refl _ _).alloc _)
  have HBM := Lib.hid (heap_alloc (Obj.cells #[.int .i64 nd, .int .i64 sz, .int .i64 at_] 68) hbm)
  have HBH := Lib.hid (heap_alloc (Obj.cells #[.int .i64 nd, .int .i64 sz, .int .i64 at_] 68) hbh)
  have HNA := Lib.hid hna
  have HCE := Lib.hid (fun w1 => hcells_calls h w1 h1)
  have HLY := Lib.hid (fun (w1 : World) (hF : Fr No w w1) => (by
    have hl := (Row.new w1 5 (zs 16)).sl
    rw [zs_length] at hl
    have hF1 := (hF.alloc (Obj.cells (bys (zs 16)).toArray 5)).drew
    have hM1 := hM.fr0 hF1
    have := lay_calls hM1 (cellH h) (.slice (some ⟨w1.heap.size, 0, none⟩) 16 16) (zs 16) (by rw [zs_length]; exact hl.fr0 (Fr.refl No _).drew) (fun k e _ hA => by have e2 : w1.heap.size = k := (by simpa [Value.ownBlock] using e); have := hM.low _ hA; have := hF.size; omega) (zs_rng 16) (by rw [zs_length]; omega) (cellH_fit h1)
    exact this))
  have HC : RowKit.Hid (closeB B h = layF B (cellH h) (zs 16)) := Lib.hid rfl
  generalize closeB B h = B2 at *
  rw [← HC.out] at HLY
  generalize cellH h = ch at *
  clear hM hbm hbh h1 HC hna
  go_enter Tryz.func67, Tryz.ntmps67
  go_upto_region 1 with fail
  generalize w.alloc (Obj.cells #[.int .i64 nd, .int .i64 sz, .int .i64 at_] 68) = W at *
  have m0 : W.drew.cell? ⟨bm, 0, none⟩ = some (.pointer (some ⟨mb, 0, none⟩)) := heap_cell (o := 0) HBM.out rfl
  have m1 : W.drew.cell? ⟨bh, 0, none⟩ = some (.int .i64 h) := heap_cell (o := 0) HBH.out rfl
  have k0 : (W.alloc (.cells (bys (zs 16)).toArray 5)).drew.cell? ⟨bm, 0, none⟩ = some (.pointer (some ⟨mb, 0, none⟩)) := heap_cell (o := 0) (heap_alloc _ HBM.out) rfl
  have k1 : (W.alloc (.cells (bys (zs 16)).toArray 5)).drew.cell? ⟨bh, 0, none⟩ = some (.int .i64 h) := heap_cell (o := 0) (heap_alloc _ HBH.out) rfl
  refine wp_region_held_drew (S := (fun w' => w'.cell? ⟨bm, 0, none⟩ = some (.pointer (some ⟨mb, 0, none⟩)) ∧ w'.cell? ⟨bh, 0, none⟩ = some (.int .i64 h))) (by kernel_rfl) ⟨m0, m1⟩ (fun hS0 => ?_)
  refine take_at (i := 0) (d := some 5) (v := ?_) rfl rfl (by kernel_rfl) (by kernel_rfl) (by kernel_rfl) (fun _ _ _ h => h) (Or.inl ⟨by rfl, ?_⟩) (by assumption) ?_
  rotate_left
  · intro w hSw; go_simp; try (with_reducible rfl)
  try simp only [Act.put, List.setIfInBounds_toArray, List.set_cons_zero, List.set_cons_succ]
  refine take_at (i := 1) (d := some 6) (v := ?_) rfl rfl (by kernel_rfl) (by kernel_rfl) (by kernel_rfl) (fun _ _ _ h => h) (Or.inl ⟨by rfl, ?_⟩) (by assumption) ?_
  rotate_left
  · intro w hSw; go_simp; try (with_reducible rfl)
  try simp only [Act.put, List.setIfInBounds_toArray, List.set_cons_zero, List.set_cons_succ]
  refine wpAnyH_ready (rs := [2, 3]) (by kernel_rfl) (by simp) ?_
  refine AllReadyH.cons rfl (fun K hK => ?_) (AllReadyH.cons rfl (fun K hK => ?_) AllReadyH.nil)
  · go_simp
    go_wp2_with (go_at_call 68; ((with_reducible refine (HCE.out _).mono ?_); rintro e w3 ⟨rfl, rfl⟩))
    refine hK.out _ _ ⟨m0, m1⟩ (fun hHeld => ?_)
    clear hK K
    try simp only [Act.put, List.setIfInBounds_toArray, List.set_cons_zero, List.set_cons_succ]
    refine wpAnyH_ready (rs := [3]) (by kernel_rfl) (by simp) ?_
    refine AllReadyH.cons rfl (fun K hK => ?_) AllReadyH.nil
    go_simp
    refine hK.out _ _ ⟨k0, k1⟩ (fun hHeld => ?_)
    clear hK K
    try simp only [Act.put, List.setIfInBounds_toArray, List.set_cons_zero, List.set_cons_succ]
    refine wpAnyH_ready (rs := [4]) (by kernel_rfl) (by simp) ?_
    refine AllReadyH.cons rfl (fun K hK => ?_) AllReadyH.nil
    go_simp
    go_wp2_with (go_at_call 41; ((with_reducible refine (HLY.out _ HFa.out).mono ?_); rintro e w4 ⟨A4, rfl, hp⟩; have n0 := hp.2.1.cell k0 (fun h => HNA.out.1 h); have n1 := hp.2.1.cell k1 (fun h => HNA.out.2 h)))
    refine hK.out _ _ ⟨n0, n1⟩ (fun hHeld => ?_)
    clear hK K
    try simp only [Act.put, List.setIfInBounds_toArray, List.set_cons_zero, List.set_cons_succ]
    refine wpAnyH_done (by kernel_rfl) ?_ _
    go_wp2
    go_ret
    exact ⟨A4, rfl, Mp.pre (HFa.out.alloc _).drew hp⟩
  · go_simp
    refine hK.out _ _ ⟨k0, k1⟩ (fun hHeld => ?_)
    clear hK K
    try simp only [Act.put, List.setIfInBounds_toArray, List.set_cons_zero, List.set_cons_succ]
    refine wpAnyH_ready (rs := [2]) (by kernel_rfl) (by simp) ?_
    refine AllReadyH.cons rfl (fun K hK => ?_) AllReadyH.nil
    go_simp
    go_wp2_with (go_at_call 68; ((with_reducible refine (HCE.out _).mono ?_); rintro e w3 ⟨rfl, rfl⟩))
    refine hK.out _ _ ⟨k0, k1⟩ (fun hHeld => ?_)
    clear hK K
    try simp only [Act.put, List.setIfInBounds_toArray, List.set_cons_zero, List.set_cons_succ]
    refine wpAnyH_ready (rs := [4]) (by kernel_rfl) (by simp) ?_
    refine AllReadyH.cons rfl (fun K hK => ?_) AllReadyH.nil
    go_simp
    go_wp2_with (go_at_call 41; ((with_reducible refine (HLY.out _ HFa.out).mono ?_); rintro e w4 ⟨A4, rfl, hp⟩; have n0 := hp.2.1.cell k0 (fun h => HNA.out.1 h); have n1 := hp.2.1.cell k1 (fun h => HNA.out.2 h)))
    refine hK.out _ _ ⟨n0, n1⟩ (fun hHeld => ?_)
    clear hK K
    try simp only [Act.put, List.setIfInBounds_toArray, List.set_cons_zero, List.set_cons_succ]
    refine wpAnyH_done (by kernel_rfl) ?_ _
    go_wp2
    go_ret
    exact ⟨A4, rfl, Mp.pre (HFa.out.alloc _).drew hp⟩

set_option maxHeartbeats 2000000 in
set_option maxRecDepth 1000000 in
theorem hresize_calls {w : World} {mb : Nat} {A : Nat → Prop} {F B : List Int} (hM : MemAt w mb A F B) (h m : Int) :
    Calls Tryz.prog 28 #[.pointer (some ⟨mb, 0, none⟩), .int .i64 h, .int .i64 m] w (FsP w mb A F (hresizeR B h m).1 (.int .i64 (hresizeR B h m).2)) := by
  have hmf : ∀ (fn : Fn) (first cap : Array Value) (w : World), (Instr.makeFunc fn first cap).run Tryz.prog w = .ok (.func fn first cap) w := fun _ _ _ _ => rfl
  obtain ⟨o1, ho1⟩ : ∃ o, Obj.cells #[.pointer (some ⟨mb, 0, none⟩)] 26 = o := ⟨_, rfl⟩
  obtain ⟨o2, ho2⟩ : ∃ o, Obj.cells #[.int .i64 m] 3 = o := ⟨_, rfl⟩
  have b0 := heap_alloc o2 (heap_new w o1)
  have b1 := heap_new (w.alloc o1) o2
  have hF3 : Fr No w ((w.alloc o1).alloc o2) := (((Fr.refl _ _).alloc _).alloc _)
  have s1 : (w.alloc o1).heap.size = w.heap.size + 1 := by simp
  rw [s1] at b1
  subst ho1; subst ho2
  have HF3 := Lib.hid hF3
  have HB0 := Lib.hid b0
  have k0 := heap_cell (o := 0) b0 rfl
  have HB1 := Lib.hid b1
  have k1 := heap_cell (o := 0) b1 rfl
  have hna : ¬ A w.heap.size ∧ ¬ A (w.heap.size + 1) := ⟨fun hA => by have := hM.low _ hA; omega, fun hA => by have := hM.low _ hA; omega⟩
  have HW0 := Lib.hid (fun (W : World) (hF : Fr No w W) (hW0 : W.heap[w.heap.size]? = some (.cells #[.pointer (some ⟨mb, 0, none⟩)] 26 (0, 0))) (hW1 : W.heap[(w.heap.size + 1)]? = some (.cells #[.int .i64 m] 3 (0, 0))) {nd sz at_ : Int} (hl : lookF B h = some (nd, sz, at_)) =>
    with_resize (hM.fr0 hF) h (.pointer (some ⟨w.heap.size, 0, none⟩)) (.pointer (some ⟨w.heap.size + 1, 0, none⟩)) hl (fun v w' => v = .int .i64 (resizeR B nd m).2 ∧ ∃ A', Mp W mb A F (resizeR B nd m).1 w' A') (fun w1 A1 hp => by
      obtain ⟨l1, -, -, -, l2, l3, l4⟩ := look_facts hl
      refine (hresize1_calls hp.1 nd sz at_ m _ _ (hp.2.1.heap hW0 (fun h => hna.1 h)) (hp.2.1.heap hW1 (fun h => hna.2 h))).mono ?_
      rintro e w2 ⟨A2, rfl, hp2⟩
      exact ⟨_, rfl, rfl, A2, hp.trans hp2⟩))
  cases hl : lookF B h with
  | none =>
    have hr : hresizeR B h m = (B, badE B) := by rw [hresizeR, hl]
    rw [hr]
    have HW := Lib.hid (fun fv => with_bad (hM.fr0 hF3) h fv hl)
    clear hM hl hr hna b0 b1 hF3 HW0
    generalize badE B = be at *
    go_enter Tryz.func28, Tryz.ntmps28
    go_wp2_with fail
    refine (HW.out _).mono ?_
    rintro e w1 ⟨A1, rfl, hp⟩
    have HP := Lib.hid (Mp.pre HF3.out hp)
    clear hp
    go_wp2
    go_ret
    exact ⟨A1, rfl, HP.out⟩
  | some p =>
    obtain ⟨nd, sz, at_⟩ := p
    have hr : hresizeR B h m = resizeR B nd m := by rw [hresizeR, hl]
    rw [hr]
    have HW := Lib.hid (HW0.out _ hF3 b0 b1 hl)
    clear hM hl hr hna b0 b1 hF3 HW0
    generalize resizeR B nd m = r at *
    go_enter Tryz.func28, Tryz.ntmps28
    go_wp2_with fail
    refine HW.out.mono ?_
    rintro e w1 ⟨v, rfl, rfl, A1, hp⟩
    have HP := Lib.hid (Mp.pre HF3.out hp)
    clear hp
    go_wp2
    go_ret
    exact ⟨A1, rfl, HP.out⟩

set_option maxHeartbeats 2000000 in
set_option maxRecDepth 1000000 in
theorem hseek_calls {w : World} {mb : Nat} {A : Nat → Prop} {F B : List Int} (hM : MemAt w mb A F B) (h a : Int) :
    Calls Tryz.prog 31 #[.pointer (some ⟨mb, 0, none⟩), .int .i64 h, .int .i64 a] w (FsP w mb A F (hseekR B h a).1 (.int .i64 (hseekR B h a).2)) := by
  have hmf : ∀ (fn : Fn) (first cap : Array Value) (w : World), (Instr.makeFunc fn first cap).run Tryz.prog w = .ok (.func fn first cap) w := fun _ _ _ _ => rfl
  obtain ⟨o1, ho1⟩ : ∃ o, Obj.cells #[.pointer (some ⟨mb, 0, none⟩)] 26 = o := ⟨_, rfl⟩
  obtain ⟨o2, ho2⟩ : ∃ o, Obj.cells #[.int .i64 h] 3 = o := ⟨_, rfl⟩
  obtain ⟨o3, ho3⟩ : ∃ o, Obj.cells #[.int .i64 a] 3 = o := ⟨_, rfl⟩
  have b0 := heap_alloc o3 (heap_alloc o2 (heap_new w o1))
  have b1 := heap_alloc o3 (heap_new (w.alloc o1) o2)
  have b2 := heap_new ((w.alloc o1).alloc o2) o3
  have hF3 : Fr No w (((w.alloc o1).alloc o2).alloc o3) := ((((Fr.refl _ _).alloc _).alloc _).alloc _)
  have s1 : (w.alloc o1).heap.size = w.heap.size + 1 := by simp
  have s2 : ((w.alloc o1).alloc o2).heap.size = w.heap.size + 2 := by simp
  rw [s1] at b1
  rw [s2] at b2
  subst ho1; subst ho2; subst ho3
  have HF3 := Lib.hid hF3
  have HB0 := Lib.hid b0
  have k0 := heap_cell (o := 0) b0 rfl
  have HB1 := Lib.hid b1
  have k1 := heap_cell (o := 0) b1 rfl
  have HB2 := Lib.hid b2
  have k2 := heap_cell (o := 0) b2 rfl
  have hna : ¬ A w.heap.size ∧ ¬ A (w.heap.size + 1) ∧ ¬ A (w.heap.size + 2) := ⟨fun hA => by have := hM.low _ hA; omega, fun hA => by have := hM.low _ hA; omega, fun hA => by have := hM.low _ hA; omega⟩
  have HW0 := Lib.hid (fun (W : World) (hF : Fr No w W) (hW0 : W.heap[w.heap.size]? = some (.cells #[.pointer (some ⟨mb, 0, none⟩)] 26 (0, 0))) (hW1 : W.heap[(w.heap.size + 1)]? = some (.cells #[.int .i64 h] 3 (0, 0))) (hW2 : W.heap[(w.heap.size + 2)]? = some (.cells #[.int .i64 a] 3 (0, 0))) {nd sz at_ : Int} (hl : lookF B h = some (nd, sz, at_)) =>
    with_seek (hM.fr0 hF) h (.pointer (some ⟨w.heap.size + 2, 0, none⟩)) (.pointer (some ⟨w.heap.size, 0, none⟩)) (.pointer (some ⟨w.heap.size + 1, 0, none⟩)) hl (fun v w' => v = .int .i64 (seek1R B h sz a).2 ∧ ∃ A', Mp W mb A F (seek1R B h sz a).1 w' A') (fun w1 A1 hp => by
      obtain ⟨l1, -, -, -, l2, l3, l4⟩ := look_facts hl
      refine (hseek1_calls hp.1 nd sz at_ a h l1 _ _ _ (hp.2.1.heap hW2 (fun h => hna.2.2 h)) (hp.2.1.heap hW0 (fun h => hna.1 h)) (hp.2.1.heap hW1 (fun h => hna.2.1 h))).mono ?_
      rintro e w2 ⟨A2, rfl, hp2⟩
      exact ⟨_, rfl, rfl, A2, hp.trans hp2⟩))
  cases hl : lookF B h with
  | none =>
    have hr : hseekR B h a = (B, badE B) := by rw [hseekR, hl]
    rw [hr]
    have HW := Lib.hid (fun fv => with_bad (hM.fr0 hF3) h fv hl)
    clear hM hl hr hna b0 b1 b2 hF3 HW0
    generalize badE B = be at *
    go_enter Tryz.func31, Tryz.ntmps31
    go_wp2_with fail
    refine (HW.out _).mono ?_
    rintro e w1 ⟨A1, rfl, hp⟩
    have HP := Lib.hid (Mp.pre HF3.out hp)
    clear hp
    go_wp2
    go_ret
    exact ⟨A1, rfl, HP.out⟩
  | some p =>
    obtain ⟨nd, sz, at_⟩ := p
    have hr : hseekR B h a = seek1R B h sz a := by rw [hseekR, hl]
    rw [hr]
    have HW := Lib.hid (HW0.out _ hF3 b0 b1 b2 hl)
    clear hM hl hr hna b0 b1 b2 hF3 HW0
    generalize seek1R B h sz a = r at *
    go_enter Tryz.func31, Tryz.ntmps31
    go_wp2_with fail
    refine HW.out.mono ?_
    rintro e w1 ⟨v, rfl, rfl, A1, hp⟩
    have HP := Lib.hid (Mp.pre HF3.out hp)
    clear hp
    go_wp2
    go_ret
    exact ⟨A1, rfl, HP.out⟩

set_option maxHeartbeats 2000000 in
set_option maxRecDepth 1000000 in
theorem hclose_calls {w : World} {mb : Nat} {A : Nat → Prop} {F B : List Int} (hM : MemAt w mb A F B) (h : Int) :
    Calls Tryz.prog 23 #[.pointer (some ⟨mb, 0, none⟩), .int .i64 h] w (FsP w mb A F (hcloseR B h).1 (.int .i64 (hcloseR B h).2)) := by
  have hmf : ∀ (fn : Fn) (first cap : Array Value) (w : World), (Instr.makeFunc fn first cap).run Tryz.prog w = .ok (.func fn first cap) w := fun _ _ _ _ => rfl
  obtain ⟨o1, ho1⟩ : ∃ o, Obj.cells #[.pointer (some ⟨mb, 0, none⟩)] 26 = o := ⟨_, rfl⟩
  obtain ⟨o2, ho2⟩ : ∃ o, Obj.cells #[.int .i64 h] 3 = o := ⟨_, rfl⟩
  have b0 := heap_alloc o2 (heap_new w o1)
  have b1 := heap_new (w.alloc o1) o2
  have hF3 : Fr No w ((w.alloc o1).alloc o2) := (((Fr.refl _ _).alloc _).alloc _)
  have s1 : (w.alloc o1).heap.size = w.heap.size + 1 := by simp
  rw [s1] at b1
  subst ho1; subst ho2
  have HF3 := Lib.hid hF3
  have HB0 := Lib.hid b0
  have k0 := heap_cell (o := 0) b0 rfl
  have HB1 := Lib.hid b1
  have k1 := heap_cell (o := 0) b1 rfl
  have hna : ¬ A w.heap.size ∧ ¬ A (w.heap.size + 1) := ⟨fun hA => by have := hM.low _ hA; omega, fun hA => by have := hM.low _ hA; omega⟩
  have HW0 := Lib.hid (fun (W : World) (hF : Fr No w W) (hW0 : W.heap[w.heap.size]? = some (.cells #[.pointer (some ⟨mb, 0, none⟩)] 26 (0, 0))) (hW1 : W.heap[(w.heap.size + 1)]? = some (.cells #[.int .i64 h] 3 (0, 0))) {nd sz at_ : Int} (hl : lookF B h = some (nd, sz, at_)) =>
    with_close (hM.fr0 hF) h (.pointer (some ⟨w.heap.size, 0, none⟩)) (.pointer (some ⟨w.heap.size + 1, 0, none⟩)) hl (fun v w' => v = .int .i64 ((closeB B h, (0 : Int))).2 ∧ ∃ A', Mp W mb A F ((closeB B h, (0 : Int))).1 w' A') (fun w1 A1 hp => by
      obtain ⟨l1, -, -, -, l2, l3, l4⟩ := look_facts hl
      refine (hclose1_calls hp.1 nd sz at_ h l1 _ _ (hp.2.1.heap hW0 (fun h => hna.1 h)) (hp.2.1.heap hW1 (fun h => hna.2 h)) ⟨(hp.notA hna.1 (heap_lt hW0)), (hp.notA hna.2 (heap_lt hW1))⟩).mono ?_
      rintro e w2 ⟨A2, rfl, hp2⟩
      exact ⟨_, rfl, rfl, A2, hp.trans hp2⟩))
  cases hl : lookF B h with
  | none =>
    have hr : hcloseR B h = (B, badE B) := by rw [hcloseR, hl]
    rw [hr]
    have HW := Lib.hid (fun fv => with_bad (hM.fr0 hF3) h fv hl)
    clear hM hl hr hna b0 b1 hF3 HW0
    generalize badE B = be at *
    go_enter Tryz.func23, Tryz.ntmps23
    go_wp2_with fail
    refine (HW.out _).mono ?_
    rintro e w1 ⟨A1, rfl, hp⟩
    have HP := Lib.hid (Mp.pre HF3.out hp)
    clear hp
    go_wp2
    go_ret
    exact ⟨A1, rfl, HP.out⟩
  | some p =>
    obtain ⟨nd, sz, at_⟩ := p
    have hr : hcloseR B h = (closeB B h, (0 : Int)) := by rw [hcloseR, hl]
    rw [hr]
    have HW := Lib.hid (HW0.out _ hF3 b0 b1 hl)
    clear hM hl hr hna b0 b1 hF3 HW0
    generalize (closeB B h, (0 : Int)) = r at *
    go_enter Tryz.func23, Tryz.ntmps23
    go_wp2_with fail
    refine HW.out.mono ?_
    rintro e w1 ⟨v, rfl, rfl, A1, hp⟩
    have HP := Lib.hid (Mp.pre HF3.out hp)
    clear hp
    go_wp2
    go_ret
    exact ⟨A1, rfl, HP.out⟩

end Go.Proofs.YtoajnmbbgbpbgaaGreat
