/-
  Chapter 13: with, Size, Place. (Printed by wip/tools/hd2.py.)
-/
import Derived.Test.YtoajnmbbgbpbgaaGreatZHd1
namespace Go.Proofs.YtoajnmbbgbpbgaaGreat
set_option linter.unusedVariables false
set_option linter.unusedSimpArgs false
open Go.RowKit Go.Shelf Go.Maps

/-- The error of a handle that isn't open. -/
def badE (B : List Int) : Int := if checkE B ≠ 0 then checkE B else 131
theorem look_check {B : List Int} {h : Int} {p : Int × Int × Int} (e : lookF B h = some p) : checkE B = 0 := by
  cases ht : tableF B with
  | some q => obtain ⟨L, u⟩ := q; exact checkE_some ht
  | none =>
    have hs : ∀ n, sizeR B n = (0, 120) := fun n => by unfold sizeR; generalize tableF B = t at *; subst ht; rfl
    unfold lookF at e
    rw [hs] at e
    split at e
    · cases e
    · split at e
      · cases e
      · rw [if_pos (by decide)] at e; cases e

set_option maxHeartbeats 1000000 in
set_option maxRecDepth 1000000 in
theorem with_bad {w : World} {mb : Nat} {A : Nat → Prop} {F B : List Int} (hM : MemAt w mb A F B) (h : Int) (fv : Value) (hl : lookF B h = none) :
    Calls Tryz.prog 38 #[.pointer (some ⟨mb, 0, none⟩), .int .i64 h, fv] w (FsP w mb A F B (.int .i64 (badE B))) := by
  have HCK := Lib.hid (fcheck_calls hM)
  have HLK := Lib.hid (fun (w1 : World) A1 (hM1 : MemAt w1 mb A1 F B) => (by
    have := look_calls hM1 h
    unfold LookP at this
    rw [hl] at this; exact this))
  have HB : RowKit.Hid (badE B = if checkE B ≠ 0 then checkE B else 131) := Lib.hid rfl
  generalize badE B = be at *
  generalize checkE B = x at *
  clear hM hl
  by_cases hx : x = 0
  · have q1 : (x != 0) = false := by simp [hx]
    have HX := Lib.hid hx
    clear hx
    go_enter Tryz.func38, Tryz.ntmps38
    go_wp2_with fail
    refine HCK.out.mono ?_
    rintro e w1 ⟨A1, rfl, hp⟩
    have HP := Lib.hid hp
    clear hp
    go_wp2_with fail
    refine (HLK.out _ _ HP.out.1).mono ?_
    rintro e w2 ⟨A2, a, b, c, rfl, hp2, -⟩
    go_wp2
    go_ret
    exact ⟨A2, by rw [HB.out, if_neg (by rw [HX.out]; decide)]; rfl, (HP.out.trans hp2).thenFr ((Fr.refl _ _).alloc _)⟩
  · have q1 : (x != 0) = true := by simp [hx]
    have HX := Lib.hid hx
    clear hx
    go_enter Tryz.func38, Tryz.ntmps38
    go_wp2_with fail
    refine HCK.out.mono ?_
    rintro e w1 ⟨A1, rfl, hp⟩
    go_wp2
    go_ret
    exact ⟨A1, by rw [HB.out, if_pos HX.out]; rfl, hp⟩

set_option maxHeartbeats 1000000 in
set_option maxRecDepth 1000000 in
theorem with_size {w : World} {mb : Nat} {A : Nat → Prop} {F B : List Int} (hM : MemAt w mb A F B) (h : Int) (c0 : Value) {nd sz at_ : Int} (hl : lookF B h = some (nd, sz, at_)) (Q : Value → World → Prop)
    (HC : ∀ w1 A1, Mp w mb A F B w1 A1 → Calls Tryz.prog 40 #[.agg #[.int .i64 nd, .int .i64 sz, .int .i64 at_], c0] w1 fun e w' => ∃ v, e = .returned v ∧ Q v w') :
    Calls Tryz.prog 38 #[.pointer (some ⟨mb, 0, none⟩), .int .i64 h, .func (.func 40) #[] #[c0]] w fun e w' => ∃ v, e = .returned v ∧ Q v w' := by
  have HCK := Lib.hid (by have := fcheck_calls hM; rw [look_check hl] at this; exact this)
  have HLK := Lib.hid (fun (w1 : World) A1 (hM1 : MemAt w1 mb A1 F B) => (by
    have := look_calls hM1 h
    unfold LookP at this
    rw [hl] at this; exact this))
  have HCL := Lib.hid HC
  clear hM hl HC
  go_enter Tryz.func38, Tryz.ntmps38
  go_wp2_with fail
  refine HCK.out.mono ?_
  rintro e w1 ⟨A1, rfl, hp⟩
  have HP := Lib.hid hp
  clear hp
  go_wp2_with fail
  refine (HLK.out _ _ HP.out.1).mono ?_
  rintro e w2 ⟨A2, a, b, c, rfl, hp2, hq⟩
  have he := hq _ rfl
  injection he with he1 he2
  injection he2 with he2 he3
  subst he1; subst he2; subst he3
  have HP2 := Lib.hid ((HP.out.trans hp2).thenFr ((Fr.refl _ _).alloc (Obj.cells #[.int .i64 nd, .int .i64 sz, .int .i64 at_] 68)))
  clear hp2 hq
  go_wp2_with fail
  refine (HCL.out _ _ HP2.out).mono ?_
  rintro e w3 ⟨v, rfl, hv⟩
  go_wp2
  go_ret
  exact ⟨_, rfl, hv⟩

set_option maxHeartbeats 1000000 in
set_option maxRecDepth 1000000 in
theorem with_place {w : World} {mb : Nat} {A : Nat → Prop} {F B : List Int} (hM : MemAt w mb A F B) (h : Int) (c0 : Value) {nd sz at_ : Int} (hl : lookF B h = some (nd, sz, at_)) (Q : Value → World → Prop)
    (HC : ∀ w1 A1, Mp w mb A F B w1 A1 → Calls Tryz.prog 39 #[.agg #[.int .i64 nd, .int .i64 sz, .int .i64 at_], c0] w1 fun e w' => ∃ v, e = .returned v ∧ Q v w') :
    Calls Tryz.prog 38 #[.pointer (some ⟨mb, 0, none⟩), .int .i64 h, .func (.func 39) #[] #[c0]] w fun e w' => ∃ v, e = .returned v ∧ Q v w' := by
  have HCK := Lib.hid (by have := fcheck_calls hM; rw [look_check hl] at this; exact this)
  have HLK := Lib.hid (fun (w1 : World) A1 (hM1 : MemAt w1 mb A1 F B) => (by
    have := look_calls hM1 h
    unfold LookP at this
    rw [hl] at this; exact this))
  have HCL := Lib.hid HC
  clear hM hl HC
  go_enter Tryz.func38, Tryz.ntmps38
  go_wp2_with fail
  refine HCK.out.mono ?_
  rintro e w1 ⟨A1, rfl, hp⟩
  have HP := Lib.hid hp
  clear hp
  go_wp2_with fail
  refine (HLK.out _ _ HP.out.1).mono ?_
  rintro e w2 ⟨A2, a, b, c, rfl, hp2, hq⟩
  have he := hq _ rfl
  injection he with he1 he2
  injection he2 with he2 he3
  subst he1; subst he2; subst he3
  have HP2 := Lib.hid ((HP.out.trans hp2).thenFr ((Fr.refl _ _).alloc (Obj.cells #[.int .i64 nd, .int .i64 sz, .int .i64 at_] 68)))
  clear hp2 hq
  go_wp2_with fail
  refine (HCL.out _ _ HP2.out).mono ?_
  rintro e w3 ⟨v, rfl, hv⟩
  go_wp2
  go_ret
  exact ⟨_, rfl, hv⟩

set_option maxRecDepth 1000000 in
theorem hsize1_calls (nd sz at_ : Int) (b : Nat) (x : Int) (w : World) (hb : w.heap[b]? = some (.cells #[.int .i64 x] 3 (0, 0))) :
    Calls Tryz.prog 40 #[.agg #[.int .i64 nd, .int .i64 sz, .int .i64 at_], .pointer (some ⟨b, 0, none⟩)] w fun e w' => e = .returned (.int .i64 0) ∧ w'.heap[b]? = some (.cells #[.int .i64 sz] 3 (0, 0)) ∧ Fr (fun k => k = b) w w' := by
  have hb1 := heap_alloc (Obj.cells #[.int .i64 nd, .int .i64 sz, .int .i64 at_] 68) hb
  have HB := Lib.hid (heap_setAt (cs := [.int .i64 x]) hb1 0 (.int .i64 sz))
  have c0 := heap_cell (o := 0) hb1 rfl
  have f0 := heap_frozen (o := 0) hb1
  have HF : RowKit.Hid (Fr (fun k => k = b) w ((w.alloc (Obj.cells #[.int .i64 nd, .int .i64 sz, .int .i64 at_] 68)).setCell ⟨b, 0, none⟩ (.int .i64 sz))) := Lib.hid (((Fr.refl (fun k => k = b) w).alloc _).setCell (p := ⟨b, 0, none⟩) (fun _ => rfl) _)
  clear hb hb1
  go_enter Tryz.func40, Tryz.ntmps40
  go_wp2
  go_ret
  exact ⟨rfl, HB.out, HF.out⟩
def hsizeR (B : List Int) (h : Int) : Int × Int := match lookF B h with | none => (0, badE B) | some p => (p.2.1, 0)
set_option maxHeartbeats 1000000 in
set_option maxRecDepth 1000000 in
theorem hsize_calls {w : World} {mb : Nat} {A : Nat → Prop} {F B : List Int} (hM : MemAt w mb A F B) (h : Int) :
    Calls Tryz.prog 12 #[.pointer (some ⟨mb, 0, none⟩), .int .i64 h] w (FsP w mb A F B (.tuple #[.int .i64 (hsizeR B h).1, .int .i64 (hsizeR B h).2])) := by
  have hmf : ∀ (fn : Fn) (first cap : Array Value) (w : World), (Instr.makeFunc fn first cap).run Tryz.prog w = .ok (.func fn first cap) w := fun _ _ _ _ => rfl
  have hFa : Fr No w (w.alloc (Obj.cells #[.int .i64 0] 3)) := (Fr.refl _ _).alloc _
  have HB := Lib.hid (heap_new w (Obj.cells #[.int .i64 0] 3))
  have HLOW := Lib.hid (show ¬ A w.heap.size from fun hA => Nat.lt_irrefl _ (hM.low _ hA))
  have HFA := Lib.hid hFa
  cases hl : lookF B h with
  | none =>
    have hr : hsizeR B h = (0, badE B) := by rw [hsizeR, hl]
    rw [hr]
    have HW := Lib.hid (fun fv => with_bad (hM.fr0 hFa) h fv hl)
    clear hM hFa hl hr
    generalize badE B = be at *
    go_enter Tryz.func12, Tryz.ntmps12
    go_wp2_with fail
    refine (HW.out _).mono ?_
    rintro e w1 ⟨A1, rfl, hp⟩
    have c0 : w1.cell? ⟨w.heap.size, 0, none⟩ = some (.int .i64 0) := heap_cell (hp.2.1.heap HB.out (fun h => HLOW.out h)) rfl
    have HP := Lib.hid (Mp.pre HFA.out hp)
    clear hp
    go_wp2
    go_ret2
    exact ⟨A1, rfl, HP.out⟩
  | some p =>
    obtain ⟨nd, sz, at_⟩ := p
    have hr : hsizeR B h = (sz, 0) := by rw [hsizeR, hl]
    rw [hr]
    have HW := Lib.hid (with_size (hM.fr0 hFa) h (.pointer (some ⟨w.heap.size, 0, none⟩)) hl (fun v w' => v = .int .i64 0 ∧ ∃ A', Mp w mb A F B w' A' ∧ w'.cell? ⟨w.heap.size, 0, none⟩ = some (.int .i64 sz)) (fun w1 A1 hp => by
      have hb := hp.2.1.heap HB.out (fun h => HLOW.out h)
      have hna : ¬ A1 w.heap.size := fun h => (hp.2.2 _ h).elim HLOW.out (fun h => by have h2 := heap_lt HB.out; omega)
      refine (hsize1_calls nd sz at_ _ 0 w1 hb).mono ?_
      rintro e w2 ⟨rfl, hb2, hF⟩
      have hp2 := Mp.pre HFA.out hp
      exact ⟨_, rfl, rfl, A1, ⟨hp2.1.fr hF (fun k e hA => by subst e; exact hna hA), hp2.2.1.trans' hF (fun i hi e => by omega), hp2.2.2⟩, heap_cell hb2 rfl⟩))
    clear hM hFa hl hr
    go_enter Tryz.func12, Tryz.ntmps12
    go_wp2_with fail
    refine HW.out.mono ?_
    rintro e w1 ⟨v, rfl, rfl, A1, hp, c0⟩
    have HP := Lib.hid hp
    clear hp
    go_wp2
    go_ret2
    exact ⟨A1, rfl, HP.out⟩

set_option maxRecDepth 1000000 in
theorem hplace1_calls (nd sz at_ : Int) (b : Nat) (x : Int) (w : World) (hb : w.heap[b]? = some (.cells #[.int .i64 x] 3 (0, 0))) :
    Calls Tryz.prog 39 #[.agg #[.int .i64 nd, .int .i64 sz, .int .i64 at_], .pointer (some ⟨b, 0, none⟩)] w fun e w' => e = .returned (.int .i64 0) ∧ w'.heap[b]? = some (.cells #[.int .i64 at_] 3 (0, 0)) ∧ Fr (fun k => k = b) w w' := by
  have hb1 := heap_alloc (Obj.cells #[.int .i64 nd, .int .i64 sz, .int .i64 at_] 68) hb
  have HB := Lib.hid (heap_setAt (cs := [.int .i64 x]) hb1 0 (.int .i64 at_))
  have c0 := heap_cell (o := 0) hb1 rfl
  have f0 := heap_frozen (o := 0) hb1
  have HF : RowKit.Hid (Fr (fun k => k = b) w ((w.alloc (Obj.cells #[.int .i64 nd, .int .i64 sz, .int .i64 at_] 68)).setCell ⟨b, 0, none⟩ (.int .i64 at_))) := Lib.hid (((Fr.refl (fun k => k = b) w).alloc _).setCell (p := ⟨b, 0, none⟩) (fun _ => rfl) _)
  clear hb hb1
  go_enter Tryz.func39, Tryz.ntmps39
  go_wp2
  go_ret
  exact ⟨rfl, HB.out, HF.out⟩
def hplaceR (B : List Int) (h : Int) : Int × Int := match lookF B h with | none => (0, badE B) | some p => (p.2.2, 0)
set_option maxHeartbeats 1000000 in
set_option maxRecDepth 1000000 in
theorem hplace_calls {w : World} {mb : Nat} {A : Nat → Prop} {F B : List Int} (hM : MemAt w mb A F B) (h : Int) :
    Calls Tryz.prog 11 #[.pointer (some ⟨mb, 0, none⟩), .int .i64 h] w (FsP w mb A F B (.tuple #[.int .i64 (hplaceR B h).1, .int .i64 (hplaceR B h).2])) := by
  have hmf : ∀ (fn : Fn) (first cap : Array Value) (w : World), (Instr.makeFunc fn first cap).run Tryz.prog w = .ok (.func fn first cap) w := fun _ _ _ _ => rfl
  have hFa : Fr No w (w.alloc (Obj.cells #[.int .i64 0] 3)) := (Fr.refl _ _).alloc _
  have HB := Lib.hid (heap_new w (Obj.cells #[.int .i64 0] 3))
  have HLOW := Lib.hid (show ¬ A w.heap.size from fun hA => Nat.lt_irrefl _ (hM.low _ hA))
  have HFA := Lib.hid hFa
  cases hl : lookF B h with
  | none =>
    have hr : hplaceR B h = (0, badE B) := by rw [hplaceR, hl]
    rw [hr]
    have HW := Lib.hid (fun fv => with_bad (hM.fr0 hFa) h fv hl)
    clear hM hFa hl hr
    generalize badE B = be at *
    go_enter Tryz.func11, Tryz.ntmps11
    go_wp2_with fail
    refine (HW.out _).mono ?_
    rintro e w1 ⟨A1, rfl, hp⟩
    have c0 : w1.cell? ⟨w.heap.size, 0, none⟩ = some (.int .i64 0) := heap_cell (hp.2.1.heap HB.out (fun h => HLOW.out h)) rfl
    have HP := Lib.hid (Mp.pre HFA.out hp)
    clear hp
    go_wp2
    go_ret2
    exact ⟨A1, rfl, HP.out⟩
  | some p =>
    obtain ⟨nd, sz, at_⟩ := p
    have hr : hplaceR B h = (at_, 0) := by rw [hplaceR, hl]
    rw [hr]
    have HW := Lib.hid (with_place (hM.fr0 hFa) h (.pointer (some ⟨w.heap.size, 0, none⟩)) hl (fun v w' => v = .int .i64 0 ∧ ∃ A', Mp w mb A F B w' A' ∧ w'.cell? ⟨w.heap.size, 0, none⟩ = some (.int .i64 at_)) (fun w1 A1 hp => by
      have hb := hp.2.1.heap HB.out (fun h => HLOW.out h)
      have hna : ¬ A1 w.heap.size := fun h => (hp.2.2 _ h).elim HLOW.out (fun h => by have h2 := heap_lt HB.out; omega)
      refine (hplace1_calls nd sz at_ _ 0 w1 hb).mono ?_
      rintro e w2 ⟨rfl, hb2, hF⟩
      have hp2 := Mp.pre HFA.out hp
      exact ⟨_, rfl, rfl, A1, ⟨hp2.1.fr hF (fun k e hA => by subst e; exact hna hA), hp2.2.1.trans' hF (fun i hi e => by omega), hp2.2.2⟩, heap_cell hb2 rfl⟩))
    clear hM hFa hl hr
    go_enter Tryz.func11, Tryz.ntmps11
    go_wp2_with fail
    refine HW.out.mono ?_
    rintro e w1 ⟨v, rfl, rfl, A1, hp, c0⟩
    have HP := Lib.hid hp
    clear hp
    go_wp2
    go_ret2
    exact ⟨A1, rfl, HP.out⟩

end Go.Proofs.YtoajnmbbgbpbgaaGreat
