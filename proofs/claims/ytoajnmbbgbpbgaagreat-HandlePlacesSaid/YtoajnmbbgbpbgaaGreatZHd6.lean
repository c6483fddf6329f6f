/-
  Chapter 13: Read. (Printed by wip/tools/hd6.py.)
-/
import Derived.Test.YtoajnmbbgbpbgaaGreatZHd5
namespace Go.Proofs.YtoajnmbbgbpbgaaGreat
set_option linter.unusedVariables false
set_option linter.unusedSimpArgs false
open Go.RowKit Go.Shelf Go.Maps


set_option maxHeartbeats 1000000 in
set_option maxRecDepth 1000000 in
theorem with_read {w : World} {mb : Nat} {A : Nat → Prop} {F B : List Int} (hM : MemAt w mb A F B) (h : Int) (c0 : Value) (c1 : Value) (c2 : Value) (c3 : Value) {nd sz at_ : Int} (hl : lookF B h = some (nd, sz, at_)) (Q : Value → World → Prop)
    (HC : ∀ w1 A1, Mp w mb A F B w1 A1 → Calls Tryz.prog 58 #[.agg #[.int .i64 nd, .int .i64 sz, .int .i64 at_], c0, c1, c2, c3] w1 fun e w' => ∃ v, e = .returned v ∧ Q v w') :
    Calls Tryz.prog 38 #[.pointer (some ⟨mb, 0, none⟩), .int .i64 h, .func (.func 58) #[] #[c0, c1, c2, c3]] w fun e w' => ∃ v, e = .returned v ∧ Q v w' := by
  have HCK := Lib.hid (by have := fcheck_calls hM; rw [look_check hl] at this; exact this)
  have HLK := Lib.hid (fun (w1 : World) A1 (hM1 : MemAt w1 mb A1 F B) => (by
    have := look_calls hM1 h
    unfold LookP at this
    rw [hl] at this; exact this))
  have HCL := Lib.hid HC
  clear hM hl HC
  go_enter Tryz.func38, Tryz.ntmps38
  go_wp2_with fail
  refine HCK.out.mono ?_
  rintro e w1 ⟨A1, rfl, hp⟩
  have HP := Lib.hid hp
  clear hp
  go_wp2_with fail
  refine (HLK.out _ _ HP.out.1).mono ?_
  rintro e w2 ⟨A2, a, b, c, rfl, hp2, hq⟩
  have he := hq _ rfl
  injection he with he1 he2
  injection he2 with he2 he3
  subst he1; subst he2; subst he3
  have HP2 := Lib.hid ((HP.out.trans hp2).thenFr ((Fr.refl _ _).alloc (Obj.cells #[.int .i64 nd, .int .i64 sz, .int .i64 at_] 68)))
  clear hp2 hq
  go_wp2_with fail
  refine (HCL.out _ _ HP2.out).mono ?_
  rintro e w3 ⟨v, rfl, hv⟩
  go_wp2
  go_ret
  exact ⟨_, rfl, hv⟩


def read1R (B : List Int) (h n a m : Int) : List Int × List Int × Int :=
  if (readR B n a m).2 = 0 then (setF B (cellH h + 8) (a + (readR B n a m).1.length), (readR B n a m).1, 0) else (B, [], (readR B n a m).2)
def hreadR (B : List Int) (h m : Int) : List Int × List Int × Int := match lookF B h with | none => (B, [], badE B) | some p => read1R B h p.1 p.2.2 m
def HdB (w : World) (mb : Nat) (A : Nat → Prop) (F : List Int) (p : List Int × List Int × Int) (e : Ending) (w' : World) : Prop :=
  ∃ A' r, e = .returned (.tuple #[r, .int .i64 p.2.2]) ∧ Mp w mb A F p.1 w' A' ∧ w'.ownsRow w.heap.size 5 1 r p.2.1.length (bys p.2.1) ∧ ∀ k, r.ownBlock = some k → ¬ A' k

theorem readR_len (B : List Int) (n o m : Int) : (readR B n o m).1.length ≤ 1472 := by
  rcases open_cases B n with ⟨x, hx, h0⟩ | ⟨hx, L, u, k, ht, hk, rfl, hnm⟩
  · rw [readR_bad hx h0]; simp
  · rw [readR_good ht hk hnm]
    obtain ⟨-, f2, f3, f4, f5, -⟩ := tab_facts ht hk
    split
    · simp
    · dsimp only; rw [contF_length]; omega

set_option maxHeartbeats 4000000 in
set_option maxRecDepth 1000000 in
theorem hread1_calls {w : World} {mb : Nat} {A : Nat → Prop} {F B : List Int} (hM : MemAt w mb A F B) (nd sz at_ h m : Int) (h1 : 1 ≤ h ∧ h ≤ 4) (hat : 0 ≤ at_ ∧ at_ ≤ 1472) (hm : -9223372036854775808 ≤ m ∧ m ≤ 9223372036854775807) (bm bn bh bb : Nat)
    (hbm : w.heap[bm]? = some (.cells #[.pointer (some ⟨mb, 0, none⟩)] 26 (0, 0))) (hbn : w.heap[bn]? = some (.cells #[.int .i64 m] 3 (0, 0))) (hbh : w.heap[bh]? = some (.cells #[.int .i64 h] 3 (0, 0))) (hbb : w.heap[bb]? = some (.cells #[.slice none 0 0] 22 (0, 0)))
    (hna : ¬ A bm ∧ ¬ A bn ∧ ¬ A bh ∧ ¬ A bb) :
    Calls Tryz.prog 58 #[.agg #[.int .i64 nd, .int .i64 sz, .int .i64 at_], .pointer (some ⟨bm, 0, none⟩), .pointer (some ⟨bn, 0, none⟩), .pointer (some ⟨bh, 0, none⟩), .pointer (some ⟨bb, 0, none⟩)] w fun e w' =>
      ∃ A' r, e = .returned (.int .i64 (read1R B h nd at_ m).2.2) ∧ w'.heap[bb]? = some (.cells #[r] 22 (0, 0)) ∧ MemAt w' mb A' F (read1R B h nd at_ m).1 ∧ Fr (fun k => A k ∨ k = bb) w w' ∧ Gr w A A' ∧
        w'.ownsRow w.heap.size 5 1 r (read1R B h nd at_ m).2.1.length (bys (read1R B h nd at_ m).2.1) ∧ ∀ k, r.ownBlock = some k → ¬ A' k := by
  have HFa : RowKit.Hid (Fr No w (w.alloc (Obj.cells #[.int .i64 nd, .int .i64 sz, .int .i64 at_] 68))) := Lib.hid ((Fr.refl _ _).alloc _)
  have HRD := Lib.hid (ffread_calls (hM.fr0 HFa.out) nd at_ m (by omega) hm)
  have hlen := readR_len B nd at_ m
  have HB9 := Lib.hid (heap_new w (Obj.cells #[.int .i64 nd, .int .i64 sz, .int .i64 at_] 68))
  have HBM := Lib.hid (heap_alloc (Obj.cells #[.int .i64 nd, .int .i64 sz, .int .i64 at_] 68) hbm)
  have HBN := Lib.hid (heap_alloc (Obj.cells #[.int .i64 nd, .int .i64 sz, .int .i64 at_] 68) hbn)
  have HBH := Lib.hid (heap_alloc (Obj.cells #[.int .i64 nd, .int .i64 sz, .int .i64 at_] 68) hbh)
  have HBB := Lib.hid (heap_alloc (Obj.cells #[.int .i64 nd, .int .i64 sz, .int .i64 at_] 68) hbb)
  have HNA := Lib.hid hna
  have HN9 := Lib.hid (show ¬ A w.heap.size from fun hA => Nat.lt_irrefl _ (hM.low _ hA))
  have HBL : RowKit.Hid (bb < w.heap.size) := Lib.hid (heap_lt hbb)
  have hr : read1R B h nd at_ m = if (readR B nd at_ m).2 = 0 then (setF B (cellH h + 8) (at_ + (readR B nd at_ m).1.length), (readR B nd at_ m).1, 0) else (B, [], (readR B nd at_ m).2) := rfl
  generalize read1R B h nd at_ m = r at *
  obtain ⟨r1, r2, r3⟩ := r
  generalize readR B nd at_ m = p at *
  obtain ⟨l, x⟩ := p
  dsimp only at HRD hr hlen ⊢
  have HMV := Lib.hid (fun (w1 : World) A1 (hM1 : MemAt w1 mb A1 F B) => hmove_calls hM1 h (at_ + l.length) h1)
  have hwl : IntKind.i64.wrap (at_ + (l.length : Int)) = at_ + (l.length : Int) := IntWalk.i64_in _ (by omega)
  have c0 := heap_cell (o := 0) HB9.out rfl
  have c2 := heap_cell (o := 2) HB9.out rfl
  have m0 := heap_cell (o := 0) HBM.out rfl
  have m1 := heap_cell (o := 0) HBN.out rfl
  clear hM h1 hat hm hbm hbn hbh hbb hna hlen
  by_cases hx : x = 0
  · have q1 : (x == 0) = true := by simp [hx]
    rw [if_pos hx] at hr
    injection hr with e1 e2
    injection e2 with e2 e3
    subst e1; have e2' := e2.symm; subst e2'; subst e3
    have HX := Lib.hid hx
    clear hx
    go_enter Tryz.func58, Tryz.ntmps58
    go_wp2_with fail
    refine HRD.out.mono ?_
    rintro e w1 ⟨A1, rr, rfl, hp, hrow, hout⟩
    have HP := Lib.hid (Mp.pre HFa.out hp)
    have hF1 := hp.2.1
    have d2 := heap_cell (o := 2) (hF1.heap HB9.out (fun h => HN9.out h)) rfl
    have n0 := heap_cell (o := 0) (hF1.heap HBM.out (fun h => HNA.out.1 h)) rfl
    have n2 := heap_cell (o := 0) (hF1.heap HBH.out (fun h => HNA.out.2.2.1 h)) rfl
    have HBB1 := Lib.hid (hF1.heap HBB.out (fun h => HNA.out.2.2.2 h))
    have HNB1 : RowKit.Hid (¬ A1 bb) := Lib.hid (HP.out.notA HNA.out.2.2.2 HBL.out)
    have HROW := Lib.hid (ownsRow_base hrow HFa.out.size)
    have HOUT := Lib.hid hout
    obtain ⟨arr, crr, rfl⟩ := (Sl.of_owns hrow).form
    clear hp c0 c2 m0 m1 hrow hout hF1
    dsimp only at HROW ⊢
    go_wp2_with fail
    refine (HMV.out _ _ HP.out.1).mono ?_
    rintro e w2 ⟨A2, rfl, hp⟩
    have HP2 := Lib.hid (HP.out.trans hp)
    have HNB2 : RowKit.Hid (¬ A2 bb) := Lib.hid (hp.notA HNB1.out (heap_lt HBB1.out))
    have hb2 := hp.2.1.heap HBB1.out (fun h => HNB1.out h)
    have f0 := heap_frozen (o := 0) hb2
    have k0 := heap_cell (o := 0) hb2 rfl
    have HB2 := Lib.hid (heap_setAt (cs := [.slice none 0 0]) hb2 0 (.slice arr l.length crr))
    have HROW2 := Lib.hid (ownsRow_fr HROW.out hp.2.1 HOUT.out)
    have HOUT2 : RowKit.Hid (∀ k, (Value.slice arr l.length crr).ownBlock = some k → ¬ A2 k) := Lib.hid (fun k e => hp.notA (HOUT.out k e) (HROW.out.lt k e).2)
    have HFs : RowKit.Hid (Fr (fun k => k = bb) w2 (w2.setCell ⟨bb, 0, none⟩ (.slice arr l.length crr))) := Lib.hid ((Fr.refl (fun k => k = bb) w2).setCell (p := ⟨bb, 0, none⟩) (fun _ => rfl) _)
    have HNR : RowKit.Hid (∀ k, (Value.slice arr l.length crr).ownBlock = some k → k ≠ bb) := Lib.hid (fun k e h => by have := (HROW.out.lt k e).1; have := HBL.out; omega)
    clear hp hb2
    go_wp2
    go_ret
    refine ⟨A2, _, by rw [HX.out]; rfl, HB2.out, HP2.out.1.fr HFs.out (fun k e hA => by subst e; exact HNB2.out hA), (HP2.out.2.1.mono (fun i _ h => Or.inl h)).trans (HFs.out.mono (fun i _ h => Or.inr h)), HP2.out.2.2, ownsRow_fr HROW2.out HFs.out (fun k e h => HNR.out k e h), HOUT2.out⟩
  · have q1 : (x == 0) = false := by simp [hx]
    rw [if_neg hx] at hr
    injection hr with e1 e2
    injection e2 with e2 e3
    subst e1; subst e2; subst e3
    clear hx
    go_enter Tryz.func58, Tryz.ntmps58
    go_wp2_with fail
    refine HRD.out.mono ?_
    rintro e w1 ⟨A1, rr, rfl, hp, hrow, hout⟩
    have HP := Lib.hid (Mp.pre HFa.out hp)
    have HBB1 := Lib.hid (hp.2.1.heap HBB.out (fun h => HNA.out.2.2.2 h))
    clear hp c0 c2 m0 m1 hrow hout
    go_wp2
    go_ret
    exact ⟨A1, _, rfl, HBB1.out, HP.out.1, HP.out.2.1.mono (fun i _ h => Or.inl h), HP.out.2.2, World.ownsRow_nil _ _ _ _, fun k e => by simp [Value.ownBlock] at e⟩

set_option maxHeartbeats 4000000 in
set_option maxRecDepth 1000000 in
theorem hread_calls {w : World} {mb : Nat} {A : Nat → Prop} {F B : List Int} (hM : MemAt w mb A F B) (h m : Int) (hm : -9223372036854775808 ≤ m ∧ m ≤ 9223372036854775807) :
    Calls Tryz.prog 20 #[.pointer (some ⟨mb, 0, none⟩), .int .i64 h, .int .i64 m] w (HdB w mb A F (hreadR B h m)) := by
  have hmf : ∀ (fn : Fn) (first cap : Array Value) (w : World), (Instr.makeFunc fn first cap).run Tryz.prog w = .ok (.func fn first cap) w := fun _ _ _ _ => rfl
  obtain ⟨o1, ho1⟩ : ∃ o, Obj.cells #[.pointer (some ⟨mb, 0, none⟩)] 26 = o := ⟨_, rfl⟩
  obtain ⟨o2, ho2⟩ : ∃ o, Obj.cells #[.int .i64 h] 3 = o := ⟨_, rfl⟩
  obtain ⟨o3, ho3⟩ : ∃ o, Obj.cells #[.int .i64 m] 3 = o := ⟨_, rfl⟩
  obtain ⟨o4, ho4⟩ : ∃ o, Obj.cells #[.slice none 0 0] 22 = o := ⟨_, rfl⟩
  have b0 := heap_alloc o4 (heap_alloc o3 (heap_alloc o2 (heap_new w o1)))
  have b1 := heap_alloc o4 (heap_alloc o3 (heap_new (w.alloc o1) o2))
  have b2 := heap_alloc o4 (heap_new ((w.alloc o1).alloc o2) o3)
  have b3 := heap_new (((w.alloc o1).alloc o2).alloc o3) o4
  have hF3 : Fr No w ((((w.alloc o1).alloc o2).alloc o3).alloc o4) := ((((Fr.refl _ _).alloc _).alloc _).alloc _).alloc _
  have s1 : (w.alloc o1).heap.size = w.heap.size + 1 := by simp
  have s2 : ((w.alloc o1).alloc o2).heap.size = w.heap.size + 2 := by simp
  have s3 : (((w.alloc o1).alloc o2).alloc o3).heap.size = w.heap.size + 3 := by simp
  rw [s1] at b1
  rw [s2] at b2
  rw [s3] at b3
  subst ho1; subst ho2; subst ho3; subst ho4
  have HF3 := Lib.hid hF3
  have HB3 := Lib.hid b3
  have hna : ¬ A w.heap.size ∧ ¬ A (w.heap.size + 2) ∧ ¬ A (w.heap.size + 1) ∧ ¬ A (w.heap.size + 3) := ⟨fun hA => by have := hM.low _ hA; omega, fun hA => by have := hM.low _ hA; omega, fun hA => by have := hM.low _ hA; omega, fun hA => by have := hM.low _ hA; omega⟩
  have HNA := Lib.hid hna
  have k0 := heap_cell (o := 0) b0 rfl
  have k1 := heap_cell (o := 0) b1 rfl
  have k2 := heap_cell (o := 0) b2 rfl
  have HW0 := Lib.hid (fun (W : World) (hF : Fr No w W) (hW : W.heap[w.heap.size]? = some (.cells #[.pointer (some ⟨mb, 0, none⟩)] 26 (0, 0))) (hW2 : W.heap[w.heap.size + 2]? = some (.cells #[.int .i64 m] 3 (0, 0))) (hW1 : W.heap[w.heap.size + 1]? = some (.cells #[.int .i64 h] 3 (0, 0))) (hW3 : W.heap[w.heap.size + 3]? = some (.cells #[.slice none 0 0] 22 (0, 0))) {nd sz at_ : Int} (hl : lookF B h = some (nd, sz, at_)) =>
    with_read (hM.fr0 hF) h (.pointer (some ⟨w.heap.size, 0, none⟩)) (.pointer (some ⟨w.heap.size + 2, 0, none⟩)) (.pointer (some ⟨w.heap.size + 1, 0, none⟩)) (.pointer (some ⟨w.heap.size + 3, 0, none⟩)) hl (fun v w' => v = .int .i64 (read1R B h nd at_ m).2.2 ∧ ∃ A' r, w'.heap[w.heap.size + 3]? = some (.cells #[r] 22 (0, 0)) ∧ MemAt w' mb A' F (read1R B h nd at_ m).1 ∧ Fr (fun k => A k ∨ k = w.heap.size + 3) W w' ∧ Gr W A A' ∧
        w'.ownsRow W.heap.size 5 1 r (read1R B h nd at_ m).2.1.length (bys (read1R B h nd at_ m).2.1) ∧ ∀ k, r.ownBlock = some k → ¬ A' k) (fun w1 A1 hp => by
      obtain ⟨l1, -, -, -, l2, l3, l4⟩ := look_facts hl
      have lt0 := heap_lt hW
      have lt1 := heap_lt hW1
      have lt2 := heap_lt hW2
      have lt3 := heap_lt hW3
      refine (hread1_calls hp.1 nd sz at_ h m l1 (by omega) hm w.heap.size (w.heap.size + 2) (w.heap.size + 1) (w.heap.size + 3) (hp.2.1.heap hW (fun h => hna.1 h)) (hp.2.1.heap hW2 (fun h => hna.2.1 h)) (hp.2.1.heap hW1 (fun h => hna.2.2.1 h)) (hp.2.1.heap hW3 (fun h => hna.2.2.2 h))
        ⟨hp.notA hna.1 lt0, hp.notA hna.2.1 lt2, hp.notA hna.2.2.1 lt1, hp.notA hna.2.2.2 lt3⟩).mono ?_
      rintro e w2 ⟨A2, r, rfl, q1, q2, q3, q4, q5, q6⟩
      refine ⟨_, rfl, rfl, A2, r, q1, q2, (hp.2.1.mono (fun i _ h => Or.inl h)).trans' q3 (fun i hi h => h.elim (fun h => (hp.2.2 i h).elim Or.inl (fun h => by omega)) Or.inr), hp.2.2.trans q4 hp.2.1.size, ownsRow_base q5 hp.2.1.size, q6⟩))
  cases hl : lookF B h with
  | none =>
    have hr : hreadR B h m = (B, [], badE B) := by rw [hreadR, hl]
    rw [hr]
    have HW := Lib.hid (fun fv => with_bad (hM.fr0 hF3) h fv hl)
    clear hM hl hr hna hm b0 b1 b2 b3 hF3 HW0
    generalize badE B = be at *
    go_enter Tryz.func20, Tryz.ntmps20
    go_wp2_with fail
    refine (HW.out _).mono ?_
    rintro e w1 ⟨A1, rfl, hp⟩
    have HP := Lib.hid (Mp.pre HF3.out hp)
    have x0 := heap_cell (o := 0) (hp.2.1.heap HB3.out (fun h => HNA.out.2.2.2 h)) rfl
    clear hp
    go_wp2
    go_ret2
    exact ⟨A1, _, rfl, HP.out, World.ownsRow_nil _ _ _ _, fun k e => by simp [Value.ownBlock] at e⟩
  | some p =>
    obtain ⟨nd, sz, at_⟩ := p
    have hr : hreadR B h m = read1R B h nd at_ m := by rw [hreadR, hl]
    rw [hr]
    have HW := Lib.hid (HW0.out _ hF3 b0 b2 b1 b3 hl)
    clear hM hl hr hna hm b0 b1 b2 b3 hF3 HW0
    generalize read1R B h nd at_ m = r at *
    go_enter Tryz.func20, Tryz.ntmps20
    go_wp2_with fail
    refine HW.out.mono ?_
    rintro e w1 ⟨v, rfl, rfl, A1, rr, q1, q2, q3, q4, q5, q6⟩
    have x0 := heap_cell (o := 0) q1 rfl
    have HQ := Lib.hid (show Mp w mb A F r.1 w1 A1 from ⟨q2, (HF3.out.no (S := A)).trans' q3 (fun i hi h => h.elim id (fun h => by omega)), fun j hj => (q4 j hj).imp id (fun h => Nat.le_trans HF3.out.size h)⟩)
    have HQ5 := Lib.hid (ownsRow_base q5 HF3.out.size)
    have HQ6 := Lib.hid q6
    clear q1 q2 q3 q4 q5 q6
    go_wp2
    go_ret2
    exact ⟨A1, rr, rfl, HQ.out, HQ5.out, HQ6.out⟩

end Go.Proofs.YtoajnmbbgbpbgaaGreat
