/-
  Chapter 13: Write, Read. (Printed by wip/tools/hd5.py.)
-/
import Derived.Test.YtoajnmbbgbpbgaaGreatZHd4
import Derived.Test.YtoajnmbbgbpbgaaGreatZJ
namespace Go.Proofs.YtoajnmbbgbpbgaaGreat
set_option linter.unusedVariables false
set_option linter.unusedSimpArgs false
open Go.RowKit Go.Shelf Go.Maps

/-- Blocks of the call's own stay out of the memory's. -/
theorem Mp.notA {w w' : World} {mb : Nat} {A A' : Nat → Prop} {F B : List Int} (hp : Mp w mb A F B w' A') {b : Nat} (h : ¬ A b) (hb : b < w.heap.size) : ¬ A' b := fun h' => (hp.2.2 _ h').elim h (fun h2 => by omega)

set_option maxHeartbeats 1000000 in
set_option maxRecDepth 1000000 in
theorem with_write {w : World} {mb : Nat} {A : Nat → Prop} {F B : List Int} (hM : MemAt w mb A F B) (h : Int) (c0 : Value) (c1 : Value) (c2 : Value) {nd sz at_ : Int} (hl : lookF B h = some (nd, sz, at_)) (Q : Value → World → Prop)
    (HC : ∀ w1 A1, Mp w mb A F B w1 A1 → Calls Tryz.prog 55 #[.agg #[.int .i64 nd, .int .i64 sz, .int .i64 at_], c0, c1, c2] w1 fun e w' => ∃ v, e = .returned v ∧ Q v w') :
    Calls Tryz.prog 38 #[.pointer (some ⟨mb, 0, none⟩), .int .i64 h, .func (.func 55) #[] #[c0, c1, c2]] w fun e w' => ∃ v, e = .returned v ∧ Q v w' := by
  have HCK := Lib.hid (by have := fcheck_calls hM; rw [look_check hl] at this; exact this)
  have HLK := Lib.hid (fun (w1 : World) A1 (hM1 : MemAt w1 mb A1 F B) => (by
    have := look_calls hM1 h
    unfold LookP at this
    rw [hl] at this; exact this))
  have HCL := Lib.hid HC
  clear hM hl HC
  go_enter Tryz.func38, Tryz.ntmps38
  go_wp2_with fail
  refine HCK.out.mono ?_
  rintro e w1 ⟨A1, rfl, hp⟩
  have HP := Lib.hid hp
  clear hp
  go_wp2_with fail
  refine (HLK.out _ _ HP.out.1).mono ?_
  rintro e w2 ⟨A2, a, b, c, rfl, hp2, hq⟩
  have he := hq _ rfl
  injection he with he1 he2
  injection he2 with he2 he3
  subst he1; subst he2; subst he3
  have HP2 := Lib.hid ((HP.out.trans hp2).thenFr ((Fr.refl _ _).alloc (Obj.cells #[.int .i64 nd, .int .i64 sz, .int .i64 at_] 68)))
  clear hp2 hq
  go_wp2_with fail
  refine (HCL.out _ _ HP2.out).mono ?_
  rintro e w3 ⟨v, rfl, hv⟩
  go_wp2
  go_ret
  exact ⟨_, rfl, hv⟩


def write1R (B : List Int) (h n a : Int) (l : List Int) : List Int × Int :=
  if (writeR B n a l).2 = 0 then (setF (writeR B n a l).1 (cellH h + 8) (a + l.length), 0) else writeR B n a l
def hwriteR (B : List Int) (h : Int) (l : List Int) : List Int × Int := match lookF B h with | none => (B, badE B) | some p => write1R B h p.1 p.2.2 l

set_option maxHeartbeats 2000000 in
set_option maxRecDepth 1000000 in
theorem hwrite1_calls {w : World} {mb : Nat} {A : Nat → Prop} {F B : List Int} (hM : MemAt w mb A F B) (nd sz at_ h : Int) (h1 : 1 ≤ h ∧ h ≤ 4) (hat : 0 ≤ at_ ∧ at_ ≤ 1472) (bm bb bh : Nat) (av : Option Addr) (cv : Nat) (l : List Int)
    (hbm : w.heap[bm]? = some (.cells #[.pointer (some ⟨mb, 0, none⟩)] 26 (0, 0))) (hbb : w.heap[bb]? = some (.cells #[.slice av l.length cv] 22 (0, 0))) (hbh : w.heap[bh]? = some (.cells #[.int .i64 h] 3 (0, 0)))
    (hna : ¬ A bm ∧ ¬ A bb ∧ ¬ A bh) (hv : Sl w (.slice av l.length cv) l.length (bys l)) (hvA : ∀ k, (Value.slice av l.length cv).ownBlock = some k → l ≠ [] → ¬ A k) (h0 : ∀ b ∈ l, 0 ≤ b ∧ b < 256) (hlen : l.length ≤ 140737488355328) :
    Calls Tryz.prog 55 #[.agg #[.int .i64 nd, .int .i64 sz, .int .i64 at_], .pointer (some ⟨bm, 0, none⟩), .pointer (some ⟨bb, 0, none⟩), .pointer (some ⟨bh, 0, none⟩)] w (FsP w mb A F (write1R B h nd at_ l).1 (.int .i64 (write1R B h nd at_ l).2)) := by
  have HFa : RowKit.Hid (Fr No w (w.alloc (Obj.cells #[.int .i64 nd, .int .i64 sz, .int .i64 at_] 68))) := Lib.hid ((Fr.refl _ _).alloc _)
  have HWR := Lib.hid (fwrite_calls (hM.fr0 HFa.out) nd at_ (.slice av l.length cv) l (by omega) (hv.fr0 HFa.out) hvA h0 hlen)
  have HMV := Lib.hid (fun (w1 : World) A1 B1 (hM1 : MemAt w1 mb A1 F B1) => hmove_calls hM1 h (at_ + l.length) h1)
  have HB9 := Lib.hid (heap_new w (Obj.cells #[.int .i64 nd, .int .i64 sz, .int .i64 at_] 68))
  have HBM := Lib.hid (heap_alloc (Obj.cells #[.int .i64 nd, .int .i64 sz, .int .i64 at_] 68) hbm)
  have HBB := Lib.hid (heap_alloc (Obj.cells #[.int .i64 nd, .int .i64 sz, .int .i64 at_] 68) hbb)
  have HBH := Lib.hid (heap_alloc (Obj.cells #[.int .i64 nd, .int .i64 sz, .int .i64 at_] 68) hbh)
  have HNA := Lib.hid hna
  have HN9 := Lib.hid (show ¬ A w.heap.size from fun hA => Nat.lt_irrefl _ (hM.low _ hA))
  have hwl : IntKind.i64.wrap (at_ + (l.length : Int)) = at_ + (l.length : Int) := IntWalk.i64_in _ (by omega)
  have hr : write1R B h nd at_ l = if (writeR B nd at_ l).2 = 0 then (setF (writeR B nd at_ l).1 (cellH h + 8) (at_ + l.length), 0) else writeR B nd at_ l := rfl
  generalize write1R B h nd at_ l = r at *
  obtain ⟨r1, r2⟩ := r
  generalize writeR B nd at_ l = p at *
  obtain ⟨B2, x⟩ := p
  dsimp only at HWR hr ⊢
  have HRS := Lib.hid hr
  have c0 := heap_cell (o := 0) HB9.out rfl
  have c2 := heap_cell (o := 2) HB9.out rfl
  have m0 := heap_cell (o := 0) HBM.out rfl
  have m1 := heap_cell (o := 0) HBB.out rfl
  have m2 := heap_cell (o := 0) HBH.out rfl
  clear hM h1 hat hbm hbb hbh hna hv hvA h0 hlen hr
  go_enter Tryz.func55, Tryz.ntmps55
  go_wp2_with fail
  refine HWR.out.mono ?_
  rintro e w1 ⟨A1, rfl, hp⟩
  have HP := Lib.hid (Mp.pre HFa.out hp)
  have d2 := heap_cell (o := 2) (hp.2.1.heap HB9.out (fun h => HN9.out h)) rfl
  have n0 := heap_cell (o := 0) (hp.2.1.heap HBM.out (fun h => HNA.out.1 h)) rfl
  have n1 := heap_cell (o := 0) (hp.2.1.heap HBB.out (fun h => HNA.out.2.1 h)) rfl
  have n2 := heap_cell (o := 0) (hp.2.1.heap HBH.out (fun h => HNA.out.2.2 h)) rfl
  clear hp c0 c2 m0 m1 m2
  by_cases hx : x = 0
  · have q1 : (x == 0) = true := by simp [hx]
    have hrs := HRS.out
    rw [if_pos hx] at hrs
    injection hrs with e1 e2
    subst e1; subst e2
    have HX := Lib.hid hx
    clear hx
    go_wp2_with fail
    refine (HMV.out _ _ _ HP.out.1).mono ?_
    rintro e w2 ⟨A2, rfl, hp⟩
    go_wp2
    go_ret
    exact ⟨A2, by rw [HX.out]; rfl, HP.out.trans hp⟩
  · have q1 : (x == 0) = false := by simp [hx]
    have hrs := HRS.out
    rw [if_neg hx] at hrs
    injection hrs with e1 e2
    subst e1; subst e2
    clear hx
    go_wp2
    go_ret
    exact ⟨A1, rfl, HP.out⟩

set_option maxHeartbeats 2000000 in
set_option maxRecDepth 1000000 in
theorem hwrite_calls {w : World} {mb : Nat} {A : Nat → Prop} {F B : List Int} (hM : MemAt w mb A F B) (h : Int) (av : Option Addr) (cv : Nat) (l : List Int) (hv : Sl w (.slice av l.length cv) l.length (bys l)) (hvA : ∀ k, (Value.slice av l.length cv).ownBlock = some k → l ≠ [] → ¬ A k) (h0 : ∀ b ∈ l, 0 ≤ b ∧ b < 256) (hlen : l.length ≤ 140737488355328) :
    Calls Tryz.prog 19 #[.pointer (some ⟨mb, 0, none⟩), .int .i64 h, .slice av l.length cv] w (FsP w mb A F (hwriteR B h l).1 (.int .i64 (hwriteR B h l).2)) := by
  have hmf : ∀ (fn : Fn) (first cap : Array Value) (w : World), (Instr.makeFunc fn first cap).run Tryz.prog w = .ok (.func fn first cap) w := fun _ _ _ _ => rfl
  obtain ⟨o1, ho1⟩ : ∃ o, Obj.cells #[.pointer (some ⟨mb, 0, none⟩)] 26 = o := ⟨_, rfl⟩
  obtain ⟨o2, ho2⟩ : ∃ o, Obj.cells #[.int .i64 h] 3 = o := ⟨_, rfl⟩
  obtain ⟨o3, ho3⟩ : ∃ o, Obj.cells #[.slice av l.length cv] 22 = o := ⟨_, rfl⟩
  have b0 := heap_alloc o3 (heap_alloc o2 (heap_new w o1))
  have b1 := heap_alloc o3 (heap_new (w.alloc o1) o2)
  have b2 := heap_new ((w.alloc o1).alloc o2) o3
  have hF3 : Fr No w (((w.alloc o1).alloc o2).alloc o3) := (((Fr.refl _ _).alloc _).alloc _).alloc _
  have s1 : (w.alloc o1).heap.size = w.heap.size + 1 := by simp
  have s2 : ((w.alloc o1).alloc o2).heap.size = w.heap.size + 2 := by simp
  rw [s1] at b1
  rw [s2] at b2
  subst ho1; subst ho2; subst ho3
  have HF3 := Lib.hid hF3
  have HB0 := Lib.hid b0
  have HB1 := Lib.hid b1
  have HB2 := Lib.hid b2
  have hna : ¬ A w.heap.size ∧ ¬ A (w.heap.size + 2) ∧ ¬ A (w.heap.size + 1) := ⟨fun hA => by have := hM.low _ hA; omega, fun hA => by have := hM.low _ hA; omega, fun hA => by have := hM.low _ hA; omega⟩
  have k0 := heap_cell (o := 0) b0 rfl
  have k1 := heap_cell (o := 0) b1 rfl
  have HM3 := Lib.hid (hM.fr0 hF3)
  have HW0 := Lib.hid (fun (W : World) (hF : Fr No w W) (hW : W.heap[w.heap.size]? = some (.cells #[.pointer (some ⟨mb, 0, none⟩)] 26 (0, 0))) (hW2 : W.heap[w.heap.size + 2]? = some (.cells #[.slice av l.length cv] 22 (0, 0))) (hW1 : W.heap[w.heap.size + 1]? = some (.cells #[.int .i64 h] 3 (0, 0))) {nd sz at_ : Int} (hl : lookF B h = some (nd, sz, at_)) =>
    with_write (hM.fr0 hF) h (.pointer (some ⟨w.heap.size, 0, none⟩)) (.pointer (some ⟨w.heap.size + 2, 0, none⟩)) (.pointer (some ⟨w.heap.size + 1, 0, none⟩)) hl (fun v w' => v = .int .i64 (write1R B h nd at_ l).2 ∧ ∃ A', Mp W mb A F (write1R B h nd at_ l).1 w' A') (fun w1 A1 hp => by
      obtain ⟨l1, -, -, -, l2, l3, l4⟩ := look_facts hl
      have lt0 := heap_lt hW
      have lt1 := heap_lt hW1
      have lt2 := heap_lt hW2
      refine (hwrite1_calls hp.1 nd sz at_ h l1 (by omega) w.heap.size (w.heap.size + 2) (w.heap.size + 1) av cv l (hp.2.1.heap hW (fun h => hna.1 h)) (hp.2.1.heap hW2 (fun h => hna.2.1 h)) (hp.2.1.heap hW1 (fun h => hna.2.2 h))
        ⟨hp.notA hna.1 lt0, hp.notA hna.2.1 lt2, hp.notA hna.2.2 lt1⟩ ((hv.fr0 hF).fr hp.2.1 (fun k e hne => hvA k e (by rintro rfl; exact hne rfl))) (fun k e hne => hp.notA (hvA k e hne) (Nat.lt_of_lt_of_le (hv.lt e (by intro e2; apply hne; cases l with | nil => rfl | cons _ _ => simp [bys] at e2)) hF.size)) h0 hlen).mono ?_
      rintro e w2 ⟨A2, rfl, hp2⟩
      exact ⟨_, rfl, rfl, A2, hp.trans hp2⟩))
  cases hl : lookF B h with
  | none =>
    have hr : hwriteR B h l = (B, badE B) := by rw [hwriteR, hl]
    rw [hr]
    have HW := Lib.hid (fun fv => with_bad (hM.fr0 hF3) h fv hl)
    clear hM hl hr hna hv hvA h0 hlen b0 b1 b2 hF3
    generalize badE B = be at *
    go_enter Tryz.func19, Tryz.ntmps19
    go_wp2_with fail
    refine (HW.out _).mono ?_
    rintro e w1 ⟨A1, rfl, hp⟩
    have HP := Lib.hid (Mp.pre HF3.out hp)
    clear hp
    go_wp2
    go_ret
    exact ⟨A1, rfl, HP.out⟩
  | some p =>
    obtain ⟨nd, sz, at_⟩ := p
    have hr : hwriteR B h l = write1R B h nd at_ l := by rw [hwriteR, hl]
    rw [hr]
    have HW := Lib.hid (HW0.out _ hF3 b0 b2 b1 hl)
    clear hM hl hr hna hv hvA h0 hlen b0 b1 b2 hF3 HW0
    generalize write1R B h nd at_ l = r at *
    go_enter Tryz.func19, Tryz.ntmps19
    go_wp2_with fail
    refine HW.out.mono ?_
    rintro e w1 ⟨v, rfl, rfl, A1, hp⟩
    have HP := Lib.hid (Mp.pre HF3.out hp)
    clear hp
    go_wp2
    go_ret
    exact ⟨A1, rfl, HP.out⟩

end Go.Proofs.YtoajnmbbgbpbgaaGreat
