/-
  Chapter 7: a node read (none), Encode, blank.
-/
import Derived.Test.YtpcikbloflpahaaDoorSh4
namespace Go.Proofs.YtpcikbloflpahaaDoor
set_option linter.unusedVariables false
set_option linter.unusedSimpArgs false
open Go.RowKit Go.Shelf Go.Maps

set_option maxHeartbeats 1000000 in
set_option maxRecDepth 1000000 in
theorem sread0_calls (d : Option Addr) (w : World) : Calls Tryd.prog 58 #[.pointer d, .int .i64 0] w fun e w' => e = .returned (.agg (nds nd0).toArray) ∧ Fr No w w' := by
  have hb := heap_new w (Obj.cells (nds nd0).toArray 99)
  have HB := Lib.hid hb
  have HN := Lib.hid (heap_nd hb nd0_len)
  clear hb
  go_enter Tryd.func58, Tryd.ntmps58
  go_wp2_with (first
    | (refine alloc_nd rfl rfl ?_)
    | (refine build_nd rfl rfl ?_)
    | (refine store_nd rfl _ _ rfl w.heap.size 0 nd0 rfl rfl nd0_len HN.out.2.2 ?_; intro hF3)
    | fail "arm")
  have HN6 := heap_nd (heap_setCells7 HB.out (nds nd0) rfl) nd0_len
  refine ret_nd Tryd.results58 rfl HN6 rfl ⟨rfl, ((Fr.refl No w).alloc _).trans' hF3 (fun i hi e => by omega)⟩

theorem run_index_nd (w : World) (l : List Int) (j : Nat) (hj : j < l.length) (hl : l.length = 32) : (Instr.index 99 (.agg (nds l).toArray) (.int .i64 (j : Int))).run Tryd.prog w = .ok (.int .i64 l[j]) w := by
  have hi : (Tryd.prog.info? 3).map (·.size) = some 1 := by kernel_rfl
  cases hq : Tryd.prog.info? 3 with
  | none => rw [hq] at hi; cases hi
  | some i =>
    have hs : i.size = 1 := by simpa [hq] using hi
    have hag : (isAgg 3).run Tryd.prog w = .ok false w := by
      unfold isAgg
      rw [Sem.run_bind, run_underlying Tryd.underlying3 w]; rfl
    have hg := nds_get l j hj
    have hln := nds_len l
    unfold Instr.index
    simp [Sem.run_bind, asIntOf, run_underlying Tryd.underlying99 w, part, sizeOf, typeInfo, hq, hs, hag, hg]
    intro h8; omega

theorem mk_cap64 (w : World) : (Instr.makeSlice 30 (.int .i64 0) (.int .i64 64)).run Tryd.prog w = .ok (.slice (some ⟨w.heap.size, 0, none⟩) 0 64) (w.alloc (.cells (bys (zs 64)).toArray 5)) := by
  have hE := el_u8
  cases hi : Tryd.prog.info? 5 with
  | none => have := hE.info; rw [hi] at this; simp at this
  | some i =>
    have h := hE.info
    rw [hi] at h
    simp only [Option.map_some, Option.some.injEq, Prod.mk.injEq] at h
    obtain ⟨h1, h2, h3⟩ := h
    have := run_make (P := Tryd.prog) w 30 5 i (.int .u8 0) hE.und hi h1 .i64 .i64 0 64 (by omega) (by omega) (by rw [h3]; omega) (by omega)
    rw [this, h2]
    have e : ((64 : Int).toNat) = 64 := rfl
    rw [e, made_zs]; rfl
theorem bys_app7 (l m : List Int) : bys (l ++ m) = bys l ++ bys m := List.map_append
theorem putL_range (l : List Int) (a : Nat) (n : Int) (k : Nat) (h : ∀ b ∈ l, 0 ≤ b ∧ b < 256) : ∀ b ∈ putL l a n k, 0 ≤ b ∧ b < 256 := by
  induction k with
  | zero => exact h
  | succ k ih =>
    intro b hb
    rw [putL] at hb
    rcases List.mem_or_eq_of_mem_set hb with hb | rfl
    · exact ih b hb
    · have : IntKind.u8.wrap (n / 2 ^ (8 * k)) = (n / 2 ^ (8 * k)) % 256 := by simp [IntKind.wrap]; rfl
      omega

set_option maxHeartbeats 4000000 in
set_option maxRecDepth 1000000 in
theorem nencode_calls (l : List Int) (hl : l.length = 32) (hr : ∀ x ∈ l, 0 ≤ x ∧ x ≤ 65535) (w : World) :
    Calls Tryd.prog 69 #[.agg (nds l).toArray] w fun e w' => ∃ r bs, e = .returned (.tuple #[r, .int .i64 0]) ∧ Fr No w w' ∧ bs.length = 64 ∧ (∀ b ∈ bs, 0 ≤ b ∧ b < 256) ∧ w'.ownsRow w.heap.size 5 1 r 64 (bys bs) := by
  have hmk2 : ∀ w : World, (Instr.makeSlice 30 (.int .i64 2) (.int .i64 2)).run Tryd.prog w = .ok (.slice (some ⟨w.heap.size, 0, none⟩) 2 2) (w.alloc (.cells (bys (zs 2)).toArray 5)) := fun w => mk_bytes w 2 (by omega)
  have hmk := mk_cap64
  have HIX := Lib.hid (fun (w1 : World) j hj => run_index_nd w1 l j hj hl)
  have HR := Lib.hid hr
  have HL := Lib.hid hl
  have HN := Lib.hid (heap_nd (heap_alloc (Obj.cells (bys (zs 64)).toArray 5) (heap_new w (Obj.cells (nds l).toArray 99))) hl)
  clear hl hr
  go_enter Tryd.func69, Tryd.ntmps69
  go_wp2_with (first
    | ((refine load_nd rfl _ rfl w.heap.size 0 l rfl HN.out ?_))
    | fail "arm")
  go_loopw [4, 9] (fun bv i wr => ∃ (j : Nat) (bs : List Int), j ≤ 32 ∧ i = .int .i64 j ∧ bs.length = 2 * j ∧ (∀ b ∈ bs, 0 ≤ b ∧ b < 256) ∧ wr.ownsRow w.heap.size 5 1 bv (2 * j) (bys bs) ∧ Fr No w wr) (fun _ i _ => 32 - (intOf i).toNat)
  case atStart => exact ⟨0, [], by omega, rfl, rfl, by simp, ⟨rfl, .inr ⟨_, _, _, rfl, by omega, heap_new2_7 w _ _, by omega, by unfold maxLen; omega, by simp [bys, zs], by simp [bys]⟩⟩, ((Fr.refl No w).alloc _).alloc _⟩
  case round =>
    obtain ⟨j, bs, hj, rfl, hbl, hbr, hown, hF⟩ := hrel
    obtain ⟨ab, cb, rfl⟩ := (Sl.of_owns hown).form
    have HOW := Lib.hid hown
    have HF := Lib.hid hF
    have HBL := Lib.hid hbl
    have HBR := Lib.hid hbr
    clear hown hF hbl hbr
    by_cases hlt : j < 32
    · have hd : decide ((j : Int) < 32) = true := decide_eq_true (by omega)
      have hix := HIX.out wr j (by rw [HL.out]; exact hlt)
      have hx := HR.out _ (List.getElem_mem (h := (by rw [HL.out]; exact hlt : j < l.length)))
      revert hix hx
      generalize l[j]'(by rw [HL.out]; exact hlt) = x
      intro hix hx
      have d1 : decide (x < 0) = false := decide_eq_false (by omega)
      have d2 : decide (65535 < x) = false := decide_eq_false (by omega)
      have hwx : IntKind.u64.wrap x = x := IntWalk.u64_in _ (by omega)
      have HPT := Lib.hid (fun (w1 : World) => (put_calls (.slice (some ⟨w1.heap.size, 0, none⟩) 2 2) (zs 2) 0 2 x (w1.alloc (Obj.cells (bys (zs 2)).toArray 5)) (by omega) (by simp [zs]) (by simp [zs]) (by omega) (by simp [zs]) (by have := (Row.new w1 5 (zs 2)).sl; rw [zs_length] at this; exact this) :
        Calls Tryd.prog 79 #[.slice (some ⟨w1.heap.size, 0, none⟩) 2 2, .int .i64 0, .int .i64 2, .int .u64 x] (w1.alloc (Obj.cells (bys (zs 2)).toArray 5)) _))
      have HPL := Lib.hid (putL_length (zs 2) 0 x 2)
      have HPR := Lib.hid (putL_range (zs 2) 0 x 2 (fun b hb => by simp only [zs, List.mem_replicate] at hb; omega))
      clear hx
      generalize putL (zs 2) 0 x 2 = pl at *
      go_wp2_with fail
      refine (HPT.out _).mono ?_
      rintro e w1 ⟨r, rfl, hF1, hr1⟩
      rw [zs_length] at hr1
      obtain ⟨ar, cr, rfl⟩ := (Sl.of_owns hr1).form
      have HR1 := Lib.hid (Sl.of_owns hr1)
      have HF1 := Lib.hid (show Fr No w1 w1 from Fr.refl _ _)
      have HFW := Lib.hid (show Fr No wr w1 from (((Fr.refl No wr).alloc (Obj.cells (bys (zs 2)).toArray 5)).trans hF1))
      have HOW1 := Lib.hid (ownsRow_fr7 HOW.out HFW.out (fun _ _ h => h))
      have HSZ := Lib.hid (Nat.le_trans HF.out.size HFW.out.size)
      have hb2 : (bys pl).length = 2 * 1 := by rw [bys_len, HPL.out]; rfl
      clear hF1 hr1 HPT
      go_wp2_with (first
        | (at_builtin; (refine append_at7 el_u8 rfl _ (.tmp 22) rfl w.heap.size (.slice ab (2 * j) cb) (2 * j) (bys bs) rfl HOW1.out rfl HR1.out hb2 (bys_one _) (by unfold maxLen; omega) (by omega) HSZ.out ?_; intro a3 n3 c3 w3 hown3 hgrow3 hlie3))
        | fail "arm")
      have HF3 := Lib.hid (show Fr No w w3 from (HF.out.trans HFW.out).trans' (fr_grown7 hgrow3) (fun i hi e => by have := (HOW1.out.lt i e).1; omega))
      have HO3 := Lib.hid hown3
      clear hown3 hgrow3 hlie3
      go_wp2_with fail
      go_roundw
      case rel =>
        refine ⟨j + 1, bs ++ pl, by omega, by go_num, ?_, ?_, ?_, HF3.out⟩
        · rw [List.length_append, HBL.out, HPL.out, zs_length]; omega
        · intro b hb
          rcases List.mem_append.1 hb with h | h
          · exact HBR.out b h
          · exact HPR.out b h
        · have h3 := HO3.out
          rw [← bys_app7] at h3
          rw [show 2 * (j + 1) = 2 * j + 2 by omega]
          exact h3
      case measure => simp [intOf]; omega
    · obtain rfl : j = 32 := by omega
      have hd : decide (((32 : Nat) : Int) < 32) = false := by decide
      go_wp2
      go_ret2
      exact ⟨_, bs, rfl, HF.out, by have := HBL.out; omega, HBR.out, HOW.out⟩

set_option maxHeartbeats 1000000 in
set_option maxRecDepth 1000000 in
/-- Bytes that are not all noughts. -/
theorem blank_no (v : Value) (l : List Int) (w : World) (hlen : l.length ≤ 140737488355328) (hne : ∃ b ∈ l, b ≠ 0) (hv : Sl w v l.length (bys l)) :
    Calls Tryd.prog 59 #[v] w fun e w' => e = .returned (.bool false) ∧ w = w' := by
  obtain ⟨av, cv, rfl⟩ := hv.form
  have HV := Lib.hid hv
  have HNE := Lib.hid hne
  clear hv hne
  go_enter Tryd.func59, Tryd.ntmps59
  go_wp2_with fail
  go_loopw [7] (fun i wr => ∃ (j : Nat), j ≤ l.length ∧ i = .int .i64 j ∧ (∀ k (h : k < l.length), k < j → l[k] = 0) ∧ w = wr) (fun i _ => l.length - (intOf i).toNat)
  case atStart => exact ⟨0, Nat.zero_le _, rfl, fun k h h2 => absurd h2 (Nat.not_lt_zero k), rfl⟩
  case round =>
    obtain ⟨j, hj, rfl, hz, rfl⟩ := hrel
    have HZ := Lib.hid hz
    clear hz
    by_cases hlt : j < l.length
    · have hg := bys_get l j hlt
      obtain ⟨b, off, rfl, -, hc⟩ := HV.out.at (bys_ne _ _ hlt)
      have c0 := hc _ _ hg
      obtain ⟨x, hx⟩ : ∃ x, l[j] = x := ⟨_, rfl⟩
      rw [hx] at c0
      have HX := Lib.hid hx
      clear hc hg hx
      by_cases h0 : x = 0
      · have q1 : (x != 0) = false := by simp [h0]
        have H0 := Lib.hid h0
        clear h0
        go_wp2
        go_roundw
        case rel =>
          refine ⟨j + 1, by omega, by go_num, fun k h h2 => ?_, by first | rfl | trivial⟩
          by_cases e : k = j
          · subst e; exact HX.out.trans H0.out
          · exact HZ.out k h (by omega)
        case measure => simp [intOf]; omega
      · have q1 : (x != 0) = true := by simp [h0]
        clear h0
        go_wp2
        go_ret
        exact ⟨rfl, rfl⟩
    · obtain ⟨b, hb, h⟩ := HNE.out
      obtain ⟨k, hk, rfl⟩ := List.getElem_of_mem hb
      exact absurd (HZ.out k hk (by omega)) h
end Go.Proofs.YtpcikbloflpahaaDoor
