/-
  The memory of chapter 9: MemNone.
-/
import Derived.Test.YtbjffempiaohpaaMem12
namespace Go.Proofs.Ytbjffempiaohpaa
set_option linter.unusedVariables false
set_option linter.unusedSimpArgs false
open Go.RowKit Go.Shelf Go.Maps

set_option maxHeartbeats 2000000 in
set_option maxRecDepth 1000000 in
theorem memNone_calls (d a n : Int) (au : Option Addr) (lu cu : Nat) (w : World) (ha : -9223372036854775808 ≤ a ∧ a ≤ 9223372036854775807) :
    Calls Try.prog 8 #[.agg #[.int .i64 d, .int .i64 a, .int .i64 n, .slice au lu cu]] w fun e w' => e = .returned (.bool true) ∧ Fr No w w' := by
  have hb0 := heap_new w (Obj.cells #[.int .i64 d, .int .i64 a, .int .i64 n, .slice au lu cu] 56)
  have hF0 : Fr No w (w.alloc (Obj.cells #[.int .i64 d, .int .i64 a, .int .i64 n, .slice au lu cu] 56)) := (Fr.refl _ _).alloc _
  have hwa : IntKind.i64.wrap a = a := IntWalk.i64_in _ ha
  go_enter Try.func8, Try.ntmps8
  go_wp2_with fail
  generalize w.alloc _ = W0 at *
  refine (awake9_calls _).mono ?_
  rintro e w1 ⟨rfl, hF1⟩
  have hb1 := hF1.heap hb0 (fun h => h)
  have c2 := heap_cell (o := 2) hb1 rfl
  have HB1 := Lib.hid hb1
  have hF01 := hF0.trans hF1
  clear hb0 hb1
  go_wp2_with fail
  · go_ret
    exact ⟨rfl, hF01⟩
  have hz0 : ((w1.alloc (Obj.cells #[.pointer none, .map none, .slice none 0 0] 65)).alloc (Obj.cells #[.pointer none, .pointer (some ⟨w1.heap.size, 0, none⟩)] 38)).heap[w1.heap.size]? = some (.cells #[.pointer none, .map none, .slice none 0 0] 65 (0, 0)) := heap_alloc _ (heap_new w1 _)
  have hz1 := heap_new (w1.alloc (Obj.cells #[.pointer none, .map none, .slice none 0 0] 65)) (Obj.cells #[.pointer none, .pointer (some ⟨w1.heap.size, 0, none⟩)] 38)
  rw [show (w1.alloc (Obj.cells #[.pointer none, .map none, .slice none 0 0] 65)).heap.size = w1.heap.size + 1 by simp] at hz1
  have hFz : Fr No w1 ((w1.alloc (Obj.cells #[.pointer none, .map none, .slice none 0 0] 65)).alloc (Obj.cells #[.pointer none, .pointer (some ⟨w1.heap.size, 0, none⟩)] 38)) := ((Fr.refl _ _).alloc _).alloc _
  have HZ0 := Lib.hid hz0
  have HZ1 := Lib.hid hz1
  have HB2 := Lib.hid (hFz.heap HB1.out (fun h => h))
  have hF02 := hF01.trans hFz
  clear hz0 hz1 c2 HB1 hFz
  generalize (w1.alloc _).alloc _ = W1 at *
  go_loopw [22] (fun i wr => ∃ j : Nat, j ≤ 2 ∧ i = .int .i64 j ∧ Fr No W1 wr) (fun i _ => 2 - (intOf i).toNat)
  case atStart => exact ⟨0, by omega, rfl, Fr.refl _ _⟩
  case round =>
    obtain ⟨j, hj, rfl, hF⟩ := hrel
    by_cases hlt : j < 2
    · obtain ⟨v, hcv, hnv⟩ : ∃ v, wr.cell? ⟨w1.heap.size + 1, j, none⟩ = some v ∧ NoneAt wr v := by
        rcases (by omega : j = 0 ∨ j = 1) with rfl | rfl
        · exact ⟨_, hF.cell (heap_cell HZ1.out rfl) (fun h => h), .inl rfl⟩
        · exact ⟨_, hF.cell (heap_cell HZ1.out rfl) (fun h => h), .inr ⟨_, rfl, hF.heap HZ0.out (fun h => h)⟩⟩
      have hb3 := hF.heap HB2.out (fun h => h)
      have c1 := heap_cell (o := 1) hb3 rfl
      have c2 := heap_cell (o := 2) hb3 rfl
      have HNV := Lib.hid hnv
      have HB3 := Lib.hid hb3
      have HF := Lib.hid hF
      clear hnv hb3 hF
      go_wp2_with fail
      refine (set_none HNV.out a n).mono ?_
      rintro e w2 ⟨rfl, hF2⟩
      have hb4 := hF2.heap HB3.out (fun h => h)
      have d1 := heap_cell (o := 1) hb4 rfl
      have d2 := heap_cell (o := 2) hb4 rfl
      have d3 := heap_cell (o := 3) hb4 rfl
      have HNV2 := Lib.hid (HNV.out.fr hF2)
      have HB4 := Lib.hid hb4
      clear hb4 c1 c2 hcv
      go_wp2_with fail
      refine (lay_none HNV2.out a _).mono ?_
      rintro e w3 ⟨rfl, rfl⟩
      go_wp2_with fail
      refine (byte_none HNV2.out a).mono ?_
      rintro e w3 ⟨rfl, rfl⟩
      go_wp2_with fail
      refine (cell_none HNV2.out a).mono ?_
      rintro e w3 ⟨rfl, rfl⟩
      go_upto_if 82 with (first | (go_at_call 32; ((with_reducible refine (putbyte_none HNV2.out a n).mono ?_); rintro e w3 ⟨rfl, rfl⟩)) | (go_at_call 22; ((with_reducible refine (putcell_none HNV2.out a n).mono ?_); rintro e w3 ⟨rfl, rfl⟩)) | (go_at_call 33; ((with_reducible refine (get_none HNV2.out a).mono ?_); rintro e w4 ⟨rfl, hF4⟩)) | fail "arm")
      have HNV4 := Lib.hid (HNV2.out.fr hF4)
      have HF4 := Lib.hid ((HF.out.trans hF2).trans hF4)
      clear d1 d2 d3 HB4 HB3 HNV2 HNV HF hF2 hF4
      go_upto_region 15 with fail
      have HBY := Lib.hid (fun (w' : World) (h : Fr No w4 w') => bytes_none (HNV4.out.fr h))
      have HSY := Lib.hid (fun (w' : World) (h : Fr No w4 w') => sync_none (HNV4.out.fr h))
      have HRE := Lib.hid (fun (w' : World) (h : Fr No w4 w') => renew_none (HNV4.out.fr h))
      have HDI := Lib.hid (fun (w' : World) (h : Fr No w4 w') => dirty_none (HNV4.out.fr h))
      have hmk : ∀ w : World, (Instr.makeSlice 22 (.int .i64 8192) (.int .i64 8192)).run Try.prog w = .ok (.slice (some ⟨w.heap.size, 0, none⟩) 8192 8192) (w.alloc (.cells (bys (zs 8192)).toArray 5)) := fun w => mk_bytes w 8192 (by omega)
      have hcv : ∀ (w' : World) (b : Nat), w'.heap[b]? = some (.cells (bys (zs 8192)).toArray 5 (0, 0)) → (convert 22 9 (.slice (some ⟨b, 0, none⟩) 8192 8192)).run Try.prog w' = .ok (.string (strOfNums (zs 8192))) w' := fun w' b h => row_conv h (zs_length 8192)
      obtain ⟨cs, hcs⟩ : ∃ cs, (bys (zs 8192)).toArray = cs := ⟨_, rfl⟩
      have hcs2 : ∀ (w' : World) (b : Nat), Row w' b 5 (zs 8192) → w'.heap[b]? = some (.cells cs 5 (0, 0)) := fun w' b h => by rw [← hcs]; exact h
      have HCS2 := Lib.hid hcs2
      rw [hcs] at hmk
      simp only [hcs] at hcv
      clear hcs hcs2
      generalize strOfNums (zs 8192) = st at *
      have HCV := Lib.hid hcv
      clear hcv
      have q1 := HCV.out (w4.alloc (.cells cs 5)).drew w4.heap.size (heap_new w4 (.cells cs 5))
      go_cut [104] (fun s104 wx => s104 = .bool false ∧ Fr No w4 wx)
      case first =>
        go_region_with (first
          | (go_at_call 34; ((with_reducible refine (HSY.out _ (by first | exact Fr.refl _ _ | exact (Fr.refl _ _).drew)).mono ?_); rintro e w5 ⟨rfl, rfl⟩))
          | (go_at_call 35; ((with_reducible refine (HRE.out _ (by first | exact Fr.refl _ _ | exact (Fr.refl _ _).drew)).mono ?_); rintro e w5 ⟨rfl, rfl⟩))
          | (go_at_call 28; ((with_reducible refine (HDI.out _ (by first | exact Fr.refl _ _ | exact (Fr.refl _ _).drew)).mono ?_); rintro e w5 ⟨rfl, rfl⟩))
          | (go_at_call 21; ((with_reducible refine (HBY.out _ (by first | exact Fr.refl _ _ | exact (Fr.refl _ _).drew | exact ((Fr.refl _ _).alloc _).drew | exact ((Fr.refl _ _).drew).alloc _)).mono ?_); rintro e w5 ⟨b5, rfl, hF5, hr5⟩; have hr5' := HCS2.out w5 b5 hr5; have q2 := HCV.out w5 b5 hr5'; have q3 := HCV.out (w5.alloc (.cells cs 5)) b5 (heap_alloc _ hr5'); have q4 := HCV.out (w5.alloc (.cells cs 5)) w5.heap.size (heap_new w5 _); (try (have q5 := HCV.out w5 w4.heap.size (hF5.heap (heap_new w4 (.cells cs 5)) (fun h => h)))); clear hr5 hr5'))
          | fail "arm")
        all_goals (go_wp2_with fail; go_meet; first
          | exact ⟨rfl, (Fr.refl No w4).drew.trans hF5⟩
          | exact ⟨rfl, ((Fr.refl No w4).drew.trans hF5).alloc _⟩
          | exact ⟨rfl, ((Fr.refl No w4).alloc _).drew.trans hF5⟩
          | fail "frame")
      case rest =>
      obtain ⟨rfl, hF5⟩ := hcut
      have HF5 := Lib.hid (HF4.out.trans hF5)
      clear hmk q1 hF5
      go_wp2
      go_roundw
      case rel => exact ⟨j + 1, by omega, by go_num, HF5.out⟩
      case measure => simp [intOf]; omega
    · have HF := Lib.hid hF
      clear hF
      go_wp2_with fail
      refine (over_none wr).mono ?_
      rintro e w5 ⟨rfl, rfl⟩
      have HFl := Lib.hid (flat_calls (.slice none 0 0) [] wr (by simp) (Sl.nil wr))
      generalize flatF [] = F at *
      go_wp2_with (first
        | (go_at_call 16; ((with_reducible refine HFl.out.mono ?_); rintro e w6 ⟨mb, A, rfl, hM, hF6, hA⟩; have HS := Lib.hid (sync_flat hM); clear hM hA))
        | (go_at_call 34; ((with_reducible refine HS.out.mono ?_); rintro e w7 ⟨rfl, rfl⟩))
        | fail "arm")
      go_ret
      exact ⟨rfl, (hF02.trans HF.out).trans hF6⟩
end Go.Proofs.Ytbjffempiaohpaa
