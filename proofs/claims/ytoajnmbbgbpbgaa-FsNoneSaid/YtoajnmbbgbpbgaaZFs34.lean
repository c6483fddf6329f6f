/-
  Chapter 12: FsNone.
-/
import Derived.Test.YtoajnmbbgbpbgaaZK
import Derived.Test.YtoajnmbbgbpbgaaZFs33
namespace Go.Proofs.Ytoajnmbbgbpbgaa
set_option linter.unusedVariables false
set_option linter.unusedSimpArgs false
open Go.RowKit Go.Shelf Go.Maps

set_option maxHeartbeats 4000000 in
set_option maxRecDepth 1000000 in
theorem fsNone_calls (d nd at_ n : Int) (s t : ByteArray) (au : Option Addr) (lu cu : Nat) (w : World) :
    Calls Try.prog 6 #[.agg #[.int .i64 d, .string s, .string t, .int .i64 nd, .int .i64 at_, .int .i64 n, .slice au lu cu]] w fun e w' => e = .returned (.bool true) ∧ Fr No w w' := by
  obtain ⟨o, ho⟩ : ∃ o, (Obj.cells #[.int .i64 d, .string s, .string t, .int .i64 nd, .int .i64 at_, .int .i64 n, .slice au lu cu] 41) = o := ⟨_, rfl⟩
  have hb0 := heap_new w o
  have hF0 : Fr No w (w.alloc o) := (Fr.refl _ _).alloc _
  have HSS := Lib.hid (fun (w' : World) (hF : Fr No (w.alloc o) w') => (by
    have hb := hF.heap hb0 (fun h => h)
    rw [← ho] at hb
    exact ⟨heap_cell hb rfl, heap_cell hb rfl, heap_cell hb rfl, heap_cell hb rfl, heap_cell hb rfl, heap_cell hb rfl, hF⟩ :
      w'.cell? ⟨w.heap.size, 1, none⟩ = some (.string s) ∧ w'.cell? ⟨w.heap.size, 2, none⟩ = some (.string t) ∧ w'.cell? ⟨w.heap.size, 3, none⟩ = some (.int .i64 nd) ∧ w'.cell? ⟨w.heap.size, 4, none⟩ = some (.int .i64 at_) ∧
      w'.cell? ⟨w.heap.size, 5, none⟩ = some (.int .i64 n) ∧ w'.cell? ⟨w.heap.size, 6, none⟩ = some (.slice au lu cu) ∧ Fr No (w.alloc o) w'))
  subst ho
  clear hb0
  go_enter Try.func6, Try.ntmps6
  go_wp2_with fail
  generalize w.alloc _ = W0 at *
  refine (awake12_calls _).mono ?_
  rintro e w1 ⟨rfl, hF1⟩
  go_wp2_with fail
  have hz0 : ((w1.alloc (Obj.cells #[.pointer none, .map none, .slice none 0 0] 57)).alloc (Obj.cells #[.pointer none, .pointer (some ⟨w1.heap.size, 0, none⟩)] 24)).heap[w1.heap.size]? = some (.cells #[.pointer none, .map none, .slice none 0 0] 57 (0, 0)) := heap_alloc _ (heap_new w1 _)
  have hz1 := heap_new (w1.alloc (Obj.cells #[.pointer none, .map none, .slice none 0 0] 57)) (Obj.cells #[.pointer none, .pointer (some ⟨w1.heap.size, 0, none⟩)] 24)
  rw [show (w1.alloc (Obj.cells #[.pointer none, .map none, .slice none 0 0] 57)).heap.size = w1.heap.size + 1 by simp] at hz1
  have hFz : Fr No w1 ((w1.alloc (Obj.cells #[.pointer none, .map none, .slice none 0 0] 57)).alloc (Obj.cells #[.pointer none, .pointer (some ⟨w1.heap.size, 0, none⟩)] 24)) := ((Fr.refl _ _).alloc _).alloc _
  have HZ0 := Lib.hid hz0
  have HZ1 := Lib.hid hz1
  have HF1 := Lib.hid (hF1.trans hFz)
  clear hz0 hz1 hFz
  generalize (w1.alloc _).alloc _ = W1 at *
  go_loopw [25] (fun i wr => ∃ j : Nat, j ≤ 2 ∧ i = .int .i64 j ∧ Fr No W1 wr) (fun i _ => 2 - (intOf i).toNat)
  case atStart => exact ⟨0, by omega, rfl, Fr.refl _ _⟩
  case round =>
    obtain ⟨j, hj, rfl, hF⟩ := hrel
    by_cases hlt : j < 2
    · obtain ⟨v, hcv, hnv⟩ : ∃ v, wr.cell? ⟨w1.heap.size + 1, j, none⟩ = some v ∧ NoneAt wr v := by
        rcases (by omega : j = 0 ∨ j = 1) with rfl | rfl
        · exact ⟨_, hF.cell (heap_cell HZ1.out rfl) (fun h => h), .inl rfl⟩
        · exact ⟨_, hF.cell (heap_cell HZ1.out rfl) (fun h => h), .inr ⟨_, rfl, hF.heap HZ0.out (fun h => h)⟩⟩
      have HNV := Lib.hid (fun (w' : World) (h : Fr No wr w') => hnv.fr h)
      have HFR := Lib.hid hF
      have HF := Lib.hid (HF1.out.trans hF)
      have HSS' := Lib.hid (fun (w' : World) (h : Fr No wr w') => HSS.out w' ((HF1.out.trans hF).trans h))
      clear hnv
      go_wp2_with fail
      refine (fformat_none (HNV.out _ (Fr.refl _ _))).mono ?_
      rintro e w2 ⟨rfl, hF2⟩
      go_wp2_with fail
      refine (ffiles_none (HNV.out _ hF2)).mono ?_
      rintro e w3 ⟨rfl, hF3⟩
      have hF03 := hF2.trans hF3
      obtain ⟨c1, c2, c3, c4, c5, c6, -⟩ := HSS'.out _ hF03
      go_wp2_with fail
      refine (ffind_none (HNV.out _ hF03) s).mono ?_
      rintro e w4 ⟨rfl, hF4⟩
      have hF04 := hF03.trans hF4
      clear c1 c2 c3 c4 c5 c6 hF2 hF3 hF4 hF03 hcv
      obtain ⟨c1, c2, c3, c4, c5, c6, -⟩ := HSS'.out _ hF04
      go_wp2_with fail
      refine (fsize_none (HNV.out _ hF04) nd).mono ?_
      rintro e w5 ⟨rfl, hF5⟩
      have hF05 := hF04.trans hF5
      clear c1 c2 c3 c4 c5 c6 hF5 hF04
      obtain ⟨c1, c2, c3, c4, c5, c6, -⟩ := HSS'.out _ hF05
      go_wp2_with fail
      refine (fcreate_none (HNV.out _ hF05) s).mono ?_
      rintro e w6 ⟨rfl, hF6⟩
      have hF06 := hF05.trans hF6
      clear c1 c2 c3 c4 c5 c6 hF6 hF05
      obtain ⟨c1, c2, c3, c4, c5, c6, -⟩ := HSS'.out _ hF06
      go_wp2_with fail
      refine (ffread_none (HNV.out _ hF06) nd at_ n).mono ?_
      rintro e w7 ⟨rfl, hF7⟩
      have hF07 := hF06.trans hF7
      have HF07 := Lib.hid hF07
      have HSK := Lib.hid (fun (w' : World) (h : Fr No w7 w') => HSS'.out w' (hF07.trans h))
      have HNW := Lib.hid (fun (w' : World) (h : Fr No w7 w') => HNV.out w' (hF07.trans h))
      clear c1 c2 c3 c4 c5 c6 hF7 hF06 hF07 HSS' HNV HSS
      have hFd : Fr No w7 w7.drew := (Fr.refl _ _).drew
      go_upto_region 13 with fail
      go_cut [99, 100, 101] (fun s99 s100 s101 wx => ∃ b, s99 = .slice (some ⟨b, 0, none⟩) 10 10 ∧ s100 = .int .i64 10 ∧ s101 = .int .i64 0 ∧ wx.heap[b]? = some (.cells #[.int .i64 120, .int .i64 120, .int .i64 120, .int .i64 120, .int .i64 120, .int .i64 120, .int .i64 120, .int .i64 120, .int .i64 120, .int .i64 120] 31 (0, 0)) ∧ Fr No w7 wx)
      case first =>
        go_region_held3 (fun w' => w'.cell? ⟨w.heap.size, 1, none⟩ = some (.string s) ∧ w'.cell? ⟨w.heap.size, 2, none⟩ = some (.string t) ∧ w'.cell? ⟨w.heap.size, 3, none⟩ = some (.int .i64 nd) ∧ w'.cell? ⟨w.heap.size, 4, none⟩ = some (.int .i64 at_) ∧
            w'.cell? ⟨w.heap.size, 5, none⟩ = some (.int .i64 n) ∧ w'.cell? ⟨w.heap.size, 6, none⟩ = some (.slice au lu cu) ∧ Fr No W0 w')
          (first | exact HSK.out _ hFd | exact HSK.out _ hFa | exact HSK.out _ hFb | exact HSK.out _ hFc | exact HSK.out _ hFe | exact HSK.out _ hFf | exact HSK.out _ (hFf.alloc _)) (first
          | (go_at_call 28; ((with_reducible refine (fcheck_none (HNW.out _ hFd)).mono ?_); rintro e wa ⟨rfl, hFa0⟩; have hFa := hFd.trans hFa0))
          | (go_at_call 21; ((with_reducible refine (fdelete_none (HNW.out _ hFa) s).mono ?_); rintro e wb ⟨rfl, hFb0⟩; have hFb := hFa.trans hFb0))
          | (go_at_call 29; ((with_reducible refine (frename_none (HNW.out _ hFb) s t).mono ?_); rintro e wc ⟨rfl, hFc0⟩; have hFc := hFb.trans hFc0))
          | (go_at_call 25; ((with_reducible refine (fresize_none (HNW.out _ hFc) nd n).mono ?_); rintro e we ⟨rfl, hFe0⟩; have hFe := hFc.trans hFe0))
          | (go_at_call 24; ((with_reducible refine (fwrite_none (HNW.out _ hFe) nd at_ au lu cu).mono ?_); rintro e wf ⟨rfl, hFf0⟩; have hFf := hFe.trans hFf0))
          | fail "arm")
        all_goals (
          go_wp2_with fail
          go_meet
          exact ⟨_, rfl, rfl, rfl, heap_new _ _, hFf.alloc _⟩)
      case rest =>
      obtain ⟨b, rfl, rfl, rfl, hb, hFx⟩ := hcut
      have HFX := Lib.hid (HF07.out.trans hFx)
      have HB := Lib.hid hb
      have HFC := Lib.hid hFx
      clear hb hFx
      go_wp2_with fail
      go_loopw [101] (fun i wx => ∃ k : Nat, k ≤ 10 ∧ i = .int .i64 k ∧ Fr No wc wx) (fun i _ => 10 - (intOf i).toNat)
      case atStart => exact ⟨0, by omega, rfl, Fr.refl _ _⟩
      case round =>
        obtain ⟨k, hk, rfl, hFk⟩ := hrel
        by_cases hkt : k < 10
        · have hck : wr.cell? ⟨b, k, none⟩ = some (.int .i64 120) := by
            refine hFk.cell (heap_cell HB.out ?_) (fun h => h)
            rcases (by omega : k = 0 ∨ k = 1 ∨ k = 2 ∨ k = 3 ∨ k = 4 ∨ k = 5 ∨ k = 6 ∨ k = 7 ∨ k = 8 ∨ k = 9) with rfl | rfl | rfl | rfl | rfl | rfl | rfl | rfl | rfl | rfl <;> rfl
          go_wp2
          go_roundw
          case rel => exact ⟨k + 1, by omega, by go_num, hFk⟩
          case measure => simp [intOf]; omega
        · go_wp2_with fail
          go_roundw
          case rel => exact ⟨j + 1, by omega, by go_num, HFR.out.trans (HFX.out.trans hFk)⟩
          case measure => simp [intOf]; omega
    · go_wp2
      go_ret
      exact ⟨rfl, (hF0.trans HF1.out).trans hF⟩
end Go.Proofs.Ytoajnmbbgbpbgaa
