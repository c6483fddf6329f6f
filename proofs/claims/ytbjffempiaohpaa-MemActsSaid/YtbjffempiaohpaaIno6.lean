/-
  Chapter 11's example; the names' law; the writers' law.
-/
import Derived.Test.YtbjffempiaohpaaIno4
import Derived.Test.YtbjffempiaohpaaIno5
namespace Go.Proofs.Ytbjffempiaohpaa
set_option linter.unusedVariables false
set_option linter.unusedSimpArgs false
open Go.RowKit Go.Shelf

set_option maxHeartbeats 1000000 in
set_option maxRecDepth 1000000 in
theorem awake11_calls (w : World) : Calls Try.prog 9 #[] w fun e w' => e = .returned (.bool true) ∧ Fr No w w' := by
  have hok : inoOk ⟨#[97]⟩ 1 [(9, 1)] = true := by decide
  have henc : encF ⟨#[97]⟩ 1 [(9, 1)] = [1, 97] ++ zs 14 ++ [1, 0, 9, 1] ++ zs 44 := by decide
  have CE := Lib.hid (fun (w1 : World) (v : Value) (h : Sl w1 v 1 (extCells [(9, 1)])) => encode_calls ⟨#[97]⟩ 1 v [(9, 1)] w1 (by decide) (by omega) (by omega) (by simp) h)
  have CN := Lib.hid (fun w1 => need_calls 65 w1 (by omega) (by omega))
  have CM := Lib.hid (fun w1 => name_calls ⟨#[97]⟩ w1 (by decide))
  go_enter Try.func9, Try.ntmps9
  go_wp2_with fail
  have hsl : Sl (w.alloc (Obj.cells #[.int .i64 9, .int .i64 1] 73)) (.slice (some ⟨w.heap.size, 0, none⟩) 1 1) 1 (extCells [(9, 1)]) :=
    ⟨_, _, rfl, ⟨by simp, by omega⟩, fun _ => ⟨_, _, rfl⟩, by
      rintro b off j u ⟨rfl, rfl⟩ hj
      rw [Nat.zero_add]
      exact heap_cell (heap_new _ _) (by simpa [extCells] using hj)⟩
  have hF0 : Fr No w (w.alloc (Obj.cells #[.int .i64 9, .int .i64 1] 73)) := (Fr.refl _ _).alloc _
  refine (CE.out _ _ hsl).mono ?_
  rintro e w1 ⟨hF1, ⟨-, r, rfl, hr⟩ | ⟨h, -⟩⟩
  rotate_left
  · rw [hok] at h; cases h
  rw [henc] at hr
  obtain ⟨a, cap, rfl⟩ := hr.form
  obtain ⟨b, off, rfl, hb, hc⟩ := hr.at (by decide)
  have k0 := hc 0 (.int .u8 1) rfl
  have k1 := hc 1 (.int .u8 97) rfl
  have k16 := hc 16 (.int .u8 1) rfl
  have k18 := hc 18 (.int .u8 9) rfl
  have k19 := hc 19 (.int .u8 1) rfl
  rw [Nat.add_zero] at k0
  clear hc hr henc hok hsl
  have HN : needF 65 = 2 := by decide
  have HM : nameF ⟨#[97]⟩ = true := by decide
  go_wp2_with (first | (go_at_call 37; ((with_reducible refine (CN.out _).mono ?_); rintro e w2 ⟨rfl, rfl⟩; rw [HN])) | (go_at_call 38; ((with_reducible refine (CM.out _).mono ?_); rintro e w3 ⟨rfl, hF3⟩; rw [HM])))
  go_ret
  exact ⟨rfl, (hF0.trans hF1).trans hF3⟩

end Go.Proofs.Ytbjffempiaohpaa
