/-
  The memory of chapter 9: what is stored is read again; the chapter's example.
-/
import Derived.Test.YtbjffempiaohpaaMem8
namespace Go.Proofs.Ytbjffempiaohpaa
set_option linter.unusedVariables false
set_option linter.unusedSimpArgs false
open Go.RowKit Go.Shelf Go.Maps

theorem byteAt_set (B : List Int) (hB : B.length = 8192) (a n x : Int) (h0 : 0 ≤ a) (h1 : a ≤ x) (h2 : x < a + 8) (h3 : x < 8192) : byteAt (setF B a n) x = (cellF n).getD (x - a).toNat 0 := by
  rw [byteAt, if_pos (by omega), setF, layF, cellF_length, layN_get _ hB _ _ _ _ (by omega), if_pos (by omega)]
  congr 1; omega
theorem load_set (B : List Int) (hB : B.length = 8192) (a n : Int) (h0 : 0 ≤ a) (h1 : a + 8 ≤ 8192) : loadF (setF B a n) a 8 = cellF n := by
  apply List.ext_getElem?
  intro i
  rcases Nat.lt_or_ge i 8 with h | h
  · have e1 := loadF_get (setF B a n) a 8 i h
    rw [byteAt_set B hB a n _ h0 (by omega) (by omega) (by omega)] at e1
    have h2 : i < (loadF (setF B a n) a 8).length := by rw [loadF_length]; exact h
    have h3 : i < (cellF n).length := by rw [cellF_length]; exact h
    rw [show (a + (i : Int) - a).toNat = i by omega] at e1
    rw [List.getElem?_eq_getElem h2, List.getElem?_eq_getElem h3]
    simpa [List.getD, h2, h3] using e1
  · rw [List.getElem?_eq_none (by rw [loadF_length]; exact h), List.getElem?_eq_none (by rw [cellF_length]; exact h)]
theorem get_set (B : List Int) (hB : B.length = 8192) (a n : Int) (h0 : 0 ≤ a) (h1 : a + 8 ≤ 8192) (hn : -9223372036854775808 ≤ n ∧ n ≤ 9223372036854775807) : getF (setF B a n) a = n := by
  rw [getF, load_set B hB a n h0 h1, cellF]
  obtain ⟨u, hu⟩ : ∃ u : Nat, IntKind.u64.wrap n = u := ⟨(IntKind.u64.wrap n).toNat, by have := u64_range n; omega⟩
  have hr := u64_range n
  rw [hu] at hr ⊢
  rw [numL_putL (zs 8) 0 u 8 (by omega) (by rw [zs_length]; omega) (zs_rng 8) (by omega)]
  rw [IntKind.wrap_u64] at hu
  unfold wrap64
  omega
theorem putT_range {a : Int} (h : putT a = 0) : 0 ≤ a ∧ a + 8 ≤ 8192 ∧ a % 8 = 0 := by
  rw [putT] at h
  split at h
  · omega
  · rw [insF] at h
    split at h
    · omega
    · split at h
      · omega
      · omega
theorem putT_zero {a : Int} (h : putT a = 0) : insF a 8 0 8192 = 0 := by
  obtain ⟨h1, h2, h3⟩ := putT_range h
  rw [insF, if_neg (by omega), if_neg (by simp [h3])]

theorem Mp.step {w wi w' : World} {mb : Nat} {A A' : Nat → Prop} {F B : List Int} (h : Mp wi mb A F B w' A') (hF : Fr No w wi) (hA : ∀ j, A j → w.heap.size ≤ j) : Fr No w w' ∧ ∀ j, A' j → w.heap.size ≤ j :=
  ⟨hF.trans' h.2.1 (fun i hi hs => by have := hA i hs; omega), fun j hj => by
    rcases h.2.2 j hj with h1 | h1
    · exact hA j h1
    · exact Nat.le_trans hF.size h1⟩

set_option maxHeartbeats 1000000 in
set_option maxRecDepth 1000000 in
theorem awake9_calls (w : World) : Calls Try.prog 15 #[] w fun e w' => e = .returned (.bool true) ∧ Fr No w w' := by
  have HFl := Lib.hid (flat_calls (.slice none 0 0) [] w (by simp) (Sl.nil w))
  have b1 : ∀ B : List Int, putT 768 = 0 ∧ putB B 768 (-1) = setF B 768 (-1) := fun B => ⟨by decide, by rw [putB, if_pos (by decide)]⟩
  have b2 : putT 769 = -23 := by decide
  have b3 : ∀ B : List Int, putB B 769 1 = B := fun B => by rw [putB, if_neg (by decide)]
  have b4 : putT 0 = -9 := by decide
  have b5 : ∀ B : List Int, putB B 0 1 = B := fun B => by rw [putB, if_neg (by decide)]
  have b6 : insF 775 1 0 8192 = 0 := by decide
  have b7 : byteAt (setF (flatF []) 768 (-1)) 775 = 255 := by
    rw [byteAt_set _ (flatF_length []) _ _ _ (by omega) (by omega) (by omega) (by omega)]; decide
  have b8 : getF (setF (flatF []) 768 (-1)) 768 = -1 := get_set _ (flatF_length []) _ _ (by omega) (by omega) (by omega)
  have hl := flatF_length []
  generalize flatF [] = F at *
  have P1 := Lib.hid (fun (w1 : World) (mb : Nat) (A : Nat → Prop) (h : MemAt w1 mb A F F) => (by have := putcell_calls h 768 (-1) (by omega); rw [(b1 F).1, (b1 F).2] at this; exact this :
    Calls Try.prog 22 #[.pointer (some ⟨mb, 0, none⟩), .int .i64 768, .int .i64 (-1)] w1 fun e w' => ∃ A', e = .returned (.int .i64 0) ∧ Mp w1 mb A F (setF F 768 (-1)) w' A'))
  generalize setF F 768 (-1) = B at *
  have P2 := Lib.hid (fun (w1 : World) (mb : Nat) (A : Nat → Prop) (h : MemAt w1 mb A F B) => (by have := byte_calls h 775 (by omega); rw [b6, b7, if_pos rfl] at this; exact this :
    Calls Try.prog 31 #[.pointer (some ⟨mb, 0, none⟩), .int .i64 775] w1 fun e w' => ∃ A', e = .returned (.tuple #[.int .i64 255, .int .i64 0]) ∧ Mp w1 mb A F B w' A'))
  have P3 := Lib.hid (fun (w1 : World) (mb : Nat) (A : Nat → Prop) (h : MemAt w1 mb A F B) => (by have := putcell_calls h 769 1 (by omega); rw [b2, b3] at this; exact this :
    Calls Try.prog 22 #[.pointer (some ⟨mb, 0, none⟩), .int .i64 769, .int .i64 1] w1 fun e w' => ∃ A', e = .returned (.int .i64 (-23)) ∧ Mp w1 mb A F B w' A'))
  have P4 := Lib.hid (fun (w1 : World) (mb : Nat) (A : Nat → Prop) (h : MemAt w1 mb A F B) => (by have := putcell_calls h 0 1 (by omega); rw [b4, b5] at this; exact this :
    Calls Try.prog 22 #[.pointer (some ⟨mb, 0, none⟩), .int .i64 0, .int .i64 1] w1 fun e w' => ∃ A', e = .returned (.int .i64 (-9)) ∧ Mp w1 mb A F B w' A'))
  have P5 := Lib.hid (fun (w1 : World) (mb : Nat) (A : Nat → Prop) (h : MemAt w1 mb A F B) => (by have := get_calls h 768 (by omega); rw [b8] at this; exact this :
    Calls Try.prog 33 #[.pointer (some ⟨mb, 0, none⟩), .int .i64 768] w1 fun e w' => ∃ A', e = .returned (.int .i64 (-1)) ∧ Mp w1 mb A F B w' A'))
  clear b1 b2 b3 b4 b5 b6 b7 b8 hl
  go_enter Try.func15, Try.ntmps15
  go_wp2_with fail
  refine HFl.out.mono ?_
  rintro e w1 ⟨mb, A1, rfl, hM1, hF1, hA1⟩
  go_wp2_with fail
  refine (P1.out _ _ _ hM1).mono ?_
  rintro e w2 ⟨A2, rfl, hp2⟩
  obtain ⟨hF2, hA2⟩ := hp2.step hF1 hA1
  go_wp2_with fail
  refine (P2.out _ _ _ hp2.1).mono ?_
  rintro e w3 ⟨A3, rfl, hp3⟩
  obtain ⟨hF3, hA3⟩ := hp3.step hF2 hA2
  go_wp2_with fail
  refine (P3.out _ _ _ hp3.1).mono ?_
  rintro e w4 ⟨A4, rfl, hp4⟩
  obtain ⟨hF4, hA4⟩ := hp4.step hF3 hA3
  go_wp2_with fail
  refine (P4.out _ _ _ hp4.1).mono ?_
  rintro e w5 ⟨A5, rfl, hp5⟩
  obtain ⟨hF5, hA5⟩ := hp5.step hF4 hA4
  go_wp2_with fail
  refine (P5.out _ _ _ hp5.1).mono ?_
  rintro e w6 ⟨A6, rfl, hp6⟩
  obtain ⟨hF6, hA6⟩ := hp6.step hF5 hA5
  go_wp2_with fail
  refine (bytes_calls hp6.1).mono ?_
  rintro e w7 ⟨b, A7, rfl, hp7, -, -, -⟩
  obtain ⟨hF7, hA7⟩ := hp7.step hF6 hA6
  go_wp2
  go_ret
  exact ⟨rfl, hF7⟩
end Go.Proofs.Ytbjffempiaohpaa
