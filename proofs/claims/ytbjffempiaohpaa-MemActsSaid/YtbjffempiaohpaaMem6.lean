/-
  The memory of chapter 9: what programs read and store.
-/
import Derived.Test.YtbjffempiaohpaaMem5
namespace Go.Proofs.Ytbjffempiaohpaa
set_option linter.unusedVariables false
set_option linter.unusedSimpArgs false
open Go.RowKit Go.Shelf Go.Maps

set_option maxRecDepth 1000000 in
theorem inside_calls {w : World} {mb : Nat} {A : Nat → Prop} {F B : List Int} (h : MemAt w mb A F B) (a size low high : Int) (ha : -9223372036854775808 ≤ a ∧ a ≤ 9223372036854775807) (hs : 0 < size ∧ size ≤ 8) (hl : 0 ≤ low ∧ low ≤ 8192) (hh : 0 ≤ high ∧ high ≤ 8192) :
    Calls Try.prog 48 #[.pointer (some ⟨mb, 0, none⟩), .int .i64 a, .int .i64 size, .int .i64 low, .int .i64 high] w fun e w' => e = .returned (.int .i64 (insF a size low high)) ∧ w = w' := by
  have HI := Lib.hid (is_calls h)
  have hw : IntKind.i64.wrap (high - size) = high - size := IntWalk.i64_in _ (by omega)
  have hsz : (size == 0) = false := by simp; omega
  have hsn : ¬ size = 0 := by omega
  obtain ⟨hs1, hs2⟩ := hs
  clear h
  by_cases h1 : a < low
  · have hr : insF a size low high = -9 := by rw [insF, if_pos (.inl h1)]
    rw [hr]
    clear hr hh hl ha hs2
    go_enter Try.func48, Try.ntmps48
    go_wp2_with (go_at_call 46; ((with_reducible refine HI.out.mono ?_); rintro e w1 ⟨rfl, rfl⟩))
    go_ret
    exact ⟨rfl, rfl⟩
  · by_cases h2 : a > high - size
    · have hr : insF a size low high = -9 := by rw [insF, if_pos (.inr h2)]
      rw [hr]
      clear hr hh hl ha hs2
      go_enter Try.func48, Try.ntmps48
      go_wp2_with (go_at_call 46; ((with_reducible refine HI.out.mono ?_); rintro e w1 ⟨rfl, rfl⟩))
      go_ret
      exact ⟨rfl, rfl⟩
    · have hm : Int.tmod a size = a % size := Int.tmod_eq_emod_of_nonneg (by omega)
      by_cases h3 : a % size = 0
      · have hr : insF a size low high = 0 := by rw [insF, if_neg (by omega), if_neg (by simp [h3])]
        rw [hr]
        clear hr hh hl ha hs2
        go_enter Try.func48, Try.ntmps48
        go_wp2_with (go_at_call 46; ((with_reducible refine HI.out.mono ?_); rintro e w1 ⟨rfl, rfl⟩))
        go_ret
        exact ⟨rfl, rfl⟩
      · have hr : insF a size low high = -23 := by rw [insF, if_neg (by omega), if_pos h3]
        rw [hr]
        have h3b : (a % size != 0) = true := by simpa using h3
        clear hr hh hl ha hs2
        go_enter Try.func48, Try.ntmps48
        go_wp2_with (go_at_call 46; ((with_reducible refine HI.out.mono ?_); rintro e w1 ⟨rfl, rfl⟩))
        go_ret
        exact ⟨rfl, rfl⟩

set_option maxRecDepth 1000000 in
theorem cell_calls {w : World} {mb : Nat} {A : Nat → Prop} {F B : List Int} (h : MemAt w mb A F B) (a : Int) (ha : -9223372036854775808 ≤ a ∧ a ≤ 9223372036854775807) :
    Calls Try.prog 23 #[.pointer (some ⟨mb, 0, none⟩), .int .i64 a] w fun e w' => ∃ A', e = .returned (.tuple #[.int .i64 (if insF a 8 0 8192 = 0 then getF B a else 0), .int .i64 (insF a 8 0 8192)]) ∧ Mp w mb A F B w' A' := by
  have HI := Lib.hid (inside_calls h a 8 0 8192 ha (by omega) (by omega) (by omega))
  have HG := Lib.hid (get_calls h a ha)
  have HM := Lib.hid h
  clear h ha
  generalize getF B a = g at *
  by_cases h1 : insF a 8 0 8192 = 0
  · rw [h1] at HI ⊢
    clear h1
    go_enter Try.func23, Try.ntmps23
    go_wp2_with (first | (go_at_call 48; ((with_reducible refine HI.out.mono ?_); rintro e w1 ⟨rfl, rfl⟩)) | (go_at_call 33; ((with_reducible refine HG.out.mono ?_); rintro e w2 ⟨A', rfl, hM⟩)))
    go_ret2
    first | exact ⟨A', rfl, hM⟩ | exact ⟨rfl, A', hM⟩
  · rw [if_neg h1]
    generalize insF a 8 0 8192 = t at *
    have h1b : (t != 0) = true := by simpa using h1
    go_enter Try.func23, Try.ntmps23
    go_wp2_with (first | (go_at_call 48; ((with_reducible refine HI.out.mono ?_); rintro e w1 ⟨rfl, rfl⟩)))
    go_ret2
    exact ⟨A, rfl, Mp.refl HM.out⟩

set_option maxRecDepth 1000000 in
theorem byte_calls {w : World} {mb : Nat} {A : Nat → Prop} {F B : List Int} (h : MemAt w mb A F B) (a : Int) (ha : -9223372036854775808 ≤ a ∧ a ≤ 9223372036854775807) :
    Calls Try.prog 31 #[.pointer (some ⟨mb, 0, none⟩), .int .i64 a] w fun e w' => ∃ A', e = .returned (.tuple #[.int .i64 (if insF a 1 0 8192 = 0 then byteAt B a else 0), .int .i64 (insF a 1 0 8192)]) ∧ Mp w mb A F B w' A' := by
  have HI := Lib.hid (inside_calls h a 1 0 8192 ha (by omega) (by omega) (by omega))
  have HG : Calls Try.prog 20 #[.pointer (some ⟨mb, 0, none⟩), .int .i64 a, .int .i64 1] w _ := load_calls h a 1 1 (by decide) ha
  have HG' := Lib.hid HG
  have HM := Lib.hid h
  have hbr := byteAt_range B h.brange a
  have HX : ∀ (b : Nat) (w1 : World), Row w1 b 5 (loadF B a 1) → w1.cell? ⟨b, 0, none⟩ = some (.int .u8 (byteAt B a)) := fun b w1 hR => by
    have h1 := hR.cell (i := 0) (by rw [loadF_length]; omega)
    have h2 := loadF_get B a 1 0 (by omega)
    rw [h1]
    have h3 : 0 < (loadF B a 1).length := by rw [loadF_length]; omega
    simp [List.getD, h3] at h2
    rw [h2]
  have HX' := Lib.hid HX
  clear h ha HG HX
  generalize byteAt B a = g at *
  by_cases h1 : insF a 1 0 8192 = 0
  · rw [h1] at HI ⊢
    clear h1
    have hw : IntKind.i64.wrap g = g := IntWalk.i64_in _ (by omega)
    go_enter Try.func31, Try.ntmps31
    go_wp2_with (first | (go_at_call 48; ((with_reducible refine HI.out.mono ?_); rintro e w1 ⟨rfl, rfl⟩)) | (go_at_call 20; ((with_reducible refine HG'.out.mono ?_); rintro e w2 ⟨b, A', rfl, hM, hR, hn, hlt⟩; have c0 := HX'.out b w2 hR)))
    go_ret2
    first | exact ⟨A', rfl, hM⟩ | exact ⟨rfl, A', hM⟩
  · rw [if_neg h1]
    generalize insF a 1 0 8192 = t at *
    have h1b : (t != 0) = true := by simpa using h1
    go_enter Try.func31, Try.ntmps31
    go_wp2_with (first | (go_at_call 48; ((with_reducible refine HI.out.mono ?_); rintro e w1 ⟨rfl, rfl⟩)))
    go_ret2
    exact ⟨A, rfl, Mp.refl HM.out⟩

/-- PutCell's throw, and the bytes behind it. -/
def putT (a : Int) : Int := if a = 16 then 0 else insF a 8 768 5632
def putB (B : List Int) (a n : Int) : List Int := if putT a = 0 then setF B a n else B

set_option maxRecDepth 1000000 in
theorem putcell_calls {w : World} {mb : Nat} {A : Nat → Prop} {F B : List Int} (h : MemAt w mb A F B) (a n : Int) (ha : -9223372036854775808 ≤ a ∧ a ≤ 9223372036854775807) :
    Calls Try.prog 22 #[.pointer (some ⟨mb, 0, none⟩), .int .i64 a, .int .i64 n] w fun e w' => ∃ A', e = .returned (.int .i64 (putT a)) ∧ Mp w mb A F (putB B a n) w' A' := by
  have HI := Lib.hid (inside_calls h a 8 768 5632 ha (by omega) (by omega) (by omega))
  have HS := Lib.hid (is_calls h)
  have HG := Lib.hid (mset_calls h a n ha)
  have HM := Lib.hid h
  clear h ha
  by_cases h0 : a = 16
  · subst h0
    have hp : putT 16 = 0 := rfl
    have hB : putB B 16 n = setF B 16 n := by rw [putB, if_pos hp]
    rw [hp, hB]
    clear hp hB
    generalize insF 16 8 768 5632 = t at *
    go_enter Try.func22, Try.ntmps22
    go_wp2_with (first | (go_at_call 48; ((with_reducible refine HI.out.mono ?_); rintro e w1 ⟨rfl, rfl⟩)) | (go_at_call 46; ((with_reducible refine HS.out.mono ?_); rintro e w1 ⟨rfl, rfl⟩)) | (go_at_call 30; ((with_reducible refine HG.out.mono ?_); rintro e w2 ⟨A', rfl, hM⟩)))
    go_ret
    exact ⟨A', rfl, hM⟩
  · have h0b : (a == 16) = false := by simpa using h0
    by_cases h1 : insF a 8 768 5632 = 0
    · have hp : putT a = 0 := by rw [putT, if_neg h0, h1]
      have hB : putB B a n = setF B a n := by rw [putB, if_pos hp]
      rw [hp, hB]
      rw [h1] at HI
      clear hp hB h1 h0
      go_enter Try.func22, Try.ntmps22
      go_wp2_with (first | (go_at_call 48; ((with_reducible refine HI.out.mono ?_); rintro e w1 ⟨rfl, rfl⟩)) | (go_at_call 46; ((with_reducible refine HS.out.mono ?_); rintro e w1 ⟨rfl, rfl⟩)) | (go_at_call 30; ((with_reducible refine HG.out.mono ?_); rintro e w2 ⟨A', rfl, hM⟩)))
      go_ret
      exact ⟨A', rfl, hM⟩
    · have hp : putT a = insF a 8 768 5632 := by rw [putT, if_neg h0]
      have hB : putB B a n = B := by rw [putB, if_neg (by rw [hp]; exact h1)]
      rw [hp, hB]
      clear hp hB h0
      generalize insF a 8 768 5632 = t at *
      have h1b : (t == 0) = false := by simpa using h1
      go_enter Try.func22, Try.ntmps22
      go_wp2_with (first | (go_at_call 48; ((with_reducible refine HI.out.mono ?_); rintro e w1 ⟨rfl, rfl⟩)) | (go_at_call 46; ((with_reducible refine HS.out.mono ?_); rintro e w1 ⟨rfl, rfl⟩)))
      go_ret
      exact ⟨A, rfl, Mp.refl HM.out⟩
end Go.Proofs.Ytbjffempiaohpaa
