/-
  The memory of chapter 9: the reference's reads and stores.
-/
import Derived.Test.YtbjffempiaohpaaMem13
namespace Go.Proofs.Ytbjffempiaohpaa
set_option linter.unusedVariables false
set_option linter.unusedSimpArgs false
open Go.RowKit Go.Shelf Go.Maps

theorem ins1 (a low high : Int) : insF a 1 low high = if a < low ∨ a > high - 1 then -9 else 0 := by
  rw [insF]; split
  · rfl
  · rw [if_neg (by omega)]

set_option maxRecDepth 1000000 in
theorem rbyte_calls {w : World} {rb : Nat} {R : Nat → Prop} {F B : List Int} (h : RefAt w rb R F B) (a : Int) (ha : -9223372036854775808 ≤ a ∧ a ≤ 9223372036854775807) :
    Calls Try.prog 52 #[.pointer (some ⟨rb, 0, none⟩), .int .i64 a] w fun e w' => e = .returned (.tuple #[.int .i64 (if insF a 1 0 8192 = 0 then byteAt B a else 0), .int .i64 (insF a 1 0 8192)]) ∧ w = w' := by
  obtain ⟨g, cap, gw, h⟩ := h.inn
  by_cases hin : a < 0 ∨ a > 8191
  · have hi : insF a 1 0 8192 = -9 := by rw [ins1, if_pos (by omega)]
    rw [hi, if_neg (by omega)]
    clear h hi
    rcases hin with h1 | h1
    · go_enter Try.func52, Try.ntmps52
      go_wp2
      go_ret2
      exact ⟨rfl, rfl⟩
    · have h2 : 8192 ≤ a := by omega
      have h3 : ¬ a < 0 := by omega
      clear h1
      go_enter Try.func52, Try.ntmps52
      go_wp2
      go_ret2
      exact ⟨rfl, rfl⟩
  · have hi : insF a 1 0 8192 = 0 := by rw [ins1, if_neg (by omega)]
    rw [hi, if_pos rfl]
    clear hi
    obtain ⟨k, rfl⟩ : ∃ k : Nat, a = k := ⟨a.toNat, by omega⟩
    have hk : k < 8192 := by omega
    have hkl : k < B.length := by rw [h.blen]; exact hk
    have hby : byteAt B (k : Int) = B[k] := by rw [byteAt, if_pos (by omega)]; simp [List.getD, hkl]
    rw [hby]
    have c0 := heap_cell (o := 0) h.box rfl
    have q1 := (h.row.cellAt k (by omega)).trans (bys_get _ _ hkl)
    have hr := h.brange _ (List.getElem_mem hkl)
    revert q1 hr
    generalize B[k] = x
    intro q1 hr
    have hw : IntKind.i64.wrap x = x := IntWalk.i64_in _ (by omega)
    have hk0 : ¬ (k : Int) < 0 := by omega
    have hk1 : ¬ 8192 ≤ (k : Int) := by omega
    clear h hby hin hr hkl
    go_enter Try.func52, Try.ntmps52
    go_wp2
    go_ret2
    exact ⟨rfl, rfl⟩

theorem or_zero (x : Int) (hx : ∃ n : Nat, x = n ∧ n < 2 ^ 64) : bits .or .u64 x (IntKind.u64.wrap 0) = x := by
  obtain ⟨n, rfl, hn⟩ := hx
  have h0 : IntKind.u64.wrap 0 = ((0 : Nat) : Int) := by rw [IntKind.wrap_u64]; rfl
  rw [h0, or_u64 n 0 hn (by omega), Nat.or_zero]

set_option maxHeartbeats 1000000 in
set_option maxRecDepth 1000000 in
theorem rnum8_calls (v : Value) (B : List Int) (a : Int) (w : World) (hB : B.length = 8192) (h0 : ∀ b ∈ B, 0 ≤ b ∧ b < 256) (ha : -9223372036854775808 ≤ a ∧ a ≤ 9223372036854775807) (hv : Sl w v 8192 (bys B)) :
    Calls Try.prog 41 #[v, .int .i64 a, .int .i64 8] w fun e w' => e = .returned (.int .u64 (numL (loadF B a 8) 0 8)) ∧ w = w' := by
  obtain ⟨av, cap, rfl⟩ := hv.form
  obtain ⟨ha1, ha2⟩ := ha
  have HLR := Lib.hid (loadF_range B h0 a 8)
  go_enter Try.func41, Try.ntmps41
  go_wp2
  go_loop [7, 8] (fun s i => ∃ k : Nat, k ≤ 8 ∧ i = .int .i64 k ∧ s = .int .u64 (numL (loadF B a 8) 0 k)) (fun _ i => 8 - (intOf i).toNat)
  case atStart => exact ⟨0, Nat.zero_le _, rfl, rfl⟩
  case round =>
    obtain ⟨k, hk, rfl, rfl⟩ := hrel
    by_cases hlt : k < 8
    · have hstep : numL (loadF B a 8) 0 (k + 1) = bits .or .u64 (numL (loadF B a 8) 0 k) (IntKind.u64.wrap (byteAt B (a + k) * 2 ^ (8 * k))) := by
        rw [numL, Nat.zero_add, loadF_get B a 8 k hlt]
      have hnum := numL_sum (loadF B a 8) HLR.out 0 k (by omega)
      have hsl := sumL_lt (loadF B a 8) HLR.out 0 k
      have hp8 : 2 ^ (8 * k) ≤ 2 ^ 64 := Nat.pow_le_pow_right (by decide) (by omega)
      by_cases hbig : a ≤ 8192
      · have hw : IntKind.i64.wrap (a + (k : Int)) = a + k := IntWalk.i64_in _ (by omega)
        by_cases hin : 0 ≤ a + (k : Int) ∧ a + (k : Int) < 8192
        · obtain ⟨kk, hkk⟩ : ∃ kk : Nat, a + (k : Int) = kk := ⟨(a + (k : Int)).toNat, by omega⟩
          have hkx : kk < 8192 := by omega
          have hkl : kk < B.length := by rw [hB]; exact hkx
          have hby : byteAt B (a + k) = B[kk] := by rw [byteAt, if_pos hin, hkk]; simp [List.getD, hkl]
          rw [hby] at hstep
          rw [hkk] at hw
          obtain ⟨b, off, rfl, hb, hc⟩ := hv.at (bys_ne _ _ hkl)
          have hc1 := hc _ _ (bys_get _ _ hkl)
          have hxr := h0 _ (List.getElem_mem hkl)
          revert hc1 hstep hxr
          generalize B[kk] = x
          intro hstep hc1 hxr
          obtain ⟨hx0, hx1⟩ := hxr
          have HS := Lib.hid hstep
          clear hstep hv hc hby hin h0 hkl hnum hsl hp8
          go_wp2
          go_round
          case rel => exact ⟨k + 1, by omega, by go_num, by rw [HS.out]⟩
          case measure => simp [intOf]; omega
        · rw [byteAt, if_neg hin, Int.zero_mul, or_zero _ ⟨_, hnum, by omega⟩] at hstep
          have HS := Lib.hid hstep
          by_cases h0' : 0 ≤ a + (k : Int)
          · have h1 : ¬ (a + (k : Int) < 8192) := fun h => hin ⟨h0', h⟩
            clear hin hstep hnum hsl hp8 hv h0
            go_wp2
            go_round
            case rel => exact ⟨k + 1, by omega, by go_num, by rw [HS.out]⟩
            case measure => simp [intOf]; omega
          · clear hin hstep hnum hsl hp8 hv h0
            go_wp2
            go_round
            case rel => exact ⟨k + 1, by omega, by go_num, by rw [HS.out]⟩
            case measure => simp [intOf]; omega
      · rw [byteAt, if_neg (by omega), Int.zero_mul, or_zero _ ⟨_, hnum, by omega⟩] at hstep
        have HS := Lib.hid hstep
        clear hstep hnum hsl hp8 hv h0
        go_wp2
        go_round
        case rel => exact ⟨k + 1, by omega, by go_num, by rw [HS.out]⟩
        case measure => simp [intOf]; omega
    · clear hv h0
      go_wp2
      go_ret
      exact ⟨by rw [show k = 8 by omega]; rfl, rfl⟩

set_option maxRecDepth 1000000 in
theorem rcell01_calls (v : Value) (B : List Int) (a : Int) (w : World) (hB : B.length = 8192) (h0 : ∀ b ∈ B, 0 ≤ b ∧ b < 256) (ha : -9223372036854775808 ≤ a ∧ a ≤ 9223372036854775807) (hv : Sl w v 8192 (bys B)) :
    Calls Try.prog 68 #[v, .int .i64 a] w fun e w' => e = .returned (.int .i64 (getF B a)) ∧ w = w' := by
  have HC := Lib.hid (rnum8_calls v B a w hB h0 ha hv)
  have hg : getF B a = wrap64 (numL (loadF B a 8) 0 8) := rfl
  rw [hg]
  obtain ⟨av, cap, rfl⟩ := hv.form
  clear hv hg h0
  go_enter Try.func68, Try.ntmps68
  go_wp2_with (go_at_call 41; ((with_reducible refine HC.out.mono ?_); rintro e w1 ⟨rfl, rfl⟩))
  go_ret
  exact ⟨rfl, rfl⟩

set_option maxRecDepth 1000000 in
theorem rget_calls {w : World} {rb : Nat} {R : Nat → Prop} {F B : List Int} (h : RefAt w rb R F B) (a : Int) (ha : -9223372036854775808 ≤ a ∧ a ≤ 9223372036854775807) :
    Calls Try.prog 54 #[.pointer (some ⟨rb, 0, none⟩), .int .i64 a] w fun e w' => e = .returned (.int .i64 (getF B a)) ∧ w = w' := by
  obtain ⟨g, cap, gw, h⟩ := h.inn
  have c0 := heap_cell (o := 0) h.box rfl
  have HC := Lib.hid (rcell01_calls (.slice (some ⟨g, 0, none⟩) 8192 cap) B a w h.blen h.brange ha (Sl.of_owns h.row))
  clear h
  generalize getF B a = x at *
  go_enter Try.func54, Try.ntmps54
  go_wp2_with (go_at_call 68; ((with_reducible refine HC.out.mono ?_); rintro e w1 ⟨rfl, rfl⟩))
  go_ret
  exact ⟨rfl, rfl⟩

set_option maxRecDepth 1000000 in
theorem rcell_calls {w : World} {rb : Nat} {R : Nat → Prop} {F B : List Int} (h : RefAt w rb R F B) (a : Int) (ha : -9223372036854775808 ≤ a ∧ a ≤ 9223372036854775807) :
    Calls Try.prog 53 #[.pointer (some ⟨rb, 0, none⟩), .int .i64 a] w fun e w' => e = .returned (.tuple #[.int .i64 (if insF a 8 0 8192 = 0 then getF B a else 0), .int .i64 (insF a 8 0 8192)]) ∧ w = w' := by
  obtain ⟨g, cap, gw, h⟩ := h.inn
  have c0 := heap_cell (o := 0) h.box rfl
  have HC := Lib.hid (rcell01_calls (.slice (some ⟨g, 0, none⟩) 8192 cap) B a w h.blen h.brange ha (Sl.of_owns h.row))
  clear h
  generalize getF B a = x at *
  by_cases h1 : a < 0
  · have hi : insF a 8 0 8192 = -9 := by rw [insF, if_pos (.inl h1)]
    rw [hi, if_neg (by omega)]
    clear hi ha
    go_enter Try.func53, Try.ntmps53
    go_wp2
    go_ret2
    exact ⟨rfl, rfl⟩
  · by_cases h2 : a > 8184
    · have hi : insF a 8 0 8192 = -9 := by rw [insF, if_pos (by omega)]
      rw [hi, if_neg (by omega)]
      clear hi ha
      go_enter Try.func53, Try.ntmps53
      go_wp2
      go_ret2
      exact ⟨rfl, rfl⟩
    · have hm : Int.tmod a 8 = a % 8 := Int.tmod_eq_emod_of_nonneg (by omega)
      by_cases h3 : a % 8 = 0
      · have hi : insF a 8 0 8192 = 0 := by rw [insF, if_neg (by omega), if_neg (by simp [h3])]
        rw [hi, if_pos rfl]
        clear hi ha
        go_enter Try.func53, Try.ntmps53
        go_wp2_with (go_at_call 68; ((with_reducible refine HC.out.mono ?_); rintro e w1 ⟨rfl, rfl⟩))
        go_ret2
        exact ⟨rfl, rfl⟩
      · have hi : insF a 8 0 8192 = -23 := by rw [insF, if_neg (by omega), if_pos h3]
        rw [hi, if_neg (by omega)]
        have h3b : (a % 8 != 0) = true := by simpa using h3
        clear hi ha
        go_enter Try.func53, Try.ntmps53
        go_wp2
        go_ret2
        exact ⟨rfl, rfl⟩

set_option maxRecDepth 1000000 in
theorem rputcellm_calls {w : World} {rb : Nat} {R : Nat → Prop} {F B : List Int} (h : RefAt w rb R F B) (a n : Int) (ha : -9223372036854775808 ≤ a ∧ a ≤ 9223372036854775807) :
    Calls Try.prog 51 #[.pointer (some ⟨rb, 0, none⟩), .int .i64 a, .int .i64 n] w fun e w' => ∃ R', e = .returned (.int .i64 (putT a)) ∧ Rp w rb R F (putB B a n) w' R' := by
  have HC := Lib.hid (rset_calls h a n ha)
  have HM := Lib.hid h
  clear h
  have hwa : IntKind.i64.wrap a = a := IntWalk.i64_in _ ha
  by_cases h0 : putT a = 0
  · have hB : putB B a n = setF B a n := by rw [putB, if_pos h0]
    obtain ⟨r1, r2, r3⟩ := putT_range h0
    rw [hB, h0]
    have hm : Int.tmod a 8 = a % 8 := Int.tmod_eq_emod_of_nonneg (by omega)
    have hlo : a = 16 ∨ (768 ≤ a ∧ a ≤ 5624) := by
      rw [putT] at h0
      split at h0
      · exact .inl (by assumption)
      · rw [insF] at h0
        split at h0
        · omega
        · exact .inr (by omega)
    clear hB h0 ha
    rcases hlo with rfl | ⟨h1, h2⟩
    · clear r1 r2 r3 hm
      go_enter Try.func51, Try.ntmps51
      go_wp2_with (go_at_call 24; ((with_reducible refine HC.out.mono ?_); rintro e w1 ⟨R', rfl, hp⟩))
      go_ret
      first | exact ⟨R', rfl, hp⟩ | exact ⟨rfl, R', hp⟩
    · have h16 : (a != 16) = true := by simp; omega
      have h3 : ¬ a < 768 := by omega
      have h4 : ¬ 5624 < a := by omega
      clear h1 h2
      go_enter Try.func51, Try.ntmps51
      go_wp2_with (go_at_call 24; ((with_reducible refine HC.out.mono ?_); rintro e w1 ⟨R', rfl, hp⟩))
      go_ret
      first | exact ⟨R', rfl, hp⟩ | exact ⟨rfl, R', hp⟩
  · have hB : putB B a n = B := by rw [putB, if_neg h0]
    have h16 : a ≠ 16 := fun e => h0 (by rw [putT, if_pos e])
    have hp : putT a = insF a 8 768 5632 := by rw [putT, if_neg h16]
    rw [hB, hp]
    have h16b : (a != 16) = true := by simpa using h16
    by_cases h1 : a < 768
    · have hi : insF a 8 768 5632 = -9 := by rw [insF, if_pos (.inl h1)]
      rw [hi]
      clear hi ha hB hp h0 h16
      go_enter Try.func51, Try.ntmps51
      go_wp2
      go_ret
      first | exact ⟨R, rfl, HM.out, Fr.refl _ _, Gr.refl _ _⟩ | exact ⟨rfl, R, HM.out, Fr.refl _ _, Gr.refl _ _⟩
    · by_cases h2 : 5624 < a
      · have hi : insF a 8 768 5632 = -9 := by rw [insF, if_pos (by omega)]
        rw [hi]
        clear hi ha hB hp h0 h16
        go_enter Try.func51, Try.ntmps51
        go_wp2
        go_ret
        first | exact ⟨R, rfl, HM.out, Fr.refl _ _, Gr.refl _ _⟩ | exact ⟨rfl, R, HM.out, Fr.refl _ _, Gr.refl _ _⟩
      · have h3 : a % 8 ≠ 0 := fun e => h0 (by rw [hp, insF, if_neg (by omega), if_neg (by simp [e])])
        have hi : insF a 8 768 5632 = -23 := by rw [insF, if_neg (by omega), if_pos h3]
        have hm : Int.tmod a 8 = a % 8 := Int.tmod_eq_emod_of_nonneg (by omega)
        have h3b : (a % 8 != 0) = true := by simpa using h3
        rw [hi]
        clear hi ha hB hp h0 h16 h3
        go_enter Try.func51, Try.ntmps51
        go_wp2
        go_ret
        first | exact ⟨R, rfl, HM.out, Fr.refl _ _, Gr.refl _ _⟩ | exact ⟨rfl, R, HM.out, Fr.refl _ _, Gr.refl _ _⟩
end Go.Proofs.Ytbjffempiaohpaa
