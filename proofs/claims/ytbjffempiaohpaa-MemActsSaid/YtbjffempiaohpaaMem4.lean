/-
  The memory of chapter 9: bytes laid down.
-/
import Derived.Test.YtbjffempiaohpaaMem3
namespace Go.Proofs.Ytbjffempiaohpaa
set_option linter.unusedVariables false
set_option linter.unusedSimpArgs false
open Go.RowKit Go.Shelf Go.Maps

/-- Bytes laid down from a on, the first i of them. -/
def layN (B : List Int) (a : Int) (l : List Int) : Nat → List Int
  | 0 => B
  | i + 1 => if 0 ≤ a + (i : Int) ∧ a + (i : Int) < 8192 then (layN B a l i).set (a + (i : Int)).toNat (l.getD i 0) else layN B a l i
def layF (B : List Int) (a : Int) (l : List Int) : List Int := layN B a l l.length
theorem layN_length (B : List Int) (a : Int) (l : List Int) (i : Nat) : (layN B a l i).length = B.length := by
  induction i with
  | zero => rfl
  | succ i ih => rw [layN]; split
                 · rw [List.length_set, ih]
                 · exact ih
theorem layN_out (B : List Int) (a : Int) (l : List Int) (h : 8192 < a) (i : Nat) : layN B a l i = B := by
  induction i with
  | zero => rfl
  | succ i ih => rw [layN, if_neg (by omega), ih]
theorem layN_get (B : List Int) (hB : B.length = 8192) (a : Int) (l : List Int) (i : Nat) (x : Nat) (hx : x < 8192) : (layN B a l i).getD x 0 = if a ≤ x ∧ (x : Int) < a + i then l.getD ((x : Int) - a).toNat 0 else B.getD x 0 := by
  induction i with
  | zero => rw [layN, if_neg (by omega)]
  | succ i ih =>
    rw [layN]
    by_cases h : 0 ≤ a + (i : Int) ∧ a + (i : Int) < 8192
    · rw [if_pos h, set_get _ _ _ _ (by rw [layN_length, hB]; omega), ih]
      by_cases e : x = (a + (i : Int)).toNat
      · rw [if_pos e, if_pos (by omega), show ((x : Int) - a).toNat = i by omega]
      · rw [if_neg e]
        by_cases h2 : a ≤ x ∧ (x : Int) < a + i
        · rw [if_pos h2, if_pos (by omega)]
        · rw [if_neg h2, if_neg (by omega)]
    · rw [if_neg h, ih]
      by_cases h2 : a ≤ x ∧ (x : Int) < a + i
      · rw [if_pos h2, if_pos (by omega)]
      · rw [if_neg h2, if_neg (by omega)]

set_option maxHeartbeats 1000000 in
set_option maxRecDepth 1000000 in
theorem lay_calls {w : World} {mb : Nat} {A : Nat → Prop} {F B : List Int} (h : MemAt w mb A F B) (a : Int) (v : Value) (l : List Int) (hv : Sl w v l.length (bys l)) (hvA : ∀ k, v.ownBlock = some k → l ≠ [] → ¬ A k) (h0 : ∀ b ∈ l, 0 ≤ b ∧ b < 256) (hlen : l.length ≤ 9223372036854775807) (ha : -9223372036854775808 ≤ a ∧ a ≤ 9223372036854775807) :
    Calls Try.prog 18 #[.pointer (some ⟨mb, 0, none⟩), .int .i64 a, v] w fun e w' => ∃ A', e = .returned (.tuple #[]) ∧ Mp w mb A F (layF B a l) w' A' := by
  obtain ⟨av, cap, rfl⟩ := hv.form
  have HI := Lib.hid (is_calls h)
  have HM := Lib.hid h
  obtain ⟨ha1, ha2⟩ := ha
  clear h
  by_cases hbig : 8192 < a
  · have hl : layF B a l = B := layN_out B a l hbig _
    have HL := Lib.hid hl
    clear hl hv hvA h0
    go_enter Try.func18, Try.ntmps18
    go_wp2_with (go_at_call 46; ((with_reducible refine HI.out.mono ?_); rintro e w1 ⟨rfl, rfl⟩))
    refine bodyPost_ret (results_none rfl _ _ _) rfl ?_
    exact ⟨A, rfl, by rw [HL.out]; exact Mp.refl HM.out⟩
  · go_enter Try.func18, Try.ntmps18
    go_wp2_with (go_at_call 46; ((with_reducible refine HI.out.mono ?_); rintro e w1 ⟨rfl, rfl⟩))
    go_loopw [18] (fun i wr => ∃ j : Nat, j ≤ l.length ∧ i = .int .i64 j ∧ ∃ A', Mp w mb A F (layN B a l j) wr A') (fun i _ => l.length - (intOf i).toNat)
    case atStart => exact ⟨0, Nat.zero_le _, rfl, A, Mp.refl HM.out⟩
    case round =>
      obtain ⟨j, hj, rfl, A', hM⟩ := hrel
      by_cases hlt : j < l.length
      · obtain ⟨vb, off, rfl, hvb, hc⟩ := hv.at (bys_ne l j hlt)
        have c1 := hM.2.1.cell (hc _ _ (bys_get _ _ hlt)) (hvA _ rfl (fun e => by rw [e] at hlt; simp at hlt))
        have hxr := h0 _ (List.getElem_mem hlt)
        have hg : l.getD j 0 = l[j] := by simp [List.getD, hlt]
        revert c1 hxr hg
        generalize l[j] = x
        intro c1 hxr hg
        have HG := Lib.hid hg
        have HXR := Lib.hid hxr
        have HH := Lib.hid hM
        have HVA := Lib.hid hvA
        by_cases hov : 9223372036854775807 < a + (j : Int)
        · have hst : layN B a l (j + 1) = layN B a l j := by rw [layN, if_neg (by omega)]
          have HST0 := Lib.hid hst
          have hw : IntKind.i64.wrap (a + (j : Int)) = a + j - 18446744073709551616 := by rw [IntKind.wrap_i64]; omega
          have h1 : ¬ 0 ≤ a + (j : Int) - 18446744073709551616 := by omega
          clear hM hvA hg hxr hst hv hc h0
          go_wp2
          go_roundw
          case rel => exact ⟨j + 1, by omega, by go_num, A', by rw [HST0.out]; exact HH.out⟩
          case measure => simp [intOf]; omega
        have hw : IntKind.i64.wrap (a + (j : Int)) = a + j := IntWalk.i64_in _ (by omega)
        by_cases hin : 0 ≤ a + (j : Int) ∧ a + (j : Int) < 8192
        · have hst : layN B a l (j + 1) = (layN B a l j).set (a + (j : Int)).toNat x := by rw [layN, if_pos hin, hg]
          obtain ⟨kk, hkk⟩ : ∃ kk : Nat, a + (j : Int) = kk := ⟨(a + (j : Int)).toNat, by omega⟩
          rw [hkk, Int.toNat_natCast] at hst
          have hk : kk < 8192 := by omega
          have HC0 := at_calls hM.1 kk hk
          obtain ⟨r, hr⟩ : ∃ r, kk % 64 = r := ⟨_, rfl⟩
          rw [hr] at HC0
          have HC := Lib.hid HC0
          have HST0 := Lib.hid hst
          have hr1 : (kk : Int) % 64 = r := by omega
          have hr2 : Int.tmod (kk : Int) 64 = r := by rw [Int.tmod_eq_emod_of_nonneg (by omega)]; exact hr1
          have hr3 : r < 64 := by omega
          rw [hkk] at hw
          clear hM HC0 hr hin hvA hg hxr hst hv hc h0
          go_wp2_with (go_at_call 47; ((with_reducible refine HC.out.mono ?_); rintro e w2 ⟨b, A2, rfl, hM2, hb2, hA2, hc2, hf2, hst2⟩; have HST := Lib.hid hst2; clear hst2))
          go_roundw
          case rel =>
            have hFs : Fr (fun k => k = b) w2 (w2.setCell ⟨b, 64 + r, none⟩ (.int .u8 x)) := (Fr.refl (fun k => k = b) w2).setCell (p := ⟨b, 64 + r, none⟩) (fun _ => rfl) _
            have hM3 := HH.out.trans hM2
            refine ⟨j + 1, by omega, by go_num, A2, ?_, ?_, hM3.2.2⟩
            · rw [HST0.out]; exact HST.out x HXR.out
            · exact hM3.2.1.trans' hFs (fun i hi e => by
                subst e
                rcases hM3.2.2 _ hb2 with h1 | h1
                · exact h1
                · omega)
          case measure => simp [intOf]; omega
        · have hst : layN B a l (j + 1) = layN B a l j := by rw [layN, if_neg hin]
          have HST0 := Lib.hid hst
          by_cases h0' : 0 ≤ a + (j : Int)
          · have h1 : ¬ (a + (j : Int) < 8192) := fun h => hin ⟨h0', h⟩
            clear hin hM hvA hg hxr hst hv hc h0
            go_wp2
            go_roundw
            case rel => exact ⟨j + 1, by omega, by go_num, A', by rw [HST0.out]; exact HH.out⟩
            case measure => simp [intOf]; omega
          · clear hin hM hvA hg hxr hst hv hc h0
            go_wp2
            go_roundw
            case rel => exact ⟨j + 1, by omega, by go_num, A', by rw [HST0.out]; exact HH.out⟩
            case measure => simp [intOf]; omega
      · have HH := Lib.hid hM
        clear hM hv hvA h0
        go_wp2
        go_end0
        exact ⟨A', rfl, by rw [layF, show l.length = j by omega]; exact HH.out⟩
end Go.Proofs.Ytbjffempiaohpaa
