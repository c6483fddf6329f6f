/-
  Chapter 13: move, begin, free, Open, Create.
-/
import Derived.Test.YtoajnmbbgbpbgaaGreatZHd2
import Derived.Test.YtoajnmbbgbpbgaaGreatZI
import Derived.Test.YtoajnmbbgbpbgaaGreatZH
namespace Go.Proofs.YtoajnmbbgbpbgaaGreat
set_option linter.unusedVariables false
set_option linter.unusedSimpArgs false
open Go.RowKit Go.Shelf Go.Maps

theorem sizeR_facts {B : List Int} {n s : Int} (h : sizeR B n = (s, 0)) : 0 ≤ n ∧ n < 8 ∧ 0 ≤ s ∧ s ≤ 1472 := by
  cases ht : tableF B with
  | none =>
    have hs : sizeR B n = (0, 120) := by unfold sizeR; generalize tableF B = t at *; subst ht; rfl
    rw [hs] at h
    have : (120 : Int) = 0 := congrArg Prod.snd h
    omega
  | some p =>
    obtain ⟨L, u⟩ := p
    have hs : sizeR B n = if n < 0 ∨ 8 ≤ n then (0, 1) else if (L.getD n.toNat Nd.free).name = noName then (0, 123) else ((L.getD n.toNat Nd.free).size, 0) := by unfold sizeR; generalize tableF B = t at *; subst ht; rfl
    rw [hs] at h
    by_cases h1 : n < 0 ∨ 8 ≤ n
    · rw [if_pos h1] at h
      have : (1 : Int) = 0 := congrArg Prod.snd h
      omega
    · rw [if_neg h1] at h
      by_cases h2 : (L.getD n.toNat Nd.free).name = noName
      · rw [if_pos h2] at h
        have : (123 : Int) = 0 := congrArg Prod.snd h
        omega
      · rw [if_neg h2] at h
        obtain ⟨k, rfl⟩ := Int.eq_ofNat_of_zero_le (show 0 ≤ n by omega)
        have h3 : (L.getD ((k : Int)).toNat Nd.free).size = s := congrArg Prod.fst h
        rw [Int.toNat_natCast] at h3
        obtain ⟨-, -, f3, f4, -, -⟩ := tab_facts ht (k := k) (by omega)
        rw [h3] at f3 f4
        omega
theorem look_facts {B : List Int} {h n s a : Int} (e : lookF B h = some (n, s, a)) : (1 ≤ h ∧ h ≤ 4) ∧ sizeR B n = (s, 0) ∧ 0 ≤ n ∧ n < 8 ∧ 0 ≤ a ∧ a ≤ s ∧ s ≤ 1472 := by
  unfold lookF at e
  by_cases h1 : h < 1 ∨ 4 < h
  · rw [if_pos h1] at e; cases e
  · rw [if_neg h1] at e
    by_cases h2 : getF B (cellH h) < 1 ∨ 8 < getF B (cellH h)
    · rw [if_pos h2] at e; cases e
    · rw [if_neg h2] at e
      by_cases h3 : (sizeR B (getF B (cellH h) - 1)).2 ≠ 0
      · rw [if_pos h3] at e; cases e
      · rw [if_neg h3] at e
        injection e with e
        injection e with e1 e2
        injection e2 with e2 e3
        subst e1
        have hs : sizeR B (getF B (cellH h) - 1) = (s, 0) := Prod.ext e2 (by simpa using h3)
        have := sizeR_facts hs
        rw [e2] at e3
        have h4 : 0 ≤ a ∧ a ≤ s := by
          rw [← e3, atF]
          split <;> omega
        exact ⟨by omega, hs, by omega, by omega, h4.1, h4.2, by omega⟩
theorem findR_range {B : List Int} {s : ByteArray} {n : Int} (h : findR B s = (n, 0)) : 0 ≤ n ∧ n < 8 := by
  rcases find_facts B s with ⟨x, h0, hf, -⟩ | ⟨L, u, k, ht, hk, -, -, -, hf, -⟩
  · rw [hf] at h
    have : x = 0 := congrArg Prod.snd h
    omega
  · rw [hf] at h
    have : (k : Int) = n := congrArg Prod.fst h
    omega
theorem createR_range {B B2 : List Int} {s : ByteArray} {n : Int} (h : createR B s = (B2, n, 0)) : 0 ≤ n ∧ n < 8 := by
  cases ht : tableF B with
  | none =>
    have hs : createR B s = (B, 0, 120) := by unfold createR; generalize tableF B = t at *; subst ht; rfl
    rw [hs] at h
    have : (120 : Int) = 0 := congrArg (fun p => p.2.2) h
    omega
  | some p =>
    obtain ⟨L, u⟩ := p
    rw [createR_some ht] at h
    by_cases h1 : nameF s = false
    · rw [if_pos h1] at h
      have : (121 : Int) = 0 := congrArg (fun p => p.2.2) h
      omega
    · rw [if_neg h1] at h
      by_cases h2 : findI L s ≠ -1
      · rw [if_pos h2] at h
        have : (122 : Int) = 0 := congrArg (fun p => p.2.2) h
        omega
      · rw [if_neg h2] at h
        by_cases h3 : findI L noName = -1
        · rw [if_pos h3] at h
          have : (124 : Int) = 0 := congrArg (fun p => p.2.2) h
          omega
        · rw [if_neg h3] at h
          have h4 : findI L noName = n := congrArg (fun p => p.2.1) h
          rcases findI_cases L noName with h5 | ⟨k, hk, h5, -⟩
          · exact absurd h5 h3
          · have := tableF_len ht; omega

set_option maxRecDepth 100000 in
theorem hmove_calls {w : World} {mb : Nat} {A : Nat → Prop} {F B : List Int} (hM : MemAt w mb A F B) (h at_ : Int) (h1 : 1 ≤ h ∧ h ≤ 4) :
    Calls Tryz.prog 57 #[.pointer (some ⟨mb, 0, none⟩), .int .i64 h, .int .i64 at_] w (FsP w mb A F (setF B (cellH h + 8) at_) (.tuple #[])) := by
  have hc := cellH_range h1
  have HCE := Lib.hid (fun w1 => hcells_calls h w1 h1)
  have HST := Lib.hid (mset_calls hM (cellH h + 8) at_ (by omega))
  have hw8 : IntKind.i64.wrap (cellH h + 8) = cellH h + 8 := IntWalk.i64_in _ (by omega)
  generalize setF B (cellH h + 8) at_ = B2 at *
  generalize cellH h = ch at *
  clear hM hc h1
  go_enter Tryz.func57, Tryz.ntmps57
  go_wp2_with fail
  refine (HCE.out _).mono ?_
  rintro e w1 ⟨rfl, rfl⟩
  go_wp2_with fail
  refine HST.out.mono ?_
  rintro e w1 ⟨A1, rfl, hp⟩
  go_wp2
  go_end0
  exact ⟨A1, rfl, hp⟩

/-- A handle has a file. -/
def beginB (B : List Int) (h n : Int) : List Int := setF (setF B (cellH h) (n + 1)) (cellH h + 8) 0
set_option maxRecDepth 100000 in
theorem hbegin_calls {w : World} {mb : Nat} {A : Nat → Prop} {F B : List Int} (hM : MemAt w mb A F B) (h n : Int) (h1 : 1 ≤ h ∧ h ≤ 4) (hn : 0 ≤ n ∧ n < 8) :
    Calls Tryz.prog 54 #[.pointer (some ⟨mb, 0, none⟩), .int .i64 h, .int .i64 n] w (FsP w mb A F (beginB B h n) (.int .i64 h)) := by
  have hc := cellH_range h1
  have HCE := Lib.hid (fun w1 => hcells_calls h w1 h1)
  have HST := Lib.hid (mset_calls hM (cellH h) (n + 1) (by omega))
  have HMV := Lib.hid (fun (w1 : World) A1 (hM1 : MemAt w1 mb A1 F (setF B (cellH h) (n + 1))) => hmove_calls hM1 h 0 h1)
  have hw8 : IntKind.i64.wrap (n + 1) = n + 1 := IntWalk.i64_in _ (by omega)
  rw [show beginB B h n = setF (setF B (cellH h) (n + 1)) (cellH h + 8) 0 from rfl]
  generalize setF (setF B (cellH h) (n + 1)) (cellH h + 8) 0 = B3 at *
  generalize setF B (cellH h) (n + 1) = B2 at *
  generalize cellH h = ch at *
  clear hM hc h1 hn
  go_enter Tryz.func54, Tryz.ntmps54
  go_wp2_with fail
  refine (HCE.out _).mono ?_
  rintro e w1 ⟨rfl, rfl⟩
  go_wp2_with fail
  refine HST.out.mono ?_
  rintro e w1 ⟨A1, rfl, hp⟩
  have HP := Lib.hid hp
  clear hp
  go_wp2_with fail
  refine (HMV.out _ _ HP.out.1).mono ?_
  rintro e w2 ⟨A2, rfl, hp⟩
  go_wp2
  go_ret
  exact ⟨A2, rfl, HP.out.trans hp⟩

/-- The lowest handle that isn't open; 0: none. -/
def freeF (B : List Int) : Int := if lookF B 1 = none then 1 else if lookF B 2 = none then 2 else if lookF B 3 = none then 3 else if lookF B 4 = none then 4 else 0
theorem freeF_range (B : List Int) : 0 ≤ freeF B ∧ freeF B ≤ 4 := by
  unfold freeF; split; omega; split; omega; split; omega; split <;> omega
theorem freeF_at {B : List Int} {k : Nat} (h1 : 1 ≤ k) (h4 : k ≤ 4) (hk : lookF B k = none) (hlt : ∀ j : Nat, 1 ≤ j → j < k → lookF B j ≠ none) : freeF B = k := by
  unfold freeF
  have q1 : 1 < k → lookF B 1 ≠ none := fun h => hlt 1 (by omega) h
  have q2 : 2 < k → lookF B 2 ≠ none := fun h => hlt 2 (by omega) h
  have q3 : 3 < k → lookF B 3 ≠ none := fun h => hlt 3 (by omega) h
  match k, h1, h4 with
  | 1, _, _ =>
    have hk' : lookF B 1 = none := hk
    rw [if_pos hk']; rfl
  | 2, _, _ =>
    have hk' : lookF B 2 = none := hk
    rw [if_neg (q1 (by omega)), if_pos hk']; rfl
  | 3, _, _ =>
    have hk' : lookF B 3 = none := hk
    rw [if_neg (q1 (by omega)), if_neg (q2 (by omega)), if_pos hk']; rfl
  | 4, _, _ =>
    have hk' : lookF B 4 = none := hk
    rw [if_neg (q1 (by omega)), if_neg (q2 (by omega)), if_neg (q3 (by omega)), if_pos hk']; rfl
theorem freeF_no {B : List Int} (hlt : ∀ j : Nat, 1 ≤ j → j < 5 → lookF B j ≠ none) : freeF B = 0 := by
  unfold freeF
  have q1 : lookF B 1 ≠ none := hlt 1 (by omega) (by omega)
  have q2 : lookF B 2 ≠ none := hlt 2 (by omega) (by omega)
  have q3 : lookF B 3 ≠ none := hlt 3 (by omega) (by omega)
  have q4 : lookF B 4 ≠ none := hlt 4 (by omega) (by omega)
  rw [if_neg q1, if_neg q2, if_neg q3, if_neg q4]

set_option maxHeartbeats 2000000 in
set_option maxRecDepth 1000000 in
theorem hfree_calls {w : World} {mb : Nat} {A : Nat → Prop} {F B : List Int} (hM : MemAt w mb A F B) :
    Calls Tryz.prog 48 #[.pointer (some ⟨mb, 0, none⟩)] w (FsP w mb A F B (.int .i64 (freeF B))) := by
  have HLK := Lib.hid (fun (w1 : World) A1 (hM1 : MemAt w1 mb A1 F B) (h : Int) => look_calls hM1 h)
  have HM := Lib.hid hM
  clear hM
  go_enter Tryz.func48, Tryz.ntmps48
  go_wp2_with fail
  go_loopw [6] (fun i wr => ∃ k : Nat, k ≤ 5 ∧ i = .int .i64 k ∧ (∀ j : Nat, 1 ≤ j → j < k → lookF B j ≠ none) ∧ ∃ A', Mp w mb A F B wr A') (fun i _ => 5 - (intOf i).toNat)
  case atStart => exact ⟨0, by omega, rfl, fun j h1 h2 => absurd h2 (Nat.not_lt_zero j), A, Mp.refl HM.out⟩
  case round =>
    obtain ⟨k, hk, rfl, hlt, A1, hp⟩ := hrel
    have HP := Lib.hid hp
    have HLT := Lib.hid hlt
    clear hp hlt
    by_cases hk5 : k < 5
    · have hd : decide ((k : Int) < 5) = true := decide_eq_true (by omega)
      go_wp2_with fail
      refine (HLK.out _ _ HP.out.1 k).mono ?_
      rintro e w2 ⟨A2, a, b, c, rfl, hp2, -⟩
      have HP2 := Lib.hid ((HP.out.trans hp2).thenFr ((Fr.refl _ _).alloc (Obj.cells #[.int .i64 a, .int .i64 b, .int .i64 c] 68)))
      clear hp2
      cases hl : lookF B k with
      | none =>
        by_cases h0 : 0 < k
        · have hd2 : decide (0 < (k : Int)) = true := decide_eq_true (by omega)
          have hf := freeF_at h0 (by omega) hl HLT.out
          have HFF := Lib.hid hf
          clear hf hl
          go_wp2
          go_ret
          exact ⟨A2, by rw [HFF.out]; rfl, HP2.out⟩
        · have hd2 : decide (0 < (k : Int)) = false := decide_eq_false (by omega)
          clear hl
          go_wp2
          go_roundw
          case rel => exact ⟨k + 1, by omega, by go_num, fun j h1 h2 => by omega, A2, HP2.out⟩
          case measure => simp [intOf]; omega
      | some p =>
        have HL := Lib.hid hl
        clear hl
        go_wp2
        go_roundw
        case rel =>
          refine ⟨k + 1, by omega, by go_num, fun j h1 h2 => ?_, A2, HP2.out⟩
          by_cases e : j = k
          · subst e; rw [HL.out]; simp
          · exact HLT.out j h1 (by omega)
        case measure => simp [intOf]; omega
    · have hd : decide ((k : Int) < 5) = false := decide_eq_false (by omega)
      have hf := freeF_no (B := B) (fun j h1 h2 => HLT.out j h1 (by omega))
      have HFF := Lib.hid hf
      clear hf
      go_wp2
      go_ret
      exact ⟨A1, by rw [HFF.out]; rfl, HP.out⟩
end Go.Proofs.YtoajnmbbgbpbgaaGreat
