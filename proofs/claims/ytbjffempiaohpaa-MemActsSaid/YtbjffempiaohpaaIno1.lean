/-
  Which texts are files' names, and how many blocks any size needs: the program's and the reference's.
-/
import Derived.Test.YtbjffempiaohpaaLe4
import Derived.Laws.RangeString
import Derived.Laws.RangeAny
import Derived.Laws.Strings
import Derived.Laws.Strings2
import Derived.Laws.Strings3
namespace Go.Proofs.Ytbjffempiaohpaa
set_option linter.unusedVariables false
set_option linter.unusedSimpArgs false
open Go.RowKit Go.Shelf

def goodB (b : UInt8) : Bool := decide (33 ≤ b.toNat) && decide (b.toNat ≤ 126)
def nameF (s : ByteArray) : Bool := s.data.toList.all goodB && decide (1 ≤ s.size) && decide ((s.size : Int) ≤ 15)
theorem take_good (s : ByteArray) (k : Nat) (h : k < s.size) (h1 : (s.data.toList.take k).all goodB = true) (h2 : goodB (s[k]'h) = true) : (s.data.toList.take (k + 1)).all goodB = true := by
  have hk : k < s.data.toList.length := by simpa using h
  rw [List.take_succ_eq_append_getElem hk, List.all_append, h1]
  have : s.data.toList[k] = s[k]'h := by simp [ByteArray.getElem_eq_getElem_data]
  simp [this, h2]
theorem all_bad (s : ByteArray) (k : Nat) (h : k < s.size) (h2 : goodB (s[k]'h) = false) : s.data.toList.all goodB = false := by
  have hk : k < s.data.toList.length := by simpa using h
  have : s.data.toList[k] = s[k]'h := by simp [ByteArray.getElem_eq_getElem_data]
  rw [List.all_eq_false]
  exact ⟨s.data.toList[k], List.getElem_mem hk, by rw [this, h2]; simp⟩

set_option maxRecDepth 1000000 in
theorem name_calls (s : ByteArray) (w : World) (hs : s.size ≤ 1000000) :
    Calls Try.prog 38 #[.string s] w fun e w' => e = .returned (.bool (nameF s)) ∧ Fr No w w' := by
  go_enter Try.func38, Try.ntmps38
  go_wp2
  go_loopw [4] (fun _ w' => ∃ pos, pos ≤ s.size ∧ w' = w.iter s pos ∧ (s.data.toList.take pos).all goodB = true) (fun _ w' => s.size - w'.iterPos w.heap.size)
  case atStart => exact ⟨0, Nat.zero_le _, rfl, by simp⟩
  case round =>
    obtain ⟨pos, hpos, rfl, hgood⟩ := hrel
    by_cases hp : pos < s.size
    · have hnx : ∀ ty, (Instr.next (.pointer (some ⟨w.heap.size, 0, none⟩)) true ty).run Try.prog (w.iter s pos) = _ := fun ty => run_next_any w s pos ty hp
      cases hg : goodB (s[pos]'hp)
      · have hd : (Utf8.decode s pos).1 < 33 ∨ (33 ≤ (Utf8.decode s pos).1 ∧ 126 < (Utf8.decode s pos).1) := by
          by_cases ha : (s[pos]'hp).toNat < 128
          · rw [decode_ascii s pos hp ha]
            simp [goodB] at hg; omega
          · have := (decode_high s pos hp (by omega)).1; omega
        have hb := all_bad s pos hp hg
        clear hg
        generalize Utf8.decode s pos = dd at *
        rcases hd with hd | ⟨hd, hd2⟩
        all_goals
          go_wp2
          go_ret
          exact ⟨by rw [nameF, hb]; rfl, ((Fr.refl _ _).alloc _)⟩
      · have hd := decode_ascii s pos hp (by simp [goodB] at hg; omega)
        have hg1 : 33 ≤ (s[pos]'hp).toNat ∧ (s[pos]'hp).toNat ≤ 126 := by simpa [goodB] using hg
        have ht := take_good s pos hp hgood hg
        rw [hd] at hnx
        obtain ⟨hg1, hg2⟩ := hg1
        clear hd hg hgood
        generalize (s[pos]'hp).toNat = cc at *
        go_wp2
        go_roundw
        case rel => exact ⟨pos + 1, by omega, rfl, ht⟩
        case measure => simp; omega
    · have hnx : ∀ ty, (Instr.next (.pointer (some ⟨w.heap.size, 0, none⟩)) true ty).run Try.prog (w.iter s pos) = _ := fun ty => run_next_end w s pos ty hp
      have hall : s.data.toList.take pos = s.data.toList := List.take_of_length_le (by simp; omega)
      rw [hall] at hgood
      have hsz : (1 ≤ s.size) ↔ s.toList.isEmpty = false := by
        rw [ByteArray.toList_eq, List.isEmpty_eq_false_iff, ← List.length_pos_iff]; simp; omega
      cases hem : s.toList.isEmpty
      · have h1 := hsz.2 hem
        go_wp2
        go_ret
        exact ⟨by rw [nameF, hgood, decide_eq_true h1]; rfl, ((Fr.refl _ _).alloc _)⟩
      · have h1 : ¬ 1 ≤ s.size := fun h => by rw [hsz.1 h] at hem; cases hem
        go_wp2
        go_ret
        exact ⟨by rw [nameF, hgood, decide_eq_false h1]; rfl, ((Fr.refl _ _).alloc _)⟩

set_option maxRecDepth 1000000 in
theorem rname_calls (s : ByteArray) (w : World) (hs : s.size ≤ 1000000) :
    Calls Try.prog 74 #[.string s] w fun e w' => e = .returned (.bool (nameF s)) ∧ w = w' := by
  go_enter Try.func74, Try.ntmps74
  go_wp2
  go_loop [3] (fun i => ∃ pos : Nat, pos ≤ s.size ∧ i = .int .i64 pos ∧ (s.data.toList.take pos).all goodB = true) (fun i => s.size - (intOf i).toNat)
  case atStart => exact ⟨0, Nat.zero_le _, rfl, by simp⟩
  case round =>
    obtain ⟨pos, hpos, rfl, hgood⟩ := hrel
    by_cases hp : pos < s.size
    · cases hg : goodB (s[pos]'hp)
      · have hd : (s[pos]'hp).toNat < 33 ∨ (33 ≤ (s[pos]'hp).toNat ∧ 126 < (s[pos]'hp).toNat) := by simp [goodB] at hg; omega
        have hb := all_bad s pos hp hg
        clear hg
        rcases hd with hd | ⟨hd, hd2⟩
        all_goals
          go_wp2
          go_ret
          exact ⟨by rw [nameF, hb]; rfl, rfl⟩
      · have hg1 : 33 ≤ (s[pos]'hp).toNat ∧ (s[pos]'hp).toNat ≤ 126 := by simpa [goodB] using hg
        have ht := take_good s pos hp hgood hg
        obtain ⟨hg1, hg2⟩ := hg1
        clear hg hgood
        go_wp2
        exact ⟨⟨pos + 1, by omega, by go_num, ht⟩, by simp [intOf]; omega⟩
    · have hall : s.data.toList.take pos = s.data.toList := List.take_of_length_le (by simp; omega)
      rw [hall] at hgood
      by_cases h1 : 1 ≤ s.size
      · go_wp2
        go_ret
        exact ⟨by rw [nameF, hgood, decide_eq_true h1]; rfl, rfl⟩
      · go_wp2
        go_ret
        exact ⟨by rw [nameF, hgood, decide_eq_false h1]; rfl, rfl⟩

/-- How many blocks a size needs. -/
def needF (n : Int) : Int := if n ≤ 0 then 0 else (n - 1) / 64 + 1
theorem need_calls (n : Int) (w : World) (h1 : -9223372036854775808 ≤ n) (h2 : n ≤ 9223372036854775807) :
    Calls Try.prog 37 #[.int .i64 n] w fun e w' => e = .returned (.int .i64 (needF n)) ∧ w = w' := by
  have h0 : n < 0 ∨ n = 0 ∨ (0 < n ∧ n / 64 * 64 < n) ∨ (0 < n ∧ ¬ n / 64 * 64 < n) := by omega
  rcases h0 with h | rfl | ⟨h, hm⟩ | ⟨h, hm⟩
  · go_enter Try.func37, Try.ntmps37
    go_wp2
    go_ret
    exact ⟨by rw [needF, if_pos (by omega)]; rfl, rfl⟩
  · go_enter Try.func37, Try.ntmps37
    go_wp2
    go_ret
    exact ⟨rfl, rfl⟩
  · have hN : needF n = n / 64 + 1 := by rw [needF, if_neg (by omega)]; omega
    rw [hN]
    go_enter Try.func37, Try.ntmps37
    go_wp2
    go_ret
    exact ⟨rfl, rfl⟩
  · have hN : needF n = n / 64 := by rw [needF, if_neg (by omega)]; omega
    rw [hN]
    go_enter Try.func37, Try.ntmps37
    go_wp2
    go_ret
    exact ⟨rfl, rfl⟩
theorem rneed_calls (n : Int) (w : World) (h1 : -9223372036854775808 ≤ n) (h2 : n ≤ 9223372036854775807) :
    Calls Try.prog 75 #[.int .i64 n] w fun e w' => e = .returned (.int .i64 (needF n)) ∧ w = w' := by
  by_cases h : n ≤ 0
  · go_enter Try.func75, Try.ntmps75
    go_wp2
    go_ret
    exact ⟨by rw [needF, if_pos h]; rfl, rfl⟩
  · go_enter Try.func75, Try.ntmps75
    go_wp2
    go_ret
    exact ⟨by rw [needF, if_neg (by omega)]; rfl, rfl⟩
end Go.Proofs.Ytbjffempiaohpaa
