/-
  The reference's Grow, Shrink.
-/
import Derived.Test.YtbjffempiaohpaaExt6
import Derived.Deep.RegionWith
namespace Go.Proofs.Ytbjffempiaohpaa
set_option linter.unusedVariables false
set_option linter.unusedSimpArgs false
open Go.RowKit Go.Shelf

theorem shr_bit0 (s i : Nat) (hs : s < 2 ^ 32) (hi : i < 32) : (bits .and .u32 ((s : Int) / 2 ^ i) 1 == 0) = !s.testBit i := by
  have h := shr_bit s i hs hi
  have h1 : s / 2 ^ i < 2 ^ 32 := Nat.lt_of_le_of_lt (Nat.div_le_self _ _) hs
  have e := and_u32 (s / 2 ^ i) 1 h1 (by decide)
  rw [show ((1 : Nat) : Int) = 1 by rfl] at e
  rw [show (2 : Int) ^ i = ((2 ^ i : Nat) : Int) by simp, ← Int.natCast_ediv, e, Nat.and_one_is_mod] at h ⊢
  rw [← h]
  rcases Nat.mod_two_eq_zero_or_one (s / 2 ^ i) with h2 | h2 <;> rw [h2] <;> rfl

/-! ### Shrink -/
theorem shrink_res (xs : List (Int × Int)) (used : Nat) (n : Int) (hu : used < 2 ^ 32) (h : okB (blkSeq (-1) xs) = true) (h0 : 0 ≤ n) (h1 : n ≤ (listF xs).length) :
    shrinkF xs used n = some (joinsL ((listF xs).take n.toNat), dif used (maskN ((listF xs).drop n.toNat))) := by
  rw [shrinkF, if_pos ⟨h, h0, h1⟩, dropL_mask used _ hu (fun b hb => (listF_range xs b (List.mem_of_mem_drop hb)).1)]

end Go.Proofs.Ytbjffempiaohpaa
