/-
  The writers' law.
-/
import Derived.Test.YtbjffempiaohpaaIno6
import Derived.Deep.RegionHeld3
namespace Go.Proofs.Ytbjffempiaohpaa
set_option linter.unusedVariables false
set_option linter.unusedSimpArgs false
open Go.RowKit Go.Shelf

theorem encF_range (s : ByteArray) (n : Int) (xs : List (Int × Int)) (hs : s.size ≤ 15) : ∀ b ∈ encF s n xs, 0 ≤ b ∧ b < 256 := by
  have hset : ∀ (l : List Int) (i : Nat) (x : Int), (∀ b ∈ l, 0 ≤ b ∧ b < 256) → (0 ≤ x ∧ x < 256) → ∀ b ∈ l.set i x, 0 ≤ b ∧ b < 256 := fun l i x h1 h2 b hb => by
    rcases List.mem_or_eq_of_mem_set hb with h | rfl
    · exact h1 b h
    · exact h2
  have hspl : ∀ (l m : List Int) (o : Nat), (∀ b ∈ l, 0 ≤ b ∧ b < 256) → (∀ b ∈ m, 0 ≤ b ∧ b < 256) → ∀ b ∈ spl l o m, 0 ≤ b ∧ b < 256 := fun l m o h1 h2 b hb => by
    simp only [spl, List.mem_append] at hb
    rcases hb with (h | h) | h
    · exact h1 b (List.mem_of_mem_take h)
    · exact h2 b h
    · exact h1 b (List.mem_of_mem_drop h)
  have hzs : ∀ k, ∀ b ∈ zs k, 0 ≤ b ∧ b < 256 := fun k b hb => by simp only [zs, List.mem_replicate] at hb; omega
  have hw : ∀ x : Int, 0 ≤ IntKind.u8.wrap x ∧ IntKind.u8.wrap x < 256 := fun x => by rw [IntKind.wrap_u8]; omega
  have hhead : ∀ b ∈ encHead s n, 0 ≤ b ∧ b < 256 := by
    refine hspl _ _ _ (hset _ _ _ (hspl _ _ _ (hzs 64) (bytesOf_range s)) (by omega)) ?_
    exact hset _ _ _ (hset _ _ _ (hzs 2) (hw _)) (hw _)
  have : ∀ k, ∀ b ∈ encN (encHead s n) xs k, 0 ≤ b ∧ b < 256 := fun k => by
    induction k with
    | zero => exact hhead
    | succ k ih => exact hset _ _ _ (hset _ _ _ ih (by omega)) (by omega)
  exact this xs.length

/-- What Encode comes to, said once for inodes that may be and that may not. -/
def encL (s : ByteArray) (n : Int) (xs : List (Int × Int)) : List Int := if inoOk s n xs = true then encF s n xs else []
theorem encL_range (s : ByteArray) (n : Int) (xs : List (Int × Int)) : ∀ b ∈ encL s n xs, 0 ≤ b ∧ b < 256 := by
  intro b hb
  rw [encL] at hb
  split at hb
  · rename_i h; exact encF_range s n xs (inoOk_small h).2.1 b hb
  · cases hb
theorem enc_uni {w w' : World} {s : ByteArray} {n : Int} {xs : List (Int × Int)} {e : Ending} (h : EncPost w s n xs e w') :
    Fr No w w' ∧ ∃ r, e = .returned (.tuple #[r, .int .i64 (inoN s n xs)]) ∧ Sl w' r (encL s n xs).length (bys (encL s n xs)) := by
  obtain ⟨hF, ⟨ho, r, rfl, hr⟩ | ⟨ho, rfl⟩⟩ := h
  · refine ⟨hF, r, by rw [inoN, if_pos ho], ?_⟩
    rw [encL, if_pos ho, encF_length s n xs (inoOk_small ho).2.1]; exact hr
  · refine ⟨hF, _, by rw [inoN, ho]; rfl, ?_⟩
    rw [encL, ho]; exact Sl.nil _

end Go.Proofs.Ytbjffempiaohpaa
