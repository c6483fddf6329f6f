/-
  extent.Grow, extent.Shrink.
-/
import Derived.Test.YtbjffempiaohpaaExt3
namespace Go.Proofs.Ytbjffempiaohpaa
set_option linter.unusedVariables false
set_option linter.unusedSimpArgs false
open Go.RowKit Go.Shelf

theorem shr_bit_int (s : Nat) (x : Int) (hs : s < 2 ^ 32) (h0 : 0 ≤ x) (h1 : x < 32) : (bits .and .u32 ((s : Int) / 2 ^ x.toNat) 1 == 1) = s.testBit x.toNat := shr_bit s x.toNat hs (by omega)

/-- What Grow comes to, where the list and the number may be. -/
def GrowPost (w : World) (res : Option (List (Int × Int) × Nat)) (e : Ending) (w' : World) : Prop :=
  Fr No w w' ∧ match res with
    | some (out, u) => ∃ r, e = .returned (.tuple #[r, .int .u32 u, .int .i64 0]) ∧ w'.ownsRow w.heap.size 73 2 r out.length (extCells out)
    | none => e = .returned (.tuple #[.slice none 0 0, .int .u32 0, .int .i64 50])

/-! ### Shrink -/
theorem joinsL_fine (l : List Int) (h : ∀ b ∈ l, 0 ≤ b ∧ b < 32) : fine (joinsL l) ∧ (joinsL l).length ≤ l.length := by
  have key : ∀ (l : List Int) (o : List (Int × Int)), fine o → (∀ b ∈ l, 0 ≤ b ∧ b < 32) → fine (l.foldl joinF o) ∧ (l.foldl joinF o).length ≤ o.length + l.length := by
    intro l
    induction l with
    | nil => intro o ho _; exact ⟨ho, by simp⟩
    | cons b l ih =>
      intro o ho hl
      obtain ⟨h1, h2⟩ := ih (joinF o b) (joinF_fine o b ho (hl b (by simp))) (fun c hc => hl c (by simp [hc]))
      refine ⟨h1, ?_⟩
      have := joinF_length o b
      simp only [List.foldl_cons, List.length_cons]; omega
  have := key l [] (fun x hx => by cases hx) h
  simpa [joinsL] using this

def ShrinkPost (w : World) (res : Option (List (Int × Int) × Nat)) (e : Ending) (w' : World) : Prop :=
  Fr No w w' ∧ match res with
    | some (out, u) => ∃ r, e = .returned (.tuple #[r, .int .u32 u, .int .i64 0]) ∧ w'.ownsRow w.heap.size 73 2 r out.length (extCells out)
    | none => e = .returned (.tuple #[.slice none 0 0, .int .u32 0, .int .i64 1])
def shrinkF (xs : List (Int × Int)) (used : Nat) (n : Int) : Option (List (Int × Int) × Nat) :=
  if okB (blkSeq (-1) xs) = true ∧ 0 ≤ n ∧ n ≤ (listF xs).length then some (joinsL ((listF xs).take n.toNat), dropL used ((listF xs).drop n.toNat)) else none

end Go.Proofs.Ytbjffempiaohpaa
