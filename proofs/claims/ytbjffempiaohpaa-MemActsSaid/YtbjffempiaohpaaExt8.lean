/-
  The laws on extents, as contracts.
-/
import Derived.Test.YtbjffempiaohpaaExt7
namespace Go.Proofs.Ytbjffempiaohpaa
set_option linter.unusedVariables false
set_option linter.unusedSimpArgs false
open Go.RowKit Go.Shelf
attribute [local go_sem high] eqA_ext

theorem same_fr {w w' : World} {n : Nat} (h : w' = w.drewN n) : Fr No w w' := by subst h; exact (Fr.refl _ _).drewN _

/-- What a call that makes a list, a set and an error's number comes to: an error's number, or extents and a set. -/
def TriPost (w : World) (res : Int ⊕ (List (Int × Int) × Nat)) (e : Ending) (w' : World) : Prop :=
  Fr No w w' ∧ match res with
    | .inr (out, u) => ∃ r, e = .returned (.tuple #[r, .int .u32 u, .int .i64 0]) ∧ w'.ownsRow w.heap.size 73 2 r out.length (extCells out)
    | .inl er => e = .returned (.tuple #[.slice none 0 0, .int .u32 0, .int .i64 er])

def growT (xs : List (Int × Int)) (used : Nat) (n : Int) : Int ⊕ (List (Int × Int) × Nat) :=
  if okB (blkSeq (-1) xs) = true ∧ 0 ≤ n then (match growF xs used n with | some p => .inr p | none => .inl 50) else .inl 1
def shrinkT (xs : List (Int × Int)) (used : Nat) (n : Int) : Int ⊕ (List (Int × Int) × Nat) :=
  match shrinkF xs used n with | some p => .inr p | none => .inl 1

theorem growT_len (xs : List (Int × Int)) (used : Nat) (n : Int) (hlen : xs.length ≤ 100) (out : List (Int × Int)) (u : Nat) (h : growT xs used n = .inr (out, u)) : out.length ≤ 1000 := by
  have key : ∀ (d : Nat) (o : List (Int × Int)) (us : Nat) (m : Int), growL d o us m = some (out, u) → out.length ≤ o.length + d := by
    intro d
    induction d with
    | zero => intro o us m h; rw [growL] at h; split at h <;> simp at h; rw [h.1]; omega
    | succ d ih =>
      intro o us m h
      rw [growL] at h
      split at h
      · simp at h; rw [h.1]; omega
      · split at h
        · have := ih _ _ _ h; omega
        · have := ih _ _ _ h; have := joinF_length o ((31 - d : Nat) : Int); omega
  rw [growT] at h
  split at h
  · cases hg : growF xs used n with
    | none => rw [hg] at h; cases h
    | some p => rw [hg] at h; cases h; have := key 23 xs used n hg; omega
  · cases h
theorem shrinkT_len (xs : List (Int × Int)) (used : Nat) (n : Int) (out : List (Int × Int)) (u : Nat) (h : shrinkT xs used n = .inr (out, u)) : out.length ≤ 1000 := by
  rw [shrinkT] at h
  cases hg : shrinkF xs used n with
  | none => rw [hg] at h; cases h
  | some p =>
    rw [hg] at h
    cases h
    rw [shrinkF] at hg
    split at hg
    · cases hg
      have h1 := (joinsL_fine ((listF xs).take n.toNat) (fun b hb => listF_range xs b (List.mem_of_mem_take hb))).2
      have h2 := listF_length xs
      rw [List.length_take] at h1; omega
    · cases hg

end Go.Proofs.Ytbjffempiaohpaa
