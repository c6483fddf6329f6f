/-
  What arguments read as, opened: a slice of bytes.
-/
import Derived.Test.YtpcikbloflpahaaDoorOpen2
import Derived.Test.YtpcikbloflpahaaDoorLe1
namespace Go.Proofs.YtpcikbloflpahaaDoor
set_option linter.unusedVariables false
set_option linter.unusedSimpArgs false
open Go.RowKit Go.Deep Go.ChangeShapes Go.WideShapes

section
variable {H : Type} {enc : TypeId × Value → H} {P : Program} {W : World} {base : Nat} {spare : Nat → Bool} {held : Bool}

theorem bys_flat (l : List Int) : l.flatMap (fun y => [Value.int .u8 y]) = bys l := by
  induction l with
  | nil => rfl
  | cons y l ih => rw [List.flatMap_cons, ih]; rfl
theorem sl_open_bytes {t e : TypeId} {fuel : Nat} {v : Value} {x : DataW H × List MemPlace} (ht : P.underlying t = some (.slice e)) (he : P.underlying e = some (.int .u8)) (hs : P.cellsOf e = 1)
    (h : DataW.trod enc P W base spare held fuel t [v] = some x) : ∃ xs : List Int, Sl W v xs.length (bys xs) ∧ xs.length ≤ maxLen ∧ ∀ y ∈ xs, 0 ≤ y ∧ y < 256 := by
  obtain ⟨xs, h1, h2, h3⟩ := sl_open (fun y : Int => [.int .u8 y]) (fun y => (Lit.int .u8 y).wf = true) ht hs (by decide) (fun _ => rfl) (fun n cs z hl hh => by
    match cs, hl with
    | [u0], _ =>
      obtain ⟨n0, g0, -, w0⟩ := DataW.trod_int he hh
      simp at g0
      subst g0
      exact ⟨n0, rfl, w0⟩) h
  rw [bys_flat] at h1
  exact ⟨xs, h1, h2, fun y hy => by have := bounds_u8 (h3 y hy); omega⟩
end
end Go.Proofs.YtpcikbloflpahaaDoor
