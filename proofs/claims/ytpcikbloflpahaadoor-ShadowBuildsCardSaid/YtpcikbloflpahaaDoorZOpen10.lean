/-
  What arguments read as, opened: a []int of chapter 7.
-/
import Derived.Test.YtpcikbloflpahaaDoorYE
import Derived.Test.YtpcikbloflpahaaDoorZPn7
namespace Go.Proofs.YtpcikbloflpahaaDoor
set_option linter.unusedVariables false
set_option linter.unusedSimpArgs false
open Go.RowKit Go.Deep Go.ChangeShapes Go.WideShapes

theorem flat_ints7 (L : List Int) : L.flatMap (fun y : Int => [Value.int .i64 y]) = ints7 L := by
  unfold ints7
  induction L with
  | nil => rfl
  | cons y L ih => rw [List.flatMap_cons, ih]; rfl
section
variable {H : Type} {enc : TypeId × Value → H} {P : Program} {W : World} {base : Nat} {spare : Nat → Bool} {held : Bool}

theorem open_ints7 {t e : TypeId} {fuel : Nat} {v : Value} {x : DataW H × List MemPlace} (ht : P.underlying t = some (.slice e)) (he : P.underlying e = some (.int .i64)) (hc : P.cellsOf e = 1) (hbe : P.bytesOf e = 8)
    (h : DataW.trod enc P W base spare held fuel t [v] = some x) (hw : Light P t x.1) : ∃ l : List Int, Sl W v l.length (ints7 l) ∧ l.length ≤ 140737488355328 ∧ ∀ y ∈ l, -9223372036854775808 ≤ y ∧ y ≤ 9223372036854775807 := by
  obtain ⟨L, h1, h2, -, h3⟩ := sl_open_w (sz := 1) (fun y : Int => [Value.int .i64 y]) (fun y => -9223372036854775808 ≤ y ∧ y ≤ 9223372036854775807) ht hc (by decide) (fun _ => rfl) (fun n cs z hl hf hz => by
    match cs, hl with
    | [y0], _ =>
      obtain ⟨k0, g0, -, w0⟩ := DataW.trod_int he hf
      simp at g0
      subst g0
      exact ⟨k0, rfl, by have := bounds_i64 w0; omega⟩) h hw
  rw [flat_ints7] at h1
  refine ⟨L, h1, ?_, h3⟩
  rw [hbe] at h2
  have : reachBytes = 140737488351232 := rfl
  omega
end
end Go.Proofs.YtpcikbloflpahaaDoor
