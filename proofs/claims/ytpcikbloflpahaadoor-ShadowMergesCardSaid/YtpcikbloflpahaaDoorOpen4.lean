/-
  What arguments read as, opened: a struct of three numbers and something else of one cell.
-/
import Derived.Test.YtpcikbloflpahaaDoorOpen3
namespace Go.Proofs.YtpcikbloflpahaaDoor
set_option linter.unusedVariables false
set_option linter.unusedSimpArgs false
open Go.RowKit Go.Deep Go.ChangeShapes Go.WideShapes

section
variable {H : Type} {enc : TypeId × Value → H} {P : Program} {W : World} {base : Nat} {spare : Nat → Bool} {held : Bool}

theorem open_nnnu {t : TypeId} {f0 f1 f2 f3 : Field} {r : Reach} {b0 : Nat} {v : Value} {d : DataW H} {ps : List MemPlace} (Q : Value → Prop) (ht : P.underlying t = some (.struct #[f0, f1, f2, f3])) (hc : P.cellsOf t = 4)
    (o0 : f0.offset = 0) (o1 : f1.offset = 1) (o2 : f2.offset = 2) (o3 : f3.offset = 3) (c0 : P.cellsOf f0.type = 1) (c1 : P.cellsOf f1.type = 1) (c2 : P.cellsOf f2.type = 1) (c3 : P.cellsOf f3.type = 1)
    (u0 : P.underlying f0.type = some (.int .i64)) (u1 : P.underlying f1.type = some (.int .i64)) (u2 : P.underlying f2.type = some (.int .i64))
    (hQ : ∀ fuel u x, DataW.trod enc P W base spare held fuel f3.type [u] = some x → Q u)
    (hval : Value.okWide P W r b0 t v) (h : DataW.Trod enc P W base spare held t v d ps) :
    ∃ (k a n : Int) (u : Value), v = .agg #[.int .i64 k, .int .i64 a, .int .i64 n, u] ∧ (Lit.int .i64 k).wf = true ∧ (Lit.int .i64 a).wf = true ∧ (Lit.int .i64 n).wf = true ∧ Q u := by
  obtain ⟨cs, rfl, hsz⟩ := okWide_struct ht hval
  rw [hc] at hsz
  obtain ⟨fuel, hf⟩ := h
  obtain ⟨xs, m, -, -, -, hxl, hall⟩ := DataW.trod_struct ht hf
  have hcs : cs = #[cs[0], cs[1], cs[2], cs[3]] := by
    apply Array.ext
    · simp [hsz]
    · intro i h1 h2
      simp at h2
      match i, h2 with
      | 0, _ => rfl
      | 1, _ => rfl
      | 2, _ => rfl
      | 3, _ => rfl
  generalize cs[0] = y0 at hcs
  generalize cs[1] = y1 at hcs
  generalize cs[2] = y2 at hcs
  generalize cs[3] = y3 at hcs
  subst hcs
  match xs, hxl with
  | [z0, z1, z2, z3], _ =>
    have a0 := hall 0 f0 rfl
    have a1 := hall 1 f1 rfl
    have a2 := hall 2 f2 rfl
    have a3 := hall 3 f3 rfl
    rw [o0, c0] at a0
    rw [o1, c1] at a1
    rw [o2, c2] at a2
    rw [o3, c3] at a3
    simp [Value.cells] at a0 a1 a2 a3
    obtain ⟨k, g0, -, hk⟩ := DataW.trod_int u0 a0
    obtain ⟨a, g1, -, ha⟩ := DataW.trod_int u1 a1
    obtain ⟨n, g2, -, hn⟩ := DataW.trod_int u2 a2
    simp at g0 g1 g2
    subst g0; subst g1; subst g2
    exact ⟨k, a, n, y3, rfl, hk, ha, hn, hQ _ _ _ a3⟩
end
end Go.Proofs.YtpcikbloflpahaaDoor
