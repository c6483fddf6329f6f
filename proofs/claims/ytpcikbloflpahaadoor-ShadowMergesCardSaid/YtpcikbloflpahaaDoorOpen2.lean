/-
  What arguments read as, opened: a struct of a text, a number, and something else of one cell.
-/
import Derived.Test.YtpcikbloflpahaaDoorOpen
namespace Go.Proofs.YtpcikbloflpahaaDoor
set_option linter.unusedVariables false
set_option linter.unusedSimpArgs false
open Go.RowKit Go.Deep Go.ChangeShapes Go.WideShapes

section
variable {H : Type} {enc : TypeId × Value → H} {P : Program} {W : World} {base : Nat} {spare : Nat → Bool} {held : Bool}

theorem open_sni {t : TypeId} {f0 f1 f2 : Field} {r : Reach} {b0 : Nat} {v : Value} {d : DataW H} {ps : List MemPlace} (Q : Value → Prop) (ht : P.underlying t = some (.struct #[f0, f1, f2])) (hc : P.cellsOf t = 3)
    (o0 : f0.offset = 0) (o1 : f1.offset = 1) (o2 : f2.offset = 2) (c0 : P.cellsOf f0.type = 1) (c1 : P.cellsOf f1.type = 1) (c2 : P.cellsOf f2.type = 1)
    (u0 : P.underlying f0.type = some .string) (u1 : P.underlying f1.type = some (.int .i64))
    (hQ : ∀ fuel u x, DataW.trod enc P W base spare held fuel f2.type [u] = some x → Q u)
    (hval : Value.okWide P W r b0 t v) (h : DataW.Trod enc P W base spare held t v d ps) :
    ∃ (s : ByteArray) (n : Int) (u : Value), v = .agg #[.string s, .int .i64 n, u] ∧ s.size ≤ maxLen ∧ (Lit.int .i64 n).wf = true ∧ Q u := by
  obtain ⟨cs, rfl, hsz⟩ := okWide_struct ht hval
  rw [hc] at hsz
  obtain ⟨fuel, hf⟩ := h
  obtain ⟨xs, m, -, -, -, hxl, hall⟩ := DataW.trod_struct ht hf
  have hcs : cs = #[cs[0], cs[1], cs[2]] := by
    apply Array.ext
    · simp [hsz]
    · intro i h1 h2
      simp at h2
      match i, h2 with
      | 0, _ => rfl
      | 1, _ => rfl
      | 2, _ => rfl
  generalize cs[0] = y0 at hcs
  generalize cs[1] = y1 at hcs
  generalize cs[2] = y2 at hcs
  subst hcs
  match xs, hxl with
  | [z0, z1, z2], _ =>
    have a0 := hall 0 f0 rfl
    have a1 := hall 1 f1 rfl
    have a2 := hall 2 f2 rfl
    rw [o0, c0] at a0
    rw [o1, c1] at a1
    rw [o2, c2] at a2
    simp [Value.cells] at a0 a1 a2
    obtain ⟨s, g0, -, hs⟩ := DataW.trod_string u0 a0
    obtain ⟨n, g1, -, hn⟩ := DataW.trod_int u1 a1
    simp at g0 g1
    subst g0; subst g1
    exact ⟨s, n, y2, rfl, hs, hn, hQ _ _ _ a2⟩
end
end Go.Proofs.YtpcikbloflpahaaDoor
