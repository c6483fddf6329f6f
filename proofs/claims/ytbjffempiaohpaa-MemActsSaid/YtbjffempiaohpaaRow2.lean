/-
  Rows of bytes: many stored at once.
-/
import Derived.Test.YtbjffempiaohpaaRow
import Derived.Deep.MidRow
namespace Go.Proofs.Ytbjffempiaohpaa
set_option linter.unusedVariables false
set_option linter.unusedSimpArgs false
open Go.RowKit Go.Shelf

theorem spl_cons (l : List Int) (o : Nat) (x : Int) (m : List Int) (h : o < l.length) : spl (l.set o x) (o + 1) m = spl l o (x :: m) := by
  have h1 : (l.set o x).take (o + 1) = l.take o ++ [x] := by
    rw [List.take_succ_eq_append_getElem (by simpa using h), List.take_set_of_le (Nat.le_refl _)]; simp
  have h2 : (l.set o x).drop (o + 1 + m.length) = l.drop (o + (m.length + 1)) := by
    rw [List.drop_set_of_lt (by omega)]; congr 1; omega
  simp only [spl, h1, h2, List.length_cons, List.append_assoc, List.cons_append, List.nil_append]
theorem Row.setAll {w : World} {b : Nat} {t : TypeId} {l : List Int} (h : Row w b t l) (m : List Int) (o : Nat) (hfit : o + m.length ≤ l.length) : Row (w.setCells b o (bys m)) b t (spl l o m) ∧ Fr (fun k => k = b) w (w.setCells b o (bys m)) := by
  induction m generalizing w l o with
  | nil => exact ⟨by simpa [spl, bys, World.setCells] using h, Fr.refl _ _⟩
  | cons x m ih =>
    simp only [List.length_cons] at hfit
    obtain ⟨q1, q2⟩ := ih (h.set o x) (o + 1) (by rw [List.length_set]; omega)
    rw [spl_cons _ _ _ _ (by omega)] at q1
    exact ⟨q1, ((Fr.refl (fun k => k = b) w).setCell (p := ⟨b, o, none⟩) (fun _ => rfl) _).trans q2⟩
end Go.Proofs.Ytbjffempiaohpaa
