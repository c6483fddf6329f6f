/-
  extent.Total, Block, Bits; the reference's Set.
-/
import Derived.Test.YtbjffempiaohpaaExt2
import Derived.Deep.QuietTactic
import Derived.BigQuiet
import Derived.WalkSmall
import Derived.WalkSpells
namespace Go.Proofs.Ytbjffempiaohpaa
set_option linter.unusedVariables false
set_option linter.unusedSimpArgs false
open Go.RowKit Go.Shelf

theorem ints_get (l : List Int) (k : Nat) (h : k < l.length) : (ints l)[k]? = some (.int .i64 l[k]) := by simp [ints, h]
theorem ints_ne (l : List Int) (k : Nat) (h : k < l.length) : ints l ≠ [] := by intro e; have := ints_get l k h; rw [e] at this; simp at this

theorem total_calls (v : Value) (xs : List (Int × Int)) (w : World) (hlen : xs.length ≤ 100) (hv : Sl w v xs.length (extCells xs)) :
    Calls Try.prog 66 #[v] w fun e w' => e = .returned (.int .i64 (listF xs).length) ∧ Fr No w w' := by
  have HL := Lib.hid (list_calls v xs w hlen hv)
  obtain ⟨a, cap, rfl⟩ := hv.form
  go_enter Try.func66, Try.ntmps66
  go_wp2_with (go_at_call 77; refine HL.out.mono ?_; rintro e w1 ⟨r, rfl, hr, hF⟩; obtain ⟨a2, cap2, rfl⟩ := (Sl.of_owns hr).form)
  go_ret
  exact ⟨rfl, hF⟩

theorem extCells_set (l : List (Int × Int)) (x1 x2 y : Int) : (extCells (l ++ [(x1, x2)])).set (l.length * 2 + 1) (.int .i64 y) = extCells (l ++ [(x1, y)]) := by
  induction l with
  | nil => rfl
  | cons a l ih =>
    simp only [extCells, List.cons_append, List.flatMap_cons, List.nil_append, List.length_cons, Nat.succ_mul] at ih ⊢
    rw [show l.length * 2 + 2 + 1 = (l.length * 2 + 1) + 1 + 1 by omega, List.set_cons_succ, List.set_cons_succ, ih]
theorem extCells_snoc (l : List (Int × Int)) (x : Int × Int) : extCells (l ++ [x]) = extCells l ++ [.int .i64 x.1, .int .i64 x.2] := by simp [extCells]
theorem joinF_hit (l : List (Int × Int)) (x1 x2 b : Int) (h : x1 + x2 = b) : joinF (l ++ [(x1, x2)]) b = l ++ [(x1, x2 + 1)] := by simp [joinF, h]
theorem joinF_miss (l : List (Int × Int)) (x1 x2 b : Int) (h : ¬ x1 + x2 = b) : joinF (l ++ [(x1, x2)]) b = l ++ [(x1, x2)] ++ [(b, 1)] := by simp [joinF, h]

theorem extCells_one (l : List (Int × Int)) : ∀ u ∈ extCells l, u.oneCell' = true := by
  intro u hu
  simp only [extCells, List.mem_flatMap, List.mem_cons, List.not_mem_nil, or_false] at hu
  obtain ⟨x, _, rfl | rfl⟩ := hu <;> rfl
theorem extCells_len (l : List (Int × Int)) : (extCells l).length = l.length * 2 := by
  induction l with
  | nil => rfl
  | cons x l ih => simp only [extCells, List.flatMap_cons, List.length_append, List.length_cons, List.length_nil] at ih ⊢; omega

end Go.Proofs.Ytbjffempiaohpaa
