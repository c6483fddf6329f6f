/-
  Numbers laid down as bytes: the reference's PutNum.
-/
import Derived.Test.YtpcikbloflpahaaDoorLe1
import Derived.Deep.AppendLies
import Derived.Laws.OwnMore
namespace Go.Proofs.YtpcikbloflpahaaDoor
set_option linter.unusedVariables false
set_option linter.unusedSimpArgs false
open Go.RowKit Go.Shelf

theorem el_u8 : Elem Tryd.prog 30 5 (.int .u8 0) 1 1 := ⟨by kernel_rfl, by kernel_rfl, rfl, by decide⟩
/-- A number's lowest k bytes laid down from 'at' on. -/
def putL (l : List Int) (at_ : Nat) (n : Int) : Nat → List Int
  | 0 => l
  | k + 1 => (putL l at_ n k).set (at_ + k) (IntKind.u8.wrap (n / 2 ^ (8 * k)))
theorem putL_length (l : List Int) (at_ : Nat) (n : Int) (k : Nat) : (putL l at_ n k).length = l.length := by
  induction k with
  | zero => rfl
  | succ k ih => rw [putL, List.length_set, ih]
theorem bys_set (l : List Int) (j : Nat) (x : Int) : (bys l).set j (.int .u8 x) = bys (l.set j x) := by simp [bys, List.map_set]
theorem bys_one (l : List Int) : ∀ u ∈ bys l, u.oneCell' = true := by
  intro u hu; simp only [bys, List.mem_map] at hu; obtain ⟨x, _, rfl⟩ := hu; rfl

end Go.Proofs.YtpcikbloflpahaaDoor
