/-
  One more closed fact about the whole program: which make it is of.
-/
import Derived.Test.YtoajnmbbgbpbgaaGreatZFacts
namespace Go.Proofs.YtoajnmbbgbpbgaaGreat
set_option linter.unusedVariables false
set_option linter.unusedSimpArgs false
open Go.RowKit
theorem fact_make : (Tryz.prog.make == some Rows.handlePlacesRow.make) = true := by kernel_rfl
end Go.Proofs.YtoajnmbbgbpbgaaGreat
