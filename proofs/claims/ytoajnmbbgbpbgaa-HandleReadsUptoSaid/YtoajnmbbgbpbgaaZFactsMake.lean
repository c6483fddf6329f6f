/-
  One more closed fact about the whole program: which make it is of.
-/
import Derived.Test.YtoajnmbbgbpbgaaZFacts
namespace Go.Proofs.Ytoajnmbbgbpbgaa
set_option linter.unusedVariables false
set_option linter.unusedSimpArgs false
open Go.RowKit
theorem fact_make : (Try.prog.make == some Rows.fsFormatsRow.make) = true := by kernel_rfl
end Go.Proofs.Ytoajnmbbgbpbgaa
