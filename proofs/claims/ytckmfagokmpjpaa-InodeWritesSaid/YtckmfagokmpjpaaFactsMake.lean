/-
  One more closed fact about the whole program: which make it is of.
-/
import Derived.Test.YtckmfagokmpjpaaFacts
namespace Go.Proofs.Ytckmfagokmpjpaa
set_option linter.unusedVariables false
set_option linter.unusedSimpArgs false
open Go.RowKit
theorem fact_make : (Try.prog.make == some Rows.extentChecksRow.make) = true := by kernel_rfl
end Go.Proofs.Ytckmfagokmpjpaa
