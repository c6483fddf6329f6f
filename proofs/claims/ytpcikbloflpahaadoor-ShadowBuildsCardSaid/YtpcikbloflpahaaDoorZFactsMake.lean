/-
  One more closed fact about the whole program: which make it is of.
-/
import Derived.Test.YtpcikbloflpahaaDoorZFacts
namespace Go.Proofs.YtpcikbloflpahaaDoor
set_option linter.unusedVariables false
set_option linter.unusedSimpArgs false
open Go.RowKit
theorem fact_make : (Tryd.prog.make == some Rows.shadowMergesRow.make) = true := by kernel_rfl
end Go.Proofs.YtpcikbloflpahaaDoor
