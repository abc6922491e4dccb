import Derived.Test.YtgadfldmbpgimaaRows
import Derived.ProofKit
set_option linter.unusedSimpArgs false
set_option linter.unusedVariables false
namespace Go.Proofs.Ytgadfldmbpgimaa
open Go.RowKit Go.ChangeShapes Go.WideShapes Go.ChangeAt
theorem FnExactUnitCounts_facts : joinedFacts Try.pinned.checked.prog 3 Try.f3 Rows.fnExactUnitCountsSpec Rows.fnExactUnitCountsRow = true := by kernel_rfl

end Go.Proofs.Ytgadfldmbpgimaa
