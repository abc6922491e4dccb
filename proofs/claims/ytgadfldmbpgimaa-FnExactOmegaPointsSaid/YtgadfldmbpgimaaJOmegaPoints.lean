import Derived.Test.YtgadfldmbpgimaaRows
import Derived.ProofKit
set_option linter.unusedSimpArgs false
set_option linter.unusedVariables false
namespace Go.Proofs.Ytgadfldmbpgimaa
open Go.RowKit Go.ChangeShapes Go.WideShapes Go.ChangeAt
theorem FnExactOmegaPoints_facts : joinedFacts Try.pinned.checked.prog 11 Try.f11 Rows.fnExactOmegaPointsSpec Rows.fnExactOmegaPointsRow = true := by kernel_rfl

end Go.Proofs.Ytgadfldmbpgimaa
