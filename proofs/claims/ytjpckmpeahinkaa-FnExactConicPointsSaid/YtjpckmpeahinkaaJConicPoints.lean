import Derived.Test.YtjpckmpeahinkaaRows
import Derived.ProofKit
set_option linter.unusedSimpArgs false
set_option linter.unusedVariables false
namespace Go.Proofs.Ytjpckmpeahinkaa
open Go.RowKit Go.ChangeShapes Go.WideShapes Go.ChangeAt
theorem FnExactConicPoints_facts : joinedFacts Try.pinned.checked.prog 7 Try.f7 Rows.fnExactConicPointsSpec Rows.fnExactConicPointsRow = true := by kernel_rfl

end Go.Proofs.Ytjpckmpeahinkaa
