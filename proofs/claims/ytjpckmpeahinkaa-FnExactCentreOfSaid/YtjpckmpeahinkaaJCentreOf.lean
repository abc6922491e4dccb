import Derived.Test.YtjpckmpeahinkaaRows
import Derived.ProofKit
set_option linter.unusedSimpArgs false
set_option linter.unusedVariables false
namespace Go.Proofs.Ytjpckmpeahinkaa
open Go.RowKit Go.ChangeShapes Go.WideShapes Go.ChangeAt
theorem FnExactCentreOf_facts : joinedFacts Try.pinned.checked.prog 9 Try.f9 Rows.fnExactCentreOfSpec Rows.fnExactCentreOfRow = true := by kernel_rfl

end Go.Proofs.Ytjpckmpeahinkaa
