import Derived.Test.YtikfglnhkjoioaaRows
import Derived.ProofKit
set_option linter.unusedSimpArgs false
set_option linter.unusedVariables false
namespace Go.Proofs.Ytikfglnhkjoioaa
open Go.RowKit Go.ChangeShapes Go.WideShapes Go.ChangeAt
theorem FnExactConicOf_facts : joinedFacts Try.pinned.checked.prog 3 Try.f3 Rows.fnExactConicOfSpec Rows.fnExactConicOfRow = true := by kernel_rfl

end Go.Proofs.Ytikfglnhkjoioaa
