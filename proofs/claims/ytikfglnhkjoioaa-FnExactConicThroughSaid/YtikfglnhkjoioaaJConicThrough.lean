import Derived.Test.YtikfglnhkjoioaaRows
import Derived.ProofKit
set_option linter.unusedSimpArgs false
set_option linter.unusedVariables false
namespace Go.Proofs.Ytikfglnhkjoioaa
open Go.RowKit Go.ChangeShapes Go.WideShapes Go.ChangeAt
theorem FnExactConicThrough_facts : joinedFacts Try.pinned.checked.prog 4 Try.f4 Rows.fnExactConicThroughSpec Rows.fnExactConicThroughRow = true := by kernel_rfl

end Go.Proofs.Ytikfglnhkjoioaa
