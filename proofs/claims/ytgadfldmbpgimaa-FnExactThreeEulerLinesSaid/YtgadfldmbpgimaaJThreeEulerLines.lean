import Derived.Test.YtgadfldmbpgimaaRows
import Derived.ProofKit
set_option linter.unusedSimpArgs false
set_option linter.unusedVariables false
namespace Go.Proofs.Ytgadfldmbpgimaa
open Go.RowKit Go.ChangeShapes Go.WideShapes Go.ChangeAt
theorem FnExactThreeEulerLines_facts : joinedFacts Try.pinned.checked.prog 12 Try.f12 Rows.fnExactThreeEulerLinesSpec Rows.fnExactThreeEulerLinesRow = true := by kernel_rfl

end Go.Proofs.Ytgadfldmbpgimaa
