import Derived.Test.YtpffcfiojjgnlaaRows
import Derived.ProofKit
set_option linter.unusedSimpArgs false
set_option linter.unusedVariables false
namespace Go.Proofs.Ytpffcfiojjgnlaa
open Go.RowKit Go.ChangeShapes Go.WideShapes Go.ChangeAt
theorem FnEulerLines_facts : joinedFacts Try.pinned.checked.prog 3 Try.f3 Rows.fnEulerLinesSpec Rows.fnEulerLinesRow = true := by kernel_rfl

end Go.Proofs.Ytpffcfiojjgnlaa
