import Derived.Test.YtpffcfiojjgnlaaRows
import Derived.ProofKit
set_option linter.unusedSimpArgs false
set_option linter.unusedVariables false
namespace Go.Proofs.Ytpffcfiojjgnlaa
open Go.RowKit Go.ChangeShapes Go.WideShapes Go.ChangeAt
theorem FnBisectors_facts : joinedFacts Try.pinned.checked.prog 4 Try.f4 Rows.fnBisectorsSpec Rows.fnBisectorsRow = true := by kernel_rfl

end Go.Proofs.Ytpffcfiojjgnlaa
