import Derived.Test.YtnijajjdldijpaaRows
import Derived.ProofKit
set_option linter.unusedSimpArgs false
set_option linter.unusedVariables false
namespace Go.Proofs.Ytnijajjdldijpaa
open Go.RowKit Go.ChangeShapes Go.WideShapes Go.ChangeAt
theorem FnHyperbolic_facts : joinedFacts Try.pinned.checked.prog 4 Try.f4 Rows.fnHyperbolicSpec Rows.fnHyperbolicRow = true := by kernel_rfl

end Go.Proofs.Ytnijajjdldijpaa
