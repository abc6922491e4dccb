import Derived.Test.YtcechmaoihckgaaRows
import Derived.ProofKit
set_option linter.unusedSimpArgs false
set_option linter.unusedVariables false
namespace Go.Proofs.Ytcechmaoihckgaa
open Go.RowKit Go.ChangeShapes Go.WideShapes Go.ChangeAt
theorem FnExactMidpointsOf_facts : joinedFacts Try.pinned.checked.prog 15 Try.f15 Rows.fnExactMidpointsOfSpec Rows.fnExactMidpointsOfRow = true := by kernel_rfl

end Go.Proofs.Ytcechmaoihckgaa
