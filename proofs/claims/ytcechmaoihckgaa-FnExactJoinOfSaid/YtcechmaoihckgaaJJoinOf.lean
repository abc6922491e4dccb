import Derived.Test.YtcechmaoihckgaaRows
import Derived.ProofKit
set_option linter.unusedSimpArgs false
set_option linter.unusedVariables false
namespace Go.Proofs.Ytcechmaoihckgaa
open Go.RowKit Go.ChangeShapes Go.WideShapes Go.ChangeAt
theorem FnExactJoinOf_facts : joinedFacts Try.pinned.checked.prog 10 Try.f10 Rows.fnExactJoinOfSpec Rows.fnExactJoinOfRow = true := by kernel_rfl

end Go.Proofs.Ytcechmaoihckgaa
