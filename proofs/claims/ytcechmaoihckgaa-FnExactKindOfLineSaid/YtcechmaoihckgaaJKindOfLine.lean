import Derived.Test.YtcechmaoihckgaaRows
import Derived.ProofKit
set_option linter.unusedSimpArgs false
set_option linter.unusedVariables false
namespace Go.Proofs.Ytcechmaoihckgaa
open Go.RowKit Go.ChangeShapes Go.WideShapes Go.ChangeAt
theorem FnExactKindOfLine_facts : joinedFacts Try.pinned.checked.prog 9 Try.f9 Rows.fnExactKindOfLineSpec Rows.fnExactKindOfLineRow = true := by kernel_rfl

end Go.Proofs.Ytcechmaoihckgaa
