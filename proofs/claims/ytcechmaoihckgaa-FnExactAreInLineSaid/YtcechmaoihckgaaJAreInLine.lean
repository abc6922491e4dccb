import Derived.Test.YtcechmaoihckgaaRows
import Derived.ProofKit
set_option linter.unusedSimpArgs false
set_option linter.unusedVariables false
namespace Go.Proofs.Ytcechmaoihckgaa
open Go.RowKit Go.ChangeShapes Go.WideShapes Go.ChangeAt

theorem FnExactAreInLine_facts : joinedFacts Try.pinned.checked.prog 6 Try.f6 Rows.fnExactAreInLineSpec Rows.fnExactAreInLineRow = true := by kernel_rfl

end Go.Proofs.Ytcechmaoihckgaa
