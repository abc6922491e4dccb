import Derived.Test.YtgadfldmbpgimaaRows
import Derived.ProofKit
set_option linter.unusedSimpArgs false
set_option linter.unusedVariables false
namespace Go.Proofs.Ytgadfldmbpgimaa
open Go.RowKit Go.ChangeShapes Go.WideShapes Go.ChangeAt
theorem FnExactThreeCircumcentres_facts : joinedFacts Try.pinned.checked.prog 9 Try.f9 Rows.fnExactThreeCircumcentresSpec Rows.fnExactThreeCircumcentresRow = true := by kernel_rfl

end Go.Proofs.Ytgadfldmbpgimaa
