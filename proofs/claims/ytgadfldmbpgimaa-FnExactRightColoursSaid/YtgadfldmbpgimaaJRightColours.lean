import Derived.Test.YtgadfldmbpgimaaRows
import Derived.ProofKit
set_option linter.unusedSimpArgs false
set_option linter.unusedVariables false
namespace Go.Proofs.Ytgadfldmbpgimaa
open Go.RowKit Go.ChangeShapes Go.WideShapes Go.ChangeAt
theorem FnExactRightColours_facts : joinedFacts Try.pinned.checked.prog 5 Try.f5 Rows.fnExactRightColoursSpec Rows.fnExactRightColoursRow = true := by kernel_rfl

end Go.Proofs.Ytgadfldmbpgimaa
