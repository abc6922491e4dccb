import Derived.Test.YtgadfldmbpgimaaRows
import Derived.ProofKit
set_option linter.unusedSimpArgs false
set_option linter.unusedVariables false
namespace Go.Proofs.Ytgadfldmbpgimaa
open Go.RowKit Go.ChangeShapes Go.WideShapes Go.ChangeAt
theorem FnExactEqualColours_facts : joinedFacts Try.pinned.checked.prog 7 Try.f7 Rows.fnExactEqualColoursSpec Rows.fnExactEqualColoursRow = true := by kernel_rfl

end Go.Proofs.Ytgadfldmbpgimaa
