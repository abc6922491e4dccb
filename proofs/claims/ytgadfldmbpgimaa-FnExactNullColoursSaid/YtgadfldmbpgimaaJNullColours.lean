import Derived.Test.YtgadfldmbpgimaaRows
import Derived.ProofKit
set_option linter.unusedSimpArgs false
set_option linter.unusedVariables false
namespace Go.Proofs.Ytgadfldmbpgimaa
open Go.RowKit Go.ChangeShapes Go.WideShapes Go.ChangeAt
theorem FnExactNullColours_facts : joinedFacts Try.pinned.checked.prog 6 Try.f6 Rows.fnExactNullColoursSpec Rows.fnExactNullColoursRow = true := by kernel_rfl

end Go.Proofs.Ytgadfldmbpgimaa
