import Derived.Test.YtgadfldmbpgimaaRows
import Derived.ProofKit
set_option linter.unusedSimpArgs false
set_option linter.unusedVariables false
namespace Go.Proofs.Ytgadfldmbpgimaa
open Go.RowKit Go.ChangeShapes Go.WideShapes Go.ChangeAt
theorem FnExactThreeQuadrances_facts : joinedFacts Try.pinned.checked.prog 4 Try.f4 Rows.fnExactThreeQuadrancesSpec Rows.fnExactThreeQuadrancesRow = true := by kernel_rfl

end Go.Proofs.Ytgadfldmbpgimaa
