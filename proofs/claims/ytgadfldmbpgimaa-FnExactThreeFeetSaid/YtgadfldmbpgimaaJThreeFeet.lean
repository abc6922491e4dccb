import Derived.Test.YtgadfldmbpgimaaRows
import Derived.ProofKit
set_option linter.unusedSimpArgs false
set_option linter.unusedVariables false
namespace Go.Proofs.Ytgadfldmbpgimaa
open Go.RowKit Go.ChangeShapes Go.WideShapes Go.ChangeAt
theorem FnExactThreeFeet_facts : joinedFacts Try.pinned.checked.prog 10 Try.f10 Rows.fnExactThreeFeetSpec Rows.fnExactThreeFeetRow = true := by kernel_rfl

end Go.Proofs.Ytgadfldmbpgimaa
