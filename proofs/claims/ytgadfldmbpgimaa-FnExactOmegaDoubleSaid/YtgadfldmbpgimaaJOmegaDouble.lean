import Derived.Test.YtgadfldmbpgimaaRows
import Derived.ProofKit
set_option linter.unusedSimpArgs false
set_option linter.unusedVariables false
namespace Go.Proofs.Ytgadfldmbpgimaa
open Go.RowKit Go.ChangeShapes Go.WideShapes Go.ChangeAt
theorem FnExactOmegaDouble_facts : joinedFacts Try.pinned.checked.prog 8 Try.f8 Rows.fnExactOmegaDoubleSpec Rows.fnExactOmegaDoubleRow = true := by kernel_rfl

end Go.Proofs.Ytgadfldmbpgimaa
