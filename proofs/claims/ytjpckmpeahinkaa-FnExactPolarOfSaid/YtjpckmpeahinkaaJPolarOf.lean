import Derived.Test.YtjpckmpeahinkaaRows
import Derived.ProofKit
set_option linter.unusedSimpArgs false
set_option linter.unusedVariables false
namespace Go.Proofs.Ytjpckmpeahinkaa
open Go.RowKit Go.ChangeShapes Go.WideShapes Go.ChangeAt
theorem FnExactPolarOf_facts : joinedFacts Try.pinned.checked.prog 8 Try.f8 Rows.fnExactPolarOfSpec Rows.fnExactPolarOfRow = true := by kernel_rfl

end Go.Proofs.Ytjpckmpeahinkaa
