import Derived.Test.YtjpckmpeahinkaaRows
import Derived.ProofKit
set_option linter.unusedSimpArgs false
set_option linter.unusedVariables false
namespace Go.Proofs.Ytjpckmpeahinkaa
open Go.RowKit Go.ChangeShapes Go.WideShapes Go.ChangeAt

theorem FnExactDeterminantOf_facts : joinedFacts Try.pinned.checked.prog 4 Try.f4 Rows.fnExactDeterminantOfSpec Rows.fnExactDeterminantOfRow = true := by kernel_rfl

end Go.Proofs.Ytjpckmpeahinkaa
