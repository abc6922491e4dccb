import Derived.Test.YtjpckmpeahinkaaRows
import Derived.ProofKit
set_option linter.unusedSimpArgs false
set_option linter.unusedVariables false
namespace Go.Proofs.Ytjpckmpeahinkaa
open Go.RowKit Go.ChangeShapes Go.WideShapes Go.ChangeAt
theorem FnExactPoleOf_facts : joinedFacts Try.pinned.checked.prog 11 Try.f11 Rows.fnExactPoleOfSpec Rows.fnExactPoleOfRow = true := by kernel_rfl

end Go.Proofs.Ytjpckmpeahinkaa
