import Derived.Test.YtjpckmpeahinkaaRows
import Derived.ProofKit
set_option linter.unusedSimpArgs false
set_option linter.unusedVariables false
namespace Go.Proofs.Ytjpckmpeahinkaa
open Go.RowKit Go.ChangeShapes Go.WideShapes Go.ChangeAt
theorem FnExactParabolaOf_facts : joinedFacts Try.pinned.checked.prog 12 Try.f12 Rows.fnExactParabolaOfSpec Rows.fnExactParabolaOfRow = true := by kernel_rfl

end Go.Proofs.Ytjpckmpeahinkaa
