import Derived.Test.YtjpckmpeahinkaaRows
import Derived.ProofKit
set_option linter.unusedSimpArgs false
set_option linter.unusedVariables false
namespace Go.Proofs.Ytjpckmpeahinkaa
open Go.RowKit Go.ChangeShapes Go.WideShapes Go.ChangeAt
theorem FnExactTangentOf_facts : joinedFacts Try.pinned.checked.prog 10 Try.f10 Rows.fnExactTangentOfSpec Rows.fnExactTangentOfRow = true := by kernel_rfl

end Go.Proofs.Ytjpckmpeahinkaa
