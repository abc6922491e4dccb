import Derived.Test.YtjpckmpeahinkaaRows
import Derived.ProofKit
set_option linter.unusedSimpArgs false
set_option linter.unusedVariables false
namespace Go.Proofs.Ytjpckmpeahinkaa
open Go.RowKit Go.ChangeShapes Go.WideShapes Go.ChangeAt

theorem FnExactKindOf_facts : joinedFacts Try.pinned.checked.prog 5 Try.f5 Rows.fnExactKindOfSpec Rows.fnExactKindOfRow = true := by kernel_rfl

end Go.Proofs.Ytjpckmpeahinkaa
