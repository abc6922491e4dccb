import Derived.Test.YtjpckmpeahinkaaRows
import Derived.ProofKit
set_option linter.unusedSimpArgs false
set_option linter.unusedVariables false
namespace Go.Proofs.Ytjpckmpeahinkaa
open Go.RowKit Go.ChangeShapes Go.WideShapes Go.ChangeAt

theorem FnExactIsConic_facts : joinedFacts Try.pinned.checked.prog 3 Try.f3 Rows.fnExactIsConicSpec Rows.fnExactIsConicRow = true := by kernel_rfl

end Go.Proofs.Ytjpckmpeahinkaa
