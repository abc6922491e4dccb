import Derived.Test.YtfclaacaphpoaaaRows
import Derived.ProofKit
set_option linter.unusedSimpArgs false
set_option linter.unusedVariables false
namespace Go.Proofs.Ytfclaacaphpoaaa
open Go.RowKit Go.ChangeShapes Go.WideShapes Go.ChangeAt
theorem Zfo : joinedFacts Try.pinned.checked.prog 4 Try.f4 Rows.fnConicsMadeSpec Rows.fnConicsMadeRow = true := by kernel_rfl

end Go.Proofs.Ytfclaacaphpoaaa
