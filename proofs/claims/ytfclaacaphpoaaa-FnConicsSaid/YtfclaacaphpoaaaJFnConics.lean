import Derived.Test.YtfclaacaphpoaaaRows
import Derived.ProofKit
set_option linter.unusedSimpArgs false
set_option linter.unusedVariables false
namespace Go.Proofs.Ytfclaacaphpoaaa
open Go.RowKit Go.ChangeShapes Go.WideShapes Go.ChangeAt
theorem FnConics_facts : joinedFacts Try.pinned.checked.prog 3 Try.f3 Rows.fnConicsSpec Rows.fnConicsRow = true := by kernel_rfl

end Go.Proofs.Ytfclaacaphpoaaa
