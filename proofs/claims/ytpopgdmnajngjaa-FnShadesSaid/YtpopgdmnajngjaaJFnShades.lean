import Derived.Test.YtpopgdmnajngjaaRows
import Derived.ProofKit
set_option linter.unusedSimpArgs false
set_option linter.unusedVariables false
namespace Go.Proofs.Ytpopgdmnajngjaa
open Go.RowKit Go.ChangeShapes Go.WideShapes Go.ChangeAt
theorem FnShades_facts : joinedFacts Try.pinned.checked.prog 3 Try.f3 Rows.fnShadesSpec Rows.fnShadesRow = true := by kernel_rfl

end Go.Proofs.Ytpopgdmnajngjaa
