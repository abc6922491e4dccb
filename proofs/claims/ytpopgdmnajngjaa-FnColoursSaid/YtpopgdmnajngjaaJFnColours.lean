import Derived.Test.YtpopgdmnajngjaaRows
import Derived.ProofKit
set_option linter.unusedSimpArgs false
set_option linter.unusedVariables false
namespace Go.Proofs.Ytpopgdmnajngjaa
open Go.RowKit Go.ChangeShapes Go.WideShapes Go.ChangeAt
theorem FnColours_facts : joinedFacts Try.pinned.checked.prog 4 Try.f4 Rows.fnColoursSpec Rows.fnColoursRow = true := by kernel_rfl

end Go.Proofs.Ytpopgdmnajngjaa
