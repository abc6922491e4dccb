import Derived.Test.YtoblkbpejfojjaaGreatDoorRows
import Derived.ProofKit
set_option linter.unusedSimpArgs false
set_option linter.unusedVariables false
namespace Go.Proofs.YtoblkbpejfojjaaGreatDoor
open Go.RowKit Go.ChangeShapes Go.WideShapes Go.ChangeAt
theorem FnReflections_facts : joinedFacts Tryz.pinned.checked.prog 4 Tryz.f4 Rows.fnReflectionsSpec Rows.fnReflectionsRow = true := by kernel_rfl

end Go.Proofs.YtoblkbpejfojjaaGreatDoor
