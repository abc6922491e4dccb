import Derived.Test.YtoblkbpejfojjaaGreatDoorRows
import Derived.ProofKit
set_option linter.unusedSimpArgs false
set_option linter.unusedVariables false
namespace Go.Proofs.YtoblkbpejfojjaaGreatDoor
open Go.RowKit Go.ChangeShapes Go.WideShapes Go.ChangeAt
theorem FnMoves_facts : joinedFacts Tryz.pinned.checked.prog 3 Tryz.f3 Rows.fnMovesSpec Rows.fnMovesRow = true := by kernel_rfl

end Go.Proofs.YtoblkbpejfojjaaGreatDoor
