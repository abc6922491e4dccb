import Derived.Test.YtcdpfpfbilfpoaaGreatDoorRows
import Derived.ProofKit
set_option linter.unusedSimpArgs false
set_option linter.unusedVariables false
namespace Go.Proofs.YtcdpfpfbilfpoaaGreatDoor
open Go.RowKit Go.ChangeShapes Go.WideShapes Go.ChangeAt
theorem FnExactConsole_facts : joinedFacts Tryz.pinned.checked.prog 3 Tryz.f3 Rows.fnExactConsoleSpec Rows.fnExactConsoleRow = true := by kernel_rfl

end Go.Proofs.YtcdpfpfbilfpoaaGreatDoor
