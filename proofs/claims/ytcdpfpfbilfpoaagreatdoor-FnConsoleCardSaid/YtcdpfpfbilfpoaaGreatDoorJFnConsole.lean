import Derived.Test.YtcdpfpfbilfpoaaGreatDoorRows
import Derived.ProofKit
set_option linter.unusedSimpArgs false
set_option linter.unusedVariables false
namespace Go.Proofs.YtcdpfpfbilfpoaaGreatDoor
open Go.RowKit Go.ChangeShapes Go.WideShapes Go.ChangeAt
theorem ZwV : joinedFacts Tryz.pinned.checked.prog 5 Tryz.f5 Rows.fnConsoleSpec Rows.fnConsoleRow = true := by kernel_rfl

end Go.Proofs.YtcdpfpfbilfpoaaGreatDoor
