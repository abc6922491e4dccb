import Derived.Test.YtcdpfpfbilfpoaaGreatDoorRows
import Derived.ProofKit
set_option linter.unusedSimpArgs false
set_option linter.unusedVariables false
namespace Go.Proofs.YtcdpfpfbilfpoaaGreatDoor
open Go.RowKit Go.ChangeShapes Go.WideShapes Go.ChangeAt
theorem FnExactDeskAfter_facts : joinedFacts Tryz.pinned.checked.prog 4 Tryz.f4 Rows.fnExactDeskAfterSpec Rows.fnExactDeskAfterRow = true := by kernel_rfl

end Go.Proofs.YtcdpfpfbilfpoaaGreatDoor
