import Derived.Test.YtcdpfpfbilfpoaaGreatDoorRows
import Derived.ProofKit
set_option linter.unusedSimpArgs false
set_option linter.unusedVariables false
namespace Go.Proofs.YtcdpfpfbilfpoaaGreatDoor
open Go.RowKit Go.ChangeShapes Go.WideShapes Go.ChangeAt
theorem FnExactRunLine_facts : joinedFacts Tryz.pinned.checked.prog 6 Tryz.f6 Rows.fnExactRunLineSpec Rows.fnExactRunLineRow = true := by kernel_rfl

end Go.Proofs.YtcdpfpfbilfpoaaGreatDoor
