import Derived.Test.YtnijajjdldijpaaRows
import Derived.ProofKit
set_option linter.unusedSimpArgs false
set_option linter.unusedVariables false
namespace Go.Proofs.Ytnijajjdldijpaa
open Go.RowKit Go.ChangeShapes Go.WideShapes Go.ChangeAt
theorem FnPlaces_facts : joinedFacts Try.pinned.checked.prog 3 Try.f3 Rows.fnPlacesSpec Rows.fnPlacesRow = true := by kernel_rfl

end Go.Proofs.Ytnijajjdldijpaa
