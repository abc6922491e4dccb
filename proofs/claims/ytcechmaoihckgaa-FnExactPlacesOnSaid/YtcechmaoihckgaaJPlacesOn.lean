import Derived.Test.YtcechmaoihckgaaRows
import Derived.ProofKit
set_option linter.unusedSimpArgs false
set_option linter.unusedVariables false
namespace Go.Proofs.Ytcechmaoihckgaa
open Go.RowKit Go.ChangeShapes Go.WideShapes Go.ChangeAt
theorem FnExactPlacesOn_facts : joinedFacts Try.pinned.checked.prog 13 Try.f13 Rows.fnExactPlacesOnSpec Rows.fnExactPlacesOnRow = true := by kernel_rfl

end Go.Proofs.Ytcechmaoihckgaa
