import Derived.Test.YtcechmaoihckgaaRows
import Derived.ProofKit
set_option linter.unusedSimpArgs false
set_option linter.unusedVariables false
namespace Go.Proofs.Ytcechmaoihckgaa
open Go.RowKit Go.ChangeShapes Go.WideShapes Go.ChangeAt
theorem FnExactQuadrancesOfPlaces_facts : joinedFacts Try.pinned.checked.prog 11 Try.f11 Rows.fnExactQuadrancesOfPlacesSpec Rows.fnExactQuadrancesOfPlacesRow = true := by kernel_rfl

end Go.Proofs.Ytcechmaoihckgaa
