import Derived.Test.YtcechmaoihckgaaRows
import Derived.ProofKit
set_option linter.unusedSimpArgs false
set_option linter.unusedVariables false
namespace Go.Proofs.Ytcechmaoihckgaa
open Go.RowKit Go.ChangeShapes Go.WideShapes Go.ChangeAt
theorem FnExactNullPlaces_facts : joinedFacts Try.pinned.checked.prog 7 Try.f7 Rows.fnExactNullPlacesSpec Rows.fnExactNullPlacesRow = true := by kernel_rfl

end Go.Proofs.Ytcechmaoihckgaa
