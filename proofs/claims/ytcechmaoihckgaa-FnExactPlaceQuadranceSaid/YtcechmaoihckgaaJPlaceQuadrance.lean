import Derived.Test.YtcechmaoihckgaaRows
import Derived.ProofKit
set_option linter.unusedSimpArgs false
set_option linter.unusedVariables false
namespace Go.Proofs.Ytcechmaoihckgaa
open Go.RowKit Go.ChangeShapes Go.WideShapes Go.ChangeAt

theorem FnExactPlaceQuadrance_facts : joinedFacts Try.pinned.checked.prog 8 Try.f8 Rows.fnExactPlaceQuadranceSpec Rows.fnExactPlaceQuadranceRow = true := by kernel_rfl

end Go.Proofs.Ytcechmaoihckgaa
