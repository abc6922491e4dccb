import Derived.Test.YtcechmaoihckgaaRows
import Derived.ProofKit
set_option linter.unusedSimpArgs false
set_option linter.unusedVariables false
namespace Go.Proofs.Ytcechmaoihckgaa
open Go.RowKit Go.ChangeShapes Go.WideShapes Go.ChangeAt

theorem FnExactPlaceOf_facts : joinedFacts Try.pinned.checked.prog 5 Try.f5 Rows.fnExactPlaceOfSpec Rows.fnExactPlaceOfRow = true := by kernel_rfl

end Go.Proofs.Ytcechmaoihckgaa
