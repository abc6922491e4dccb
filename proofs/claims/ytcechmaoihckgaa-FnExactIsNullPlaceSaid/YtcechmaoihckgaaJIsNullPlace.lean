import Derived.Test.YtcechmaoihckgaaRows
import Derived.ProofKit
set_option linter.unusedSimpArgs false
set_option linter.unusedVariables false
namespace Go.Proofs.Ytcechmaoihckgaa
open Go.RowKit Go.ChangeShapes Go.WideShapes Go.ChangeAt

theorem FnExactIsNullPlace_facts : joinedFacts Try.pinned.checked.prog 3 Try.f3 Rows.fnExactIsNullPlaceSpec Rows.fnExactIsNullPlaceRow = true := by kernel_rfl

end Go.Proofs.Ytcechmaoihckgaa
