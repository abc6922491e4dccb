import Derived.Test.YtcechmaoihckgaaRows
import Derived.ProofKit
set_option linter.unusedSimpArgs false
set_option linter.unusedVariables false
namespace Go.Proofs.Ytcechmaoihckgaa
open Go.RowKit Go.ChangeShapes Go.WideShapes Go.ChangeAt
theorem FnExactCountByQuadrance_facts : joinedFacts Try.pinned.checked.prog 14 Try.f14 Rows.fnExactCountByQuadranceSpec Rows.fnExactCountByQuadranceRow = true := by kernel_rfl

end Go.Proofs.Ytcechmaoihckgaa
