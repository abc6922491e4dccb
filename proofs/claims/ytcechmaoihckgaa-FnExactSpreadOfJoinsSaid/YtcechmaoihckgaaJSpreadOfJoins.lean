import Derived.Test.YtcechmaoihckgaaRows
import Derived.ProofKit
set_option linter.unusedSimpArgs false
set_option linter.unusedVariables false
namespace Go.Proofs.Ytcechmaoihckgaa
open Go.RowKit Go.ChangeShapes Go.WideShapes Go.ChangeAt
theorem FnExactSpreadOfJoins_facts : joinedFacts Try.pinned.checked.prog 12 Try.f12 Rows.fnExactSpreadOfJoinsSpec Rows.fnExactSpreadOfJoinsRow = true := by kernel_rfl

end Go.Proofs.Ytcechmaoihckgaa
