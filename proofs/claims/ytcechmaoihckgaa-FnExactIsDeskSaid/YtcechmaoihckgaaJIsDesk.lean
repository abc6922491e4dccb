import Derived.Test.YtcechmaoihckgaaRows
import Derived.ProofKit
set_option linter.unusedSimpArgs false
set_option linter.unusedVariables false
namespace Go.Proofs.Ytcechmaoihckgaa
open Go.RowKit Go.ChangeShapes Go.WideShapes Go.ChangeAt

theorem FnExactIsDesk_facts : joinedFacts Try.pinned.checked.prog 17 Try.f17 Rows.fnExactIsDeskSpec Rows.fnExactIsDeskRow = true := by kernel_rfl

end Go.Proofs.Ytcechmaoihckgaa
