import Derived.Test.YtcechmaoihckgaaRows
import Derived.ProofKit
set_option linter.unusedSimpArgs false
set_option linter.unusedVariables false
namespace Go.Proofs.Ytcechmaoihckgaa
open Go.RowKit Go.ChangeShapes Go.WideShapes Go.ChangeAt

theorem FnExactNewDesk_facts : joinedFacts Try.pinned.checked.prog 16 Try.f16 Rows.fnExactNewDeskSpec Rows.fnExactNewDeskRow = true := by kernel_rfl

end Go.Proofs.Ytcechmaoihckgaa
