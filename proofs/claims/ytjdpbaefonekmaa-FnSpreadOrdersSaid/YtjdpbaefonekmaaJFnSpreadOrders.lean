import Derived.Test.YtjdpbaefonekmaaRows
import Derived.ProofKit
set_option linter.unusedSimpArgs false
set_option linter.unusedVariables false
namespace Go.Proofs.Ytjdpbaefonekmaa
open Go.RowKit Go.ChangeShapes Go.WideShapes Go.ChangeAt
theorem FnSpreadOrders_facts : joinedFacts Try.pinned.checked.prog 3 Try.f3 Rows.fnSpreadOrdersSpec Rows.fnSpreadOrdersRow = true := by kernel_rfl

end Go.Proofs.Ytjdpbaefonekmaa
