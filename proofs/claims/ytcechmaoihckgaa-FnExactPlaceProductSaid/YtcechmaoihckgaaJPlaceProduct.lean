import Derived.Test.YtcechmaoihckgaaRows
import Derived.ProofKit
namespace Go.Proofs.Ytcechmaoihckgaa
open Go.RowKit Go.ChangeShapes Go.WideShapes Go.ChangeAt

theorem FnExactPlaceProduct_facts : joinedFacts Try.pinned.checked.prog 4 Try.f4 Rows.fnExactPlaceProductSpec Rows.fnExactPlaceProductRow = true := by kernel_rfl

end Go.Proofs.Ytcechmaoihckgaa
