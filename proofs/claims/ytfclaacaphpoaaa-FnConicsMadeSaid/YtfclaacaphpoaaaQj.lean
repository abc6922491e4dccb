import Derived.Test.YtfclaacaphpoaaaQi
set_option linter.unusedSimpArgs false
set_option linter.unusedVariables false
namespace Go.Proofs.Ytfclaacaphpoaaa
open Go.RowKit
section
variable {p : Int} {K : Type} [Lean.Grind.Field K] {φ : Int -> K}
end
end Go.Proofs.Ytfclaacaphpoaaa
