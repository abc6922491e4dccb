import Derived.Test.YtfclaacaphpoaaaQb
set_option linter.unusedSimpArgs false
set_option linter.unusedVariables false
namespace Go.Proofs.Ytfclaacaphpoaaa
open Go.RowKit
theorem Z0d {p : Int} {a : P2} (h : ZI p a = true) : (0 <= a.1 /\ a.1 < p) /\ (0 <= a.2 /\ a.2 < p) := by
 unfold ZI at h
 simpa [ZR, Z5v] using h
end Go.Proofs.Ytfclaacaphpoaaa
