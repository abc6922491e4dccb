import Derived.Test.YtfclaacaphpoaaaQq
set_option linter.unusedSimpArgs false
set_option linter.unusedVariables false
namespace Go.Proofs.Ytfclaacaphpoaaa
open Go.RowKit
theorem Ztt {L : Nat -> Int -> Option Bool} {n : Nat} (hL : ∀ f k : Nat, k < n -> L f ((k + 1 : Nat) : Int) = some true -> L (f + 1) (k : Int) = some true) (hE : ∀ f : Nat, L (f + 1) (n : Int) = some true) : ∀ (m k F : Nat), k + m = n -> m < F -> L F (k : Int) = some true
 | m, k, 0, _, h => absurd h (Nat.not_lt_zero m)
 | 0, k, F + 1, h, _ => by
  obtain rfl : k = n := by omega
  exact hE F
 | m + 1, k, F + 1, h, hF => hL F k (by omega) (Ztt hL hE m (k + 1) F (by omega) (by omega))
theorem ZnQ {L : Nat -> Int -> Option Bool} {n F : Nat} (hF : n < F) (hL : ∀ f k : Nat, k < n -> L f ((k + 1 : Nat) : Int) = some true -> L (f + 1) (k : Int) = some true) (hE : ∀ f : Nat, L (f + 1) (n : Int) = some true) : L F 0 = some true := Ztt hL hE n 0 F (by omega) hF
end Go.Proofs.Ytfclaacaphpoaaa
