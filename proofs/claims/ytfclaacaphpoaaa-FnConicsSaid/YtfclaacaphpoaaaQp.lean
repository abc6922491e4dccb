import Derived.Test.YtfclaacaphpoaaaQo
set_option linter.unusedSimpArgs false
set_option linter.unusedVariables false
namespace Go.Proofs.Ytfclaacaphpoaaa
open Go.RowKit
/-! All conics in normal form, counted. -/
theorem base_chk : ∀ p ∈ ([3, 5, 7, 11, 13, 17, 19, 23, 29, 31] : List Nat), ((List.range p).all fun d => Nat.beq d 0 || (List.range p).all fun m => Nat.beq m 0 || decide (((rowN p m (tblN p d) : Nat) : Int) = (p : Int) - i_squareKind (p : Int) (d : Int))) = true := by decide +kernel
theorem kind_chk : ∀ p ∈ ([3, 5, 7, 11, 13, 17, 19, 23, 29, 31] : List Int), (i_squareKind p 0 == 0 && (List.range p.toNat).all fun s : Nat => Nat.beq s 0 || decide (i_squareKind p (((s : Int) * s) % p) = 1)) = true := by decide +kernel
theorem sq_chk : ∀ p ∈ ([3, 5, 7, 11, 13, 17, 19, 23, 29, 31] : List Nat), Nat.beq ((List.range p).map fun t => (List.range p).countP fun z => Nat.beq (z * z % p) t).sum p = true := by decide +kernel

end Go.Proofs.Ytfclaacaphpoaaa
