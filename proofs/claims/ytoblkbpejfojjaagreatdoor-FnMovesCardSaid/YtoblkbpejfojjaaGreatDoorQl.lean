import Derived.Test.YtoblkbpejfojjaaGreatDoorQk
set_option linter.unusedSimpArgs false
set_option linter.unusedVariables false
namespace Go.Proofs.YtoblkbpejfojjaaGreatDoor
open Go.RowKit
/-! Sums over rests. -/
section
variable {K : Type} {p : Int} {φ : Int → K}
theorem zz_sum (R : K → K → Bool) : ((zz p φ).map fun u => (zz p φ).countP (R u)).sum = ((List.range p.toNat).map fun u : Nat => (List.range p.toNat).countP fun z : Nat => R (φ (u : Int)) (φ (z : Int))).sum := by
  unfold zz
  rw [List.map_map]
  congr 1
  refine List.map_congr_left fun u _ => ?_
  show List.countP (R (φ (u : Int))) (List.map (fun n : Nat => φ (n : Int)) (List.range p.toNat)) = _
  rw [List.countP_map]
  rfl
end
theorem if_sum {K : Type} (q : K → Bool) (g : K → Nat) (c : Nat) (h : ∀ x, g x = if q x = true then c else 0) : ∀ l : List K, (l.map g).sum = c * l.countP q
  | [] => rfl
  | x :: l => by
    have ih := if_sum q g c h l
    rw [List.map_cons, List.sum_cons, ih, h x, List.countP_cons]
    split <;> simp [Nat.mul_add] <;> omega
theorem boolOf {K : Type} (P : K → K → Prop) : ∃ Q : K → K → Bool, ∀ X Y, Q X Y = true ↔ P X Y := ⟨fun X Y => @decide (P X Y) (Classical.propDecidable _), fun X Y => by simp⟩
theorem boolOf1 {K : Type} (P : K → Prop) : ∃ Q : K → Bool, ∀ X, Q X = true ↔ P X := ⟨fun X => @decide (P X) (Classical.propDecidable _), fun X => by simp⟩

end Go.Proofs.YtoblkbpejfojjaaGreatDoor
