import Derived.Test.YtoblkbpejfojjaaGreatDoorQl
set_option linter.unusedSimpArgs false
set_option linter.unusedVariables false
namespace Go.Proofs.YtoblkbpejfojjaaGreatDoor
open Go.RowKit
/-! The points of a plane, counted by lists of rests. -/
section
variable {K : Type} {p : Int} {φ : Int → K}
theorem pts_count (h0 : 0 ≤ p) (q : P2 → Bool) (Q : K → K → Bool) (h : ∀ x y, (0 ≤ x ∧ x < p) → (0 ≤ y ∧ y < p) → q (x, y) = Q (φ x) (φ y)) : ((pts p).filter q).length = ((zz p φ).map fun x => (zz p φ).countP (Q x)).sum := by
  rw [zz_sum, ← List.countP_eq_length_filter]
  unfold pts
  rw [List.countP_flatMap]
  congr 1
  refine List.map_congr_left fun x hx => ?_
  have hx' := List.mem_range.1 hx
  show List.countP q (List.map (fun y : Nat => ((x : Int), (y : Int))) (List.range p.toNat)) = _
  rw [List.countP_map]
  refine List.countP_congr fun y hy => ?_
  have hy' := List.mem_range.1 hy
  show q ((x : Int), (y : Int)) = true ↔ _
  rw [h (x : Int) (y : Int) (by omega) (by omega)]
end

end Go.Proofs.YtoblkbpejfojjaaGreatDoor
