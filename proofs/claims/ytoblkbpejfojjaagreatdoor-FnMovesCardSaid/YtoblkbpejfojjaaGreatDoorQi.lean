import Derived.Test.YtoblkbpejfojjaaGreatDoorQh
set_option linter.unusedSimpArgs false
set_option linter.unusedVariables false
namespace Go.Proofs.YtoblkbpejfojjaaGreatDoor
open Go.RowKit
/-! Codes of points, lines, triangles; altitudes, orthocentres, circumcentres. -/
theorem point_eq {p : Int} (hp : Pr p) (a : P2) : s_l01Point p a = i_isPoint p a := by
  unfold s_l01Point i_isPoint
  simp [in_eq hp, i_areNumbers]
theorem line_is {p : Int} (hp : Pr p) (l : P3) : s_l01Line p l = i_isLine p l := by
  unfold s_l01Line i_isLine
  simp only [in_eq hp]
  cases h0 : i_isNumber p l.1 <;> cases h1 : i_isNumber p l.2.1 <;> cases h2 : i_isNumber p l.2.2 <;> simp [i_areNumbers, h0, h1, h2]
theorem pointcode (p : Int) (k : Bool) (l : List P2) : s_l01Code p l = i_asked p k (i_arePoints p l) := by
  unfold s_l01Code i_asked s_l01Field
  cases h : i_IsField p
  · rfl
  · have e : l.all (fun x => s_l01Point p x) = i_arePoints p l := by unfold i_arePoints; congr 1; funext a; exact point_eq (i_IsField_ok h) a
    rw [e]
theorem linecode (p : Int) (k : Bool) (l : P3) : s_l01Lines p [l] = i_asked p k (i_isLine p l) := by
  unfold s_l01Lines i_asked s_l01Field
  cases h : i_IsField p
  · rfl
  · simp [line_is (i_IsField_ok h)]
theorem mul_flip (a b : Int) : (0 - a) * b = 0 - a * b := by rw [Int.sub_mul]; omega
/-- What three points that are no triangle's vertices in line say in the field. -/
def Tri {K : Type} [Lean.Grind.Field K] (x1 y1 x2 y2 x3 y3 : K) : Prop := (x2 - x1) * (y3 - y1) - (y2 - y1) * (x3 - x1) ≠ 0
section
variable {p : Int} {K : Type} [Lean.Grind.Field K] {φ : Int → K}
theorem frU_scale {c : Int} (hc : isC c) (t x y : K) : frU c (x * t) (y * t) = frU c x y * t := by
  rcases hc with rfl | rfl | rfl <;> simp [frU]
theorem frV_scale {c : Int} (hc : isC c) (t x y : K) : frV c (x * t) (y * t) = frV c x y * t := by
  rcases hc with rfl | rfl | rfl <;> simp [frV] <;> grind
theorem tri_ne {x1 y1 x2 y2 x3 y3 : K} (h : Tri x1 y1 x2 y2 x3 y3) : (x2 ≠ x3 ∨ y2 ≠ y3) ∧ (x1 ≠ x3 ∨ y1 ≠ y3) ∧ (x1 ≠ x2 ∨ y1 ≠ y2) := by
  unfold Tri at h
  refine ⟨?_, ?_, ?_⟩ <;> grind
theorem quad_iff (H : Hom p K φ) (hf : i_IsField p = true) {c : Int} (hc : isC c) {x a b : P2} {X Y x1 y1 x2 y2 : K} (h1 : Vl p φ x.1 X) (h2 : Vl p φ x.2 Y) (a1 : Vl p φ a.1 x1) (a2 : Vl p φ a.2 y1) (b1 : Vl p φ b.1 x2) (b2 : Vl p φ b.2 y2) :
    (i_quadrance p c x a == i_quadrance p c x b) = true ↔ prodK c (X - x1) (Y - y1) (X - x1) (Y - y1) = prodK c (X - x2) (Y - y2) (X - x2) (Y - y2) := by
  rw [beq_iff_eq]
  exact Vl.eq_iff H (vl_quadrance H hf hc h1 h2 a1 a2) (vl_quadrance H hf hc h1 h2 b1 b2)
end

end Go.Proofs.YtoblkbpejfojjaaGreatDoor
