import Derived.Test.YtoblkbpejfojjaaGreatDoorQn
set_option linter.unusedSimpArgs false
set_option linter.unusedVariables false
namespace Go.Proofs.YtoblkbpejfojjaaGreatDoor
open Go.RowKit
/-! Matrices that keep quadrances: turns and reflections. -/
section
variable {K : Type} [Lean.Grind.Field K]
theorem kp_det {c : Int} (hc : isC c) {A B C D : K} (h : Kp c A B C D) : A * D - B * C = 1 ∨ A * D - B * C = -1 := by
  have e : (A * D - B * C - 1) * (A * D - B * C + 1) = 0 := by
    unfold Kp at h
    obtain ⟨h1, h2, h3⟩ := h
    rcases hc with rfl | rfl | rfl <;> simp only [prodK] at h1 h2 h3 <;> grind
  by_cases h1 : A * D - B * C - 1 = 0
  · exact Or.inl (by grind)
  · exact Or.inr (by grind)
theorem kp_ref {c : Int} (hc : isC c) (n2 : (2 : K) ≠ 0) {A B C D : K} (h : Kp c A B C D) (hd : A * D - B * C = -1) : A + D = 0 := by
  unfold Kp at h
  obtain ⟨h1, h2, h3⟩ := h
  rcases hc with rfl | rfl | rfl <;> simp only [prodK] at h1 h2 h3
  · have e : A = -D := by grind
    grind
  · have e : A = -D := by grind
    grind
  · have e1 : A * C = 0 := by grind
    have e2 : B * D = 0 := by grind
    have e3 : A * D = 0 := by grind
    have e4 : B * C = 1 := by grind
    grind
theorem kp_one {c : Int} (hc : isC c) (n2 : (2 : K) ≠ 0) {A B C D : K} (h : Kp c A B C D) (hd : A * D - B * C = 1) (ht : A + D = 2) : A = 1 ∧ B = 0 ∧ C = 0 ∧ D = 1 := by
  unfold Kp at h
  obtain ⟨h1, h2, h3⟩ := h
  rcases hc with rfl | rfl | rfl <;> simp only [prodK] at h1 h2 h3
  · have e : A = D := by grind
    have e2 : A = 1 := by grind
    grind
  · have e : A = D := by grind
    have e2 : A = 1 := by grind
    grind
  · have e1 : A * C = 0 := by grind
    have e2 : B * D = 0 := by grind
    have e3 : A * D = 1 := by grind
    have e4 : (A - 1) * (A - 1) = 0 := by grind
    have e5 : A = 1 := by grind
    grind
/-- A turn other than the identity matrix: I - M can be solved. -/
theorem kp_solve {c : Int} (hc : isC c) (n2 : (2 : K) ≠ 0) {A B C D : K} (h : Kp c A B C D) (hd : A * D - B * C = 1) (hn : ¬ (A = 1 ∧ B = 0 ∧ C = 0 ∧ D = 1)) : (A - 1) * (D - 1) - B * C ≠ 0 := by
  intro e
  exact hn (kp_one hc n2 h hd (by grind))
end

end Go.Proofs.YtoblkbpejfojjaaGreatDoor
