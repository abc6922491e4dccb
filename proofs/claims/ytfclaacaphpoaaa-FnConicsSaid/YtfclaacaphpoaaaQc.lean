import Derived.Test.YtfclaacaphpoaaaQa
set_option linter.unusedSimpArgs false
set_option linter.unusedVariables false
namespace Go.Proofs.Ytfclaacaphpoaaa
open Go.RowKit
/-! Plain facts of conics. -/
theorem conic_eq {p : Int} (hp : Pr p) (k : P6) : s_l08Is p k = i_isConic p k := by
  obtain ⟨a, b, c, d, e, f⟩ := k
  unfold s_l08Is i_isConic
  simp only [in_eq hp]
  cases h0 : i_isNumber p a <;> cases h1 : i_isNumber p b <;> cases h2 : i_isNumber p c <;> cases h3 : i_isNumber p d <;> cases h4 : i_isNumber p e <;> cases h5 : i_isNumber p f <;> simp [i_areNumbers, h0, h1, h2, h3, h4, h5]
theorem coniccode_eq (p : Int) (b : Bool) (k : P6) : s_l08Code p k = i_asked p b (i_isConic p k) := by
  unfold s_l08Code i_asked s_l01Field
  cases h : i_IsField p
  · rfl
  · rw [conic_eq (i_IsField_ok h)]
    cases i_isConic p k <;> rfl
theorem isConic_num {p : Int} {k : P6} (h : i_isConic p k = true) : (0 ≤ k.1 ∧ k.1 < p) ∧ (0 ≤ k.2.1 ∧ k.2.1 < p) ∧ (0 ≤ k.2.2.1 ∧ k.2.2.1 < p) ∧ (0 ≤ k.2.2.2.1 ∧ k.2.2.2.1 < p) ∧ (0 ≤ k.2.2.2.2.1 ∧ k.2.2.2.2.1 < p) ∧ (0 ≤ k.2.2.2.2.2 ∧ k.2.2.2.2.2 < p) := by
  unfold i_isConic at h
  cases h0 : i_areNumbers p [k.1, k.2.1, k.2.2.1, k.2.2.2.1, k.2.2.2.2.1, k.2.2.2.2.2]
  · simp [h0] at h
  · simpa [i_areNumbers, isNumber_iff] using h0
theorem point_eq {p : Int} (hp : Pr p) (a : P2) : s_l01Point p a = i_isPoint p a := by
  unfold s_l01Point i_isPoint
  simp [in_eq hp, i_areNumbers]

end Go.Proofs.Ytfclaacaphpoaaa
