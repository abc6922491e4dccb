import Derived.Test.YtpopgdmnajngjaaQk
import Derived.Test.YtpopgdmnajngjaaFg
set_option linter.unusedSimpArgs false
set_option linter.unusedVariables false
namespace Go.Proofs.Ytpopgdmnajngjaa
open Go.RowKit
theorem ThreeEulerLines_same (p : Int) (a b c : P2) : i_ThreeEulerLines p a b c = s_ThreeEulerLines p a b c := by
  have ht : ∀ k, isC k → i_triangle p k a b c = i_triangle p 0 a b c := by
    intro k hk
    unfold i_triangle i_triangle_c1
    have : i_isColour k = true := by rcases hk with rfl | rfl | rfl <;> rfl
    rw [this]
    rfl
  have e : ∀ k, isC k → i_EulerLineOf p k a b c = if (i_triangle p 0 a b c != 0) = true then ((0, 0, 0), i_triangle p 0 a b c) else if (s_l04Orthocentre p k a b c == s_l04Circumcentre p k a b c) = true then ((0, 0, 0), 5) else (s_l01Through p (s_l04Orthocentre p k a b c) (s_l04Circumcentre p k a b c), 0) := by
    intro k hk
    unfold i_EulerLineOf
    rw [ht k hk]
    by_cases h : i_triangle p 0 a b c = 0
    · have hf := (tri_zero h).1
      rw [ortho_eq h hk, circum_eq h hk]
      by_cases hx : s_l04Orthocentre p k a b c = s_l04Circumcentre p k a b c
      · simp [h, hx]
      · rw [through_eq hf (ortho_pt h hk) (circum_pt h hk) hx]
    · simp [h]
  unfold i_ThreeEulerLines s_ThreeEulerLines
  rw [tricode, e 0 isC0, e 1 isC1, e 2 isC2]
  by_cases h : i_triangle p 0 a b c = 0
  · simp only [h]
    by_cases h0 : s_l04Orthocentre p 0 a b c = s_l04Circumcentre p 0 a b c
    · simp [h0]
    · by_cases h1 : s_l04Orthocentre p 1 a b c = s_l04Circumcentre p 1 a b c
      · simp [h0, h1]
      · by_cases h2 : s_l04Orthocentre p 2 a b c = s_l04Circumcentre p 2 a b c
        · simp [h0, h1, h2]
        · simp [h0, h1, h2]
  · simp [h]
theorem ThreeEulerLines_len (p : Int) (a b c : P2) : lenB (s_ThreeEulerLines p a b c).1.1 3 (s_ThreeEulerLines p a b c).1.2 = true := by
  unfold s_ThreeEulerLines
  repeat' split
  all_goals rfl

end Go.Proofs.Ytpopgdmnajngjaa
