import Derived.Test.YtpopgdmnajngjaaQk
import Derived.Test.YtpopgdmnajngjaaFg
set_option linter.unusedSimpArgs false
set_option linter.unusedVariables false
namespace Go.Proofs.Ytpopgdmnajngjaa
open Go.RowKit
theorem ThreeCircumcentres_same (p : Int) (a b c : P2) : i_ThreeCircumcentres p a b c = s_ThreeCircumcentres p a b c := by
  unfold i_ThreeCircumcentres s_ThreeCircumcentres
  rw [tricode]
  by_cases h : i_triangle p 0 a b c = 0
  · rw [circum_eq h isC0, circum_eq h isC1, circum_eq h isC2]
  · simp [h]
theorem ThreeCircumcentres_len (p : Int) (a b c : P2) : lenB (s_ThreeCircumcentres p a b c).1.1 2 (s_ThreeCircumcentres p a b c).1.2 = true := by
  unfold s_ThreeCircumcentres
  repeat' split
  all_goals rfl

end Go.Proofs.Ytpopgdmnajngjaa
