import Derived.Test.YtpopgdmnajngjaaQk
import Derived.Test.YtpopgdmnajngjaaFg
set_option linter.unusedSimpArgs false
set_option linter.unusedVariables false
namespace Go.Proofs.Ytpopgdmnajngjaa
open Go.RowKit
theorem OmegaPoints_same (p : Int) (a b c : P2) : i_OmegaPoints p a b c = s_OmegaPoints p a b c := by
  unfold i_OmegaPoints s_OmegaPoints i_omegaPoints s_l10Omega
  rw [tricode]
  by_cases h : i_triangle p 0 a b c = 0
  · rw [ortho_eq h isC0, ortho_eq h isC1, ortho_eq h isC2]
  · simp [h]
theorem OmegaPoints_len (p : Int) (a b c : P2) : lenB (s_OmegaPoints p a b c).1.1 2 (s_OmegaPoints p a b c).1.2 = true := by
  unfold s_OmegaPoints
  repeat' split
  all_goals rfl

end Go.Proofs.Ytpopgdmnajngjaa
