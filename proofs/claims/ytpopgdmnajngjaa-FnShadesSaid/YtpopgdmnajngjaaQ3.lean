import Derived.Test.YtpopgdmnajngjaaQk
import Derived.Test.YtpopgdmnajngjaaFf
set_option linter.unusedSimpArgs false
set_option linter.unusedVariables false
namespace Go.Proofs.Ytpopgdmnajngjaa
open Go.RowKit
theorem RightColours_same (p : Int) (a b c : P2) : i_RightColours p a b c = s_RightColours p a b c := by
  unfold i_RightColours s_RightColours i_RightColours_c1 i_coloursWith i_RightColours_c2
  rw [pointcode p true]
  have e : ∀ k, i_isRight p k a b c = (s_l02Product p k (s_l01Minus p b a) (s_l01Minus p c a) == 0) := fun k => rfl
  simp only [e]
  repeat' split
  all_goals first
    | rfl
    | simp_all
theorem RightColours_len (p : Int) (a b c : P2) : lenB (s_RightColours p a b c).1.1 1 (s_RightColours p a b c).1.2 = true := by
  unfold s_RightColours
  repeat' split
  all_goals rfl

end Go.Proofs.Ytpopgdmnajngjaa
