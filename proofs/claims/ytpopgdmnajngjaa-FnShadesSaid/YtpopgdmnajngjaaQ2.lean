import Derived.Test.YtpopgdmnajngjaaQk
import Derived.Test.YtpopgdmnajngjaaFf
set_option linter.unusedSimpArgs false
set_option linter.unusedVariables false
namespace Go.Proofs.Ytpopgdmnajngjaa
open Go.RowKit
theorem NullColours_same (p : Int) (l : P3) : i_NullColours p l = s_NullColours p l := by
  unfold i_NullColours s_NullColours i_NullColours_c1 i_coloursWith i_NullColours_c2
  rw [linecode p true]
  have e : ∀ k, i_isNull p k l = s_l02Perpendicular p k l l := fun k => rfl
  simp only [e]
  repeat' split
  all_goals first
    | rfl
    | simp_all
theorem NullColours_len (p : Int) (l : P3) : lenB (s_NullColours p l).1.1 1 (s_NullColours p l).1.2 = true := by
  unfold s_NullColours
  repeat' split
  all_goals rfl

end Go.Proofs.Ytpopgdmnajngjaa
