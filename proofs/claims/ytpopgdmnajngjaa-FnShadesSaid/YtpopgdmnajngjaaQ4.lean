import Derived.Test.YtpopgdmnajngjaaQk
import Derived.Test.YtpopgdmnajngjaaFf
set_option linter.unusedSimpArgs false
set_option linter.unusedVariables false
namespace Go.Proofs.Ytpopgdmnajngjaa
open Go.RowKit
theorem EqualColours_same (p : Int) (a b c : P2) : i_EqualColours p a b c = s_EqualColours p a b c := by
  unfold i_EqualColours s_EqualColours i_EqualColours_c1 i_coloursWith i_EqualColours_c2
  rw [pointcode p true]
  by_cases h : i_asked p true (i_arePoints p [a, b, c]) = 0
  · obtain ⟨hf, hb⟩ := asked_zero h
    simp only [i_arePoints, List.all_cons, List.all_nil, Bool.and_true, Bool.and_eq_true] at hb
    obtain ⟨ha, hb, hc⟩ := hb
    simp only [quad_same hf isC0 ha hb, quad_same hf isC1 ha hb, quad_same hf isC2 ha hb, quad_same hf isC0 ha hc, quad_same hf isC1 ha hc, quad_same hf isC2 ha hc]
    repeat' split
    all_goals first
      | rfl
      | simp_all
  · simp [h]
theorem EqualColours_len (p : Int) (a b c : P2) : lenB (s_EqualColours p a b c).1.1 1 (s_EqualColours p a b c).1.2 = true := by
  unfold s_EqualColours
  repeat' split
  all_goals rfl

end Go.Proofs.Ytpopgdmnajngjaa
