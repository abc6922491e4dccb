import Derived.Test.YtpopgdmnajngjaaQk
import Derived.Test.YtpopgdmnajngjaaFg
set_option linter.unusedSimpArgs false
set_option linter.unusedVariables false
namespace Go.Proofs.Ytpopgdmnajngjaa
open Go.RowKit
theorem ThreeQuadrances_same (p : Int) (a b : P2) : i_ThreeQuadrances p a b = s_ThreeQuadrances p a b := by
  unfold i_ThreeQuadrances s_ThreeQuadrances i_ThreeQuadrances_c1
  rw [pointcode p true]
  by_cases h : i_asked p true (i_arePoints p [a, b]) = 0
  · obtain ⟨hf, hb⟩ := asked_zero h
    simp only [i_arePoints, List.all_cons, List.all_nil, Bool.and_true, Bool.and_eq_true] at hb
    obtain ⟨ha, hb⟩ := hb
    rw [quad_same hf isC0 ha hb, quad_same hf isC1 ha hb, quad_same hf isC2 ha hb]
  · simp [h]
theorem ThreeQuadrances_len (p : Int) (a b : P2) : lenB (s_ThreeQuadrances p a b).1.1 1 (s_ThreeQuadrances p a b).1.2 = true := by
  unfold s_ThreeQuadrances
  repeat' split
  all_goals rfl

end Go.Proofs.Ytpopgdmnajngjaa
