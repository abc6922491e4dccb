import Derived.Test.YtcechmaoihckgaaPa
import Derived.Test.YtcechmaoihckgaaLIsDesk
set_option linter.unusedSimpArgs false
set_option linter.unusedVariables false
namespace Go.Proofs.Ytcechmaoihckgaa
open Go.RowKit

/-! Plain facts of points. -/
theorem point_eq {p : Int} (hp : Pr p) (a : P2) : s_l01Point p a = i_isPoint p a := by
  unfold s_l01Point i_isPoint
  simp [in_eq hp, i_areNumbers]
theorem pointcode_eq (p : Int) (l : List P2) : s_l01Code p l = i_asked p (i_arePoints p l) := by
  unfold s_l01Code i_asked s_l01Field
  cases h : i_IsField p
  · rfl
  · have hp := i_IsField_ok h
    have e : l.all (fun a => s_l01Point p a) = i_arePoints p l := by unfold i_arePoints; congr 1; funext a; exact point_eq hp a
    rw [e]

end Go.Proofs.Ytcechmaoihckgaa
