import Derived.Test.YtpopgdmnajngjaaQk
import Derived.Test.YtpopgdmnajngjaaFf
set_option linter.unusedSimpArgs false
set_option linter.unusedVariables false
namespace Go.Proofs.Ytpopgdmnajngjaa
open Go.RowKit
theorem UnitCounts_same (p : Int) : i_UnitCounts p = s_UnitCounts p := by
  unfold i_UnitCounts s_UnitCounts
  cases h : i_IsField p
  · have h' : s_l01Field p = false := h
    rw [h']; rfl
  · have h' : s_l01Field p = true := h
    rw [h']
    have e : ∀ c, isC c → i_pointsAt p c (0, 0) 1 = s_l02At p c (0, 0) 1 := by
      intro c hc
      unfold i_pointsAt i_pointsWith s_l02At i_pointsAt_c1
      have hh : (pts p).filter (fun zz => i_quadrance p c (0, 0) zz == 1) = (pts p).filter (fun zz => s_l02Quadrance p c (0, 0) zz == 1) := by
        apply filter_same
        intro z hz
        have hz := mem_pts.1 hz
        have z0 : i_isPoint p (0, 0) = true := by
          have := i_IsField_ok h
          unfold Pr at this
          simp [i_isPoint, i_areNumbers, i_isNumber]; omega
        have z1 : i_isPoint p z = true := by simp [i_isPoint, i_areNumbers, i_isNumber]; omega
        rw [quad_same h hc z0 z1]
      dsimp only
      rw [hh]
    rw [e 0 isC0, e 1 isC1, e 2 isC2]
theorem UnitCounts_len (p : Int) : lenB (s_UnitCounts p).1.1 1 (s_UnitCounts p).1.2 = true := by
  unfold s_UnitCounts
  repeat' split
  all_goals rfl

end Go.Proofs.Ytpopgdmnajngjaa
