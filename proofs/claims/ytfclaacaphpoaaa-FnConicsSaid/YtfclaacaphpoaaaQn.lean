import Derived.Test.YtfclaacaphpoaaaQm
set_option linter.unusedSimpArgs false
set_option linter.unusedVariables false
namespace Go.Proofs.Ytfclaacaphpoaaa
open Go.RowKit
theorem ConicPoints_same (p : Int) (k : P6) : i_ConicPoints p k = s_ConicPoints p k := by
  unfold i_ConicPoints s_ConicPoints i_ConicPoints_c1
  rw [coniccode_eq p true]
  by_cases h : i_asked p true (i_isConic p k) = 0
  · obtain ⟨hf, hk⟩ := asked_zero h
    have e : (pts p).filter (fun a => i_ConicPoints_c2 a p k) = (pts p).filter (fun a => s_l08Value p k a == 0) := by
      apply filter_same
      intro a ha
      have ha := mem_pts.1 ha
      have hb : i_isPoint p a = true := by simp [i_isPoint, i_areNumbers, i_isNumber]; omega
      exact onconic_eq hf hk hb
    unfold i_pointsWith s_l08Points
    dsimp only
    rw [e]
  · simp [h]
theorem ConicPoints_len (p : Int) (k : P6) : lenB (s_ConicPoints p k).1.1 2 (s_ConicPoints p k).1.2 = true := by
  unfold s_ConicPoints s_l08Points
  split
  · rfl
  · rename_i h
    have hl := pts_len (l08Code_prB h)
    exact lenB2 (Nat.le_trans (List.length_filter_le _ _) (by omega))

end Go.Proofs.Ytfclaacaphpoaaa
