import Derived.Test.YtnijajjdldijpaaQi
set_option linter.unusedSimpArgs false
set_option linter.unusedVariables false
namespace Go.Proofs.Ytnijajjdldijpaa
open Go.RowKit
theorem null_same (p : Int) (a : P3) : s_l09Null p a = i_isNullPlace p a := rfl
theorem QuadrancesOfPlaces_same (p : Int) (a b c : P3) : i_QuadrancesOfPlaces p a b c = s_QuadrancesOfPlaces p a b c := by
  unfold i_QuadrancesOfPlaces s_QuadrancesOfPlaces i_QuadrancesOfPlaces_c1
  rw [placecode_eq p true]
  by_cases h : i_asked p true (i_arePlaces p [a, b, c]) = 0
  · have hf := (asked_zero h).1
    rw [quadrance_eq hf, quadrance_eq hf, quadrance_eq hf, null_same, null_same, null_same]
    simp [h]
  · simp [h]
theorem QuadrancesOfPlaces_len (p : Int) (a b c : P3) : lenB (s_QuadrancesOfPlaces p a b c).1.1 1 (s_QuadrancesOfPlaces p a b c).1.2 = true := by
  unfold s_QuadrancesOfPlaces
  repeat' split
  all_goals rfl

end Go.Proofs.Ytnijajjdldijpaa
