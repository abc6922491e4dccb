import Derived.Test.YtnijajjdldijpaaQi
set_option linter.unusedSimpArgs false
set_option linter.unusedVariables false
namespace Go.Proofs.Ytnijajjdldijpaa
open Go.RowKit
theorem null_same (p : Int) (a : P3) : s_l09Null p a = i_isNullPlace p a := rfl
theorem NullPlaces_same (p : Int) : i_NullPlaces p = s_NullPlaces p := by
  unfold i_NullPlaces s_NullPlaces i_placesWith V_s_NullPlaces_0
  have hc : s_l09Code p [] = if i_IsField p = true then 0 else 1 := rfl
  rw [hc]
  cases h : i_IsField p
  · rfl
  · rfl
theorem NullPlaces_len (p : Int) : lenB (s_NullPlaces p).1.1 3 (s_NullPlaces p).1.2 = true := by
  unfold s_NullPlaces V_s_NullPlaces_0
  split
  · rfl
  · rename_i h
    have hl := places_len (l09Code_prB h)
    exact lenB3 (Nat.le_trans (List.length_filter_le _ _) (by omega))

end Go.Proofs.Ytnijajjdldijpaa
