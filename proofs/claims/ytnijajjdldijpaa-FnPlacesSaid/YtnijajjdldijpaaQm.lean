import Derived.Test.YtnijajjdldijpaaQi
set_option linter.unusedSimpArgs false
set_option linter.unusedVariables false
namespace Go.Proofs.Ytnijajjdldijpaa
open Go.RowKit
theorem PlacesOn_same (p : Int) (pole : P3) : i_PlacesOn p pole = s_PlacesOn p pole := by
  unfold i_PlacesOn s_PlacesOn i_PlacesOn_c1 i_placesOn i_placesWith s_l09On
  rw [placecode_eq p true, show i_arePlaces p [pole] = i_isPlace p pole from by simp [i_arePlaces]]
  rfl
theorem PlacesOn_len (p : Int) (pole : P3) : lenB (s_PlacesOn p pole).1.1 3 (s_PlacesOn p pole).1.2 = true := by
  unfold s_PlacesOn s_l09On
  split
  · rfl
  · rename_i h
    have hl := places_len (l09Code_prB h)
    exact lenB3 (Nat.le_trans (List.length_filter_le _ _) (by omega))

end Go.Proofs.Ytnijajjdldijpaa
