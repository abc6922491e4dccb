import Derived.Test.YtpopgdmnajngjaaFh
import Derived.Test.YtpopgdmnajngjaaQl
import Derived.Test.YtpopgdmnajngjaaQ0
import Derived.Test.YtpopgdmnajngjaaQ1
import Derived.Test.YtpopgdmnajngjaaQ2
import Derived.Test.YtpopgdmnajngjaaQ3
import Derived.Test.YtpopgdmnajngjaaQ4
import Derived.Test.YtpopgdmnajngjaaProg
set_option linter.unusedSimpArgs false
set_option linter.unusedVariables false
namespace Go.Proofs.Ytpopgdmnajngjaa
open Go.RowKit
noncomputable section
abbrev k3_0 (coden : Nat) (codel : List Int) : Int := (s_DrawUnitCounts coden codel)
abbrev k3_1 (coden : Nat) (codel : List Int) : (Nat × List Int) × Int := (i_UnitCounts (k3_0 coden codel))
abbrev k3_2 (coden : Nat) (codel : List Int) : (Nat × List Int) × Int := (s_UnitCounts (k3_0 coden codel))
abbrev k3_3 (coden : Nat) (codel : List Int) : Bool := (l_likeInts (((k3_1 coden codel).1).1) (((k3_1 coden codel).1).2) (((k3_2 coden codel).1).1) (((k3_2 coden codel).1).2))
abbrev k3_4 (coden : Nat) (codel : List Int) : (Nat × List Int) × Int := (i_ThreeFeet ((s_DrawThreeFeet coden codel).1) ((s_DrawThreeFeet coden codel).2.1) ((s_DrawThreeFeet coden codel).2.2))
abbrev k3_5 (coden : Nat) (codel : List Int) : (Nat × List Int) × Int := (s_ThreeFeet ((s_DrawThreeFeet coden codel).1) ((s_DrawThreeFeet coden codel).2.1) ((s_DrawThreeFeet coden codel).2.2))
abbrev k3_6 (coden : Nat) (codel : List Int) : Bool := (l_points9 (((k3_4 coden codel).1).1) (((k3_4 coden codel).1).2) (((k3_5 coden codel).1).1) (((k3_5 coden codel).1).2))
abbrev k3_7 (coden : Nat) (codel : List Int) : (Nat × List Int) × Int := (i_NullColours ((s_DrawThreeFeet coden codel).1) ((s_DrawThreeFeet coden codel).2.2))
abbrev k3_8 (coden : Nat) (codel : List Int) : (Nat × List Int) × Int := (s_NullColours ((s_DrawThreeFeet coden codel).1) ((s_DrawThreeFeet coden codel).2.2))
abbrev k3_9 (coden : Nat) (codel : List Int) : Bool := (l_likeInts (((k3_7 coden codel).1).1) (((k3_7 coden codel).1).2) (((k3_8 coden codel).1).1) (((k3_8 coden codel).1).2))
abbrev k3_10 (coden : Nat) (codel : List Int) : Int × (Int × Int) × (Int × Int) × Int × Int := (s_DrawRightColours coden codel)
abbrev k3_11 (coden : Nat) (codel : List Int) : (Nat × List Int) × Int := (i_RightColours ((k3_10 coden codel).1) ((k3_10 coden codel).2.1) ((k3_10 coden codel).2.2.1) ((k3_10 coden codel).2.2.2))
abbrev k3_12 (coden : Nat) (codel : List Int) : (Nat × List Int) × Int := (s_RightColours ((k3_10 coden codel).1) ((k3_10 coden codel).2.1) ((k3_10 coden codel).2.2.1) ((k3_10 coden codel).2.2.2))
abbrev k3_13 (coden : Nat) (codel : List Int) : Bool := (l_likeInts (((k3_11 coden codel).1).1) (((k3_11 coden codel).1).2) (((k3_12 coden codel).1).1) (((k3_12 coden codel).1).2))
abbrev k3_14 (coden : Nat) (codel : List Int) : Int × (Int × Int) × (Int × Int) × Int × Int := (s_DrawEqualColours coden codel)
abbrev k3_15 (coden : Nat) (codel : List Int) : (Nat × List Int) × Int := (i_EqualColours ((k3_14 coden codel).1) ((k3_14 coden codel).2.1) ((k3_14 coden codel).2.2.1) ((k3_14 coden codel).2.2.2))
abbrev k3_16 (coden : Nat) (codel : List Int) : (Nat × List Int) × Int := (s_EqualColours ((k3_14 coden codel).1) ((k3_14 coden codel).2.1) ((k3_14 coden codel).2.2.1) ((k3_14 coden codel).2.2.2))
abbrev k3_17 (coden : Nat) (codel : List Int) : Bool := (l_likeInts (((k3_15 coden codel).1).1) (((k3_15 coden codel).1).2) (((k3_16 coden codel).1).1) (((k3_16 coden codel).1).2))
abbrev k3_18 (coden : Nat) (codel : List Int) : Bool × Int := (i_HasRightAngle ((k3_10 coden codel).1) 0 ((k3_10 coden codel).2.1) ((k3_10 coden codel).2.2.1) ((k3_10 coden codel).2.2.2))
abbrev k3_19 (coden : Nat) (codel : List Int) : Bool := (l_hasInt (((k3_11 coden codel).1).1) (((k3_11 coden codel).1).2) 0)
abbrev k3_20 (coden : Nat) (codel : List Int) : Bool × Int := (i_HasRightAngle ((k3_10 coden codel).1) 1 ((k3_10 coden codel).2.1) ((k3_10 coden codel).2.2.1) ((k3_10 coden codel).2.2.2))
abbrev k3_21 (coden : Nat) (codel : List Int) : Bool := (l_hasInt (((k3_11 coden codel).1).1) (((k3_11 coden codel).1).2) 1)
abbrev k3_22 (coden : Nat) (codel : List Int) : Bool × Int := (i_HasRightAngle ((k3_10 coden codel).1) 2 ((k3_10 coden codel).2.1) ((k3_10 coden codel).2.2.1) ((k3_10 coden codel).2.2.2))
abbrev k3_23 (coden : Nat) (codel : List Int) : Bool := (l_hasInt (((k3_11 coden codel).1).1) (((k3_11 coden codel).1).2) 2)
abbrev k3_24 (coden : Nat) (codel : List Int) : Int × Int := (i_Quadrance ((k3_14 coden codel).1) 0 ((k3_14 coden codel).2.1) ((k3_14 coden codel).2.2.1))
abbrev k3_25 (coden : Nat) (codel : List Int) : Int × Int := (i_Quadrance ((k3_14 coden codel).1) 0 ((k3_14 coden codel).2.1) ((k3_14 coden codel).2.2.2))
abbrev k3_26 (coden : Nat) (codel : List Int) : Bool := (l_hasInt (((k3_15 coden codel).1).1) (((k3_15 coden codel).1).2) 0)
abbrev k3_27 (coden : Nat) (codel : List Int) : Int × Int := (i_Quadrance ((k3_14 coden codel).1) 1 ((k3_14 coden codel).2.1) ((k3_14 coden codel).2.2.1))
abbrev k3_28 (coden : Nat) (codel : List Int) : Int × Int := (i_Quadrance ((k3_14 coden codel).1) 1 ((k3_14 coden codel).2.1) ((k3_14 coden codel).2.2.2))
abbrev k3_29 (coden : Nat) (codel : List Int) : Bool := (l_hasInt (((k3_15 coden codel).1).1) (((k3_15 coden codel).1).2) 1)
abbrev k3_30 (coden : Nat) (codel : List Int) : Int × Int := (i_Quadrance ((k3_14 coden codel).1) 2 ((k3_14 coden codel).2.1) ((k3_14 coden codel).2.2.1))
abbrev k3_31 (coden : Nat) (codel : List Int) : Int × Int := (i_Quadrance ((k3_14 coden codel).1) 2 ((k3_14 coden codel).2.1) ((k3_14 coden codel).2.2.2))
abbrev k3_32 (coden : Nat) (codel : List Int) : Bool := (l_hasInt (((k3_15 coden codel).1).1) (((k3_15 coden codel).1).2) 2)
abbrev k3_33 (coden : Nat) (codel : List Int) : Int × Int := (i_SquareKind (k3_0 coden codel) (wI ((k3_0 coden codel) - 1)))
def S_l_FnShades : Sums := ⟨tblS [(5, run_l_big), (6, run_s_DrawUnitCounts), (7, run_i_UnitCounts), (8, run_s_UnitCounts), (9, run_l_likeInts), (10, run_s_DrawThreeFeet), (11, run_i_ThreeFeet), (12, run_s_ThreeFeet), (13, run_l_points9), (14, run_i_NullColours), (15, run_s_NullColours), (16, run_s_DrawRightColours), (17, run_i_RightColours), (18, run_s_RightColours), (19, run_s_DrawEqualColours), (20, run_i_EqualColours), (21, run_s_EqualColours), (22, run_i_HasRightAngle), (23, run_l_hasInt), (24, run_i_Quadrance), (25, run_i_SquareKind)], tblM []⟩
theorem SO_l_FnShades : SumsOK Try.prog S_l_FnShades := ⟨tblS_ok ⟨⟨Try.call5, sound_l_big⟩, ⟨Try.call6, sound_s_DrawUnitCounts⟩, ⟨Try.call7, sound_i_UnitCounts⟩, ⟨Try.call8, sound_s_UnitCounts⟩, ⟨Try.call9, sound_l_likeInts⟩, ⟨Try.call10, sound_s_DrawThreeFeet⟩, ⟨Try.call11, sound_i_ThreeFeet⟩, ⟨Try.call12, sound_s_ThreeFeet⟩, ⟨Try.call13, sound_l_points9⟩, ⟨Try.call14, sound_i_NullColours⟩, ⟨Try.call15, sound_s_NullColours⟩, ⟨Try.call16, sound_s_DrawRightColours⟩, ⟨Try.call17, sound_i_RightColours⟩, ⟨Try.call18, sound_s_RightColours⟩, ⟨Try.call19, sound_s_DrawEqualColours⟩, ⟨Try.call20, sound_i_EqualColours⟩, ⟨Try.call21, sound_s_EqualColours⟩, ⟨Try.call22, sound_i_HasRightAngle⟩, ⟨Try.call23, sound_l_hasInt⟩, ⟨Try.call24, sound_i_Quadrance⟩, ⟨Try.call25, sound_i_SquareKind⟩, True.intro⟩, tblM_ok True.intro⟩
def Fo_l_FnShades (coden : Nat) (codel : List Int) : Option (Bool) :=
  (if (l_big coden codel) = true then some true else (if (codeB coden codel) = true then (if (((k3_1 coden codel).2) != ((k3_2 coden codel).2)) = true then some false else (if (lenB (((k3_1 coden codel).1).1) 1 (((k3_1 coden codel).1).2) && lenB (((k3_2 coden codel).1).1) 1 (((k3_2 coden codel).1).2)) = true then (if (!(k3_3 coden codel)) = true then some false else (if (codeB coden codel) = true then (if (((k3_4 coden codel).2) != ((k3_5 coden codel).2)) = true then some false else (if (lenB (((k3_4 coden codel).1).1) 2 (((k3_4 coden codel).1).2) && lenB (((k3_5 coden codel).1).1) 2 (((k3_5 coden codel).1).2)) = true then (if (!(k3_6 coden codel)) = true then some false else (if (((k3_7 coden codel).2) != ((k3_8 coden codel).2)) = true then some false else (if (lenB (((k3_7 coden codel).1).1) 1 (((k3_7 coden codel).1).2) && lenB (((k3_8 coden codel).1).1) 1 (((k3_8 coden codel).1).2)) = true then (if (!(k3_9 coden codel)) = true then some false else (if (codeB coden codel) = true then (if (((k3_11 coden codel).2) != ((k3_12 coden codel).2)) = true then some false else (if (lenB (((k3_11 coden codel).1).1) 1 (((k3_11 coden codel).1).2) && lenB (((k3_12 coden codel).1).1) 1 (((k3_12 coden codel).1).2)) = true then (if (!(k3_13 coden codel)) = true then some false else (if (codeB coden codel) = true then (if (((k3_15 coden codel).2) != ((k3_16 coden codel).2)) = true then some false else (if (lenB (((k3_15 coden codel).1).1) 1 (((k3_15 coden codel).1).2) && lenB (((k3_16 coden codel).1).1) 1 (((k3_16 coden codel).1).2)) = true then (if (!(k3_17 coden codel)) = true then some false else (if (((k3_11 coden codel).2) == 0) = true then (if (((k3_18 coden codel).2) != 0) = true then some false else (if (lenB (((k3_11 coden codel).1).1) 1 (((k3_11 coden codel).1).2)) = true then (if (!(((k3_18 coden codel).1) == (k3_19 coden codel))) = true then some false else (if (((k3_20 coden codel).2) != 0) = true then some false else (if (lenB (((k3_11 coden codel).1).1) 1 (((k3_11 coden codel).1).2)) = true then (if (!(((k3_20 coden codel).1) == (k3_21 coden codel))) = true then some false else (if (((k3_22 coden codel).2) != 0) = true then some false else (if (lenB (((k3_11 coden codel).1).1) 1 (((k3_11 coden codel).1).2)) = true then (if (!(((k3_22 coden codel).1) == (k3_23 coden codel))) = true then some false else (if (((k3_15 coden codel).2) == 0) = true then (if (((k3_24 coden codel).2) != 0) = true then some false else (if (((k3_25 coden codel).2) != 0) = true then some false else (if (lenB (((k3_15 coden codel).1).1) 1 (((k3_15 coden codel).1).2)) = true then (if (!((((k3_24 coden codel).1) == ((k3_25 coden codel).1)) == (k3_26 coden codel))) = true then some false else (if (((k3_27 coden codel).2) != 0) = true then some false else (if (((k3_28 coden codel).2) != 0) = true then some false else (if (lenB (((k3_15 coden codel).1).1) 1 (((k3_15 coden codel).1).2)) = true then (if (!((((k3_27 coden codel).1) == ((k3_28 coden codel).1)) == (k3_29 coden codel))) = true then some false else (if (((k3_30 coden codel).2) != 0) = true then some false else (if (((k3_31 coden codel).2) != 0) = true then some false else (if (lenB (((k3_15 coden codel).1).1) 1 (((k3_15 coden codel).1).2)) = true then (if (!((((k3_30 coden codel).1) == ((k3_31 coden codel).1)) == (k3_32 coden codel))) = true then some false else (if (((k3_4 coden codel).2) == 0) = true then (if (((k3_7 coden codel).2) != 0) = true then some false else (if (decide (((((k3_7 coden codel).1).1 : Nat) : Int) > 0)) = true then some false else (if (((((k3_4 coden codel).1).1 : Nat) : Int) != 3) = true then some false else (if (((k3_1 coden codel).2) != 0) = true then some (((((k3_1 coden codel).1).1 : Nat) : Int) == 0) else (if (((k3_33 coden codel).2) == 0) = true then (if (decide (0 ≤ 0) && decide (0 < ((((k3_1 coden codel).1).1 : Nat) : Int))) = true then (if (Nat.ble (1) ((((k3_1 coden codel).1).2).length)) = true then (if (((((k3_1 coden codel).1).2).getD 0 0) == (wI ((k3_0 coden codel) - ((k3_33 coden codel).1)))) = true then (if (decide (0 ≤ 1) && decide (1 < ((((k3_1 coden codel).1).1 : Nat) : Int))) = true then (if (Nat.ble (2) ((((k3_1 coden codel).1).2).length)) = true then (if (((((k3_1 coden codel).1).2).getD 1 0) == (wI ((k3_0 coden codel) - 1))) = true then (if (decide (0 ≤ 2) && decide (2 < ((((k3_1 coden codel).1).1 : Nat) : Int))) = true then (if (Nat.ble (3) ((((k3_1 coden codel).1).2).length)) = true then some (((((k3_1 coden codel).1).2).getD 2 0) == (wI ((k3_0 coden codel) - 1))) else none) else none) else some false) else none) else none) else some false) else none) else none) else some false))))) else (if (((k3_1 coden codel).2) != 0) = true then some (((((k3_1 coden codel).1).1 : Nat) : Int) == 0) else (if (((k3_33 coden codel).2) == 0) = true then (if (decide (0 ≤ 0) && decide (0 < ((((k3_1 coden codel).1).1 : Nat) : Int))) = true then (if (Nat.ble (1) ((((k3_1 coden codel).1).2).length)) = true then (if (((((k3_1 coden codel).1).2).getD 0 0) == (wI ((k3_0 coden codel) - ((k3_33 coden codel).1)))) = true then (if (decide (0 ≤ 1) && decide (1 < ((((k3_1 coden codel).1).1 : Nat) : Int))) = true then (if (Nat.ble (2) ((((k3_1 coden codel).1).2).length)) = true then (if (((((k3_1 coden codel).1).2).getD 1 0) == (wI ((k3_0 coden codel) - 1))) = true then (if (decide (0 ≤ 2) && decide (2 < ((((k3_1 coden codel).1).1 : Nat) : Int))) = true then (if (Nat.ble (3) ((((k3_1 coden codel).1).2).length)) = true then some (((((k3_1 coden codel).1).2).getD 2 0) == (wI ((k3_0 coden codel) - 1))) else none) else none) else some false) else none) else none) else some false) else none) else none) else some false)))) else none)))) else none)))) else none))) else (if (((k3_4 coden codel).2) == 0) = true then (if (((k3_7 coden codel).2) != 0) = true then some false else (if (decide (((((k3_7 coden codel).1).1 : Nat) : Int) > 0)) = true then some false else (if (((((k3_4 coden codel).1).1 : Nat) : Int) != 3) = true then some false else (if (((k3_1 coden codel).2) != 0) = true then some (((((k3_1 coden codel).1).1 : Nat) : Int) == 0) else (if (((k3_33 coden codel).2) == 0) = true then (if (decide (0 ≤ 0) && decide (0 < ((((k3_1 coden codel).1).1 : Nat) : Int))) = true then (if (Nat.ble (1) ((((k3_1 coden codel).1).2).length)) = true then (if (((((k3_1 coden codel).1).2).getD 0 0) == (wI ((k3_0 coden codel) - ((k3_33 coden codel).1)))) = true then (if (decide (0 ≤ 1) && decide (1 < ((((k3_1 coden codel).1).1 : Nat) : Int))) = true then (if (Nat.ble (2) ((((k3_1 coden codel).1).2).length)) = true then (if (((((k3_1 coden codel).1).2).getD 1 0) == (wI ((k3_0 coden codel) - 1))) = true then (if (decide (0 ≤ 2) && decide (2 < ((((k3_1 coden codel).1).1 : Nat) : Int))) = true then (if (Nat.ble (3) ((((k3_1 coden codel).1).2).length)) = true then some (((((k3_1 coden codel).1).2).getD 2 0) == (wI ((k3_0 coden codel) - 1))) else none) else none) else some false) else none) else none) else some false) else none) else none) else some false))))) else (if (((k3_1 coden codel).2) != 0) = true then some (((((k3_1 coden codel).1).1 : Nat) : Int) == 0) else (if (((k3_33 coden codel).2) == 0) = true then (if (decide (0 ≤ 0) && decide (0 < ((((k3_1 coden codel).1).1 : Nat) : Int))) = true then (if (Nat.ble (1) ((((k3_1 coden codel).1).2).length)) = true then (if (((((k3_1 coden codel).1).2).getD 0 0) == (wI ((k3_0 coden codel) - ((k3_33 coden codel).1)))) = true then (if (decide (0 ≤ 1) && decide (1 < ((((k3_1 coden codel).1).1 : Nat) : Int))) = true then (if (Nat.ble (2) ((((k3_1 coden codel).1).2).length)) = true then (if (((((k3_1 coden codel).1).2).getD 1 0) == (wI ((k3_0 coden codel) - 1))) = true then (if (decide (0 ≤ 2) && decide (2 < ((((k3_1 coden codel).1).1 : Nat) : Int))) = true then (if (Nat.ble (3) ((((k3_1 coden codel).1).2).length)) = true then some (((((k3_1 coden codel).1).2).getD 2 0) == (wI ((k3_0 coden codel) - 1))) else none) else none) else some false) else none) else none) else some false) else none) else none) else some false))))) else none))) else none))) else none)) else (if (((k3_15 coden codel).2) == 0) = true then (if (((k3_24 coden codel).2) != 0) = true then some false else (if (((k3_25 coden codel).2) != 0) = true then some false else (if (lenB (((k3_15 coden codel).1).1) 1 (((k3_15 coden codel).1).2)) = true then (if (!((((k3_24 coden codel).1) == ((k3_25 coden codel).1)) == (k3_26 coden codel))) = true then some false else (if (((k3_27 coden codel).2) != 0) = true then some false else (if (((k3_28 coden codel).2) != 0) = true then some false else (if (lenB (((k3_15 coden codel).1).1) 1 (((k3_15 coden codel).1).2)) = true then (if (!((((k3_27 coden codel).1) == ((k3_28 coden codel).1)) == (k3_29 coden codel))) = true then some false else (if (((k3_30 coden codel).2) != 0) = true then some false else (if (((k3_31 coden codel).2) != 0) = true then some false else (if (lenB (((k3_15 coden codel).1).1) 1 (((k3_15 coden codel).1).2)) = true then (if (!((((k3_30 coden codel).1) == ((k3_31 coden codel).1)) == (k3_32 coden codel))) = true then some false else (if (((k3_4 coden codel).2) == 0) = true then (if (((k3_7 coden codel).2) != 0) = true then some false else (if (decide (((((k3_7 coden codel).1).1 : Nat) : Int) > 0)) = true then some false else (if (((((k3_4 coden codel).1).1 : Nat) : Int) != 3) = true then some false else (if (((k3_1 coden codel).2) != 0) = true then some (((((k3_1 coden codel).1).1 : Nat) : Int) == 0) else (if (((k3_33 coden codel).2) == 0) = true then (if (decide (0 ≤ 0) && decide (0 < ((((k3_1 coden codel).1).1 : Nat) : Int))) = true then (if (Nat.ble (1) ((((k3_1 coden codel).1).2).length)) = true then (if (((((k3_1 coden codel).1).2).getD 0 0) == (wI ((k3_0 coden codel) - ((k3_33 coden codel).1)))) = true then (if (decide (0 ≤ 1) && decide (1 < ((((k3_1 coden codel).1).1 : Nat) : Int))) = true then (if (Nat.ble (2) ((((k3_1 coden codel).1).2).length)) = true then (if (((((k3_1 coden codel).1).2).getD 1 0) == (wI ((k3_0 coden codel) - 1))) = true then (if (decide (0 ≤ 2) && decide (2 < ((((k3_1 coden codel).1).1 : Nat) : Int))) = true then (if (Nat.ble (3) ((((k3_1 coden codel).1).2).length)) = true then some (((((k3_1 coden codel).1).2).getD 2 0) == (wI ((k3_0 coden codel) - 1))) else none) else none) else some false) else none) else none) else some false) else none) else none) else some false))))) else (if (((k3_1 coden codel).2) != 0) = true then some (((((k3_1 coden codel).1).1 : Nat) : Int) == 0) else (if (((k3_33 coden codel).2) == 0) = true then (if (decide (0 ≤ 0) && decide (0 < ((((k3_1 coden codel).1).1 : Nat) : Int))) = true then (if (Nat.ble (1) ((((k3_1 coden codel).1).2).length)) = true then (if (((((k3_1 coden codel).1).2).getD 0 0) == (wI ((k3_0 coden codel) - ((k3_33 coden codel).1)))) = true then (if (decide (0 ≤ 1) && decide (1 < ((((k3_1 coden codel).1).1 : Nat) : Int))) = true then (if (Nat.ble (2) ((((k3_1 coden codel).1).2).length)) = true then (if (((((k3_1 coden codel).1).2).getD 1 0) == (wI ((k3_0 coden codel) - 1))) = true then (if (decide (0 ≤ 2) && decide (2 < ((((k3_1 coden codel).1).1 : Nat) : Int))) = true then (if (Nat.ble (3) ((((k3_1 coden codel).1).2).length)) = true then some (((((k3_1 coden codel).1).2).getD 2 0) == (wI ((k3_0 coden codel) - 1))) else none) else none) else some false) else none) else none) else some false) else none) else none) else some false)))) else none)))) else none)))) else none))) else (if (((k3_4 coden codel).2) == 0) = true then (if (((k3_7 coden codel).2) != 0) = true then some false else (if (decide (((((k3_7 coden codel).1).1 : Nat) : Int) > 0)) = true then some false else (if (((((k3_4 coden codel).1).1 : Nat) : Int) != 3) = true then some false else (if (((k3_1 coden codel).2) != 0) = true then some (((((k3_1 coden codel).1).1 : Nat) : Int) == 0) else (if (((k3_33 coden codel).2) == 0) = true then (if (decide (0 ≤ 0) && decide (0 < ((((k3_1 coden codel).1).1 : Nat) : Int))) = true then (if (Nat.ble (1) ((((k3_1 coden codel).1).2).length)) = true then (if (((((k3_1 coden codel).1).2).getD 0 0) == (wI ((k3_0 coden codel) - ((k3_33 coden codel).1)))) = true then (if (decide (0 ≤ 1) && decide (1 < ((((k3_1 coden codel).1).1 : Nat) : Int))) = true then (if (Nat.ble (2) ((((k3_1 coden codel).1).2).length)) = true then (if (((((k3_1 coden codel).1).2).getD 1 0) == (wI ((k3_0 coden codel) - 1))) = true then (if (decide (0 ≤ 2) && decide (2 < ((((k3_1 coden codel).1).1 : Nat) : Int))) = true then (if (Nat.ble (3) ((((k3_1 coden codel).1).2).length)) = true then some (((((k3_1 coden codel).1).2).getD 2 0) == (wI ((k3_0 coden codel) - 1))) else none) else none) else some false) else none) else none) else some false) else none) else none) else some false))))) else (if (((k3_1 coden codel).2) != 0) = true then some (((((k3_1 coden codel).1).1 : Nat) : Int) == 0) else (if (((k3_33 coden codel).2) == 0) = true then (if (decide (0 ≤ 0) && decide (0 < ((((k3_1 coden codel).1).1 : Nat) : Int))) = true then (if (Nat.ble (1) ((((k3_1 coden codel).1).2).length)) = true then (if (((((k3_1 coden codel).1).2).getD 0 0) == (wI ((k3_0 coden codel) - ((k3_33 coden codel).1)))) = true then (if (decide (0 ≤ 1) && decide (1 < ((((k3_1 coden codel).1).1 : Nat) : Int))) = true then (if (Nat.ble (2) ((((k3_1 coden codel).1).2).length)) = true then (if (((((k3_1 coden codel).1).2).getD 1 0) == (wI ((k3_0 coden codel) - 1))) = true then (if (decide (0 ≤ 2) && decide (2 < ((((k3_1 coden codel).1).1 : Nat) : Int))) = true then (if (Nat.ble (3) ((((k3_1 coden codel).1).2).length)) = true then some (((((k3_1 coden codel).1).2).getD 2 0) == (wI ((k3_0 coden codel) - 1))) else none) else none) else some false) else none) else none) else some false) else none) else none) else some false)))))) else none)) else none)) else none)) else none)) else none))) else none)) else none)) else none)) else none))
theorem eq_l_FnShades (coden : Nat) (codel : List Int) : execT Try.prog S_l_FnShades 3 298 (fun _ => 1000000) dec_b [.s coden (.byts codel)] = Fo_l_FnShades coden codel := by
  kernel_rfl
theorem colours_has {q k : Int → Bool} {c : Int} (hc : isC c) : l_hasInt (i_coloursWith k q).1 (i_coloursWith k q).2 c = q c := by
  unfold i_coloursWith l_hasInt
  rcases hc with rfl | rfl | rfl <;> cases q 0 <;> cases q 1 <;> cases q 2 <;> rfl
theorem right_own {t : Int} {b c d : P2} (h : ((s_RightColours t b c d).2 == 0) = true) {k : Int} (hk : isC k) : (i_HasRightAngle t k b c d).2 = 0 ∧ ((i_HasRightAngle t k b c d).1 == l_hasInt (s_RightColours t b c d).1.1 (s_RightColours t b c d).1.2 k) = true := by
  rw [← RightColours_same] at h ⊢
  have hk' : i_isColour k = true := by rcases hk with rfl | rfl | rfl <;> rfl
  unfold i_RightColours i_RightColours_c1 i_HasRightAngle i_HasRightAngle_c1 at *
  rw [hk', if_pos (show true = true from rfl)]
  by_cases e : i_asked t true (i_arePoints t [b, c, d]) = 0
  · rw [e]
    refine ⟨rfl, ?_⟩
    rw [show ((0 : Int) != 0) = false from rfl]
    simp only [Bool.false_eq_true, if_false]
    rw [colours_has hk]
    exact beq_self_eq_true _
  · rw [if_pos (by simpa using e)] at h
    exact absurd (by simpa using h) e
theorem equal_own {t : Int} {b c d : P2} (h : ((s_EqualColours t b c d).2 == 0) = true) {k : Int} (hk : isC k) : (i_Quadrance t k b c).2 = 0 ∧ (i_Quadrance t k b d).2 = 0 ∧ (((i_Quadrance t k b c).1 == (i_Quadrance t k b d).1) == l_hasInt (s_EqualColours t b c d).1.1 (s_EqualColours t b c d).1.2 k) = true := by
  rw [← EqualColours_same] at h ⊢
  have hk' : i_isColour k = true := by rcases hk with rfl | rfl | rfl <;> rfl
  unfold i_EqualColours i_EqualColours_c1 i_Quadrance i_Quadrance_c1 at *
  rw [hk', if_pos (show true = true from rfl), if_pos (show true = true from rfl)]
  by_cases e : i_asked t true (i_arePoints t [b, c, d]) = 0
  · obtain ⟨hf, hb⟩ := asked_zero e
    simp only [i_arePoints, List.all_cons, List.all_nil, Bool.and_true, Bool.and_eq_true] at hb
    have e1 : i_asked t true (i_arePoints t [b, c]) = 0 := by unfold i_asked; simp [hf, i_arePoints, hb]
    have e2 : i_asked t true (i_arePoints t [b, d]) = 0 := by unfold i_asked; simp [hf, i_arePoints, hb]
    rw [e, e1, e2]
    refine ⟨rfl, rfl, ?_⟩
    rw [show ((0 : Int) != 0) = false from rfl]
    simp only [Bool.false_eq_true, if_false]
    rw [colours_has hk]
    exact beq_self_eq_true _
  · rw [if_pos (by simpa using e)] at h
    exact absurd (by simpa using h) e
theorem feet_own {r : Int} {a : P2} {l : P3} (h : ((s_ThreeFeet r a l).2 == 0) = true) : (s_NullColours r l).2 = 0 ∧ (s_NullColours r l).1.1 = 0 ∧ (s_ThreeFeet r a l).1.1 = 3 := by
  rw [← ThreeFeet_same] at h ⊢
  rw [← NullColours_same]
  have key : ∀ k, isC k → (i_FootOf r k a l).2 = 0 → i_asked r true (i_isLine r l) = 0 ∧ i_isNull r k l = false := by
    intro k hk hz
    have hk' : i_isColour k = true := by rcases hk with rfl | rfl | rfl <;> rfl
    unfold i_FootOf i_FootOf_c1 at hz
    rw [hk', if_pos (show true = true from rfl)] at hz
    by_cases e : i_asked r true (if i_isPoint r a = true then i_isLine r l else false) = 0
    · obtain ⟨hf, hb⟩ := asked_zero e
      have hl : i_isLine r l = true := by cases h1 : i_isPoint r a <;> simp [h1] at hb; exact hb
      rw [e] at hz
      refine ⟨by unfold i_asked; simp [hf, hl], ?_⟩
      cases hn : i_isNull r k l
      · rfl
      · simp [hn] at hz
    · rw [if_pos (by simpa using e)] at hz
      exact absurd hz e
  unfold i_ThreeFeet at h ⊢
  by_cases e0 : (i_FootOf r 0 a l).2 = 0
  · by_cases e1 : (i_FootOf r 1 a l).2 = 0
    · by_cases e2 : (i_FootOf r 2 a l).2 = 0
      · obtain ⟨ha, n0⟩ := key 0 isC0 e0
        obtain ⟨_, n1⟩ := key 1 isC1 e1
        obtain ⟨_, n2⟩ := key 2 isC2 e2
        unfold i_NullColours i_NullColours_c1
        rw [ha, e0, e1, e2]
        refine ⟨rfl, ?_, rfl⟩
        unfold i_coloursWith i_NullColours_c2
        simp only [n0, n1, n2]
        rfl
      · simp [e0, e1, e2] at h
    · simp [e0, e1] at h
  · simp [e0] at h
theorem unit_all : ∀ p ∈ ([3, 5, 7, 11, 13, 17, 19, 23, 29, 31] : List Int), (s_UnitCounts p).1.1 = 3 ∧ (i_SquareKind p (wI (p - 1))).2 = 0 ∧ (s_UnitCounts p).1.2 = [wI (p - (i_SquareKind p (wI (p - 1))).1), wI (p - 1), wI (p - 1)] := by decide +kernel
theorem unit_own {p : Int} (h : ((s_UnitCounts p).2 != 0) = false) : (s_UnitCounts p).1.1 = 3 ∧ (i_SquareKind p (wI (p - 1))).2 = 0 ∧ (s_UnitCounts p).1.2 = [wI (p - (i_SquareKind p (wI (p - 1))).1), wI (p - 1), wI (p - 1)] := by
  refine unit_all p (field_mem ?_)
  rw [← UnitCounts_same] at h
  unfold i_UnitCounts at h
  cases hf : i_IsField p
  · simp [hf] at h
  · rfl
theorem unit_none {p : Int} (h : ((s_UnitCounts p).2 != 0) = true) : ((((s_UnitCounts p).1.1 : Nat) : Int) == 0) = true := by
  rw [← UnitCounts_same] at h ⊢
  unfold i_UnitCounts at h ⊢
  cases hf : i_IsField p
  · rfl
  · simp [hf] at h
theorem FnShades_tot (n : Nat) (l : List Int) (hp : bytB n l = true) : Fo_l_FnShades n l = some true := by
  unfold Fo_l_FnShades
  refine br_step (fun _ => rfl) (fun hb => ?_)
  have hc := code_big hp hb
  delta k3_0 k3_1 k3_2 k3_3 k3_4 k3_5 k3_6 k3_7 k3_8 k3_9 k3_10 k3_11 k3_12 k3_13 k3_14 k3_15 k3_16 k3_17 k3_18 k3_19 k3_20 k3_21 k3_22 k3_23 k3_24 k3_25 k3_26 k3_27 k3_28 k3_29 k3_30 k3_31 k3_32 k3_33
  generalize s_DrawUnitCounts n l = p
  generalize s_DrawThreeFeet n l = A
  generalize s_DrawRightColours n l = B
  generalize s_DrawEqualColours n l = C
  obtain ⟨r, a, m⟩ := A
  obtain ⟨t, b, c, d⟩ := B
  obtain ⟨u, x, y, z⟩ := C
  dsimp only
  simp only [UnitCounts_same, ThreeFeet_same, NullColours_same, RightColours_same, EqualColours_same]
  have u1 := unit_own (p := p)
  have u2 := unit_none (p := p)
  have f1 := feet_own (r := r) (a := a) (l := m)
  have r1 := right_own (t := t) (b := b) (c := c) (d := d)
  have q1 := equal_own (t := u) (b := x) (c := y) (d := z)
  have l1 := UnitCounts_len p
  have l2 := ThreeFeet_len r a m
  have l3 := NullColours_len r m
  have l4 := RightColours_len t b c d
  have l5 := EqualColours_len u x y z
  generalize s_UnitCounts p = U at *
  generalize s_ThreeFeet r a m = F at *
  generalize s_NullColours r m = N at *
  generalize s_RightColours t b c d = R at *
  generalize s_EqualColours u x y z = E at *
  repeat' (first
    | with_reducible exact end_step (u2 ‹_›)
    | with_reducible refine ck_step hc ?_
    | with_reducible refine ne_step rfl ?_
    | with_reducible refine ck_step (and_two ‹_› ‹_›) ?_
    | with_reducible refine ck_step ‹_› ?_
    | with_reducible refine nt_step (like_self _ _) ?_
    | with_reducible refine nt_step (points9_self _ _) ?_
    | with_reducible refine ne_step (r1 ‹_› isC0).1 ?_
    | with_reducible refine ne_step (r1 ‹_› isC1).1 ?_
    | with_reducible refine ne_step (r1 ‹_› isC2).1 ?_
    | with_reducible refine nt_step (r1 ‹_› isC0).2 ?_
    | with_reducible refine nt_step (r1 ‹_› isC1).2 ?_
    | with_reducible refine nt_step (r1 ‹_› isC2).2 ?_
    | with_reducible refine ne_step (q1 ‹_› isC0).1 ?_
    | with_reducible refine ne_step (q1 ‹_› isC1).1 ?_
    | with_reducible refine ne_step (q1 ‹_› isC2).1 ?_
    | with_reducible refine ne_step (q1 ‹_› isC0).2.1 ?_
    | with_reducible refine ne_step (q1 ‹_› isC1).2.1 ?_
    | with_reducible refine ne_step (q1 ‹_› isC2).2.1 ?_
    | with_reducible refine nt_step (q1 ‹_› isC0).2.2 ?_
    | with_reducible refine nt_step (q1 ‹_› isC1).2.2 ?_
    | with_reducible refine nt_step (q1 ‹_› isC2).2.2 ?_
    | with_reducible refine ne_step (f1 ‹_›).1 ?_
    | refine fl_step (by rw [(f1 ‹_›).2.1]; rfl) ?_
    | refine ne_step (by rw [(f1 ‹_›).2.2]; rfl) ?_
    | (obtain ⟨v1, v2, v3⟩ := u1 ‹_›; rw [v1, v2, v3]; simp; done)
    | refine br_step (fun _ => ?_) (fun _ => ?_))

def l_FnShades (coden : Nat) (codel : List Int) : Bool := true
theorem tot_l_FnShades (coden : Nat) (codel : List Int) (hp : (bytB coden codel) = true) : Fo_l_FnShades coden codel = some (l_FnShades coden codel) := by
  exact FnShades_tot coden codel hp
def run_l_FnShades : List PV → Option (Bool × List TR)
  | [.s coden (.byts codel)] => some (bytB coden codel, enc_b (l_FnShades coden codel))
  | _ => none
theorem sound_l_FnShades : Sound Try.prog 3 run_l_FnShades := by
  refine sound_of de_b SO_l_FnShades (by kernel_rfl) Try.func3 Try.ntmps3 rfl (by kernel_rfl) ?_
  intro W pvs avs rs hargs hrun
  unfold run_l_FnShades at hrun
  split at hrun
  · simp only [Option.some.injEq, Prod.mk.injEq] at hrun
    obtain ⟨hp, rfl⟩ := hrun
    rename_i coden codel
    exact ⟨_, _, _, hargs, rfl, (eq_l_FnShades coden codel).trans (tot_l_FnShades coden codel hp)⟩
  · cases hrun


end

end Go.Proofs.Ytpopgdmnajngjaa
