import Derived.Test.YtcdpfpfbilfpoaaGreatDoorQg
import Derived.Test.YtcdpfpfbilfpoaaGreatDoorProg
set_option linter.unusedSimpArgs false
set_option linter.unusedVariables false
namespace Go.Proofs.YtcdpfpfbilfpoaaGreatDoor
open Go.RowKit Tryz
noncomputable section
def S_l_FnExactConsole : Sums := ⟨tblS [(7, run_s_Console), (8, run_i_Console)], tblM [], false⟩
theorem SO_l_FnExactConsole : SumsOK prog S_l_FnExactConsole := ⟨tblS_ok ⟨⟨call7, sound_s_Console⟩, ⟨call8, sound_i_Console⟩, ⟨⟩⟩, tM⟩
def Fo_l_FnExactConsole (aText : ByteArray) : Option (Bool) :=
 (if (decide (((aText.size : Nat) : Int) > 1048576)) = true then some true else (if (ok_s_Console aText) = true then (if (ok_i_Console aText) = true then (if (!(eqS (i_Console aText) (s_Console aText))) = true then some false else some true) else none) else none))
theorem eq_l_FnExactConsole (aText : ByteArray) : eT S_l_FnExactConsole 3 15 dec_b [.v (.string aText)] = Fo_l_FnExactConsole aText := by
 kernel_rfl
theorem Console_tot (aText : ByteArray) : Fo_l_FnExactConsole aText = some true := by
 unfold Fo_l_FnExactConsole
 by_cases hz : ((aText.size : Nat) : Int) > 1048576
 ·rw [if_pos (by simpa using hz)]
 ·obtain ⟨r, e1, e2⟩ := all_same aText (by omega)
  have c1 : Fo_s_Console aText = some r.2.1 := by
   unfold Fo_s_Console
   rw [if_pos (ok_s_l11All_of e1), s_l11All_of e1]
  have c2 : Fo_i_Console aText = some r.2.1 := by
   unfold Fo_i_Console
   rw [if_pos (ok_i_console_of e2), i_console_of e2]
  rw [if_neg (by simpa using hz), if_pos (ok_s_Console_of c1), if_pos (ok_i_Console_of c2), if_neg (by rw [i_Console_of c2, s_Console_of c1, eqS_iff.2 rfl]; decide)]

def l_FnExactConsole (aText : ByteArray) : Bool := true
theorem tot_l_FnExactConsole (aText : ByteArray) : Fo_l_FnExactConsole aText = some (l_FnExactConsole aText) := by
 exact Console_tot aText
def run_l_FnExactConsole : RunP
 | [.v (.string aText)] => some (true, enc_b (l_FnExactConsole aText))
 | _ => none
theorem sound_l_FnExactConsole : Sound prog 3 run_l_FnExactConsole := by
 refine sound_1 de_b SO_l_FnExactConsole (by kernel_rfl) func3 ntmps3 rfl (by kernel_rfl) fun q r E => ?_
 unfold run_l_FnExactConsole at E
 split at E
 ·obtain ⟨hp, rfl⟩ := so2 E
  rename_i aText
  exact ⟨_, _, rfl, (eq_l_FnExactConsole aText).trans (tot_l_FnExactConsole aText)⟩
 ·cases E

end

end Go.Proofs.YtcdpfpfbilfpoaaGreatDoor
