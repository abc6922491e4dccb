import Derived.Test.YtcdpfpfbilfpoaaGreatDoorQg
import Derived.Test.YtcdpfpfbilfpoaaGreatDoorProg
set_option linter.unusedSimpArgs false
set_option linter.unusedVariables false
namespace Go.Proofs.YtcdpfpfbilfpoaaGreatDoor
open Go.RowKit Tryz
noncomputable section
def S_l_eqPoint : Sums := ⟨tblS [], tblM [], false⟩
theorem SO_l_eqPoint : SumsOK prog S_l_eqPoint := ⟨tblS_ok ⟨⟩, tM⟩
def Fo_l_eqPoint (a b : P2) : Option (Bool) :=
 (if (a.1 != b.1) = true then some false else (if (a.2 != b.2) = true then some false else some true))
theorem eq_l_eqPoint (a b : P2) : eT S_l_eqPoint 45 17 dec_b [pA a, pA b] = Fo_l_eqPoint a b := by
 kernel_rfl
def l_eqPoint (a b : P2) : Bool :=
 (if (a.1 != b.1) = true then false else (if (a.2 != b.2) = true then false else true))
theorem tot_l_eqPoint (a b : P2) : Fo_l_eqPoint a b = some (l_eqPoint a b) := by
 unfold Fo_l_eqPoint l_eqPoint
 (try simp only [wI_eq])
 repeat' (first | with_reducible rfl | refine ite_opt (fun _ => ?_) (fun _ => ?_) | rfl)
def run_l_eqPoint : RunP
 | [.v (.agg ⟨[.int .i64 a0, .int .i64 a1]⟩), .v (.agg ⟨[.int .i64 b0, .int .i64 b1]⟩)] => some (true, enc_b (l_eqPoint (a0, a1) (b0, b1)))
 | _ => none
theorem sound_l_eqPoint : Sound prog 45 run_l_eqPoint := by
 refine sound_1 de_b SO_l_eqPoint (by kernel_rfl) func45 ntmps45 rfl (by kernel_rfl) fun q r E => ?_
 unfold run_l_eqPoint at E
 split at E
 ·obtain ⟨hp, rfl⟩ := so2 E
  rename_i a0 a1 b0 b1
  exact ⟨_, _, rfl, (eq_l_eqPoint (a0, a1) (b0, b1)).trans (tot_l_eqPoint (a0, a1) (b0, b1))⟩
 ·cases E

def S_l_eqPointA3 : Sums := ⟨tblS [(45, run_l_eqPoint)], tblM [], false⟩
theorem SO_l_eqPointA3 : SumsOK prog S_l_eqPointA3 := ⟨tblS_ok ⟨⟨call45, sound_l_eqPoint⟩, ⟨⟩⟩, tM⟩
def Fo_l_eqPointA3 (a b : Int × Int × Int × Int × Int × Int) : Option (Bool) :=
 (if (!(l_eqPoint (a.1, a.2.1) (b.1, b.2.1))) = true then some false else (if (!(l_eqPoint (a.2.2.1, a.2.2.2.1) (b.2.2.1, b.2.2.2.1))) = true then some false else (if (!(l_eqPoint a.2.2.2.2 b.2.2.2.2)) = true then some false else some true)))
theorem eq_l_eqPointA3 (a b : Int × Int × Int × Int × Int × Int) : eT S_l_eqPointA3 24 18 dec_b [.v (.agg ⟨[.int .i64 a.1, .int .i64 a.2.1, .int .i64 a.2.2.1, .int .i64 a.2.2.2.1, .int .i64 a.2.2.2.2.1, .int .i64 a.2.2.2.2.2]⟩), .v (.agg ⟨[.int .i64 b.1, .int .i64 b.2.1, .int .i64 b.2.2.1, .int .i64 b.2.2.2.1, .int .i64 b.2.2.2.2.1, .int .i64 b.2.2.2.2.2]⟩)] = Fo_l_eqPointA3 a b := by
 kernel_rfl
def l_eqPointA3 (a b : Int × Int × Int × Int × Int × Int) : Bool :=
 (if (!(l_eqPoint (a.1, a.2.1) (b.1, b.2.1))) = true then false else (if (!(l_eqPoint (a.2.2.1, a.2.2.2.1) (b.2.2.1, b.2.2.2.1))) = true then false else (if (!(l_eqPoint a.2.2.2.2 b.2.2.2.2)) = true then false else true)))
theorem tot_l_eqPointA3 (a b : Int × Int × Int × Int × Int × Int) : Fo_l_eqPointA3 a b = some (l_eqPointA3 a b) := by
 unfold Fo_l_eqPointA3 l_eqPointA3
 (try simp only [wI_eq])
 repeat' (first | with_reducible rfl | refine ite_opt (fun _ => ?_) (fun _ => ?_) | rfl)
def run_l_eqPointA3 : RunP
 | [.v (.agg ⟨[.int .i64 a0, .int .i64 a1, .int .i64 a2, .int .i64 a3, .int .i64 a4, .int .i64 a5]⟩), .v (.agg ⟨[.int .i64 b0, .int .i64 b1, .int .i64 b2, .int .i64 b3, .int .i64 b4, .int .i64 b5]⟩)] => some (true, enc_b (l_eqPointA3 (a0, a1, a2, a3, a4, a5) (b0, b1, b2, b3, b4, b5)))
 | _ => none
theorem sound_l_eqPointA3 : Sound prog 24 run_l_eqPointA3 := by
 refine sound_1 de_b SO_l_eqPointA3 (by kernel_rfl) func24 ntmps24 rfl (by kernel_rfl) fun q r E => ?_
 unfold run_l_eqPointA3 at E
 split at E
 ·obtain ⟨hp, rfl⟩ := so2 E
  rename_i a0 a1 a2 a3 a4 a5 b0 b1 b2 b3 b4 b5
  exact ⟨_, _, rfl, (eq_l_eqPointA3 (a0, a1, a2, a3, a4, a5) (b0, b1, b2, b3, b4, b5)).trans (tot_l_eqPointA3 (a0, a1, a2, a3, a4, a5) (b0, b1, b2, b3, b4, b5))⟩
 ·cases E

def S_l_eqDesk : Sums := ⟨tblS [(24, run_l_eqPointA3)], tblM [], false⟩
theorem SO_l_eqDesk : SumsOK prog S_l_eqDesk := ⟨tblS_ok ⟨⟨call24, sound_l_eqPointA3⟩, ⟨⟩⟩, tM⟩
def Fo_l_eqDesk (a b : D8i) : Option (Bool) :=
 (if (a.1 != b.1) = true then some false else (if (a.2.1 != b.2.1) = true then some false else (if (!(l_eqPointA3 a.2.2 b.2.2)) = true then some false else some true)))
theorem eq_l_eqDesk (a b : D8i) : eT S_l_eqDesk 11 21 dec_b [.v (.agg ⟨[.int .i64 a.1, .int .i64 a.2.1, .int .i64 a.2.2.1, .int .i64 a.2.2.2.1, .int .i64 a.2.2.2.2.1, .int .i64 a.2.2.2.2.2.1, .int .i64 a.2.2.2.2.2.2.1, .int .i64 a.2.2.2.2.2.2.2]⟩), .v (.agg ⟨[.int .i64 b.1, .int .i64 b.2.1, .int .i64 b.2.2.1, .int .i64 b.2.2.2.1, .int .i64 b.2.2.2.2.1, .int .i64 b.2.2.2.2.2.1, .int .i64 b.2.2.2.2.2.2.1, .int .i64 b.2.2.2.2.2.2.2]⟩)] = Fo_l_eqDesk a b := by
 kernel_rfl
def l_eqDesk (a b : D8i) : Bool :=
 (if (a.1 != b.1) = true then false else (if (a.2.1 != b.2.1) = true then false else (if (!(l_eqPointA3 a.2.2 b.2.2)) = true then false else true)))
theorem tot_l_eqDesk (a b : D8i) : Fo_l_eqDesk a b = some (l_eqDesk a b) := by
 unfold Fo_l_eqDesk l_eqDesk
 (try simp only [wI_eq])
 repeat' (first | with_reducible rfl | refine ite_opt (fun _ => ?_) (fun _ => ?_) | rfl)
def run_l_eqDesk : RunP
 | [.v (.agg ⟨[.int .i64 a0, .int .i64 a1, .int .i64 a2, .int .i64 a3, .int .i64 a4, .int .i64 a5, .int .i64 a6, .int .i64 a7]⟩), .v (.agg ⟨[.int .i64 b0, .int .i64 b1, .int .i64 b2, .int .i64 b3, .int .i64 b4, .int .i64 b5, .int .i64 b6, .int .i64 b7]⟩)] => some (true, enc_b (l_eqDesk (a0, a1, a2, a3, a4, a5, a6, a7) (b0, b1, b2, b3, b4, b5, b6, b7)))
 | _ => none
theorem sound_l_eqDesk : Sound prog 11 run_l_eqDesk := by
 refine sound_1 de_b SO_l_eqDesk (by kernel_rfl) func11 ntmps11 rfl (by kernel_rfl) fun q r E => ?_
 unfold run_l_eqDesk at E
 split at E
 ·obtain ⟨hp, rfl⟩ := so2 E
  rename_i a0 a1 a2 a3 a4 a5 a6 a7 b0 b1 b2 b3 b4 b5 b6 b7
  exact ⟨_, _, rfl, (eq_l_eqDesk (a0, a1, a2, a3, a4, a5, a6, a7) (b0, b1, b2, b3, b4, b5, b6, b7)).trans (tot_l_eqDesk (a0, a1, a2, a3, a4, a5, a6, a7) (b0, b1, b2, b3, b4, b5, b6, b7))⟩
 ·cases E

def S_l_FnExactDeskAfter : Sums := ⟨tblS [(9, run_s_DeskAfter), (10, run_i_DeskAfter), (11, run_l_eqDesk)], tblM [], false⟩
theorem SO_l_FnExactDeskAfter : SumsOK prog S_l_FnExactDeskAfter := ⟨tblS_ok ⟨⟨call9, sound_s_DeskAfter⟩, ⟨call10, sound_i_DeskAfter⟩, ⟨call11, sound_l_eqDesk⟩, ⟨⟩⟩, tM⟩
def Fo_l_FnExactDeskAfter (aText : ByteArray) : Option (Bool) :=
 (if (decide (((aText.size : Nat) : Int) > 1048576)) = true then some true else (if (ok_s_DeskAfter aText) = true then (if (ok_i_DeskAfter aText) = true then (if (!(l_eqDesk ((i_DeskAfter aText).1) ((s_DeskAfter aText).1))) = true then some false else (if (!(((i_DeskAfter aText).2) == ((s_DeskAfter aText).2))) = true then some false else some true)) else none) else none))
theorem eq_l_FnExactDeskAfter (aText : ByteArray) : eT S_l_FnExactDeskAfter 4 29 dec_b [.v (.string aText)] = Fo_l_FnExactDeskAfter aText := by
 kernel_rfl
theorem desk_self2 (d : Dk) : l_eqDesk d d = true := by
 obtain ⟨p, c, a1, a2, b1, b2, d1, d2⟩ := d
 simp [l_eqDesk, l_eqPointA3, l_eqPoint]
theorem DeskAfter_tot (aText : ByteArray) : Fo_l_FnExactDeskAfter aText = some true := by
 unfold Fo_l_FnExactDeskAfter
 by_cases hz : ((aText.size : Nat) : Int) > 1048576
 ·rw [if_pos (by simpa using hz)]
 ·obtain ⟨r, e1, e2⟩ := all_same aText (by omega)
  have c1 : Fo_s_DeskAfter aText = some (r.1, r.2.2) := by
   unfold Fo_s_DeskAfter
   rw [if_pos (ok_s_l11All_of e1), s_l11All_of e1]
  have c2 : Fo_i_DeskAfter aText = some (r.1, r.2.2) := by
   unfold Fo_i_DeskAfter
   rw [if_pos (ok_i_console_of e2), i_console_of e2]
  rw [if_neg (by simpa using hz), if_pos (ok_s_DeskAfter_of c1), if_pos (ok_i_DeskAfter_of c2), if_neg (by rw [i_DeskAfter_of c2, s_DeskAfter_of c1, desk_self2]; decide), if_neg (by rw [i_DeskAfter_of c2, s_DeskAfter_of c1, beq_self_eq_true]; decide)]

def l_FnExactDeskAfter (aText : ByteArray) : Bool := true
theorem tot_l_FnExactDeskAfter (aText : ByteArray) : Fo_l_FnExactDeskAfter aText = some (l_FnExactDeskAfter aText) := by
 exact DeskAfter_tot aText
def run_l_FnExactDeskAfter : RunP
 | [.v (.string aText)] => some (true, enc_b (l_FnExactDeskAfter aText))
 | _ => none
theorem sound_l_FnExactDeskAfter : Sound prog 4 run_l_FnExactDeskAfter := by
 refine sound_1 de_b SO_l_FnExactDeskAfter (by kernel_rfl) func4 ntmps4 rfl (by kernel_rfl) fun q r E => ?_
 unfold run_l_FnExactDeskAfter at E
 split at E
 ·obtain ⟨hp, rfl⟩ := so2 E
  rename_i aText
  exact ⟨_, _, rfl, (eq_l_FnExactDeskAfter aText).trans (tot_l_FnExactDeskAfter aText)⟩
 ·cases E

end

end Go.Proofs.YtcdpfpfbilfpoaaGreatDoor
