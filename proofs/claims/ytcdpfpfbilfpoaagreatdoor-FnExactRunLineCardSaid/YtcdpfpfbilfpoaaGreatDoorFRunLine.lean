import Derived.Test.YtcdpfpfbilfpoaaGreatDoorQf
import Derived.Test.YtcdpfpfbilfpoaaGreatDoorProg
set_option linter.unusedSimpArgs false
set_option linter.unusedVariables false
namespace Go.Proofs.YtcdpfpfbilfpoaaGreatDoor
open Go.RowKit
noncomputable section
def S_l_toPoint : Sums := ⟨tblS [], tblM [], false⟩
theorem SO_l_toPoint : SumsOK Tryz.prog S_l_toPoint := ⟨tblS_ok True.intro, tblM_ok True.intro⟩
def Fo_l_toPoint (a : P2) : Option (Int × Int) :=
 some a
theorem eq_l_toPoint (a : P2) : execT Tryz.prog S_l_toPoint 99 15 (fun _ => 1000000) dec_a2 [.v (.agg ⟨[.int .i64 a.1, .int .i64 a.2]⟩)] = Fo_l_toPoint a := by
 kernel_rfl
def l_toPoint (a : P2) : Int × Int :=
 a
theorem tot_l_toPoint (a : P2) : Fo_l_toPoint a = some (l_toPoint a) := by
 unfold Fo_l_toPoint l_toPoint
 (try simp only [wI_eq])
 repeat' (first | with_reducible rfl | refine ite_opt (fun _ => ?_) (fun _ => ?_) | rfl)
def run_l_toPoint : RunP
 | [.v (.agg ⟨[.int .i64 a0, .int .i64 a1]⟩)] => some (true, enc_a2 (l_toPoint (a0, a1)))
 | _ => none
theorem sound_l_toPoint : Sound Tryz.prog 99 run_l_toPoint := by
 refine sound_1 de_a2 SO_l_toPoint (by kernel_rfl) Tryz.func99 Tryz.ntmps99 rfl (by kernel_rfl) fun q r E => ?_
 unfold run_l_toPoint at E
 split at E
 ·obtain ⟨hp, rfl⟩ := so2 E
  rename_i a0 a1
  exact ⟨_, _, rfl, (eq_l_toPoint (a0, a1)).trans (tot_l_toPoint (a0, a1))⟩
 ·cases E

def S_l_toPointA3 : Sums := ⟨tblS [(99, run_l_toPoint)], tblM [], false⟩
theorem SO_l_toPointA3 : SumsOK Tryz.prog S_l_toPointA3 := ⟨tblS_ok ⟨⟨Tryz.call99, sound_l_toPoint⟩, True.intro⟩, tblM_ok True.intro⟩
def Fo_l_toPointA3 (a : Int × Int × Int × Int × Int × Int) : Option (Int × Int × Int × Int × Int × Int) :=
 some ((l_toPoint (a.1, a.2.1)).1, (l_toPoint (a.1, a.2.1)).2, (l_toPoint (a.2.2.1, a.2.2.2.1)).1, (l_toPoint (a.2.2.1, a.2.2.2.1)).2, (l_toPoint a.2.2.2.2).1, (l_toPoint a.2.2.2.2).2)
theorem eq_l_toPointA3 (a : Int × Int × Int × Int × Int × Int) : execT Tryz.prog S_l_toPointA3 41 16 (fun _ => 1000000) dec_a6 [.v (.agg ⟨[.int .i64 a.1, .int .i64 a.2.1, .int .i64 a.2.2.1, .int .i64 a.2.2.2.1, .int .i64 a.2.2.2.2.1, .int .i64 a.2.2.2.2.2]⟩)] = Fo_l_toPointA3 a := by
 kernel_rfl
def l_toPointA3 (a : Int × Int × Int × Int × Int × Int) : Int × Int × Int × Int × Int × Int :=
 ((l_toPoint (a.1, a.2.1)).1, (l_toPoint (a.1, a.2.1)).2, (l_toPoint (a.2.2.1, a.2.2.2.1)).1, (l_toPoint (a.2.2.1, a.2.2.2.1)).2, (l_toPoint a.2.2.2.2).1, (l_toPoint a.2.2.2.2).2)
theorem tot_l_toPointA3 (a : Int × Int × Int × Int × Int × Int) : Fo_l_toPointA3 a = some (l_toPointA3 a) := by
 unfold Fo_l_toPointA3 l_toPointA3
 (try simp only [wI_eq])
 repeat' (first | with_reducible rfl | refine ite_opt (fun _ => ?_) (fun _ => ?_) | rfl)
def run_l_toPointA3 : RunP
 | [.v (.agg ⟨[.int .i64 a0, .int .i64 a1, .int .i64 a2, .int .i64 a3, .int .i64 a4, .int .i64 a5]⟩)] => some (true, enc_a6 (l_toPointA3 (a0, a1, a2, a3, a4, a5)))
 | _ => none
theorem sound_l_toPointA3 : Sound Tryz.prog 41 run_l_toPointA3 := by
 refine sound_1 de_a6 SO_l_toPointA3 (by kernel_rfl) Tryz.func41 Tryz.ntmps41 rfl (by kernel_rfl) fun q r E => ?_
 unfold run_l_toPointA3 at E
 split at E
 ·obtain ⟨hp, rfl⟩ := so2 E
  rename_i a0 a1 a2 a3 a4 a5
  exact ⟨_, _, rfl, (eq_l_toPointA3 (a0, a1, a2, a3, a4, a5)).trans (tot_l_toPointA3 (a0, a1, a2, a3, a4, a5))⟩
 ·cases E

def S_l_toDesk : Sums := ⟨tblS [(41, run_l_toPointA3)], tblM [], false⟩
theorem SO_l_toDesk : SumsOK Tryz.prog S_l_toDesk := ⟨tblS_ok ⟨⟨Tryz.call41, sound_l_toPointA3⟩, True.intro⟩, tblM_ok True.intro⟩
def Fo_l_toDesk (a : D8i) : Option (D8i) :=
 some (a.1, a.2.1, (l_toPointA3 a.2.2).1, (l_toPointA3 a.2.2).2.1, (l_toPointA3 a.2.2).2.2.1, (l_toPointA3 a.2.2).2.2.2.1, (l_toPointA3 a.2.2).2.2.2.2.1, (l_toPointA3 a.2.2).2.2.2.2.2)
theorem eq_l_toDesk (a : D8i) : execT Tryz.prog S_l_toDesk 21 15 (fun _ => 1000000) dec_a8 [.v (.agg ⟨[.int .i64 a.1, .int .i64 a.2.1, .int .i64 a.2.2.1, .int .i64 a.2.2.2.1, .int .i64 a.2.2.2.2.1, .int .i64 a.2.2.2.2.2.1, .int .i64 a.2.2.2.2.2.2.1, .int .i64 a.2.2.2.2.2.2.2]⟩)] = Fo_l_toDesk a := by
 kernel_rfl
def l_toDesk (a : D8i) : D8i :=
 (a.1, a.2.1, (l_toPointA3 a.2.2).1, (l_toPointA3 a.2.2).2.1, (l_toPointA3 a.2.2).2.2.1, (l_toPointA3 a.2.2).2.2.2.1, (l_toPointA3 a.2.2).2.2.2.2.1, (l_toPointA3 a.2.2).2.2.2.2.2)
theorem tot_l_toDesk (a : D8i) : Fo_l_toDesk a = some (l_toDesk a) := by
 unfold Fo_l_toDesk l_toDesk
 (try simp only [wI_eq])
 repeat' (first | with_reducible rfl | refine ite_opt (fun _ => ?_) (fun _ => ?_) | rfl)
def run_l_toDesk : RunP
 | [.v (.agg ⟨[.int .i64 a0, .int .i64 a1, .int .i64 a2, .int .i64 a3, .int .i64 a4, .int .i64 a5, .int .i64 a6, .int .i64 a7]⟩)] => some (true, enc_a8 (l_toDesk (a0, a1, a2, a3, a4, a5, a6, a7)))
 | _ => none
theorem sound_l_toDesk : Sound Tryz.prog 21 run_l_toDesk := by
 refine sound_1 de_a8 SO_l_toDesk (by kernel_rfl) Tryz.func21 Tryz.ntmps21 rfl (by kernel_rfl) fun q r E => ?_
 unfold run_l_toDesk at E
 split at E
 ·obtain ⟨hp, rfl⟩ := so2 E
  rename_i a0 a1 a2 a3 a4 a5 a6 a7
  exact ⟨_, _, rfl, (eq_l_toDesk (a0, a1, a2, a3, a4, a5, a6, a7)).trans (tot_l_toDesk (a0, a1, a2, a3, a4, a5, a6, a7))⟩
 ·cases E

def S_l_eqPoint : Sums := ⟨tblS [], tblM [], false⟩
theorem SO_l_eqPoint : SumsOK Tryz.prog S_l_eqPoint := ⟨tblS_ok True.intro, tblM_ok True.intro⟩
def Fo_l_eqPoint (a b : P2) : Option (Bool) :=
 (if (a.1 != b.1) = true then some false else (if (a.2 != b.2) = true then some false else some true))
theorem eq_l_eqPoint (a b : P2) : execT Tryz.prog S_l_eqPoint 45 17 (fun _ => 1000000) dec_b [.v (.agg ⟨[.int .i64 a.1, .int .i64 a.2]⟩), .v (.agg ⟨[.int .i64 b.1, .int .i64 b.2]⟩)] = Fo_l_eqPoint a b := by
 kernel_rfl
def l_eqPoint (a b : P2) : Bool :=
 (if (a.1 != b.1) = true then false else (if (a.2 != b.2) = true then false else true))
theorem tot_l_eqPoint (a b : P2) : Fo_l_eqPoint a b = some (l_eqPoint a b) := by
 unfold Fo_l_eqPoint l_eqPoint
 (try simp only [wI_eq])
 repeat' (first | with_reducible rfl | refine ite_opt (fun _ => ?_) (fun _ => ?_) | rfl)
def run_l_eqPoint : RunP
 | [.v (.agg ⟨[.int .i64 a0, .int .i64 a1]⟩), .v (.agg ⟨[.int .i64 b0, .int .i64 b1]⟩)] => some (true, enc_b (l_eqPoint (a0, a1) (b0, b1)))
 | _ => none
theorem sound_l_eqPoint : Sound Tryz.prog 45 run_l_eqPoint := by
 refine sound_1 de_b SO_l_eqPoint (by kernel_rfl) Tryz.func45 Tryz.ntmps45 rfl (by kernel_rfl) fun q r E => ?_
 unfold run_l_eqPoint at E
 split at E
 ·obtain ⟨hp, rfl⟩ := so2 E
  rename_i a0 a1 b0 b1
  exact ⟨_, _, rfl, (eq_l_eqPoint (a0, a1) (b0, b1)).trans (tot_l_eqPoint (a0, a1) (b0, b1))⟩
 ·cases E

def S_l_eqPointA3 : Sums := ⟨tblS [(45, run_l_eqPoint)], tblM [], false⟩
theorem SO_l_eqPointA3 : SumsOK Tryz.prog S_l_eqPointA3 := ⟨tblS_ok ⟨⟨Tryz.call45, sound_l_eqPoint⟩, True.intro⟩, tblM_ok True.intro⟩
def Fo_l_eqPointA3 (a b : Int × Int × Int × Int × Int × Int) : Option (Bool) :=
 (if (!(l_eqPoint (a.1, a.2.1) (b.1, b.2.1))) = true then some false else (if (!(l_eqPoint (a.2.2.1, a.2.2.2.1) (b.2.2.1, b.2.2.2.1))) = true then some false else (if (!(l_eqPoint a.2.2.2.2 b.2.2.2.2)) = true then some false else some true)))
theorem eq_l_eqPointA3 (a b : Int × Int × Int × Int × Int × Int) : execT Tryz.prog S_l_eqPointA3 24 18 (fun _ => 1000000) dec_b [.v (.agg ⟨[.int .i64 a.1, .int .i64 a.2.1, .int .i64 a.2.2.1, .int .i64 a.2.2.2.1, .int .i64 a.2.2.2.2.1, .int .i64 a.2.2.2.2.2]⟩), .v (.agg ⟨[.int .i64 b.1, .int .i64 b.2.1, .int .i64 b.2.2.1, .int .i64 b.2.2.2.1, .int .i64 b.2.2.2.2.1, .int .i64 b.2.2.2.2.2]⟩)] = Fo_l_eqPointA3 a b := by
 kernel_rfl
def l_eqPointA3 (a b : Int × Int × Int × Int × Int × Int) : Bool :=
 (if (!(l_eqPoint (a.1, a.2.1) (b.1, b.2.1))) = true then false else (if (!(l_eqPoint (a.2.2.1, a.2.2.2.1) (b.2.2.1, b.2.2.2.1))) = true then false else (if (!(l_eqPoint a.2.2.2.2 b.2.2.2.2)) = true then false else true)))
theorem tot_l_eqPointA3 (a b : Int × Int × Int × Int × Int × Int) : Fo_l_eqPointA3 a b = some (l_eqPointA3 a b) := by
 unfold Fo_l_eqPointA3 l_eqPointA3
 (try simp only [wI_eq])
 repeat' (first | with_reducible rfl | refine ite_opt (fun _ => ?_) (fun _ => ?_) | rfl)
def run_l_eqPointA3 : RunP
 | [.v (.agg ⟨[.int .i64 a0, .int .i64 a1, .int .i64 a2, .int .i64 a3, .int .i64 a4, .int .i64 a5]⟩), .v (.agg ⟨[.int .i64 b0, .int .i64 b1, .int .i64 b2, .int .i64 b3, .int .i64 b4, .int .i64 b5]⟩)] => some (true, enc_b (l_eqPointA3 (a0, a1, a2, a3, a4, a5) (b0, b1, b2, b3, b4, b5)))
 | _ => none
theorem sound_l_eqPointA3 : Sound Tryz.prog 24 run_l_eqPointA3 := by
 refine sound_1 de_b SO_l_eqPointA3 (by kernel_rfl) Tryz.func24 Tryz.ntmps24 rfl (by kernel_rfl) fun q r E => ?_
 unfold run_l_eqPointA3 at E
 split at E
 ·obtain ⟨hp, rfl⟩ := so2 E
  rename_i a0 a1 a2 a3 a4 a5 b0 b1 b2 b3 b4 b5
  exact ⟨_, _, rfl, (eq_l_eqPointA3 (a0, a1, a2, a3, a4, a5) (b0, b1, b2, b3, b4, b5)).trans (tot_l_eqPointA3 (a0, a1, a2, a3, a4, a5) (b0, b1, b2, b3, b4, b5))⟩
 ·cases E

def S_l_eqDesk : Sums := ⟨tblS [(24, run_l_eqPointA3)], tblM [], false⟩
theorem SO_l_eqDesk : SumsOK Tryz.prog S_l_eqDesk := ⟨tblS_ok ⟨⟨Tryz.call24, sound_l_eqPointA3⟩, True.intro⟩, tblM_ok True.intro⟩
def Fo_l_eqDesk (a b : D8i) : Option (Bool) :=
 (if (a.1 != b.1) = true then some false else (if (a.2.1 != b.2.1) = true then some false else (if (!(l_eqPointA3 a.2.2 b.2.2)) = true then some false else some true)))
theorem eq_l_eqDesk (a b : D8i) : execT Tryz.prog S_l_eqDesk 11 21 (fun _ => 1000000) dec_b [.v (.agg ⟨[.int .i64 a.1, .int .i64 a.2.1, .int .i64 a.2.2.1, .int .i64 a.2.2.2.1, .int .i64 a.2.2.2.2.1, .int .i64 a.2.2.2.2.2.1, .int .i64 a.2.2.2.2.2.2.1, .int .i64 a.2.2.2.2.2.2.2]⟩), .v (.agg ⟨[.int .i64 b.1, .int .i64 b.2.1, .int .i64 b.2.2.1, .int .i64 b.2.2.2.1, .int .i64 b.2.2.2.2.1, .int .i64 b.2.2.2.2.2.1, .int .i64 b.2.2.2.2.2.2.1, .int .i64 b.2.2.2.2.2.2.2]⟩)] = Fo_l_eqDesk a b := by
 kernel_rfl
def l_eqDesk (a b : D8i) : Bool :=
 (if (a.1 != b.1) = true then false else (if (a.2.1 != b.2.1) = true then false else (if (!(l_eqPointA3 a.2.2 b.2.2)) = true then false else true)))
theorem tot_l_eqDesk (a b : D8i) : Fo_l_eqDesk a b = some (l_eqDesk a b) := by
 unfold Fo_l_eqDesk l_eqDesk
 (try simp only [wI_eq])
 repeat' (first | with_reducible rfl | refine ite_opt (fun _ => ?_) (fun _ => ?_) | rfl)
def run_l_eqDesk : RunP
 | [.v (.agg ⟨[.int .i64 a0, .int .i64 a1, .int .i64 a2, .int .i64 a3, .int .i64 a4, .int .i64 a5, .int .i64 a6, .int .i64 a7]⟩), .v (.agg ⟨[.int .i64 b0, .int .i64 b1, .int .i64 b2, .int .i64 b3, .int .i64 b4, .int .i64 b5, .int .i64 b6, .int .i64 b7]⟩)] => some (true, enc_b (l_eqDesk (a0, a1, a2, a3, a4, a5, a6, a7) (b0, b1, b2, b3, b4, b5, b6, b7)))
 | _ => none
theorem sound_l_eqDesk : Sound Tryz.prog 11 run_l_eqDesk := by
 refine sound_1 de_b SO_l_eqDesk (by kernel_rfl) Tryz.func11 Tryz.ntmps11 rfl (by kernel_rfl) fun q r E => ?_
 unfold run_l_eqDesk at E
 split at E
 ·obtain ⟨hp, rfl⟩ := so2 E
  rename_i a0 a1 a2 a3 a4 a5 a6 a7 b0 b1 b2 b3 b4 b5 b6 b7
  exact ⟨_, _, rfl, (eq_l_eqDesk (a0, a1, a2, a3, a4, a5, a6, a7) (b0, b1, b2, b3, b4, b5, b6, b7)).trans (tot_l_eqDesk (a0, a1, a2, a3, a4, a5, a6, a7) (b0, b1, b2, b3, b4, b5, b6, b7))⟩
 ·cases E

def S_l_FnExactRunLine : Sums := ⟨tblS [(21, run_l_toDesk), (15, run_s_RunLine), (14, run_i_RunLine), (11, run_l_eqDesk)], tblM [], false⟩
theorem SO_l_FnExactRunLine : SumsOK Tryz.prog S_l_FnExactRunLine := ⟨tblS_ok ⟨⟨Tryz.call21, sound_l_toDesk⟩, ⟨Tryz.call15, sound_s_RunLine⟩, ⟨Tryz.call14, sound_i_RunLine⟩, ⟨Tryz.call11, sound_l_eqDesk⟩, True.intro⟩, tblM_ok True.intro⟩
def Fo_l_FnExactRunLine (aD : D8i) (aLine : ByteArray) : Option (Bool) :=
 (if (decide (((aLine.size : Nat) : Int) > 1048576)) = true then some true else (if (ok_s_RunLine (l_toDesk aD) aLine) = true then (if (ok_i_RunLine (l_toDesk aD) aLine) = true then (if (!(l_eqDesk ((i_RunLine (l_toDesk aD) aLine).1) ((s_RunLine (l_toDesk aD) aLine).1))) = true then some false else (if (!(eqS ((i_RunLine (l_toDesk aD) aLine).2) ((s_RunLine (l_toDesk aD) aLine).2))) = true then some false else some true)) else none) else none))
theorem eq_l_FnExactRunLine (aD : D8i) (aLine : ByteArray) : execT Tryz.prog S_l_FnExactRunLine 6 35 (fun _ => 1000000) dec_b [.v (.agg ⟨[.int .i64 aD.1, .int .i64 aD.2.1, .int .i64 aD.2.2.1, .int .i64 aD.2.2.2.1, .int .i64 aD.2.2.2.2.1, .int .i64 aD.2.2.2.2.2.1, .int .i64 aD.2.2.2.2.2.2.1, .int .i64 aD.2.2.2.2.2.2.2]⟩), .v (.string aLine)] = Fo_l_FnExactRunLine aD aLine := by
 kernel_rfl
theorem desk_self (d : Dk) : l_eqDesk d d = true := by
 obtain ⟨p, c, a1, a2, b1, b2, d1, d2⟩ := d
 simp [l_eqDesk, l_eqPointA3, l_eqPoint]
theorem RunLine_tot (aD : Dk) (aLine : ByteArray) : Fo_l_FnExactRunLine aD aLine = some true := by
 unfold Fo_l_FnExactRunLine
 by_cases hz : ((aLine.size : Nat) : Int) > 1048576
 ·rw [if_pos (by simpa using hz)]
 ·obtain ⟨r, e1, e2, _⟩ := run_same (l_toDesk aD) aLine (by omega)
  rw [if_neg (by simpa using hz), if_pos (ok_s_RunLine_of e1), if_pos (ok_i_RunLine_of e2), if_neg (by rw [i_RunLine_of e2, s_RunLine_of e1, desk_self]; decide), if_neg (by rw [i_RunLine_of e2, s_RunLine_of e1, eqS_iff.2 rfl]; decide)]

def l_FnExactRunLine (aD : D8i) (aLine : ByteArray) : Bool := true
theorem tot_l_FnExactRunLine (aD : D8i) (aLine : ByteArray) : Fo_l_FnExactRunLine aD aLine = some (l_FnExactRunLine aD aLine) := by
 exact RunLine_tot aD aLine
def run_l_FnExactRunLine : RunP
 | [.v (.agg ⟨[.int .i64 aD0, .int .i64 aD1, .int .i64 aD2, .int .i64 aD3, .int .i64 aD4, .int .i64 aD5, .int .i64 aD6, .int .i64 aD7]⟩), .v (.string aLine)] => some (true, enc_b (l_FnExactRunLine (aD0, aD1, aD2, aD3, aD4, aD5, aD6, aD7) aLine))
 | _ => none
theorem sound_l_FnExactRunLine : Sound Tryz.prog 6 run_l_FnExactRunLine := by
 refine sound_1 de_b SO_l_FnExactRunLine (by kernel_rfl) Tryz.func6 Tryz.ntmps6 rfl (by kernel_rfl) fun q r E => ?_
 unfold run_l_FnExactRunLine at E
 split at E
 ·obtain ⟨hp, rfl⟩ := so2 E
  rename_i aD0 aD1 aD2 aD3 aD4 aD5 aD6 aD7 aLine
  exact ⟨_, _, rfl, (eq_l_FnExactRunLine (aD0, aD1, aD2, aD3, aD4, aD5, aD6, aD7) aLine).trans (tot_l_FnExactRunLine (aD0, aD1, aD2, aD3, aD4, aD5, aD6, aD7) aLine)⟩
 ·cases E

end

end Go.Proofs.YtcdpfpfbilfpoaaGreatDoor
