import Derived.Test.YtcdpfpfbilfpoaaGreatDoorFa
import Derived.Test.YtcdpfpfbilfpoaaGreatDoorProg
set_option linter.unusedSimpArgs false
set_option linter.unusedVariables false
namespace Go.Proofs.YtcdpfpfbilfpoaaGreatDoor
open Go.RowKit
noncomputable section
def S_i_CircumcentreOf : Sums := ⟨tblS [(115, run_i_triangle), (116, run_i_circumcentre)], tblM [], false⟩
theorem SO_i_CircumcentreOf : SumsOK Tryz.prog S_i_CircumcentreOf := ⟨tblS_ok ⟨⟨Tryz.call115, sound_i_triangle⟩, ⟨Tryz.call116, sound_i_circumcentre⟩, True.intro⟩, tblM_ok True.intro⟩
def Fo_i_CircumcentreOf (p colour : Int) (a b c : P2) : Option ((Int × Int) × Int) :=
 (if ((i_triangle p colour a b c) != 0) = true then some ((0, 0), (i_triangle p colour a b c)) else (if (prB p) = true then some ((i_circumcentre p colour a b c), 0) else none))
theorem eq_i_CircumcentreOf (p colour : Int) (a b c : P2) : execT Tryz.prog S_i_CircumcentreOf 60 29 (fun _ => 1000000) dec_a2_i [.v (.int .i64 p), .v (.int .i64 colour), .v (.agg ⟨[.int .i64 a.1, .int .i64 a.2]⟩), .v (.agg ⟨[.int .i64 b.1, .int .i64 b.2]⟩), .v (.agg ⟨[.int .i64 c.1, .int .i64 c.2]⟩)] = Fo_i_CircumcentreOf p colour a b c := by
 kernel_rfl
def i_CircumcentreOf (p colour : Int) (a b c : P2) : (Int × Int) × Int :=
 (if ((i_triangle p colour a b c) != 0) = true then ((0, 0), (i_triangle p colour a b c)) else ((i_circumcentre p colour a b c), 0))
theorem tot_i_CircumcentreOf (p colour : Int) (a b c : P2) : Fo_i_CircumcentreOf p colour a b c = some (i_CircumcentreOf p colour a b c) := by
 unfold Fo_i_CircumcentreOf i_CircumcentreOf
 (try simp only [wI_eq])
 repeat' (first | with_reducible rfl | refine chk_opt (by first | with_reducible rfl | exact Bool.true_or _ | (have hq : prB p = true := (by (first | (with_reducible assumption) | (with_reducible exact triangle_prB ‹_›) | (with_reducible exact triangle_prB0 ‹_›))); first | exact hq | exact mk_ok hq | exact and_all hq (fun _ => rfl) | exact and_all hq (fun _ => hq) | exact and3 hq hq hq | exact and_two hq rfl | exact map3_ok hq) | rfl) ?_ | refine ite_opt (fun _ => ?_) (fun _ => ?_) | rfl)
def run_i_CircumcentreOf : RunP
 | [.v (.int .i64 p), .v (.int .i64 colour), .v (.agg ⟨[.int .i64 a0, .int .i64 a1]⟩), .v (.agg ⟨[.int .i64 b0, .int .i64 b1]⟩), .v (.agg ⟨[.int .i64 c0, .int .i64 c1]⟩)] => some (true, enc_a2_i (i_CircumcentreOf p colour (a0, a1) (b0, b1) (c0, c1)))
 | _ => none
theorem sound_i_CircumcentreOf : Sound Tryz.prog 60 run_i_CircumcentreOf := by
 refine sound_1 de_a2_i SO_i_CircumcentreOf (by kernel_rfl) Tryz.func60 Tryz.ntmps60 rfl (by kernel_rfl) fun q r E => ?_
 unfold run_i_CircumcentreOf at E
 split at E
 ·obtain ⟨hp, rfl⟩ := so2 E
  rename_i p colour a0 a1 b0 b1 c0 c1
  exact ⟨_, _, rfl, (eq_i_CircumcentreOf p colour (a0, a1) (b0, b1) (c0, c1)).trans (tot_i_CircumcentreOf p colour (a0, a1) (b0, b1) (c0, c1))⟩
 ·cases E

def S_s_CircumcentreOf : Sums := ⟨tblS [(185, run_s_l04Code), (186, run_s_l04Circumcentre)], tblM [], false⟩
theorem SO_s_CircumcentreOf : SumsOK Tryz.prog S_s_CircumcentreOf := ⟨tblS_ok ⟨⟨Tryz.call185, sound_s_l04Code⟩, ⟨Tryz.call186, sound_s_l04Circumcentre⟩, True.intro⟩, tblM_ok True.intro⟩
def Fo_s_CircumcentreOf (p colour : Int) (a b c : P2) : Option ((Int × Int) × Int) :=
 (if ((s_l04Code p colour a b c) != 0) = true then some ((0, 0), (s_l04Code p colour a b c)) else (if (prB p) = true then some ((s_l04Circumcentre p colour a b c), 0) else none))
theorem eq_s_CircumcentreOf (p colour : Int) (a b c : P2) : execT Tryz.prog S_s_CircumcentreOf 149 29 (fun _ => 1000000) dec_a2_i [.v (.int .i64 p), .v (.int .i64 colour), .v (.agg ⟨[.int .i64 a.1, .int .i64 a.2]⟩), .v (.agg ⟨[.int .i64 b.1, .int .i64 b.2]⟩), .v (.agg ⟨[.int .i64 c.1, .int .i64 c.2]⟩)] = Fo_s_CircumcentreOf p colour a b c := by
 kernel_rfl
def s_CircumcentreOf (p colour : Int) (a b c : P2) : (Int × Int) × Int :=
 (if ((s_l04Code p colour a b c) != 0) = true then ((0, 0), (s_l04Code p colour a b c)) else ((s_l04Circumcentre p colour a b c), 0))
theorem tot_s_CircumcentreOf (p colour : Int) (a b c : P2) : Fo_s_CircumcentreOf p colour a b c = some (s_CircumcentreOf p colour a b c) := by
 unfold Fo_s_CircumcentreOf s_CircumcentreOf
 (try simp only [wI_eq])
 repeat' (first | with_reducible rfl | refine chk_opt (by first | with_reducible rfl | exact Bool.true_or _ | (have hq : prB p = true := (by (first | (with_reducible assumption) | (with_reducible exact l04Code_prB ‹_›) | (with_reducible exact l04Code_prB0 ‹_›))); first | exact hq | exact mk_ok hq | exact and_all hq (fun _ => rfl) | exact and_all hq (fun _ => hq) | exact and3 hq hq hq | exact and_two hq rfl | exact map3_ok hq) | rfl) ?_ | refine ite_opt (fun _ => ?_) (fun _ => ?_) | rfl)
def run_s_CircumcentreOf : RunP
 | [.v (.int .i64 p), .v (.int .i64 colour), .v (.agg ⟨[.int .i64 a0, .int .i64 a1]⟩), .v (.agg ⟨[.int .i64 b0, .int .i64 b1]⟩), .v (.agg ⟨[.int .i64 c0, .int .i64 c1]⟩)] => some (true, enc_a2_i (s_CircumcentreOf p colour (a0, a1) (b0, b1) (c0, c1)))
 | _ => none
theorem sound_s_CircumcentreOf : Sound Tryz.prog 149 run_s_CircumcentreOf := by
 refine sound_1 de_a2_i SO_s_CircumcentreOf (by kernel_rfl) Tryz.func149 Tryz.ntmps149 rfl (by kernel_rfl) fun q r E => ?_
 unfold run_s_CircumcentreOf at E
 split at E
 ·obtain ⟨hp, rfl⟩ := so2 E
  rename_i p colour a0 a1 b0 b1 c0 c1
  exact ⟨_, _, rfl, (eq_s_CircumcentreOf p colour (a0, a1) (b0, b1) (c0, c1)).trans (tot_s_CircumcentreOf p colour (a0, a1) (b0, b1) (c0, c1))⟩
 ·cases E

def S_i_OrthocentreOf : Sums := ⟨tblS [(115, run_i_triangle), (117, run_i_orthocentre)], tblM [], false⟩
theorem SO_i_OrthocentreOf : SumsOK Tryz.prog S_i_OrthocentreOf := ⟨tblS_ok ⟨⟨Tryz.call115, sound_i_triangle⟩, ⟨Tryz.call117, sound_i_orthocentre⟩, True.intro⟩, tblM_ok True.intro⟩
def Fo_i_OrthocentreOf (p colour : Int) (a b c : P2) : Option ((Int × Int) × Int) :=
 (if ((i_triangle p colour a b c) != 0) = true then some ((0, 0), (i_triangle p colour a b c)) else (if (prB p) = true then some ((i_orthocentre p colour a b c), 0) else none))
theorem eq_i_OrthocentreOf (p colour : Int) (a b c : P2) : execT Tryz.prog S_i_OrthocentreOf 61 29 (fun _ => 1000000) dec_a2_i [.v (.int .i64 p), .v (.int .i64 colour), .v (.agg ⟨[.int .i64 a.1, .int .i64 a.2]⟩), .v (.agg ⟨[.int .i64 b.1, .int .i64 b.2]⟩), .v (.agg ⟨[.int .i64 c.1, .int .i64 c.2]⟩)] = Fo_i_OrthocentreOf p colour a b c := by
 kernel_rfl
def i_OrthocentreOf (p colour : Int) (a b c : P2) : (Int × Int) × Int :=
 (if ((i_triangle p colour a b c) != 0) = true then ((0, 0), (i_triangle p colour a b c)) else ((i_orthocentre p colour a b c), 0))
theorem tot_i_OrthocentreOf (p colour : Int) (a b c : P2) : Fo_i_OrthocentreOf p colour a b c = some (i_OrthocentreOf p colour a b c) := by
 unfold Fo_i_OrthocentreOf i_OrthocentreOf
 (try simp only [wI_eq])
 repeat' (first | with_reducible rfl | refine chk_opt (by first | with_reducible rfl | exact Bool.true_or _ | (have hq : prB p = true := (by (first | (with_reducible assumption) | (with_reducible exact triangle_prB ‹_›) | (with_reducible exact triangle_prB0 ‹_›))); first | exact hq | exact mk_ok hq | exact and_all hq (fun _ => rfl) | exact and_all hq (fun _ => hq) | exact and3 hq hq hq | exact and_two hq rfl | exact map3_ok hq) | rfl) ?_ | refine ite_opt (fun _ => ?_) (fun _ => ?_) | rfl)
def run_i_OrthocentreOf : RunP
 | [.v (.int .i64 p), .v (.int .i64 colour), .v (.agg ⟨[.int .i64 a0, .int .i64 a1]⟩), .v (.agg ⟨[.int .i64 b0, .int .i64 b1]⟩), .v (.agg ⟨[.int .i64 c0, .int .i64 c1]⟩)] => some (true, enc_a2_i (i_OrthocentreOf p colour (a0, a1) (b0, b1) (c0, c1)))
 | _ => none
theorem sound_i_OrthocentreOf : Sound Tryz.prog 61 run_i_OrthocentreOf := by
 refine sound_1 de_a2_i SO_i_OrthocentreOf (by kernel_rfl) Tryz.func61 Tryz.ntmps61 rfl (by kernel_rfl) fun q r E => ?_
 unfold run_i_OrthocentreOf at E
 split at E
 ·obtain ⟨hp, rfl⟩ := so2 E
  rename_i p colour a0 a1 b0 b1 c0 c1
  exact ⟨_, _, rfl, (eq_i_OrthocentreOf p colour (a0, a1) (b0, b1) (c0, c1)).trans (tot_i_OrthocentreOf p colour (a0, a1) (b0, b1) (c0, c1))⟩
 ·cases E

def S_s_OrthocentreOf : Sums := ⟨tblS [(185, run_s_l04Code), (187, run_s_l04Orthocentre)], tblM [], false⟩
theorem SO_s_OrthocentreOf : SumsOK Tryz.prog S_s_OrthocentreOf := ⟨tblS_ok ⟨⟨Tryz.call185, sound_s_l04Code⟩, ⟨Tryz.call187, sound_s_l04Orthocentre⟩, True.intro⟩, tblM_ok True.intro⟩
def Fo_s_OrthocentreOf (p colour : Int) (a b c : P2) : Option ((Int × Int) × Int) :=
 (if ((s_l04Code p colour a b c) != 0) = true then some ((0, 0), (s_l04Code p colour a b c)) else (if (prB p) = true then some ((s_l04Orthocentre p colour a b c), 0) else none))
theorem eq_s_OrthocentreOf (p colour : Int) (a b c : P2) : execT Tryz.prog S_s_OrthocentreOf 150 29 (fun _ => 1000000) dec_a2_i [.v (.int .i64 p), .v (.int .i64 colour), .v (.agg ⟨[.int .i64 a.1, .int .i64 a.2]⟩), .v (.agg ⟨[.int .i64 b.1, .int .i64 b.2]⟩), .v (.agg ⟨[.int .i64 c.1, .int .i64 c.2]⟩)] = Fo_s_OrthocentreOf p colour a b c := by
 kernel_rfl
def s_OrthocentreOf (p colour : Int) (a b c : P2) : (Int × Int) × Int :=
 (if ((s_l04Code p colour a b c) != 0) = true then ((0, 0), (s_l04Code p colour a b c)) else ((s_l04Orthocentre p colour a b c), 0))
theorem tot_s_OrthocentreOf (p colour : Int) (a b c : P2) : Fo_s_OrthocentreOf p colour a b c = some (s_OrthocentreOf p colour a b c) := by
 unfold Fo_s_OrthocentreOf s_OrthocentreOf
 (try simp only [wI_eq])
 repeat' (first | with_reducible rfl | refine chk_opt (by first | with_reducible rfl | exact Bool.true_or _ | (have hq : prB p = true := (by (first | (with_reducible assumption) | (with_reducible exact l04Code_prB ‹_›) | (with_reducible exact l04Code_prB0 ‹_›))); first | exact hq | exact mk_ok hq | exact and_all hq (fun _ => rfl) | exact and_all hq (fun _ => hq) | exact and3 hq hq hq | exact and_two hq rfl | exact map3_ok hq) | rfl) ?_ | refine ite_opt (fun _ => ?_) (fun _ => ?_) | rfl)
def run_s_OrthocentreOf : RunP
 | [.v (.int .i64 p), .v (.int .i64 colour), .v (.agg ⟨[.int .i64 a0, .int .i64 a1]⟩), .v (.agg ⟨[.int .i64 b0, .int .i64 b1]⟩), .v (.agg ⟨[.int .i64 c0, .int .i64 c1]⟩)] => some (true, enc_a2_i (s_OrthocentreOf p colour (a0, a1) (b0, b1) (c0, c1)))
 | _ => none
theorem sound_s_OrthocentreOf : Sound Tryz.prog 150 run_s_OrthocentreOf := by
 refine sound_1 de_a2_i SO_s_OrthocentreOf (by kernel_rfl) Tryz.func150 Tryz.ntmps150 rfl (by kernel_rfl) fun q r E => ?_
 unfold run_s_OrthocentreOf at E
 split at E
 ·obtain ⟨hp, rfl⟩ := so2 E
  rename_i p colour a0 a1 b0 b1 c0 c1
  exact ⟨_, _, rfl, (eq_s_OrthocentreOf p colour (a0, a1) (b0, b1) (c0, c1)).trans (tot_s_OrthocentreOf p colour (a0, a1) (b0, b1) (c0, c1))⟩
 ·cases E

def S_i_EulerLineOf : Sums := ⟨tblS [(115, run_i_triangle), (117, run_i_orthocentre), (116, run_i_circumcentre), (110, run_i_lineThrough)], tblM [], false⟩
theorem SO_i_EulerLineOf : SumsOK Tryz.prog S_i_EulerLineOf := ⟨tblS_ok ⟨⟨Tryz.call115, sound_i_triangle⟩, ⟨Tryz.call117, sound_i_orthocentre⟩, ⟨Tryz.call116, sound_i_circumcentre⟩, ⟨Tryz.call110, sound_i_lineThrough⟩, True.intro⟩, tblM_ok True.intro⟩
def Fo_i_EulerLineOf (p colour : Int) (a b c : P2) : Option ((Int × Int × Int) × Int) :=
 (if ((i_triangle p colour a b c) != 0) = true then some ((0, 0, 0), (i_triangle p colour a b c)) else (if (prB p) = true then (if (prB p) = true then (if ((i_orthocentre p colour a b c) == (i_circumcentre p colour a b c)) = true then some ((0, 0, 0), 5) else (if (prB p) = true then some ((i_lineThrough p (i_orthocentre p colour a b c) (i_circumcentre p colour a b c)), 0) else none)) else none) else none))
theorem eq_i_EulerLineOf (p colour : Int) (a b c : P2) : execT Tryz.prog S_i_EulerLineOf 82 45 (fun _ => 1000000) dec_a3_i [.v (.int .i64 p), .v (.int .i64 colour), .v (.agg ⟨[.int .i64 a.1, .int .i64 a.2]⟩), .v (.agg ⟨[.int .i64 b.1, .int .i64 b.2]⟩), .v (.agg ⟨[.int .i64 c.1, .int .i64 c.2]⟩)] = Fo_i_EulerLineOf p colour a b c := by
 kernel_rfl
def i_EulerLineOf (p colour : Int) (a b c : P2) : (Int × Int × Int) × Int :=
 (if ((i_triangle p colour a b c) != 0) = true then ((0, 0, 0), (i_triangle p colour a b c)) else (if ((i_orthocentre p colour a b c) == (i_circumcentre p colour a b c)) = true then ((0, 0, 0), 5) else ((i_lineThrough p (i_orthocentre p colour a b c) (i_circumcentre p colour a b c)), 0)))
theorem tot_i_EulerLineOf (p colour : Int) (a b c : P2) : Fo_i_EulerLineOf p colour a b c = some (i_EulerLineOf p colour a b c) := by
 unfold Fo_i_EulerLineOf i_EulerLineOf
 (try simp only [wI_eq])
 repeat' (first | with_reducible rfl | refine chk_opt (by first | with_reducible rfl | exact Bool.true_or _ | (have hq : prB p = true := (by (first | (with_reducible assumption) | (with_reducible exact triangle_prB ‹_›) | (with_reducible exact triangle_prB0 ‹_›))); first | exact hq | exact mk_ok hq | exact and_all hq (fun _ => rfl) | exact and_all hq (fun _ => hq) | exact and3 hq hq hq | exact and_two hq rfl | exact map3_ok hq) | rfl) ?_ | refine ite_opt (fun _ => ?_) (fun _ => ?_) | rfl)
def run_i_EulerLineOf : RunP
 | [.v (.int .i64 p), .v (.int .i64 colour), .v (.agg ⟨[.int .i64 a0, .int .i64 a1]⟩), .v (.agg ⟨[.int .i64 b0, .int .i64 b1]⟩), .v (.agg ⟨[.int .i64 c0, .int .i64 c1]⟩)] => some (true, enc_a3_i (i_EulerLineOf p colour (a0, a1) (b0, b1) (c0, c1)))
 | _ => none
theorem sound_i_EulerLineOf : Sound Tryz.prog 82 run_i_EulerLineOf := by
 refine sound_1 de_a3_i SO_i_EulerLineOf (by kernel_rfl) Tryz.func82 Tryz.ntmps82 rfl (by kernel_rfl) fun q r E => ?_
 unfold run_i_EulerLineOf at E
 split at E
 ·obtain ⟨hp, rfl⟩ := so2 E
  rename_i p colour a0 a1 b0 b1 c0 c1
  exact ⟨_, _, rfl, (eq_i_EulerLineOf p colour (a0, a1) (b0, b1) (c0, c1)).trans (tot_i_EulerLineOf p colour (a0, a1) (b0, b1) (c0, c1))⟩
 ·cases E

def S_s_EulerLineOf : Sums := ⟨tblS [(185, run_s_l04Code), (187, run_s_l04Orthocentre), (186, run_s_l04Circumcentre), (181, run_s_l01Through)], tblM [], false⟩
theorem SO_s_EulerLineOf : SumsOK Tryz.prog S_s_EulerLineOf := ⟨tblS_ok ⟨⟨Tryz.call185, sound_s_l04Code⟩, ⟨Tryz.call187, sound_s_l04Orthocentre⟩, ⟨Tryz.call186, sound_s_l04Circumcentre⟩, ⟨Tryz.call181, sound_s_l01Through⟩, True.intro⟩, tblM_ok True.intro⟩
def Fo_s_EulerLineOf (p colour : Int) (a b c : P2) : Option ((Int × Int × Int) × Int) :=
 (if ((s_l04Code p colour a b c) != 0) = true then some ((0, 0, 0), (s_l04Code p colour a b c)) else (if (prB p) = true then (if (prB p) = true then (if ((s_l04Orthocentre p colour a b c) == (s_l04Circumcentre p colour a b c)) = true then some ((0, 0, 0), 5) else (if (prB p) = true then some ((s_l01Through p (s_l04Orthocentre p colour a b c) (s_l04Circumcentre p colour a b c)), 0) else none)) else none) else none))
theorem eq_s_EulerLineOf (p colour : Int) (a b c : P2) : execT Tryz.prog S_s_EulerLineOf 238 45 (fun _ => 1000000) dec_a3_i [.v (.int .i64 p), .v (.int .i64 colour), .v (.agg ⟨[.int .i64 a.1, .int .i64 a.2]⟩), .v (.agg ⟨[.int .i64 b.1, .int .i64 b.2]⟩), .v (.agg ⟨[.int .i64 c.1, .int .i64 c.2]⟩)] = Fo_s_EulerLineOf p colour a b c := by
 kernel_rfl
def s_EulerLineOf (p colour : Int) (a b c : P2) : (Int × Int × Int) × Int :=
 (if ((s_l04Code p colour a b c) != 0) = true then ((0, 0, 0), (s_l04Code p colour a b c)) else (if ((s_l04Orthocentre p colour a b c) == (s_l04Circumcentre p colour a b c)) = true then ((0, 0, 0), 5) else ((s_l01Through p (s_l04Orthocentre p colour a b c) (s_l04Circumcentre p colour a b c)), 0)))
theorem tot_s_EulerLineOf (p colour : Int) (a b c : P2) : Fo_s_EulerLineOf p colour a b c = some (s_EulerLineOf p colour a b c) := by
 unfold Fo_s_EulerLineOf s_EulerLineOf
 (try simp only [wI_eq])
 repeat' (first | with_reducible rfl | refine chk_opt (by first | with_reducible rfl | exact Bool.true_or _ | (have hq : prB p = true := (by (first | (with_reducible assumption) | (with_reducible exact l04Code_prB ‹_›) | (with_reducible exact l04Code_prB0 ‹_›))); first | exact hq | exact mk_ok hq | exact and_all hq (fun _ => rfl) | exact and_all hq (fun _ => hq) | exact and3 hq hq hq | exact and_two hq rfl | exact map3_ok hq) | rfl) ?_ | refine ite_opt (fun _ => ?_) (fun _ => ?_) | rfl)
def run_s_EulerLineOf : RunP
 | [.v (.int .i64 p), .v (.int .i64 colour), .v (.agg ⟨[.int .i64 a0, .int .i64 a1]⟩), .v (.agg ⟨[.int .i64 b0, .int .i64 b1]⟩), .v (.agg ⟨[.int .i64 c0, .int .i64 c1]⟩)] => some (true, enc_a3_i (s_EulerLineOf p colour (a0, a1) (b0, b1) (c0, c1)))
 | _ => none
theorem sound_s_EulerLineOf : Sound Tryz.prog 238 run_s_EulerLineOf := by
 refine sound_1 de_a3_i SO_s_EulerLineOf (by kernel_rfl) Tryz.func238 Tryz.ntmps238 rfl (by kernel_rfl) fun q r E => ?_
 unfold run_s_EulerLineOf at E
 split at E
 ·obtain ⟨hp, rfl⟩ := so2 E
  rename_i p colour a0 a1 b0 b1 c0 c1
  exact ⟨_, _, rfl, (eq_s_EulerLineOf p colour (a0, a1) (b0, b1) (c0, c1)).trans (tot_s_EulerLineOf p colour (a0, a1) (b0, b1) (c0, c1))⟩
 ·cases E

def S_i_ThreeEulerLines : Sums := ⟨tblS [(82, run_i_EulerLineOf)], tblM [], false⟩
theorem SO_i_ThreeEulerLines : SumsOK Tryz.prog S_i_ThreeEulerLines := ⟨tblS_ok ⟨⟨Tryz.call82, sound_i_EulerLineOf⟩, True.intro⟩, tblM_ok True.intro⟩
def Fo_i_ThreeEulerLines (p : Int) (a b c : P2) : Option ((Nat × List Int) × Int) :=
 (if (((i_EulerLineOf p 0 a b c).2) != 0) = true then some ((0, []), (i_EulerLineOf p 0 a b c).2) else (if (((i_EulerLineOf p 1 a b c).2) != 0) = true then some ((0, []), (i_EulerLineOf p 1 a b c).2) else (if (((i_EulerLineOf p 2 a b c).2) != 0) = true then some ((0, []), (i_EulerLineOf p 2 a b c).2) else some ((3, [((i_EulerLineOf p 0 a b c).1).1, ((i_EulerLineOf p 0 a b c).1).2.1, ((i_EulerLineOf p 0 a b c).1).2.2, ((i_EulerLineOf p 1 a b c).1).1, ((i_EulerLineOf p 1 a b c).1).2.1, ((i_EulerLineOf p 1 a b c).1).2.2, ((i_EulerLineOf p 2 a b c).1).1, ((i_EulerLineOf p 2 a b c).1).2.1, ((i_EulerLineOf p 2 a b c).1).2.2]), 0))))
theorem eq_i_ThreeEulerLines (p : Int) (a b c : P2) : execT Tryz.prog S_i_ThreeEulerLines 87 36 (fun _ => 1000000) dec_l90_3_i [.v (.int .i64 p), .v (.agg ⟨[.int .i64 a.1, .int .i64 a.2]⟩), .v (.agg ⟨[.int .i64 b.1, .int .i64 b.2]⟩), .v (.agg ⟨[.int .i64 c.1, .int .i64 c.2]⟩)] = Fo_i_ThreeEulerLines p a b c := by
 kernel_rfl
def i_ThreeEulerLines (p : Int) (a b c : P2) : (Nat × List Int) × Int :=
 (if (((i_EulerLineOf p 0 a b c).2) != 0) = true then ((0, []), (i_EulerLineOf p 0 a b c).2) else (if (((i_EulerLineOf p 1 a b c).2) != 0) = true then ((0, []), (i_EulerLineOf p 1 a b c).2) else (if (((i_EulerLineOf p 2 a b c).2) != 0) = true then ((0, []), (i_EulerLineOf p 2 a b c).2) else ((3, [((i_EulerLineOf p 0 a b c).1).1, ((i_EulerLineOf p 0 a b c).1).2.1, ((i_EulerLineOf p 0 a b c).1).2.2, ((i_EulerLineOf p 1 a b c).1).1, ((i_EulerLineOf p 1 a b c).1).2.1, ((i_EulerLineOf p 1 a b c).1).2.2, ((i_EulerLineOf p 2 a b c).1).1, ((i_EulerLineOf p 2 a b c).1).2.1, ((i_EulerLineOf p 2 a b c).1).2.2]), 0))))
theorem tot_i_ThreeEulerLines (p : Int) (a b c : P2) : Fo_i_ThreeEulerLines p a b c = some (i_ThreeEulerLines p a b c) := by
 unfold Fo_i_ThreeEulerLines i_ThreeEulerLines
 (try simp only [wI_eq])
 repeat' (first | with_reducible rfl | refine ite_opt (fun _ => ?_) (fun _ => ?_) | rfl)
def run_i_ThreeEulerLines : RunP
 | [.v (.int .i64 p), .v (.agg ⟨[.int .i64 a0, .int .i64 a1]⟩), .v (.agg ⟨[.int .i64 b0, .int .i64 b1]⟩), .v (.agg ⟨[.int .i64 c0, .int .i64 c1]⟩)] => some (true, enc_l90_3_i (i_ThreeEulerLines p (a0, a1) (b0, b1) (c0, c1)))
 | _ => none
theorem sound_i_ThreeEulerLines : Sound Tryz.prog 87 run_i_ThreeEulerLines := by
 refine sound_1 de_l90_3_i SO_i_ThreeEulerLines (by kernel_rfl) Tryz.func87 Tryz.ntmps87 rfl (by kernel_rfl) fun q r E => ?_
 unfold run_i_ThreeEulerLines at E
 split at E
 ·obtain ⟨hp, rfl⟩ := so2 E
  rename_i p a0 a1 b0 b1 c0 c1
  exact ⟨_, _, rfl, (eq_i_ThreeEulerLines p (a0, a1) (b0, b1) (c0, c1)).trans (tot_i_ThreeEulerLines p (a0, a1) (b0, b1) (c0, c1))⟩
 ·cases E

def S_s_ThreeEulerLines : Sums := ⟨tblS [(185, run_s_l04Code), (187, run_s_l04Orthocentre), (186, run_s_l04Circumcentre), (181, run_s_l01Through)], tblM [], false⟩
theorem SO_s_ThreeEulerLines : SumsOK Tryz.prog S_s_ThreeEulerLines := ⟨tblS_ok ⟨⟨Tryz.call185, sound_s_l04Code⟩, ⟨Tryz.call187, sound_s_l04Orthocentre⟩, ⟨Tryz.call186, sound_s_l04Circumcentre⟩, ⟨Tryz.call181, sound_s_l01Through⟩, True.intro⟩, tblM_ok True.intro⟩
def Fo_s_ThreeEulerLines (p : Int) (a b c : P2) : Option ((Nat × List Int) × Int) :=
 (if ((s_l04Code p 0 a b c) != 0) = true then some ((0, []), (s_l04Code p 0 a b c)) else (if (prB p) = true then (if (prB p) = true then (if ((s_l04Orthocentre p 0 a b c) == (s_l04Circumcentre p 0 a b c)) = true then some ((0, []), 5) else (if (prB p) = true then (if (prB p) = true then (if (prB p) = true then (if ((s_l04Orthocentre p 1 a b c) == (s_l04Circumcentre p 1 a b c)) = true then some ((0, []), 5) else (if (prB p) = true then (if (prB p) = true then (if (prB p) = true then (if ((s_l04Orthocentre p 2 a b c) == (s_l04Circumcentre p 2 a b c)) = true then some ((0, []), 5) else (if (prB p) = true then some ((3, [(s_l01Through p (s_l04Orthocentre p 0 a b c) (s_l04Circumcentre p 0 a b c)).1, (s_l01Through p (s_l04Orthocentre p 0 a b c) (s_l04Circumcentre p 0 a b c)).2.1, (s_l01Through p (s_l04Orthocentre p 0 a b c) (s_l04Circumcentre p 0 a b c)).2.2, (s_l01Through p (s_l04Orthocentre p 1 a b c) (s_l04Circumcentre p 1 a b c)).1, (s_l01Through p (s_l04Orthocentre p 1 a b c) (s_l04Circumcentre p 1 a b c)).2.1, (s_l01Through p (s_l04Orthocentre p 1 a b c) (s_l04Circumcentre p 1 a b c)).2.2, (s_l01Through p (s_l04Orthocentre p 2 a b c) (s_l04Circumcentre p 2 a b c)).1, (s_l01Through p (s_l04Orthocentre p 2 a b c) (s_l04Circumcentre p 2 a b c)).2.1, (s_l01Through p (s_l04Orthocentre p 2 a b c) (s_l04Circumcentre p 2 a b c)).2.2]), 0) else none)) else none) else none) else none)) else none) else none) else none)) else none) else none))
theorem eq_s_ThreeEulerLines (p : Int) (a b c : P2) : execT Tryz.prog S_s_ThreeEulerLines 240 51 (fun _ => 1000000) dec_l90_3_i [.v (.int .i64 p), .v (.agg ⟨[.int .i64 a.1, .int .i64 a.2]⟩), .v (.agg ⟨[.int .i64 b.1, .int .i64 b.2]⟩), .v (.agg ⟨[.int .i64 c.1, .int .i64 c.2]⟩)] = Fo_s_ThreeEulerLines p a b c := by
 kernel_rfl
def s_ThreeEulerLines (p : Int) (a b c : P2) : (Nat × List Int) × Int :=
 (if ((s_l04Code p 0 a b c) != 0) = true then ((0, []), (s_l04Code p 0 a b c)) else (if ((s_l04Orthocentre p 0 a b c) == (s_l04Circumcentre p 0 a b c)) = true then ((0, []), 5) else (if ((s_l04Orthocentre p 1 a b c) == (s_l04Circumcentre p 1 a b c)) = true then ((0, []), 5) else (if ((s_l04Orthocentre p 2 a b c) == (s_l04Circumcentre p 2 a b c)) = true then ((0, []), 5) else ((3, [(s_l01Through p (s_l04Orthocentre p 0 a b c) (s_l04Circumcentre p 0 a b c)).1, (s_l01Through p (s_l04Orthocentre p 0 a b c) (s_l04Circumcentre p 0 a b c)).2.1, (s_l01Through p (s_l04Orthocentre p 0 a b c) (s_l04Circumcentre p 0 a b c)).2.2, (s_l01Through p (s_l04Orthocentre p 1 a b c) (s_l04Circumcentre p 1 a b c)).1, (s_l01Through p (s_l04Orthocentre p 1 a b c) (s_l04Circumcentre p 1 a b c)).2.1, (s_l01Through p (s_l04Orthocentre p 1 a b c) (s_l04Circumcentre p 1 a b c)).2.2, (s_l01Through p (s_l04Orthocentre p 2 a b c) (s_l04Circumcentre p 2 a b c)).1, (s_l01Through p (s_l04Orthocentre p 2 a b c) (s_l04Circumcentre p 2 a b c)).2.1, (s_l01Through p (s_l04Orthocentre p 2 a b c) (s_l04Circumcentre p 2 a b c)).2.2]), 0)))))
theorem tot_s_ThreeEulerLines (p : Int) (a b c : P2) : Fo_s_ThreeEulerLines p a b c = some (s_ThreeEulerLines p a b c) := by
 unfold Fo_s_ThreeEulerLines s_ThreeEulerLines
 (try simp only [wI_eq])
 repeat' (first | with_reducible rfl | refine chk_opt (by first | with_reducible rfl | exact Bool.true_or _ | (have hq : prB p = true := (by (first | (with_reducible assumption) | (with_reducible exact l04Code_prB ‹_›) | (with_reducible exact l04Code_prB0 ‹_›))); first | exact hq | exact mk_ok hq | exact and_all hq (fun _ => rfl) | exact and_all hq (fun _ => hq) | exact and3 hq hq hq | exact and_two hq rfl | exact map3_ok hq) | rfl) ?_ | refine ite_opt (fun _ => ?_) (fun _ => ?_) | rfl)
def run_s_ThreeEulerLines : RunP
 | [.v (.int .i64 p), .v (.agg ⟨[.int .i64 a0, .int .i64 a1]⟩), .v (.agg ⟨[.int .i64 b0, .int .i64 b1]⟩), .v (.agg ⟨[.int .i64 c0, .int .i64 c1]⟩)] => some (true, enc_l90_3_i (s_ThreeEulerLines p (a0, a1) (b0, b1) (c0, c1)))
 | _ => none
theorem sound_s_ThreeEulerLines : Sound Tryz.prog 240 run_s_ThreeEulerLines := by
 refine sound_1 de_l90_3_i SO_s_ThreeEulerLines (by kernel_rfl) Tryz.func240 Tryz.ntmps240 rfl (by kernel_rfl) fun q r E => ?_
 unfold run_s_ThreeEulerLines at E
 split at E
 ·obtain ⟨hp, rfl⟩ := so2 E
  rename_i p a0 a1 b0 b1 c0 c1
  exact ⟨_, _, rfl, (eq_s_ThreeEulerLines p (a0, a1) (b0, b1) (c0, c1)).trans (tot_s_ThreeEulerLines p (a0, a1) (b0, b1) (c0, c1))⟩
 ·cases E

def S_i_OrthicPoints : Sums := ⟨tblS [(115, run_i_triangle), (110, run_i_lineThrough), (113, run_i_isNull), (114, run_i_foot)], tblM [], false⟩
theorem SO_i_OrthicPoints : SumsOK Tryz.prog S_i_OrthicPoints := ⟨tblS_ok ⟨⟨Tryz.call115, sound_i_triangle⟩, ⟨Tryz.call110, sound_i_lineThrough⟩, ⟨Tryz.call113, sound_i_isNull⟩, ⟨Tryz.call114, sound_i_foot⟩, True.intro⟩, tblM_ok True.intro⟩
def Fo_i_OrthicPoints (p colour : Int) (a b c : P2) : Option ((Nat × List Int) × Int) :=
 (if ((i_triangle p colour a b c) != 0) = true then some ((0, []), (i_triangle p colour a b c)) else (if (prB p) = true then (if (prB p) = true then (if (prB p) = true then (if (prB p) = true then (if (i_isNull p colour (i_lineThrough p b c)) = true then some ((0, []), 5) else (if (prB p) = true then (if (prB p) = true then (if (i_isNull p colour (i_lineThrough p a c)) = true then some ((0, []), 5) else (if (prB p) = true then (if (prB p) = true then (if (i_isNull p colour (i_lineThrough p a b)) = true then some ((0, []), 5) else (if (prB p) = true then some ((3, [(i_foot p colour a (i_lineThrough p b c)).1, (i_foot p colour a (i_lineThrough p b c)).2, (i_foot p colour b (i_lineThrough p a c)).1, (i_foot p colour b (i_lineThrough p a c)).2, (i_foot p colour c (i_lineThrough p a b)).1, (i_foot p colour c (i_lineThrough p a b)).2]), 0) else none)) else none) else none)) else none) else none)) else none) else none) else none) else none))
theorem eq_i_OrthicPoints (p colour : Int) (a b c : P2) : execT Tryz.prog S_i_OrthicPoints 83 70 (fun _ => 1000000) dec_l25_2_i [.v (.int .i64 p), .v (.int .i64 colour), .v (.agg ⟨[.int .i64 a.1, .int .i64 a.2]⟩), .v (.agg ⟨[.int .i64 b.1, .int .i64 b.2]⟩), .v (.agg ⟨[.int .i64 c.1, .int .i64 c.2]⟩)] = Fo_i_OrthicPoints p colour a b c := by
 kernel_rfl
def i_OrthicPoints (p colour : Int) (a b c : P2) : (Nat × List Int) × Int :=
 (if ((i_triangle p colour a b c) != 0) = true then ((0, []), (i_triangle p colour a b c)) else (if (i_isNull p colour (i_lineThrough p b c)) = true then ((0, []), 5) else (if (i_isNull p colour (i_lineThrough p a c)) = true then ((0, []), 5) else (if (i_isNull p colour (i_lineThrough p a b)) = true then ((0, []), 5) else ((3, [(i_foot p colour a (i_lineThrough p b c)).1, (i_foot p colour a (i_lineThrough p b c)).2, (i_foot p colour b (i_lineThrough p a c)).1, (i_foot p colour b (i_lineThrough p a c)).2, (i_foot p colour c (i_lineThrough p a b)).1, (i_foot p colour c (i_lineThrough p a b)).2]), 0)))))
theorem tot_i_OrthicPoints (p colour : Int) (a b c : P2) : Fo_i_OrthicPoints p colour a b c = some (i_OrthicPoints p colour a b c) := by
 unfold Fo_i_OrthicPoints i_OrthicPoints
 (try simp only [wI_eq])
 repeat' (first | with_reducible rfl | refine chk_opt (by first | with_reducible rfl | exact Bool.true_or _ | (have hq : prB p = true := (by (first | (with_reducible assumption) | (with_reducible exact triangle_prB ‹_›) | (with_reducible exact triangle_prB0 ‹_›))); first | exact hq | exact mk_ok hq | exact and_all hq (fun _ => rfl) | exact and_all hq (fun _ => hq) | exact and3 hq hq hq | exact and_two hq rfl | exact map3_ok hq) | rfl) ?_ | refine ite_opt (fun _ => ?_) (fun _ => ?_) | rfl)
def run_i_OrthicPoints : RunP
 | [.v (.int .i64 p), .v (.int .i64 colour), .v (.agg ⟨[.int .i64 a0, .int .i64 a1]⟩), .v (.agg ⟨[.int .i64 b0, .int .i64 b1]⟩), .v (.agg ⟨[.int .i64 c0, .int .i64 c1]⟩)] => some (true, enc_l25_2_i (i_OrthicPoints p colour (a0, a1) (b0, b1) (c0, c1)))
 | _ => none
theorem sound_i_OrthicPoints : Sound Tryz.prog 83 run_i_OrthicPoints := by
 refine sound_1 de_l25_2_i SO_i_OrthicPoints (by kernel_rfl) Tryz.func83 Tryz.ntmps83 rfl (by kernel_rfl) fun q r E => ?_
 unfold run_i_OrthicPoints at E
 split at E
 ·obtain ⟨hp, rfl⟩ := so2 E
  rename_i p colour a0 a1 b0 b1 c0 c1
  exact ⟨_, _, rfl, (eq_i_OrthicPoints p colour (a0, a1) (b0, b1) (c0, c1)).trans (tot_i_OrthicPoints p colour (a0, a1) (b0, b1) (c0, c1))⟩
 ·cases E

def S_s_OrthicPoints : Sums := ⟨tblS [(185, run_s_l04Code), (181, run_s_l01Through), (184, run_s_l02Foot)], tblM [], false⟩
theorem SO_s_OrthicPoints : SumsOK Tryz.prog S_s_OrthicPoints := ⟨tblS_ok ⟨⟨Tryz.call185, sound_s_l04Code⟩, ⟨Tryz.call181, sound_s_l01Through⟩, ⟨Tryz.call184, sound_s_l02Foot⟩, True.intro⟩, tblM_ok True.intro⟩
def Fo_s_OrthicPoints (p colour : Int) (a b c : P2) : Option ((Nat × List Int) × Int) :=
 (if ((s_l04Code p colour a b c) != 0) = true then some ((0, []), (s_l04Code p colour a b c)) else (if (prB p) = true then (if (prB p) = true then (if (prB p) = true then (if (prB p) = true then (if (!((s_l02Foot p colour a (s_l01Through p b c)).2)) = true then some ((0, []), 5) else (if (prB p) = true then (if (!((s_l02Foot p colour b (s_l01Through p a c)).2)) = true then some ((0, []), 5) else (if (prB p) = true then (if (!((s_l02Foot p colour c (s_l01Through p a b)).2)) = true then some ((0, []), 5) else some ((3, [((s_l02Foot p colour a (s_l01Through p b c)).1).1, ((s_l02Foot p colour a (s_l01Through p b c)).1).2, ((s_l02Foot p colour b (s_l01Through p a c)).1).1, ((s_l02Foot p colour b (s_l01Through p a c)).1).2, ((s_l02Foot p colour c (s_l01Through p a b)).1).1, ((s_l02Foot p colour c (s_l01Through p a b)).1).2]), 0)) else none)) else none)) else none) else none) else none) else none))
theorem eq_s_OrthicPoints (p colour : Int) (a b c : P2) : execT Tryz.prog S_s_OrthicPoints 197 71 (fun _ => 1000000) dec_l25_2_i [.v (.int .i64 p), .v (.int .i64 colour), .v (.agg ⟨[.int .i64 a.1, .int .i64 a.2]⟩), .v (.agg ⟨[.int .i64 b.1, .int .i64 b.2]⟩), .v (.agg ⟨[.int .i64 c.1, .int .i64 c.2]⟩)] = Fo_s_OrthicPoints p colour a b c := by
 kernel_rfl
def s_OrthicPoints (p colour : Int) (a b c : P2) : (Nat × List Int) × Int :=
 (if ((s_l04Code p colour a b c) != 0) = true then ((0, []), (s_l04Code p colour a b c)) else (if (!((s_l02Foot p colour a (s_l01Through p b c)).2)) = true then ((0, []), 5) else (if (!((s_l02Foot p colour b (s_l01Through p a c)).2)) = true then ((0, []), 5) else (if (!((s_l02Foot p colour c (s_l01Through p a b)).2)) = true then ((0, []), 5) else ((3, [((s_l02Foot p colour a (s_l01Through p b c)).1).1, ((s_l02Foot p colour a (s_l01Through p b c)).1).2, ((s_l02Foot p colour b (s_l01Through p a c)).1).1, ((s_l02Foot p colour b (s_l01Through p a c)).1).2, ((s_l02Foot p colour c (s_l01Through p a b)).1).1, ((s_l02Foot p colour c (s_l01Through p a b)).1).2]), 0)))))
theorem tot_s_OrthicPoints (p colour : Int) (a b c : P2) : Fo_s_OrthicPoints p colour a b c = some (s_OrthicPoints p colour a b c) := by
 unfold Fo_s_OrthicPoints s_OrthicPoints
 (try simp only [wI_eq])
 repeat' (first | with_reducible rfl | refine chk_opt (by first | with_reducible rfl | exact Bool.true_or _ | (have hq : prB p = true := (by (first | (with_reducible assumption) | (with_reducible exact l04Code_prB ‹_›) | (with_reducible exact l04Code_prB0 ‹_›))); first | exact hq | exact mk_ok hq | exact and_all hq (fun _ => rfl) | exact and_all hq (fun _ => hq) | exact and3 hq hq hq | exact and_two hq rfl | exact map3_ok hq) | rfl) ?_ | refine ite_opt (fun _ => ?_) (fun _ => ?_) | rfl)
def run_s_OrthicPoints : RunP
 | [.v (.int .i64 p), .v (.int .i64 colour), .v (.agg ⟨[.int .i64 a0, .int .i64 a1]⟩), .v (.agg ⟨[.int .i64 b0, .int .i64 b1]⟩), .v (.agg ⟨[.int .i64 c0, .int .i64 c1]⟩)] => some (true, enc_l25_2_i (s_OrthicPoints p colour (a0, a1) (b0, b1) (c0, c1)))
 | _ => none
theorem sound_s_OrthicPoints : Sound Tryz.prog 197 run_s_OrthicPoints := by
 refine sound_1 de_l25_2_i SO_s_OrthicPoints (by kernel_rfl) Tryz.func197 Tryz.ntmps197 rfl (by kernel_rfl) fun q r E => ?_
 unfold run_s_OrthicPoints at E
 split at E
 ·obtain ⟨hp, rfl⟩ := so2 E
  rename_i p colour a0 a1 b0 b1 c0 c1
  exact ⟨_, _, rfl, (eq_s_OrthicPoints p colour (a0, a1) (b0, b1) (c0, c1)).trans (tot_s_OrthicPoints p colour (a0, a1) (b0, b1) (c0, c1))⟩
 ·cases E

def S_i_AltitudeOf : Sums := ⟨tblS [(115, run_i_triangle), (138, run_i_altitude)], tblM [], false⟩
theorem SO_i_AltitudeOf : SumsOK Tryz.prog S_i_AltitudeOf := ⟨tblS_ok ⟨⟨Tryz.call115, sound_i_triangle⟩, ⟨Tryz.call138, sound_i_altitude⟩, True.intro⟩, tblM_ok True.intro⟩
def Fo_i_AltitudeOf (p colour : Int) (a b c : P2) : Option ((Int × Int × Int) × Int) :=
 (if ((i_triangle p colour a b c) != 0) = true then some ((0, 0, 0), (i_triangle p colour a b c)) else (if (prB p) = true then some ((i_altitude p colour a b c), 0) else none))
theorem eq_i_AltitudeOf (p colour : Int) (a b c : P2) : execT Tryz.prog S_i_AltitudeOf 81 29 (fun _ => 1000000) dec_a3_i [.v (.int .i64 p), .v (.int .i64 colour), .v (.agg ⟨[.int .i64 a.1, .int .i64 a.2]⟩), .v (.agg ⟨[.int .i64 b.1, .int .i64 b.2]⟩), .v (.agg ⟨[.int .i64 c.1, .int .i64 c.2]⟩)] = Fo_i_AltitudeOf p colour a b c := by
 kernel_rfl
def i_AltitudeOf (p colour : Int) (a b c : P2) : (Int × Int × Int) × Int :=
 (if ((i_triangle p colour a b c) != 0) = true then ((0, 0, 0), (i_triangle p colour a b c)) else ((i_altitude p colour a b c), 0))
theorem tot_i_AltitudeOf (p colour : Int) (a b c : P2) : Fo_i_AltitudeOf p colour a b c = some (i_AltitudeOf p colour a b c) := by
 unfold Fo_i_AltitudeOf i_AltitudeOf
 (try simp only [wI_eq])
 repeat' (first | with_reducible rfl | refine chk_opt (by first | with_reducible rfl | exact Bool.true_or _ | (have hq : prB p = true := (by (first | (with_reducible assumption) | (with_reducible exact triangle_prB ‹_›) | (with_reducible exact triangle_prB0 ‹_›))); first | exact hq | exact mk_ok hq | exact and_all hq (fun _ => rfl) | exact and_all hq (fun _ => hq) | exact and3 hq hq hq | exact and_two hq rfl | exact map3_ok hq) | rfl) ?_ | refine ite_opt (fun _ => ?_) (fun _ => ?_) | rfl)
def run_i_AltitudeOf : RunP
 | [.v (.int .i64 p), .v (.int .i64 colour), .v (.agg ⟨[.int .i64 a0, .int .i64 a1]⟩), .v (.agg ⟨[.int .i64 b0, .int .i64 b1]⟩), .v (.agg ⟨[.int .i64 c0, .int .i64 c1]⟩)] => some (true, enc_a3_i (i_AltitudeOf p colour (a0, a1) (b0, b1) (c0, c1)))
 | _ => none
theorem sound_i_AltitudeOf : Sound Tryz.prog 81 run_i_AltitudeOf := by
 refine sound_1 de_a3_i SO_i_AltitudeOf (by kernel_rfl) Tryz.func81 Tryz.ntmps81 rfl (by kernel_rfl) fun q r E => ?_
 unfold run_i_AltitudeOf at E
 split at E
 ·obtain ⟨hp, rfl⟩ := so2 E
  rename_i p colour a0 a1 b0 b1 c0 c1
  exact ⟨_, _, rfl, (eq_i_AltitudeOf p colour (a0, a1) (b0, b1) (c0, c1)).trans (tot_i_AltitudeOf p colour (a0, a1) (b0, b1) (c0, c1))⟩
 ·cases E

def S_s_AltitudeOf : Sums := ⟨tblS [(185, run_s_l04Code), (229, run_s_l04Altitude)], tblM [], false⟩
theorem SO_s_AltitudeOf : SumsOK Tryz.prog S_s_AltitudeOf := ⟨tblS_ok ⟨⟨Tryz.call185, sound_s_l04Code⟩, ⟨Tryz.call229, sound_s_l04Altitude⟩, True.intro⟩, tblM_ok True.intro⟩
def Fo_s_AltitudeOf (p colour : Int) (a b c : P2) : Option ((Int × Int × Int) × Int) :=
 (if ((s_l04Code p colour a b c) != 0) = true then some ((0, 0, 0), (s_l04Code p colour a b c)) else (if (prB p) = true then some ((s_l04Altitude p colour a b c), 0) else none))
theorem eq_s_AltitudeOf (p colour : Int) (a b c : P2) : execT Tryz.prog S_s_AltitudeOf 237 29 (fun _ => 1000000) dec_a3_i [.v (.int .i64 p), .v (.int .i64 colour), .v (.agg ⟨[.int .i64 a.1, .int .i64 a.2]⟩), .v (.agg ⟨[.int .i64 b.1, .int .i64 b.2]⟩), .v (.agg ⟨[.int .i64 c.1, .int .i64 c.2]⟩)] = Fo_s_AltitudeOf p colour a b c := by
 kernel_rfl
def s_AltitudeOf (p colour : Int) (a b c : P2) : (Int × Int × Int) × Int :=
 (if ((s_l04Code p colour a b c) != 0) = true then ((0, 0, 0), (s_l04Code p colour a b c)) else ((s_l04Altitude p colour a b c), 0))
theorem tot_s_AltitudeOf (p colour : Int) (a b c : P2) : Fo_s_AltitudeOf p colour a b c = some (s_AltitudeOf p colour a b c) := by
 unfold Fo_s_AltitudeOf s_AltitudeOf
 (try simp only [wI_eq])
 repeat' (first | with_reducible rfl | refine chk_opt (by first | with_reducible rfl | exact Bool.true_or _ | (have hq : prB p = true := (by (first | (with_reducible assumption) | (with_reducible exact l04Code_prB ‹_›) | (with_reducible exact l04Code_prB0 ‹_›))); first | exact hq | exact mk_ok hq | exact and_all hq (fun _ => rfl) | exact and_all hq (fun _ => hq) | exact and3 hq hq hq | exact and_two hq rfl | exact map3_ok hq) | rfl) ?_ | refine ite_opt (fun _ => ?_) (fun _ => ?_) | rfl)
def run_s_AltitudeOf : RunP
 | [.v (.int .i64 p), .v (.int .i64 colour), .v (.agg ⟨[.int .i64 a0, .int .i64 a1]⟩), .v (.agg ⟨[.int .i64 b0, .int .i64 b1]⟩), .v (.agg ⟨[.int .i64 c0, .int .i64 c1]⟩)] => some (true, enc_a3_i (s_AltitudeOf p colour (a0, a1) (b0, b1) (c0, c1)))
 | _ => none
theorem sound_s_AltitudeOf : Sound Tryz.prog 237 run_s_AltitudeOf := by
 refine sound_1 de_a3_i SO_s_AltitudeOf (by kernel_rfl) Tryz.func237 Tryz.ntmps237 rfl (by kernel_rfl) fun q r E => ?_
 unfold run_s_AltitudeOf at E
 split at E
 ·obtain ⟨hp, rfl⟩ := so2 E
  rename_i p colour a0 a1 b0 b1 c0 c1
  exact ⟨_, _, rfl, (eq_s_AltitudeOf p colour (a0, a1) (b0, b1) (c0, c1)).trans (tot_s_AltitudeOf p colour (a0, a1) (b0, b1) (c0, c1))⟩
 ·cases E

end

end Go.Proofs.YtcdpfpfbilfpoaaGreatDoor
