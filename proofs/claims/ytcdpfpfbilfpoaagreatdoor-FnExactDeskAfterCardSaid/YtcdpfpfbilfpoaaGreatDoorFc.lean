import Derived.Test.YtcdpfpfbilfpoaaGreatDoorFa
import Derived.Test.YtcdpfpfbilfpoaaGreatDoorProg
set_option linter.unusedSimpArgs false
set_option linter.unusedVariables false
namespace Go.Proofs.YtcdpfpfbilfpoaaGreatDoor
open Go.RowKit Tryz
noncomputable section
def S_i_CircumcentreOf : Sums := ⟨tblS [(115, run_i_triangle), (116, run_i_circumcentre)], tblM [], false⟩
theorem SO_i_CircumcentreOf : SumsOK prog S_i_CircumcentreOf := ⟨tblS_ok ⟨⟨call115, sound_i_triangle⟩, ⟨call116, sound_i_circumcentre⟩, ⟨⟩⟩, tM⟩
def Fo_i_CircumcentreOf (p colour : Int) (a b c : P2) : Option ((Int × Int) × Int) :=
 (if ((i_triangle p colour a b c) != 0) = true then some ((0, 0), (i_triangle p colour a b c)) else (if (prB p) = true then some ((i_circumcentre p colour a b c), 0) else none))
theorem eq_i_CircumcentreOf (p colour : Int) (a b c : P2) : eT S_i_CircumcentreOf 60 29 dec_a2_i [pI p, pI colour, pA a, pA b, pA c] = Fo_i_CircumcentreOf p colour a b c := by
 kernel_rfl
def i_CircumcentreOf (p colour : Int) (a b c : P2) : (Int × Int) × Int :=
 (if ((i_triangle p colour a b c) != 0) = true then ((0, 0), (i_triangle p colour a b c)) else ((i_circumcentre p colour a b c), 0))
theorem tot_i_CircumcentreOf (p colour : Int) (a b c : P2) : Fo_i_CircumcentreOf p colour a b c = some (i_CircumcentreOf p colour a b c) := by
 unfold Fo_i_CircumcentreOf i_CircumcentreOf
 (try simp only [wI_eq])
 repeat' (first | with_reducible rfl | refine chk_opt (by (first | (with_reducible assumption) | (with_reducible exact triangle_prB ‹_›) | (with_reducible exact triangle_prB0 ‹_›))) ?_ | refine ite_opt (fun _ => ?_) (fun _ => ?_) | rfl)
def run_i_CircumcentreOf : RunP
 | [.v (.int .i64 p), .v (.int .i64 colour), .v (.agg ⟨[.int .i64 a0, .int .i64 a1]⟩), .v (.agg ⟨[.int .i64 b0, .int .i64 b1]⟩), .v (.agg ⟨[.int .i64 c0, .int .i64 c1]⟩)] => some (true, enc_a2_i (i_CircumcentreOf p colour (a0, a1) (b0, b1) (c0, c1)))
 | _ => none
theorem sound_i_CircumcentreOf : Sound prog 60 run_i_CircumcentreOf := by
 refine sound_1 de_a2_i SO_i_CircumcentreOf (by kernel_rfl) func60 ntmps60 rfl (by kernel_rfl) fun q r E => ?_
 unfold run_i_CircumcentreOf at E
 split at E
 ·obtain ⟨hp, rfl⟩ := so2 E
  rename_i p colour a0 a1 b0 b1 c0 c1
  exact ⟨_, _, rfl, (eq_i_CircumcentreOf p colour (a0, a1) (b0, b1) (c0, c1)).trans (tot_i_CircumcentreOf p colour (a0, a1) (b0, b1) (c0, c1))⟩
 ·cases E

def S_s_CircumcentreOf : Sums := ⟨tblS [(185, run_s_l04Code), (186, run_s_l04Circumcentre)], tblM [], false⟩
theorem SO_s_CircumcentreOf : SumsOK prog S_s_CircumcentreOf := ⟨tblS_ok ⟨⟨call185, sound_s_l04Code⟩, ⟨call186, sound_s_l04Circumcentre⟩, ⟨⟩⟩, tM⟩
def Fo_s_CircumcentreOf (p colour : Int) (a b c : P2) : Option ((Int × Int) × Int) :=
 (if ((s_l04Code p colour a b c) != 0) = true then some ((0, 0), (s_l04Code p colour a b c)) else (if (prB p) = true then some ((s_l04Circumcentre p colour a b c), 0) else none))
theorem eq_s_CircumcentreOf (p colour : Int) (a b c : P2) : eT S_s_CircumcentreOf 149 29 dec_a2_i [pI p, pI colour, pA a, pA b, pA c] = Fo_s_CircumcentreOf p colour a b c := by
 kernel_rfl
def s_CircumcentreOf (p colour : Int) (a b c : P2) : (Int × Int) × Int :=
 (if ((s_l04Code p colour a b c) != 0) = true then ((0, 0), (s_l04Code p colour a b c)) else ((s_l04Circumcentre p colour a b c), 0))
theorem tot_s_CircumcentreOf (p colour : Int) (a b c : P2) : Fo_s_CircumcentreOf p colour a b c = some (s_CircumcentreOf p colour a b c) := by
 unfold Fo_s_CircumcentreOf s_CircumcentreOf
 (try simp only [wI_eq])
 repeat' (first | with_reducible rfl | refine chk_opt (by (first | (with_reducible assumption) | (with_reducible exact l04Code_prB ‹_›) | (with_reducible exact l04Code_prB0 ‹_›))) ?_ | refine ite_opt (fun _ => ?_) (fun _ => ?_) | rfl)
def run_s_CircumcentreOf : RunP
 | [.v (.int .i64 p), .v (.int .i64 colour), .v (.agg ⟨[.int .i64 a0, .int .i64 a1]⟩), .v (.agg ⟨[.int .i64 b0, .int .i64 b1]⟩), .v (.agg ⟨[.int .i64 c0, .int .i64 c1]⟩)] => some (true, enc_a2_i (s_CircumcentreOf p colour (a0, a1) (b0, b1) (c0, c1)))
 | _ => none
theorem sound_s_CircumcentreOf : Sound prog 149 run_s_CircumcentreOf := by
 refine sound_1 de_a2_i SO_s_CircumcentreOf (by kernel_rfl) func149 ntmps149 rfl (by kernel_rfl) fun q r E => ?_
 unfold run_s_CircumcentreOf at E
 split at E
 ·obtain ⟨hp, rfl⟩ := so2 E
  rename_i p colour a0 a1 b0 b1 c0 c1
  exact ⟨_, _, rfl, (eq_s_CircumcentreOf p colour (a0, a1) (b0, b1) (c0, c1)).trans (tot_s_CircumcentreOf p colour (a0, a1) (b0, b1) (c0, c1))⟩
 ·cases E

def S_i_OrthocentreOf : Sums := ⟨tblS [(115, run_i_triangle), (117, run_i_orthocentre)], tblM [], false⟩
theorem SO_i_OrthocentreOf : SumsOK prog S_i_OrthocentreOf := ⟨tblS_ok ⟨⟨call115, sound_i_triangle⟩, ⟨call117, sound_i_orthocentre⟩, ⟨⟩⟩, tM⟩
def Fo_i_OrthocentreOf (p colour : Int) (a b c : P2) : Option ((Int × Int) × Int) :=
 (if ((i_triangle p colour a b c) != 0) = true then some ((0, 0), (i_triangle p colour a b c)) else (if (prB p) = true then some ((i_orthocentre p colour a b c), 0) else none))
theorem eq_i_OrthocentreOf (p colour : Int) (a b c : P2) : eT S_i_OrthocentreOf 61 29 dec_a2_i [pI p, pI colour, pA a, pA b, pA c] = Fo_i_OrthocentreOf p colour a b c := by
 kernel_rfl
def i_OrthocentreOf (p colour : Int) (a b c : P2) : (Int × Int) × Int :=
 (if ((i_triangle p colour a b c) != 0) = true then ((0, 0), (i_triangle p colour a b c)) else ((i_orthocentre p colour a b c), 0))
theorem tot_i_OrthocentreOf (p colour : Int) (a b c : P2) : Fo_i_OrthocentreOf p colour a b c = some (i_OrthocentreOf p colour a b c) := by
 unfold Fo_i_OrthocentreOf i_OrthocentreOf
 (try simp only [wI_eq])
 repeat' (first | with_reducible rfl | refine chk_opt (by (first | (with_reducible assumption) | (with_reducible exact triangle_prB ‹_›) | (with_reducible exact triangle_prB0 ‹_›))) ?_ | refine ite_opt (fun _ => ?_) (fun _ => ?_) | rfl)
def run_i_OrthocentreOf : RunP
 | [.v (.int .i64 p), .v (.int .i64 colour), .v (.agg ⟨[.int .i64 a0, .int .i64 a1]⟩), .v (.agg ⟨[.int .i64 b0, .int .i64 b1]⟩), .v (.agg ⟨[.int .i64 c0, .int .i64 c1]⟩)] => some (true, enc_a2_i (i_OrthocentreOf p colour (a0, a1) (b0, b1) (c0, c1)))
 | _ => none
theorem sound_i_OrthocentreOf : Sound prog 61 run_i_OrthocentreOf := by
 refine sound_1 de_a2_i SO_i_OrthocentreOf (by kernel_rfl) func61 ntmps61 rfl (by kernel_rfl) fun q r E => ?_
 unfold run_i_OrthocentreOf at E
 split at E
 ·obtain ⟨hp, rfl⟩ := so2 E
  rename_i p colour a0 a1 b0 b1 c0 c1
  exact ⟨_, _, rfl, (eq_i_OrthocentreOf p colour (a0, a1) (b0, b1) (c0, c1)).trans (tot_i_OrthocentreOf p colour (a0, a1) (b0, b1) (c0, c1))⟩
 ·cases E

def S_s_OrthocentreOf : Sums := ⟨tblS [(185, run_s_l04Code), (187, run_s_l04Orthocentre)], tblM [], false⟩
theorem SO_s_OrthocentreOf : SumsOK prog S_s_OrthocentreOf := ⟨tblS_ok ⟨⟨call185, sound_s_l04Code⟩, ⟨call187, sound_s_l04Orthocentre⟩, ⟨⟩⟩, tM⟩
def Fo_s_OrthocentreOf (p colour : Int) (a b c : P2) : Option ((Int × Int) × Int) :=
 (if ((s_l04Code p colour a b c) != 0) = true then some ((0, 0), (s_l04Code p colour a b c)) else (if (prB p) = true then some ((s_l04Orthocentre p colour a b c), 0) else none))
theorem eq_s_OrthocentreOf (p colour : Int) (a b c : P2) : eT S_s_OrthocentreOf 150 29 dec_a2_i [pI p, pI colour, pA a, pA b, pA c] = Fo_s_OrthocentreOf p colour a b c := by
 kernel_rfl
def s_OrthocentreOf (p colour : Int) (a b c : P2) : (Int × Int) × Int :=
 (if ((s_l04Code p colour a b c) != 0) = true then ((0, 0), (s_l04Code p colour a b c)) else ((s_l04Orthocentre p colour a b c), 0))
theorem tot_s_OrthocentreOf (p colour : Int) (a b c : P2) : Fo_s_OrthocentreOf p colour a b c = some (s_OrthocentreOf p colour a b c) := by
 unfold Fo_s_OrthocentreOf s_OrthocentreOf
 (try simp only [wI_eq])
 repeat' (first | with_reducible rfl | refine chk_opt (by (first | (with_reducible assumption) | (with_reducible exact l04Code_prB ‹_›) | (with_reducible exact l04Code_prB0 ‹_›))) ?_ | refine ite_opt (fun _ => ?_) (fun _ => ?_) | rfl)
def run_s_OrthocentreOf : RunP
 | [.v (.int .i64 p), .v (.int .i64 colour), .v (.agg ⟨[.int .i64 a0, .int .i64 a1]⟩), .v (.agg ⟨[.int .i64 b0, .int .i64 b1]⟩), .v (.agg ⟨[.int .i64 c0, .int .i64 c1]⟩)] => some (true, enc_a2_i (s_OrthocentreOf p colour (a0, a1) (b0, b1) (c0, c1)))
 | _ => none
theorem sound_s_OrthocentreOf : Sound prog 150 run_s_OrthocentreOf := by
 refine sound_1 de_a2_i SO_s_OrthocentreOf (by kernel_rfl) func150 ntmps150 rfl (by kernel_rfl) fun q r E => ?_
 unfold run_s_OrthocentreOf at E
 split at E
 ·obtain ⟨hp, rfl⟩ := so2 E
  rename_i p colour a0 a1 b0 b1 c0 c1
  exact ⟨_, _, rfl, (eq_s_OrthocentreOf p colour (a0, a1) (b0, b1) (c0, c1)).trans (tot_s_OrthocentreOf p colour (a0, a1) (b0, b1) (c0, c1))⟩
 ·cases E

def S_i_EulerLineOf : Sums := ⟨tblS [(115, run_i_triangle), (117, run_i_orthocentre), (116, run_i_circumcentre), (110, run_i_lineThrough)], tblM [], false⟩
theorem SO_i_EulerLineOf : SumsOK prog S_i_EulerLineOf := ⟨tblS_ok ⟨⟨call115, sound_i_triangle⟩, ⟨call117, sound_i_orthocentre⟩, ⟨call116, sound_i_circumcentre⟩, ⟨call110, sound_i_lineThrough⟩, ⟨⟩⟩, tM⟩
def Fo_i_EulerLineOf (p colour : Int) (a b c : P2) : Option ((Int × Int × Int) × Int) :=
 (if ((i_triangle p colour a b c) != 0) = true then some ((0, 0, 0), (i_triangle p colour a b c)) else (if (prB p) = true then (if (prB p) = true then (if ((i_orthocentre p colour a b c) == (i_circumcentre p colour a b c)) = true then some ((0, 0, 0), 5) else (if (prB p) = true then some ((i_lineThrough p (i_orthocentre p colour a b c) (i_circumcentre p colour a b c)), 0) else none)) else none) else none))
theorem eq_i_EulerLineOf (p colour : Int) (a b c : P2) : eT S_i_EulerLineOf 82 45 dec_a3_i [pI p, pI colour, pA a, pA b, pA c] = Fo_i_EulerLineOf p colour a b c := by
 kernel_rfl
def i_EulerLineOf (p colour : Int) (a b c : P2) : (Int × Int × Int) × Int :=
 (if ((i_triangle p colour a b c) != 0) = true then ((0, 0, 0), (i_triangle p colour a b c)) else (if ((i_orthocentre p colour a b c) == (i_circumcentre p colour a b c)) = true then ((0, 0, 0), 5) else ((i_lineThrough p (i_orthocentre p colour a b c) (i_circumcentre p colour a b c)), 0)))
theorem tot_i_EulerLineOf (p colour : Int) (a b c : P2) : Fo_i_EulerLineOf p colour a b c = some (i_EulerLineOf p colour a b c) := by
 unfold Fo_i_EulerLineOf i_EulerLineOf
 (try simp only [wI_eq])
 repeat' (first | with_reducible rfl | refine chk_opt (by (first | (with_reducible assumption) | (with_reducible exact triangle_prB ‹_›) | (with_reducible exact triangle_prB0 ‹_›))) ?_ | refine ite_opt (fun _ => ?_) (fun _ => ?_) | rfl)
def run_i_EulerLineOf : RunP
 | [.v (.int .i64 p), .v (.int .i64 colour), .v (.agg ⟨[.int .i64 a0, .int .i64 a1]⟩), .v (.agg ⟨[.int .i64 b0, .int .i64 b1]⟩), .v (.agg ⟨[.int .i64 c0, .int .i64 c1]⟩)] => some (true, enc_a3_i (i_EulerLineOf p colour (a0, a1) (b0, b1) (c0, c1)))
 | _ => none
theorem sound_i_EulerLineOf : Sound prog 82 run_i_EulerLineOf := by
 refine sound_1 de_a3_i SO_i_EulerLineOf (by kernel_rfl) func82 ntmps82 rfl (by kernel_rfl) fun q r E => ?_
 unfold run_i_EulerLineOf at E
 split at E
 ·obtain ⟨hp, rfl⟩ := so2 E
  rename_i p colour a0 a1 b0 b1 c0 c1
  exact ⟨_, _, rfl, (eq_i_EulerLineOf p colour (a0, a1) (b0, b1) (c0, c1)).trans (tot_i_EulerLineOf p colour (a0, a1) (b0, b1) (c0, c1))⟩
 ·cases E

def S_s_EulerLineOf : Sums := ⟨tblS [(185, run_s_l04Code), (187, run_s_l04Orthocentre), (186, run_s_l04Circumcentre), (181, run_s_l01Through)], tblM [], false⟩
theorem SO_s_EulerLineOf : SumsOK prog S_s_EulerLineOf := ⟨tblS_ok ⟨⟨call185, sound_s_l04Code⟩, ⟨call187, sound_s_l04Orthocentre⟩, ⟨call186, sound_s_l04Circumcentre⟩, ⟨call181, sound_s_l01Through⟩, ⟨⟩⟩, tM⟩
def Fo_s_EulerLineOf (p colour : Int) (a b c : P2) : Option ((Int × Int × Int) × Int) :=
 (if ((s_l04Code p colour a b c) != 0) = true then some ((0, 0, 0), (s_l04Code p colour a b c)) else (if (prB p) = true then (if (prB p) = true then (if ((s_l04Orthocentre p colour a b c) == (s_l04Circumcentre p colour a b c)) = true then some ((0, 0, 0), 5) else (if (prB p) = true then some ((s_l01Through p (s_l04Orthocentre p colour a b c) (s_l04Circumcentre p colour a b c)), 0) else none)) else none) else none))
theorem eq_s_EulerLineOf (p colour : Int) (a b c : P2) : eT S_s_EulerLineOf 238 45 dec_a3_i [pI p, pI colour, pA a, pA b, pA c] = Fo_s_EulerLineOf p colour a b c := by
 kernel_rfl
def s_EulerLineOf (p colour : Int) (a b c : P2) : (Int × Int × Int) × Int :=
 (if ((s_l04Code p colour a b c) != 0) = true then ((0, 0, 0), (s_l04Code p colour a b c)) else (if ((s_l04Orthocentre p colour a b c) == (s_l04Circumcentre p colour a b c)) = true then ((0, 0, 0), 5) else ((s_l01Through p (s_l04Orthocentre p colour a b c) (s_l04Circumcentre p colour a b c)), 0)))
theorem tot_s_EulerLineOf (p colour : Int) (a b c : P2) : Fo_s_EulerLineOf p colour a b c = some (s_EulerLineOf p colour a b c) := by
 unfold Fo_s_EulerLineOf s_EulerLineOf
 (try simp only [wI_eq])
 repeat' (first | with_reducible rfl | refine chk_opt (by (first | (with_reducible assumption) | (with_reducible exact l04Code_prB ‹_›) | (with_reducible exact l04Code_prB0 ‹_›))) ?_ | refine ite_opt (fun _ => ?_) (fun _ => ?_) | rfl)
def run_s_EulerLineOf : RunP
 | [.v (.int .i64 p), .v (.int .i64 colour), .v (.agg ⟨[.int .i64 a0, .int .i64 a1]⟩), .v (.agg ⟨[.int .i64 b0, .int .i64 b1]⟩), .v (.agg ⟨[.int .i64 c0, .int .i64 c1]⟩)] => some (true, enc_a3_i (s_EulerLineOf p colour (a0, a1) (b0, b1) (c0, c1)))
 | _ => none
theorem sound_s_EulerLineOf : Sound prog 238 run_s_EulerLineOf := by
 refine sound_1 de_a3_i SO_s_EulerLineOf (by kernel_rfl) func238 ntmps238 rfl (by kernel_rfl) fun q r E => ?_
 unfold run_s_EulerLineOf at E
 split at E
 ·obtain ⟨hp, rfl⟩ := so2 E
  rename_i p colour a0 a1 b0 b1 c0 c1
  exact ⟨_, _, rfl, (eq_s_EulerLineOf p colour (a0, a1) (b0, b1) (c0, c1)).trans (tot_s_EulerLineOf p colour (a0, a1) (b0, b1) (c0, c1))⟩
 ·cases E

def S_i_ThreeEulerLines : Sums := ⟨tblS [(82, run_i_EulerLineOf)], tblM [], false⟩
theorem SO_i_ThreeEulerLines : SumsOK prog S_i_ThreeEulerLines := ⟨tblS_ok ⟨⟨call82, sound_i_EulerLineOf⟩, ⟨⟩⟩, tM⟩
def Fo_i_ThreeEulerLines (p : Int) (a b c : P2) : Option ((Nat × List Int) × Int) :=
 (if (((i_EulerLineOf p 0 a b c).2) != 0) = true then some ((0, []), (i_EulerLineOf p 0 a b c).2) else (if (((i_EulerLineOf p 1 a b c).2) != 0) = true then some ((0, []), (i_EulerLineOf p 1 a b c).2) else (if (((i_EulerLineOf p 2 a b c).2) != 0) = true then some ((0, []), (i_EulerLineOf p 2 a b c).2) else some ((3, [((i_EulerLineOf p 0 a b c).1).1, ((i_EulerLineOf p 0 a b c).1).2.1, ((i_EulerLineOf p 0 a b c).1).2.2, ((i_EulerLineOf p 1 a b c).1).1, ((i_EulerLineOf p 1 a b c).1).2.1, ((i_EulerLineOf p 1 a b c).1).2.2, ((i_EulerLineOf p 2 a b c).1).1, ((i_EulerLineOf p 2 a b c).1).2.1, ((i_EulerLineOf p 2 a b c).1).2.2]), 0))))
theorem eq_i_ThreeEulerLines (p : Int) (a b c : P2) : eT S_i_ThreeEulerLines 87 36 dec_l90_3_i [pI p, pA a, pA b, pA c] = Fo_i_ThreeEulerLines p a b c := by
 kernel_rfl
def i_ThreeEulerLines (p : Int) (a b c : P2) : (Nat × List Int) × Int :=
 (if (((i_EulerLineOf p 0 a b c).2) != 0) = true then ((0, []), (i_EulerLineOf p 0 a b c).2) else (if (((i_EulerLineOf p 1 a b c).2) != 0) = true then ((0, []), (i_EulerLineOf p 1 a b c).2) else (if (((i_EulerLineOf p 2 a b c).2) != 0) = true then ((0, []), (i_EulerLineOf p 2 a b c).2) else ((3, [((i_EulerLineOf p 0 a b c).1).1, ((i_EulerLineOf p 0 a b c).1).2.1, ((i_EulerLineOf p 0 a b c).1).2.2, ((i_EulerLineOf p 1 a b c).1).1, ((i_EulerLineOf p 1 a b c).1).2.1, ((i_EulerLineOf p 1 a b c).1).2.2, ((i_EulerLineOf p 2 a b c).1).1, ((i_EulerLineOf p 2 a b c).1).2.1, ((i_EulerLineOf p 2 a b c).1).2.2]), 0))))
theorem tot_i_ThreeEulerLines (p : Int) (a b c : P2) : Fo_i_ThreeEulerLines p a b c = some (i_ThreeEulerLines p a b c) := by
 unfold Fo_i_ThreeEulerLines i_ThreeEulerLines
 (try simp only [wI_eq])
 repeat' (first | with_reducible rfl | refine ite_opt (fun _ => ?_) (fun _ => ?_) | rfl)
def run_i_ThreeEulerLines : RunP
 | [.v (.int .i64 p), .v (.agg ⟨[.int .i64 a0, .int .i64 a1]⟩), .v (.agg ⟨[.int .i64 b0, .int .i64 b1]⟩), .v (.agg ⟨[.int .i64 c0, .int .i64 c1]⟩)] => some (true, enc_l90_3_i (i_ThreeEulerLines p (a0, a1) (b0, b1) (c0, c1)))
 | _ => none
theorem sound_i_ThreeEulerLines : Sound prog 87 run_i_ThreeEulerLines := by
 refine sound_1 de_l90_3_i SO_i_ThreeEulerLines (by kernel_rfl) func87 ntmps87 rfl (by kernel_rfl) fun q r E => ?_
 unfold run_i_ThreeEulerLines at E
 split at E
 ·obtain ⟨hp, rfl⟩ := so2 E
  rename_i p a0 a1 b0 b1 c0 c1
  exact ⟨_, _, rfl, (eq_i_ThreeEulerLines p (a0, a1) (b0, b1) (c0, c1)).trans (tot_i_ThreeEulerLines p (a0, a1) (b0, b1) (c0, c1))⟩
 ·cases E

def S_s_ThreeEulerLines : Sums := ⟨tblS [(185, run_s_l04Code), (187, run_s_l04Orthocentre), (186, run_s_l04Circumcentre), (181, run_s_l01Through)], tblM [], false⟩
theorem SO_s_ThreeEulerLines : SumsOK prog S_s_ThreeEulerLines := ⟨tblS_ok ⟨⟨call185, sound_s_l04Code⟩, ⟨call187, sound_s_l04Orthocentre⟩, ⟨call186, sound_s_l04Circumcentre⟩, ⟨call181, sound_s_l01Through⟩, ⟨⟩⟩, tM⟩
def Fo_s_ThreeEulerLines (p : Int) (a b c : P2) : Option ((Nat × List Int) × Int) :=
 (if ((s_l04Code p 0 a b c) != 0) = true then some ((0, []), (s_l04Code p 0 a b c)) else (if (prB p) = true then (if (prB p) = true then (if ((s_l04Orthocentre p 0 a b c) == (s_l04Circumcentre p 0 a b c)) = true then some ((0, []), 5) else (if (prB p) = true then (if (prB p) = true then (if (prB p) = true then (if ((s_l04Orthocentre p 1 a b c) == (s_l04Circumcentre p 1 a b c)) = true then some ((0, []), 5) else (if (prB p) = true then (if (prB p) = true then (if (prB p) = true then (if ((s_l04Orthocentre p 2 a b c) == (s_l04Circumcentre p 2 a b c)) = true then some ((0, []), 5) else (if (prB p) = true then some ((3, [(s_l01Through p (s_l04Orthocentre p 0 a b c) (s_l04Circumcentre p 0 a b c)).1, (s_l01Through p (s_l04Orthocentre p 0 a b c) (s_l04Circumcentre p 0 a b c)).2.1, (s_l01Through p (s_l04Orthocentre p 0 a b c) (s_l04Circumcentre p 0 a b c)).2.2, (s_l01Through p (s_l04Orthocentre p 1 a b c) (s_l04Circumcentre p 1 a b c)).1, (s_l01Through p (s_l04Orthocentre p 1 a b c) (s_l04Circumcentre p 1 a b c)).2.1, (s_l01Through p (s_l04Orthocentre p 1 a b c) (s_l04Circumcentre p 1 a b c)).2.2, (s_l01Through p (s_l04Orthocentre p 2 a b c) (s_l04Circumcentre p 2 a b c)).1, (s_l01Through p (s_l04Orthocentre p 2 a b c) (s_l04Circumcentre p 2 a b c)).2.1, (s_l01Through p (s_l04Orthocentre p 2 a b c) (s_l04Circumcentre p 2 a b c)).2.2]), 0) else none)) else none) else none) else none)) else none) else none) else none)) else none) else none))
theorem eq_s_ThreeEulerLines (p : Int) (a b c : P2) : eT S_s_ThreeEulerLines 240 51 dec_l90_3_i [pI p, pA a, pA b, pA c] = Fo_s_ThreeEulerLines p a b c := by
 kernel_rfl
def s_ThreeEulerLines (p : Int) (a b c : P2) : (Nat × List Int) × Int :=
 (if ((s_l04Code p 0 a b c) != 0) = true then ((0, []), (s_l04Code p 0 a b c)) else (if ((s_l04Orthocentre p 0 a b c) == (s_l04Circumcentre p 0 a b c)) = true then ((0, []), 5) else (if ((s_l04Orthocentre p 1 a b c) == (s_l04Circumcentre p 1 a b c)) = true then ((0, []), 5) else (if ((s_l04Orthocentre p 2 a b c) == (s_l04Circumcentre p 2 a b c)) = true then ((0, []), 5) else ((3, [(s_l01Through p (s_l04Orthocentre p 0 a b c) (s_l04Circumcentre p 0 a b c)).1, (s_l01Through p (s_l04Orthocentre p 0 a b c) (s_l04Circumcentre p 0 a b c)).2.1, (s_l01Through p (s_l04Orthocentre p 0 a b c) (s_l04Circumcentre p 0 a b c)).2.2, (s_l01Through p (s_l04Orthocentre p 1 a b c) (s_l04Circumcentre p 1 a b c)).1, (s_l01Through p (s_l04Orthocentre p 1 a b c) (s_l04Circumcentre p 1 a b c)).2.1, (s_l01Through p (s_l04Orthocentre p 1 a b c) (s_l04Circumcentre p 1 a b c)).2.2, (s_l01Through p (s_l04Orthocentre p 2 a b c) (s_l04Circumcentre p 2 a b c)).1, (s_l01Through p (s_l04Orthocentre p 2 a b c) (s_l04Circumcentre p 2 a b c)).2.1, (s_l01Through p (s_l04Orthocentre p 2 a b c) (s_l04Circumcentre p 2 a b c)).2.2]), 0)))))
theorem tot_s_ThreeEulerLines (p : Int) (a b c : P2) : Fo_s_ThreeEulerLines p a b c = some (s_ThreeEulerLines p a b c) := by
 unfold Fo_s_ThreeEulerLines s_ThreeEulerLines
 (try simp only [wI_eq])
 repeat' (first | with_reducible rfl | refine chk_opt (by (first | (with_reducible assumption) | (with_reducible exact l04Code_prB ‹_›) | (with_reducible exact l04Code_prB0 ‹_›))) ?_ | refine ite_opt (fun _ => ?_) (fun _ => ?_) | rfl)
def run_s_ThreeEulerLines : RunP
 | [.v (.int .i64 p), .v (.agg ⟨[.int .i64 a0, .int .i64 a1]⟩), .v (.agg ⟨[.int .i64 b0, .int .i64 b1]⟩), .v (.agg ⟨[.int .i64 c0, .int .i64 c1]⟩)] => some (true, enc_l90_3_i (s_ThreeEulerLines p (a0, a1) (b0, b1) (c0, c1)))
 | _ => none
theorem sound_s_ThreeEulerLines : Sound prog 240 run_s_ThreeEulerLines := by
 refine sound_1 de_l90_3_i SO_s_ThreeEulerLines (by kernel_rfl) func240 ntmps240 rfl (by kernel_rfl) fun q r E => ?_
 unfold run_s_ThreeEulerLines at E
 split at E
 ·obtain ⟨hp, rfl⟩ := so2 E
  rename_i p a0 a1 b0 b1 c0 c1
  exact ⟨_, _, rfl, (eq_s_ThreeEulerLines p (a0, a1) (b0, b1) (c0, c1)).trans (tot_s_ThreeEulerLines p (a0, a1) (b0, b1) (c0, c1))⟩
 ·cases E

def S_i_OrthicPoints : Sums := ⟨tblS [(115, run_i_triangle), (110, run_i_lineThrough), (113, run_i_isNull), (114, run_i_foot)], tblM [], false⟩
theorem SO_i_OrthicPoints : SumsOK prog S_i_OrthicPoints := ⟨tblS_ok ⟨⟨call115, sound_i_triangle⟩, ⟨call110, sound_i_lineThrough⟩, ⟨call113, sound_i_isNull⟩, ⟨call114, sound_i_foot⟩, ⟨⟩⟩, tM⟩
def Fo_i_OrthicPoints (p colour : Int) (a b c : P2) : Option ((Nat × List Int) × Int) :=
 (if ((i_triangle p colour a b c) != 0) = true then some ((0, []), (i_triangle p colour a b c)) else (if (prB p) = true then (if (prB p) = true then (if (prB p) = true then (if (prB p) = true then (if (i_isNull p colour (i_lineThrough p b c)) = true then some ((0, []), 5) else (if (prB p) = true then (if (prB p) = true then (if (i_isNull p colour (i_lineThrough p a c)) = true then some ((0, []), 5) else (if (prB p) = true then (if (prB p) = true then (if (i_isNull p colour (i_lineThrough p a b)) = true then some ((0, []), 5) else (if (prB p) = true then some ((3, [(i_foot p colour a (i_lineThrough p b c)).1, (i_foot p colour a (i_lineThrough p b c)).2, (i_foot p colour b (i_lineThrough p a c)).1, (i_foot p colour b (i_lineThrough p a c)).2, (i_foot p colour c (i_lineThrough p a b)).1, (i_foot p colour c (i_lineThrough p a b)).2]), 0) else none)) else none) else none)) else none) else none)) else none) else none) else none) else none))
theorem eq_i_OrthicPoints (p colour : Int) (a b c : P2) : eT S_i_OrthicPoints 83 70 dec_l25_2_i [pI p, pI colour, pA a, pA b, pA c] = Fo_i_OrthicPoints p colour a b c := by
 kernel_rfl
def i_OrthicPoints (p colour : Int) (a b c : P2) : (Nat × List Int) × Int :=
 (if ((i_triangle p colour a b c) != 0) = true then ((0, []), (i_triangle p colour a b c)) else (if (i_isNull p colour (i_lineThrough p b c)) = true then ((0, []), 5) else (if (i_isNull p colour (i_lineThrough p a c)) = true then ((0, []), 5) else (if (i_isNull p colour (i_lineThrough p a b)) = true then ((0, []), 5) else ((3, [(i_foot p colour a (i_lineThrough p b c)).1, (i_foot p colour a (i_lineThrough p b c)).2, (i_foot p colour b (i_lineThrough p a c)).1, (i_foot p colour b (i_lineThrough p a c)).2, (i_foot p colour c (i_lineThrough p a b)).1, (i_foot p colour c (i_lineThrough p a b)).2]), 0)))))
theorem tot_i_OrthicPoints (p colour : Int) (a b c : P2) : Fo_i_OrthicPoints p colour a b c = some (i_OrthicPoints p colour a b c) := by
 unfold Fo_i_OrthicPoints i_OrthicPoints
 (try simp only [wI_eq])
 repeat' (first | with_reducible rfl | refine chk_opt (by (first | (with_reducible assumption) | (with_reducible exact triangle_prB ‹_›) | (with_reducible exact triangle_prB0 ‹_›))) ?_ | refine ite_opt (fun _ => ?_) (fun _ => ?_) | rfl)
def run_i_OrthicPoints : RunP
 | [.v (.int .i64 p), .v (.int .i64 colour), .v (.agg ⟨[.int .i64 a0, .int .i64 a1]⟩), .v (.agg ⟨[.int .i64 b0, .int .i64 b1]⟩), .v (.agg ⟨[.int .i64 c0, .int .i64 c1]⟩)] => some (true, enc_l25_2_i (i_OrthicPoints p colour (a0, a1) (b0, b1) (c0, c1)))
 | _ => none
theorem sound_i_OrthicPoints : Sound prog 83 run_i_OrthicPoints := by
 refine sound_1 de_l25_2_i SO_i_OrthicPoints (by kernel_rfl) func83 ntmps83 rfl (by kernel_rfl) fun q r E => ?_
 unfold run_i_OrthicPoints at E
 split at E
 ·obtain ⟨hp, rfl⟩ := so2 E
  rename_i p colour a0 a1 b0 b1 c0 c1
  exact ⟨_, _, rfl, (eq_i_OrthicPoints p colour (a0, a1) (b0, b1) (c0, c1)).trans (tot_i_OrthicPoints p colour (a0, a1) (b0, b1) (c0, c1))⟩
 ·cases E

def S_s_OrthicPoints : Sums := ⟨tblS [(185, run_s_l04Code), (181, run_s_l01Through), (184, run_s_l02Foot)], tblM [], false⟩
theorem SO_s_OrthicPoints : SumsOK prog S_s_OrthicPoints := ⟨tblS_ok ⟨⟨call185, sound_s_l04Code⟩, ⟨call181, sound_s_l01Through⟩, ⟨call184, sound_s_l02Foot⟩, ⟨⟩⟩, tM⟩
def Fo_s_OrthicPoints (p colour : Int) (a b c : P2) : Option ((Nat × List Int) × Int) :=
 (if ((s_l04Code p colour a b c) != 0) = true then some ((0, []), (s_l04Code p colour a b c)) else (if (prB p) = true then (if (prB p) = true then (if (prB p) = true then (if (prB p) = true then (if (!((s_l02Foot p colour a (s_l01Through p b c)).2)) = true then some ((0, []), 5) else (if (prB p) = true then (if (!((s_l02Foot p colour b (s_l01Through p a c)).2)) = true then some ((0, []), 5) else (if (prB p) = true then (if (!((s_l02Foot p colour c (s_l01Through p a b)).2)) = true then some ((0, []), 5) else some ((3, [((s_l02Foot p colour a (s_l01Through p b c)).1).1, ((s_l02Foot p colour a (s_l01Through p b c)).1).2, ((s_l02Foot p colour b (s_l01Through p a c)).1).1, ((s_l02Foot p colour b (s_l01Through p a c)).1).2, ((s_l02Foot p colour c (s_l01Through p a b)).1).1, ((s_l02Foot p colour c (s_l01Through p a b)).1).2]), 0)) else none)) else none)) else none) else none) else none) else none))
theorem eq_s_OrthicPoints (p colour : Int) (a b c : P2) : eT S_s_OrthicPoints 197 71 dec_l25_2_i [pI p, pI colour, pA a, pA b, pA c] = Fo_s_OrthicPoints p colour a b c := by
 kernel_rfl
def s_OrthicPoints (p colour : Int) (a b c : P2) : (Nat × List Int) × Int :=
 (if ((s_l04Code p colour a b c) != 0) = true then ((0, []), (s_l04Code p colour a b c)) else (if (!((s_l02Foot p colour a (s_l01Through p b c)).2)) = true then ((0, []), 5) else (if (!((s_l02Foot p colour b (s_l01Through p a c)).2)) = true then ((0, []), 5) else (if (!((s_l02Foot p colour c (s_l01Through p a b)).2)) = true then ((0, []), 5) else ((3, [((s_l02Foot p colour a (s_l01Through p b c)).1).1, ((s_l02Foot p colour a (s_l01Through p b c)).1).2, ((s_l02Foot p colour b (s_l01Through p a c)).1).1, ((s_l02Foot p colour b (s_l01Through p a c)).1).2, ((s_l02Foot p colour c (s_l01Through p a b)).1).1, ((s_l02Foot p colour c (s_l01Through p a b)).1).2]), 0)))))
theorem tot_s_OrthicPoints (p colour : Int) (a b c : P2) : Fo_s_OrthicPoints p colour a b c = some (s_OrthicPoints p colour a b c) := by
 unfold Fo_s_OrthicPoints s_OrthicPoints
 (try simp only [wI_eq])
 repeat' (first | with_reducible rfl | refine chk_opt (by (first | (with_reducible assumption) | (with_reducible exact l04Code_prB ‹_›) | (with_reducible exact l04Code_prB0 ‹_›))) ?_ | refine ite_opt (fun _ => ?_) (fun _ => ?_) | rfl)
def run_s_OrthicPoints : RunP
 | [.v (.int .i64 p), .v (.int .i64 colour), .v (.agg ⟨[.int .i64 a0, .int .i64 a1]⟩), .v (.agg ⟨[.int .i64 b0, .int .i64 b1]⟩), .v (.agg ⟨[.int .i64 c0, .int .i64 c1]⟩)] => some (true, enc_l25_2_i (s_OrthicPoints p colour (a0, a1) (b0, b1) (c0, c1)))
 | _ => none
theorem sound_s_OrthicPoints : Sound prog 197 run_s_OrthicPoints := by
 refine sound_1 de_l25_2_i SO_s_OrthicPoints (by kernel_rfl) func197 ntmps197 rfl (by kernel_rfl) fun q r E => ?_
 unfold run_s_OrthicPoints at E
 split at E
 ·obtain ⟨hp, rfl⟩ := so2 E
  rename_i p colour a0 a1 b0 b1 c0 c1
  exact ⟨_, _, rfl, (eq_s_OrthicPoints p colour (a0, a1) (b0, b1) (c0, c1)).trans (tot_s_OrthicPoints p colour (a0, a1) (b0, b1) (c0, c1))⟩
 ·cases E

def S_i_AltitudeOf : Sums := ⟨tblS [(115, run_i_triangle), (138, run_i_altitude)], tblM [], false⟩
theorem SO_i_AltitudeOf : SumsOK prog S_i_AltitudeOf := ⟨tblS_ok ⟨⟨call115, sound_i_triangle⟩, ⟨call138, sound_i_altitude⟩, ⟨⟩⟩, tM⟩
def Fo_i_AltitudeOf (p colour : Int) (a b c : P2) : Option ((Int × Int × Int) × Int) :=
 (if ((i_triangle p colour a b c) != 0) = true then some ((0, 0, 0), (i_triangle p colour a b c)) else (if (prB p) = true then some ((i_altitude p colour a b c), 0) else none))
theorem eq_i_AltitudeOf (p colour : Int) (a b c : P2) : eT S_i_AltitudeOf 81 29 dec_a3_i [pI p, pI colour, pA a, pA b, pA c] = Fo_i_AltitudeOf p colour a b c := by
 kernel_rfl
def i_AltitudeOf (p colour : Int) (a b c : P2) : (Int × Int × Int) × Int :=
 (if ((i_triangle p colour a b c) != 0) = true then ((0, 0, 0), (i_triangle p colour a b c)) else ((i_altitude p colour a b c), 0))
theorem tot_i_AltitudeOf (p colour : Int) (a b c : P2) : Fo_i_AltitudeOf p colour a b c = some (i_AltitudeOf p colour a b c) := by
 unfold Fo_i_AltitudeOf i_AltitudeOf
 (try simp only [wI_eq])
 repeat' (first | with_reducible rfl | refine chk_opt (by (first | (with_reducible assumption) | (with_reducible exact triangle_prB ‹_›) | (with_reducible exact triangle_prB0 ‹_›))) ?_ | refine ite_opt (fun _ => ?_) (fun _ => ?_) | rfl)
def run_i_AltitudeOf : RunP
 | [.v (.int .i64 p), .v (.int .i64 colour), .v (.agg ⟨[.int .i64 a0, .int .i64 a1]⟩), .v (.agg ⟨[.int .i64 b0, .int .i64 b1]⟩), .v (.agg ⟨[.int .i64 c0, .int .i64 c1]⟩)] => some (true, enc_a3_i (i_AltitudeOf p colour (a0, a1) (b0, b1) (c0, c1)))
 | _ => none
theorem sound_i_AltitudeOf : Sound prog 81 run_i_AltitudeOf := by
 refine sound_1 de_a3_i SO_i_AltitudeOf (by kernel_rfl) func81 ntmps81 rfl (by kernel_rfl) fun q r E => ?_
 unfold run_i_AltitudeOf at E
 split at E
 ·obtain ⟨hp, rfl⟩ := so2 E
  rename_i p colour a0 a1 b0 b1 c0 c1
  exact ⟨_, _, rfl, (eq_i_AltitudeOf p colour (a0, a1) (b0, b1) (c0, c1)).trans (tot_i_AltitudeOf p colour (a0, a1) (b0, b1) (c0, c1))⟩
 ·cases E

def S_s_AltitudeOf : Sums := ⟨tblS [(185, run_s_l04Code), (229, run_s_l04Altitude)], tblM [], false⟩
theorem SO_s_AltitudeOf : SumsOK prog S_s_AltitudeOf := ⟨tblS_ok ⟨⟨call185, sound_s_l04Code⟩, ⟨call229, sound_s_l04Altitude⟩, ⟨⟩⟩, tM⟩
def Fo_s_AltitudeOf (p colour : Int) (a b c : P2) : Option ((Int × Int × Int) × Int) :=
 (if ((s_l04Code p colour a b c) != 0) = true then some ((0, 0, 0), (s_l04Code p colour a b c)) else (if (prB p) = true then some ((s_l04Altitude p colour a b c), 0) else none))
theorem eq_s_AltitudeOf (p colour : Int) (a b c : P2) : eT S_s_AltitudeOf 237 29 dec_a3_i [pI p, pI colour, pA a, pA b, pA c] = Fo_s_AltitudeOf p colour a b c := by
 kernel_rfl
def s_AltitudeOf (p colour : Int) (a b c : P2) : (Int × Int × Int) × Int :=
 (if ((s_l04Code p colour a b c) != 0) = true then ((0, 0, 0), (s_l04Code p colour a b c)) else ((s_l04Altitude p colour a b c), 0))
theorem tot_s_AltitudeOf (p colour : Int) (a b c : P2) : Fo_s_AltitudeOf p colour a b c = some (s_AltitudeOf p colour a b c) := by
 unfold Fo_s_AltitudeOf s_AltitudeOf
 (try simp only [wI_eq])
 repeat' (first | with_reducible rfl | refine chk_opt (by (first | (with_reducible assumption) | (with_reducible exact l04Code_prB ‹_›) | (with_reducible exact l04Code_prB0 ‹_›))) ?_ | refine ite_opt (fun _ => ?_) (fun _ => ?_) | rfl)
def run_s_AltitudeOf : RunP
 | [.v (.int .i64 p), .v (.int .i64 colour), .v (.agg ⟨[.int .i64 a0, .int .i64 a1]⟩), .v (.agg ⟨[.int .i64 b0, .int .i64 b1]⟩), .v (.agg ⟨[.int .i64 c0, .int .i64 c1]⟩)] => some (true, enc_a3_i (s_AltitudeOf p colour (a0, a1) (b0, b1) (c0, c1)))
 | _ => none
theorem sound_s_AltitudeOf : Sound prog 237 run_s_AltitudeOf := by
 refine sound_1 de_a3_i SO_s_AltitudeOf (by kernel_rfl) func237 ntmps237 rfl (by kernel_rfl) fun q r E => ?_
 unfold run_s_AltitudeOf at E
 split at E
 ·obtain ⟨hp, rfl⟩ := so2 E
  rename_i p colour a0 a1 b0 b1 c0 c1
  exact ⟨_, _, rfl, (eq_s_AltitudeOf p colour (a0, a1) (b0, b1) (c0, c1)).trans (tot_s_AltitudeOf p colour (a0, a1) (b0, b1) (c0, c1))⟩
 ·cases E

end

end Go.Proofs.YtcdpfpfbilfpoaaGreatDoor
