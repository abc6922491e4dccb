import Derived.Test.YtcdpfpfbilfpoaaGreatDoorFa
import Derived.Test.YtcdpfpfbilfpoaaGreatDoorProg
set_option linter.unusedSimpArgs false
set_option linter.unusedVariables false
namespace Go.Proofs.YtcdpfpfbilfpoaaGreatDoor
open Go.RowKit Tryz
noncomputable section
def S_i_MidpointOf_c1 : Sums := ⟨tblS [(37, run_i_arePoints)], tblM [], false⟩
theorem SO_i_MidpointOf_c1 : SumsOK prog S_i_MidpointOf_c1 := ⟨tblS_ok ⟨⟨call37, sound_i_arePoints⟩, ⟨⟩⟩, tM⟩
def Fo_i_MidpointOf_c1 (c0 : Int) (c1 c2 : P2) : Option (Bool) :=
 some (i_arePoints c0 [c1, c2])
theorem eq_i_MidpointOf_c1 (c0 : Int) (c1 c2 : P2) : eT S_i_MidpointOf_c1 107 9 dec_b [.p [.int .i64 c0], .p [.int .i64 c1.1, .int .i64 c1.2], .p [.int .i64 c2.1, .int .i64 c2.2]] = Fo_i_MidpointOf_c1 c0 c1 c2 := by
 kernel_rfl
def i_MidpointOf_c1 (c0 : Int) (c1 c2 : P2) : Bool :=
 (i_arePoints c0 [c1, c2])
theorem tot_i_MidpointOf_c1 (c0 : Int) (c1 c2 : P2) : Fo_i_MidpointOf_c1 c0 c1 c2 = some (i_MidpointOf_c1 c0 c1 c2) := by
 unfold Fo_i_MidpointOf_c1 i_MidpointOf_c1
 (try simp only [wI_eq])
 repeat' (first | with_reducible rfl | refine ite_opt (fun _ => ?_) (fun _ => ?_) | rfl)
def run_i_MidpointOf_c1 : RunP
 | [.p [.int .i64 c0], .p [.int .i64 c10, .int .i64 c11], .p [.int .i64 c20, .int .i64 c21]] => some (true, enc_b (i_MidpointOf_c1 c0 (c10, c11) (c20, c21)))
 | _ => none
theorem sound_i_MidpointOf_c1 : Sound prog 107 run_i_MidpointOf_c1 := by
 refine sound_1 de_b SO_i_MidpointOf_c1 (by kernel_rfl) func107 ntmps107 rfl (by kernel_rfl) fun q r E => ?_
 unfold run_i_MidpointOf_c1 at E
 split at E
 ·obtain ⟨hp, rfl⟩ := so2 E
  rename_i c0 c10 c11 c20 c21
  exact ⟨_, _, rfl, (eq_i_MidpointOf_c1 c0 (c10, c11) (c20, c21)).trans (tot_i_MidpointOf_c1 c0 (c10, c11) (c20, c21))⟩
 ·cases E

def S_i_MidpointOf : Sums := ⟨tblS [(106, run_i_asked), (107, run_i_MidpointOf_c1), (108, run_i_midpoint)], tblM [], false⟩
theorem SO_i_MidpointOf : SumsOK prog S_i_MidpointOf := ⟨tblS_ok ⟨⟨call106, sound_i_asked⟩, ⟨call107, sound_i_MidpointOf_c1⟩, ⟨call108, sound_i_midpoint⟩, ⟨⟩⟩, tM⟩
def Fo_i_MidpointOf (p : Int) (a b : P2) : Option ((Int × Int) × Int) :=
 (if ((true) || !(i_IsField p)) = true then (if ((i_asked p (true) (i_MidpointOf_c1 p a b)) != 0) = true then some ((0, 0), (i_asked p (true) (i_MidpointOf_c1 p a b))) else (if (prB p) = true then some ((i_midpoint p a b), 0) else none)) else none)
theorem eq_i_MidpointOf (p : Int) (a b : P2) : eT S_i_MidpointOf 57 20 dec_a2_i [pI p, pA a, pA b] = Fo_i_MidpointOf p a b := by
 kernel_rfl
def i_MidpointOf (p : Int) (a b : P2) : (Int × Int) × Int :=
 (if ((i_asked p (true) (i_MidpointOf_c1 p a b)) != 0) = true then ((0, 0), (i_asked p (true) (i_MidpointOf_c1 p a b))) else ((i_midpoint p a b), 0))
theorem tot_i_MidpointOf (p : Int) (a b : P2) : Fo_i_MidpointOf p a b = some (i_MidpointOf p a b) := by
 unfold Fo_i_MidpointOf i_MidpointOf
 (try simp only [wI_eq])
 repeat' (first | with_reducible rfl | refine chk_opt (by first | with_reducible rfl | exact Bool.true_or _ | (have hq : prB p = true := (by (first | (with_reducible assumption) | (with_reducible exact asked_prB ‹_›) | (with_reducible exact asked_prB0 ‹_›))); first | exact hq | exact mk_ok hq | exact and_all hq (fun _ => rfl) | exact and_all hq (fun _ => hq) | exact and3 hq hq hq | exact and_two hq rfl | exact map3_ok hq) | rfl) ?_ | refine ite_opt (fun _ => ?_) (fun _ => ?_) | rfl)
def run_i_MidpointOf : RunP
 | [.v (.int .i64 p), .v (.agg ⟨[.int .i64 a0, .int .i64 a1]⟩), .v (.agg ⟨[.int .i64 b0, .int .i64 b1]⟩)] => some (true, enc_a2_i (i_MidpointOf p (a0, a1) (b0, b1)))
 | _ => none
theorem sound_i_MidpointOf : Sound prog 57 run_i_MidpointOf := by
 refine sound_1 de_a2_i SO_i_MidpointOf (by kernel_rfl) func57 ntmps57 rfl (by kernel_rfl) fun q r E => ?_
 unfold run_i_MidpointOf at E
 split at E
 ·obtain ⟨hp, rfl⟩ := so2 E
  rename_i p a0 a1 b0 b1
  exact ⟨_, _, rfl, (eq_i_MidpointOf p (a0, a1) (b0, b1)).trans (tot_i_MidpointOf p (a0, a1) (b0, b1))⟩
 ·cases E

def S_s_MidpointOf : Sums := ⟨tblS [(97, run_s_l01Code), (180, run_s_l01Middle)], tblM [], false⟩
theorem SO_s_MidpointOf : SumsOK prog S_s_MidpointOf := ⟨tblS_ok ⟨⟨call97, sound_s_l01Code⟩, ⟨call180, sound_s_l01Middle⟩, ⟨⟩⟩, tM⟩
def Fo_s_MidpointOf (p : Int) (a b : P2) : Option ((Int × Int) × Int) :=
 (if ((s_l01Code p [a, b]) != 0) = true then some ((0, 0), (s_l01Code p [a, b])) else (if (prB p) = true then some ((s_l01Middle p a b), 0) else none))
theorem eq_s_MidpointOf (p : Int) (a b : P2) : eT S_s_MidpointOf 146 22 dec_a2_i [pI p, pA a, pA b] = Fo_s_MidpointOf p a b := by
 kernel_rfl
def s_MidpointOf (p : Int) (a b : P2) : (Int × Int) × Int :=
 (if ((s_l01Code p [a, b]) != 0) = true then ((0, 0), (s_l01Code p [a, b])) else ((s_l01Middle p a b), 0))
theorem tot_s_MidpointOf (p : Int) (a b : P2) : Fo_s_MidpointOf p a b = some (s_MidpointOf p a b) := by
 unfold Fo_s_MidpointOf s_MidpointOf
 (try simp only [wI_eq])
 repeat' (first | with_reducible rfl | refine chk_opt (by (first | (with_reducible assumption) | (with_reducible exact l01Code_prB ‹_›) | (with_reducible exact l01Code_prB0 ‹_›))) ?_ | refine ite_opt (fun _ => ?_) (fun _ => ?_) | rfl)
def run_s_MidpointOf : RunP
 | [.v (.int .i64 p), .v (.agg ⟨[.int .i64 a0, .int .i64 a1]⟩), .v (.agg ⟨[.int .i64 b0, .int .i64 b1]⟩)] => some (true, enc_a2_i (s_MidpointOf p (a0, a1) (b0, b1)))
 | _ => none
theorem sound_s_MidpointOf : Sound prog 146 run_s_MidpointOf := by
 refine sound_1 de_a2_i SO_s_MidpointOf (by kernel_rfl) func146 ntmps146 rfl (by kernel_rfl) fun q r E => ?_
 unfold run_s_MidpointOf at E
 split at E
 ·obtain ⟨hp, rfl⟩ := so2 E
  rename_i p a0 a1 b0 b1
  exact ⟨_, _, rfl, (eq_s_MidpointOf p (a0, a1) (b0, b1)).trans (tot_s_MidpointOf p (a0, a1) (b0, b1))⟩
 ·cases E

def S_i_LineThrough_c1 : Sums := ⟨tblS [(37, run_i_arePoints)], tblM [], false⟩
theorem SO_i_LineThrough_c1 : SumsOK prog S_i_LineThrough_c1 := ⟨tblS_ok ⟨⟨call37, sound_i_arePoints⟩, ⟨⟩⟩, tM⟩
def Fo_i_LineThrough_c1 (c0 : Int) (c1 c2 : P2) : Option (Bool) :=
 some (i_arePoints c0 [c1, c2])
theorem eq_i_LineThrough_c1 (c0 : Int) (c1 c2 : P2) : eT S_i_LineThrough_c1 109 9 dec_b [.p [.int .i64 c0], .p [.int .i64 c1.1, .int .i64 c1.2], .p [.int .i64 c2.1, .int .i64 c2.2]] = Fo_i_LineThrough_c1 c0 c1 c2 := by
 kernel_rfl
def i_LineThrough_c1 (c0 : Int) (c1 c2 : P2) : Bool :=
 (i_arePoints c0 [c1, c2])
theorem tot_i_LineThrough_c1 (c0 : Int) (c1 c2 : P2) : Fo_i_LineThrough_c1 c0 c1 c2 = some (i_LineThrough_c1 c0 c1 c2) := by
 unfold Fo_i_LineThrough_c1 i_LineThrough_c1
 (try simp only [wI_eq])
 repeat' (first | with_reducible rfl | refine ite_opt (fun _ => ?_) (fun _ => ?_) | rfl)
def run_i_LineThrough_c1 : RunP
 | [.p [.int .i64 c0], .p [.int .i64 c10, .int .i64 c11], .p [.int .i64 c20, .int .i64 c21]] => some (true, enc_b (i_LineThrough_c1 c0 (c10, c11) (c20, c21)))
 | _ => none
theorem sound_i_LineThrough_c1 : Sound prog 109 run_i_LineThrough_c1 := by
 refine sound_1 de_b SO_i_LineThrough_c1 (by kernel_rfl) func109 ntmps109 rfl (by kernel_rfl) fun q r E => ?_
 unfold run_i_LineThrough_c1 at E
 split at E
 ·obtain ⟨hp, rfl⟩ := so2 E
  rename_i c0 c10 c11 c20 c21
  exact ⟨_, _, rfl, (eq_i_LineThrough_c1 c0 (c10, c11) (c20, c21)).trans (tot_i_LineThrough_c1 c0 (c10, c11) (c20, c21))⟩
 ·cases E

def S_i_LineThrough : Sums := ⟨tblS [(106, run_i_asked), (109, run_i_LineThrough_c1), (110, run_i_lineThrough)], tblM [], false⟩
theorem SO_i_LineThrough : SumsOK prog S_i_LineThrough := ⟨tblS_ok ⟨⟨call106, sound_i_asked⟩, ⟨call109, sound_i_LineThrough_c1⟩, ⟨call110, sound_i_lineThrough⟩, ⟨⟩⟩, tM⟩
def Fo_i_LineThrough (p : Int) (a b : P2) : Option ((Int × Int × Int) × Int) :=
 (if ((true) || !(i_IsField p)) = true then (if ((i_asked p (true) (i_LineThrough_c1 p a b)) != 0) = true then some ((0, 0, 0), (i_asked p (true) (i_LineThrough_c1 p a b))) else (if (a == b) = true then some ((0, 0, 0), 5) else (if (prB p) = true then some ((i_lineThrough p a b), 0) else none))) else none)
theorem eq_i_LineThrough (p : Int) (a b : P2) : eT S_i_LineThrough 58 24 dec_a3_i [pI p, pA a, pA b] = Fo_i_LineThrough p a b := by
 kernel_rfl
def i_LineThrough (p : Int) (a b : P2) : (Int × Int × Int) × Int :=
 (if ((i_asked p (true) (i_LineThrough_c1 p a b)) != 0) = true then ((0, 0, 0), (i_asked p (true) (i_LineThrough_c1 p a b))) else (if (a == b) = true then ((0, 0, 0), 5) else ((i_lineThrough p a b), 0)))
theorem tot_i_LineThrough (p : Int) (a b : P2) : Fo_i_LineThrough p a b = some (i_LineThrough p a b) := by
 unfold Fo_i_LineThrough i_LineThrough
 (try simp only [wI_eq])
 repeat' (first | with_reducible rfl | refine chk_opt (by first | with_reducible rfl | exact Bool.true_or _ | (have hq : prB p = true := (by (first | (with_reducible assumption) | (with_reducible exact asked_prB ‹_›) | (with_reducible exact asked_prB0 ‹_›))); first | exact hq | exact mk_ok hq | exact and_all hq (fun _ => rfl) | exact and_all hq (fun _ => hq) | exact and3 hq hq hq | exact and_two hq rfl | exact map3_ok hq) | rfl) ?_ | refine ite_opt (fun _ => ?_) (fun _ => ?_) | rfl)
def run_i_LineThrough : RunP
 | [.v (.int .i64 p), .v (.agg ⟨[.int .i64 a0, .int .i64 a1]⟩), .v (.agg ⟨[.int .i64 b0, .int .i64 b1]⟩)] => some (true, enc_a3_i (i_LineThrough p (a0, a1) (b0, b1)))
 | _ => none
theorem sound_i_LineThrough : Sound prog 58 run_i_LineThrough := by
 refine sound_1 de_a3_i SO_i_LineThrough (by kernel_rfl) func58 ntmps58 rfl (by kernel_rfl) fun q r E => ?_
 unfold run_i_LineThrough at E
 split at E
 ·obtain ⟨hp, rfl⟩ := so2 E
  rename_i p a0 a1 b0 b1
  exact ⟨_, _, rfl, (eq_i_LineThrough p (a0, a1) (b0, b1)).trans (tot_i_LineThrough p (a0, a1) (b0, b1))⟩
 ·cases E

def S_s_LineThrough : Sums := ⟨tblS [(97, run_s_l01Code), (181, run_s_l01Through)], tblM [], false⟩
theorem SO_s_LineThrough : SumsOK prog S_s_LineThrough := ⟨tblS_ok ⟨⟨call97, sound_s_l01Code⟩, ⟨call181, sound_s_l01Through⟩, ⟨⟩⟩, tM⟩
def Fo_s_LineThrough (p : Int) (a b : P2) : Option ((Int × Int × Int) × Int) :=
 (if ((s_l01Code p [a, b]) != 0) = true then some ((0, 0, 0), (s_l01Code p [a, b])) else (if (a == b) = true then some ((0, 0, 0), 5) else (if (prB p) = true then some ((s_l01Through p a b), 0) else none)))
theorem eq_s_LineThrough (p : Int) (a b : P2) : eT S_s_LineThrough 147 26 dec_a3_i [pI p, pA a, pA b] = Fo_s_LineThrough p a b := by
 kernel_rfl
def s_LineThrough (p : Int) (a b : P2) : (Int × Int × Int) × Int :=
 (if ((s_l01Code p [a, b]) != 0) = true then ((0, 0, 0), (s_l01Code p [a, b])) else (if (a == b) = true then ((0, 0, 0), 5) else ((s_l01Through p a b), 0)))
theorem tot_s_LineThrough (p : Int) (a b : P2) : Fo_s_LineThrough p a b = some (s_LineThrough p a b) := by
 unfold Fo_s_LineThrough s_LineThrough
 (try simp only [wI_eq])
 repeat' (first | with_reducible rfl | refine chk_opt (by (first | (with_reducible assumption) | (with_reducible exact l01Code_prB ‹_›) | (with_reducible exact l01Code_prB0 ‹_›))) ?_ | refine ite_opt (fun _ => ?_) (fun _ => ?_) | rfl)
def run_s_LineThrough : RunP
 | [.v (.int .i64 p), .v (.agg ⟨[.int .i64 a0, .int .i64 a1]⟩), .v (.agg ⟨[.int .i64 b0, .int .i64 b1]⟩)] => some (true, enc_a3_i (s_LineThrough p (a0, a1) (b0, b1)))
 | _ => none
theorem sound_s_LineThrough : Sound prog 147 run_s_LineThrough := by
 refine sound_1 de_a3_i SO_s_LineThrough (by kernel_rfl) func147 ntmps147 rfl (by kernel_rfl) fun q r E => ?_
 unfold run_s_LineThrough at E
 split at E
 ·obtain ⟨hp, rfl⟩ := so2 E
  rename_i p a0 a1 b0 b1
  exact ⟨_, _, rfl, (eq_s_LineThrough p (a0, a1) (b0, b1)).trans (tot_s_LineThrough p (a0, a1) (b0, b1))⟩
 ·cases E

def S_i_FootOf_c1 : Sums := ⟨tblS [(36, run_i_isColour), (96, run_i_isPoint), (112, run_i_isLine)], tblM [], false⟩
theorem SO_i_FootOf_c1 : SumsOK prog S_i_FootOf_c1 := ⟨tblS_ok ⟨⟨call36, sound_i_isColour⟩, ⟨call96, sound_i_isPoint⟩, ⟨call112, sound_i_isLine⟩, ⟨⟩⟩, tM⟩
def Fo_i_FootOf_c1 (c0 c1 : Int) (c2 : P2) (c3 : P3) : Option (Bool) :=
 (if (i_isColour c0) = true then (if (i_isPoint c1 c2) = true then some (i_isLine c1 c3) else some false) else some false)
theorem eq_i_FootOf_c1 (c0 c1 : Int) (c2 : P2) (c3 : P3) : eT S_i_FootOf_c1 111 17 dec_b [.p [.int .i64 c0], .p [.int .i64 c1], .p [.int .i64 c2.1, .int .i64 c2.2], .p [.int .i64 c3.1, .int .i64 c3.2.1, .int .i64 c3.2.2]] = Fo_i_FootOf_c1 c0 c1 c2 c3 := by
 kernel_rfl
def i_FootOf_c1 (c0 c1 : Int) (c2 : P2) (c3 : P3) : Bool :=
 (if (i_isColour c0) = true then (if (i_isPoint c1 c2) = true then (i_isLine c1 c3) else false) else false)
theorem tot_i_FootOf_c1 (c0 c1 : Int) (c2 : P2) (c3 : P3) : Fo_i_FootOf_c1 c0 c1 c2 c3 = some (i_FootOf_c1 c0 c1 c2 c3) := by
 unfold Fo_i_FootOf_c1 i_FootOf_c1
 (try simp only [wI_eq])
 repeat' (first | with_reducible rfl | refine ite_opt (fun _ => ?_) (fun _ => ?_) | rfl)
def run_i_FootOf_c1 : RunP
 | [.p [.int .i64 c0], .p [.int .i64 c1], .p [.int .i64 c20, .int .i64 c21], .p [.int .i64 c30, .int .i64 c31, .int .i64 c32]] => some (true, enc_b (i_FootOf_c1 c0 c1 (c20, c21) (c30, c31, c32)))
 | _ => none
theorem sound_i_FootOf_c1 : Sound prog 111 run_i_FootOf_c1 := by
 refine sound_1 de_b SO_i_FootOf_c1 (by kernel_rfl) func111 ntmps111 rfl (by kernel_rfl) fun q r E => ?_
 unfold run_i_FootOf_c1 at E
 split at E
 ·obtain ⟨hp, rfl⟩ := so2 E
  rename_i c0 c1 c20 c21 c30 c31 c32
  exact ⟨_, _, rfl, (eq_i_FootOf_c1 c0 c1 (c20, c21) (c30, c31, c32)).trans (tot_i_FootOf_c1 c0 c1 (c20, c21) (c30, c31, c32))⟩
 ·cases E

def S_i_FootOf : Sums := ⟨tblS [(106, run_i_asked), (111, run_i_FootOf_c1), (113, run_i_isNull), (114, run_i_foot)], tblM [], false⟩
theorem SO_i_FootOf : SumsOK prog S_i_FootOf := ⟨tblS_ok ⟨⟨call106, sound_i_asked⟩, ⟨call111, sound_i_FootOf_c1⟩, ⟨call113, sound_i_isNull⟩, ⟨call114, sound_i_foot⟩, ⟨⟩⟩, tM⟩
def Fo_i_FootOf (p colour : Int) (a : P2) (l : P3) : Option ((Int × Int) × Int) :=
 (if ((true) || !(i_IsField p)) = true then (if ((i_asked p (true) (i_FootOf_c1 colour p a l)) != 0) = true then some ((0, 0), (i_asked p (true) (i_FootOf_c1 colour p a l))) else (if (prB p) = true then (if (i_isNull p colour l) = true then some ((0, 0), 5) else (if (prB p) = true then some ((i_foot p colour a l), 0) else none)) else none)) else none)
theorem eq_i_FootOf (p colour : Int) (a : P2) (l : P3) : eT S_i_FootOf 59 28 dec_a2_i [pI p, pI colour, pA a, pB l] = Fo_i_FootOf p colour a l := by
 kernel_rfl
def i_FootOf (p colour : Int) (a : P2) (l : P3) : (Int × Int) × Int :=
 (if ((i_asked p (true) (i_FootOf_c1 colour p a l)) != 0) = true then ((0, 0), (i_asked p (true) (i_FootOf_c1 colour p a l))) else (if (i_isNull p colour l) = true then ((0, 0), 5) else ((i_foot p colour a l), 0)))
theorem tot_i_FootOf (p colour : Int) (a : P2) (l : P3) : Fo_i_FootOf p colour a l = some (i_FootOf p colour a l) := by
 unfold Fo_i_FootOf i_FootOf
 (try simp only [wI_eq])
 repeat' (first | with_reducible rfl | refine chk_opt (by first | with_reducible rfl | exact Bool.true_or _ | (have hq : prB p = true := (by (first | (with_reducible assumption) | (with_reducible exact asked_prB ‹_›) | (with_reducible exact asked_prB0 ‹_›))); first | exact hq | exact mk_ok hq | exact and_all hq (fun _ => rfl) | exact and_all hq (fun _ => hq) | exact and3 hq hq hq | exact and_two hq rfl | exact map3_ok hq) | rfl) ?_ | refine ite_opt (fun _ => ?_) (fun _ => ?_) | rfl)
def run_i_FootOf : RunP
 | [.v (.int .i64 p), .v (.int .i64 colour), .v (.agg ⟨[.int .i64 a0, .int .i64 a1]⟩), .v (.agg ⟨[.int .i64 l0, .int .i64 l1, .int .i64 l2]⟩)] => some (true, enc_a2_i (i_FootOf p colour (a0, a1) (l0, l1, l2)))
 | _ => none
theorem sound_i_FootOf : Sound prog 59 run_i_FootOf := by
 refine sound_1 de_a2_i SO_i_FootOf (by kernel_rfl) func59 ntmps59 rfl (by kernel_rfl) fun q r E => ?_
 unfold run_i_FootOf at E
 split at E
 ·obtain ⟨hp, rfl⟩ := so2 E
  rename_i p colour a0 a1 l0 l1 l2
  exact ⟨_, _, rfl, (eq_i_FootOf p colour (a0, a1) (l0, l1, l2)).trans (tot_i_FootOf p colour (a0, a1) (l0, l1, l2))⟩
 ·cases E

def S_s_l01Both : Sums := ⟨tblS [(97, run_s_l01Code), (223, run_s_l01Lines)], tblM [], false⟩
theorem SO_s_l01Both : SumsOK prog S_s_l01Both := ⟨tblS_ok ⟨⟨call97, sound_s_l01Code⟩, ⟨call223, sound_s_l01Lines⟩, ⟨⟩⟩, tM⟩
def Fo_s_l01Both (p : Int) (a : P2) (l : P3) : Option (Int) :=
 (if ((s_l01Code p [a]) != 0) = true then some (s_l01Code p [a]) else some (s_l01Lines p [l]))
theorem eq_s_l01Both (p : Int) (a : P2) (l : P3) : eT S_s_l01Both 182 19 dec_i [pI p, pA a, pB l] = Fo_s_l01Both p a l := by
 kernel_rfl
def s_l01Both (p : Int) (a : P2) (l : P3) : Int :=
 (if ((s_l01Code p [a]) != 0) = true then (s_l01Code p [a]) else (s_l01Lines p [l]))
theorem tot_s_l01Both (p : Int) (a : P2) (l : P3) : Fo_s_l01Both p a l = some (s_l01Both p a l) := by
 unfold Fo_s_l01Both s_l01Both
 (try simp only [wI_eq])
 repeat' (first | with_reducible rfl | refine ite_opt (fun _ => ?_) (fun _ => ?_) | rfl)
def run_s_l01Both : RunP
 | [.v (.int .i64 p), .v (.agg ⟨[.int .i64 a0, .int .i64 a1]⟩), .v (.agg ⟨[.int .i64 l0, .int .i64 l1, .int .i64 l2]⟩)] => some (true, enc_i (s_l01Both p (a0, a1) (l0, l1, l2)))
 | _ => none
theorem sound_s_l01Both : Sound prog 182 run_s_l01Both := by
 refine sound_1 de_i SO_s_l01Both (by kernel_rfl) func182 ntmps182 rfl (by kernel_rfl) fun q r E => ?_
 unfold run_s_l01Both at E
 split at E
 ·obtain ⟨hp, rfl⟩ := so2 E
  rename_i p a0 a1 l0 l1 l2
  exact ⟨_, _, rfl, (eq_s_l01Both p (a0, a1) (l0, l1, l2)).trans (tot_s_l01Both p (a0, a1) (l0, l1, l2))⟩
 ·cases E

theorem l01Both_prB {p : Int} {a : P2} {l : P3} (h : ¬ (s_l01Both p a l != 0) = true) : prB p = true := by
 refine Pr_prB (i_IsField_ok ?_)
 have h : s_l01Both p a l = 0 := by simpa using h
 cases hf : i_IsField p
 ·simp [s_l01Both, s_l01Code, s_l01Lines, s_l01Field, hf] at h
 ·rfl
theorem l01Both_prB0 {p : Int} {a : P2} {l : P3} (h : (s_l01Both p a l == 0) = true) : prB p = true := l01Both_prB (by simpa using h)
def S_s_l02Perpendicular : Sums := ⟨tblS [(225, run_s_l02Direction), (224, run_s_l02Product)], tblM [], false⟩
theorem SO_s_l02Perpendicular : SumsOK prog S_s_l02Perpendicular := ⟨tblS_ok ⟨⟨call225, sound_s_l02Direction⟩, ⟨call224, sound_s_l02Product⟩, ⟨⟩⟩, tM⟩
def Fo_s_l02Perpendicular (p colour : Int) (l m : P3) : Option (Bool) :=
 (if (prB p) = true then (if (prB p) = true then (if (prB p) = true then some ((s_l02Product p colour (s_l02Direction p l) (s_l02Direction p m)) == 0) else none) else none) else none)
theorem eq_s_l02Perpendicular (p colour : Int) (l m : P3) : eT S_s_l02Perpendicular 183 19 dec_b [pI p, pI colour, pB l, pB m] = Fo_s_l02Perpendicular p colour l m := by
 kernel_rfl
def s_l02Perpendicular (p colour : Int) (l m : P3) : Bool :=
 (s_l02Product p colour (s_l02Direction p l) (s_l02Direction p m)) == 0
theorem tot_s_l02Perpendicular (p colour : Int) (l m : P3) (hp : (prB p) = true) : Fo_s_l02Perpendicular p colour l m = some (s_l02Perpendicular p colour l m) := by
 try have h0 := prB_ne hp
 unfold Fo_s_l02Perpendicular s_l02Perpendicular
 (try simp only [wI_eq])
 repeat' (first | with_reducible rfl | with_reducible refine chk_opt hp ?_ | with_reducible refine chk_opt h0 ?_ | refine chk_opt (and_all hp fun _ => hp) ?_ | refine chk_opt (and_all hp fun _ => rfl) ?_ | refine ite_opt (fun _ => ?_) (fun _ => ?_) | rfl)
def run_s_l02Perpendicular : RunP
 | [.v (.int .i64 p), .v (.int .i64 colour), .v (.agg ⟨[.int .i64 l0, .int .i64 l1, .int .i64 l2]⟩), .v (.agg ⟨[.int .i64 m0, .int .i64 m1, .int .i64 m2]⟩)] => some (prB p, enc_b (s_l02Perpendicular p colour (l0, l1, l2) (m0, m1, m2)))
 | _ => none
theorem sound_s_l02Perpendicular : Sound prog 183 run_s_l02Perpendicular := by
 refine sound_1 de_b SO_s_l02Perpendicular (by kernel_rfl) func183 ntmps183 rfl (by kernel_rfl) fun q r E => ?_
 unfold run_s_l02Perpendicular at E
 split at E
 ·obtain ⟨hp, rfl⟩ := so2 E
  rename_i p colour l0 l1 l2 m0 m1 m2
  exact ⟨_, _, rfl, (eq_s_l02Perpendicular p colour (l0, l1, l2) (m0, m1, m2)).trans (tot_s_l02Perpendicular p colour (l0, l1, l2) (m0, m1, m2) hp)⟩
 ·cases E

def S_s_FootOf : Sums := ⟨tblS [(182, run_s_l01Both), (98, run_s_l02Colour), (183, run_s_l02Perpendicular), (184, run_s_l02Foot)], tblM [], false⟩
theorem SO_s_FootOf : SumsOK prog S_s_FootOf := ⟨tblS_ok ⟨⟨call182, sound_s_l01Both⟩, ⟨call98, sound_s_l02Colour⟩, ⟨call183, sound_s_l02Perpendicular⟩, ⟨call184, sound_s_l02Foot⟩, ⟨⟩⟩, tM⟩
def Fo_s_FootOf (p colour : Int) (a : P2) (l : P3) : Option ((Int × Int) × Int) :=
 (if ((s_l01Both p a l) == 0) = true then (if (!(s_l02Colour colour)) = true then some ((0, 0), 2) else (if ((s_l01Both p a l) == 0) = true then (if (prB p) = true then (if (s_l02Perpendicular p colour l l) = true then some ((0, 0), 5) else (if ((s_l01Both p a l) != 0) = true then some ((0, 0), (s_l01Both p a l)) else (if (prB p) = true then some (((s_l02Foot p colour a l).1), 0) else none))) else none) else (if ((s_l01Both p a l) != 0) = true then some ((0, 0), (s_l01Both p a l)) else (if (prB p) = true then some (((s_l02Foot p colour a l).1), 0) else none)))) else (if ((s_l01Both p a l) == 0) = true then (if (prB p) = true then (if (s_l02Perpendicular p colour l l) = true then some ((0, 0), 5) else (if ((s_l01Both p a l) != 0) = true then some ((0, 0), (s_l01Both p a l)) else (if (prB p) = true then some (((s_l02Foot p colour a l).1), 0) else none))) else none) else (if ((s_l01Both p a l) != 0) = true then some ((0, 0), (s_l01Both p a l)) else (if (prB p) = true then some (((s_l02Foot p colour a l).1), 0) else none))))
theorem eq_s_FootOf (p colour : Int) (a : P2) (l : P3) : eT S_s_FootOf 148 46 dec_a2_i [pI p, pI colour, pA a, pB l] = Fo_s_FootOf p colour a l := by
 kernel_rfl
def s_FootOf (p colour : Int) (a : P2) (l : P3) : (Int × Int) × Int :=
 (if ((s_l01Both p a l) == 0) = true then (if (!(s_l02Colour colour)) = true then ((0, 0), 2) else (if ((s_l01Both p a l) == 0) = true then (if (s_l02Perpendicular p colour l l) = true then ((0, 0), 5) else (if ((s_l01Both p a l) != 0) = true then ((0, 0), (s_l01Both p a l)) else (((s_l02Foot p colour a l).1), 0))) else (if ((s_l01Both p a l) != 0) = true then ((0, 0), (s_l01Both p a l)) else (((s_l02Foot p colour a l).1), 0)))) else (if ((s_l01Both p a l) == 0) = true then (if (s_l02Perpendicular p colour l l) = true then ((0, 0), 5) else (if ((s_l01Both p a l) != 0) = true then ((0, 0), (s_l01Both p a l)) else (((s_l02Foot p colour a l).1), 0))) else (if ((s_l01Both p a l) != 0) = true then ((0, 0), (s_l01Both p a l)) else (((s_l02Foot p colour a l).1), 0))))
theorem tot_s_FootOf (p colour : Int) (a : P2) (l : P3) : Fo_s_FootOf p colour a l = some (s_FootOf p colour a l) := by
 unfold Fo_s_FootOf s_FootOf
 (try simp only [wI_eq])
 repeat' (first | with_reducible rfl | refine chk_opt (by (first | (with_reducible assumption) | (with_reducible exact l01Both_prB ‹_›) | (with_reducible exact l01Both_prB0 ‹_›))) ?_ | refine ite_opt (fun _ => ?_) (fun _ => ?_) | rfl)
def run_s_FootOf : RunP
 | [.v (.int .i64 p), .v (.int .i64 colour), .v (.agg ⟨[.int .i64 a0, .int .i64 a1]⟩), .v (.agg ⟨[.int .i64 l0, .int .i64 l1, .int .i64 l2]⟩)] => some (true, enc_a2_i (s_FootOf p colour (a0, a1) (l0, l1, l2)))
 | _ => none
theorem sound_s_FootOf : Sound prog 148 run_s_FootOf := by
 refine sound_1 de_a2_i SO_s_FootOf (by kernel_rfl) func148 ntmps148 rfl (by kernel_rfl) fun q r E => ?_
 unfold run_s_FootOf at E
 split at E
 ·obtain ⟨hp, rfl⟩ := so2 E
  rename_i p colour a0 a1 l0 l1 l2
  exact ⟨_, _, rfl, (eq_s_FootOf p colour (a0, a1) (l0, l1, l2)).trans (tot_s_FootOf p colour (a0, a1) (l0, l1, l2))⟩
 ·cases E

def S_i_CombinationOf_c1 : Sums := ⟨tblS [(37, run_i_arePoints), (120, run_i_isNumber)], tblM [], false⟩
theorem SO_i_CombinationOf_c1 : SumsOK prog S_i_CombinationOf_c1 := ⟨tblS_ok ⟨⟨call37, sound_i_arePoints⟩, ⟨call120, sound_i_isNumber⟩, ⟨⟩⟩, tM⟩
def Fo_i_CombinationOf_c1 (c0 : Int) (c1 c2 : P2) (c3 : Int) : Option (Bool) :=
 (if (i_arePoints c0 [c1, c2]) = true then some (i_isNumber c0 c3) else some false)
theorem eq_i_CombinationOf_c1 (c0 : Int) (c1 c2 : P2) (c3 : Int) : eT S_i_CombinationOf_c1 119 15 dec_b [.p [.int .i64 c0], .p [.int .i64 c1.1, .int .i64 c1.2], .p [.int .i64 c2.1, .int .i64 c2.2], .p [.int .i64 c3]] = Fo_i_CombinationOf_c1 c0 c1 c2 c3 := by
 kernel_rfl
def i_CombinationOf_c1 (c0 : Int) (c1 c2 : P2) (c3 : Int) : Bool :=
 (if (i_arePoints c0 [c1, c2]) = true then (i_isNumber c0 c3) else false)
theorem tot_i_CombinationOf_c1 (c0 : Int) (c1 c2 : P2) (c3 : Int) : Fo_i_CombinationOf_c1 c0 c1 c2 c3 = some (i_CombinationOf_c1 c0 c1 c2 c3) := by
 unfold Fo_i_CombinationOf_c1 i_CombinationOf_c1
 (try simp only [wI_eq])
 repeat' (first | with_reducible rfl | refine ite_opt (fun _ => ?_) (fun _ => ?_) | rfl)
def run_i_CombinationOf_c1 : RunP
 | [.p [.int .i64 c0], .p [.int .i64 c10, .int .i64 c11], .p [.int .i64 c20, .int .i64 c21], .p [.int .i64 c3]] => some (true, enc_b (i_CombinationOf_c1 c0 (c10, c11) (c20, c21) c3))
 | _ => none
theorem sound_i_CombinationOf_c1 : Sound prog 119 run_i_CombinationOf_c1 := by
 refine sound_1 de_b SO_i_CombinationOf_c1 (by kernel_rfl) func119 ntmps119 rfl (by kernel_rfl) fun q r E => ?_
 unfold run_i_CombinationOf_c1 at E
 split at E
 ·obtain ⟨hp, rfl⟩ := so2 E
  rename_i c0 c10 c11 c20 c21 c3
  exact ⟨_, _, rfl, (eq_i_CombinationOf_c1 c0 (c10, c11) (c20, c21) c3).trans (tot_i_CombinationOf_c1 c0 (c10, c11) (c20, c21) c3)⟩
 ·cases E

def S_i_CombinationOf : Sums := ⟨tblS [(106, run_i_asked), (119, run_i_CombinationOf_c1), (121, run_i_combination)], tblM [], false⟩
theorem SO_i_CombinationOf : SumsOK prog S_i_CombinationOf := ⟨tblS_ok ⟨⟨call106, sound_i_asked⟩, ⟨call119, sound_i_CombinationOf_c1⟩, ⟨call121, sound_i_combination⟩, ⟨⟩⟩, tM⟩
def Fo_i_CombinationOf (p : Int) (a b : P2) (t : Int) : Option ((Int × Int) × Int) :=
 (if ((true) || !(i_IsField p)) = true then (if ((i_asked p (true) (i_CombinationOf_c1 p a b t)) != 0) = true then some ((0, 0), (i_asked p (true) (i_CombinationOf_c1 p a b t))) else (if (prB p) = true then some ((i_combination p a b t), 0) else none)) else none)
theorem eq_i_CombinationOf (p : Int) (a b : P2) (t : Int) : eT S_i_CombinationOf 64 23 dec_a2_i [pI p, pA a, pA b, pI t] = Fo_i_CombinationOf p a b t := by
 kernel_rfl
def i_CombinationOf (p : Int) (a b : P2) (t : Int) : (Int × Int) × Int :=
 (if ((i_asked p (true) (i_CombinationOf_c1 p a b t)) != 0) = true then ((0, 0), (i_asked p (true) (i_CombinationOf_c1 p a b t))) else ((i_combination p a b t), 0))
theorem tot_i_CombinationOf (p : Int) (a b : P2) (t : Int) : Fo_i_CombinationOf p a b t = some (i_CombinationOf p a b t) := by
 unfold Fo_i_CombinationOf i_CombinationOf
 (try simp only [wI_eq])
 repeat' (first | with_reducible rfl | refine chk_opt (by first | with_reducible rfl | exact Bool.true_or _ | (have hq : prB p = true := (by (first | (with_reducible assumption) | (with_reducible exact asked_prB ‹_›) | (with_reducible exact asked_prB0 ‹_›))); first | exact hq | exact mk_ok hq | exact and_all hq (fun _ => rfl) | exact and_all hq (fun _ => hq) | exact and3 hq hq hq | exact and_two hq rfl | exact map3_ok hq) | rfl) ?_ | refine ite_opt (fun _ => ?_) (fun _ => ?_) | rfl)
def run_i_CombinationOf : RunP
 | [.v (.int .i64 p), .v (.agg ⟨[.int .i64 a0, .int .i64 a1]⟩), .v (.agg ⟨[.int .i64 b0, .int .i64 b1]⟩), .v (.int .i64 t)] => some (true, enc_a2_i (i_CombinationOf p (a0, a1) (b0, b1) t))
 | _ => none
theorem sound_i_CombinationOf : Sound prog 64 run_i_CombinationOf := by
 refine sound_1 de_a2_i SO_i_CombinationOf (by kernel_rfl) func64 ntmps64 rfl (by kernel_rfl) fun q r E => ?_
 unfold run_i_CombinationOf at E
 split at E
 ·obtain ⟨hp, rfl⟩ := so2 E
  rename_i p a0 a1 b0 b1 t
  exact ⟨_, _, rfl, (eq_i_CombinationOf p (a0, a1) (b0, b1) t).trans (tot_i_CombinationOf p (a0, a1) (b0, b1) t)⟩
 ·cases E

def S_s_CombinationOf : Sums := ⟨tblS [(97, run_s_l01Code), (152, run_s_l01Numbers), (205, run_s_l01Minus), (204, run_s_l01Times), (203, run_s_l01Plus)], tblM [], false⟩
theorem SO_s_CombinationOf : SumsOK prog S_s_CombinationOf := ⟨tblS_ok ⟨⟨call97, sound_s_l01Code⟩, ⟨call152, sound_s_l01Numbers⟩, ⟨call205, sound_s_l01Minus⟩, ⟨call204, sound_s_l01Times⟩, ⟨call203, sound_s_l01Plus⟩, ⟨⟩⟩, tM⟩
def Fo_s_CombinationOf (p : Int) (a b : P2) (t : Int) : Option ((Int × Int) × Int) :=
 (if ((s_l01Code p [a, b]) == 0) = true then (if ((s_l01Numbers p [t]) != 0) = true then some ((0, 0), (s_l01Numbers p [t])) else (if (prB p) = true then (if (prB p) = true then (if (prB p) = true then some ((s_l01Plus p a (s_l01Times p t (s_l01Minus p b a))), 0) else none) else none) else none)) else (if ((s_l01Code p [a, b]) != 0) = true then some ((0, 0), (s_l01Code p [a, b])) else (if (prB p) = true then (if (prB p) = true then (if (prB p) = true then some ((s_l01Plus p a (s_l01Times p t (s_l01Minus p b a))), 0) else none) else none) else none)))
theorem eq_s_CombinationOf (p : Int) (a b : P2) (t : Int) : eT S_s_CombinationOf 155 36 dec_a2_i [pI p, pA a, pA b, pI t] = Fo_s_CombinationOf p a b t := by
 kernel_rfl
def s_CombinationOf (p : Int) (a b : P2) (t : Int) : (Int × Int) × Int :=
 (if ((s_l01Code p [a, b]) == 0) = true then (if ((s_l01Numbers p [t]) != 0) = true then ((0, 0), (s_l01Numbers p [t])) else ((s_l01Plus p a (s_l01Times p t (s_l01Minus p b a))), 0)) else (if ((s_l01Code p [a, b]) != 0) = true then ((0, 0), (s_l01Code p [a, b])) else ((s_l01Plus p a (s_l01Times p t (s_l01Minus p b a))), 0)))
theorem tot_s_CombinationOf (p : Int) (a b : P2) (t : Int) : Fo_s_CombinationOf p a b t = some (s_CombinationOf p a b t) := by
 unfold Fo_s_CombinationOf s_CombinationOf
 (try simp only [wI_eq])
 repeat' (first | with_reducible rfl | refine chk_opt (by (first | (with_reducible assumption) | (with_reducible exact l01Code_prB ‹_›) | (with_reducible exact l01Code_prB0 ‹_›) | (with_reducible exact l01Numbers_prB ‹_›) | (with_reducible exact l01Numbers_prB0 ‹_›))) ?_ | refine ite_opt (fun _ => ?_) (fun _ => ?_) | rfl)
def run_s_CombinationOf : RunP
 | [.v (.int .i64 p), .v (.agg ⟨[.int .i64 a0, .int .i64 a1]⟩), .v (.agg ⟨[.int .i64 b0, .int .i64 b1]⟩), .v (.int .i64 t)] => some (true, enc_a2_i (s_CombinationOf p (a0, a1) (b0, b1) t))
 | _ => none
theorem sound_s_CombinationOf : Sound prog 155 run_s_CombinationOf := by
 refine sound_1 de_a2_i SO_s_CombinationOf (by kernel_rfl) func155 ntmps155 rfl (by kernel_rfl) fun q r E => ?_
 unfold run_s_CombinationOf at E
 split at E
 ·obtain ⟨hp, rfl⟩ := so2 E
  rename_i p a0 a1 b0 b1 t
  exact ⟨_, _, rfl, (eq_s_CombinationOf p (a0, a1) (b0, b1) t).trans (tot_s_CombinationOf p (a0, a1) (b0, b1) t)⟩
 ·cases E

def S_i_PointsAt_c1 : Sums := ⟨tblS [(36, run_i_isColour), (96, run_i_isPoint), (120, run_i_isNumber)], tblM [], false⟩
theorem SO_i_PointsAt_c1 : SumsOK prog S_i_PointsAt_c1 := ⟨tblS_ok ⟨⟨call36, sound_i_isColour⟩, ⟨call96, sound_i_isPoint⟩, ⟨call120, sound_i_isNumber⟩, ⟨⟩⟩, tM⟩
def Fo_i_PointsAt_c1 (c0 c1 : Int) (c2 : P2) (c3 : Int) : Option (Bool) :=
 (if (i_isColour c0) = true then (if (i_isPoint c1 c2) = true then some (i_isNumber c1 c3) else some false) else some false)
theorem eq_i_PointsAt_c1 (c0 c1 : Int) (c2 : P2) (c3 : Int) : eT S_i_PointsAt_c1 122 17 dec_b [.p [.int .i64 c0], .p [.int .i64 c1], .p [.int .i64 c2.1, .int .i64 c2.2], .p [.int .i64 c3]] = Fo_i_PointsAt_c1 c0 c1 c2 c3 := by
 kernel_rfl
def i_PointsAt_c1 (c0 c1 : Int) (c2 : P2) (c3 : Int) : Bool :=
 (if (i_isColour c0) = true then (if (i_isPoint c1 c2) = true then (i_isNumber c1 c3) else false) else false)
theorem tot_i_PointsAt_c1 (c0 c1 : Int) (c2 : P2) (c3 : Int) : Fo_i_PointsAt_c1 c0 c1 c2 c3 = some (i_PointsAt_c1 c0 c1 c2 c3) := by
 unfold Fo_i_PointsAt_c1 i_PointsAt_c1
 (try simp only [wI_eq])
 repeat' (first | with_reducible rfl | refine ite_opt (fun _ => ?_) (fun _ => ?_) | rfl)
def run_i_PointsAt_c1 : RunP
 | [.p [.int .i64 c0], .p [.int .i64 c1], .p [.int .i64 c20, .int .i64 c21], .p [.int .i64 c3]] => some (true, enc_b (i_PointsAt_c1 c0 c1 (c20, c21) c3))
 | _ => none
theorem sound_i_PointsAt_c1 : Sound prog 122 run_i_PointsAt_c1 := by
 refine sound_1 de_b SO_i_PointsAt_c1 (by kernel_rfl) func122 ntmps122 rfl (by kernel_rfl) fun q r E => ?_
 unfold run_i_PointsAt_c1 at E
 split at E
 ·obtain ⟨hp, rfl⟩ := so2 E
  rename_i c0 c1 c20 c21 c3
  exact ⟨_, _, rfl, (eq_i_PointsAt_c1 c0 c1 (c20, c21) c3).trans (tot_i_PointsAt_c1 c0 c1 (c20, c21) c3)⟩
 ·cases E

def S_i_PointsAt : Sums := ⟨tblS [(106, run_i_asked), (122, run_i_PointsAt_c1), (123, run_i_pointsAt)], tblM [], false⟩
theorem SO_i_PointsAt : SumsOK prog S_i_PointsAt := ⟨tblS_ok ⟨⟨call106, sound_i_asked⟩, ⟨call122, sound_i_PointsAt_c1⟩, ⟨call123, sound_i_pointsAt⟩, ⟨⟩⟩, tM⟩
def Fo_i_PointsAt (p colour : Int) (a : P2) (q : Int) : Option ((Nat × List Int) × Int) :=
 (if ((true) || !(i_IsField p)) = true then (if ((i_asked p (true) (i_PointsAt_c1 colour p a q)) != 0) = true then some ((0, []), (i_asked p (true) (i_PointsAt_c1 colour p a q))) else (if (prB p) = true then some (((i_pointsAt p colour a q).1, (i_pointsAt p colour a q).2), 0) else none)) else none)
theorem eq_i_PointsAt (p colour : Int) (a : P2) (q : Int) : eT S_i_PointsAt 66 22 dec_l25_2_i [pI p, pI colour, pA a, pI q] = Fo_i_PointsAt p colour a q := by
 kernel_rfl
def i_PointsAt (p colour : Int) (a : P2) (q : Int) : (Nat × List Int) × Int :=
 (if ((i_asked p (true) (i_PointsAt_c1 colour p a q)) != 0) = true then ((0, []), (i_asked p (true) (i_PointsAt_c1 colour p a q))) else (((i_pointsAt p colour a q).1, (i_pointsAt p colour a q).2), 0))
theorem tot_i_PointsAt (p colour : Int) (a : P2) (q : Int) : Fo_i_PointsAt p colour a q = some (i_PointsAt p colour a q) := by
 unfold Fo_i_PointsAt i_PointsAt
 (try simp only [wI_eq])
 repeat' (first | with_reducible rfl | refine chk_opt (by first | with_reducible rfl | exact Bool.true_or _ | (have hq : prB p = true := (by (first | (with_reducible assumption) | (with_reducible exact asked_prB ‹_›) | (with_reducible exact asked_prB0 ‹_›))); first | exact hq | exact mk_ok hq | exact and_all hq (fun _ => rfl) | exact and_all hq (fun _ => hq) | exact and3 hq hq hq | exact and_two hq rfl | exact map3_ok hq) | rfl) ?_ | refine ite_opt (fun _ => ?_) (fun _ => ?_) | rfl)
def run_i_PointsAt : RunP
 | [.v (.int .i64 p), .v (.int .i64 colour), .v (.agg ⟨[.int .i64 a0, .int .i64 a1]⟩), .v (.int .i64 q)] => some (true, enc_l25_2_i (i_PointsAt p colour (a0, a1) q))
 | _ => none
theorem sound_i_PointsAt : Sound prog 66 run_i_PointsAt := by
 refine sound_1 de_l25_2_i SO_i_PointsAt (by kernel_rfl) func66 ntmps66 rfl (by kernel_rfl) fun q r E => ?_
 unfold run_i_PointsAt at E
 split at E
 ·obtain ⟨hp, rfl⟩ := so2 E
  rename_i p colour a0 a1 q
  exact ⟨_, _, rfl, (eq_i_PointsAt p colour (a0, a1) q).trans (tot_i_PointsAt p colour (a0, a1) q)⟩
 ·cases E

def S_s_PointsAt : Sums := ⟨tblS [(38, run_s_l02Code), (152, run_s_l01Numbers), (206, run_s_l02At)], tblM [], false⟩
theorem SO_s_PointsAt : SumsOK prog S_s_PointsAt := ⟨tblS_ok ⟨⟨call38, sound_s_l02Code⟩, ⟨call152, sound_s_l01Numbers⟩, ⟨call206, sound_s_l02At⟩, ⟨⟩⟩, tM⟩
def Fo_s_PointsAt (p colour : Int) (a : P2) (q : Int) : Option ((Nat × List Int) × Int) :=
 (if ((s_l02Code p colour 1 [a.1, a.2]) == 0) = true then (if ((s_l01Numbers p [q]) != 0) = true then some ((0, []), (s_l01Numbers p [q])) else (if (prB p) = true then some (((s_l02At p colour a q).1, (s_l02At p colour a q).2), 0) else none)) else (if ((s_l02Code p colour 1 [a.1, a.2]) != 0) = true then some ((0, []), (s_l02Code p colour 1 [a.1, a.2])) else (if (prB p) = true then some (((s_l02At p colour a q).1, (s_l02At p colour a q).2), 0) else none)))
theorem eq_s_PointsAt (p colour : Int) (a : P2) (q : Int) : eT S_s_PointsAt 156 30 dec_l25_2_i [pI p, pI colour, pA a, pI q] = Fo_s_PointsAt p colour a q := by
 kernel_rfl
def s_PointsAt (p colour : Int) (a : P2) (q : Int) : (Nat × List Int) × Int :=
 (if ((s_l02Code p colour 1 [a.1, a.2]) == 0) = true then (if ((s_l01Numbers p [q]) != 0) = true then ((0, []), (s_l01Numbers p [q])) else (((s_l02At p colour a q).1, (s_l02At p colour a q).2), 0)) else (if ((s_l02Code p colour 1 [a.1, a.2]) != 0) = true then ((0, []), (s_l02Code p colour 1 [a.1, a.2])) else (((s_l02At p colour a q).1, (s_l02At p colour a q).2), 0)))
theorem tot_s_PointsAt (p colour : Int) (a : P2) (q : Int) : Fo_s_PointsAt p colour a q = some (s_PointsAt p colour a q) := by
 unfold Fo_s_PointsAt s_PointsAt
 (try simp only [wI_eq])
 repeat' (first | with_reducible rfl | refine chk_opt (by (first | (with_reducible assumption) | (with_reducible exact l01Numbers_prB ‹_›) | (with_reducible exact l01Numbers_prB0 ‹_›) | (with_reducible exact l02Code_prB ‹_›) | (with_reducible exact l02Code_prB0 ‹_›))) ?_ | refine ite_opt (fun _ => ?_) (fun _ => ?_) | rfl)
def run_s_PointsAt : RunP
 | [.v (.int .i64 p), .v (.int .i64 colour), .v (.agg ⟨[.int .i64 a0, .int .i64 a1]⟩), .v (.int .i64 q)] => some (true, enc_l25_2_i (s_PointsAt p colour (a0, a1) q))
 | _ => none
theorem sound_s_PointsAt : Sound prog 156 run_s_PointsAt := by
 refine sound_1 de_l25_2_i SO_s_PointsAt (by kernel_rfl) func156 ntmps156 rfl (by kernel_rfl) fun q r E => ?_
 unfold run_s_PointsAt at E
 split at E
 ·obtain ⟨hp, rfl⟩ := so2 E
  rename_i p colour a0 a1 q
  exact ⟨_, _, rfl, (eq_s_PointsAt p colour (a0, a1) q).trans (tot_s_PointsAt p colour (a0, a1) q)⟩
 ·cases E

def S_i_CountAt_c1 : Sums := ⟨tblS [(36, run_i_isColour), (120, run_i_isNumber)], tblM [], false⟩
theorem SO_i_CountAt_c1 : SumsOK prog S_i_CountAt_c1 := ⟨tblS_ok ⟨⟨call36, sound_i_isColour⟩, ⟨call120, sound_i_isNumber⟩, ⟨⟩⟩, tM⟩
def Fo_i_CountAt_c1 (c0 c1 c2 : Int) : Option (Bool) :=
 (if (i_isColour c0) = true then some (i_isNumber c1 c2) else some false)
theorem eq_i_CountAt_c1 (c0 c1 c2 : Int) : eT S_i_CountAt_c1 124 11 dec_b [.p [.int .i64 c0], .p [.int .i64 c1], .p [.int .i64 c2]] = Fo_i_CountAt_c1 c0 c1 c2 := by
 kernel_rfl
def i_CountAt_c1 (c0 c1 c2 : Int) : Bool :=
 (if (i_isColour c0) = true then (i_isNumber c1 c2) else false)
theorem tot_i_CountAt_c1 (c0 c1 c2 : Int) : Fo_i_CountAt_c1 c0 c1 c2 = some (i_CountAt_c1 c0 c1 c2) := by
 unfold Fo_i_CountAt_c1 i_CountAt_c1
 (try simp only [wI_eq])
 repeat' (first | with_reducible rfl | refine ite_opt (fun _ => ?_) (fun _ => ?_) | rfl)
def run_i_CountAt_c1 : RunP
 | [.p [.int .i64 c0], .p [.int .i64 c1], .p [.int .i64 c2]] => some (true, enc_b (i_CountAt_c1 c0 c1 c2))
 | _ => none
theorem sound_i_CountAt_c1 : Sound prog 124 run_i_CountAt_c1 := by
 refine sound_1 de_b SO_i_CountAt_c1 (by kernel_rfl) func124 ntmps124 rfl (by kernel_rfl) fun q r E => ?_
 unfold run_i_CountAt_c1 at E
 split at E
 ·obtain ⟨hp, rfl⟩ := so2 E
  rename_i c0 c1 c2
  exact ⟨_, _, rfl, (eq_i_CountAt_c1 c0 c1 c2).trans (tot_i_CountAt_c1 c0 c1 c2)⟩
 ·cases E

def S_i_CountAt : Sums := ⟨tblS [(106, run_i_asked), (124, run_i_CountAt_c1), (123, run_i_pointsAt)], tblM [], false⟩
theorem SO_i_CountAt : SumsOK prog S_i_CountAt := ⟨tblS_ok ⟨⟨call106, sound_i_asked⟩, ⟨call124, sound_i_CountAt_c1⟩, ⟨call123, sound_i_pointsAt⟩, ⟨⟩⟩, tM⟩
def Fo_i_CountAt (p colour q : Int) : Option (Int × Int) :=
 (if ((true) || !(i_IsField p)) = true then (if ((i_asked p (true) (i_CountAt_c1 colour p q)) != 0) = true then some (0, (i_asked p (true) (i_CountAt_c1 colour p q))) else (if (prB p) = true then some ((((i_pointsAt p colour (0, 0) q).1 : Nat) : Int), 0) else none)) else none)
theorem eq_i_CountAt (p colour q : Int) : eT S_i_CountAt 68 21 dec_i_i [pI p, pI colour, pI q] = Fo_i_CountAt p colour q := by
 kernel_rfl
def i_CountAt (p colour q : Int) : Int × Int :=
 (if ((i_asked p (true) (i_CountAt_c1 colour p q)) != 0) = true then (0, (i_asked p (true) (i_CountAt_c1 colour p q))) else ((((i_pointsAt p colour (0, 0) q).1 : Nat) : Int), 0))
theorem tot_i_CountAt (p colour q : Int) : Fo_i_CountAt p colour q = some (i_CountAt p colour q) := by
 unfold Fo_i_CountAt i_CountAt
 (try simp only [wI_eq])
 repeat' (first | with_reducible rfl | refine chk_opt (by first | with_reducible rfl | exact Bool.true_or _ | (have hq : prB p = true := (by (first | (with_reducible assumption) | (with_reducible exact asked_prB ‹_›) | (with_reducible exact asked_prB0 ‹_›))); first | exact hq | exact mk_ok hq | exact and_all hq (fun _ => rfl) | exact and_all hq (fun _ => hq) | exact and3 hq hq hq | exact and_two hq rfl | exact map3_ok hq) | rfl) ?_ | refine ite_opt (fun _ => ?_) (fun _ => ?_) | rfl)
def run_i_CountAt : RunP
 | [.v (.int .i64 p), .v (.int .i64 colour), .v (.int .i64 q)] => some (true, enc_i_i (i_CountAt p colour q))
 | _ => none
theorem sound_i_CountAt : Sound prog 68 run_i_CountAt := by
 refine sound_1 de_i_i SO_i_CountAt (by kernel_rfl) func68 ntmps68 rfl (by kernel_rfl) fun q r E => ?_
 unfold run_i_CountAt at E
 split at E
 ·obtain ⟨hp, rfl⟩ := so2 E
  rename_i p colour q
  exact ⟨_, _, rfl, (eq_i_CountAt p colour q).trans (tot_i_CountAt p colour q)⟩
 ·cases E

def S_s_CountAt : Sums := ⟨tblS [(152, run_s_l01Numbers), (98, run_s_l02Colour), (206, run_s_l02At)], tblM [], false⟩
theorem SO_s_CountAt : SumsOK prog S_s_CountAt := ⟨tblS_ok ⟨⟨call152, sound_s_l01Numbers⟩, ⟨call98, sound_s_l02Colour⟩, ⟨call206, sound_s_l02At⟩, ⟨⟩⟩, tM⟩
def Fo_s_CountAt (p colour q : Int) : Option (Int × Int) :=
 (if ((s_l01Numbers p [q]) == 0) = true then (if (!(s_l02Colour colour)) = true then some (0, 2) else (if ((s_l01Numbers p [q]) != 0) = true then some (0, (s_l01Numbers p [q])) else (if (prB p) = true then some ((((s_l02At p colour (0, 0) q).1 : Nat) : Int), 0) else none))) else (if ((s_l01Numbers p [q]) != 0) = true then some (0, (s_l01Numbers p [q])) else (if (prB p) = true then some ((((s_l02At p colour (0, 0) q).1 : Nat) : Int), 0) else none)))
theorem eq_s_CountAt (p colour q : Int) : eT S_s_CountAt 157 29 dec_i_i [pI p, pI colour, pI q] = Fo_s_CountAt p colour q := by
 kernel_rfl
def s_CountAt (p colour q : Int) : Int × Int :=
 (if ((s_l01Numbers p [q]) == 0) = true then (if (!(s_l02Colour colour)) = true then (0, 2) else (if ((s_l01Numbers p [q]) != 0) = true then (0, (s_l01Numbers p [q])) else ((((s_l02At p colour (0, 0) q).1 : Nat) : Int), 0))) else (if ((s_l01Numbers p [q]) != 0) = true then (0, (s_l01Numbers p [q])) else ((((s_l02At p colour (0, 0) q).1 : Nat) : Int), 0)))
theorem tot_s_CountAt (p colour q : Int) : Fo_s_CountAt p colour q = some (s_CountAt p colour q) := by
 unfold Fo_s_CountAt s_CountAt
 (try simp only [wI_eq])
 repeat' (first | with_reducible rfl | refine chk_opt (by (first | (with_reducible assumption) | (with_reducible exact l01Numbers_prB ‹_›) | (with_reducible exact l01Numbers_prB0 ‹_›))) ?_ | refine ite_opt (fun _ => ?_) (fun _ => ?_) | rfl)
def run_s_CountAt : RunP
 | [.v (.int .i64 p), .v (.int .i64 colour), .v (.int .i64 q)] => some (true, enc_i_i (s_CountAt p colour q))
 | _ => none
theorem sound_s_CountAt : Sound prog 157 run_s_CountAt := by
 refine sound_1 de_i_i SO_s_CountAt (by kernel_rfl) func157 ntmps157 rfl (by kernel_rfl) fun q r E => ?_
 unfold run_s_CountAt at E
 split at E
 ·obtain ⟨hp, rfl⟩ := so2 E
  rename_i p colour q
  exact ⟨_, _, rfl, (eq_s_CountAt p colour q).trans (tot_s_CountAt p colour q)⟩
 ·cases E

def S_i_DoubledArea_c1 : Sums := ⟨tblS [(37, run_i_arePoints)], tblM [], false⟩
theorem SO_i_DoubledArea_c1 : SumsOK prog S_i_DoubledArea_c1 := ⟨tblS_ok ⟨⟨call37, sound_i_arePoints⟩, ⟨⟩⟩, tM⟩
def Fo_i_DoubledArea_c1 (c0 : Int) (c1 c2 c3 : P2) : Option (Bool) :=
 some (i_arePoints c0 [c1, c2, c3])
theorem eq_i_DoubledArea_c1 (c0 : Int) (c1 c2 c3 : P2) : eT S_i_DoubledArea_c1 125 11 dec_b [.p [.int .i64 c0], .p [.int .i64 c1.1, .int .i64 c1.2], .p [.int .i64 c2.1, .int .i64 c2.2], .p [.int .i64 c3.1, .int .i64 c3.2]] = Fo_i_DoubledArea_c1 c0 c1 c2 c3 := by
 kernel_rfl
def i_DoubledArea_c1 (c0 : Int) (c1 c2 c3 : P2) : Bool :=
 (i_arePoints c0 [c1, c2, c3])
theorem tot_i_DoubledArea_c1 (c0 : Int) (c1 c2 c3 : P2) : Fo_i_DoubledArea_c1 c0 c1 c2 c3 = some (i_DoubledArea_c1 c0 c1 c2 c3) := by
 unfold Fo_i_DoubledArea_c1 i_DoubledArea_c1
 (try simp only [wI_eq])
 repeat' (first | with_reducible rfl | refine ite_opt (fun _ => ?_) (fun _ => ?_) | rfl)
def run_i_DoubledArea_c1 : RunP
 | [.p [.int .i64 c0], .p [.int .i64 c10, .int .i64 c11], .p [.int .i64 c20, .int .i64 c21], .p [.int .i64 c30, .int .i64 c31]] => some (true, enc_b (i_DoubledArea_c1 c0 (c10, c11) (c20, c21) (c30, c31)))
 | _ => none
theorem sound_i_DoubledArea_c1 : Sound prog 125 run_i_DoubledArea_c1 := by
 refine sound_1 de_b SO_i_DoubledArea_c1 (by kernel_rfl) func125 ntmps125 rfl (by kernel_rfl) fun q r E => ?_
 unfold run_i_DoubledArea_c1 at E
 split at E
 ·obtain ⟨hp, rfl⟩ := so2 E
  rename_i c0 c10 c11 c20 c21 c30 c31
  exact ⟨_, _, rfl, (eq_i_DoubledArea_c1 c0 (c10, c11) (c20, c21) (c30, c31)).trans (tot_i_DoubledArea_c1 c0 (c10, c11) (c20, c21) (c30, c31))⟩
 ·cases E

def S_i_DoubledArea : Sums := ⟨tblS [(106, run_i_asked), (125, run_i_DoubledArea_c1), (126, run_i_area)], tblM [], false⟩
theorem SO_i_DoubledArea : SumsOK prog S_i_DoubledArea := ⟨tblS_ok ⟨⟨call106, sound_i_asked⟩, ⟨call125, sound_i_DoubledArea_c1⟩, ⟨call126, sound_i_area⟩, ⟨⟩⟩, tM⟩
def Fo_i_DoubledArea (p : Int) (a b c : P2) : Option (Int × Int) :=
 (if ((true) || !(i_IsField p)) = true then (if ((i_asked p (true) (i_DoubledArea_c1 p a b c)) != 0) = true then some (0, (i_asked p (true) (i_DoubledArea_c1 p a b c))) else (if (prB p) = true then some ((i_area p a b c), 0) else none)) else none)
theorem eq_i_DoubledArea (p : Int) (a b c : P2) : eT S_i_DoubledArea 70 22 dec_i_i [pI p, pA a, pA b, pA c] = Fo_i_DoubledArea p a b c := by
 kernel_rfl
def i_DoubledArea (p : Int) (a b c : P2) : Int × Int :=
 (if ((i_asked p (true) (i_DoubledArea_c1 p a b c)) != 0) = true then (0, (i_asked p (true) (i_DoubledArea_c1 p a b c))) else ((i_area p a b c), 0))
theorem tot_i_DoubledArea (p : Int) (a b c : P2) : Fo_i_DoubledArea p a b c = some (i_DoubledArea p a b c) := by
 unfold Fo_i_DoubledArea i_DoubledArea
 (try simp only [wI_eq])
 repeat' (first | with_reducible rfl | refine chk_opt (by first | with_reducible rfl | exact Bool.true_or _ | (have hq : prB p = true := (by (first | (with_reducible assumption) | (with_reducible exact asked_prB ‹_›) | (with_reducible exact asked_prB0 ‹_›))); first | exact hq | exact mk_ok hq | exact and_all hq (fun _ => rfl) | exact and_all hq (fun _ => hq) | exact and3 hq hq hq | exact and_two hq rfl | exact map3_ok hq) | rfl) ?_ | refine ite_opt (fun _ => ?_) (fun _ => ?_) | rfl)
def run_i_DoubledArea : RunP
 | [.v (.int .i64 p), .v (.agg ⟨[.int .i64 a0, .int .i64 a1]⟩), .v (.agg ⟨[.int .i64 b0, .int .i64 b1]⟩), .v (.agg ⟨[.int .i64 c0, .int .i64 c1]⟩)] => some (true, enc_i_i (i_DoubledArea p (a0, a1) (b0, b1) (c0, c1)))
 | _ => none
theorem sound_i_DoubledArea : Sound prog 70 run_i_DoubledArea := by
 refine sound_1 de_i_i SO_i_DoubledArea (by kernel_rfl) func70 ntmps70 rfl (by kernel_rfl) fun q r E => ?_
 unfold run_i_DoubledArea at E
 split at E
 ·obtain ⟨hp, rfl⟩ := so2 E
  rename_i p a0 a1 b0 b1 c0 c1
  exact ⟨_, _, rfl, (eq_i_DoubledArea p (a0, a1) (b0, b1) (c0, c1)).trans (tot_i_DoubledArea p (a0, a1) (b0, b1) (c0, c1))⟩
 ·cases E

def S_s_DoubledArea : Sums := ⟨tblS [(97, run_s_l01Code), (228, run_s_l01Area)], tblM [], false⟩
theorem SO_s_DoubledArea : SumsOK prog S_s_DoubledArea := ⟨tblS_ok ⟨⟨call97, sound_s_l01Code⟩, ⟨call228, sound_s_l01Area⟩, ⟨⟩⟩, tM⟩
def Fo_s_DoubledArea (p : Int) (a b c : P2) : Option (Int × Int) :=
 (if ((s_l01Code p [a, b, c]) != 0) = true then some (0, (s_l01Code p [a, b, c])) else (if (prB p) = true then some ((s_l01Area p a b c), 0) else none))
theorem eq_s_DoubledArea (p : Int) (a b c : P2) : eT S_s_DoubledArea 189 25 dec_i_i [pI p, pA a, pA b, pA c] = Fo_s_DoubledArea p a b c := by
 kernel_rfl
def s_DoubledArea (p : Int) (a b c : P2) : Int × Int :=
 (if ((s_l01Code p [a, b, c]) != 0) = true then (0, (s_l01Code p [a, b, c])) else ((s_l01Area p a b c), 0))
theorem tot_s_DoubledArea (p : Int) (a b c : P2) : Fo_s_DoubledArea p a b c = some (s_DoubledArea p a b c) := by
 unfold Fo_s_DoubledArea s_DoubledArea
 (try simp only [wI_eq])
 repeat' (first | with_reducible rfl | refine chk_opt (by (first | (with_reducible assumption) | (with_reducible exact l01Code_prB ‹_›) | (with_reducible exact l01Code_prB0 ‹_›))) ?_ | refine ite_opt (fun _ => ?_) (fun _ => ?_) | rfl)
def run_s_DoubledArea : RunP
 | [.v (.int .i64 p), .v (.agg ⟨[.int .i64 a0, .int .i64 a1]⟩), .v (.agg ⟨[.int .i64 b0, .int .i64 b1]⟩), .v (.agg ⟨[.int .i64 c0, .int .i64 c1]⟩)] => some (true, enc_i_i (s_DoubledArea p (a0, a1) (b0, b1) (c0, c1)))
 | _ => none
theorem sound_s_DoubledArea : Sound prog 189 run_s_DoubledArea := by
 refine sound_1 de_i_i SO_s_DoubledArea (by kernel_rfl) func189 ntmps189 rfl (by kernel_rfl) fun q r E => ?_
 unfold run_s_DoubledArea at E
 split at E
 ·obtain ⟨hp, rfl⟩ := so2 E
  rename_i p a0 a1 b0 b1 c0 c1
  exact ⟨_, _, rfl, (eq_s_DoubledArea p (a0, a1) (b0, b1) (c0, c1)).trans (tot_s_DoubledArea p (a0, a1) (b0, b1) (c0, c1))⟩
 ·cases E

def S_i_NullLines_c1 : Sums := ⟨tblS [(36, run_i_isColour), (96, run_i_isPoint)], tblM [], false⟩
theorem SO_i_NullLines_c1 : SumsOK prog S_i_NullLines_c1 := ⟨tblS_ok ⟨⟨call36, sound_i_isColour⟩, ⟨call96, sound_i_isPoint⟩, ⟨⟩⟩, tM⟩
def Fo_i_NullLines_c1 (c0 c1 : Int) (c2 : P2) : Option (Bool) :=
 (if (i_isColour c0) = true then some (i_isPoint c1 c2) else some false)
theorem eq_i_NullLines_c1 (c0 c1 : Int) (c2 : P2) : eT S_i_NullLines_c1 131 11 dec_b [.p [.int .i64 c0], .p [.int .i64 c1], .p [.int .i64 c2.1, .int .i64 c2.2]] = Fo_i_NullLines_c1 c0 c1 c2 := by
 kernel_rfl
def i_NullLines_c1 (c0 c1 : Int) (c2 : P2) : Bool :=
 (if (i_isColour c0) = true then (i_isPoint c1 c2) else false)
theorem tot_i_NullLines_c1 (c0 c1 : Int) (c2 : P2) : Fo_i_NullLines_c1 c0 c1 c2 = some (i_NullLines_c1 c0 c1 c2) := by
 unfold Fo_i_NullLines_c1 i_NullLines_c1
 (try simp only [wI_eq])
 repeat' (first | with_reducible rfl | refine ite_opt (fun _ => ?_) (fun _ => ?_) | rfl)
def run_i_NullLines_c1 : RunP
 | [.p [.int .i64 c0], .p [.int .i64 c1], .p [.int .i64 c20, .int .i64 c21]] => some (true, enc_b (i_NullLines_c1 c0 c1 (c20, c21)))
 | _ => none
theorem sound_i_NullLines_c1 : Sound prog 131 run_i_NullLines_c1 := by
 refine sound_1 de_b SO_i_NullLines_c1 (by kernel_rfl) func131 ntmps131 rfl (by kernel_rfl) fun q r E => ?_
 unfold run_i_NullLines_c1 at E
 split at E
 ·obtain ⟨hp, rfl⟩ := so2 E
  rename_i c0 c1 c20 c21
  exact ⟨_, _, rfl, (eq_i_NullLines_c1 c0 c1 (c20, c21)).trans (tot_i_NullLines_c1 c0 c1 (c20, c21))⟩
 ·cases E

def S_i_NullLines_c2 : Sums := ⟨tblS [(113, run_i_isNull)], tblM [], false⟩
theorem SO_i_NullLines_c2 : SumsOK prog S_i_NullLines_c2 := ⟨tblS_ok ⟨⟨call113, sound_i_isNull⟩, ⟨⟩⟩, tM⟩
def Fo_i_NullLines_c2 (l : P3) (c0 c1 : Int) : Option (Bool) :=
 (if (prB c0) = true then some (i_isNull c0 c1 l) else none)
theorem eq_i_NullLines_c2 (l : P3) (c0 c1 : Int) : eT S_i_NullLines_c2 133 9 dec_b [pB l, .p [.int .i64 c0], .p [.int .i64 c1]] = Fo_i_NullLines_c2 l c0 c1 := by
 kernel_rfl
def i_NullLines_c2 (l : P3) (c0 c1 : Int) : Bool :=
 (i_isNull c0 c1 l)
theorem tot_i_NullLines_c2 (l : P3) (c0 c1 : Int) (hp : (prB c0) = true) : Fo_i_NullLines_c2 l c0 c1 = some (i_NullLines_c2 l c0 c1) := by
 try have h0 := prB_ne hp
 unfold Fo_i_NullLines_c2 i_NullLines_c2
 (try simp only [wI_eq])
 repeat' (first | with_reducible rfl | with_reducible refine chk_opt hp ?_ | with_reducible refine chk_opt h0 ?_ | refine chk_opt (and_all hp fun _ => hp) ?_ | refine chk_opt (and_all hp fun _ => rfl) ?_ | refine ite_opt (fun _ => ?_) (fun _ => ?_) | rfl)
def run_i_NullLines_c2 : RunP
 | [.v (.agg ⟨[.int .i64 l0, .int .i64 l1, .int .i64 l2]⟩), .p [.int .i64 c0], .p [.int .i64 c1]] => some (prB c0, enc_b (i_NullLines_c2 (l0, l1, l2) c0 c1))
 | _ => none
theorem sound_i_NullLines_c2 : Sound prog 133 run_i_NullLines_c2 := by
 refine sound_1 de_b SO_i_NullLines_c2 (by kernel_rfl) func133 ntmps133 rfl (by kernel_rfl) fun q r E => ?_
 unfold run_i_NullLines_c2 at E
 split at E
 ·obtain ⟨hp, rfl⟩ := so2 E
  rename_i l0 l1 l2 c0 c1
  exact ⟨_, _, rfl, (eq_i_NullLines_c2 (l0, l1, l2) c0 c1).trans (tot_i_NullLines_c2 (l0, l1, l2) c0 c1 hp)⟩
 ·cases E

def S_i_linesWith : Sums := ⟨tblS [(176, run_i_linesThrough)], tblM [], false⟩
theorem SO_i_linesWith : SumsOK prog S_i_linesWith := ⟨tblS_ok ⟨⟨call176, sound_i_linesThrough⟩, ⟨⟩⟩, tM⟩
def T_i_linesWith_0 (p : Int) (a : P2) (holdsk : (Int × Int × Int) → Bool) (holdsh : (Int × Int × Int) → Bool) (l10 : List Int) (m10 : Nat) (t15 : Int) : Tab := ⟨[.val (.int .i64 p), .val (.agg ⟨[.int .i64 a.1, .int .i64 a.2]⟩), .fn (clo_a3_b holdsk holdsh), .junk, .ptr 16 0, .junk, .val (.slice none 0 0), .row 40, .junk, .junk, .junk, .val (.int .i64 p), .val (.agg ⟨[.int .i64 a.1, .int .i64 a.2]⟩), .row 52, .val (.int .i64 (((i_linesThrough p a).1 : Nat) : Int)), .val (.int .i64 t15), .junk, .junk, .junk, .junk, .junk, .junk, .junk, .junk, .junk, .junk, .junk, .junk], [(16, .box 25 [.val (.int .i64 a.1), .val (.int .i64 a.2)]), (40, .row 90 3 m10 (.ints l10)), (52, .row 90 3 ((i_linesThrough p a).1) (.ints ((i_linesThrough p a).2)))]⟩
def X_i_linesWith_0 (P : Program) (fu : Nat) (p : Int) (a : P2) (holdsk : (Int × Int × Int) → Bool) (holdsh : (Int × Int × Int) → Bool) (f : Nat) (l10 : List Int) (m10 : Nat) (t15 : Int) : Option (Nat × List Int) := loopK (exec P S_i_linesWith 28 (fun _ => fu + 100) (Code.sub [1, 1, 0, 1, 0, 0] (bodyF P 132))) f (T_i_linesWith_0 p a holdsk holdsh l10 m10 t15) (kBlock 0 (kSeq (fun zs9 => exec P S_i_linesWith 28 (fun _ => fu + 100) (Code.sub [1, 1, 1] (bodyF P 132)) zs9 (finT P 132 dec_l90_3)) (finT P 132 dec_l90_3)))
def B_i_linesWith_0 (p : Int) (a : P2) (holdsk : (Int × Int × Int) → Bool) (holdsh : (Int × Int × Int) → Bool) (rec0 : (List Int) → Nat → Int → Option (Nat × List Int)) (l10 : List Int) (m10 : Nat) (t15 : Int) : Option (Nat × List Int) :=
 (if (decide (t15 < (((i_linesThrough p a).1 : Nat) : Int))) = true then (if (decide (0 ≤ t15) && decide (t15 < (((i_linesThrough p a).1 : Nat) : Int))) = true then (if (Nat.ble (t15.toNat * 3 + 3) (((i_linesThrough p a).2).length)) = true then (if (holdsk (((i_linesThrough p a).2).getD (t15.toNat * 3 + 0) 0, ((i_linesThrough p a).2).getD (t15.toNat * 3 + 1) 0, ((i_linesThrough p a).2).getD (t15.toNat * 3 + 2) 0)) = true then (if (holdsh (((i_linesThrough p a).2).getD (t15.toNat * 3 + 0) 0, ((i_linesThrough p a).2).getD (t15.toNat * 3 + 1) 0, ((i_linesThrough p a).2).getD (t15.toNat * 3 + 2) 0)) = true then (if (Nat.ble 0 1 && Nat.ble (m10 + 1) 2000000 && Nat.beq 3 (3)) = true then rec0 (l10 ++ [((i_linesThrough p a).2).getD (t15.toNat * 3 + 0) 0, ((i_linesThrough p a).2).getD (t15.toNat * 3 + 1) 0, ((i_linesThrough p a).2).getD (t15.toNat * 3 + 2) 0]) (m10 + 1) (wI (t15 + 1)) else none) else rec0 l10 m10 (wI (t15 + 1))) else none) else none) else none) else some (m10, l10))
def L_i_linesWith_0 (fu : Nat) (p : Int) (a : P2) (holdsk : (Int × Int × Int) → Bool) (holdsh : (Int × Int × Int) → Bool) : Nat → (List Int) → Nat → Int → Option (Nat × List Int)
 | 0, _, _, _ => none
 | f + 1, l10, m10, t15 => B_i_linesWith_0 p a holdsk holdsh (L_i_linesWith_0 fu p a holdsk holdsh f) l10 m10 t15
theorem loop_i_linesWith_0 (fu : Nat) (p : Int) (a : P2) (holdsk : (Int × Int × Int) → Bool) (holdsh : (Int × Int × Int) → Bool) : ∀ (f : Nat) (l10 : List Int) (m10 : Nat) (t15 : Int), X_i_linesWith_0 prog fu p a holdsk holdsh f l10 m10 t15 = L_i_linesWith_0 fu p a holdsk holdsh f l10 m10 t15 := by
 intro f
 induction f with
 | zero => intros; rfl
 | succ f ih =>
  intro l10 m10 t15
  have h1 : X_i_linesWith_0 prog fu p a holdsk holdsh (f + 1) l10 m10 t15 = B_i_linesWith_0 p a holdsk holdsh (X_i_linesWith_0 prog fu p a holdsk holdsh f) l10 m10 t15 := by kernel_rfl
  have h2 : X_i_linesWith_0 prog fu p a holdsk holdsh f = L_i_linesWith_0 fu p a holdsk holdsh f := by funext l10 m10 t15; exact ih l10 m10 t15
  rw [h1, h2]
  rfl
def G_i_linesWith (p : Int) (a : P2) (holdsk : (Int × Int × Int) → Bool) (holdsh : (Int × Int × Int) → Bool) (lo0 : (List Int) → Nat → Int → Option (Nat × List Int)) : Option (Nat × List Int) :=
 (if (prB p) = true then lo0 [] 0 0 else none)
def Fo_i_linesWith (fu : Nat) (p : Int) (a : P2) (holdsk : (Int × Int × Int) → Bool) (holdsh : (Int × Int × Int) → Bool) : Option (Nat × List Int) := G_i_linesWith p a holdsk holdsh (L_i_linesWith_0 fu p a holdsk holdsh (fu + 100))
theorem eq_i_linesWith (fu : Nat) (p : Int) (a : P2) (holdsk : (Int × Int × Int) → Bool) (holdsh : (Int × Int × Int) → Bool) : eF fu S_i_linesWith 132 28 dec_l90_3 [pI p, pA a, .f (clo_a3_b holdsk holdsh)] = Fo_i_linesWith fu p a holdsk holdsh := by
 have h1 : eF fu S_i_linesWith 132 28 dec_l90_3 [pI p, pA a, .f (clo_a3_b holdsk holdsh)] = G_i_linesWith p a holdsk holdsh (X_i_linesWith_0 prog fu p a holdsk holdsh (fu + 100)) := by kernel_rfl
 have c0 : X_i_linesWith_0 prog fu p a holdsk holdsh (fu + 100) = L_i_linesWith_0 fu p a holdsk holdsh (fu + 100) := by funext l10 m10 t15; exact loop_i_linesWith_0 fu p a holdsk holdsh (fu + 100) l10 m10 t15
 rw [h1, c0]
 rfl
def i_linesWith (p : Int) (a : P2) (holdsk holdsh : P3 → Bool) : Nat × List Int := (((linesT p a).filter holdsh).length, flat3 ((linesT p a).filter holdsh))
theorem lo0_i_linesWith (p : Int) (a : P2) (holdsk holdsh : P3 → Bool) (hp : prB p = true) (key : ∀ k, k < (linesT p a).length → holdsk (R3 (flat3 (linesT p a)) k) = true) {F : Nat} (hF : 993 < F) : L_i_linesWith_0 1000000 p a holdsk holdsh F [] 0 0 = some (((linesT p a).filter holdsh).length, flat3 ((linesT p a).filter holdsh)) := by
 have hlen : (linesT p a).length ≤ 993 := linesT_len hp a
 exact gather (flat := flat3) flat3_app rfl (L := fun f l m i => L_i_linesWith_0 1000000 p a holdsk holdsh f l m i) (n := (linesT p a).length) (b := 1) (M := 0) (fun k => if holdsh (R3 (flat3 (linesT p a)) k) = true then [R3 (flat3 (linesT p a)) k] else []) (K := (some (((linesT p a).filter holdsh).length, flat3 ((linesT p a).filter holdsh)))) (l := []) (m := 0) (F := F) (by intro k hk; first | (split <;> simp) | simp_all)
  (fun f k l m hk hm => by
   show B_i_linesWith_0 p a holdsk holdsh (L_i_linesWith_0 1000000 p a holdsk holdsh f) l m (k : Int) = _
   unfold B_i_linesWith_0
   have x0 : holdsk ((flat3 (linesT p a)).getD (k * 3 + 0) 0, (flat3 (linesT p a)).getD (k * 3 + 1) 0, (flat3 (linesT p a)).getD (k * 3 + 2) 0) = true := key k hk
   have e0 : decide (0 ≤ (k : Int)) = true := by simp
   have e1 := cnd hk
   have e3 : (k : Int).toNat = k := Int.toNat_natCast k
   have e4 := row3_ok (flat3_len _) hk
   have e5 : Nat.ble 1 1 = true := rfl
   have e6 : Nat.ble (m + 1) 2000000 = true := leb (by omega)
   rw [show i_linesThrough p a = ((linesT p a).length, flat3 (linesT p a)) from rfl]
   simp only [e0, e1, e3, e4, e5, e6, beq33, x0, Bool.and_true, Bool.true_and, if_true, wrap_add1 hk (by omega)]
   have hq0 : (holdsh ((flat3 (linesT p a)).getD (k * 3 + 0) 0, (flat3 (linesT p a)).getD (k * 3 + 1) 0, (flat3 (linesT p a)).getD (k * 3 + 2) 0)) = (holdsh (R3 (flat3 (linesT p a)) k)) := rfl
   try rw [hq0]
   generalize (holdsh (R3 (flat3 (linesT p a)) k)) = c0
   cases c0 <;> first
    | rfl
    | (
      simp only [Bool.false_eq_true, Bool.false_and, Bool.and_false, Bool.true_and, if_false, if_true]
      rw [show flat3 [] = [] from rfl, List.append_nil]
      rfl))
  (fun f hm => by
   show B_i_linesWith_0 p a holdsk holdsh (L_i_linesWith_0 1000000 p a holdsk holdsh f) ([] ++ flat3 ((List.range (linesT p a).length).flatMap (fun k => if holdsh (R3 (flat3 (linesT p a)) k) = true then [R3 (flat3 (linesT p a)) k] else []))) (0 + ((List.range (linesT p a).length).flatMap (fun k => if holdsh (R3 (flat3 (linesT p a)) k) = true then [R3 (flat3 (linesT p a)) k] else [])).length) (((linesT p a).length : Nat) : Int) = _
   unfold B_i_linesWith_0
   have hkp : ((List.range ((linesT p a).length)).flatMap fun k => if holdsh (R3 (flat3 (linesT p a)) k) = true then [R3 (flat3 (linesT p a)) k] else []) = (rows3 ((linesT p a).length) (flat3 (linesT p a))).filter (fun zz => holdsh zz) := keep3 ((linesT p a).length) (flat3 (linesT p a)) (fun zz => holdsh zz)
   rw [show i_linesThrough p a = ((linesT p a).length, flat3 (linesT p a)) from rfl]
   rw [if_neg (by simp), hkp, rows3_flat3]
   simp) (by omega) (Nat.le_refl _)
theorem tot_i_linesWith (p : Int) (a : P2) (holdsk : (Int × Int × Int) → Bool) (holdsh : (Int × Int × Int) → Bool) (hp : (prB p && (linesT p a).all holdsk) = true) : Fo_i_linesWith 1000000 p a holdsk holdsh = some (i_linesWith p a holdsk holdsh) := by
 simp only [Bool.and_eq_true] at hp
 obtain ⟨hp, hall⟩ := hp
 have hrow : ∀ k, k < (linesT p a).length → holdsk (R3 (flat3 (linesT p a)) k) = true := by
  intro k hk
  rw [R3_flat, List.getD_eq_getElem?_getD, List.getElem?_eq_getElem hk]
  exact List.all_eq_true.1 hall _ (List.getElem_mem hk)
 unfold Fo_i_linesWith G_i_linesWith
 rw [if_pos hp]
 exact lo0_i_linesWith p a holdsk holdsh hp hrow (by omega)
def run_i_linesWith : RunP
 | [.v (.int .i64 p), .v (.agg ⟨[.int .i64 a0, .int .i64 a1]⟩), .f holdsg] => some (prB p && (linesT p (a0, a1)).all (fun a0 => okV (holdsg [.agg ⟨[.int .i64 a0.1, .int .i64 a0.2.1, .int .i64 a0.2.2]⟩])), enc_l90_3 (i_linesWith p (a0, a1) (fun a0 => okV (holdsg [.agg ⟨[.int .i64 a0.1, .int .i64 a0.2.1, .int .i64 a0.2.2]⟩])) (fun a0 => boolV (holdsg [.agg ⟨[.int .i64 a0.1, .int .i64 a0.2.1, .int .i64 a0.2.2]⟩]))))
 | _ => none
theorem sound_i_linesWith : Sound prog 132 run_i_linesWith := by
 refine sound_of de_l90_3 SO_i_linesWith (by kernel_rfl) func132 ntmps132 rfl (by kernel_rfl) ?_
 intro W pvs avs rs hargs hrun
 unfold run_i_linesWith at hrun
 split at hrun
 ·simp only [Option.some.injEq, Prod.mk.injEq] at hrun
  obtain ⟨hp, rfl⟩ := hrun
  rename_i p a0 a1 holdsg
  have hargs := All2.replace (l1 := [_, _]) hargs (y := .f (clo_a3_b _ _)) fun b hb => fn_weaken hb (clo_a3_b_ok _)
  exact ⟨_, _, _, hargs, rfl, (eq_i_linesWith _ p (a0, a1) (fun a0 => okV (holdsg [.agg ⟨[.int .i64 a0.1, .int .i64 a0.2.1, .int .i64 a0.2.2]⟩])) (fun a0 => boolV (holdsg [.agg ⟨[.int .i64 a0.1, .int .i64 a0.2.1, .int .i64 a0.2.2]⟩]))).trans (tot_i_linesWith p (a0, a1) (fun a0 => okV (holdsg [.agg ⟨[.int .i64 a0.1, .int .i64 a0.2.1, .int .i64 a0.2.2]⟩])) (fun a0 => boolV (holdsg [.agg ⟨[.int .i64 a0.1, .int .i64 a0.2.1, .int .i64 a0.2.2]⟩])) hp)⟩
 ·cases hrun

def S_i_NullLines : Sums := ⟨tblS [(106, run_i_asked), (131, run_i_NullLines_c1), (132, run_i_linesWith), (133, run_i_NullLines_c2)], tblM [], false⟩
theorem SO_i_NullLines : SumsOK prog S_i_NullLines := ⟨tblS_ok ⟨⟨call106, sound_i_asked⟩, ⟨call131, sound_i_NullLines_c1⟩, ⟨call132, sound_i_linesWith⟩, ⟨call133, sound_i_NullLines_c2⟩, ⟨⟩⟩, tM⟩
def Fo_i_NullLines (p colour : Int) (a : P2) : Option ((Nat × List Int) × Int) :=
 (if ((true) || !(i_IsField p)) = true then (if ((i_asked p (true) (i_NullLines_c1 colour p a)) != 0) = true then some ((0, []), (i_asked p (true) (i_NullLines_c1 colour p a))) else (if (prB p && (linesT p a).all (fun a0 => prB p)) = true then some (((i_linesWith p a (fun a0 => prB p) (fun a0 => i_NullLines_c2 a0 p colour)).1, (i_linesWith p a (fun a0 => prB p) (fun a0 => i_NullLines_c2 a0 p colour)).2), 0) else none)) else none)
theorem eq_i_NullLines (p colour : Int) (a : P2) : eT S_i_NullLines 74 19 dec_l90_3_i [pI p, pI colour, pA a] = Fo_i_NullLines p colour a := by
 kernel_rfl
def i_NullLines (p colour : Int) (a : P2) : (Nat × List Int) × Int :=
 (if ((i_asked p (true) (i_NullLines_c1 colour p a)) != 0) = true then ((0, []), (i_asked p (true) (i_NullLines_c1 colour p a))) else (((i_linesWith p a (fun a0 => prB p) (fun a0 => i_NullLines_c2 a0 p colour)).1, (i_linesWith p a (fun a0 => prB p) (fun a0 => i_NullLines_c2 a0 p colour)).2), 0))
theorem tot_i_NullLines (p colour : Int) (a : P2) : Fo_i_NullLines p colour a = some (i_NullLines p colour a) := by
 unfold Fo_i_NullLines i_NullLines
 (try simp only [wI_eq])
 repeat' (first | with_reducible rfl | refine chk_opt (by first | with_reducible rfl | exact Bool.true_or _ | (have hq : prB p = true := (by (first | (with_reducible assumption) | (with_reducible exact asked_prB ‹_›) | (with_reducible exact asked_prB0 ‹_›))); first | exact hq | exact mk_ok hq | exact and_all hq (fun _ => rfl) | exact and_all hq (fun _ => hq) | exact and3 hq hq hq | exact and_two hq rfl | exact map3_ok hq) | rfl) ?_ | refine ite_opt (fun _ => ?_) (fun _ => ?_) | rfl)
def run_i_NullLines : RunP
 | [.v (.int .i64 p), .v (.int .i64 colour), .v (.agg ⟨[.int .i64 a0, .int .i64 a1]⟩)] => some (true, enc_l90_3_i (i_NullLines p colour (a0, a1)))
 | _ => none
theorem sound_i_NullLines : Sound prog 74 run_i_NullLines := by
 refine sound_1 de_l90_3_i SO_i_NullLines (by kernel_rfl) func74 ntmps74 rfl (by kernel_rfl) fun q r E => ?_
 unfold run_i_NullLines at E
 split at E
 ·obtain ⟨hp, rfl⟩ := so2 E
  rename_i p colour a0 a1
  exact ⟨_, _, rfl, (eq_i_NullLines p colour (a0, a1)).trans (tot_i_NullLines p colour (a0, a1))⟩
 ·cases E

def S_s_NullLines : Sums := ⟨tblS [(38, run_s_l02Code), (222, run_s_l01Normal), (183, run_s_l02Perpendicular)], tblM [], false⟩
theorem SO_s_NullLines : SumsOK prog S_s_NullLines := ⟨tblS_ok ⟨⟨call38, sound_s_l02Code⟩, ⟨call222, sound_s_l01Normal⟩, ⟨call183, sound_s_l02Perpendicular⟩, ⟨⟩⟩, tM⟩
def T_s_NullLines_0 (p colour : Int) (a : P2) (l20 : List Int) (m20 : Nat) (i : Int) : Tab := ⟨[.val (.int .i64 p), .val (.int .i64 colour), .val (.agg ⟨[.int .i64 a.1, .int .i64 a.2]⟩), .junk, .junk, .ptr 20 0, .val (.slice none 0 0), .val (.int .i64 0), .val (.int .i64 (s_l02Code p colour 1 [a.1, a.2])), .row 80, .val (.int .i64 i), .junk, .val (.int .i64 p), .val (.int .i64 colour), .val (.agg ⟨[.int .i64 a.1, .int .i64 a.2]⟩), .row 60, .val (.int .i64 (s_l02Code p colour 1 [a.1, a.2])), .val (.int .i64 (s_l02Code p colour 1 [a.1, a.2])), .val (.bool ((s_l02Code p colour 1 [a.1, a.2]) != 0)), .junk, .junk, .junk, .junk, .junk, .junk, .junk, .junk, .junk, .junk, .junk, .junk, .junk, .junk, .junk, .junk, .junk, .junk, .junk, .junk, .junk, .junk, .junk, .junk, .junk, .junk, .junk, .junk, .junk, .junk, .junk, .junk, .junk, .junk, .junk], [(20, .box 25 [.val (.int .i64 a.1), .val (.int .i64 a.2)]), (60, .row 25 2 1 (.ints [a.1, a.2])), (80, .row 90 3 m20 (.ints l20))]⟩
def X_s_NullLines_0 (P : Program) (fu : Nat) (p colour : Int) (a : P2) (f : Nat) (l20 : List Int) (m20 : Nat) (i : Int) : Option ((Nat × List Int) × Int) := loopK (exec P S_s_NullLines 54 (fun _ => fu + 100) (Code.sub [1, 1, 1, 0, 1, 0, 0] (bodyF P 239))) f (T_s_NullLines_0 p colour a l20 m20 i) (kBlock 0 (kSeq (fun zs9 => exec P S_s_NullLines 54 (fun _ => fu + 100) (Code.sub [1, 1, 1, 1] (bodyF P 239)) zs9 (finT P 239 dec_l90_3_i)) (finT P 239 dec_l90_3_i)))
def B_s_NullLines_0 (p colour : Int) (a : P2) (rec0 : (List Int) → Nat → Int → Option ((Nat × List Int) × Int)) (l20 : List Int) (m20 : Nat) (i : Int) : Option ((Nat × List Int) × Int) :=
 (if (decide (i < p)) = true then (if (prB p) = true then (if (decide (i ≥ 0)) = true then (if (prB p) = true then (if (prB p) = true then (if (s_l02Perpendicular p colour (s_l01Normal p 1 i (wI (0 - (wI (a.1 + (wI (i * a.2))))))) (s_l01Normal p 1 i (wI (0 - (wI (a.1 + (wI (i * a.2)))))))) = true then (if (Nat.ble 0 1 && Nat.ble (m20 + 1) 2000000 && Nat.beq 3 (3)) = true then rec0 (l20 ++ [(s_l01Normal p 1 i (wI (0 - (wI (a.1 + (wI (i * a.2))))))).1, (s_l01Normal p 1 i (wI (0 - (wI (a.1 + (wI (i * a.2))))))).2.1, (s_l01Normal p 1 i (wI (0 - (wI (a.1 + (wI (i * a.2))))))).2.2]) (m20 + 1) (wI (i + 1)) else none) else rec0 l20 m20 (wI (i + 1))) else none) else none) else (if (prB p) = true then (if (s_l02Perpendicular p colour (s_l01Normal p 0 1 (wI (0 - a.2))) (s_l01Normal p 0 1 (wI (0 - a.2)))) = true then (if (Nat.ble 0 1 && Nat.ble (m20 + 1) 2000000 && Nat.beq 3 (3)) = true then rec0 (l20 ++ [(s_l01Normal p 0 1 (wI (0 - a.2))).1, (s_l01Normal p 0 1 (wI (0 - a.2))).2.1, (s_l01Normal p 0 1 (wI (0 - a.2))).2.2]) (m20 + 1) (wI (i + 1)) else none) else rec0 l20 m20 (wI (i + 1))) else none)) else none) else some ((m20, l20), 0))
def L_s_NullLines_0 (fu : Nat) (p colour : Int) (a : P2) : Nat → (List Int) → Nat → Int → Option ((Nat × List Int) × Int)
 | 0, _, _, _ => none
 | f + 1, l20, m20, i => B_s_NullLines_0 p colour a (L_s_NullLines_0 fu p colour a f) l20 m20 i
theorem loop_s_NullLines_0 (fu : Nat) (p colour : Int) (a : P2) : ∀ (f : Nat) (l20 : List Int) (m20 : Nat) (i : Int), X_s_NullLines_0 prog fu p colour a f l20 m20 i = L_s_NullLines_0 fu p colour a f l20 m20 i := by
 intro f
 induction f with
 | zero => intros; rfl
 | succ f ih =>
  intro l20 m20 i
  have h1 : X_s_NullLines_0 prog fu p colour a (f + 1) l20 m20 i = B_s_NullLines_0 p colour a (X_s_NullLines_0 prog fu p colour a f) l20 m20 i := by kernel_rfl
  have h2 : X_s_NullLines_0 prog fu p colour a f = L_s_NullLines_0 fu p colour a f := by funext l20 m20 i; exact ih l20 m20 i
  rw [h1, h2]
  rfl
def G_s_NullLines (p colour : Int) (a : P2) (lo0 : (List Int) → Nat → Int → Option ((Nat × List Int) × Int)) : Option ((Nat × List Int) × Int) :=
 (if ((s_l02Code p colour 1 [a.1, a.2]) != 0) = true then some ((0, []), (s_l02Code p colour 1 [a.1, a.2])) else lo0 [] 0 (-1))
def Fo_s_NullLines (fu : Nat) (p colour : Int) (a : P2) : Option ((Nat × List Int) × Int) := G_s_NullLines p colour a (L_s_NullLines_0 fu p colour a (fu + 100))
theorem eq_s_NullLines (fu : Nat) (p colour : Int) (a : P2) : eF fu S_s_NullLines 239 54 dec_l90_3_i [pI p, pI colour, pA a] = Fo_s_NullLines fu p colour a := by
 have h1 : eF fu S_s_NullLines 239 54 dec_l90_3_i [pI p, pI colour, pA a] = G_s_NullLines p colour a (X_s_NullLines_0 prog fu p colour a (fu + 100)) := by kernel_rfl
 have c0 : X_s_NullLines_0 prog fu p colour a (fu + 100) = L_s_NullLines_0 fu p colour a (fu + 100) := by funext l20 m20 i; exact loop_s_NullLines_0 fu p colour a (fu + 100) l20 m20 i
 rw [h1, c0]
 rfl
def nullsL (p colour : Int) (a : P2) : List P3 := (((s_l01Normal p 0 1 (wI (0 - a.2))) :: (List.range p.toNat).map fun k : Nat => s_l01Normal p 1 (k : Int) (wI (0 - (wI (a.1 + (wI ((k : Int) * a.2)))))))).filter fun zz => s_l02Perpendicular p colour zz zz
def s_NullLines (p colour : Int) (a : P2) : (Nat × List Int) × Int := if ((s_l02Code p colour 1 [a.1, a.2]) != 0) = true then ((0, []), (s_l02Code p colour 1 [a.1, a.2])) else (((nullsL p colour a).length, flat3 (nullsL p colour a)), 0)
theorem nulls_go {p : Int} (hp : prB p = true) (colour : Int) (a : P2) {F m : Nat} {l : List Int} (hF : p.toNat < F) (hm : m ≤ 1) : L_s_NullLines_0 1000000 p colour a F l m 0 = some ((m + (((List.range p.toNat).map fun k : Nat => s_l01Normal p 1 (k : Int) (wI (0 - (wI (a.1 + (wI ((k : Int) * a.2))))))).filter fun zz => s_l02Perpendicular p colour zz zz).length, l ++ flat3 (((List.range p.toNat).map fun k : Nat => s_l01Normal p 1 (k : Int) (wI (0 - (wI (a.1 + (wI ((k : Int) * a.2))))))).filter fun zz => s_l02Perpendicular p colour zz zz)), 0) := by
 obtain ⟨h1, h0, hpn⟩ := prB_nat hp
 have hg : ((List.range p.toNat).flatMap fun k : Nat => if s_l02Perpendicular p colour (s_l01Normal p 1 (k : Int) (wI (0 - (wI (a.1 + (wI ((k : Int) * a.2))))))) (s_l01Normal p 1 (k : Int) (wI (0 - (wI (a.1 + (wI ((k : Int) * a.2))))))) = true then [s_l01Normal p 1 (k : Int) (wI (0 - (wI (a.1 + (wI ((k : Int) * a.2))))))] else []) = (((List.range p.toNat).map fun k : Nat => s_l01Normal p 1 (k : Int) (wI (0 - (wI (a.1 + (wI ((k : Int) * a.2))))))).filter fun zz => s_l02Perpendicular p colour zz zz) := by
  rw [← filter_flat, List.flatMap_map]
 rw [← hg]
 refine gather (flat := flat3) flat3_app rfl (L := fun f l m i => L_s_NullLines_0 1000000 p colour a f l m i) (n := p.toNat) (b := 1) (M := 1) (fun k : Nat => if s_l02Perpendicular p colour (s_l01Normal p 1 (k : Int) (wI (0 - (wI (a.1 + (wI ((k : Int) * a.2))))))) (s_l01Normal p 1 (k : Int) (wI (0 - (wI (a.1 + (wI ((k : Int) * a.2))))))) = true then [s_l01Normal p 1 (k : Int) (wI (0 - (wI (a.1 + (wI ((k : Int) * a.2))))))] else []) (F := F) (by intro k hk; split <;> simp)
  (fun f k l m hk hm => by
   show B_s_NullLines_0 p colour a (L_s_NullLines_0 1000000 p colour a f) l m (k : Int) = _
   unfold B_s_NullLines_0
   have e2 : decide ((k : Int) ≥ 0) = true := by simp
   have e6 : (Nat.ble 0 1 && Nat.ble (m + 1) 2000000 && Nat.beq 3 3) = true := by simp; omega
   simp only [cndp hk, hp, e2, e6, if_true, wrap_add1 hk (by omega)]
   generalize s_l01Normal p 1 (k : Int) (wI (0 - (wI (a.1 + (wI ((k : Int) * a.2)))))) = Z
   cases s_l02Perpendicular p colour Z Z
   ·simp only [Bool.false_eq_true, if_false]
    rw [show flat3 [] = [] from rfl, List.append_nil]
    rfl
   ·simp only [if_true]
    rfl)
  (fun f hm => by
   show B_s_NullLines_0 p colour a (L_s_NullLines_0 1000000 p colour a f) _ _ ((p.toNat : Nat) : Int) = _
   unfold B_s_NullLines_0
   rw [if_neg (by simp; omega)]) hF hm
theorem tot_s_NullLines (p colour : Int) (a : P2) : Fo_s_NullLines 1000000 p colour a = some (s_NullLines p colour a) := by
 unfold Fo_s_NullLines G_s_NullLines s_NullLines
 refine ite_opt (fun _ => rfl) (fun hc => ?_)
 have hp : prB p = true := l02Code_prB hc
 obtain ⟨h1, h0, hpn⟩ := prB_nat hp
 show B_s_NullLines_0 p colour a (L_s_NullLines_0 1000000 p colour a _) [] 0 (-1) = _
 unfold B_s_NullLines_0
 have e1 : decide ((-1 : Int) < p) = true := by simp; omega
 have e2 : decide ((-1 : Int) ≥ 0) = false := by decide
 have e3 : (Nat.ble 0 1 && Nat.ble (0 + 1) 2000000 && Nat.beq 3 3) = true := rfl
 have e4 : wI (-1 + 1) = 0 := by rw [wI_eq]; unfold wrap64; omega
 simp only [e1, hp, e2, e3, e4, if_true, Bool.false_eq_true, if_false]
 unfold nullsL
 rw [List.filter_cons]
 cases hq : s_l02Perpendicular p colour (s_l01Normal p 0 1 (wI (0 - a.2))) (s_l01Normal p 0 1 (wI (0 - a.2)))
 ·simp only [Bool.false_eq_true, if_false]
  rw [nulls_go hp colour a (by omega) (by omega)]
  simp
 ·simp only [if_true]
  rw [nulls_go hp colour a (by omega) (by omega), List.length_cons, Nat.add_comm]
  rfl
def run_s_NullLines : RunP
 | [.v (.int .i64 p), .v (.int .i64 colour), .v (.agg ⟨[.int .i64 a0, .int .i64 a1]⟩)] => some (true, enc_l90_3_i (s_NullLines p colour (a0, a1)))
 | _ => none
theorem sound_s_NullLines : Sound prog 239 run_s_NullLines := by
 refine sound_1 de_l90_3_i SO_s_NullLines (by kernel_rfl) func239 ntmps239 rfl (by kernel_rfl) fun q r E => ?_
 unfold run_s_NullLines at E
 split at E
 ·obtain ⟨hp, rfl⟩ := so2 E
  rename_i p colour a0 a1
  exact ⟨_, _, rfl, (eq_s_NullLines _ p colour (a0, a1)).trans (tot_s_NullLines p colour (a0, a1))⟩
 ·cases E

end

end Go.Proofs.YtcdpfpfbilfpoaaGreatDoor
