import Derived.Test.YtpffcfiojjgnlaaFe
import Derived.Test.YtpffcfiojjgnlaaProg
set_option linter.unusedSimpArgs false
set_option linter.unusedVariables false
namespace Go.Proofs.Ytpffcfiojjgnlaa
open Go.RowKit
noncomputable section
def S_i_EulerLineOf : Sums := ⟨tblS [(36, run_i_triangle), (37, run_i_orthocentre), (38, run_i_circumcentre), (39, run_i_lineThrough)], tblM []⟩
theorem SO_i_EulerLineOf : SumsOK Try.prog S_i_EulerLineOf := ⟨tblS_ok ⟨⟨Try.call36, sound_i_triangle⟩, ⟨Try.call37, sound_i_orthocentre⟩, ⟨Try.call38, sound_i_circumcentre⟩, ⟨Try.call39, sound_i_lineThrough⟩, True.intro⟩, tblM_ok True.intro⟩
def Fo_i_EulerLineOf (p : Int) (colour : Int) (a : Int × Int) (b : Int × Int) (c : Int × Int) : Option ((Int × Int × Int) × Int) :=
  (if ((i_triangle p colour a b c) != 0) = true then some ((0, 0, 0), (i_triangle p colour a b c)) else (if (prB p) = true then (if (prB p) = true then (if ((i_orthocentre p colour a b c) == (i_circumcentre p colour a b c)) = true then some ((0, 0, 0), 5) else (if (prB p) = true then some ((i_lineThrough p (i_orthocentre p colour a b c) (i_circumcentre p colour a b c)), 0) else none)) else none) else none))
theorem eq_i_EulerLineOf (p : Int) (colour : Int) (a : Int × Int) (b : Int × Int) (c : Int × Int) : execT Try.prog S_i_EulerLineOf 7 45 (fun _ => 1000000) dec_a3_i [.v (.int .i64 p), .v (.int .i64 colour), .v (.agg ⟨[.int .i64 a.1, .int .i64 a.2]⟩), .v (.agg ⟨[.int .i64 b.1, .int .i64 b.2]⟩), .v (.agg ⟨[.int .i64 c.1, .int .i64 c.2]⟩)] = Fo_i_EulerLineOf p colour a b c := by
  kernel_rfl
def i_EulerLineOf (p : Int) (colour : Int) (a : Int × Int) (b : Int × Int) (c : Int × Int) : (Int × Int × Int) × Int :=
  (if ((i_triangle p colour a b c) != 0) = true then ((0, 0, 0), (i_triangle p colour a b c)) else (if ((i_orthocentre p colour a b c) == (i_circumcentre p colour a b c)) = true then ((0, 0, 0), 5) else ((i_lineThrough p (i_orthocentre p colour a b c) (i_circumcentre p colour a b c)), 0)))
theorem tot_i_EulerLineOf (p : Int) (colour : Int) (a : Int × Int) (b : Int × Int) (c : Int × Int) : Fo_i_EulerLineOf p colour a b c = some (i_EulerLineOf p colour a b c) := by
  unfold Fo_i_EulerLineOf i_EulerLineOf
  (try simp only [wI_eq])
  repeat' (first | with_reducible rfl | refine chk_opt (by first | with_reducible rfl | exact Bool.true_or _ | (with_reducible exact triangle_prB ‹_›) | (with_reducible exact triangle_prB0 ‹_›) | exact mk_ok (by (first | (with_reducible assumption) | (with_reducible exact triangle_prB ‹_›) | (with_reducible exact triangle_prB0 ‹_›))) | exact and_all (by (first | (with_reducible assumption) | (with_reducible exact triangle_prB ‹_›) | (with_reducible exact triangle_prB0 ‹_›))) (fun _ => rfl) | exact and_all (by (first | (with_reducible assumption) | (with_reducible exact triangle_prB ‹_›) | (with_reducible exact triangle_prB0 ‹_›))) (fun _ => by (first | (with_reducible assumption) | (with_reducible exact triangle_prB ‹_›) | (with_reducible exact triangle_prB0 ‹_›))) | exact and3 (by (first | (with_reducible assumption) | (with_reducible exact triangle_prB ‹_›) | (with_reducible exact triangle_prB0 ‹_›))) (by (first | (with_reducible assumption) | (with_reducible exact triangle_prB ‹_›) | (with_reducible exact triangle_prB0 ‹_›))) (by (first | (with_reducible assumption) | (with_reducible exact triangle_prB ‹_›) | (with_reducible exact triangle_prB0 ‹_›))) | exact and_two (by (first | (with_reducible assumption) | (with_reducible exact triangle_prB ‹_›) | (with_reducible exact triangle_prB0 ‹_›))) rfl | rfl) ?_ | refine ite_opt (fun _ => ?_) (fun _ => ?_) | rfl)
def run_i_EulerLineOf : List PV → Option (Bool × List TR)
  | [.v (.int .i64 p), .v (.int .i64 colour), .v (.agg ⟨[.int .i64 a0, .int .i64 a1]⟩), .v (.agg ⟨[.int .i64 b0, .int .i64 b1]⟩), .v (.agg ⟨[.int .i64 c0, .int .i64 c1]⟩)] => some (true, enc_a3_i (i_EulerLineOf p colour (a0, a1) (b0, b1) (c0, c1)))
  | _ => none
theorem sound_i_EulerLineOf : Sound Try.prog 7 run_i_EulerLineOf := by
  refine sound_of de_a3_i SO_i_EulerLineOf (by kernel_rfl) Try.func7 Try.ntmps7 rfl (by kernel_rfl) ?_
  intro W pvs avs rs hargs hrun
  unfold run_i_EulerLineOf at hrun
  split at hrun
  · simp only [Option.some.injEq, Prod.mk.injEq] at hrun
    obtain ⟨hp, rfl⟩ := hrun
    rename_i p colour a0 a1 b0 b1 c0 c1
    exact ⟨_, _, _, hargs, rfl, (eq_i_EulerLineOf p colour (a0, a1) (b0, b1) (c0, c1)).trans (tot_i_EulerLineOf p colour (a0, a1) (b0, b1) (c0, c1))⟩
  · cases hrun

def S_s_EulerLineOf : Sums := ⟨tblS [(40, run_s_l04Code), (41, run_s_l04Orthocentre), (42, run_s_l04Circumcentre), (43, run_s_l01Through)], tblM []⟩
theorem SO_s_EulerLineOf : SumsOK Try.prog S_s_EulerLineOf := ⟨tblS_ok ⟨⟨Try.call40, sound_s_l04Code⟩, ⟨Try.call41, sound_s_l04Orthocentre⟩, ⟨Try.call42, sound_s_l04Circumcentre⟩, ⟨Try.call43, sound_s_l01Through⟩, True.intro⟩, tblM_ok True.intro⟩
def Fo_s_EulerLineOf (p : Int) (colour : Int) (a : Int × Int) (b : Int × Int) (c : Int × Int) : Option ((Int × Int × Int) × Int) :=
  (if ((s_l04Code p colour a b c) != 0) = true then some ((0, 0, 0), (s_l04Code p colour a b c)) else (if (prB p) = true then (if (prB p) = true then (if ((s_l04Orthocentre p colour a b c) == (s_l04Circumcentre p colour a b c)) = true then some ((0, 0, 0), 5) else (if (prB p) = true then some ((s_l01Through p (s_l04Orthocentre p colour a b c) (s_l04Circumcentre p colour a b c)), 0) else none)) else none) else none))
theorem eq_s_EulerLineOf (p : Int) (colour : Int) (a : Int × Int) (b : Int × Int) (c : Int × Int) : execT Try.prog S_s_EulerLineOf 8 45 (fun _ => 1000000) dec_a3_i [.v (.int .i64 p), .v (.int .i64 colour), .v (.agg ⟨[.int .i64 a.1, .int .i64 a.2]⟩), .v (.agg ⟨[.int .i64 b.1, .int .i64 b.2]⟩), .v (.agg ⟨[.int .i64 c.1, .int .i64 c.2]⟩)] = Fo_s_EulerLineOf p colour a b c := by
  kernel_rfl
def s_EulerLineOf (p : Int) (colour : Int) (a : Int × Int) (b : Int × Int) (c : Int × Int) : (Int × Int × Int) × Int :=
  (if ((s_l04Code p colour a b c) != 0) = true then ((0, 0, 0), (s_l04Code p colour a b c)) else (if ((s_l04Orthocentre p colour a b c) == (s_l04Circumcentre p colour a b c)) = true then ((0, 0, 0), 5) else ((s_l01Through p (s_l04Orthocentre p colour a b c) (s_l04Circumcentre p colour a b c)), 0)))
theorem tot_s_EulerLineOf (p : Int) (colour : Int) (a : Int × Int) (b : Int × Int) (c : Int × Int) : Fo_s_EulerLineOf p colour a b c = some (s_EulerLineOf p colour a b c) := by
  unfold Fo_s_EulerLineOf s_EulerLineOf
  (try simp only [wI_eq])
  repeat' (first | with_reducible rfl | refine chk_opt (by first | with_reducible rfl | exact Bool.true_or _ | (with_reducible exact l04Code_prB ‹_›) | (with_reducible exact l04Code_prB0 ‹_›) | exact mk_ok (by (first | (with_reducible assumption) | (with_reducible exact l04Code_prB ‹_›) | (with_reducible exact l04Code_prB0 ‹_›))) | exact and_all (by (first | (with_reducible assumption) | (with_reducible exact l04Code_prB ‹_›) | (with_reducible exact l04Code_prB0 ‹_›))) (fun _ => rfl) | exact and_all (by (first | (with_reducible assumption) | (with_reducible exact l04Code_prB ‹_›) | (with_reducible exact l04Code_prB0 ‹_›))) (fun _ => by (first | (with_reducible assumption) | (with_reducible exact l04Code_prB ‹_›) | (with_reducible exact l04Code_prB0 ‹_›))) | exact and3 (by (first | (with_reducible assumption) | (with_reducible exact l04Code_prB ‹_›) | (with_reducible exact l04Code_prB0 ‹_›))) (by (first | (with_reducible assumption) | (with_reducible exact l04Code_prB ‹_›) | (with_reducible exact l04Code_prB0 ‹_›))) (by (first | (with_reducible assumption) | (with_reducible exact l04Code_prB ‹_›) | (with_reducible exact l04Code_prB0 ‹_›))) | exact and_two (by (first | (with_reducible assumption) | (with_reducible exact l04Code_prB ‹_›) | (with_reducible exact l04Code_prB0 ‹_›))) rfl | rfl) ?_ | refine ite_opt (fun _ => ?_) (fun _ => ?_) | rfl)
def run_s_EulerLineOf : List PV → Option (Bool × List TR)
  | [.v (.int .i64 p), .v (.int .i64 colour), .v (.agg ⟨[.int .i64 a0, .int .i64 a1]⟩), .v (.agg ⟨[.int .i64 b0, .int .i64 b1]⟩), .v (.agg ⟨[.int .i64 c0, .int .i64 c1]⟩)] => some (true, enc_a3_i (s_EulerLineOf p colour (a0, a1) (b0, b1) (c0, c1)))
  | _ => none
theorem sound_s_EulerLineOf : Sound Try.prog 8 run_s_EulerLineOf := by
  refine sound_of de_a3_i SO_s_EulerLineOf (by kernel_rfl) Try.func8 Try.ntmps8 rfl (by kernel_rfl) ?_
  intro W pvs avs rs hargs hrun
  unfold run_s_EulerLineOf at hrun
  split at hrun
  · simp only [Option.some.injEq, Prod.mk.injEq] at hrun
    obtain ⟨hp, rfl⟩ := hrun
    rename_i p colour a0 a1 b0 b1 c0 c1
    exact ⟨_, _, _, hargs, rfl, (eq_s_EulerLineOf p colour (a0, a1) (b0, b1) (c0, c1)).trans (tot_s_EulerLineOf p colour (a0, a1) (b0, b1) (c0, c1))⟩
  · cases hrun

def S_i_OrthicPoints : Sums := ⟨tblS [(36, run_i_triangle), (39, run_i_lineThrough), (44, run_i_isNull), (45, run_i_foot)], tblM []⟩
theorem SO_i_OrthicPoints : SumsOK Try.prog S_i_OrthicPoints := ⟨tblS_ok ⟨⟨Try.call36, sound_i_triangle⟩, ⟨Try.call39, sound_i_lineThrough⟩, ⟨Try.call44, sound_i_isNull⟩, ⟨Try.call45, sound_i_foot⟩, True.intro⟩, tblM_ok True.intro⟩
def Fo_i_OrthicPoints (p : Int) (colour : Int) (a : Int × Int) (b : Int × Int) (c : Int × Int) : Option ((Nat × List Int) × Int) :=
  (if ((i_triangle p colour a b c) != 0) = true then some ((0, []), (i_triangle p colour a b c)) else (if (prB p) = true then (if (prB p) = true then (if (prB p) = true then (if (prB p) = true then (if (i_isNull p colour (i_lineThrough p b c)) = true then some ((0, []), 5) else (if (prB p) = true then (if (prB p) = true then (if (i_isNull p colour (i_lineThrough p a c)) = true then some ((0, []), 5) else (if (prB p) = true then (if (prB p) = true then (if (i_isNull p colour (i_lineThrough p a b)) = true then some ((0, []), 5) else (if (prB p) = true then some ((3, [(i_foot p colour a (i_lineThrough p b c)).1, (i_foot p colour a (i_lineThrough p b c)).2, (i_foot p colour b (i_lineThrough p a c)).1, (i_foot p colour b (i_lineThrough p a c)).2, (i_foot p colour c (i_lineThrough p a b)).1, (i_foot p colour c (i_lineThrough p a b)).2]), 0) else none)) else none) else none)) else none) else none)) else none) else none) else none) else none))
theorem eq_i_OrthicPoints (p : Int) (colour : Int) (a : Int × Int) (b : Int × Int) (c : Int × Int) : execT Try.prog S_i_OrthicPoints 9 70 (fun _ => 1000000) dec_l25_2_i [.v (.int .i64 p), .v (.int .i64 colour), .v (.agg ⟨[.int .i64 a.1, .int .i64 a.2]⟩), .v (.agg ⟨[.int .i64 b.1, .int .i64 b.2]⟩), .v (.agg ⟨[.int .i64 c.1, .int .i64 c.2]⟩)] = Fo_i_OrthicPoints p colour a b c := by
  kernel_rfl
def i_OrthicPoints (p : Int) (colour : Int) (a : Int × Int) (b : Int × Int) (c : Int × Int) : (Nat × List Int) × Int :=
  (if ((i_triangle p colour a b c) != 0) = true then ((0, []), (i_triangle p colour a b c)) else (if (i_isNull p colour (i_lineThrough p b c)) = true then ((0, []), 5) else (if (i_isNull p colour (i_lineThrough p a c)) = true then ((0, []), 5) else (if (i_isNull p colour (i_lineThrough p a b)) = true then ((0, []), 5) else ((3, [(i_foot p colour a (i_lineThrough p b c)).1, (i_foot p colour a (i_lineThrough p b c)).2, (i_foot p colour b (i_lineThrough p a c)).1, (i_foot p colour b (i_lineThrough p a c)).2, (i_foot p colour c (i_lineThrough p a b)).1, (i_foot p colour c (i_lineThrough p a b)).2]), 0)))))
theorem tot_i_OrthicPoints (p : Int) (colour : Int) (a : Int × Int) (b : Int × Int) (c : Int × Int) : Fo_i_OrthicPoints p colour a b c = some (i_OrthicPoints p colour a b c) := by
  unfold Fo_i_OrthicPoints i_OrthicPoints
  (try simp only [wI_eq])
  repeat' (first | with_reducible rfl | refine chk_opt (by first | with_reducible rfl | exact Bool.true_or _ | (with_reducible exact triangle_prB ‹_›) | (with_reducible exact triangle_prB0 ‹_›) | exact mk_ok (by (first | (with_reducible assumption) | (with_reducible exact triangle_prB ‹_›) | (with_reducible exact triangle_prB0 ‹_›))) | exact and_all (by (first | (with_reducible assumption) | (with_reducible exact triangle_prB ‹_›) | (with_reducible exact triangle_prB0 ‹_›))) (fun _ => rfl) | exact and_all (by (first | (with_reducible assumption) | (with_reducible exact triangle_prB ‹_›) | (with_reducible exact triangle_prB0 ‹_›))) (fun _ => by (first | (with_reducible assumption) | (with_reducible exact triangle_prB ‹_›) | (with_reducible exact triangle_prB0 ‹_›))) | exact and3 (by (first | (with_reducible assumption) | (with_reducible exact triangle_prB ‹_›) | (with_reducible exact triangle_prB0 ‹_›))) (by (first | (with_reducible assumption) | (with_reducible exact triangle_prB ‹_›) | (with_reducible exact triangle_prB0 ‹_›))) (by (first | (with_reducible assumption) | (with_reducible exact triangle_prB ‹_›) | (with_reducible exact triangle_prB0 ‹_›))) | exact and_two (by (first | (with_reducible assumption) | (with_reducible exact triangle_prB ‹_›) | (with_reducible exact triangle_prB0 ‹_›))) rfl | rfl) ?_ | refine ite_opt (fun _ => ?_) (fun _ => ?_) | rfl)
def run_i_OrthicPoints : List PV → Option (Bool × List TR)
  | [.v (.int .i64 p), .v (.int .i64 colour), .v (.agg ⟨[.int .i64 a0, .int .i64 a1]⟩), .v (.agg ⟨[.int .i64 b0, .int .i64 b1]⟩), .v (.agg ⟨[.int .i64 c0, .int .i64 c1]⟩)] => some (true, enc_l25_2_i (i_OrthicPoints p colour (a0, a1) (b0, b1) (c0, c1)))
  | _ => none
theorem sound_i_OrthicPoints : Sound Try.prog 9 run_i_OrthicPoints := by
  refine sound_of de_l25_2_i SO_i_OrthicPoints (by kernel_rfl) Try.func9 Try.ntmps9 rfl (by kernel_rfl) ?_
  intro W pvs avs rs hargs hrun
  unfold run_i_OrthicPoints at hrun
  split at hrun
  · simp only [Option.some.injEq, Prod.mk.injEq] at hrun
    obtain ⟨hp, rfl⟩ := hrun
    rename_i p colour a0 a1 b0 b1 c0 c1
    exact ⟨_, _, _, hargs, rfl, (eq_i_OrthicPoints p colour (a0, a1) (b0, b1) (c0, c1)).trans (tot_i_OrthicPoints p colour (a0, a1) (b0, b1) (c0, c1))⟩
  · cases hrun

def S_s_OrthicPoints : Sums := ⟨tblS [(40, run_s_l04Code), (43, run_s_l01Through), (46, run_s_l02Foot)], tblM []⟩
theorem SO_s_OrthicPoints : SumsOK Try.prog S_s_OrthicPoints := ⟨tblS_ok ⟨⟨Try.call40, sound_s_l04Code⟩, ⟨Try.call43, sound_s_l01Through⟩, ⟨Try.call46, sound_s_l02Foot⟩, True.intro⟩, tblM_ok True.intro⟩
def Fo_s_OrthicPoints (p : Int) (colour : Int) (a : Int × Int) (b : Int × Int) (c : Int × Int) : Option ((Nat × List Int) × Int) :=
  (if ((s_l04Code p colour a b c) != 0) = true then some ((0, []), (s_l04Code p colour a b c)) else (if (prB p) = true then (if (prB p) = true then (if (prB p) = true then (if (prB p) = true then (if (!((s_l02Foot p colour a (s_l01Through p b c)).2)) = true then some ((0, []), 5) else (if (prB p) = true then (if (!((s_l02Foot p colour b (s_l01Through p a c)).2)) = true then some ((0, []), 5) else (if (prB p) = true then (if (!((s_l02Foot p colour c (s_l01Through p a b)).2)) = true then some ((0, []), 5) else some ((3, [((s_l02Foot p colour a (s_l01Through p b c)).1).1, ((s_l02Foot p colour a (s_l01Through p b c)).1).2, ((s_l02Foot p colour b (s_l01Through p a c)).1).1, ((s_l02Foot p colour b (s_l01Through p a c)).1).2, ((s_l02Foot p colour c (s_l01Through p a b)).1).1, ((s_l02Foot p colour c (s_l01Through p a b)).1).2]), 0)) else none)) else none)) else none) else none) else none) else none))
theorem eq_s_OrthicPoints (p : Int) (colour : Int) (a : Int × Int) (b : Int × Int) (c : Int × Int) : execT Try.prog S_s_OrthicPoints 10 71 (fun _ => 1000000) dec_l25_2_i [.v (.int .i64 p), .v (.int .i64 colour), .v (.agg ⟨[.int .i64 a.1, .int .i64 a.2]⟩), .v (.agg ⟨[.int .i64 b.1, .int .i64 b.2]⟩), .v (.agg ⟨[.int .i64 c.1, .int .i64 c.2]⟩)] = Fo_s_OrthicPoints p colour a b c := by
  kernel_rfl
def s_OrthicPoints (p : Int) (colour : Int) (a : Int × Int) (b : Int × Int) (c : Int × Int) : (Nat × List Int) × Int :=
  (if ((s_l04Code p colour a b c) != 0) = true then ((0, []), (s_l04Code p colour a b c)) else (if (!((s_l02Foot p colour a (s_l01Through p b c)).2)) = true then ((0, []), 5) else (if (!((s_l02Foot p colour b (s_l01Through p a c)).2)) = true then ((0, []), 5) else (if (!((s_l02Foot p colour c (s_l01Through p a b)).2)) = true then ((0, []), 5) else ((3, [((s_l02Foot p colour a (s_l01Through p b c)).1).1, ((s_l02Foot p colour a (s_l01Through p b c)).1).2, ((s_l02Foot p colour b (s_l01Through p a c)).1).1, ((s_l02Foot p colour b (s_l01Through p a c)).1).2, ((s_l02Foot p colour c (s_l01Through p a b)).1).1, ((s_l02Foot p colour c (s_l01Through p a b)).1).2]), 0)))))
theorem tot_s_OrthicPoints (p : Int) (colour : Int) (a : Int × Int) (b : Int × Int) (c : Int × Int) : Fo_s_OrthicPoints p colour a b c = some (s_OrthicPoints p colour a b c) := by
  unfold Fo_s_OrthicPoints s_OrthicPoints
  (try simp only [wI_eq])
  repeat' (first | with_reducible rfl | refine chk_opt (by first | with_reducible rfl | exact Bool.true_or _ | (with_reducible exact l04Code_prB ‹_›) | (with_reducible exact l04Code_prB0 ‹_›) | exact mk_ok (by (first | (with_reducible assumption) | (with_reducible exact l04Code_prB ‹_›) | (with_reducible exact l04Code_prB0 ‹_›))) | exact and_all (by (first | (with_reducible assumption) | (with_reducible exact l04Code_prB ‹_›) | (with_reducible exact l04Code_prB0 ‹_›))) (fun _ => rfl) | exact and_all (by (first | (with_reducible assumption) | (with_reducible exact l04Code_prB ‹_›) | (with_reducible exact l04Code_prB0 ‹_›))) (fun _ => by (first | (with_reducible assumption) | (with_reducible exact l04Code_prB ‹_›) | (with_reducible exact l04Code_prB0 ‹_›))) | exact and3 (by (first | (with_reducible assumption) | (with_reducible exact l04Code_prB ‹_›) | (with_reducible exact l04Code_prB0 ‹_›))) (by (first | (with_reducible assumption) | (with_reducible exact l04Code_prB ‹_›) | (with_reducible exact l04Code_prB0 ‹_›))) (by (first | (with_reducible assumption) | (with_reducible exact l04Code_prB ‹_›) | (with_reducible exact l04Code_prB0 ‹_›))) | exact and_two (by (first | (with_reducible assumption) | (with_reducible exact l04Code_prB ‹_›) | (with_reducible exact l04Code_prB0 ‹_›))) rfl | rfl) ?_ | refine ite_opt (fun _ => ?_) (fun _ => ?_) | rfl)
def run_s_OrthicPoints : List PV → Option (Bool × List TR)
  | [.v (.int .i64 p), .v (.int .i64 colour), .v (.agg ⟨[.int .i64 a0, .int .i64 a1]⟩), .v (.agg ⟨[.int .i64 b0, .int .i64 b1]⟩), .v (.agg ⟨[.int .i64 c0, .int .i64 c1]⟩)] => some (true, enc_l25_2_i (s_OrthicPoints p colour (a0, a1) (b0, b1) (c0, c1)))
  | _ => none
theorem sound_s_OrthicPoints : Sound Try.prog 10 run_s_OrthicPoints := by
  refine sound_of de_l25_2_i SO_s_OrthicPoints (by kernel_rfl) Try.func10 Try.ntmps10 rfl (by kernel_rfl) ?_
  intro W pvs avs rs hargs hrun
  unfold run_s_OrthicPoints at hrun
  split at hrun
  · simp only [Option.some.injEq, Prod.mk.injEq] at hrun
    obtain ⟨hp, rfl⟩ := hrun
    rename_i p colour a0 a1 b0 b1 c0 c1
    exact ⟨_, _, _, hargs, rfl, (eq_s_OrthicPoints p colour (a0, a1) (b0, b1) (c0, c1)).trans (tot_s_OrthicPoints p colour (a0, a1) (b0, b1) (c0, c1))⟩
  · cases hrun

def S_i_archimedes : Sums := ⟨tblS [(115, run_i_rest)], tblM []⟩
theorem SO_i_archimedes : SumsOK Try.prog S_i_archimedes := ⟨tblS_ok ⟨⟨Try.call115, sound_i_rest⟩, True.intro⟩, tblM_ok True.intro⟩
def Fo_i_archimedes (p : Int) (a : Int) (b : Int) (c : Int) : Option (Int) :=
  (if (prB p) = true then some (i_rest p (wI ((wI ((wI ((wI (a + b)) + c)) * (wI ((wI (a + b)) + c)))) - (wI (2 * (wI ((wI ((wI (a * a)) + (wI (b * b)))) + (wI (c * c))))))))) else none)
theorem eq_i_archimedes (p : Int) (a : Int) (b : Int) (c : Int) : execT Try.prog S_i_archimedes 47 35 (fun _ => 1000000) dec_i [.v (.int .i64 p), .v (.int .i64 a), .v (.int .i64 b), .v (.int .i64 c)] = Fo_i_archimedes p a b c := by
  kernel_rfl
def i_archimedes (p : Int) (a : Int) (b : Int) (c : Int) : Int :=
  (i_rest p (wrap64 ((wrap64 ((wrap64 ((wrap64 (a + b)) + c)) * (wrap64 ((wrap64 (a + b)) + c)))) - (wrap64 (2 * (wrap64 ((wrap64 ((wrap64 (a * a)) + (wrap64 (b * b)))) + (wrap64 (c * c)))))))))
theorem tot_i_archimedes (p : Int) (a : Int) (b : Int) (c : Int) (hp : (prB p) = true) : Fo_i_archimedes p a b c = some (i_archimedes p a b c) := by
  try have h0 := prB_ne hp
  unfold Fo_i_archimedes i_archimedes
  (try simp only [wI_eq])
  repeat' (first | with_reducible rfl | with_reducible refine chk_opt hp ?_ | with_reducible refine chk_opt h0 ?_ | refine chk_opt (and_all hp fun _ => hp) ?_ | refine chk_opt (and_all hp fun _ => rfl) ?_ | refine ite_opt (fun _ => ?_) (fun _ => ?_) | rfl)
def run_i_archimedes : List PV → Option (Bool × List TR)
  | [.v (.int .i64 p), .v (.int .i64 a), .v (.int .i64 b), .v (.int .i64 c)] => some (prB p, enc_i (i_archimedes p a b c))
  | _ => none
theorem sound_i_archimedes : Sound Try.prog 47 run_i_archimedes := by
  refine sound_of de_i SO_i_archimedes (by kernel_rfl) Try.func47 Try.ntmps47 rfl (by kernel_rfl) ?_
  intro W pvs avs rs hargs hrun
  unfold run_i_archimedes at hrun
  split at hrun
  · simp only [Option.some.injEq, Prod.mk.injEq] at hrun
    obtain ⟨hp, rfl⟩ := hrun
    rename_i p a b c
    exact ⟨_, _, _, hargs, rfl, (eq_i_archimedes p a b c).trans (tot_i_archimedes p a b c hp)⟩
  · cases hrun

def S_i_QuadreaOf : Sums := ⟨tblS [(36, run_i_triangle), (48, run_i_quadrance), (47, run_i_archimedes)], tblM []⟩
theorem SO_i_QuadreaOf : SumsOK Try.prog S_i_QuadreaOf := ⟨tblS_ok ⟨⟨Try.call36, sound_i_triangle⟩, ⟨Try.call48, sound_i_quadrance⟩, ⟨Try.call47, sound_i_archimedes⟩, True.intro⟩, tblM_ok True.intro⟩
def Fo_i_QuadreaOf (p : Int) (colour : Int) (a : Int × Int) (b : Int × Int) (c : Int × Int) : Option (Int × Int) :=
  (if ((i_triangle p colour a b c) != 0) = true then some (0, (i_triangle p colour a b c)) else (if (prB p) = true then (if (prB p) = true then (if (prB p) = true then (if (prB p) = true then some ((i_archimedes p (i_quadrance p colour b c) (i_quadrance p colour a c) (i_quadrance p colour a b)), 0) else none) else none) else none) else none))
theorem eq_i_QuadreaOf (p : Int) (colour : Int) (a : Int × Int) (b : Int × Int) (c : Int × Int) : execT Try.prog S_i_QuadreaOf 12 39 (fun _ => 1000000) dec_i_i [.v (.int .i64 p), .v (.int .i64 colour), .v (.agg ⟨[.int .i64 a.1, .int .i64 a.2]⟩), .v (.agg ⟨[.int .i64 b.1, .int .i64 b.2]⟩), .v (.agg ⟨[.int .i64 c.1, .int .i64 c.2]⟩)] = Fo_i_QuadreaOf p colour a b c := by
  kernel_rfl
def i_QuadreaOf (p : Int) (colour : Int) (a : Int × Int) (b : Int × Int) (c : Int × Int) : Int × Int :=
  (if ((i_triangle p colour a b c) != 0) = true then (0, (i_triangle p colour a b c)) else ((i_archimedes p (i_quadrance p colour b c) (i_quadrance p colour a c) (i_quadrance p colour a b)), 0))
theorem tot_i_QuadreaOf (p : Int) (colour : Int) (a : Int × Int) (b : Int × Int) (c : Int × Int) : Fo_i_QuadreaOf p colour a b c = some (i_QuadreaOf p colour a b c) := by
  unfold Fo_i_QuadreaOf i_QuadreaOf
  (try simp only [wI_eq])
  repeat' (first | with_reducible rfl | refine chk_opt (by first | with_reducible rfl | exact Bool.true_or _ | (with_reducible exact triangle_prB ‹_›) | (with_reducible exact triangle_prB0 ‹_›) | exact mk_ok (by (first | (with_reducible assumption) | (with_reducible exact triangle_prB ‹_›) | (with_reducible exact triangle_prB0 ‹_›))) | exact and_all (by (first | (with_reducible assumption) | (with_reducible exact triangle_prB ‹_›) | (with_reducible exact triangle_prB0 ‹_›))) (fun _ => rfl) | exact and_all (by (first | (with_reducible assumption) | (with_reducible exact triangle_prB ‹_›) | (with_reducible exact triangle_prB0 ‹_›))) (fun _ => by (first | (with_reducible assumption) | (with_reducible exact triangle_prB ‹_›) | (with_reducible exact triangle_prB0 ‹_›))) | exact and3 (by (first | (with_reducible assumption) | (with_reducible exact triangle_prB ‹_›) | (with_reducible exact triangle_prB0 ‹_›))) (by (first | (with_reducible assumption) | (with_reducible exact triangle_prB ‹_›) | (with_reducible exact triangle_prB0 ‹_›))) (by (first | (with_reducible assumption) | (with_reducible exact triangle_prB ‹_›) | (with_reducible exact triangle_prB0 ‹_›))) | exact and_two (by (first | (with_reducible assumption) | (with_reducible exact triangle_prB ‹_›) | (with_reducible exact triangle_prB0 ‹_›))) rfl | rfl) ?_ | refine ite_opt (fun _ => ?_) (fun _ => ?_) | rfl)
def run_i_QuadreaOf : List PV → Option (Bool × List TR)
  | [.v (.int .i64 p), .v (.int .i64 colour), .v (.agg ⟨[.int .i64 a0, .int .i64 a1]⟩), .v (.agg ⟨[.int .i64 b0, .int .i64 b1]⟩), .v (.agg ⟨[.int .i64 c0, .int .i64 c1]⟩)] => some (true, enc_i_i (i_QuadreaOf p colour (a0, a1) (b0, b1) (c0, c1)))
  | _ => none
theorem sound_i_QuadreaOf : Sound Try.prog 12 run_i_QuadreaOf := by
  refine sound_of de_i_i SO_i_QuadreaOf (by kernel_rfl) Try.func12 Try.ntmps12 rfl (by kernel_rfl) ?_
  intro W pvs avs rs hargs hrun
  unfold run_i_QuadreaOf at hrun
  split at hrun
  · simp only [Option.some.injEq, Prod.mk.injEq] at hrun
    obtain ⟨hp, rfl⟩ := hrun
    rename_i p colour a0 a1 b0 b1 c0 c1
    exact ⟨_, _, _, hargs, rfl, (eq_i_QuadreaOf p colour (a0, a1) (b0, b1) (c0, c1)).trans (tot_i_QuadreaOf p colour (a0, a1) (b0, b1) (c0, c1))⟩
  · cases hrun

def S_s_l02Archimedes : Sums := ⟨tblS [(62, run_s_l01Mod)], tblM []⟩
theorem SO_s_l02Archimedes : SumsOK Try.prog S_s_l02Archimedes := ⟨tblS_ok ⟨⟨Try.call62, sound_s_l01Mod⟩, True.intro⟩, tblM_ok True.intro⟩
def Fo_s_l02Archimedes (p : Int) (a : Int) (b : Int) (c : Int) : Option (Int) :=
  (if (prB p) = true then some (s_l01Mod (wI ((wI ((wI ((wI (a + b)) + c)) * (wI ((wI (a + b)) + c)))) - (wI (2 * (wI ((wI ((wI (a * a)) + (wI (b * b)))) + (wI (c * c)))))))) p) else none)
theorem eq_s_l02Archimedes (p : Int) (a : Int) (b : Int) (c : Int) : execT Try.prog S_s_l02Archimedes 117 33 (fun _ => 1000000) dec_i [.v (.int .i64 p), .v (.int .i64 a), .v (.int .i64 b), .v (.int .i64 c)] = Fo_s_l02Archimedes p a b c := by
  kernel_rfl
def s_l02Archimedes (p : Int) (a : Int) (b : Int) (c : Int) : Int :=
  (s_l01Mod (wrap64 ((wrap64 ((wrap64 ((wrap64 (a + b)) + c)) * (wrap64 ((wrap64 (a + b)) + c)))) - (wrap64 (2 * (wrap64 ((wrap64 ((wrap64 (a * a)) + (wrap64 (b * b)))) + (wrap64 (c * c)))))))) p)
theorem tot_s_l02Archimedes (p : Int) (a : Int) (b : Int) (c : Int) (hp : (prB p) = true) : Fo_s_l02Archimedes p a b c = some (s_l02Archimedes p a b c) := by
  try have h0 := prB_ne hp
  unfold Fo_s_l02Archimedes s_l02Archimedes
  (try simp only [wI_eq])
  repeat' (first | with_reducible rfl | with_reducible refine chk_opt hp ?_ | with_reducible refine chk_opt h0 ?_ | refine chk_opt (and_all hp fun _ => hp) ?_ | refine chk_opt (and_all hp fun _ => rfl) ?_ | refine ite_opt (fun _ => ?_) (fun _ => ?_) | rfl)
def run_s_l02Archimedes : List PV → Option (Bool × List TR)
  | [.v (.int .i64 p), .v (.int .i64 a), .v (.int .i64 b), .v (.int .i64 c)] => some (prB p, enc_i (s_l02Archimedes p a b c))
  | _ => none
theorem sound_s_l02Archimedes : Sound Try.prog 117 run_s_l02Archimedes := by
  refine sound_of de_i SO_s_l02Archimedes (by kernel_rfl) Try.func117 Try.ntmps117 rfl (by kernel_rfl) ?_
  intro W pvs avs rs hargs hrun
  unfold run_s_l02Archimedes at hrun
  split at hrun
  · simp only [Option.some.injEq, Prod.mk.injEq] at hrun
    obtain ⟨hp, rfl⟩ := hrun
    rename_i p a b c
    exact ⟨_, _, _, hargs, rfl, (eq_s_l02Archimedes p a b c).trans (tot_s_l02Archimedes p a b c hp)⟩
  · cases hrun

def S_s_l04Quadrea : Sums := ⟨tblS [(118, run_s_l02Quadrance), (117, run_s_l02Archimedes)], tblM []⟩
theorem SO_s_l04Quadrea : SumsOK Try.prog S_s_l04Quadrea := ⟨tblS_ok ⟨⟨Try.call118, sound_s_l02Quadrance⟩, ⟨Try.call117, sound_s_l02Archimedes⟩, True.intro⟩, tblM_ok True.intro⟩
def Fo_s_l04Quadrea (p : Int) (colour : Int) (a : Int × Int) (b : Int × Int) (c : Int × Int) : Option (Int) :=
  (if (prB p) = true then (if (prB p) = true then (if (prB p) = true then (if (prB p) = true then some (s_l02Archimedes p (s_l02Quadrance p colour b c) (s_l02Quadrance p colour a c) (s_l02Quadrance p colour a b)) else none) else none) else none) else none)
theorem eq_s_l04Quadrea (p : Int) (colour : Int) (a : Int × Int) (b : Int × Int) (c : Int × Int) : execT Try.prog S_s_l04Quadrea 49 28 (fun _ => 1000000) dec_i [.v (.int .i64 p), .v (.int .i64 colour), .v (.agg ⟨[.int .i64 a.1, .int .i64 a.2]⟩), .v (.agg ⟨[.int .i64 b.1, .int .i64 b.2]⟩), .v (.agg ⟨[.int .i64 c.1, .int .i64 c.2]⟩)] = Fo_s_l04Quadrea p colour a b c := by
  kernel_rfl
def s_l04Quadrea (p : Int) (colour : Int) (a : Int × Int) (b : Int × Int) (c : Int × Int) : Int :=
  (s_l02Archimedes p (s_l02Quadrance p colour b c) (s_l02Quadrance p colour a c) (s_l02Quadrance p colour a b))
theorem tot_s_l04Quadrea (p : Int) (colour : Int) (a : Int × Int) (b : Int × Int) (c : Int × Int) (hp : (prB p) = true) : Fo_s_l04Quadrea p colour a b c = some (s_l04Quadrea p colour a b c) := by
  try have h0 := prB_ne hp
  unfold Fo_s_l04Quadrea s_l04Quadrea
  (try simp only [wI_eq])
  repeat' (first | with_reducible rfl | with_reducible refine chk_opt hp ?_ | with_reducible refine chk_opt h0 ?_ | refine chk_opt (and_all hp fun _ => hp) ?_ | refine chk_opt (and_all hp fun _ => rfl) ?_ | refine ite_opt (fun _ => ?_) (fun _ => ?_) | rfl)
def run_s_l04Quadrea : List PV → Option (Bool × List TR)
  | [.v (.int .i64 p), .v (.int .i64 colour), .v (.agg ⟨[.int .i64 a0, .int .i64 a1]⟩), .v (.agg ⟨[.int .i64 b0, .int .i64 b1]⟩), .v (.agg ⟨[.int .i64 c0, .int .i64 c1]⟩)] => some (prB p, enc_i (s_l04Quadrea p colour (a0, a1) (b0, b1) (c0, c1)))
  | _ => none
theorem sound_s_l04Quadrea : Sound Try.prog 49 run_s_l04Quadrea := by
  refine sound_of de_i SO_s_l04Quadrea (by kernel_rfl) Try.func49 Try.ntmps49 rfl (by kernel_rfl) ?_
  intro W pvs avs rs hargs hrun
  unfold run_s_l04Quadrea at hrun
  split at hrun
  · simp only [Option.some.injEq, Prod.mk.injEq] at hrun
    obtain ⟨hp, rfl⟩ := hrun
    rename_i p colour a0 a1 b0 b1 c0 c1
    exact ⟨_, _, _, hargs, rfl, (eq_s_l04Quadrea p colour (a0, a1) (b0, b1) (c0, c1)).trans (tot_s_l04Quadrea p colour (a0, a1) (b0, b1) (c0, c1) hp)⟩
  · cases hrun

def S_s_QuadreaOf : Sums := ⟨tblS [(40, run_s_l04Code), (49, run_s_l04Quadrea)], tblM []⟩
theorem SO_s_QuadreaOf : SumsOK Try.prog S_s_QuadreaOf := ⟨tblS_ok ⟨⟨Try.call40, sound_s_l04Code⟩, ⟨Try.call49, sound_s_l04Quadrea⟩, True.intro⟩, tblM_ok True.intro⟩
def Fo_s_QuadreaOf (p : Int) (colour : Int) (a : Int × Int) (b : Int × Int) (c : Int × Int) : Option (Int × Int) :=
  (if ((s_l04Code p colour a b c) != 0) = true then some (0, (s_l04Code p colour a b c)) else (if (prB p) = true then some ((s_l04Quadrea p colour a b c), 0) else none))
theorem eq_s_QuadreaOf (p : Int) (colour : Int) (a : Int × Int) (b : Int × Int) (c : Int × Int) : execT Try.prog S_s_QuadreaOf 13 28 (fun _ => 1000000) dec_i_i [.v (.int .i64 p), .v (.int .i64 colour), .v (.agg ⟨[.int .i64 a.1, .int .i64 a.2]⟩), .v (.agg ⟨[.int .i64 b.1, .int .i64 b.2]⟩), .v (.agg ⟨[.int .i64 c.1, .int .i64 c.2]⟩)] = Fo_s_QuadreaOf p colour a b c := by
  kernel_rfl
def s_QuadreaOf (p : Int) (colour : Int) (a : Int × Int) (b : Int × Int) (c : Int × Int) : Int × Int :=
  (if ((s_l04Code p colour a b c) != 0) = true then (0, (s_l04Code p colour a b c)) else ((s_l04Quadrea p colour a b c), 0))
theorem tot_s_QuadreaOf (p : Int) (colour : Int) (a : Int × Int) (b : Int × Int) (c : Int × Int) : Fo_s_QuadreaOf p colour a b c = some (s_QuadreaOf p colour a b c) := by
  unfold Fo_s_QuadreaOf s_QuadreaOf
  (try simp only [wI_eq])
  repeat' (first | with_reducible rfl | refine chk_opt (by first | with_reducible rfl | exact Bool.true_or _ | (with_reducible exact l04Code_prB ‹_›) | (with_reducible exact l04Code_prB0 ‹_›) | exact mk_ok (by (first | (with_reducible assumption) | (with_reducible exact l04Code_prB ‹_›) | (with_reducible exact l04Code_prB0 ‹_›))) | exact and_all (by (first | (with_reducible assumption) | (with_reducible exact l04Code_prB ‹_›) | (with_reducible exact l04Code_prB0 ‹_›))) (fun _ => rfl) | exact and_all (by (first | (with_reducible assumption) | (with_reducible exact l04Code_prB ‹_›) | (with_reducible exact l04Code_prB0 ‹_›))) (fun _ => by (first | (with_reducible assumption) | (with_reducible exact l04Code_prB ‹_›) | (with_reducible exact l04Code_prB0 ‹_›))) | exact and3 (by (first | (with_reducible assumption) | (with_reducible exact l04Code_prB ‹_›) | (with_reducible exact l04Code_prB0 ‹_›))) (by (first | (with_reducible assumption) | (with_reducible exact l04Code_prB ‹_›) | (with_reducible exact l04Code_prB0 ‹_›))) (by (first | (with_reducible assumption) | (with_reducible exact l04Code_prB ‹_›) | (with_reducible exact l04Code_prB0 ‹_›))) | exact and_two (by (first | (with_reducible assumption) | (with_reducible exact l04Code_prB ‹_›) | (with_reducible exact l04Code_prB0 ‹_›))) rfl | rfl) ?_ | refine ite_opt (fun _ => ?_) (fun _ => ?_) | rfl)
def run_s_QuadreaOf : List PV → Option (Bool × List TR)
  | [.v (.int .i64 p), .v (.int .i64 colour), .v (.agg ⟨[.int .i64 a0, .int .i64 a1]⟩), .v (.agg ⟨[.int .i64 b0, .int .i64 b1]⟩), .v (.agg ⟨[.int .i64 c0, .int .i64 c1]⟩)] => some (true, enc_i_i (s_QuadreaOf p colour (a0, a1) (b0, b1) (c0, c1)))
  | _ => none
theorem sound_s_QuadreaOf : Sound Try.prog 13 run_s_QuadreaOf := by
  refine sound_of de_i_i SO_s_QuadreaOf (by kernel_rfl) Try.func13 Try.ntmps13 rfl (by kernel_rfl) ?_
  intro W pvs avs rs hargs hrun
  unfold run_s_QuadreaOf at hrun
  split at hrun
  · simp only [Option.some.injEq, Prod.mk.injEq] at hrun
    obtain ⟨hp, rfl⟩ := hrun
    rename_i p colour a0 a1 b0 b1 c0 c1
    exact ⟨_, _, _, hargs, rfl, (eq_s_QuadreaOf p colour (a0, a1) (b0, b1) (c0, c1)).trans (tot_s_QuadreaOf p colour (a0, a1) (b0, b1) (c0, c1))⟩
  · cases hrun

def S_i_WeightsOf_c1 : Sums := ⟨tblS [(56, run_i_arePoints)], tblM []⟩
theorem SO_i_WeightsOf_c1 : SumsOK Try.prog S_i_WeightsOf_c1 := ⟨tblS_ok ⟨⟨Try.call56, sound_i_arePoints⟩, True.intro⟩, tblM_ok True.intro⟩
def Fo_i_WeightsOf_c1 (c0 : Int) (c1 : Int × Int) (c2 : Int × Int) (c3 : Int × Int) (c4 : Int × Int) : Option (Bool) :=
  some (i_arePoints c0 [c1, c2, c3, c4])
theorem eq_i_WeightsOf_c1 (c0 : Int) (c1 : Int × Int) (c2 : Int × Int) (c3 : Int × Int) (c4 : Int × Int) : execT Try.prog S_i_WeightsOf_c1 55 13 (fun _ => 1000000) dec_b [.p [.int .i64 c0], .p [.int .i64 c1.1, .int .i64 c1.2], .p [.int .i64 c2.1, .int .i64 c2.2], .p [.int .i64 c3.1, .int .i64 c3.2], .p [.int .i64 c4.1, .int .i64 c4.2]] = Fo_i_WeightsOf_c1 c0 c1 c2 c3 c4 := by
  kernel_rfl
def i_WeightsOf_c1 (c0 : Int) (c1 : Int × Int) (c2 : Int × Int) (c3 : Int × Int) (c4 : Int × Int) : Bool :=
  (i_arePoints c0 [c1, c2, c3, c4])
theorem tot_i_WeightsOf_c1 (c0 : Int) (c1 : Int × Int) (c2 : Int × Int) (c3 : Int × Int) (c4 : Int × Int) : Fo_i_WeightsOf_c1 c0 c1 c2 c3 c4 = some (i_WeightsOf_c1 c0 c1 c2 c3 c4) := by
  unfold Fo_i_WeightsOf_c1 i_WeightsOf_c1
  (try simp only [wI_eq])
  repeat' (first | with_reducible rfl | refine ite_opt (fun _ => ?_) (fun _ => ?_) | rfl)
def run_i_WeightsOf_c1 : List PV → Option (Bool × List TR)
  | [.p [.int .i64 c0], .p [.int .i64 c10, .int .i64 c11], .p [.int .i64 c20, .int .i64 c21], .p [.int .i64 c30, .int .i64 c31], .p [.int .i64 c40, .int .i64 c41]] => some (true, enc_b (i_WeightsOf_c1 c0 (c10, c11) (c20, c21) (c30, c31) (c40, c41)))
  | _ => none
theorem sound_i_WeightsOf_c1 : Sound Try.prog 55 run_i_WeightsOf_c1 := by
  refine sound_of de_b SO_i_WeightsOf_c1 (by kernel_rfl) Try.func55 Try.ntmps55 rfl (by kernel_rfl) ?_
  intro W pvs avs rs hargs hrun
  unfold run_i_WeightsOf_c1 at hrun
  split at hrun
  · simp only [Option.some.injEq, Prod.mk.injEq] at hrun
    obtain ⟨hp, rfl⟩ := hrun
    rename_i c0 c10 c11 c20 c21 c30 c31 c40 c41
    exact ⟨_, _, _, hargs, rfl, (eq_i_WeightsOf_c1 c0 (c10, c11) (c20, c21) (c30, c31) (c40, c41)).trans (tot_i_WeightsOf_c1 c0 (c10, c11) (c20, c21) (c30, c31) (c40, c41))⟩
  · cases hrun

def S_i_WeightsOf : Sums := ⟨tblS [(54, run_i_asked), (55, run_i_WeightsOf_c1), (57, run_i_area), (58, run_i_divide)], tblM []⟩
theorem SO_i_WeightsOf : SumsOK Try.prog S_i_WeightsOf := ⟨tblS_ok ⟨⟨Try.call54, sound_i_asked⟩, ⟨Try.call55, sound_i_WeightsOf_c1⟩, ⟨Try.call57, sound_i_area⟩, ⟨Try.call58, sound_i_divide⟩, True.intro⟩, tblM_ok True.intro⟩
def Fo_i_WeightsOf (p : Int) (a : Int × Int) (b : Int × Int) (c : Int × Int) (d : Int × Int) : Option ((Nat × List Int) × Int) :=
  (if ((true) || !(i_IsField p)) = true then (if ((i_asked p (true) (i_WeightsOf_c1 p a b c d)) != 0) = true then some ((0, []), (i_asked p (true) (i_WeightsOf_c1 p a b c d))) else (if (prB p) = true then (if ((i_area p a b c) == 0) = true then some ((0, []), 5) else (if (prB p) = true then (if (prB p) = true then (if (prB p) = true then (if (prB p) = true then (if (prB p) = true then (if (prB p) = true then some ((3, [(i_divide p (i_area p d b c) (i_area p a b c)), (i_divide p (i_area p a d c) (i_area p a b c)), (i_divide p (i_area p a b d) (i_area p a b c))]), 0) else none) else none) else none) else none) else none) else none)) else none)) else none)
theorem eq_i_WeightsOf (p : Int) (a : Int × Int) (b : Int × Int) (c : Int × Int) (d : Int × Int) : execT Try.prog S_i_WeightsOf 15 52 (fun _ => 1000000) dec_l2_1_i [.v (.int .i64 p), .v (.agg ⟨[.int .i64 a.1, .int .i64 a.2]⟩), .v (.agg ⟨[.int .i64 b.1, .int .i64 b.2]⟩), .v (.agg ⟨[.int .i64 c.1, .int .i64 c.2]⟩), .v (.agg ⟨[.int .i64 d.1, .int .i64 d.2]⟩)] = Fo_i_WeightsOf p a b c d := by
  kernel_rfl
def i_WeightsOf (p : Int) (a : Int × Int) (b : Int × Int) (c : Int × Int) (d : Int × Int) : (Nat × List Int) × Int :=
  (if ((i_asked p (true) (i_WeightsOf_c1 p a b c d)) != 0) = true then ((0, []), (i_asked p (true) (i_WeightsOf_c1 p a b c d))) else (if ((i_area p a b c) == 0) = true then ((0, []), 5) else ((3, [(i_divide p (i_area p d b c) (i_area p a b c)), (i_divide p (i_area p a d c) (i_area p a b c)), (i_divide p (i_area p a b d) (i_area p a b c))]), 0)))
theorem tot_i_WeightsOf (p : Int) (a : Int × Int) (b : Int × Int) (c : Int × Int) (d : Int × Int) : Fo_i_WeightsOf p a b c d = some (i_WeightsOf p a b c d) := by
  unfold Fo_i_WeightsOf i_WeightsOf
  (try simp only [wI_eq])
  repeat' (first | with_reducible rfl | refine chk_opt (by first | with_reducible rfl | exact Bool.true_or _ | (with_reducible exact asked_prB ‹_›) | (with_reducible exact asked_prB0 ‹_›) | exact mk_ok (by (first | (with_reducible assumption) | (with_reducible exact asked_prB ‹_›) | (with_reducible exact asked_prB0 ‹_›))) | exact and_all (by (first | (with_reducible assumption) | (with_reducible exact asked_prB ‹_›) | (with_reducible exact asked_prB0 ‹_›))) (fun _ => rfl) | exact and_all (by (first | (with_reducible assumption) | (with_reducible exact asked_prB ‹_›) | (with_reducible exact asked_prB0 ‹_›))) (fun _ => by (first | (with_reducible assumption) | (with_reducible exact asked_prB ‹_›) | (with_reducible exact asked_prB0 ‹_›))) | exact and3 (by (first | (with_reducible assumption) | (with_reducible exact asked_prB ‹_›) | (with_reducible exact asked_prB0 ‹_›))) (by (first | (with_reducible assumption) | (with_reducible exact asked_prB ‹_›) | (with_reducible exact asked_prB0 ‹_›))) (by (first | (with_reducible assumption) | (with_reducible exact asked_prB ‹_›) | (with_reducible exact asked_prB0 ‹_›))) | exact and_two (by (first | (with_reducible assumption) | (with_reducible exact asked_prB ‹_›) | (with_reducible exact asked_prB0 ‹_›))) rfl | rfl) ?_ | refine ite_opt (fun _ => ?_) (fun _ => ?_) | rfl)
def run_i_WeightsOf : List PV → Option (Bool × List TR)
  | [.v (.int .i64 p), .v (.agg ⟨[.int .i64 a0, .int .i64 a1]⟩), .v (.agg ⟨[.int .i64 b0, .int .i64 b1]⟩), .v (.agg ⟨[.int .i64 c0, .int .i64 c1]⟩), .v (.agg ⟨[.int .i64 d0, .int .i64 d1]⟩)] => some (true, enc_l2_1_i (i_WeightsOf p (a0, a1) (b0, b1) (c0, c1) (d0, d1)))
  | _ => none
theorem sound_i_WeightsOf : Sound Try.prog 15 run_i_WeightsOf := by
  refine sound_of de_l2_1_i SO_i_WeightsOf (by kernel_rfl) Try.func15 Try.ntmps15 rfl (by kernel_rfl) ?_
  intro W pvs avs rs hargs hrun
  unfold run_i_WeightsOf at hrun
  split at hrun
  · simp only [Option.some.injEq, Prod.mk.injEq] at hrun
    obtain ⟨hp, rfl⟩ := hrun
    rename_i p a0 a1 b0 b1 c0 c1 d0 d1
    exact ⟨_, _, _, hargs, rfl, (eq_i_WeightsOf p (a0, a1) (b0, b1) (c0, c1) (d0, d1)).trans (tot_i_WeightsOf p (a0, a1) (b0, b1) (c0, c1) (d0, d1))⟩
  · cases hrun

def S_s_WeightsOf : Sums := ⟨tblS [(59, run_s_l02Code), (40, run_s_l04Code), (61, run_s_l01Area), (60, run_s_l01Inverse), (62, run_s_l01Mod)], tblM []⟩
theorem SO_s_WeightsOf : SumsOK Try.prog S_s_WeightsOf := ⟨tblS_ok ⟨⟨Try.call59, sound_s_l02Code⟩, ⟨Try.call40, sound_s_l04Code⟩, ⟨Try.call61, sound_s_l01Area⟩, ⟨Try.call60, sound_s_l01Inverse⟩, ⟨Try.call62, sound_s_l01Mod⟩, True.intro⟩, tblM_ok True.intro⟩
def Fo_s_WeightsOf (p : Int) (a : Int × Int) (b : Int × Int) (c : Int × Int) (d : Int × Int) : Option ((Nat × List Int) × Int) :=
  (if ((s_l02Code p 0 4 [a.1, a.2, b.1, b.2, c.1, c.2, d.1, d.2]) == 0) = true then (if ((s_l04Code p 0 a b c) != 0) = true then some ((0, []), (s_l04Code p 0 a b c)) else (if (prB p) = true then (if (prB p) = true then (if (prB p) = true then (if (prB p) = true then (if (prB p) = true then (if (prB p) = true then (if (prB p) = true then (if (prB p) = true then some ((3, [(s_l01Mod (wI ((s_l01Area p d b c) * (s_l01Inverse (s_l01Area p a b c) p))) p), (s_l01Mod (wI ((s_l01Area p a d c) * (s_l01Inverse (s_l01Area p a b c) p))) p), (s_l01Mod (wI ((s_l01Area p a b d) * (s_l01Inverse (s_l01Area p a b c) p))) p)]), 0) else none) else none) else none) else none) else none) else none) else none) else none)) else (if ((s_l02Code p 0 4 [a.1, a.2, b.1, b.2, c.1, c.2, d.1, d.2]) != 0) = true then some ((0, []), (s_l02Code p 0 4 [a.1, a.2, b.1, b.2, c.1, c.2, d.1, d.2])) else (if (prB p) = true then (if (prB p) = true then (if (prB p) = true then (if (prB p) = true then (if (prB p) = true then (if (prB p) = true then (if (prB p) = true then (if (prB p) = true then some ((3, [(s_l01Mod (wI ((s_l01Area p d b c) * (s_l01Inverse (s_l01Area p a b c) p))) p), (s_l01Mod (wI ((s_l01Area p a d c) * (s_l01Inverse (s_l01Area p a b c) p))) p), (s_l01Mod (wI ((s_l01Area p a b d) * (s_l01Inverse (s_l01Area p a b c) p))) p)]), 0) else none) else none) else none) else none) else none) else none) else none) else none)))
theorem eq_s_WeightsOf (p : Int) (a : Int × Int) (b : Int × Int) (c : Int × Int) (d : Int × Int) : execT Try.prog S_s_WeightsOf 16 66 (fun _ => 1000000) dec_l2_1_i [.v (.int .i64 p), .v (.agg ⟨[.int .i64 a.1, .int .i64 a.2]⟩), .v (.agg ⟨[.int .i64 b.1, .int .i64 b.2]⟩), .v (.agg ⟨[.int .i64 c.1, .int .i64 c.2]⟩), .v (.agg ⟨[.int .i64 d.1, .int .i64 d.2]⟩)] = Fo_s_WeightsOf p a b c d := by
  kernel_rfl
def s_WeightsOf (p : Int) (a : Int × Int) (b : Int × Int) (c : Int × Int) (d : Int × Int) : (Nat × List Int) × Int :=
  (if ((s_l02Code p 0 4 [a.1, a.2, b.1, b.2, c.1, c.2, d.1, d.2]) == 0) = true then (if ((s_l04Code p 0 a b c) != 0) = true then ((0, []), (s_l04Code p 0 a b c)) else ((3, [(s_l01Mod (wrap64 ((s_l01Area p d b c) * (s_l01Inverse (s_l01Area p a b c) p))) p), (s_l01Mod (wrap64 ((s_l01Area p a d c) * (s_l01Inverse (s_l01Area p a b c) p))) p), (s_l01Mod (wrap64 ((s_l01Area p a b d) * (s_l01Inverse (s_l01Area p a b c) p))) p)]), 0)) else (if ((s_l02Code p 0 4 [a.1, a.2, b.1, b.2, c.1, c.2, d.1, d.2]) != 0) = true then ((0, []), (s_l02Code p 0 4 [a.1, a.2, b.1, b.2, c.1, c.2, d.1, d.2])) else ((3, [(s_l01Mod (wrap64 ((s_l01Area p d b c) * (s_l01Inverse (s_l01Area p a b c) p))) p), (s_l01Mod (wrap64 ((s_l01Area p a d c) * (s_l01Inverse (s_l01Area p a b c) p))) p), (s_l01Mod (wrap64 ((s_l01Area p a b d) * (s_l01Inverse (s_l01Area p a b c) p))) p)]), 0)))
theorem tot_s_WeightsOf (p : Int) (a : Int × Int) (b : Int × Int) (c : Int × Int) (d : Int × Int) : Fo_s_WeightsOf p a b c d = some (s_WeightsOf p a b c d) := by
  unfold Fo_s_WeightsOf s_WeightsOf
  (try simp only [wI_eq])
  repeat' (first | with_reducible rfl | refine chk_opt (by first | with_reducible rfl | exact Bool.true_or _ | (with_reducible exact l02Code_prB ‹_›) | (with_reducible exact l02Code_prB0 ‹_›) | (with_reducible exact l04Code_prB ‹_›) | (with_reducible exact l04Code_prB0 ‹_›) | exact mk_ok (by (first | (with_reducible assumption) | (with_reducible exact l02Code_prB ‹_›) | (with_reducible exact l02Code_prB0 ‹_›) | (with_reducible exact l04Code_prB ‹_›) | (with_reducible exact l04Code_prB0 ‹_›))) | exact and_all (by (first | (with_reducible assumption) | (with_reducible exact l02Code_prB ‹_›) | (with_reducible exact l02Code_prB0 ‹_›) | (with_reducible exact l04Code_prB ‹_›) | (with_reducible exact l04Code_prB0 ‹_›))) (fun _ => rfl) | exact and_all (by (first | (with_reducible assumption) | (with_reducible exact l02Code_prB ‹_›) | (with_reducible exact l02Code_prB0 ‹_›) | (with_reducible exact l04Code_prB ‹_›) | (with_reducible exact l04Code_prB0 ‹_›))) (fun _ => by (first | (with_reducible assumption) | (with_reducible exact l02Code_prB ‹_›) | (with_reducible exact l02Code_prB0 ‹_›) | (with_reducible exact l04Code_prB ‹_›) | (with_reducible exact l04Code_prB0 ‹_›))) | exact and3 (by (first | (with_reducible assumption) | (with_reducible exact l02Code_prB ‹_›) | (with_reducible exact l02Code_prB0 ‹_›) | (with_reducible exact l04Code_prB ‹_›) | (with_reducible exact l04Code_prB0 ‹_›))) (by (first | (with_reducible assumption) | (with_reducible exact l02Code_prB ‹_›) | (with_reducible exact l02Code_prB0 ‹_›) | (with_reducible exact l04Code_prB ‹_›) | (with_reducible exact l04Code_prB0 ‹_›))) (by (first | (with_reducible assumption) | (with_reducible exact l02Code_prB ‹_›) | (with_reducible exact l02Code_prB0 ‹_›) | (with_reducible exact l04Code_prB ‹_›) | (with_reducible exact l04Code_prB0 ‹_›))) | exact and_two (by (first | (with_reducible assumption) | (with_reducible exact l02Code_prB ‹_›) | (with_reducible exact l02Code_prB0 ‹_›) | (with_reducible exact l04Code_prB ‹_›) | (with_reducible exact l04Code_prB0 ‹_›))) rfl | rfl) ?_ | refine ite_opt (fun _ => ?_) (fun _ => ?_) | rfl)
def run_s_WeightsOf : List PV → Option (Bool × List TR)
  | [.v (.int .i64 p), .v (.agg ⟨[.int .i64 a0, .int .i64 a1]⟩), .v (.agg ⟨[.int .i64 b0, .int .i64 b1]⟩), .v (.agg ⟨[.int .i64 c0, .int .i64 c1]⟩), .v (.agg ⟨[.int .i64 d0, .int .i64 d1]⟩)] => some (true, enc_l2_1_i (s_WeightsOf p (a0, a1) (b0, b1) (c0, c1) (d0, d1)))
  | _ => none
theorem sound_s_WeightsOf : Sound Try.prog 16 run_s_WeightsOf := by
  refine sound_of de_l2_1_i SO_s_WeightsOf (by kernel_rfl) Try.func16 Try.ntmps16 rfl (by kernel_rfl) ?_
  intro W pvs avs rs hargs hrun
  unfold run_s_WeightsOf at hrun
  split at hrun
  · simp only [Option.some.injEq, Prod.mk.injEq] at hrun
    obtain ⟨hp, rfl⟩ := hrun
    rename_i p a0 a1 b0 b1 c0 c1 d0 d1
    exact ⟨_, _, _, hargs, rfl, (eq_s_WeightsOf p (a0, a1) (b0, b1) (c0, c1) (d0, d1)).trans (tot_s_WeightsOf p (a0, a1) (b0, b1) (c0, c1) (d0, d1))⟩
  · cases hrun

def S_i_LineThrough_c1 : Sums := ⟨tblS [(56, run_i_arePoints)], tblM []⟩
theorem SO_i_LineThrough_c1 : SumsOK Try.prog S_i_LineThrough_c1 := ⟨tblS_ok ⟨⟨Try.call56, sound_i_arePoints⟩, True.intro⟩, tblM_ok True.intro⟩
def Fo_i_LineThrough_c1 (c0 : Int) (c1 : Int × Int) (c2 : Int × Int) : Option (Bool) :=
  some (i_arePoints c0 [c1, c2])
theorem eq_i_LineThrough_c1 (c0 : Int) (c1 : Int × Int) (c2 : Int × Int) : execT Try.prog S_i_LineThrough_c1 63 9 (fun _ => 1000000) dec_b [.p [.int .i64 c0], .p [.int .i64 c1.1, .int .i64 c1.2], .p [.int .i64 c2.1, .int .i64 c2.2]] = Fo_i_LineThrough_c1 c0 c1 c2 := by
  kernel_rfl
def i_LineThrough_c1 (c0 : Int) (c1 : Int × Int) (c2 : Int × Int) : Bool :=
  (i_arePoints c0 [c1, c2])
theorem tot_i_LineThrough_c1 (c0 : Int) (c1 : Int × Int) (c2 : Int × Int) : Fo_i_LineThrough_c1 c0 c1 c2 = some (i_LineThrough_c1 c0 c1 c2) := by
  unfold Fo_i_LineThrough_c1 i_LineThrough_c1
  (try simp only [wI_eq])
  repeat' (first | with_reducible rfl | refine ite_opt (fun _ => ?_) (fun _ => ?_) | rfl)
def run_i_LineThrough_c1 : List PV → Option (Bool × List TR)
  | [.p [.int .i64 c0], .p [.int .i64 c10, .int .i64 c11], .p [.int .i64 c20, .int .i64 c21]] => some (true, enc_b (i_LineThrough_c1 c0 (c10, c11) (c20, c21)))
  | _ => none
theorem sound_i_LineThrough_c1 : Sound Try.prog 63 run_i_LineThrough_c1 := by
  refine sound_of de_b SO_i_LineThrough_c1 (by kernel_rfl) Try.func63 Try.ntmps63 rfl (by kernel_rfl) ?_
  intro W pvs avs rs hargs hrun
  unfold run_i_LineThrough_c1 at hrun
  split at hrun
  · simp only [Option.some.injEq, Prod.mk.injEq] at hrun
    obtain ⟨hp, rfl⟩ := hrun
    rename_i c0 c10 c11 c20 c21
    exact ⟨_, _, _, hargs, rfl, (eq_i_LineThrough_c1 c0 (c10, c11) (c20, c21)).trans (tot_i_LineThrough_c1 c0 (c10, c11) (c20, c21))⟩
  · cases hrun

def S_i_LineThrough : Sums := ⟨tblS [(54, run_i_asked), (63, run_i_LineThrough_c1), (39, run_i_lineThrough)], tblM []⟩
theorem SO_i_LineThrough : SumsOK Try.prog S_i_LineThrough := ⟨tblS_ok ⟨⟨Try.call54, sound_i_asked⟩, ⟨Try.call63, sound_i_LineThrough_c1⟩, ⟨Try.call39, sound_i_lineThrough⟩, True.intro⟩, tblM_ok True.intro⟩
def Fo_i_LineThrough (p : Int) (a : Int × Int) (b : Int × Int) : Option ((Int × Int × Int) × Int) :=
  (if ((true) || !(i_IsField p)) = true then (if ((i_asked p (true) (i_LineThrough_c1 p a b)) != 0) = true then some ((0, 0, 0), (i_asked p (true) (i_LineThrough_c1 p a b))) else (if (a == b) = true then some ((0, 0, 0), 5) else (if (prB p) = true then some ((i_lineThrough p a b), 0) else none))) else none)
theorem eq_i_LineThrough (p : Int) (a : Int × Int) (b : Int × Int) : execT Try.prog S_i_LineThrough 19 24 (fun _ => 1000000) dec_a3_i [.v (.int .i64 p), .v (.agg ⟨[.int .i64 a.1, .int .i64 a.2]⟩), .v (.agg ⟨[.int .i64 b.1, .int .i64 b.2]⟩)] = Fo_i_LineThrough p a b := by
  kernel_rfl
def i_LineThrough (p : Int) (a : Int × Int) (b : Int × Int) : (Int × Int × Int) × Int :=
  (if ((i_asked p (true) (i_LineThrough_c1 p a b)) != 0) = true then ((0, 0, 0), (i_asked p (true) (i_LineThrough_c1 p a b))) else (if (a == b) = true then ((0, 0, 0), 5) else ((i_lineThrough p a b), 0)))
theorem tot_i_LineThrough (p : Int) (a : Int × Int) (b : Int × Int) : Fo_i_LineThrough p a b = some (i_LineThrough p a b) := by
  unfold Fo_i_LineThrough i_LineThrough
  (try simp only [wI_eq])
  repeat' (first | with_reducible rfl | refine chk_opt (by first | with_reducible rfl | exact Bool.true_or _ | (with_reducible exact asked_prB ‹_›) | (with_reducible exact asked_prB0 ‹_›) | exact mk_ok (by (first | (with_reducible assumption) | (with_reducible exact asked_prB ‹_›) | (with_reducible exact asked_prB0 ‹_›))) | exact and_all (by (first | (with_reducible assumption) | (with_reducible exact asked_prB ‹_›) | (with_reducible exact asked_prB0 ‹_›))) (fun _ => rfl) | exact and_all (by (first | (with_reducible assumption) | (with_reducible exact asked_prB ‹_›) | (with_reducible exact asked_prB0 ‹_›))) (fun _ => by (first | (with_reducible assumption) | (with_reducible exact asked_prB ‹_›) | (with_reducible exact asked_prB0 ‹_›))) | exact and3 (by (first | (with_reducible assumption) | (with_reducible exact asked_prB ‹_›) | (with_reducible exact asked_prB0 ‹_›))) (by (first | (with_reducible assumption) | (with_reducible exact asked_prB ‹_›) | (with_reducible exact asked_prB0 ‹_›))) (by (first | (with_reducible assumption) | (with_reducible exact asked_prB ‹_›) | (with_reducible exact asked_prB0 ‹_›))) | exact and_two (by (first | (with_reducible assumption) | (with_reducible exact asked_prB ‹_›) | (with_reducible exact asked_prB0 ‹_›))) rfl | rfl) ?_ | refine ite_opt (fun _ => ?_) (fun _ => ?_) | rfl)
def run_i_LineThrough : List PV → Option (Bool × List TR)
  | [.v (.int .i64 p), .v (.agg ⟨[.int .i64 a0, .int .i64 a1]⟩), .v (.agg ⟨[.int .i64 b0, .int .i64 b1]⟩)] => some (true, enc_a3_i (i_LineThrough p (a0, a1) (b0, b1)))
  | _ => none
theorem sound_i_LineThrough : Sound Try.prog 19 run_i_LineThrough := by
  refine sound_of de_a3_i SO_i_LineThrough (by kernel_rfl) Try.func19 Try.ntmps19 rfl (by kernel_rfl) ?_
  intro W pvs avs rs hargs hrun
  unfold run_i_LineThrough at hrun
  split at hrun
  · simp only [Option.some.injEq, Prod.mk.injEq] at hrun
    obtain ⟨hp, rfl⟩ := hrun
    rename_i p a0 a1 b0 b1
    exact ⟨_, _, _, hargs, rfl, (eq_i_LineThrough p (a0, a1) (b0, b1)).trans (tot_i_LineThrough p (a0, a1) (b0, b1))⟩
  · cases hrun

def S_i_FootOf_c1 : Sums := ⟨tblS [(65, run_i_isColour), (66, run_i_isPoint), (67, run_i_isLine)], tblM []⟩
theorem SO_i_FootOf_c1 : SumsOK Try.prog S_i_FootOf_c1 := ⟨tblS_ok ⟨⟨Try.call65, sound_i_isColour⟩, ⟨Try.call66, sound_i_isPoint⟩, ⟨Try.call67, sound_i_isLine⟩, True.intro⟩, tblM_ok True.intro⟩
def Fo_i_FootOf_c1 (c0 : Int) (c1 : Int) (c2 : Int × Int) (c3 : Int × Int × Int) : Option (Bool) :=
  (if (i_isColour c0) = true then (if (i_isPoint c1 c2) = true then some (i_isLine c1 c3) else some false) else some false)
theorem eq_i_FootOf_c1 (c0 : Int) (c1 : Int) (c2 : Int × Int) (c3 : Int × Int × Int) : execT Try.prog S_i_FootOf_c1 64 17 (fun _ => 1000000) dec_b [.p [.int .i64 c0], .p [.int .i64 c1], .p [.int .i64 c2.1, .int .i64 c2.2], .p [.int .i64 c3.1, .int .i64 c3.2.1, .int .i64 c3.2.2]] = Fo_i_FootOf_c1 c0 c1 c2 c3 := by
  kernel_rfl
def i_FootOf_c1 (c0 : Int) (c1 : Int) (c2 : Int × Int) (c3 : Int × Int × Int) : Bool :=
  (if (i_isColour c0) = true then (if (i_isPoint c1 c2) = true then (i_isLine c1 c3) else false) else false)
theorem tot_i_FootOf_c1 (c0 : Int) (c1 : Int) (c2 : Int × Int) (c3 : Int × Int × Int) : Fo_i_FootOf_c1 c0 c1 c2 c3 = some (i_FootOf_c1 c0 c1 c2 c3) := by
  unfold Fo_i_FootOf_c1 i_FootOf_c1
  (try simp only [wI_eq])
  repeat' (first | with_reducible rfl | refine ite_opt (fun _ => ?_) (fun _ => ?_) | rfl)
def run_i_FootOf_c1 : List PV → Option (Bool × List TR)
  | [.p [.int .i64 c0], .p [.int .i64 c1], .p [.int .i64 c20, .int .i64 c21], .p [.int .i64 c30, .int .i64 c31, .int .i64 c32]] => some (true, enc_b (i_FootOf_c1 c0 c1 (c20, c21) (c30, c31, c32)))
  | _ => none
theorem sound_i_FootOf_c1 : Sound Try.prog 64 run_i_FootOf_c1 := by
  refine sound_of de_b SO_i_FootOf_c1 (by kernel_rfl) Try.func64 Try.ntmps64 rfl (by kernel_rfl) ?_
  intro W pvs avs rs hargs hrun
  unfold run_i_FootOf_c1 at hrun
  split at hrun
  · simp only [Option.some.injEq, Prod.mk.injEq] at hrun
    obtain ⟨hp, rfl⟩ := hrun
    rename_i c0 c1 c20 c21 c30 c31 c32
    exact ⟨_, _, _, hargs, rfl, (eq_i_FootOf_c1 c0 c1 (c20, c21) (c30, c31, c32)).trans (tot_i_FootOf_c1 c0 c1 (c20, c21) (c30, c31, c32))⟩
  · cases hrun

def S_i_FootOf : Sums := ⟨tblS [(54, run_i_asked), (64, run_i_FootOf_c1), (44, run_i_isNull), (45, run_i_foot)], tblM []⟩
theorem SO_i_FootOf : SumsOK Try.prog S_i_FootOf := ⟨tblS_ok ⟨⟨Try.call54, sound_i_asked⟩, ⟨Try.call64, sound_i_FootOf_c1⟩, ⟨Try.call44, sound_i_isNull⟩, ⟨Try.call45, sound_i_foot⟩, True.intro⟩, tblM_ok True.intro⟩
def Fo_i_FootOf (p : Int) (colour : Int) (a : Int × Int) (l : Int × Int × Int) : Option ((Int × Int) × Int) :=
  (if ((true) || !(i_IsField p)) = true then (if ((i_asked p (true) (i_FootOf_c1 colour p a l)) != 0) = true then some ((0, 0), (i_asked p (true) (i_FootOf_c1 colour p a l))) else (if (prB p) = true then (if (i_isNull p colour l) = true then some ((0, 0), 5) else (if (prB p) = true then some ((i_foot p colour a l), 0) else none)) else none)) else none)
theorem eq_i_FootOf (p : Int) (colour : Int) (a : Int × Int) (l : Int × Int × Int) : execT Try.prog S_i_FootOf 20 28 (fun _ => 1000000) dec_a2_i [.v (.int .i64 p), .v (.int .i64 colour), .v (.agg ⟨[.int .i64 a.1, .int .i64 a.2]⟩), .v (.agg ⟨[.int .i64 l.1, .int .i64 l.2.1, .int .i64 l.2.2]⟩)] = Fo_i_FootOf p colour a l := by
  kernel_rfl
def i_FootOf (p : Int) (colour : Int) (a : Int × Int) (l : Int × Int × Int) : (Int × Int) × Int :=
  (if ((i_asked p (true) (i_FootOf_c1 colour p a l)) != 0) = true then ((0, 0), (i_asked p (true) (i_FootOf_c1 colour p a l))) else (if (i_isNull p colour l) = true then ((0, 0), 5) else ((i_foot p colour a l), 0)))
theorem tot_i_FootOf (p : Int) (colour : Int) (a : Int × Int) (l : Int × Int × Int) : Fo_i_FootOf p colour a l = some (i_FootOf p colour a l) := by
  unfold Fo_i_FootOf i_FootOf
  (try simp only [wI_eq])
  repeat' (first | with_reducible rfl | refine chk_opt (by first | with_reducible rfl | exact Bool.true_or _ | (with_reducible exact asked_prB ‹_›) | (with_reducible exact asked_prB0 ‹_›) | exact mk_ok (by (first | (with_reducible assumption) | (with_reducible exact asked_prB ‹_›) | (with_reducible exact asked_prB0 ‹_›))) | exact and_all (by (first | (with_reducible assumption) | (with_reducible exact asked_prB ‹_›) | (with_reducible exact asked_prB0 ‹_›))) (fun _ => rfl) | exact and_all (by (first | (with_reducible assumption) | (with_reducible exact asked_prB ‹_›) | (with_reducible exact asked_prB0 ‹_›))) (fun _ => by (first | (with_reducible assumption) | (with_reducible exact asked_prB ‹_›) | (with_reducible exact asked_prB0 ‹_›))) | exact and3 (by (first | (with_reducible assumption) | (with_reducible exact asked_prB ‹_›) | (with_reducible exact asked_prB0 ‹_›))) (by (first | (with_reducible assumption) | (with_reducible exact asked_prB ‹_›) | (with_reducible exact asked_prB0 ‹_›))) (by (first | (with_reducible assumption) | (with_reducible exact asked_prB ‹_›) | (with_reducible exact asked_prB0 ‹_›))) | exact and_two (by (first | (with_reducible assumption) | (with_reducible exact asked_prB ‹_›) | (with_reducible exact asked_prB0 ‹_›))) rfl | rfl) ?_ | refine ite_opt (fun _ => ?_) (fun _ => ?_) | rfl)
def run_i_FootOf : List PV → Option (Bool × List TR)
  | [.v (.int .i64 p), .v (.int .i64 colour), .v (.agg ⟨[.int .i64 a0, .int .i64 a1]⟩), .v (.agg ⟨[.int .i64 l0, .int .i64 l1, .int .i64 l2]⟩)] => some (true, enc_a2_i (i_FootOf p colour (a0, a1) (l0, l1, l2)))
  | _ => none
theorem sound_i_FootOf : Sound Try.prog 20 run_i_FootOf := by
  refine sound_of de_a2_i SO_i_FootOf (by kernel_rfl) Try.func20 Try.ntmps20 rfl (by kernel_rfl) ?_
  intro W pvs avs rs hargs hrun
  unfold run_i_FootOf at hrun
  split at hrun
  · simp only [Option.some.injEq, Prod.mk.injEq] at hrun
    obtain ⟨hp, rfl⟩ := hrun
    rename_i p colour a0 a1 l0 l1 l2
    exact ⟨_, _, _, hargs, rfl, (eq_i_FootOf p colour (a0, a1) (l0, l1, l2)).trans (tot_i_FootOf p colour (a0, a1) (l0, l1, l2))⟩
  · cases hrun

def S_i_CentroidOf : Sums := ⟨tblS [(36, run_i_triangle), (58, run_i_divide)], tblM []⟩
theorem SO_i_CentroidOf : SumsOK Try.prog S_i_CentroidOf := ⟨tblS_ok ⟨⟨Try.call36, sound_i_triangle⟩, ⟨Try.call58, sound_i_divide⟩, True.intro⟩, tblM_ok True.intro⟩
def Fo_i_CentroidOf (p : Int) (a : Int × Int) (b : Int × Int) (c : Int × Int) : Option ((Int × Int) × Int) :=
  (if ((i_triangle p 0 a b c) != 0) = true then some ((0, 0), (i_triangle p 0 a b c)) else (if (p == 3) = true then some ((0, 0), 5) else (if (prB p) = true then (if (prB p) = true then some (((i_divide p (wI ((wI (a.1 + b.1)) + c.1)) 3), (i_divide p (wI ((wI (a.2 + b.2)) + c.2)) 3)), 0) else none) else none)))
theorem eq_i_CentroidOf (p : Int) (a : Int × Int) (b : Int × Int) (c : Int × Int) : execT Try.prog S_i_CentroidOf 21 44 (fun _ => 1000000) dec_a2_i [.v (.int .i64 p), .v (.agg ⟨[.int .i64 a.1, .int .i64 a.2]⟩), .v (.agg ⟨[.int .i64 b.1, .int .i64 b.2]⟩), .v (.agg ⟨[.int .i64 c.1, .int .i64 c.2]⟩)] = Fo_i_CentroidOf p a b c := by
  kernel_rfl
def i_CentroidOf (p : Int) (a : Int × Int) (b : Int × Int) (c : Int × Int) : (Int × Int) × Int :=
  (if ((i_triangle p 0 a b c) != 0) = true then ((0, 0), (i_triangle p 0 a b c)) else (if (p == 3) = true then ((0, 0), 5) else (((i_divide p (wrap64 ((wrap64 (a.1 + b.1)) + c.1)) 3), (i_divide p (wrap64 ((wrap64 (a.2 + b.2)) + c.2)) 3)), 0)))
theorem tot_i_CentroidOf (p : Int) (a : Int × Int) (b : Int × Int) (c : Int × Int) : Fo_i_CentroidOf p a b c = some (i_CentroidOf p a b c) := by
  unfold Fo_i_CentroidOf i_CentroidOf
  (try simp only [wI_eq])
  repeat' (first | with_reducible rfl | refine chk_opt (by first | with_reducible rfl | exact Bool.true_or _ | (with_reducible exact triangle_prB ‹_›) | (with_reducible exact triangle_prB0 ‹_›) | exact mk_ok (by (first | (with_reducible assumption) | (with_reducible exact triangle_prB ‹_›) | (with_reducible exact triangle_prB0 ‹_›))) | exact and_all (by (first | (with_reducible assumption) | (with_reducible exact triangle_prB ‹_›) | (with_reducible exact triangle_prB0 ‹_›))) (fun _ => rfl) | exact and_all (by (first | (with_reducible assumption) | (with_reducible exact triangle_prB ‹_›) | (with_reducible exact triangle_prB0 ‹_›))) (fun _ => by (first | (with_reducible assumption) | (with_reducible exact triangle_prB ‹_›) | (with_reducible exact triangle_prB0 ‹_›))) | exact and3 (by (first | (with_reducible assumption) | (with_reducible exact triangle_prB ‹_›) | (with_reducible exact triangle_prB0 ‹_›))) (by (first | (with_reducible assumption) | (with_reducible exact triangle_prB ‹_›) | (with_reducible exact triangle_prB0 ‹_›))) (by (first | (with_reducible assumption) | (with_reducible exact triangle_prB ‹_›) | (with_reducible exact triangle_prB0 ‹_›))) | exact and_two (by (first | (with_reducible assumption) | (with_reducible exact triangle_prB ‹_›) | (with_reducible exact triangle_prB0 ‹_›))) rfl | rfl) ?_ | refine ite_opt (fun _ => ?_) (fun _ => ?_) | rfl)
def run_i_CentroidOf : List PV → Option (Bool × List TR)
  | [.v (.int .i64 p), .v (.agg ⟨[.int .i64 a0, .int .i64 a1]⟩), .v (.agg ⟨[.int .i64 b0, .int .i64 b1]⟩), .v (.agg ⟨[.int .i64 c0, .int .i64 c1]⟩)] => some (true, enc_a2_i (i_CentroidOf p (a0, a1) (b0, b1) (c0, c1)))
  | _ => none
theorem sound_i_CentroidOf : Sound Try.prog 21 run_i_CentroidOf := by
  refine sound_of de_a2_i SO_i_CentroidOf (by kernel_rfl) Try.func21 Try.ntmps21 rfl (by kernel_rfl) ?_
  intro W pvs avs rs hargs hrun
  unfold run_i_CentroidOf at hrun
  split at hrun
  · simp only [Option.some.injEq, Prod.mk.injEq] at hrun
    obtain ⟨hp, rfl⟩ := hrun
    rename_i p a0 a1 b0 b1 c0 c1
    exact ⟨_, _, _, hargs, rfl, (eq_i_CentroidOf p (a0, a1) (b0, b1) (c0, c1)).trans (tot_i_CentroidOf p (a0, a1) (b0, b1) (c0, c1))⟩
  · cases hrun

def S_i_IsOnLine_c1 : Sums := ⟨tblS [(66, run_i_isPoint), (67, run_i_isLine)], tblM []⟩
theorem SO_i_IsOnLine_c1 : SumsOK Try.prog S_i_IsOnLine_c1 := ⟨tblS_ok ⟨⟨Try.call66, sound_i_isPoint⟩, ⟨Try.call67, sound_i_isLine⟩, True.intro⟩, tblM_ok True.intro⟩
def Fo_i_IsOnLine_c1 (c0 : Int) (c1 : Int × Int) (c2 : Int × Int × Int) : Option (Bool) :=
  (if (i_isPoint c0 c1) = true then some (i_isLine c0 c2) else some false)
theorem eq_i_IsOnLine_c1 (c0 : Int) (c1 : Int × Int) (c2 : Int × Int × Int) : execT Try.prog S_i_IsOnLine_c1 68 12 (fun _ => 1000000) dec_b [.p [.int .i64 c0], .p [.int .i64 c1.1, .int .i64 c1.2], .p [.int .i64 c2.1, .int .i64 c2.2.1, .int .i64 c2.2.2]] = Fo_i_IsOnLine_c1 c0 c1 c2 := by
  kernel_rfl
def i_IsOnLine_c1 (c0 : Int) (c1 : Int × Int) (c2 : Int × Int × Int) : Bool :=
  (if (i_isPoint c0 c1) = true then (i_isLine c0 c2) else false)
theorem tot_i_IsOnLine_c1 (c0 : Int) (c1 : Int × Int) (c2 : Int × Int × Int) : Fo_i_IsOnLine_c1 c0 c1 c2 = some (i_IsOnLine_c1 c0 c1 c2) := by
  unfold Fo_i_IsOnLine_c1 i_IsOnLine_c1
  (try simp only [wI_eq])
  repeat' (first | with_reducible rfl | refine ite_opt (fun _ => ?_) (fun _ => ?_) | rfl)
def run_i_IsOnLine_c1 : List PV → Option (Bool × List TR)
  | [.p [.int .i64 c0], .p [.int .i64 c10, .int .i64 c11], .p [.int .i64 c20, .int .i64 c21, .int .i64 c22]] => some (true, enc_b (i_IsOnLine_c1 c0 (c10, c11) (c20, c21, c22)))
  | _ => none
theorem sound_i_IsOnLine_c1 : Sound Try.prog 68 run_i_IsOnLine_c1 := by
  refine sound_of de_b SO_i_IsOnLine_c1 (by kernel_rfl) Try.func68 Try.ntmps68 rfl (by kernel_rfl) ?_
  intro W pvs avs rs hargs hrun
  unfold run_i_IsOnLine_c1 at hrun
  split at hrun
  · simp only [Option.some.injEq, Prod.mk.injEq] at hrun
    obtain ⟨hp, rfl⟩ := hrun
    rename_i c0 c10 c11 c20 c21 c22
    exact ⟨_, _, _, hargs, rfl, (eq_i_IsOnLine_c1 c0 (c10, c11) (c20, c21, c22)).trans (tot_i_IsOnLine_c1 c0 (c10, c11) (c20, c21, c22))⟩
  · cases hrun

def S_i_isOn : Sums := ⟨tblS [], tblM []⟩
theorem SO_i_isOn : SumsOK Try.prog S_i_isOn := ⟨tblS_ok True.intro, tblM_ok True.intro⟩
def Fo_i_isOn (p : Int) (a : Int × Int) (l : Int × Int × Int) : Option (Bool) :=
  (if (!(p == 0)) = true then some (((wI ((wI ((wI (l.1 * a.1)) + (wI (l.2.1 * a.2)))) + l.2.2)).tmod p) == 0) else none)
theorem eq_i_isOn (p : Int) (a : Int × Int) (l : Int × Int × Int) : execT Try.prog S_i_isOn 69 24 (fun _ => 1000000) dec_b [.v (.int .i64 p), .v (.agg ⟨[.int .i64 a.1, .int .i64 a.2]⟩), .v (.agg ⟨[.int .i64 l.1, .int .i64 l.2.1, .int .i64 l.2.2]⟩)] = Fo_i_isOn p a l := by
  kernel_rfl
def i_isOn (p : Int) (a : Int × Int) (l : Int × Int × Int) : Bool :=
  ((wrap64 ((wrap64 ((wrap64 (l.1 * a.1)) + (wrap64 (l.2.1 * a.2)))) + l.2.2)).tmod p) == 0
theorem tot_i_isOn (p : Int) (a : Int × Int) (l : Int × Int × Int) (hp : (prB p) = true) : Fo_i_isOn p a l = some (i_isOn p a l) := by
  try have h0 := prB_ne hp
  unfold Fo_i_isOn i_isOn
  (try simp only [wI_eq])
  repeat' (first | with_reducible rfl | with_reducible refine chk_opt hp ?_ | with_reducible refine chk_opt h0 ?_ | refine chk_opt (and_all hp fun _ => hp) ?_ | refine chk_opt (and_all hp fun _ => rfl) ?_ | refine ite_opt (fun _ => ?_) (fun _ => ?_) | rfl)
def run_i_isOn : List PV → Option (Bool × List TR)
  | [.v (.int .i64 p), .v (.agg ⟨[.int .i64 a0, .int .i64 a1]⟩), .v (.agg ⟨[.int .i64 l0, .int .i64 l1, .int .i64 l2]⟩)] => some (prB p, enc_b (i_isOn p (a0, a1) (l0, l1, l2)))
  | _ => none
theorem sound_i_isOn : Sound Try.prog 69 run_i_isOn := by
  refine sound_of de_b SO_i_isOn (by kernel_rfl) Try.func69 Try.ntmps69 rfl (by kernel_rfl) ?_
  intro W pvs avs rs hargs hrun
  unfold run_i_isOn at hrun
  split at hrun
  · simp only [Option.some.injEq, Prod.mk.injEq] at hrun
    obtain ⟨hp, rfl⟩ := hrun
    rename_i p a0 a1 l0 l1 l2
    exact ⟨_, _, _, hargs, rfl, (eq_i_isOn p (a0, a1) (l0, l1, l2)).trans (tot_i_isOn p (a0, a1) (l0, l1, l2) hp)⟩
  · cases hrun

def S_i_IsOnLine : Sums := ⟨tblS [(54, run_i_asked), (68, run_i_IsOnLine_c1), (69, run_i_isOn)], tblM []⟩
theorem SO_i_IsOnLine : SumsOK Try.prog S_i_IsOnLine := ⟨tblS_ok ⟨⟨Try.call54, sound_i_asked⟩, ⟨Try.call68, sound_i_IsOnLine_c1⟩, ⟨Try.call69, sound_i_isOn⟩, True.intro⟩, tblM_ok True.intro⟩
def Fo_i_IsOnLine (p : Int) (a : Int × Int) (l : Int × Int × Int) : Option (Bool × Int) :=
  (if ((true) || !(i_IsField p)) = true then (if ((i_asked p (true) (i_IsOnLine_c1 p a l)) != 0) = true then some (false, (i_asked p (true) (i_IsOnLine_c1 p a l))) else (if (prB p) = true then some ((i_isOn p a l), 0) else none)) else none)
theorem eq_i_IsOnLine (p : Int) (a : Int × Int) (l : Int × Int × Int) : execT Try.prog S_i_IsOnLine 22 19 (fun _ => 1000000) dec_b_i [.v (.int .i64 p), .v (.agg ⟨[.int .i64 a.1, .int .i64 a.2]⟩), .v (.agg ⟨[.int .i64 l.1, .int .i64 l.2.1, .int .i64 l.2.2]⟩)] = Fo_i_IsOnLine p a l := by
  kernel_rfl
def i_IsOnLine (p : Int) (a : Int × Int) (l : Int × Int × Int) : Bool × Int :=
  (if ((i_asked p (true) (i_IsOnLine_c1 p a l)) != 0) = true then (false, (i_asked p (true) (i_IsOnLine_c1 p a l))) else ((i_isOn p a l), 0))
theorem tot_i_IsOnLine (p : Int) (a : Int × Int) (l : Int × Int × Int) : Fo_i_IsOnLine p a l = some (i_IsOnLine p a l) := by
  unfold Fo_i_IsOnLine i_IsOnLine
  (try simp only [wI_eq])
  repeat' (first | with_reducible rfl | refine chk_opt (by first | with_reducible rfl | exact Bool.true_or _ | (with_reducible exact asked_prB ‹_›) | (with_reducible exact asked_prB0 ‹_›) | exact mk_ok (by (first | (with_reducible assumption) | (with_reducible exact asked_prB ‹_›) | (with_reducible exact asked_prB0 ‹_›))) | exact and_all (by (first | (with_reducible assumption) | (with_reducible exact asked_prB ‹_›) | (with_reducible exact asked_prB0 ‹_›))) (fun _ => rfl) | exact and_all (by (first | (with_reducible assumption) | (with_reducible exact asked_prB ‹_›) | (with_reducible exact asked_prB0 ‹_›))) (fun _ => by (first | (with_reducible assumption) | (with_reducible exact asked_prB ‹_›) | (with_reducible exact asked_prB0 ‹_›))) | exact and3 (by (first | (with_reducible assumption) | (with_reducible exact asked_prB ‹_›) | (with_reducible exact asked_prB0 ‹_›))) (by (first | (with_reducible assumption) | (with_reducible exact asked_prB ‹_›) | (with_reducible exact asked_prB0 ‹_›))) (by (first | (with_reducible assumption) | (with_reducible exact asked_prB ‹_›) | (with_reducible exact asked_prB0 ‹_›))) | exact and_two (by (first | (with_reducible assumption) | (with_reducible exact asked_prB ‹_›) | (with_reducible exact asked_prB0 ‹_›))) rfl | rfl) ?_ | refine ite_opt (fun _ => ?_) (fun _ => ?_) | rfl)
def run_i_IsOnLine : List PV → Option (Bool × List TR)
  | [.v (.int .i64 p), .v (.agg ⟨[.int .i64 a0, .int .i64 a1]⟩), .v (.agg ⟨[.int .i64 l0, .int .i64 l1, .int .i64 l2]⟩)] => some (true, enc_b_i (i_IsOnLine p (a0, a1) (l0, l1, l2)))
  | _ => none
theorem sound_i_IsOnLine : Sound Try.prog 22 run_i_IsOnLine := by
  refine sound_of de_b_i SO_i_IsOnLine (by kernel_rfl) Try.func22 Try.ntmps22 rfl (by kernel_rfl) ?_
  intro W pvs avs rs hargs hrun
  unfold run_i_IsOnLine at hrun
  split at hrun
  · simp only [Option.some.injEq, Prod.mk.injEq] at hrun
    obtain ⟨hp, rfl⟩ := hrun
    rename_i p a0 a1 l0 l1 l2
    exact ⟨_, _, _, hargs, rfl, (eq_i_IsOnLine p (a0, a1) (l0, l1, l2)).trans (tot_i_IsOnLine p (a0, a1) (l0, l1, l2))⟩
  · cases hrun


end

end Go.Proofs.Ytpffcfiojjgnlaa
