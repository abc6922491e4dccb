import Derived.Test.YtfclaacaphpoaaaFc
import Derived.Test.YtfclaacaphpoaaaProg
set_option linter.unusedSimpArgs false
set_option linter.unusedVariables false
namespace Go.Proofs.Ytfclaacaphpoaaa
open Go.RowKit
noncomputable section
def S_i_PolarOf_c1 : Sums := ⟨tblS [(43, run_i_isConic), (44, run_i_isPoint)], tblM []⟩
theorem SO_i_PolarOf_c1 : SumsOK Try.prog S_i_PolarOf_c1 := ⟨tblS_ok ⟨⟨Try.call43, sound_i_isConic⟩, ⟨Try.call44, sound_i_isPoint⟩, True.intro⟩, tblM_ok True.intro⟩
def Fo_i_PolarOf_c1 (c0 : Int) (c1 : Int × Int × Int × Int × Int × Int) (c2 : Int × Int) : Option (Bool) :=
  (if (i_isConic c0 c1) = true then some (i_isPoint c0 c2) else some false)
theorem eq_i_PolarOf_c1 (c0 : Int) (c1 : Int × Int × Int × Int × Int × Int) (c2 : Int × Int) : execT Try.prog S_i_PolarOf_c1 73 12 (fun _ => 1000000) dec_b [.p [.int .i64 c0], .p [.int .i64 c1.1, .int .i64 c1.2.1, .int .i64 c1.2.2.1, .int .i64 c1.2.2.2.1, .int .i64 c1.2.2.2.2.1, .int .i64 c1.2.2.2.2.2], .p [.int .i64 c2.1, .int .i64 c2.2]] = Fo_i_PolarOf_c1 c0 c1 c2 := by
  kernel_rfl
def i_PolarOf_c1 (c0 : Int) (c1 : Int × Int × Int × Int × Int × Int) (c2 : Int × Int) : Bool :=
  (if (i_isConic c0 c1) = true then (i_isPoint c0 c2) else false)
theorem tot_i_PolarOf_c1 (c0 : Int) (c1 : Int × Int × Int × Int × Int × Int) (c2 : Int × Int) : Fo_i_PolarOf_c1 c0 c1 c2 = some (i_PolarOf_c1 c0 c1 c2) := by
  unfold Fo_i_PolarOf_c1 i_PolarOf_c1
  (try simp only [wI_eq])
  repeat' (first | with_reducible rfl | refine ite_opt (fun _ => ?_) (fun _ => ?_) | rfl)
def run_i_PolarOf_c1 : List PV → Option (Bool × List TR)
  | [.p [.int .i64 c0], .p [.int .i64 c10, .int .i64 c11, .int .i64 c12, .int .i64 c13, .int .i64 c14, .int .i64 c15], .p [.int .i64 c20, .int .i64 c21]] => some (true, enc_b (i_PolarOf_c1 c0 (c10, c11, c12, c13, c14, c15) (c20, c21)))
  | _ => none
theorem sound_i_PolarOf_c1 : Sound Try.prog 73 run_i_PolarOf_c1 := by
  refine sound_of de_b SO_i_PolarOf_c1 (by kernel_rfl) Try.func73 Try.ntmps73 rfl (by kernel_rfl) ?_
  intro W pvs avs rs hargs hrun
  unfold run_i_PolarOf_c1 at hrun
  split at hrun
  · simp only [Option.some.injEq, Prod.mk.injEq] at hrun
    obtain ⟨hp, rfl⟩ := hrun
    rename_i c0 c10 c11 c12 c13 c14 c15 c20 c21
    exact ⟨_, _, _, hargs, rfl, (eq_i_PolarOf_c1 c0 (c10, c11, c12, c13, c14, c15) (c20, c21)).trans (tot_i_PolarOf_c1 c0 (c10, c11, c12, c13, c14, c15) (c20, c21))⟩
  · cases hrun

def S_i_PolarOf : Sums := ⟨tblS [(41, run_i_asked), (73, run_i_PolarOf_c1), (47, run_i_polarLine)], tblM []⟩
theorem SO_i_PolarOf : SumsOK Try.prog S_i_PolarOf := ⟨tblS_ok ⟨⟨Try.call41, sound_i_asked⟩, ⟨Try.call73, sound_i_PolarOf_c1⟩, ⟨Try.call47, sound_i_polarLine⟩, True.intro⟩, tblM_ok True.intro⟩
def Fo_i_PolarOf (p : Int) (k : Int × Int × Int × Int × Int × Int) (a : Int × Int) : Option ((Int × Int × Int) × Int) :=
  (if ((true) || !(i_IsField p)) = true then (if ((i_asked p (true) (i_PolarOf_c1 p k a)) != 0) = true then some ((0, 0, 0), (i_asked p (true) (i_PolarOf_c1 p k a))) else (if (prB p) = true then (if (!((i_polarLine p k a).2)) = true then some ((0, 0, 0), 5) else some (((i_polarLine p k a).1), 0)) else none)) else none)
theorem eq_i_PolarOf (p : Int) (k : Int × Int × Int × Int × Int × Int) (a : Int × Int) : execT Try.prog S_i_PolarOf 22 29 (fun _ => 1000000) dec_a3_i [.v (.int .i64 p), .v (.agg ⟨[.int .i64 k.1, .int .i64 k.2.1, .int .i64 k.2.2.1, .int .i64 k.2.2.2.1, .int .i64 k.2.2.2.2.1, .int .i64 k.2.2.2.2.2]⟩), .v (.agg ⟨[.int .i64 a.1, .int .i64 a.2]⟩)] = Fo_i_PolarOf p k a := by
  kernel_rfl
def i_PolarOf (p : Int) (k : Int × Int × Int × Int × Int × Int) (a : Int × Int) : (Int × Int × Int) × Int :=
  (if ((i_asked p (true) (i_PolarOf_c1 p k a)) != 0) = true then ((0, 0, 0), (i_asked p (true) (i_PolarOf_c1 p k a))) else (if (!((i_polarLine p k a).2)) = true then ((0, 0, 0), 5) else (((i_polarLine p k a).1), 0)))
theorem tot_i_PolarOf (p : Int) (k : Int × Int × Int × Int × Int × Int) (a : Int × Int) : Fo_i_PolarOf p k a = some (i_PolarOf p k a) := by
  unfold Fo_i_PolarOf i_PolarOf
  (try simp only [wI_eq])
  repeat' (first | with_reducible rfl | refine chk_opt (by first | with_reducible rfl | exact Bool.true_or _ | (with_reducible exact asked_prB ‹_›) | (with_reducible exact asked_prB0 ‹_›) | exact mk_ok (by (first | (with_reducible assumption) | (with_reducible exact asked_prB ‹_›) | (with_reducible exact asked_prB0 ‹_›))) | exact and_all (by (first | (with_reducible assumption) | (with_reducible exact asked_prB ‹_›) | (with_reducible exact asked_prB0 ‹_›))) (fun _ => rfl) | exact and_all (by (first | (with_reducible assumption) | (with_reducible exact asked_prB ‹_›) | (with_reducible exact asked_prB0 ‹_›))) (fun _ => by (first | (with_reducible assumption) | (with_reducible exact asked_prB ‹_›) | (with_reducible exact asked_prB0 ‹_›))) | exact and3 (by (first | (with_reducible assumption) | (with_reducible exact asked_prB ‹_›) | (with_reducible exact asked_prB0 ‹_›))) (by (first | (with_reducible assumption) | (with_reducible exact asked_prB ‹_›) | (with_reducible exact asked_prB0 ‹_›))) (by (first | (with_reducible assumption) | (with_reducible exact asked_prB ‹_›) | (with_reducible exact asked_prB0 ‹_›))) | exact and_two (by (first | (with_reducible assumption) | (with_reducible exact asked_prB ‹_›) | (with_reducible exact asked_prB0 ‹_›))) rfl | rfl) ?_ | refine ite_opt (fun _ => ?_) (fun _ => ?_) | rfl)
def run_i_PolarOf : List PV → Option (Bool × List TR)
  | [.v (.int .i64 p), .v (.agg ⟨[.int .i64 k0, .int .i64 k1, .int .i64 k2, .int .i64 k3, .int .i64 k4, .int .i64 k5]⟩), .v (.agg ⟨[.int .i64 a0, .int .i64 a1]⟩)] => some (true, enc_a3_i (i_PolarOf p (k0, k1, k2, k3, k4, k5) (a0, a1)))
  | _ => none
theorem sound_i_PolarOf : Sound Try.prog 22 run_i_PolarOf := by
  refine sound_of de_a3_i SO_i_PolarOf (by kernel_rfl) Try.func22 Try.ntmps22 rfl (by kernel_rfl) ?_
  intro W pvs avs rs hargs hrun
  unfold run_i_PolarOf at hrun
  split at hrun
  · simp only [Option.some.injEq, Prod.mk.injEq] at hrun
    obtain ⟨hp, rfl⟩ := hrun
    rename_i p k0 k1 k2 k3 k4 k5 a0 a1
    exact ⟨_, _, _, hargs, rfl, (eq_i_PolarOf p (k0, k1, k2, k3, k4, k5) (a0, a1)).trans (tot_i_PolarOf p (k0, k1, k2, k3, k4, k5) (a0, a1))⟩
  · cases hrun

def S_i_TangentOf_c1 : Sums := ⟨tblS [(43, run_i_isConic), (44, run_i_isPoint)], tblM []⟩
theorem SO_i_TangentOf_c1 : SumsOK Try.prog S_i_TangentOf_c1 := ⟨tblS_ok ⟨⟨Try.call43, sound_i_isConic⟩, ⟨Try.call44, sound_i_isPoint⟩, True.intro⟩, tblM_ok True.intro⟩
def Fo_i_TangentOf_c1 (c0 : Int) (c1 : Int × Int × Int × Int × Int × Int) (c2 : Int × Int) : Option (Bool) :=
  (if (i_isConic c0 c1) = true then some (i_isPoint c0 c2) else some false)
theorem eq_i_TangentOf_c1 (c0 : Int) (c1 : Int × Int × Int × Int × Int × Int) (c2 : Int × Int) : execT Try.prog S_i_TangentOf_c1 42 12 (fun _ => 1000000) dec_b [.p [.int .i64 c0], .p [.int .i64 c1.1, .int .i64 c1.2.1, .int .i64 c1.2.2.1, .int .i64 c1.2.2.2.1, .int .i64 c1.2.2.2.2.1, .int .i64 c1.2.2.2.2.2], .p [.int .i64 c2.1, .int .i64 c2.2]] = Fo_i_TangentOf_c1 c0 c1 c2 := by
  kernel_rfl
def i_TangentOf_c1 (c0 : Int) (c1 : Int × Int × Int × Int × Int × Int) (c2 : Int × Int) : Bool :=
  (if (i_isConic c0 c1) = true then (i_isPoint c0 c2) else false)
theorem tot_i_TangentOf_c1 (c0 : Int) (c1 : Int × Int × Int × Int × Int × Int) (c2 : Int × Int) : Fo_i_TangentOf_c1 c0 c1 c2 = some (i_TangentOf_c1 c0 c1 c2) := by
  unfold Fo_i_TangentOf_c1 i_TangentOf_c1
  (try simp only [wI_eq])
  repeat' (first | with_reducible rfl | refine ite_opt (fun _ => ?_) (fun _ => ?_) | rfl)
def run_i_TangentOf_c1 : List PV → Option (Bool × List TR)
  | [.p [.int .i64 c0], .p [.int .i64 c10, .int .i64 c11, .int .i64 c12, .int .i64 c13, .int .i64 c14, .int .i64 c15], .p [.int .i64 c20, .int .i64 c21]] => some (true, enc_b (i_TangentOf_c1 c0 (c10, c11, c12, c13, c14, c15) (c20, c21)))
  | _ => none
theorem sound_i_TangentOf_c1 : Sound Try.prog 42 run_i_TangentOf_c1 := by
  refine sound_of de_b SO_i_TangentOf_c1 (by kernel_rfl) Try.func42 Try.ntmps42 rfl (by kernel_rfl) ?_
  intro W pvs avs rs hargs hrun
  unfold run_i_TangentOf_c1 at hrun
  split at hrun
  · simp only [Option.some.injEq, Prod.mk.injEq] at hrun
    obtain ⟨hp, rfl⟩ := hrun
    rename_i c0 c10 c11 c12 c13 c14 c15 c20 c21
    exact ⟨_, _, _, hargs, rfl, (eq_i_TangentOf_c1 c0 (c10, c11, c12, c13, c14, c15) (c20, c21)).trans (tot_i_TangentOf_c1 c0 (c10, c11, c12, c13, c14, c15) (c20, c21))⟩
  · cases hrun

def S_i_TangentOf : Sums := ⟨tblS [(41, run_i_asked), (42, run_i_TangentOf_c1), (45, run_i_determinant), (46, run_i_isOnConic), (47, run_i_polarLine)], tblM []⟩
theorem SO_i_TangentOf : SumsOK Try.prog S_i_TangentOf := ⟨tblS_ok ⟨⟨Try.call41, sound_i_asked⟩, ⟨Try.call42, sound_i_TangentOf_c1⟩, ⟨Try.call45, sound_i_determinant⟩, ⟨Try.call46, sound_i_isOnConic⟩, ⟨Try.call47, sound_i_polarLine⟩, True.intro⟩, tblM_ok True.intro⟩
def Fo_i_TangentOf (p : Int) (k : Int × Int × Int × Int × Int × Int) (a : Int × Int) : Option ((Int × Int × Int) × Int) :=
  (if ((true) || !(i_IsField p)) = true then (if ((i_asked p (true) (i_TangentOf_c1 p k a)) != 0) = true then some ((0, 0, 0), (i_asked p (true) (i_TangentOf_c1 p k a))) else (if (prB p) = true then (if ((i_determinant p k) == 0) = true then some ((0, 0, 0), 5) else (if (prB p) = true then (if (!(i_isOnConic p a k)) = true then some ((0, 0, 0), 5) else (if (prB p) = true then (if (!((i_polarLine p k a).2)) = true then some ((0, 0, 0), 5) else some (((i_polarLine p k a).1), 0)) else none)) else none)) else none)) else none)
theorem eq_i_TangentOf (p : Int) (k : Int × Int × Int × Int × Int × Int) (a : Int × Int) : execT Try.prog S_i_TangentOf 7 41 (fun _ => 1000000) dec_a3_i [.v (.int .i64 p), .v (.agg ⟨[.int .i64 k.1, .int .i64 k.2.1, .int .i64 k.2.2.1, .int .i64 k.2.2.2.1, .int .i64 k.2.2.2.2.1, .int .i64 k.2.2.2.2.2]⟩), .v (.agg ⟨[.int .i64 a.1, .int .i64 a.2]⟩)] = Fo_i_TangentOf p k a := by
  kernel_rfl
def i_TangentOf (p : Int) (k : Int × Int × Int × Int × Int × Int) (a : Int × Int) : (Int × Int × Int) × Int :=
  (if ((i_asked p (true) (i_TangentOf_c1 p k a)) != 0) = true then ((0, 0, 0), (i_asked p (true) (i_TangentOf_c1 p k a))) else (if ((i_determinant p k) == 0) = true then ((0, 0, 0), 5) else (if (!(i_isOnConic p a k)) = true then ((0, 0, 0), 5) else (if (!((i_polarLine p k a).2)) = true then ((0, 0, 0), 5) else (((i_polarLine p k a).1), 0)))))
theorem tot_i_TangentOf (p : Int) (k : Int × Int × Int × Int × Int × Int) (a : Int × Int) : Fo_i_TangentOf p k a = some (i_TangentOf p k a) := by
  unfold Fo_i_TangentOf i_TangentOf
  (try simp only [wI_eq])
  repeat' (first | with_reducible rfl | refine chk_opt (by first | with_reducible rfl | exact Bool.true_or _ | (with_reducible exact asked_prB ‹_›) | (with_reducible exact asked_prB0 ‹_›) | exact mk_ok (by (first | (with_reducible assumption) | (with_reducible exact asked_prB ‹_›) | (with_reducible exact asked_prB0 ‹_›))) | exact and_all (by (first | (with_reducible assumption) | (with_reducible exact asked_prB ‹_›) | (with_reducible exact asked_prB0 ‹_›))) (fun _ => rfl) | exact and_all (by (first | (with_reducible assumption) | (with_reducible exact asked_prB ‹_›) | (with_reducible exact asked_prB0 ‹_›))) (fun _ => by (first | (with_reducible assumption) | (with_reducible exact asked_prB ‹_›) | (with_reducible exact asked_prB0 ‹_›))) | exact and3 (by (first | (with_reducible assumption) | (with_reducible exact asked_prB ‹_›) | (with_reducible exact asked_prB0 ‹_›))) (by (first | (with_reducible assumption) | (with_reducible exact asked_prB ‹_›) | (with_reducible exact asked_prB0 ‹_›))) (by (first | (with_reducible assumption) | (with_reducible exact asked_prB ‹_›) | (with_reducible exact asked_prB0 ‹_›))) | exact and_two (by (first | (with_reducible assumption) | (with_reducible exact asked_prB ‹_›) | (with_reducible exact asked_prB0 ‹_›))) rfl | rfl) ?_ | refine ite_opt (fun _ => ?_) (fun _ => ?_) | rfl)
def run_i_TangentOf : List PV → Option (Bool × List TR)
  | [.v (.int .i64 p), .v (.agg ⟨[.int .i64 k0, .int .i64 k1, .int .i64 k2, .int .i64 k3, .int .i64 k4, .int .i64 k5]⟩), .v (.agg ⟨[.int .i64 a0, .int .i64 a1]⟩)] => some (true, enc_a3_i (i_TangentOf p (k0, k1, k2, k3, k4, k5) (a0, a1)))
  | _ => none
theorem sound_i_TangentOf : Sound Try.prog 7 run_i_TangentOf := by
  refine sound_of de_a3_i SO_i_TangentOf (by kernel_rfl) Try.func7 Try.ntmps7 rfl (by kernel_rfl) ?_
  intro W pvs avs rs hargs hrun
  unfold run_i_TangentOf at hrun
  split at hrun
  · simp only [Option.some.injEq, Prod.mk.injEq] at hrun
    obtain ⟨hp, rfl⟩ := hrun
    rename_i p k0 k1 k2 k3 k4 k5 a0 a1
    exact ⟨_, _, _, hargs, rfl, (eq_i_TangentOf p (k0, k1, k2, k3, k4, k5) (a0, a1)).trans (tot_i_TangentOf p (k0, k1, k2, k3, k4, k5) (a0, a1))⟩
  · cases hrun

def S_i_CentreOf_c1 : Sums := ⟨tblS [(43, run_i_isConic)], tblM []⟩
theorem SO_i_CentreOf_c1 : SumsOK Try.prog S_i_CentreOf_c1 := ⟨tblS_ok ⟨⟨Try.call43, sound_i_isConic⟩, True.intro⟩, tblM_ok True.intro⟩
def Fo_i_CentreOf_c1 (c0 : Int) (c1 : Int × Int × Int × Int × Int × Int) : Option (Bool) :=
  some (i_isConic c0 c1)
theorem eq_i_CentreOf_c1 (c0 : Int) (c1 : Int × Int × Int × Int × Int × Int) : execT Try.prog S_i_CentreOf_c1 53 6 (fun _ => 1000000) dec_b [.p [.int .i64 c0], .p [.int .i64 c1.1, .int .i64 c1.2.1, .int .i64 c1.2.2.1, .int .i64 c1.2.2.2.1, .int .i64 c1.2.2.2.2.1, .int .i64 c1.2.2.2.2.2]] = Fo_i_CentreOf_c1 c0 c1 := by
  kernel_rfl
def i_CentreOf_c1 (c0 : Int) (c1 : Int × Int × Int × Int × Int × Int) : Bool :=
  (i_isConic c0 c1)
theorem tot_i_CentreOf_c1 (c0 : Int) (c1 : Int × Int × Int × Int × Int × Int) : Fo_i_CentreOf_c1 c0 c1 = some (i_CentreOf_c1 c0 c1) := by
  unfold Fo_i_CentreOf_c1 i_CentreOf_c1
  (try simp only [wI_eq])
  repeat' (first | with_reducible rfl | refine ite_opt (fun _ => ?_) (fun _ => ?_) | rfl)
def run_i_CentreOf_c1 : List PV → Option (Bool × List TR)
  | [.p [.int .i64 c0], .p [.int .i64 c10, .int .i64 c11, .int .i64 c12, .int .i64 c13, .int .i64 c14, .int .i64 c15]] => some (true, enc_b (i_CentreOf_c1 c0 (c10, c11, c12, c13, c14, c15)))
  | _ => none
theorem sound_i_CentreOf_c1 : Sound Try.prog 53 run_i_CentreOf_c1 := by
  refine sound_of de_b SO_i_CentreOf_c1 (by kernel_rfl) Try.func53 Try.ntmps53 rfl (by kernel_rfl) ?_
  intro W pvs avs rs hargs hrun
  unfold run_i_CentreOf_c1 at hrun
  split at hrun
  · simp only [Option.some.injEq, Prod.mk.injEq] at hrun
    obtain ⟨hp, rfl⟩ := hrun
    rename_i c0 c10 c11 c12 c13 c14 c15
    exact ⟨_, _, _, hargs, rfl, (eq_i_CentreOf_c1 c0 (c10, c11, c12, c13, c14, c15)).trans (tot_i_CentreOf_c1 c0 (c10, c11, c12, c13, c14, c15))⟩
  · cases hrun

def S_i_CentreOf : Sums := ⟨tblS [(41, run_i_asked), (53, run_i_CentreOf_c1), (54, run_i_conicKind), (55, run_i_allPoints), (56, run_i_polar)], tblM []⟩
theorem SO_i_CentreOf : SumsOK Try.prog S_i_CentreOf := ⟨tblS_ok ⟨⟨Try.call41, sound_i_asked⟩, ⟨Try.call53, sound_i_CentreOf_c1⟩, ⟨Try.call54, sound_i_conicKind⟩, ⟨Try.call55, sound_i_allPoints⟩, ⟨Try.call56, sound_i_polar⟩, True.intro⟩, tblM_ok True.intro⟩
def T_i_CentreOf_0 (p : Int) (k : Int × Int × Int × Int × Int × Int) (t25 : Int) : Tab := ⟨[.val (.int .i64 p), .val (.agg ⟨[.int .i64 k.1, .int .i64 k.2.1, .int .i64 k.2.2.1, .int .i64 k.2.2.2.1, .int .i64 k.2.2.2.2.1, .int .i64 k.2.2.2.2.2]⟩), .ptr 8 0, .ptr 12 0, .ptr 16 0, .val (.int .i64 0), .val (.int .i64 (i_asked p (true) (i_CentreOf_c1 p k))), .junk, .junk, .junk, .val (.int .i64 p), .clo 53 [8, 12], .val (.int .i64 (i_asked p (true) (i_CentreOf_c1 p k))), .val (.int .i64 (i_asked p (true) (i_CentreOf_c1 p k))), .val (.bool ((i_asked p (true) (i_CentreOf_c1 p k)) != 0)), .junk, .junk, .val (.int .i64 p), .val (.agg ⟨[.int .i64 k.1, .int .i64 k.2.1, .int .i64 k.2.2.1, .int .i64 k.2.2.2.1, .int .i64 k.2.2.2.2.1, .int .i64 k.2.2.2.2.2]⟩), .val (.int .i64 (i_conicKind p k)), .val (.bool ((i_conicKind p k) == 0)), .junk, .val (.int .i64 p), .row 92, .val (.int .i64 (((i_allPoints p).1 : Nat) : Int)), .val (.int .i64 t25), .junk, .junk, .junk, .junk, .junk, .junk, .junk, .junk, .junk, .junk, .junk, .junk, .junk, .junk, .junk, .junk, .junk, .junk], [(8, .box 2 [.val (.int .i64 p)]), (12, .box 25 [.val (.int .i64 k.1), .val (.int .i64 k.2.1), .val (.int .i64 k.2.2.1), .val (.int .i64 k.2.2.2.1), .val (.int .i64 k.2.2.2.2.1), .val (.int .i64 k.2.2.2.2.2)]), (16, .box 27 [.val (.int .i64 0), .val (.int .i64 0)]), (92, .row 27 2 ((i_allPoints p).1) (.ints ((i_allPoints p).2)))]⟩
def X_i_CentreOf_0 (P : Program) (fu : Nat) (p : Int) (k : Int × Int × Int × Int × Int × Int) (f : Nat) (t25 : Int) : Option ((Int × Int) × Int) := loopK (exec P S_i_CentreOf 44 (fun _ => fu + 100) (Code.sub [1, 1, 1, 0, 1, 0, 0] (bodyF P 10))) f (T_i_CentreOf_0 p k t25) (kBlock 0 (kSeq (fun zs9 => exec P S_i_CentreOf 44 (fun _ => fu + 100) (Code.sub [1, 1, 1, 1] (bodyF P 10)) zs9 (finT P 10 dec_a2_i)) (finT P 10 dec_a2_i)))
def B_i_CentreOf_0 (p : Int) (k : Int × Int × Int × Int × Int × Int) (rec0 : Int → Option ((Int × Int) × Int)) (t25 : Int) : Option ((Int × Int) × Int) :=
  (if (decide (t25 < (((i_allPoints p).1 : Nat) : Int))) = true then (if (decide (0 ≤ t25) && decide (t25 < (((i_allPoints p).1 : Nat) : Int))) = true then (if (Nat.ble (t25.toNat * 2 + 2) (((i_allPoints p).2).length)) = true then (if (prB p) = true then (if (((i_polar p k (((i_allPoints p).2).getD (t25.toNat * 2 + 0) 0, ((i_allPoints p).2).getD (t25.toNat * 2 + 1) 0)).1) == 0) = true then (if (((i_polar p k (((i_allPoints p).2).getD (t25.toNat * 2 + 0) 0, ((i_allPoints p).2).getD (t25.toNat * 2 + 1) 0)).2.1) == 0) = true then some ((((i_allPoints p).2).getD (t25.toNat * 2 + 0) 0, ((i_allPoints p).2).getD (t25.toNat * 2 + 1) 0), 0) else rec0 (wI (t25 + 1))) else rec0 (wI (t25 + 1))) else none) else none) else none) else some ((0, 0), 5))
def L_i_CentreOf_0 (fu : Nat) (p : Int) (k : Int × Int × Int × Int × Int × Int) : Nat → Int → Option ((Int × Int) × Int)
  | 0, _ => none
  | f + 1, t25 => B_i_CentreOf_0 p k (L_i_CentreOf_0 fu p k f) t25
theorem loop_i_CentreOf_0 (fu : Nat) (p : Int) (k : Int × Int × Int × Int × Int × Int) : ∀ (f : Nat) (t25 : Int), X_i_CentreOf_0 Try.prog fu p k f t25 = L_i_CentreOf_0 fu p k f t25 := by
  intro f
  induction f with
  | zero => intros; rfl
  | succ f ih =>
    intro t25
    have h1 : X_i_CentreOf_0 Try.prog fu p k (f + 1) t25 = B_i_CentreOf_0 p k (X_i_CentreOf_0 Try.prog fu p k f) t25 := by kernel_rfl
    have h2 : X_i_CentreOf_0 Try.prog fu p k f = L_i_CentreOf_0 fu p k f := by funext t25; exact ih t25
    rw [h1, h2]
    rfl
def G_i_CentreOf (p : Int) (k : Int × Int × Int × Int × Int × Int) (lo0 : Int → Option ((Int × Int) × Int)) : Option ((Int × Int) × Int) :=
  (if ((true) || !(i_IsField p)) = true then (if ((i_asked p (true) (i_CentreOf_c1 p k)) != 0) = true then some ((0, 0), (i_asked p (true) (i_CentreOf_c1 p k))) else (if (prB p) = true then (if ((i_conicKind p k) == 0) = true then some ((0, 0), 5) else (if (prB p) = true then lo0 0 else none)) else none)) else none)
def Fo_i_CentreOf (fu : Nat) (p : Int) (k : Int × Int × Int × Int × Int × Int) : Option ((Int × Int) × Int) := G_i_CentreOf p k (L_i_CentreOf_0 fu p k (fu + 100))
theorem eqg_i_CentreOf (fu : Nat) (p : Int) (k : Int × Int × Int × Int × Int × Int) : execT Try.prog S_i_CentreOf 10 44 (fun _ => fu + 100) dec_a2_i [.v (.int .i64 p), .v (.agg ⟨[.int .i64 k.1, .int .i64 k.2.1, .int .i64 k.2.2.1, .int .i64 k.2.2.2.1, .int .i64 k.2.2.2.2.1, .int .i64 k.2.2.2.2.2]⟩)] = G_i_CentreOf p k (L_i_CentreOf_0 fu p k (fu + 100)) := by
  have h1 : execT Try.prog S_i_CentreOf 10 44 (fun _ => fu + 100) dec_a2_i [.v (.int .i64 p), .v (.agg ⟨[.int .i64 k.1, .int .i64 k.2.1, .int .i64 k.2.2.1, .int .i64 k.2.2.2.1, .int .i64 k.2.2.2.2.1, .int .i64 k.2.2.2.2.2]⟩)] = G_i_CentreOf p k (X_i_CentreOf_0 Try.prog fu p k (fu + 100)) := by kernel_rfl
  have c0 : X_i_CentreOf_0 Try.prog fu p k (fu + 100) = L_i_CentreOf_0 fu p k (fu + 100) := by funext t25; exact loop_i_CentreOf_0 fu p k (fu + 100) t25
  rw [h1, c0]
theorem eq_i_CentreOf (fu : Nat) (p : Int) (k : Int × Int × Int × Int × Int × Int) : execT Try.prog S_i_CentreOf 10 44 (fun _ => fu + 100) dec_a2_i [.v (.int .i64 p), .v (.agg ⟨[.int .i64 k.1, .int .i64 k.2.1, .int .i64 k.2.2.1, .int .i64 k.2.2.2.1, .int .i64 k.2.2.2.2.1, .int .i64 k.2.2.2.2.2]⟩)] = Fo_i_CentreOf fu p k := eqg_i_CentreOf fu p k
def V_i_CentreOf_0 (p : Int) (k : Int × Int × Int × Int × Int × Int) : Int → (Int × Int) × Int := fun _ => ((((pts p).findSome? fun zz => if (((i_polar p k zz).1 == 0) && ((i_polar p k zz).2.1 == 0)) = true then some (zz, (0 : Int)) else none)).getD ((0, 0), 5))
theorem lo0_i_CentreOf (p : Int) (k_ : P6) (hp : prB p = true) {F : Nat} (hF : 993 < F) : L_i_CentreOf_0 1000000 p k_ F 0 = some ((((pts p).findSome? fun zz => if (((i_polar p k_ zz).1 == 0) && ((i_polar p k_ zz).2.1 == 0)) = true then some ((zz, (0 : Int))) else none)).getD ((0, 0), 5)) := by
  have hlen : (pts p).length ≤ 993 := Nat.le_trans (pts_len hp) (by omega)
  have h := seek (L := fun f i => L_i_CentreOf_0 1000000 p k_ f i) (n := (pts p).length) (F := F) (q := fun k => if (((i_polar p k_ (R2 (flat2 (pts p)) k)).1 == 0) && ((i_polar p k_ (R2 (flat2 (pts p)) k)).2.1 == 0)) = true then some (((R2 (flat2 (pts p)) k), (0 : Int))) else none) (e := ((0, 0), 5)) (by omega)
    (fun f k hk => by
      show B_i_CentreOf_0 p k_ (L_i_CentreOf_0 1000000 p k_ f) (k : Int) = _
      unfold B_i_CentreOf_0
      have e0 : decide (0 ≤ (k : Int)) = true := by simp
      have e1 := cnd hk
      have e3 : (k : Int).toNat = k := Int.toNat_natCast k
      have e4 := row2_ok (flat2_len _) hk
      rw [show i_allPoints p = ((pts p).length, flat2 (pts p)) from rfl]
      simp only [e0, e1, e3, e4, hp, Bool.and_true, Bool.true_and, if_true, wrap_add1 hk (by omega)]
      have hr : ((flat2 (pts p)).getD (k * 2 + 0) 0, (flat2 (pts p)).getD (k * 2 + 1) 0) = R2 (flat2 (pts p)) k := rfl
      try simp only [hr]
      generalize (((i_polar p k_ (R2 (flat2 (pts p)) k)).1 == 0)) = c0
      generalize (((i_polar p k_ (R2 (flat2 (pts p)) k)).2.1 == 0)) = c1
      cases c0 <;> cases c1 <;> rfl)
    (fun f => by
      show B_i_CentreOf_0 p k_ (L_i_CentreOf_0 1000000 p k_ f) (((pts p).length : Nat) : Int) = _
      unfold B_i_CentreOf_0
      rw [show i_allPoints p = ((pts p).length, flat2 (pts p)) from rfl]
      rw [if_neg (by simp)])
  have h2 := find_row (pts p) (0, 0) (fun zz => if (((i_polar p k_ zz).1 == 0) && ((i_polar p k_ zz).2.1 == 0)) = true then some ((zz, (0 : Int))) else none)
  rw [← h2]
  simp only [← R2_flat]
  exact h

def i_CentreOf (p : Int) (k : Int × Int × Int × Int × Int × Int) : (Int × Int) × Int :=
  (if ((i_asked p (true) (i_CentreOf_c1 p k)) != 0) = true then ((0, 0), (i_asked p (true) (i_CentreOf_c1 p k))) else (if ((i_conicKind p k) == 0) = true then ((0, 0), 5) else V_i_CentreOf_0 p k 0))
theorem tot_i_CentreOf (p : Int) (k : Int × Int × Int × Int × Int × Int) : Fo_i_CentreOf 1000000 p k = some (i_CentreOf p k) := by
  unfold Fo_i_CentreOf G_i_CentreOf i_CentreOf
  (try simp only [wI_eq])
  repeat' (first | with_reducible rfl | refine chk_opt (by first | with_reducible rfl | exact Bool.true_or _ | (with_reducible exact asked_prB ‹_›) | (with_reducible exact asked_prB0 ‹_›) | exact mk_ok (by (first | (with_reducible assumption) | (with_reducible exact asked_prB ‹_›) | (with_reducible exact asked_prB0 ‹_›))) | exact and_all (by (first | (with_reducible assumption) | (with_reducible exact asked_prB ‹_›) | (with_reducible exact asked_prB0 ‹_›))) (fun _ => rfl) | exact and_all (by (first | (with_reducible assumption) | (with_reducible exact asked_prB ‹_›) | (with_reducible exact asked_prB0 ‹_›))) (fun _ => by (first | (with_reducible assumption) | (with_reducible exact asked_prB ‹_›) | (with_reducible exact asked_prB0 ‹_›))) | exact and3 (by (first | (with_reducible assumption) | (with_reducible exact asked_prB ‹_›) | (with_reducible exact asked_prB0 ‹_›))) (by (first | (with_reducible assumption) | (with_reducible exact asked_prB ‹_›) | (with_reducible exact asked_prB0 ‹_›))) (by (first | (with_reducible assumption) | (with_reducible exact asked_prB ‹_›) | (with_reducible exact asked_prB0 ‹_›))) | exact and_two (by (first | (with_reducible assumption) | (with_reducible exact asked_prB ‹_›) | (with_reducible exact asked_prB0 ‹_›))) rfl | rfl) ?_ | refine ite_opt (fun _ => ?_) (fun _ => ?_) | exact lo0_i_CentreOf _ _ (by (first | (with_reducible assumption) | (with_reducible exact asked_prB ‹_›) | (with_reducible exact asked_prB0 ‹_›))) (by omega) | rfl)
def run_i_CentreOf : List PV → Option (Bool × List TR)
  | [.v (.int .i64 p), .v (.agg ⟨[.int .i64 k0, .int .i64 k1, .int .i64 k2, .int .i64 k3, .int .i64 k4, .int .i64 k5]⟩)] => some (true, enc_a2_i (i_CentreOf p (k0, k1, k2, k3, k4, k5)))
  | _ => none
theorem sound_i_CentreOf : Sound Try.prog 10 run_i_CentreOf := by
  refine sound_of de_a2_i SO_i_CentreOf (by kernel_rfl) Try.func10 Try.ntmps10 rfl (by kernel_rfl) ?_
  intro W pvs avs rs hargs hrun
  unfold run_i_CentreOf at hrun
  split at hrun
  · simp only [Option.some.injEq, Prod.mk.injEq] at hrun
    obtain ⟨hp, rfl⟩ := hrun
    rename_i p k0 k1 k2 k3 k4 k5
    exact ⟨_, _, _, hargs, rfl, (eq_i_CentreOf _ p (k0, k1, k2, k3, k4, k5)).trans (tot_i_CentreOf p (k0, k1, k2, k3, k4, k5))⟩
  · cases hrun

def S_i_KindOf_c1 : Sums := ⟨tblS [(43, run_i_isConic)], tblM []⟩
theorem SO_i_KindOf_c1 : SumsOK Try.prog S_i_KindOf_c1 := ⟨tblS_ok ⟨⟨Try.call43, sound_i_isConic⟩, True.intro⟩, tblM_ok True.intro⟩
def Fo_i_KindOf_c1 (c0 : Int) (c1 : Int × Int × Int × Int × Int × Int) : Option (Bool) :=
  some (i_isConic c0 c1)
theorem eq_i_KindOf_c1 (c0 : Int) (c1 : Int × Int × Int × Int × Int × Int) : execT Try.prog S_i_KindOf_c1 65 6 (fun _ => 1000000) dec_b [.p [.int .i64 c0], .p [.int .i64 c1.1, .int .i64 c1.2.1, .int .i64 c1.2.2.1, .int .i64 c1.2.2.2.1, .int .i64 c1.2.2.2.2.1, .int .i64 c1.2.2.2.2.2]] = Fo_i_KindOf_c1 c0 c1 := by
  kernel_rfl
def i_KindOf_c1 (c0 : Int) (c1 : Int × Int × Int × Int × Int × Int) : Bool :=
  (i_isConic c0 c1)
theorem tot_i_KindOf_c1 (c0 : Int) (c1 : Int × Int × Int × Int × Int × Int) : Fo_i_KindOf_c1 c0 c1 = some (i_KindOf_c1 c0 c1) := by
  unfold Fo_i_KindOf_c1 i_KindOf_c1
  (try simp only [wI_eq])
  repeat' (first | with_reducible rfl | refine ite_opt (fun _ => ?_) (fun _ => ?_) | rfl)
def run_i_KindOf_c1 : List PV → Option (Bool × List TR)
  | [.p [.int .i64 c0], .p [.int .i64 c10, .int .i64 c11, .int .i64 c12, .int .i64 c13, .int .i64 c14, .int .i64 c15]] => some (true, enc_b (i_KindOf_c1 c0 (c10, c11, c12, c13, c14, c15)))
  | _ => none
theorem sound_i_KindOf_c1 : Sound Try.prog 65 run_i_KindOf_c1 := by
  refine sound_of de_b SO_i_KindOf_c1 (by kernel_rfl) Try.func65 Try.ntmps65 rfl (by kernel_rfl) ?_
  intro W pvs avs rs hargs hrun
  unfold run_i_KindOf_c1 at hrun
  split at hrun
  · simp only [Option.some.injEq, Prod.mk.injEq] at hrun
    obtain ⟨hp, rfl⟩ := hrun
    rename_i c0 c10 c11 c12 c13 c14 c15
    exact ⟨_, _, _, hargs, rfl, (eq_i_KindOf_c1 c0 (c10, c11, c12, c13, c14, c15)).trans (tot_i_KindOf_c1 c0 (c10, c11, c12, c13, c14, c15))⟩
  · cases hrun

def S_i_KindOf : Sums := ⟨tblS [(41, run_i_asked), (65, run_i_KindOf_c1), (54, run_i_conicKind)], tblM []⟩
theorem SO_i_KindOf : SumsOK Try.prog S_i_KindOf := ⟨tblS_ok ⟨⟨Try.call41, sound_i_asked⟩, ⟨Try.call65, sound_i_KindOf_c1⟩, ⟨Try.call54, sound_i_conicKind⟩, True.intro⟩, tblM_ok True.intro⟩
def Fo_i_KindOf (p : Int) (k : Int × Int × Int × Int × Int × Int) : Option (Int × Int) :=
  (if ((true) || !(i_IsField p)) = true then (if ((i_asked p (true) (i_KindOf_c1 p k)) != 0) = true then some (0, (i_asked p (true) (i_KindOf_c1 p k))) else (if (prB p) = true then some ((i_conicKind p k), 0) else none)) else none)
theorem eq_i_KindOf (p : Int) (k : Int × Int × Int × Int × Int × Int) : execT Try.prog S_i_KindOf 15 16 (fun _ => 1000000) dec_i_i [.v (.int .i64 p), .v (.agg ⟨[.int .i64 k.1, .int .i64 k.2.1, .int .i64 k.2.2.1, .int .i64 k.2.2.2.1, .int .i64 k.2.2.2.2.1, .int .i64 k.2.2.2.2.2]⟩)] = Fo_i_KindOf p k := by
  kernel_rfl
def i_KindOf (p : Int) (k : Int × Int × Int × Int × Int × Int) : Int × Int :=
  (if ((i_asked p (true) (i_KindOf_c1 p k)) != 0) = true then (0, (i_asked p (true) (i_KindOf_c1 p k))) else ((i_conicKind p k), 0))
theorem tot_i_KindOf (p : Int) (k : Int × Int × Int × Int × Int × Int) : Fo_i_KindOf p k = some (i_KindOf p k) := by
  unfold Fo_i_KindOf i_KindOf
  (try simp only [wI_eq])
  repeat' (first | with_reducible rfl | refine chk_opt (by first | with_reducible rfl | exact Bool.true_or _ | (with_reducible exact asked_prB ‹_›) | (with_reducible exact asked_prB0 ‹_›) | exact mk_ok (by (first | (with_reducible assumption) | (with_reducible exact asked_prB ‹_›) | (with_reducible exact asked_prB0 ‹_›))) | exact and_all (by (first | (with_reducible assumption) | (with_reducible exact asked_prB ‹_›) | (with_reducible exact asked_prB0 ‹_›))) (fun _ => rfl) | exact and_all (by (first | (with_reducible assumption) | (with_reducible exact asked_prB ‹_›) | (with_reducible exact asked_prB0 ‹_›))) (fun _ => by (first | (with_reducible assumption) | (with_reducible exact asked_prB ‹_›) | (with_reducible exact asked_prB0 ‹_›))) | exact and3 (by (first | (with_reducible assumption) | (with_reducible exact asked_prB ‹_›) | (with_reducible exact asked_prB0 ‹_›))) (by (first | (with_reducible assumption) | (with_reducible exact asked_prB ‹_›) | (with_reducible exact asked_prB0 ‹_›))) (by (first | (with_reducible assumption) | (with_reducible exact asked_prB ‹_›) | (with_reducible exact asked_prB0 ‹_›))) | exact and_two (by (first | (with_reducible assumption) | (with_reducible exact asked_prB ‹_›) | (with_reducible exact asked_prB0 ‹_›))) rfl | rfl) ?_ | refine ite_opt (fun _ => ?_) (fun _ => ?_) | rfl)
def run_i_KindOf : List PV → Option (Bool × List TR)
  | [.v (.int .i64 p), .v (.agg ⟨[.int .i64 k0, .int .i64 k1, .int .i64 k2, .int .i64 k3, .int .i64 k4, .int .i64 k5]⟩)] => some (true, enc_i_i (i_KindOf p (k0, k1, k2, k3, k4, k5)))
  | _ => none
theorem sound_i_KindOf : Sound Try.prog 15 run_i_KindOf := by
  refine sound_of de_i_i SO_i_KindOf (by kernel_rfl) Try.func15 Try.ntmps15 rfl (by kernel_rfl) ?_
  intro W pvs avs rs hargs hrun
  unfold run_i_KindOf at hrun
  split at hrun
  · simp only [Option.some.injEq, Prod.mk.injEq] at hrun
    obtain ⟨hp, rfl⟩ := hrun
    rename_i p k0 k1 k2 k3 k4 k5
    exact ⟨_, _, _, hargs, rfl, (eq_i_KindOf p (k0, k1, k2, k3, k4, k5)).trans (tot_i_KindOf p (k0, k1, k2, k3, k4, k5))⟩
  · cases hrun

def S_i_DeterminantOf_c1 : Sums := ⟨tblS [(43, run_i_isConic)], tblM []⟩
theorem SO_i_DeterminantOf_c1 : SumsOK Try.prog S_i_DeterminantOf_c1 := ⟨tblS_ok ⟨⟨Try.call43, sound_i_isConic⟩, True.intro⟩, tblM_ok True.intro⟩
def Fo_i_DeterminantOf_c1 (c0 : Int) (c1 : Int × Int × Int × Int × Int × Int) : Option (Bool) :=
  some (i_isConic c0 c1)
theorem eq_i_DeterminantOf_c1 (c0 : Int) (c1 : Int × Int × Int × Int × Int × Int) : execT Try.prog S_i_DeterminantOf_c1 66 6 (fun _ => 1000000) dec_b [.p [.int .i64 c0], .p [.int .i64 c1.1, .int .i64 c1.2.1, .int .i64 c1.2.2.1, .int .i64 c1.2.2.2.1, .int .i64 c1.2.2.2.2.1, .int .i64 c1.2.2.2.2.2]] = Fo_i_DeterminantOf_c1 c0 c1 := by
  kernel_rfl
def i_DeterminantOf_c1 (c0 : Int) (c1 : Int × Int × Int × Int × Int × Int) : Bool :=
  (i_isConic c0 c1)
theorem tot_i_DeterminantOf_c1 (c0 : Int) (c1 : Int × Int × Int × Int × Int × Int) : Fo_i_DeterminantOf_c1 c0 c1 = some (i_DeterminantOf_c1 c0 c1) := by
  unfold Fo_i_DeterminantOf_c1 i_DeterminantOf_c1
  (try simp only [wI_eq])
  repeat' (first | with_reducible rfl | refine ite_opt (fun _ => ?_) (fun _ => ?_) | rfl)
def run_i_DeterminantOf_c1 : List PV → Option (Bool × List TR)
  | [.p [.int .i64 c0], .p [.int .i64 c10, .int .i64 c11, .int .i64 c12, .int .i64 c13, .int .i64 c14, .int .i64 c15]] => some (true, enc_b (i_DeterminantOf_c1 c0 (c10, c11, c12, c13, c14, c15)))
  | _ => none
theorem sound_i_DeterminantOf_c1 : Sound Try.prog 66 run_i_DeterminantOf_c1 := by
  refine sound_of de_b SO_i_DeterminantOf_c1 (by kernel_rfl) Try.func66 Try.ntmps66 rfl (by kernel_rfl) ?_
  intro W pvs avs rs hargs hrun
  unfold run_i_DeterminantOf_c1 at hrun
  split at hrun
  · simp only [Option.some.injEq, Prod.mk.injEq] at hrun
    obtain ⟨hp, rfl⟩ := hrun
    rename_i c0 c10 c11 c12 c13 c14 c15
    exact ⟨_, _, _, hargs, rfl, (eq_i_DeterminantOf_c1 c0 (c10, c11, c12, c13, c14, c15)).trans (tot_i_DeterminantOf_c1 c0 (c10, c11, c12, c13, c14, c15))⟩
  · cases hrun

def S_i_DeterminantOf : Sums := ⟨tblS [(41, run_i_asked), (66, run_i_DeterminantOf_c1), (45, run_i_determinant)], tblM []⟩
theorem SO_i_DeterminantOf : SumsOK Try.prog S_i_DeterminantOf := ⟨tblS_ok ⟨⟨Try.call41, sound_i_asked⟩, ⟨Try.call66, sound_i_DeterminantOf_c1⟩, ⟨Try.call45, sound_i_determinant⟩, True.intro⟩, tblM_ok True.intro⟩
def Fo_i_DeterminantOf (p : Int) (k : Int × Int × Int × Int × Int × Int) : Option (Int × Int) :=
  (if ((true) || !(i_IsField p)) = true then (if ((i_asked p (true) (i_DeterminantOf_c1 p k)) != 0) = true then some (0, (i_asked p (true) (i_DeterminantOf_c1 p k))) else (if (prB p) = true then some ((i_determinant p k), 0) else none)) else none)
theorem eq_i_DeterminantOf (p : Int) (k : Int × Int × Int × Int × Int × Int) : execT Try.prog S_i_DeterminantOf 17 16 (fun _ => 1000000) dec_i_i [.v (.int .i64 p), .v (.agg ⟨[.int .i64 k.1, .int .i64 k.2.1, .int .i64 k.2.2.1, .int .i64 k.2.2.2.1, .int .i64 k.2.2.2.2.1, .int .i64 k.2.2.2.2.2]⟩)] = Fo_i_DeterminantOf p k := by
  kernel_rfl
def i_DeterminantOf (p : Int) (k : Int × Int × Int × Int × Int × Int) : Int × Int :=
  (if ((i_asked p (true) (i_DeterminantOf_c1 p k)) != 0) = true then (0, (i_asked p (true) (i_DeterminantOf_c1 p k))) else ((i_determinant p k), 0))
theorem tot_i_DeterminantOf (p : Int) (k : Int × Int × Int × Int × Int × Int) : Fo_i_DeterminantOf p k = some (i_DeterminantOf p k) := by
  unfold Fo_i_DeterminantOf i_DeterminantOf
  (try simp only [wI_eq])
  repeat' (first | with_reducible rfl | refine chk_opt (by first | with_reducible rfl | exact Bool.true_or _ | (with_reducible exact asked_prB ‹_›) | (with_reducible exact asked_prB0 ‹_›) | exact mk_ok (by (first | (with_reducible assumption) | (with_reducible exact asked_prB ‹_›) | (with_reducible exact asked_prB0 ‹_›))) | exact and_all (by (first | (with_reducible assumption) | (with_reducible exact asked_prB ‹_›) | (with_reducible exact asked_prB0 ‹_›))) (fun _ => rfl) | exact and_all (by (first | (with_reducible assumption) | (with_reducible exact asked_prB ‹_›) | (with_reducible exact asked_prB0 ‹_›))) (fun _ => by (first | (with_reducible assumption) | (with_reducible exact asked_prB ‹_›) | (with_reducible exact asked_prB0 ‹_›))) | exact and3 (by (first | (with_reducible assumption) | (with_reducible exact asked_prB ‹_›) | (with_reducible exact asked_prB0 ‹_›))) (by (first | (with_reducible assumption) | (with_reducible exact asked_prB ‹_›) | (with_reducible exact asked_prB0 ‹_›))) (by (first | (with_reducible assumption) | (with_reducible exact asked_prB ‹_›) | (with_reducible exact asked_prB0 ‹_›))) | exact and_two (by (first | (with_reducible assumption) | (with_reducible exact asked_prB ‹_›) | (with_reducible exact asked_prB0 ‹_›))) rfl | rfl) ?_ | refine ite_opt (fun _ => ?_) (fun _ => ?_) | rfl)
def run_i_DeterminantOf : List PV → Option (Bool × List TR)
  | [.v (.int .i64 p), .v (.agg ⟨[.int .i64 k0, .int .i64 k1, .int .i64 k2, .int .i64 k3, .int .i64 k4, .int .i64 k5]⟩)] => some (true, enc_i_i (i_DeterminantOf p (k0, k1, k2, k3, k4, k5)))
  | _ => none
theorem sound_i_DeterminantOf : Sound Try.prog 17 run_i_DeterminantOf := by
  refine sound_of de_i_i SO_i_DeterminantOf (by kernel_rfl) Try.func17 Try.ntmps17 rfl (by kernel_rfl) ?_
  intro W pvs avs rs hargs hrun
  unfold run_i_DeterminantOf at hrun
  split at hrun
  · simp only [Option.some.injEq, Prod.mk.injEq] at hrun
    obtain ⟨hp, rfl⟩ := hrun
    rename_i p k0 k1 k2 k3 k4 k5
    exact ⟨_, _, _, hargs, rfl, (eq_i_DeterminantOf p (k0, k1, k2, k3, k4, k5)).trans (tot_i_DeterminantOf p (k0, k1, k2, k3, k4, k5))⟩
  · cases hrun

def S_i_PoleOf_c1 : Sums := ⟨tblS [(43, run_i_isConic), (71, run_i_isLine)], tblM []⟩
theorem SO_i_PoleOf_c1 : SumsOK Try.prog S_i_PoleOf_c1 := ⟨tblS_ok ⟨⟨Try.call43, sound_i_isConic⟩, ⟨Try.call71, sound_i_isLine⟩, True.intro⟩, tblM_ok True.intro⟩
def Fo_i_PoleOf_c1 (c0 : Int) (c1 : Int × Int × Int × Int × Int × Int) (c2 : Int × Int × Int) : Option (Bool) :=
  (if (i_isConic c0 c1) = true then some (i_isLine c0 c2) else some false)
theorem eq_i_PoleOf_c1 (c0 : Int) (c1 : Int × Int × Int × Int × Int × Int) (c2 : Int × Int × Int) : execT Try.prog S_i_PoleOf_c1 70 12 (fun _ => 1000000) dec_b [.p [.int .i64 c0], .p [.int .i64 c1.1, .int .i64 c1.2.1, .int .i64 c1.2.2.1, .int .i64 c1.2.2.2.1, .int .i64 c1.2.2.2.2.1, .int .i64 c1.2.2.2.2.2], .p [.int .i64 c2.1, .int .i64 c2.2.1, .int .i64 c2.2.2]] = Fo_i_PoleOf_c1 c0 c1 c2 := by
  kernel_rfl
def i_PoleOf_c1 (c0 : Int) (c1 : Int × Int × Int × Int × Int × Int) (c2 : Int × Int × Int) : Bool :=
  (if (i_isConic c0 c1) = true then (i_isLine c0 c2) else false)
theorem tot_i_PoleOf_c1 (c0 : Int) (c1 : Int × Int × Int × Int × Int × Int) (c2 : Int × Int × Int) : Fo_i_PoleOf_c1 c0 c1 c2 = some (i_PoleOf_c1 c0 c1 c2) := by
  unfold Fo_i_PoleOf_c1 i_PoleOf_c1
  (try simp only [wI_eq])
  repeat' (first | with_reducible rfl | refine ite_opt (fun _ => ?_) (fun _ => ?_) | rfl)
def run_i_PoleOf_c1 : List PV → Option (Bool × List TR)
  | [.p [.int .i64 c0], .p [.int .i64 c10, .int .i64 c11, .int .i64 c12, .int .i64 c13, .int .i64 c14, .int .i64 c15], .p [.int .i64 c20, .int .i64 c21, .int .i64 c22]] => some (true, enc_b (i_PoleOf_c1 c0 (c10, c11, c12, c13, c14, c15) (c20, c21, c22)))
  | _ => none
theorem sound_i_PoleOf_c1 : Sound Try.prog 70 run_i_PoleOf_c1 := by
  refine sound_of de_b SO_i_PoleOf_c1 (by kernel_rfl) Try.func70 Try.ntmps70 rfl (by kernel_rfl) ?_
  intro W pvs avs rs hargs hrun
  unfold run_i_PoleOf_c1 at hrun
  split at hrun
  · simp only [Option.some.injEq, Prod.mk.injEq] at hrun
    obtain ⟨hp, rfl⟩ := hrun
    rename_i c0 c10 c11 c12 c13 c14 c15 c20 c21 c22
    exact ⟨_, _, _, hargs, rfl, (eq_i_PoleOf_c1 c0 (c10, c11, c12, c13, c14, c15) (c20, c21, c22)).trans (tot_i_PoleOf_c1 c0 (c10, c11, c12, c13, c14, c15) (c20, c21, c22))⟩
  · cases hrun

def S_i_PoleOf : Sums := ⟨tblS [(41, run_i_asked), (70, run_i_PoleOf_c1), (45, run_i_determinant), (55, run_i_allPoints), (47, run_i_polarLine)], tblM []⟩
theorem SO_i_PoleOf : SumsOK Try.prog S_i_PoleOf := ⟨tblS_ok ⟨⟨Try.call41, sound_i_asked⟩, ⟨Try.call70, sound_i_PoleOf_c1⟩, ⟨Try.call45, sound_i_determinant⟩, ⟨Try.call55, sound_i_allPoints⟩, ⟨Try.call47, sound_i_polarLine⟩, True.intro⟩, tblM_ok True.intro⟩
def T_i_PoleOf_0 (p : Int) (k : Int × Int × Int × Int × Int × Int) (l : Int × Int × Int) (t28 : Int) : Tab := ⟨[.val (.int .i64 p), .val (.agg ⟨[.int .i64 k.1, .int .i64 k.2.1, .int .i64 k.2.2.1, .int .i64 k.2.2.2.1, .int .i64 k.2.2.2.2.1, .int .i64 k.2.2.2.2.2]⟩), .val (.agg ⟨[.int .i64 l.1, .int .i64 l.2.1, .int .i64 l.2.2]⟩), .ptr 12 0, .ptr 16 0, .ptr 20 0, .ptr 24 0, .val (.int .i64 0), .val (.int .i64 (i_asked p (true) (i_PoleOf_c1 p k l))), .junk, .junk, .junk, .junk, .val (.int .i64 p), .clo 70 [12, 16, 20], .val (.int .i64 (i_asked p (true) (i_PoleOf_c1 p k l))), .val (.int .i64 (i_asked p (true) (i_PoleOf_c1 p k l))), .val (.bool ((i_asked p (true) (i_PoleOf_c1 p k l)) != 0)), .junk, .junk, .val (.int .i64 p), .val (.agg ⟨[.int .i64 k.1, .int .i64 k.2.1, .int .i64 k.2.2.1, .int .i64 k.2.2.2.1, .int .i64 k.2.2.2.2.1, .int .i64 k.2.2.2.2.2]⟩), .val (.int .i64 (i_determinant p k)), .val (.bool ((i_determinant p k) == 0)), .junk, .val (.int .i64 p), .row 104, .val (.int .i64 (((i_allPoints p).1 : Nat) : Int)), .val (.int .i64 t28), .junk, .junk, .junk, .junk, .junk, .junk, .junk, .junk, .junk, .junk, .junk, .junk, .junk, .junk, .junk, .junk, .junk, .junk, .junk], [(12, .box 2 [.val (.int .i64 p)]), (16, .box 25 [.val (.int .i64 k.1), .val (.int .i64 k.2.1), .val (.int .i64 k.2.2.1), .val (.int .i64 k.2.2.2.1), .val (.int .i64 k.2.2.2.2.1), .val (.int .i64 k.2.2.2.2.2)]), (20, .box 31 [.val (.int .i64 l.1), .val (.int .i64 l.2.1), .val (.int .i64 l.2.2)]), (24, .box 27 [.val (.int .i64 0), .val (.int .i64 0)]), (104, .row 27 2 ((i_allPoints p).1) (.ints ((i_allPoints p).2)))]⟩
def X_i_PoleOf_0 (P : Program) (fu : Nat) (p : Int) (k : Int × Int × Int × Int × Int × Int) (l : Int × Int × Int) (f : Nat) (t28 : Int) : Option ((Int × Int) × Int) := loopK (exec P S_i_PoleOf 48 (fun _ => fu + 100) (Code.sub [1, 1, 1, 0, 1, 0, 0] (bodyF P 20))) f (T_i_PoleOf_0 p k l t28) (kBlock 0 (kSeq (fun zs9 => exec P S_i_PoleOf 48 (fun _ => fu + 100) (Code.sub [1, 1, 1, 1] (bodyF P 20)) zs9 (finT P 20 dec_a2_i)) (finT P 20 dec_a2_i)))
def B_i_PoleOf_0 (p : Int) (k : Int × Int × Int × Int × Int × Int) (l : Int × Int × Int) (rec0 : Int → Option ((Int × Int) × Int)) (t28 : Int) : Option ((Int × Int) × Int) :=
  (if (decide (t28 < (((i_allPoints p).1 : Nat) : Int))) = true then (if (decide (0 ≤ t28) && decide (t28 < (((i_allPoints p).1 : Nat) : Int))) = true then (if (Nat.ble (t28.toNat * 2 + 2) (((i_allPoints p).2).length)) = true then (if (prB p) = true then (if ((i_polarLine p k (((i_allPoints p).2).getD (t28.toNat * 2 + 0) 0, ((i_allPoints p).2).getD (t28.toNat * 2 + 1) 0)).2) = true then (if (((i_polarLine p k (((i_allPoints p).2).getD (t28.toNat * 2 + 0) 0, ((i_allPoints p).2).getD (t28.toNat * 2 + 1) 0)).1) == l) = true then some ((((i_allPoints p).2).getD (t28.toNat * 2 + 0) 0, ((i_allPoints p).2).getD (t28.toNat * 2 + 1) 0), 0) else rec0 (wI (t28 + 1))) else rec0 (wI (t28 + 1))) else none) else none) else none) else some ((0, 0), 4))
def L_i_PoleOf_0 (fu : Nat) (p : Int) (k : Int × Int × Int × Int × Int × Int) (l : Int × Int × Int) : Nat → Int → Option ((Int × Int) × Int)
  | 0, _ => none
  | f + 1, t28 => B_i_PoleOf_0 p k l (L_i_PoleOf_0 fu p k l f) t28
theorem loop_i_PoleOf_0 (fu : Nat) (p : Int) (k : Int × Int × Int × Int × Int × Int) (l : Int × Int × Int) : ∀ (f : Nat) (t28 : Int), X_i_PoleOf_0 Try.prog fu p k l f t28 = L_i_PoleOf_0 fu p k l f t28 := by
  intro f
  induction f with
  | zero => intros; rfl
  | succ f ih =>
    intro t28
    have h1 : X_i_PoleOf_0 Try.prog fu p k l (f + 1) t28 = B_i_PoleOf_0 p k l (X_i_PoleOf_0 Try.prog fu p k l f) t28 := by kernel_rfl
    have h2 : X_i_PoleOf_0 Try.prog fu p k l f = L_i_PoleOf_0 fu p k l f := by funext t28; exact ih t28
    rw [h1, h2]
    rfl
def G_i_PoleOf (p : Int) (k : Int × Int × Int × Int × Int × Int) (l : Int × Int × Int) (lo0 : Int → Option ((Int × Int) × Int)) : Option ((Int × Int) × Int) :=
  (if ((true) || !(i_IsField p)) = true then (if ((i_asked p (true) (i_PoleOf_c1 p k l)) != 0) = true then some ((0, 0), (i_asked p (true) (i_PoleOf_c1 p k l))) else (if (prB p) = true then (if ((i_determinant p k) == 0) = true then some ((0, 0), 5) else (if (prB p) = true then lo0 0 else none)) else none)) else none)
def Fo_i_PoleOf (fu : Nat) (p : Int) (k : Int × Int × Int × Int × Int × Int) (l : Int × Int × Int) : Option ((Int × Int) × Int) := G_i_PoleOf p k l (L_i_PoleOf_0 fu p k l (fu + 100))
theorem eqg_i_PoleOf (fu : Nat) (p : Int) (k : Int × Int × Int × Int × Int × Int) (l : Int × Int × Int) : execT Try.prog S_i_PoleOf 20 48 (fun _ => fu + 100) dec_a2_i [.v (.int .i64 p), .v (.agg ⟨[.int .i64 k.1, .int .i64 k.2.1, .int .i64 k.2.2.1, .int .i64 k.2.2.2.1, .int .i64 k.2.2.2.2.1, .int .i64 k.2.2.2.2.2]⟩), .v (.agg ⟨[.int .i64 l.1, .int .i64 l.2.1, .int .i64 l.2.2]⟩)] = G_i_PoleOf p k l (L_i_PoleOf_0 fu p k l (fu + 100)) := by
  have h1 : execT Try.prog S_i_PoleOf 20 48 (fun _ => fu + 100) dec_a2_i [.v (.int .i64 p), .v (.agg ⟨[.int .i64 k.1, .int .i64 k.2.1, .int .i64 k.2.2.1, .int .i64 k.2.2.2.1, .int .i64 k.2.2.2.2.1, .int .i64 k.2.2.2.2.2]⟩), .v (.agg ⟨[.int .i64 l.1, .int .i64 l.2.1, .int .i64 l.2.2]⟩)] = G_i_PoleOf p k l (X_i_PoleOf_0 Try.prog fu p k l (fu + 100)) := by kernel_rfl
  have c0 : X_i_PoleOf_0 Try.prog fu p k l (fu + 100) = L_i_PoleOf_0 fu p k l (fu + 100) := by funext t28; exact loop_i_PoleOf_0 fu p k l (fu + 100) t28
  rw [h1, c0]
theorem eq_i_PoleOf (fu : Nat) (p : Int) (k : Int × Int × Int × Int × Int × Int) (l : Int × Int × Int) : execT Try.prog S_i_PoleOf 20 48 (fun _ => fu + 100) dec_a2_i [.v (.int .i64 p), .v (.agg ⟨[.int .i64 k.1, .int .i64 k.2.1, .int .i64 k.2.2.1, .int .i64 k.2.2.2.1, .int .i64 k.2.2.2.2.1, .int .i64 k.2.2.2.2.2]⟩), .v (.agg ⟨[.int .i64 l.1, .int .i64 l.2.1, .int .i64 l.2.2]⟩)] = Fo_i_PoleOf fu p k l := eqg_i_PoleOf fu p k l
def V_i_PoleOf_0 (p : Int) (k : Int × Int × Int × Int × Int × Int) (l : Int × Int × Int) : Int → (Int × Int) × Int := fun _ => ((((pts p).findSome? fun zz => if ((i_polarLine p k zz).2 && ((i_polarLine p k zz).1 == l)) = true then some (zz, (0 : Int)) else none)).getD ((0, 0), 4))
theorem lo0_i_PoleOf (p : Int) (k_ : P6) (l : P3) (hp : prB p = true) {F : Nat} (hF : 993 < F) : L_i_PoleOf_0 1000000 p k_ l F 0 = some ((((pts p).findSome? fun zz => if ((i_polarLine p k_ zz).2 && ((i_polarLine p k_ zz).1 == l)) = true then some ((zz, (0 : Int))) else none)).getD ((0, 0), 4)) := by
  have hlen : (pts p).length ≤ 993 := Nat.le_trans (pts_len hp) (by omega)
  have h := seek (L := fun f i => L_i_PoleOf_0 1000000 p k_ l f i) (n := (pts p).length) (F := F) (q := fun k => if ((i_polarLine p k_ (R2 (flat2 (pts p)) k)).2 && ((i_polarLine p k_ (R2 (flat2 (pts p)) k)).1 == l)) = true then some (((R2 (flat2 (pts p)) k), (0 : Int))) else none) (e := ((0, 0), 4)) (by omega)
    (fun f k hk => by
      show B_i_PoleOf_0 p k_ l (L_i_PoleOf_0 1000000 p k_ l f) (k : Int) = _
      unfold B_i_PoleOf_0
      have e0 : decide (0 ≤ (k : Int)) = true := by simp
      have e1 := cnd hk
      have e3 : (k : Int).toNat = k := Int.toNat_natCast k
      have e4 := row2_ok (flat2_len _) hk
      rw [show i_allPoints p = ((pts p).length, flat2 (pts p)) from rfl]
      simp only [e0, e1, e3, e4, hp, Bool.and_true, Bool.true_and, if_true, wrap_add1 hk (by omega)]
      have hr : ((flat2 (pts p)).getD (k * 2 + 0) 0, (flat2 (pts p)).getD (k * 2 + 1) 0) = R2 (flat2 (pts p)) k := rfl
      try simp only [hr]
      generalize ((i_polarLine p k_ (R2 (flat2 (pts p)) k)).2) = c0
      generalize (((i_polarLine p k_ (R2 (flat2 (pts p)) k)).1 == l)) = c1
      cases c0 <;> cases c1 <;> rfl)
    (fun f => by
      show B_i_PoleOf_0 p k_ l (L_i_PoleOf_0 1000000 p k_ l f) (((pts p).length : Nat) : Int) = _
      unfold B_i_PoleOf_0
      rw [show i_allPoints p = ((pts p).length, flat2 (pts p)) from rfl]
      rw [if_neg (by simp)])
  have h2 := find_row (pts p) (0, 0) (fun zz => if ((i_polarLine p k_ zz).2 && ((i_polarLine p k_ zz).1 == l)) = true then some ((zz, (0 : Int))) else none)
  rw [← h2]
  simp only [← R2_flat]
  exact h

def i_PoleOf (p : Int) (k : Int × Int × Int × Int × Int × Int) (l : Int × Int × Int) : (Int × Int) × Int :=
  (if ((i_asked p (true) (i_PoleOf_c1 p k l)) != 0) = true then ((0, 0), (i_asked p (true) (i_PoleOf_c1 p k l))) else (if ((i_determinant p k) == 0) = true then ((0, 0), 5) else V_i_PoleOf_0 p k l 0))
theorem tot_i_PoleOf (p : Int) (k : Int × Int × Int × Int × Int × Int) (l : Int × Int × Int) : Fo_i_PoleOf 1000000 p k l = some (i_PoleOf p k l) := by
  unfold Fo_i_PoleOf G_i_PoleOf i_PoleOf
  (try simp only [wI_eq])
  repeat' (first | with_reducible rfl | refine chk_opt (by first | with_reducible rfl | exact Bool.true_or _ | (with_reducible exact asked_prB ‹_›) | (with_reducible exact asked_prB0 ‹_›) | exact mk_ok (by (first | (with_reducible assumption) | (with_reducible exact asked_prB ‹_›) | (with_reducible exact asked_prB0 ‹_›))) | exact and_all (by (first | (with_reducible assumption) | (with_reducible exact asked_prB ‹_›) | (with_reducible exact asked_prB0 ‹_›))) (fun _ => rfl) | exact and_all (by (first | (with_reducible assumption) | (with_reducible exact asked_prB ‹_›) | (with_reducible exact asked_prB0 ‹_›))) (fun _ => by (first | (with_reducible assumption) | (with_reducible exact asked_prB ‹_›) | (with_reducible exact asked_prB0 ‹_›))) | exact and3 (by (first | (with_reducible assumption) | (with_reducible exact asked_prB ‹_›) | (with_reducible exact asked_prB0 ‹_›))) (by (first | (with_reducible assumption) | (with_reducible exact asked_prB ‹_›) | (with_reducible exact asked_prB0 ‹_›))) (by (first | (with_reducible assumption) | (with_reducible exact asked_prB ‹_›) | (with_reducible exact asked_prB0 ‹_›))) | exact and_two (by (first | (with_reducible assumption) | (with_reducible exact asked_prB ‹_›) | (with_reducible exact asked_prB0 ‹_›))) rfl | rfl) ?_ | refine ite_opt (fun _ => ?_) (fun _ => ?_) | exact lo0_i_PoleOf _ _ _ (by (first | (with_reducible assumption) | (with_reducible exact asked_prB ‹_›) | (with_reducible exact asked_prB0 ‹_›))) (by omega) | rfl)
def run_i_PoleOf : List PV → Option (Bool × List TR)
  | [.v (.int .i64 p), .v (.agg ⟨[.int .i64 k0, .int .i64 k1, .int .i64 k2, .int .i64 k3, .int .i64 k4, .int .i64 k5]⟩), .v (.agg ⟨[.int .i64 l0, .int .i64 l1, .int .i64 l2]⟩)] => some (true, enc_a2_i (i_PoleOf p (k0, k1, k2, k3, k4, k5) (l0, l1, l2)))
  | _ => none
theorem sound_i_PoleOf : Sound Try.prog 20 run_i_PoleOf := by
  refine sound_of de_a2_i SO_i_PoleOf (by kernel_rfl) Try.func20 Try.ntmps20 rfl (by kernel_rfl) ?_
  intro W pvs avs rs hargs hrun
  unfold run_i_PoleOf at hrun
  split at hrun
  · simp only [Option.some.injEq, Prod.mk.injEq] at hrun
    obtain ⟨hp, rfl⟩ := hrun
    rename_i p k0 k1 k2 k3 k4 k5 l0 l1 l2
    exact ⟨_, _, _, hargs, rfl, (eq_i_PoleOf _ p (k0, k1, k2, k3, k4, k5) (l0, l1, l2)).trans (tot_i_PoleOf p (k0, k1, k2, k3, k4, k5) (l0, l1, l2))⟩
  · cases hrun

def S_i_ConicPoints_c1 : Sums := ⟨tblS [(43, run_i_isConic)], tblM []⟩
theorem SO_i_ConicPoints_c1 : SumsOK Try.prog S_i_ConicPoints_c1 := ⟨tblS_ok ⟨⟨Try.call43, sound_i_isConic⟩, True.intro⟩, tblM_ok True.intro⟩
def Fo_i_ConicPoints_c1 (c0 : Int) (c1 : Int × Int × Int × Int × Int × Int) : Option (Bool) :=
  some (i_isConic c0 c1)
theorem eq_i_ConicPoints_c1 (c0 : Int) (c1 : Int × Int × Int × Int × Int × Int) : execT Try.prog S_i_ConicPoints_c1 61 6 (fun _ => 1000000) dec_b [.p [.int .i64 c0], .p [.int .i64 c1.1, .int .i64 c1.2.1, .int .i64 c1.2.2.1, .int .i64 c1.2.2.2.1, .int .i64 c1.2.2.2.2.1, .int .i64 c1.2.2.2.2.2]] = Fo_i_ConicPoints_c1 c0 c1 := by
  kernel_rfl
def i_ConicPoints_c1 (c0 : Int) (c1 : Int × Int × Int × Int × Int × Int) : Bool :=
  (i_isConic c0 c1)
theorem tot_i_ConicPoints_c1 (c0 : Int) (c1 : Int × Int × Int × Int × Int × Int) : Fo_i_ConicPoints_c1 c0 c1 = some (i_ConicPoints_c1 c0 c1) := by
  unfold Fo_i_ConicPoints_c1 i_ConicPoints_c1
  (try simp only [wI_eq])
  repeat' (first | with_reducible rfl | refine ite_opt (fun _ => ?_) (fun _ => ?_) | rfl)
def run_i_ConicPoints_c1 : List PV → Option (Bool × List TR)
  | [.p [.int .i64 c0], .p [.int .i64 c10, .int .i64 c11, .int .i64 c12, .int .i64 c13, .int .i64 c14, .int .i64 c15]] => some (true, enc_b (i_ConicPoints_c1 c0 (c10, c11, c12, c13, c14, c15)))
  | _ => none
theorem sound_i_ConicPoints_c1 : Sound Try.prog 61 run_i_ConicPoints_c1 := by
  refine sound_of de_b SO_i_ConicPoints_c1 (by kernel_rfl) Try.func61 Try.ntmps61 rfl (by kernel_rfl) ?_
  intro W pvs avs rs hargs hrun
  unfold run_i_ConicPoints_c1 at hrun
  split at hrun
  · simp only [Option.some.injEq, Prod.mk.injEq] at hrun
    obtain ⟨hp, rfl⟩ := hrun
    rename_i c0 c10 c11 c12 c13 c14 c15
    exact ⟨_, _, _, hargs, rfl, (eq_i_ConicPoints_c1 c0 (c10, c11, c12, c13, c14, c15)).trans (tot_i_ConicPoints_c1 c0 (c10, c11, c12, c13, c14, c15))⟩
  · cases hrun

def S_i_ConicPoints_c2 : Sums := ⟨tblS [(46, run_i_isOnConic)], tblM []⟩
theorem SO_i_ConicPoints_c2 : SumsOK Try.prog S_i_ConicPoints_c2 := ⟨tblS_ok ⟨⟨Try.call46, sound_i_isOnConic⟩, True.intro⟩, tblM_ok True.intro⟩
def Fo_i_ConicPoints_c2 (a : Int × Int) (c0 : Int) (c1 : Int × Int × Int × Int × Int × Int) : Option (Bool) :=
  (if (prB c0) = true then some (i_isOnConic c0 a c1) else none)
theorem eq_i_ConicPoints_c2 (a : Int × Int) (c0 : Int) (c1 : Int × Int × Int × Int × Int × Int) : execT Try.prog S_i_ConicPoints_c2 63 9 (fun _ => 1000000) dec_b [.v (.agg ⟨[.int .i64 a.1, .int .i64 a.2]⟩), .p [.int .i64 c0], .p [.int .i64 c1.1, .int .i64 c1.2.1, .int .i64 c1.2.2.1, .int .i64 c1.2.2.2.1, .int .i64 c1.2.2.2.2.1, .int .i64 c1.2.2.2.2.2]] = Fo_i_ConicPoints_c2 a c0 c1 := by
  kernel_rfl
def i_ConicPoints_c2 (a : Int × Int) (c0 : Int) (c1 : Int × Int × Int × Int × Int × Int) : Bool :=
  (i_isOnConic c0 a c1)
theorem tot_i_ConicPoints_c2 (a : Int × Int) (c0 : Int) (c1 : Int × Int × Int × Int × Int × Int) (hp : (prB c0) = true) : Fo_i_ConicPoints_c2 a c0 c1 = some (i_ConicPoints_c2 a c0 c1) := by
  try have h0 := prB_ne hp
  unfold Fo_i_ConicPoints_c2 i_ConicPoints_c2
  (try simp only [wI_eq])
  repeat' (first | with_reducible rfl | with_reducible refine chk_opt hp ?_ | with_reducible refine chk_opt h0 ?_ | refine chk_opt (and_all hp fun _ => hp) ?_ | refine chk_opt (and_all hp fun _ => rfl) ?_ | refine ite_opt (fun _ => ?_) (fun _ => ?_) | rfl)
def run_i_ConicPoints_c2 : List PV → Option (Bool × List TR)
  | [.v (.agg ⟨[.int .i64 a0, .int .i64 a1]⟩), .p [.int .i64 c0], .p [.int .i64 c10, .int .i64 c11, .int .i64 c12, .int .i64 c13, .int .i64 c14, .int .i64 c15]] => some (prB c0, enc_b (i_ConicPoints_c2 (a0, a1) c0 (c10, c11, c12, c13, c14, c15)))
  | _ => none
theorem sound_i_ConicPoints_c2 : Sound Try.prog 63 run_i_ConicPoints_c2 := by
  refine sound_of de_b SO_i_ConicPoints_c2 (by kernel_rfl) Try.func63 Try.ntmps63 rfl (by kernel_rfl) ?_
  intro W pvs avs rs hargs hrun
  unfold run_i_ConicPoints_c2 at hrun
  split at hrun
  · simp only [Option.some.injEq, Prod.mk.injEq] at hrun
    obtain ⟨hp, rfl⟩ := hrun
    rename_i a0 a1 c0 c10 c11 c12 c13 c14 c15
    exact ⟨_, _, _, hargs, rfl, (eq_i_ConicPoints_c2 (a0, a1) c0 (c10, c11, c12, c13, c14, c15)).trans (tot_i_ConicPoints_c2 (a0, a1) c0 (c10, c11, c12, c13, c14, c15) hp)⟩
  · cases hrun

def S_i_pointsWith : Sums := ⟨tblS [(55, run_i_allPoints)], tblM []⟩
theorem SO_i_pointsWith : SumsOK Try.prog S_i_pointsWith := ⟨tblS_ok ⟨⟨Try.call55, sound_i_allPoints⟩, True.intro⟩, tblM_ok True.intro⟩
def T_i_pointsWith_0 (p : Int) (holdsk : (Int × Int) → Bool) (holdsh : (Int × Int) → Bool) (l8 : List Int) (m8 : Nat) (t12 : Int) : Tab := ⟨[.val (.int .i64 p), .fn (clo_a2_b holdsk holdsh), .junk, .junk, .val (.slice none 0 0), .row 32, .junk, .junk, .junk, .val (.int .i64 p), .row 40, .val (.int .i64 (((i_allPoints p).1 : Nat) : Int)), .val (.int .i64 t12), .junk, .junk, .junk, .junk, .junk, .junk, .junk, .junk, .junk, .junk, .junk, .junk], [(32, .row 27 2 m8 (.ints l8)), (40, .row 27 2 ((i_allPoints p).1) (.ints ((i_allPoints p).2)))]⟩
def X_i_pointsWith_0 (P : Program) (fu : Nat) (p : Int) (holdsk : (Int × Int) → Bool) (holdsh : (Int × Int) → Bool) (f : Nat) (l8 : List Int) (m8 : Nat) (t12 : Int) : Option (Nat × List Int) := loopK (exec P S_i_pointsWith 25 (fun _ => fu + 100) (Code.sub [1, 1, 0, 1, 0, 0] (bodyF P 62))) f (T_i_pointsWith_0 p holdsk holdsh l8 m8 t12) (kBlock 0 (kSeq (fun zs9 => exec P S_i_pointsWith 25 (fun _ => fu + 100) (Code.sub [1, 1, 1] (bodyF P 62)) zs9 (finT P 62 dec_l27_2)) (finT P 62 dec_l27_2)))
def B_i_pointsWith_0 (p : Int) (holdsk : (Int × Int) → Bool) (holdsh : (Int × Int) → Bool) (rec0 : (List Int) → Nat → Int → Option (Nat × List Int)) (l8 : List Int) (m8 : Nat) (t12 : Int) : Option (Nat × List Int) :=
  (if (decide (t12 < (((i_allPoints p).1 : Nat) : Int))) = true then (if (decide (0 ≤ t12) && decide (t12 < (((i_allPoints p).1 : Nat) : Int))) = true then (if (Nat.ble (t12.toNat * 2 + 2) (((i_allPoints p).2).length)) = true then (if (holdsk (((i_allPoints p).2).getD (t12.toNat * 2 + 0) 0, ((i_allPoints p).2).getD (t12.toNat * 2 + 1) 0)) = true then (if (holdsh (((i_allPoints p).2).getD (t12.toNat * 2 + 0) 0, ((i_allPoints p).2).getD (t12.toNat * 2 + 1) 0)) = true then (if (Nat.ble 1 1 && Nat.ble (m8 + 1) 1000000 && Nat.beq 2 (2)) = true then rec0 (l8 ++ [((i_allPoints p).2).getD (t12.toNat * 2 + 0) 0, ((i_allPoints p).2).getD (t12.toNat * 2 + 1) 0]) (m8 + 1) (wI (t12 + 1)) else none) else rec0 l8 m8 (wI (t12 + 1))) else none) else none) else none) else some (m8, l8))
def L_i_pointsWith_0 (fu : Nat) (p : Int) (holdsk : (Int × Int) → Bool) (holdsh : (Int × Int) → Bool) : Nat → (List Int) → Nat → Int → Option (Nat × List Int)
  | 0, _, _, _ => none
  | f + 1, l8, m8, t12 => B_i_pointsWith_0 p holdsk holdsh (L_i_pointsWith_0 fu p holdsk holdsh f) l8 m8 t12
theorem loop_i_pointsWith_0 (fu : Nat) (p : Int) (holdsk : (Int × Int) → Bool) (holdsh : (Int × Int) → Bool) : ∀ (f : Nat) (l8 : List Int) (m8 : Nat) (t12 : Int), X_i_pointsWith_0 Try.prog fu p holdsk holdsh f l8 m8 t12 = L_i_pointsWith_0 fu p holdsk holdsh f l8 m8 t12 := by
  intro f
  induction f with
  | zero => intros; rfl
  | succ f ih =>
    intro l8 m8 t12
    have h1 : X_i_pointsWith_0 Try.prog fu p holdsk holdsh (f + 1) l8 m8 t12 = B_i_pointsWith_0 p holdsk holdsh (X_i_pointsWith_0 Try.prog fu p holdsk holdsh f) l8 m8 t12 := by kernel_rfl
    have h2 : X_i_pointsWith_0 Try.prog fu p holdsk holdsh f = L_i_pointsWith_0 fu p holdsk holdsh f := by funext l8 m8 t12; exact ih l8 m8 t12
    rw [h1, h2]
    rfl
def G_i_pointsWith (p : Int) (holdsk : (Int × Int) → Bool) (holdsh : (Int × Int) → Bool) (lo0 : (List Int) → Nat → Int → Option (Nat × List Int)) : Option (Nat × List Int) :=
  (if (prB p) = true then lo0 [] 0 0 else none)
def Fo_i_pointsWith (fu : Nat) (p : Int) (holdsk : (Int × Int) → Bool) (holdsh : (Int × Int) → Bool) : Option (Nat × List Int) := G_i_pointsWith p holdsk holdsh (L_i_pointsWith_0 fu p holdsk holdsh (fu + 100))
theorem eqg_i_pointsWith (fu : Nat) (p : Int) (holdsk : (Int × Int) → Bool) (holdsh : (Int × Int) → Bool) : execT Try.prog S_i_pointsWith 62 25 (fun _ => fu + 100) dec_l27_2 [.v (.int .i64 p), .f (clo_a2_b holdsk holdsh)] = G_i_pointsWith p holdsk holdsh (L_i_pointsWith_0 fu p holdsk holdsh (fu + 100)) := by
  have h1 : execT Try.prog S_i_pointsWith 62 25 (fun _ => fu + 100) dec_l27_2 [.v (.int .i64 p), .f (clo_a2_b holdsk holdsh)] = G_i_pointsWith p holdsk holdsh (X_i_pointsWith_0 Try.prog fu p holdsk holdsh (fu + 100)) := by kernel_rfl
  have c0 : X_i_pointsWith_0 Try.prog fu p holdsk holdsh (fu + 100) = L_i_pointsWith_0 fu p holdsk holdsh (fu + 100) := by funext l8 m8 t12; exact loop_i_pointsWith_0 fu p holdsk holdsh (fu + 100) l8 m8 t12
  rw [h1, c0]
theorem eq_i_pointsWith (fu : Nat) (p : Int) (holdsk : (Int × Int) → Bool) (holdsh : (Int × Int) → Bool) : execT Try.prog S_i_pointsWith 62 25 (fun _ => fu + 100) dec_l27_2 [.v (.int .i64 p), .f (clo_a2_b holdsk holdsh)] = Fo_i_pointsWith fu p holdsk holdsh := eqg_i_pointsWith fu p holdsk holdsh
def i_pointsWith (p : Int) (holdsk holdsh : P2 → Bool) : Nat × List Int := (((pts p).filter holdsh).length, flat2 ((pts p).filter holdsh))
theorem lo0_i_pointsWith (p : Int) (holdsk holdsh : P2 → Bool) (hp : prB p = true) (hall : ∀ k, k < (pts p).length → holdsk (R2 (flat2 (pts p)) k) = true) {F : Nat} (hF : 993 < F) : L_i_pointsWith_0 1000000 p holdsk holdsh F [] 0 0 = some (((pts p).filter fun zz => holdsh zz).length, flat2 ((pts p).filter fun zz => holdsh zz)) := by
  have hlen : (pts p).length ≤ 961 := pts_len hp
  exact gather (flat := flat2) flat2_app rfl (L := fun f l m i => L_i_pointsWith_0 1000000 p holdsk holdsh f l m i) (n := (pts p).length) (b := 1) (M := 0) (fun k => if (holdsh (R2 (flat2 (pts p)) k)) = true then [R2 (flat2 (pts p)) k] else []) (K := (some (((pts p).filter fun zz => holdsh zz).length, flat2 ((pts p).filter fun zz => holdsh zz)))) (l := []) (m := 0) (F := F) (by intro k hk; first | (split <;> simp) | simp_all)
    (fun f k l m hk hm => by
      show B_i_pointsWith_0 p holdsk holdsh (L_i_pointsWith_0 1000000 p holdsk holdsh f) l m (k : Int) = _
      unfold B_i_pointsWith_0
      have x0 : holdsk ((flat2 (pts p)).getD (k * 2 + 0) 0, (flat2 (pts p)).getD (k * 2 + 1) 0) = true := hall k hk
      have e0 : decide (0 ≤ (k : Int)) = true := by simp
      have e1 := cnd hk
      have e3 : (k : Int).toNat = k := Int.toNat_natCast k
      have e4 := row2_ok (flat2_len _) hk
      have e5 : Nat.ble 1 1 = true := rfl
      have e6 : Nat.ble (m + 1) 1000000 = true := leb (by omega)
      rw [show i_allPoints p = ((pts p).length, flat2 (pts p)) from rfl]
      simp only [e0, e1, e3, e4, e5, e6, beq22, x0, Bool.and_true, Bool.true_and, if_true, wrap_add1 hk (by omega)]
      have hq0 : ((holdsh ((flat2 (pts p)).getD (k * 2 + 0) 0, (flat2 (pts p)).getD (k * 2 + 1) 0))) = ((holdsh (R2 (flat2 (pts p)) k))) := rfl
      try rw [hq0]
      generalize ((holdsh (R2 (flat2 (pts p)) k))) = c0
      cases c0 <;> first
        | rfl
        | (simp only [Bool.false_eq_true, Bool.false_and, Bool.and_false, Bool.true_and, if_false, if_true]
           rw [show flat2 [] = [] from rfl, List.append_nil]
           rfl))
    (fun f hm => by
      show B_i_pointsWith_0 p holdsk holdsh (L_i_pointsWith_0 1000000 p holdsk holdsh f) ([] ++ flat2 ((List.range (pts p).length).flatMap (fun k => if (holdsh (R2 (flat2 (pts p)) k)) = true then [R2 (flat2 (pts p)) k] else []))) (0 + ((List.range (pts p).length).flatMap (fun k => if (holdsh (R2 (flat2 (pts p)) k)) = true then [R2 (flat2 (pts p)) k] else [])).length) (((pts p).length : Nat) : Int) = _
      unfold B_i_pointsWith_0
      have hkp : ((List.range ((pts p).length)).flatMap fun k => if (holdsh (R2 (flat2 (pts p)) k)) = true then [R2 (flat2 (pts p)) k] else []) = (rows2 ((pts p).length) (flat2 (pts p))).filter (fun zz => (holdsh zz)) := keep2 ((pts p).length) (flat2 (pts p)) (fun zz => (holdsh zz))
      rw [show i_allPoints p = ((pts p).length, flat2 (pts p)) from rfl]
      rw [if_neg (by simp), hkp, rows2_flat2]
      simp) (by omega) (Nat.le_refl _)

theorem tot_i_pointsWith (p : Int) (holdsk : (Int × Int) → Bool) (holdsh : (Int × Int) → Bool) (hp : (prB p && (pts p).all holdsk) = true) : Fo_i_pointsWith 1000000 p holdsk holdsh = some (i_pointsWith p holdsk holdsh) := by
  simp only [Bool.and_eq_true] at hp
  obtain ⟨hp, hall⟩ := hp
  unfold Fo_i_pointsWith G_i_pointsWith
  rw [if_pos hp]
  refine lo0_i_pointsWith p holdsk holdsh hp ?_ (by omega)
  intro k hk
  rw [R2_flat, List.getD_eq_getElem?_getD, List.getElem?_eq_getElem hk]
  exact List.all_eq_true.1 hall _ (List.getElem_mem hk)
def run_i_pointsWith : List PV → Option (Bool × List TR)
  | [.v (.int .i64 p), .f holdsg] => some (prB p && (pts p).all (fun a0 => okV (holdsg [.agg ⟨[.int .i64 a0.1, .int .i64 a0.2]⟩])), enc_l27_2 (i_pointsWith p (fun a0 => okV (holdsg [.agg ⟨[.int .i64 a0.1, .int .i64 a0.2]⟩])) (fun a0 => boolV (holdsg [.agg ⟨[.int .i64 a0.1, .int .i64 a0.2]⟩]))))
  | _ => none
theorem sound_i_pointsWith : Sound Try.prog 62 run_i_pointsWith := by
  refine sound_of de_l27_2 SO_i_pointsWith (by kernel_rfl) Try.func62 Try.ntmps62 rfl (by kernel_rfl) ?_
  intro W pvs avs rs hargs hrun
  unfold run_i_pointsWith at hrun
  split at hrun
  · simp only [Option.some.injEq, Prod.mk.injEq] at hrun
    obtain ⟨hp, rfl⟩ := hrun
    rename_i p holdsg
    have hargs := All2.replace (l1 := [_]) hargs (y := .f (clo_a2_b _ _)) fun b hb => fn_weaken hb (clo_a2_b_ok _)
    exact ⟨_, _, _, hargs, rfl, (eq_i_pointsWith _ p (fun a0 => okV (holdsg [.agg ⟨[.int .i64 a0.1, .int .i64 a0.2]⟩])) (fun a0 => boolV (holdsg [.agg ⟨[.int .i64 a0.1, .int .i64 a0.2]⟩]))).trans (tot_i_pointsWith p (fun a0 => okV (holdsg [.agg ⟨[.int .i64 a0.1, .int .i64 a0.2]⟩])) (fun a0 => boolV (holdsg [.agg ⟨[.int .i64 a0.1, .int .i64 a0.2]⟩])) hp)⟩
  · cases hrun

def S_i_ConicPoints : Sums := ⟨tblS [(41, run_i_asked), (61, run_i_ConicPoints_c1), (62, run_i_pointsWith), (63, run_i_ConicPoints_c2)], tblM []⟩
theorem SO_i_ConicPoints : SumsOK Try.prog S_i_ConicPoints := ⟨tblS_ok ⟨⟨Try.call41, sound_i_asked⟩, ⟨Try.call61, sound_i_ConicPoints_c1⟩, ⟨Try.call62, sound_i_pointsWith⟩, ⟨Try.call63, sound_i_ConicPoints_c2⟩, True.intro⟩, tblM_ok True.intro⟩
def Fo_i_ConicPoints (p : Int) (k : Int × Int × Int × Int × Int × Int) : Option ((Nat × List Int) × Int) :=
  (if ((true) || !(i_IsField p)) = true then (if ((i_asked p (true) (i_ConicPoints_c1 p k)) != 0) = true then some ((0, []), (i_asked p (true) (i_ConicPoints_c1 p k))) else (if (prB p && (pts p).all (fun a0 => prB p)) = true then some (((i_pointsWith p (fun a0 => prB p) (fun a0 => i_ConicPoints_c2 a0 p k)).1, (i_pointsWith p (fun a0 => prB p) (fun a0 => i_ConicPoints_c2 a0 p k)).2), 0) else none)) else none)
theorem eq_i_ConicPoints (p : Int) (k : Int × Int × Int × Int × Int × Int) : execT Try.prog S_i_ConicPoints 12 16 (fun _ => 1000000) dec_l27_2_i [.v (.int .i64 p), .v (.agg ⟨[.int .i64 k.1, .int .i64 k.2.1, .int .i64 k.2.2.1, .int .i64 k.2.2.2.1, .int .i64 k.2.2.2.2.1, .int .i64 k.2.2.2.2.2]⟩)] = Fo_i_ConicPoints p k := by
  kernel_rfl
def i_ConicPoints (p : Int) (k : Int × Int × Int × Int × Int × Int) : (Nat × List Int) × Int :=
  (if ((i_asked p (true) (i_ConicPoints_c1 p k)) != 0) = true then ((0, []), (i_asked p (true) (i_ConicPoints_c1 p k))) else (((i_pointsWith p (fun a0 => prB p) (fun a0 => i_ConicPoints_c2 a0 p k)).1, (i_pointsWith p (fun a0 => prB p) (fun a0 => i_ConicPoints_c2 a0 p k)).2), 0))
theorem tot_i_ConicPoints (p : Int) (k : Int × Int × Int × Int × Int × Int) : Fo_i_ConicPoints p k = some (i_ConicPoints p k) := by
  unfold Fo_i_ConicPoints i_ConicPoints
  (try simp only [wI_eq])
  repeat' (first | with_reducible rfl | refine chk_opt (by first | with_reducible rfl | exact Bool.true_or _ | (with_reducible exact asked_prB ‹_›) | (with_reducible exact asked_prB0 ‹_›) | exact mk_ok (by (first | (with_reducible assumption) | (with_reducible exact asked_prB ‹_›) | (with_reducible exact asked_prB0 ‹_›))) | exact and_all (by (first | (with_reducible assumption) | (with_reducible exact asked_prB ‹_›) | (with_reducible exact asked_prB0 ‹_›))) (fun _ => rfl) | exact and_all (by (first | (with_reducible assumption) | (with_reducible exact asked_prB ‹_›) | (with_reducible exact asked_prB0 ‹_›))) (fun _ => by (first | (with_reducible assumption) | (with_reducible exact asked_prB ‹_›) | (with_reducible exact asked_prB0 ‹_›))) | exact and3 (by (first | (with_reducible assumption) | (with_reducible exact asked_prB ‹_›) | (with_reducible exact asked_prB0 ‹_›))) (by (first | (with_reducible assumption) | (with_reducible exact asked_prB ‹_›) | (with_reducible exact asked_prB0 ‹_›))) (by (first | (with_reducible assumption) | (with_reducible exact asked_prB ‹_›) | (with_reducible exact asked_prB0 ‹_›))) | exact and_two (by (first | (with_reducible assumption) | (with_reducible exact asked_prB ‹_›) | (with_reducible exact asked_prB0 ‹_›))) rfl | rfl) ?_ | refine ite_opt (fun _ => ?_) (fun _ => ?_) | rfl)
def run_i_ConicPoints : List PV → Option (Bool × List TR)
  | [.v (.int .i64 p), .v (.agg ⟨[.int .i64 k0, .int .i64 k1, .int .i64 k2, .int .i64 k3, .int .i64 k4, .int .i64 k5]⟩)] => some (true, enc_l27_2_i (i_ConicPoints p (k0, k1, k2, k3, k4, k5)))
  | _ => none
theorem sound_i_ConicPoints : Sound Try.prog 12 run_i_ConicPoints := by
  refine sound_of de_l27_2_i SO_i_ConicPoints (by kernel_rfl) Try.func12 Try.ntmps12 rfl (by kernel_rfl) ?_
  intro W pvs avs rs hargs hrun
  unfold run_i_ConicPoints at hrun
  split at hrun
  · simp only [Option.some.injEq, Prod.mk.injEq] at hrun
    obtain ⟨hp, rfl⟩ := hrun
    rename_i p k0 k1 k2 k3 k4 k5
    exact ⟨_, _, _, hargs, rfl, (eq_i_ConicPoints p (k0, k1, k2, k3, k4, k5)).trans (tot_i_ConicPoints p (k0, k1, k2, k3, k4, k5))⟩
  · cases hrun

def S_i_IsOnLine_c1 : Sums := ⟨tblS [(44, run_i_isPoint), (71, run_i_isLine)], tblM []⟩
theorem SO_i_IsOnLine_c1 : SumsOK Try.prog S_i_IsOnLine_c1 := ⟨tblS_ok ⟨⟨Try.call44, sound_i_isPoint⟩, ⟨Try.call71, sound_i_isLine⟩, True.intro⟩, tblM_ok True.intro⟩
def Fo_i_IsOnLine_c1 (c0 : Int) (c1 : Int × Int) (c2 : Int × Int × Int) : Option (Bool) :=
  (if (i_isPoint c0 c1) = true then some (i_isLine c0 c2) else some false)
theorem eq_i_IsOnLine_c1 (c0 : Int) (c1 : Int × Int) (c2 : Int × Int × Int) : execT Try.prog S_i_IsOnLine_c1 74 12 (fun _ => 1000000) dec_b [.p [.int .i64 c0], .p [.int .i64 c1.1, .int .i64 c1.2], .p [.int .i64 c2.1, .int .i64 c2.2.1, .int .i64 c2.2.2]] = Fo_i_IsOnLine_c1 c0 c1 c2 := by
  kernel_rfl
def i_IsOnLine_c1 (c0 : Int) (c1 : Int × Int) (c2 : Int × Int × Int) : Bool :=
  (if (i_isPoint c0 c1) = true then (i_isLine c0 c2) else false)
theorem tot_i_IsOnLine_c1 (c0 : Int) (c1 : Int × Int) (c2 : Int × Int × Int) : Fo_i_IsOnLine_c1 c0 c1 c2 = some (i_IsOnLine_c1 c0 c1 c2) := by
  unfold Fo_i_IsOnLine_c1 i_IsOnLine_c1
  (try simp only [wI_eq])
  repeat' (first | with_reducible rfl | refine ite_opt (fun _ => ?_) (fun _ => ?_) | rfl)
def run_i_IsOnLine_c1 : List PV → Option (Bool × List TR)
  | [.p [.int .i64 c0], .p [.int .i64 c10, .int .i64 c11], .p [.int .i64 c20, .int .i64 c21, .int .i64 c22]] => some (true, enc_b (i_IsOnLine_c1 c0 (c10, c11) (c20, c21, c22)))
  | _ => none
theorem sound_i_IsOnLine_c1 : Sound Try.prog 74 run_i_IsOnLine_c1 := by
  refine sound_of de_b SO_i_IsOnLine_c1 (by kernel_rfl) Try.func74 Try.ntmps74 rfl (by kernel_rfl) ?_
  intro W pvs avs rs hargs hrun
  unfold run_i_IsOnLine_c1 at hrun
  split at hrun
  · simp only [Option.some.injEq, Prod.mk.injEq] at hrun
    obtain ⟨hp, rfl⟩ := hrun
    rename_i c0 c10 c11 c20 c21 c22
    exact ⟨_, _, _, hargs, rfl, (eq_i_IsOnLine_c1 c0 (c10, c11) (c20, c21, c22)).trans (tot_i_IsOnLine_c1 c0 (c10, c11) (c20, c21, c22))⟩
  · cases hrun

def S_i_IsOnLine : Sums := ⟨tblS [(41, run_i_asked), (74, run_i_IsOnLine_c1), (75, run_i_isOn)], tblM []⟩
theorem SO_i_IsOnLine : SumsOK Try.prog S_i_IsOnLine := ⟨tblS_ok ⟨⟨Try.call41, sound_i_asked⟩, ⟨Try.call74, sound_i_IsOnLine_c1⟩, ⟨Try.call75, sound_i_isOn⟩, True.intro⟩, tblM_ok True.intro⟩
def Fo_i_IsOnLine (p : Int) (a : Int × Int) (l : Int × Int × Int) : Option (Bool × Int) :=
  (if ((true) || !(i_IsField p)) = true then (if ((i_asked p (true) (i_IsOnLine_c1 p a l)) != 0) = true then some (false, (i_asked p (true) (i_IsOnLine_c1 p a l))) else (if (prB p) = true then some ((i_isOn p a l), 0) else none)) else none)
theorem eq_i_IsOnLine (p : Int) (a : Int × Int) (l : Int × Int × Int) : execT Try.prog S_i_IsOnLine 25 19 (fun _ => 1000000) dec_b_i [.v (.int .i64 p), .v (.agg ⟨[.int .i64 a.1, .int .i64 a.2]⟩), .v (.agg ⟨[.int .i64 l.1, .int .i64 l.2.1, .int .i64 l.2.2]⟩)] = Fo_i_IsOnLine p a l := by
  kernel_rfl
def i_IsOnLine (p : Int) (a : Int × Int) (l : Int × Int × Int) : Bool × Int :=
  (if ((i_asked p (true) (i_IsOnLine_c1 p a l)) != 0) = true then (false, (i_asked p (true) (i_IsOnLine_c1 p a l))) else ((i_isOn p a l), 0))
theorem tot_i_IsOnLine (p : Int) (a : Int × Int) (l : Int × Int × Int) : Fo_i_IsOnLine p a l = some (i_IsOnLine p a l) := by
  unfold Fo_i_IsOnLine i_IsOnLine
  (try simp only [wI_eq])
  repeat' (first | with_reducible rfl | refine chk_opt (by first | with_reducible rfl | exact Bool.true_or _ | (with_reducible exact asked_prB ‹_›) | (with_reducible exact asked_prB0 ‹_›) | exact mk_ok (by (first | (with_reducible assumption) | (with_reducible exact asked_prB ‹_›) | (with_reducible exact asked_prB0 ‹_›))) | exact and_all (by (first | (with_reducible assumption) | (with_reducible exact asked_prB ‹_›) | (with_reducible exact asked_prB0 ‹_›))) (fun _ => rfl) | exact and_all (by (first | (with_reducible assumption) | (with_reducible exact asked_prB ‹_›) | (with_reducible exact asked_prB0 ‹_›))) (fun _ => by (first | (with_reducible assumption) | (with_reducible exact asked_prB ‹_›) | (with_reducible exact asked_prB0 ‹_›))) | exact and3 (by (first | (with_reducible assumption) | (with_reducible exact asked_prB ‹_›) | (with_reducible exact asked_prB0 ‹_›))) (by (first | (with_reducible assumption) | (with_reducible exact asked_prB ‹_›) | (with_reducible exact asked_prB0 ‹_›))) (by (first | (with_reducible assumption) | (with_reducible exact asked_prB ‹_›) | (with_reducible exact asked_prB0 ‹_›))) | exact and_two (by (first | (with_reducible assumption) | (with_reducible exact asked_prB ‹_›) | (with_reducible exact asked_prB0 ‹_›))) rfl | rfl) ?_ | refine ite_opt (fun _ => ?_) (fun _ => ?_) | rfl)
def run_i_IsOnLine : List PV → Option (Bool × List TR)
  | [.v (.int .i64 p), .v (.agg ⟨[.int .i64 a0, .int .i64 a1]⟩), .v (.agg ⟨[.int .i64 l0, .int .i64 l1, .int .i64 l2]⟩)] => some (true, enc_b_i (i_IsOnLine p (a0, a1) (l0, l1, l2)))
  | _ => none
theorem sound_i_IsOnLine : Sound Try.prog 25 run_i_IsOnLine := by
  refine sound_of de_b_i SO_i_IsOnLine (by kernel_rfl) Try.func25 Try.ntmps25 rfl (by kernel_rfl) ?_
  intro W pvs avs rs hargs hrun
  unfold run_i_IsOnLine at hrun
  split at hrun
  · simp only [Option.some.injEq, Prod.mk.injEq] at hrun
    obtain ⟨hp, rfl⟩ := hrun
    rename_i p a0 a1 l0 l1 l2
    exact ⟨_, _, _, hargs, rfl, (eq_i_IsOnLine p (a0, a1) (l0, l1, l2)).trans (tot_i_IsOnLine p (a0, a1) (l0, l1, l2))⟩
  · cases hrun


end

end Go.Proofs.Ytfclaacaphpoaaa
