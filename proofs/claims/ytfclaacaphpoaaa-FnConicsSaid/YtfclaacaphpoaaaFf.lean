import Derived.Test.YtfclaacaphpoaaaFc
import Derived.Test.YtfclaacaphpoaaaProg
set_option linter.unusedSimpArgs false
set_option linter.unusedVariables false
namespace Go.Proofs.Ytfclaacaphpoaaa
open Go.RowKit
noncomputable section
def S_s_TangentOf : Sums := ⟨tblS [(48, run_s_l08Given), (49, run_s_l08Determinant), (50, run_s_l08Value), (51, run_s_l08Polar)], tblM []⟩
theorem SO_s_TangentOf : SumsOK Try.prog S_s_TangentOf := ⟨tblS_ok ⟨⟨Try.call48, sound_s_l08Given⟩, ⟨Try.call49, sound_s_l08Determinant⟩, ⟨Try.call50, sound_s_l08Value⟩, ⟨Try.call51, sound_s_l08Polar⟩, True.intro⟩, tblM_ok True.intro⟩
def Fo_s_TangentOf (p : Int) (k : Int × Int × Int × Int × Int × Int) (a : Int × Int) : Option ((Int × Int × Int) × Int) :=
  (if ((s_l08Given p k a) == 0) = true then (if (prB p) = true then (if ((s_l08Determinant p k) == 0) = true then some ((0, 0, 0), 5) else (if (prB p) = true then (if ((s_l08Value p k a) != 0) = true then some ((0, 0, 0), 5) else (if ((s_l08Given p k a) != 0) = true then some ((0, 0, 0), (s_l08Given p k a)) else (if (prB p) = true then some (((s_l08Polar p k a).1), 0) else none))) else none)) else none) else (if ((s_l08Given p k a) != 0) = true then some ((0, 0, 0), (s_l08Given p k a)) else (if (prB p) = true then some (((s_l08Polar p k a).1), 0) else none)))
theorem eq_s_TangentOf (p : Int) (k : Int × Int × Int × Int × Int × Int) (a : Int × Int) : execT Try.prog S_s_TangentOf 8 42 (fun _ => 1000000) dec_a3_i [.v (.int .i64 p), .v (.agg ⟨[.int .i64 k.1, .int .i64 k.2.1, .int .i64 k.2.2.1, .int .i64 k.2.2.2.1, .int .i64 k.2.2.2.2.1, .int .i64 k.2.2.2.2.2]⟩), .v (.agg ⟨[.int .i64 a.1, .int .i64 a.2]⟩)] = Fo_s_TangentOf p k a := by
  kernel_rfl
def s_TangentOf (p : Int) (k : Int × Int × Int × Int × Int × Int) (a : Int × Int) : (Int × Int × Int) × Int :=
  (if ((s_l08Given p k a) == 0) = true then (if ((s_l08Determinant p k) == 0) = true then ((0, 0, 0), 5) else (if ((s_l08Value p k a) != 0) = true then ((0, 0, 0), 5) else (if ((s_l08Given p k a) != 0) = true then ((0, 0, 0), (s_l08Given p k a)) else (((s_l08Polar p k a).1), 0)))) else (if ((s_l08Given p k a) != 0) = true then ((0, 0, 0), (s_l08Given p k a)) else (((s_l08Polar p k a).1), 0)))
theorem tot_s_TangentOf (p : Int) (k : Int × Int × Int × Int × Int × Int) (a : Int × Int) : Fo_s_TangentOf p k a = some (s_TangentOf p k a) := by
  unfold Fo_s_TangentOf s_TangentOf
  (try simp only [wI_eq])
  repeat' (first | with_reducible rfl | refine chk_opt (by first | with_reducible rfl | exact Bool.true_or _ | (with_reducible exact l08Given_prB ‹_›) | (with_reducible exact l08Given_prB0 ‹_›) | exact mk_ok (by (first | (with_reducible assumption) | (with_reducible exact l08Given_prB ‹_›) | (with_reducible exact l08Given_prB0 ‹_›))) | exact and_all (by (first | (with_reducible assumption) | (with_reducible exact l08Given_prB ‹_›) | (with_reducible exact l08Given_prB0 ‹_›))) (fun _ => rfl) | exact and_all (by (first | (with_reducible assumption) | (with_reducible exact l08Given_prB ‹_›) | (with_reducible exact l08Given_prB0 ‹_›))) (fun _ => by (first | (with_reducible assumption) | (with_reducible exact l08Given_prB ‹_›) | (with_reducible exact l08Given_prB0 ‹_›))) | exact and3 (by (first | (with_reducible assumption) | (with_reducible exact l08Given_prB ‹_›) | (with_reducible exact l08Given_prB0 ‹_›))) (by (first | (with_reducible assumption) | (with_reducible exact l08Given_prB ‹_›) | (with_reducible exact l08Given_prB0 ‹_›))) (by (first | (with_reducible assumption) | (with_reducible exact l08Given_prB ‹_›) | (with_reducible exact l08Given_prB0 ‹_›))) | exact and_two (by (first | (with_reducible assumption) | (with_reducible exact l08Given_prB ‹_›) | (with_reducible exact l08Given_prB0 ‹_›))) rfl | rfl) ?_ | refine ite_opt (fun _ => ?_) (fun _ => ?_) | rfl)
def run_s_TangentOf : List PV → Option (Bool × List TR)
  | [.v (.int .i64 p), .v (.agg ⟨[.int .i64 k0, .int .i64 k1, .int .i64 k2, .int .i64 k3, .int .i64 k4, .int .i64 k5]⟩), .v (.agg ⟨[.int .i64 a0, .int .i64 a1]⟩)] => some (true, enc_a3_i (s_TangentOf p (k0, k1, k2, k3, k4, k5) (a0, a1)))
  | _ => none
theorem sound_s_TangentOf : Sound Try.prog 8 run_s_TangentOf := by
  refine sound_of de_a3_i SO_s_TangentOf (by kernel_rfl) Try.func8 Try.ntmps8 rfl (by kernel_rfl) ?_
  intro W pvs avs rs hargs hrun
  unfold run_s_TangentOf at hrun
  split at hrun
  · simp only [Option.some.injEq, Prod.mk.injEq] at hrun
    obtain ⟨hp, rfl⟩ := hrun
    rename_i p k0 k1 k2 k3 k4 k5 a0 a1
    exact ⟨_, _, _, hargs, rfl, (eq_s_TangentOf p (k0, k1, k2, k3, k4, k5) (a0, a1)).trans (tot_s_TangentOf p (k0, k1, k2, k3, k4, k5) (a0, a1))⟩
  · cases hrun

def S_s_CentreOf : Sums := ⟨tblS [(57, run_s_l08Code), (58, run_s_l08Kind), (60, run_s_l01Normal), (59, run_s_l01Meet)], tblM []⟩
theorem SO_s_CentreOf : SumsOK Try.prog S_s_CentreOf := ⟨tblS_ok ⟨⟨Try.call57, sound_s_l08Code⟩, ⟨Try.call58, sound_s_l08Kind⟩, ⟨Try.call60, sound_s_l01Normal⟩, ⟨Try.call59, sound_s_l01Meet⟩, True.intro⟩, tblM_ok True.intro⟩
def Fo_s_CentreOf (p : Int) (k : Int × Int × Int × Int × Int × Int) : Option ((Int × Int) × Int) :=
  (if ((s_l08Code p k) == 0) = true then (if (prB p) = true then (if ((s_l08Kind p k) == 0) = true then some ((0, 0), 5) else (if ((s_l08Code p k) != 0) = true then some ((0, 0), (s_l08Code p k)) else (if (prB p) = true then (if (prB p) = true then (if (prB p) = true then some (((s_l01Meet p (s_l01Normal p (wI (2 * k.1)) k.2.1 k.2.2.2.1) (s_l01Normal p k.2.1 (wI (2 * k.2.2.1)) k.2.2.2.2.1)).1), 0) else none) else none) else none))) else none) else (if ((s_l08Code p k) != 0) = true then some ((0, 0), (s_l08Code p k)) else (if (prB p) = true then (if (prB p) = true then (if (prB p) = true then some (((s_l01Meet p (s_l01Normal p (wI (2 * k.1)) k.2.1 k.2.2.2.1) (s_l01Normal p k.2.1 (wI (2 * k.2.2.1)) k.2.2.2.2.1)).1), 0) else none) else none) else none)))
theorem eq_s_CentreOf (p : Int) (k : Int × Int × Int × Int × Int × Int) : execT Try.prog S_s_CentreOf 11 48 (fun _ => 1000000) dec_a2_i [.v (.int .i64 p), .v (.agg ⟨[.int .i64 k.1, .int .i64 k.2.1, .int .i64 k.2.2.1, .int .i64 k.2.2.2.1, .int .i64 k.2.2.2.2.1, .int .i64 k.2.2.2.2.2]⟩)] = Fo_s_CentreOf p k := by
  kernel_rfl
def s_CentreOf (p : Int) (k : Int × Int × Int × Int × Int × Int) : (Int × Int) × Int :=
  (if ((s_l08Code p k) == 0) = true then (if ((s_l08Kind p k) == 0) = true then ((0, 0), 5) else (if ((s_l08Code p k) != 0) = true then ((0, 0), (s_l08Code p k)) else (((s_l01Meet p (s_l01Normal p (wrap64 (2 * k.1)) k.2.1 k.2.2.2.1) (s_l01Normal p k.2.1 (wrap64 (2 * k.2.2.1)) k.2.2.2.2.1)).1), 0))) else (if ((s_l08Code p k) != 0) = true then ((0, 0), (s_l08Code p k)) else (((s_l01Meet p (s_l01Normal p (wrap64 (2 * k.1)) k.2.1 k.2.2.2.1) (s_l01Normal p k.2.1 (wrap64 (2 * k.2.2.1)) k.2.2.2.2.1)).1), 0)))
theorem tot_s_CentreOf (p : Int) (k : Int × Int × Int × Int × Int × Int) : Fo_s_CentreOf p k = some (s_CentreOf p k) := by
  unfold Fo_s_CentreOf s_CentreOf
  (try simp only [wI_eq])
  repeat' (first | with_reducible rfl | refine chk_opt (by first | with_reducible rfl | exact Bool.true_or _ | (with_reducible exact l08Code_prB ‹_›) | (with_reducible exact l08Code_prB0 ‹_›) | exact mk_ok (by (first | (with_reducible assumption) | (with_reducible exact l08Code_prB ‹_›) | (with_reducible exact l08Code_prB0 ‹_›))) | exact and_all (by (first | (with_reducible assumption) | (with_reducible exact l08Code_prB ‹_›) | (with_reducible exact l08Code_prB0 ‹_›))) (fun _ => rfl) | exact and_all (by (first | (with_reducible assumption) | (with_reducible exact l08Code_prB ‹_›) | (with_reducible exact l08Code_prB0 ‹_›))) (fun _ => by (first | (with_reducible assumption) | (with_reducible exact l08Code_prB ‹_›) | (with_reducible exact l08Code_prB0 ‹_›))) | exact and3 (by (first | (with_reducible assumption) | (with_reducible exact l08Code_prB ‹_›) | (with_reducible exact l08Code_prB0 ‹_›))) (by (first | (with_reducible assumption) | (with_reducible exact l08Code_prB ‹_›) | (with_reducible exact l08Code_prB0 ‹_›))) (by (first | (with_reducible assumption) | (with_reducible exact l08Code_prB ‹_›) | (with_reducible exact l08Code_prB0 ‹_›))) | exact and_two (by (first | (with_reducible assumption) | (with_reducible exact l08Code_prB ‹_›) | (with_reducible exact l08Code_prB0 ‹_›))) rfl | rfl) ?_ | refine ite_opt (fun _ => ?_) (fun _ => ?_) | rfl)
def run_s_CentreOf : List PV → Option (Bool × List TR)
  | [.v (.int .i64 p), .v (.agg ⟨[.int .i64 k0, .int .i64 k1, .int .i64 k2, .int .i64 k3, .int .i64 k4, .int .i64 k5]⟩)] => some (true, enc_a2_i (s_CentreOf p (k0, k1, k2, k3, k4, k5)))
  | _ => none
theorem sound_s_CentreOf : Sound Try.prog 11 run_s_CentreOf := by
  refine sound_of de_a2_i SO_s_CentreOf (by kernel_rfl) Try.func11 Try.ntmps11 rfl (by kernel_rfl) ?_
  intro W pvs avs rs hargs hrun
  unfold run_s_CentreOf at hrun
  split at hrun
  · simp only [Option.some.injEq, Prod.mk.injEq] at hrun
    obtain ⟨hp, rfl⟩ := hrun
    rename_i p k0 k1 k2 k3 k4 k5
    exact ⟨_, _, _, hargs, rfl, (eq_s_CentreOf p (k0, k1, k2, k3, k4, k5)).trans (tot_s_CentreOf p (k0, k1, k2, k3, k4, k5))⟩
  · cases hrun

def S_s_KindOf : Sums := ⟨tblS [(57, run_s_l08Code), (58, run_s_l08Kind)], tblM []⟩
theorem SO_s_KindOf : SumsOK Try.prog S_s_KindOf := ⟨tblS_ok ⟨⟨Try.call57, sound_s_l08Code⟩, ⟨Try.call58, sound_s_l08Kind⟩, True.intro⟩, tblM_ok True.intro⟩
def Fo_s_KindOf (p : Int) (k : Int × Int × Int × Int × Int × Int) : Option (Int × Int) :=
  (if ((s_l08Code p k) != 0) = true then some (0, (s_l08Code p k)) else (if (prB p) = true then some ((s_l08Kind p k), 0) else none))
theorem eq_s_KindOf (p : Int) (k : Int × Int × Int × Int × Int × Int) : execT Try.prog S_s_KindOf 16 16 (fun _ => 1000000) dec_i_i [.v (.int .i64 p), .v (.agg ⟨[.int .i64 k.1, .int .i64 k.2.1, .int .i64 k.2.2.1, .int .i64 k.2.2.2.1, .int .i64 k.2.2.2.2.1, .int .i64 k.2.2.2.2.2]⟩)] = Fo_s_KindOf p k := by
  kernel_rfl
def s_KindOf (p : Int) (k : Int × Int × Int × Int × Int × Int) : Int × Int :=
  (if ((s_l08Code p k) != 0) = true then (0, (s_l08Code p k)) else ((s_l08Kind p k), 0))
theorem tot_s_KindOf (p : Int) (k : Int × Int × Int × Int × Int × Int) : Fo_s_KindOf p k = some (s_KindOf p k) := by
  unfold Fo_s_KindOf s_KindOf
  (try simp only [wI_eq])
  repeat' (first | with_reducible rfl | refine chk_opt (by first | with_reducible rfl | exact Bool.true_or _ | (with_reducible exact l08Code_prB ‹_›) | (with_reducible exact l08Code_prB0 ‹_›) | exact mk_ok (by (first | (with_reducible assumption) | (with_reducible exact l08Code_prB ‹_›) | (with_reducible exact l08Code_prB0 ‹_›))) | exact and_all (by (first | (with_reducible assumption) | (with_reducible exact l08Code_prB ‹_›) | (with_reducible exact l08Code_prB0 ‹_›))) (fun _ => rfl) | exact and_all (by (first | (with_reducible assumption) | (with_reducible exact l08Code_prB ‹_›) | (with_reducible exact l08Code_prB0 ‹_›))) (fun _ => by (first | (with_reducible assumption) | (with_reducible exact l08Code_prB ‹_›) | (with_reducible exact l08Code_prB0 ‹_›))) | exact and3 (by (first | (with_reducible assumption) | (with_reducible exact l08Code_prB ‹_›) | (with_reducible exact l08Code_prB0 ‹_›))) (by (first | (with_reducible assumption) | (with_reducible exact l08Code_prB ‹_›) | (with_reducible exact l08Code_prB0 ‹_›))) (by (first | (with_reducible assumption) | (with_reducible exact l08Code_prB ‹_›) | (with_reducible exact l08Code_prB0 ‹_›))) | exact and_two (by (first | (with_reducible assumption) | (with_reducible exact l08Code_prB ‹_›) | (with_reducible exact l08Code_prB0 ‹_›))) rfl | rfl) ?_ | refine ite_opt (fun _ => ?_) (fun _ => ?_) | rfl)
def run_s_KindOf : List PV → Option (Bool × List TR)
  | [.v (.int .i64 p), .v (.agg ⟨[.int .i64 k0, .int .i64 k1, .int .i64 k2, .int .i64 k3, .int .i64 k4, .int .i64 k5]⟩)] => some (true, enc_i_i (s_KindOf p (k0, k1, k2, k3, k4, k5)))
  | _ => none
theorem sound_s_KindOf : Sound Try.prog 16 run_s_KindOf := by
  refine sound_of de_i_i SO_s_KindOf (by kernel_rfl) Try.func16 Try.ntmps16 rfl (by kernel_rfl) ?_
  intro W pvs avs rs hargs hrun
  unfold run_s_KindOf at hrun
  split at hrun
  · simp only [Option.some.injEq, Prod.mk.injEq] at hrun
    obtain ⟨hp, rfl⟩ := hrun
    rename_i p k0 k1 k2 k3 k4 k5
    exact ⟨_, _, _, hargs, rfl, (eq_s_KindOf p (k0, k1, k2, k3, k4, k5)).trans (tot_s_KindOf p (k0, k1, k2, k3, k4, k5))⟩
  · cases hrun

def S_s_DeterminantOf : Sums := ⟨tblS [(57, run_s_l08Code), (49, run_s_l08Determinant)], tblM []⟩
theorem SO_s_DeterminantOf : SumsOK Try.prog S_s_DeterminantOf := ⟨tblS_ok ⟨⟨Try.call57, sound_s_l08Code⟩, ⟨Try.call49, sound_s_l08Determinant⟩, True.intro⟩, tblM_ok True.intro⟩
def Fo_s_DeterminantOf (p : Int) (k : Int × Int × Int × Int × Int × Int) : Option (Int × Int) :=
  (if ((s_l08Code p k) != 0) = true then some (0, (s_l08Code p k)) else (if (prB p) = true then some ((s_l08Determinant p k), 0) else none))
theorem eq_s_DeterminantOf (p : Int) (k : Int × Int × Int × Int × Int × Int) : execT Try.prog S_s_DeterminantOf 18 16 (fun _ => 1000000) dec_i_i [.v (.int .i64 p), .v (.agg ⟨[.int .i64 k.1, .int .i64 k.2.1, .int .i64 k.2.2.1, .int .i64 k.2.2.2.1, .int .i64 k.2.2.2.2.1, .int .i64 k.2.2.2.2.2]⟩)] = Fo_s_DeterminantOf p k := by
  kernel_rfl
def s_DeterminantOf (p : Int) (k : Int × Int × Int × Int × Int × Int) : Int × Int :=
  (if ((s_l08Code p k) != 0) = true then (0, (s_l08Code p k)) else ((s_l08Determinant p k), 0))
theorem tot_s_DeterminantOf (p : Int) (k : Int × Int × Int × Int × Int × Int) : Fo_s_DeterminantOf p k = some (s_DeterminantOf p k) := by
  unfold Fo_s_DeterminantOf s_DeterminantOf
  (try simp only [wI_eq])
  repeat' (first | with_reducible rfl | refine chk_opt (by first | with_reducible rfl | exact Bool.true_or _ | (with_reducible exact l08Code_prB ‹_›) | (with_reducible exact l08Code_prB0 ‹_›) | exact mk_ok (by (first | (with_reducible assumption) | (with_reducible exact l08Code_prB ‹_›) | (with_reducible exact l08Code_prB0 ‹_›))) | exact and_all (by (first | (with_reducible assumption) | (with_reducible exact l08Code_prB ‹_›) | (with_reducible exact l08Code_prB0 ‹_›))) (fun _ => rfl) | exact and_all (by (first | (with_reducible assumption) | (with_reducible exact l08Code_prB ‹_›) | (with_reducible exact l08Code_prB0 ‹_›))) (fun _ => by (first | (with_reducible assumption) | (with_reducible exact l08Code_prB ‹_›) | (with_reducible exact l08Code_prB0 ‹_›))) | exact and3 (by (first | (with_reducible assumption) | (with_reducible exact l08Code_prB ‹_›) | (with_reducible exact l08Code_prB0 ‹_›))) (by (first | (with_reducible assumption) | (with_reducible exact l08Code_prB ‹_›) | (with_reducible exact l08Code_prB0 ‹_›))) (by (first | (with_reducible assumption) | (with_reducible exact l08Code_prB ‹_›) | (with_reducible exact l08Code_prB0 ‹_›))) | exact and_two (by (first | (with_reducible assumption) | (with_reducible exact l08Code_prB ‹_›) | (with_reducible exact l08Code_prB0 ‹_›))) rfl | rfl) ?_ | refine ite_opt (fun _ => ?_) (fun _ => ?_) | rfl)
def run_s_DeterminantOf : List PV → Option (Bool × List TR)
  | [.v (.int .i64 p), .v (.agg ⟨[.int .i64 k0, .int .i64 k1, .int .i64 k2, .int .i64 k3, .int .i64 k4, .int .i64 k5]⟩)] => some (true, enc_i_i (s_DeterminantOf p (k0, k1, k2, k3, k4, k5)))
  | _ => none
theorem sound_s_DeterminantOf : Sound Try.prog 18 run_s_DeterminantOf := by
  refine sound_of de_i_i SO_s_DeterminantOf (by kernel_rfl) Try.func18 Try.ntmps18 rfl (by kernel_rfl) ?_
  intro W pvs avs rs hargs hrun
  unfold run_s_DeterminantOf at hrun
  split at hrun
  · simp only [Option.some.injEq, Prod.mk.injEq] at hrun
    obtain ⟨hp, rfl⟩ := hrun
    rename_i p k0 k1 k2 k3 k4 k5
    exact ⟨_, _, _, hargs, rfl, (eq_s_DeterminantOf p (k0, k1, k2, k3, k4, k5)).trans (tot_s_DeterminantOf p (k0, k1, k2, k3, k4, k5))⟩
  · cases hrun

def S_s_PoleOf : Sums := ⟨tblS [(57, run_s_l08Code), (72, run_s_l01Lines), (49, run_s_l08Determinant), (51, run_s_l08Polar)], tblM []⟩
theorem SO_s_PoleOf : SumsOK Try.prog S_s_PoleOf := ⟨tblS_ok ⟨⟨Try.call57, sound_s_l08Code⟩, ⟨Try.call72, sound_s_l01Lines⟩, ⟨Try.call49, sound_s_l08Determinant⟩, ⟨Try.call51, sound_s_l08Polar⟩, True.intro⟩, tblM_ok True.intro⟩
def T_s_PoleOf_2 (p : Int) (k : Int × Int × Int × Int × Int × Int) (l : Int × Int × Int) (x : Int) : Tab := ⟨[.val (.int .i64 p), .val (.agg ⟨[.int .i64 k.1, .int .i64 k.2.1, .int .i64 k.2.2.1, .int .i64 k.2.2.2.1, .int .i64 k.2.2.2.2.1, .int .i64 k.2.2.2.2.2]⟩), .val (.agg ⟨[.int .i64 l.1, .int .i64 l.2.1, .int .i64 l.2.2]⟩), .junk, .ptr 16 0, .ptr 20 0, .ptr 24 0, .val (.int .i64 0), .val (.int .i64 (s_l01Lines p [l])), .val (.int .i64 x), .junk, .junk, .junk, .val (.int .i64 p), .val (.agg ⟨[.int .i64 k.1, .int .i64 k.2.1, .int .i64 k.2.2.1, .int .i64 k.2.2.2.1, .int .i64 k.2.2.2.2.1, .int .i64 k.2.2.2.2.2]⟩), .val (.int .i64 (s_l08Code p k)), .val (.int .i64 (s_l08Code p k)), .val (.bool ((s_l08Code p k) == 0)), .val (.int .i64 p), .val (.agg ⟨[.int .i64 l.1, .int .i64 l.2.1, .int .i64 l.2.2]⟩), .row 80, .val (.int .i64 (s_l01Lines p [l])), .val (.int .i64 (s_l01Lines p [l])), .val (.bool ((s_l01Lines p [l]) == 0)), .val (.bool true), .val (.int .i64 p), .val (.agg ⟨[.int .i64 k.1, .int .i64 k.2.1, .int .i64 k.2.2.1, .int .i64 k.2.2.2.1, .int .i64 k.2.2.2.2.1, .int .i64 k.2.2.2.2.2]⟩), .val (.int .i64 (s_l08Determinant p k)), .val (.bool ((s_l08Determinant p k) == 0)), .val (.bool ((s_l08Determinant p k) == 0)), .val (.int .i64 (s_l01Lines p [l])), .val (.bool ((s_l01Lines p [l]) != 0)), .junk, .junk, .junk, .junk, .junk, .junk, .junk, .junk, .junk, .junk, .junk, .junk, .junk, .junk, .junk, .junk, .junk, .junk, .junk, .junk, .junk, .junk, .junk, .junk, .junk, .junk, .junk, .junk, .junk, .junk, .junk], [(16, .box 25 [.val (.int .i64 k.1), .val (.int .i64 k.2.1), .val (.int .i64 k.2.2.1), .val (.int .i64 k.2.2.2.1), .val (.int .i64 k.2.2.2.2.1), .val (.int .i64 k.2.2.2.2.2)]), (20, .box 31 [.val (.int .i64 l.1), .val (.int .i64 l.2.1), .val (.int .i64 l.2.2)]), (24, .box 27 [.val (.int .i64 0), .val (.int .i64 0)]), (80, .row 31 3 1 (.ints [l.1, l.2.1, l.2.2]))]⟩
def T_s_PoleOf_3 (p : Int) (k : Int × Int × Int × Int × Int × Int) (l : Int × Int × Int) (x : Int) (y : Int) : Tab := ⟨[.val (.int .i64 p), .val (.agg ⟨[.int .i64 k.1, .int .i64 k.2.1, .int .i64 k.2.2.1, .int .i64 k.2.2.2.1, .int .i64 k.2.2.2.2.1, .int .i64 k.2.2.2.2.2]⟩), .val (.agg ⟨[.int .i64 l.1, .int .i64 l.2.1, .int .i64 l.2.2]⟩), .junk, .ptr 16 0, .ptr 20 0, .ptr 24 0, .val (.int .i64 0), .val (.int .i64 (s_l01Lines p [l])), .val (.int .i64 x), .val (.int .i64 y), .junk, .junk, .val (.int .i64 p), .val (.agg ⟨[.int .i64 k.1, .int .i64 k.2.1, .int .i64 k.2.2.1, .int .i64 k.2.2.2.1, .int .i64 k.2.2.2.2.1, .int .i64 k.2.2.2.2.2]⟩), .val (.int .i64 (s_l08Code p k)), .val (.int .i64 (s_l08Code p k)), .val (.bool ((s_l08Code p k) == 0)), .val (.int .i64 p), .val (.agg ⟨[.int .i64 l.1, .int .i64 l.2.1, .int .i64 l.2.2]⟩), .row 80, .val (.int .i64 (s_l01Lines p [l])), .val (.int .i64 (s_l01Lines p [l])), .val (.bool ((s_l01Lines p [l]) == 0)), .val (.bool true), .val (.int .i64 p), .val (.agg ⟨[.int .i64 k.1, .int .i64 k.2.1, .int .i64 k.2.2.1, .int .i64 k.2.2.2.1, .int .i64 k.2.2.2.2.1, .int .i64 k.2.2.2.2.2]⟩), .val (.int .i64 (s_l08Determinant p k)), .val (.bool ((s_l08Determinant p k) == 0)), .val (.bool ((s_l08Determinant p k) == 0)), .val (.int .i64 (s_l01Lines p [l])), .val (.bool ((s_l01Lines p [l]) != 0)), .junk, .junk, .val (.int .i64 x), .val (.int .i64 p), .val (.bool (decide (x < p))), .junk, .junk, .junk, .junk, .junk, .junk, .junk, .junk, .junk, .junk, .junk, .junk, .junk, .junk, .junk, .junk, .junk, .junk, .junk, .junk, .junk, .junk, .junk, .junk, .junk, .junk], [(16, .box 25 [.val (.int .i64 k.1), .val (.int .i64 k.2.1), .val (.int .i64 k.2.2.1), .val (.int .i64 k.2.2.2.1), .val (.int .i64 k.2.2.2.2.1), .val (.int .i64 k.2.2.2.2.2)]), (20, .box 31 [.val (.int .i64 l.1), .val (.int .i64 l.2.1), .val (.int .i64 l.2.2)]), (24, .box 27 [.val (.int .i64 0), .val (.int .i64 0)]), (80, .row 31 3 1 (.ints [l.1, l.2.1, l.2.2]))]⟩
def T_s_PoleOf_6 (p : Int) (k : Int × Int × Int × Int × Int × Int) (l : Int × Int × Int) (x : Int) : Tab := ⟨[.val (.int .i64 p), .val (.agg ⟨[.int .i64 k.1, .int .i64 k.2.1, .int .i64 k.2.2.1, .int .i64 k.2.2.2.1, .int .i64 k.2.2.2.2.1, .int .i64 k.2.2.2.2.2]⟩), .val (.agg ⟨[.int .i64 l.1, .int .i64 l.2.1, .int .i64 l.2.2]⟩), .junk, .ptr 16 0, .ptr 20 0, .ptr 24 0, .val (.int .i64 0), .val (.int .i64 (s_l01Lines p [l])), .val (.int .i64 x), .junk, .junk, .junk, .val (.int .i64 p), .val (.agg ⟨[.int .i64 k.1, .int .i64 k.2.1, .int .i64 k.2.2.1, .int .i64 k.2.2.2.1, .int .i64 k.2.2.2.2.1, .int .i64 k.2.2.2.2.2]⟩), .val (.int .i64 (s_l08Code p k)), .val (.int .i64 (s_l08Code p k)), .val (.bool ((s_l08Code p k) == 0)), .val (.int .i64 p), .val (.agg ⟨[.int .i64 l.1, .int .i64 l.2.1, .int .i64 l.2.2]⟩), .row 80, .val (.int .i64 (s_l01Lines p [l])), .val (.int .i64 (s_l01Lines p [l])), .val (.bool ((s_l01Lines p [l]) == 0)), .val (.bool false), .val (undef), .val (undef), .val (undef), .val (undef), .val (.bool false), .val (.int .i64 (s_l01Lines p [l])), .val (.bool ((s_l01Lines p [l]) != 0)), .junk, .junk, .junk, .junk, .junk, .junk, .junk, .junk, .junk, .junk, .junk, .junk, .junk, .junk, .junk, .junk, .junk, .junk, .junk, .junk, .junk, .junk, .junk, .junk, .junk, .junk, .junk, .junk, .junk, .junk, .junk], [(16, .box 25 [.val (.int .i64 k.1), .val (.int .i64 k.2.1), .val (.int .i64 k.2.2.1), .val (.int .i64 k.2.2.2.1), .val (.int .i64 k.2.2.2.2.1), .val (.int .i64 k.2.2.2.2.2)]), (20, .box 31 [.val (.int .i64 l.1), .val (.int .i64 l.2.1), .val (.int .i64 l.2.2)]), (24, .box 27 [.val (.int .i64 0), .val (.int .i64 0)]), (80, .row 31 3 1 (.ints [l.1, l.2.1, l.2.2]))]⟩
def T_s_PoleOf_7 (p : Int) (k : Int × Int × Int × Int × Int × Int) (l : Int × Int × Int) (x : Int) (y : Int) : Tab := ⟨[.val (.int .i64 p), .val (.agg ⟨[.int .i64 k.1, .int .i64 k.2.1, .int .i64 k.2.2.1, .int .i64 k.2.2.2.1, .int .i64 k.2.2.2.2.1, .int .i64 k.2.2.2.2.2]⟩), .val (.agg ⟨[.int .i64 l.1, .int .i64 l.2.1, .int .i64 l.2.2]⟩), .junk, .ptr 16 0, .ptr 20 0, .ptr 24 0, .val (.int .i64 0), .val (.int .i64 (s_l01Lines p [l])), .val (.int .i64 x), .val (.int .i64 y), .junk, .junk, .val (.int .i64 p), .val (.agg ⟨[.int .i64 k.1, .int .i64 k.2.1, .int .i64 k.2.2.1, .int .i64 k.2.2.2.1, .int .i64 k.2.2.2.2.1, .int .i64 k.2.2.2.2.2]⟩), .val (.int .i64 (s_l08Code p k)), .val (.int .i64 (s_l08Code p k)), .val (.bool ((s_l08Code p k) == 0)), .val (.int .i64 p), .val (.agg ⟨[.int .i64 l.1, .int .i64 l.2.1, .int .i64 l.2.2]⟩), .row 80, .val (.int .i64 (s_l01Lines p [l])), .val (.int .i64 (s_l01Lines p [l])), .val (.bool ((s_l01Lines p [l]) == 0)), .val (.bool false), .val (undef), .val (undef), .val (undef), .val (undef), .val (.bool false), .val (.int .i64 (s_l01Lines p [l])), .val (.bool ((s_l01Lines p [l]) != 0)), .junk, .junk, .val (.int .i64 x), .val (.int .i64 p), .val (.bool (decide (x < p))), .junk, .junk, .junk, .junk, .junk, .junk, .junk, .junk, .junk, .junk, .junk, .junk, .junk, .junk, .junk, .junk, .junk, .junk, .junk, .junk, .junk, .junk, .junk, .junk, .junk, .junk], [(16, .box 25 [.val (.int .i64 k.1), .val (.int .i64 k.2.1), .val (.int .i64 k.2.2.1), .val (.int .i64 k.2.2.2.1), .val (.int .i64 k.2.2.2.2.1), .val (.int .i64 k.2.2.2.2.2)]), (20, .box 31 [.val (.int .i64 l.1), .val (.int .i64 l.2.1), .val (.int .i64 l.2.2)]), (24, .box 27 [.val (.int .i64 0), .val (.int .i64 0)]), (80, .row 31 3 1 (.ints [l.1, l.2.1, l.2.2]))]⟩
def T_s_PoleOf_10 (p : Int) (k : Int × Int × Int × Int × Int × Int) (l : Int × Int × Int) (x : Int) : Tab := ⟨[.val (.int .i64 p), .val (.agg ⟨[.int .i64 k.1, .int .i64 k.2.1, .int .i64 k.2.2.1, .int .i64 k.2.2.2.1, .int .i64 k.2.2.2.2.1, .int .i64 k.2.2.2.2.2]⟩), .val (.agg ⟨[.int .i64 l.1, .int .i64 l.2.1, .int .i64 l.2.2]⟩), .junk, .ptr 16 0, .ptr 20 0, .ptr 24 0, .val (.int .i64 0), .val (.int .i64 (s_l08Code p k)), .val (.int .i64 x), .junk, .junk, .junk, .val (.int .i64 p), .val (.agg ⟨[.int .i64 k.1, .int .i64 k.2.1, .int .i64 k.2.2.1, .int .i64 k.2.2.2.1, .int .i64 k.2.2.2.2.1, .int .i64 k.2.2.2.2.2]⟩), .val (.int .i64 (s_l08Code p k)), .val (.int .i64 (s_l08Code p k)), .val (.bool ((s_l08Code p k) == 0)), .junk, .junk, .junk, .junk, .val (.int .i64 (s_l08Code p k)), .val (.bool ((s_l08Code p k) == 0)), .val (.bool true), .val (.int .i64 p), .val (.agg ⟨[.int .i64 k.1, .int .i64 k.2.1, .int .i64 k.2.2.1, .int .i64 k.2.2.2.1, .int .i64 k.2.2.2.2.1, .int .i64 k.2.2.2.2.2]⟩), .val (.int .i64 (s_l08Determinant p k)), .val (.bool ((s_l08Determinant p k) == 0)), .val (.bool ((s_l08Determinant p k) == 0)), .val (.int .i64 (s_l08Code p k)), .val (.bool ((s_l08Code p k) != 0)), .junk, .junk, .junk, .junk, .junk, .junk, .junk, .junk, .junk, .junk, .junk, .junk, .junk, .junk, .junk, .junk, .junk, .junk, .junk, .junk, .junk, .junk, .junk, .junk, .junk, .junk, .junk, .junk, .junk, .junk, .junk], [(16, .box 25 [.val (.int .i64 k.1), .val (.int .i64 k.2.1), .val (.int .i64 k.2.2.1), .val (.int .i64 k.2.2.2.1), .val (.int .i64 k.2.2.2.2.1), .val (.int .i64 k.2.2.2.2.2)]), (20, .box 31 [.val (.int .i64 l.1), .val (.int .i64 l.2.1), .val (.int .i64 l.2.2)]), (24, .box 27 [.val (.int .i64 0), .val (.int .i64 0)])]⟩
def T_s_PoleOf_11 (p : Int) (k : Int × Int × Int × Int × Int × Int) (l : Int × Int × Int) (x : Int) (y : Int) : Tab := ⟨[.val (.int .i64 p), .val (.agg ⟨[.int .i64 k.1, .int .i64 k.2.1, .int .i64 k.2.2.1, .int .i64 k.2.2.2.1, .int .i64 k.2.2.2.2.1, .int .i64 k.2.2.2.2.2]⟩), .val (.agg ⟨[.int .i64 l.1, .int .i64 l.2.1, .int .i64 l.2.2]⟩), .junk, .ptr 16 0, .ptr 20 0, .ptr 24 0, .val (.int .i64 0), .val (.int .i64 (s_l08Code p k)), .val (.int .i64 x), .val (.int .i64 y), .junk, .junk, .val (.int .i64 p), .val (.agg ⟨[.int .i64 k.1, .int .i64 k.2.1, .int .i64 k.2.2.1, .int .i64 k.2.2.2.1, .int .i64 k.2.2.2.2.1, .int .i64 k.2.2.2.2.2]⟩), .val (.int .i64 (s_l08Code p k)), .val (.int .i64 (s_l08Code p k)), .val (.bool ((s_l08Code p k) == 0)), .junk, .junk, .junk, .junk, .val (.int .i64 (s_l08Code p k)), .val (.bool ((s_l08Code p k) == 0)), .val (.bool true), .val (.int .i64 p), .val (.agg ⟨[.int .i64 k.1, .int .i64 k.2.1, .int .i64 k.2.2.1, .int .i64 k.2.2.2.1, .int .i64 k.2.2.2.2.1, .int .i64 k.2.2.2.2.2]⟩), .val (.int .i64 (s_l08Determinant p k)), .val (.bool ((s_l08Determinant p k) == 0)), .val (.bool ((s_l08Determinant p k) == 0)), .val (.int .i64 (s_l08Code p k)), .val (.bool ((s_l08Code p k) != 0)), .junk, .junk, .val (.int .i64 x), .val (.int .i64 p), .val (.bool (decide (x < p))), .junk, .junk, .junk, .junk, .junk, .junk, .junk, .junk, .junk, .junk, .junk, .junk, .junk, .junk, .junk, .junk, .junk, .junk, .junk, .junk, .junk, .junk, .junk, .junk, .junk, .junk], [(16, .box 25 [.val (.int .i64 k.1), .val (.int .i64 k.2.1), .val (.int .i64 k.2.2.1), .val (.int .i64 k.2.2.2.1), .val (.int .i64 k.2.2.2.2.1), .val (.int .i64 k.2.2.2.2.2)]), (20, .box 31 [.val (.int .i64 l.1), .val (.int .i64 l.2.1), .val (.int .i64 l.2.2)]), (24, .box 27 [.val (.int .i64 0), .val (.int .i64 0)])]⟩
def T_s_PoleOf_14 (p : Int) (k : Int × Int × Int × Int × Int × Int) (l : Int × Int × Int) (x : Int) : Tab := ⟨[.val (.int .i64 p), .val (.agg ⟨[.int .i64 k.1, .int .i64 k.2.1, .int .i64 k.2.2.1, .int .i64 k.2.2.2.1, .int .i64 k.2.2.2.2.1, .int .i64 k.2.2.2.2.2]⟩), .val (.agg ⟨[.int .i64 l.1, .int .i64 l.2.1, .int .i64 l.2.2]⟩), .junk, .ptr 16 0, .ptr 20 0, .ptr 24 0, .val (.int .i64 0), .val (.int .i64 (s_l08Code p k)), .val (.int .i64 x), .junk, .junk, .junk, .val (.int .i64 p), .val (.agg ⟨[.int .i64 k.1, .int .i64 k.2.1, .int .i64 k.2.2.1, .int .i64 k.2.2.2.1, .int .i64 k.2.2.2.2.1, .int .i64 k.2.2.2.2.2]⟩), .val (.int .i64 (s_l08Code p k)), .val (.int .i64 (s_l08Code p k)), .val (.bool ((s_l08Code p k) == 0)), .junk, .junk, .junk, .junk, .val (.int .i64 (s_l08Code p k)), .val (.bool ((s_l08Code p k) == 0)), .val (.bool false), .val (undef), .val (undef), .val (undef), .val (undef), .val (.bool false), .val (.int .i64 (s_l08Code p k)), .val (.bool ((s_l08Code p k) != 0)), .junk, .junk, .junk, .junk, .junk, .junk, .junk, .junk, .junk, .junk, .junk, .junk, .junk, .junk, .junk, .junk, .junk, .junk, .junk, .junk, .junk, .junk, .junk, .junk, .junk, .junk, .junk, .junk, .junk, .junk, .junk], [(16, .box 25 [.val (.int .i64 k.1), .val (.int .i64 k.2.1), .val (.int .i64 k.2.2.1), .val (.int .i64 k.2.2.2.1), .val (.int .i64 k.2.2.2.2.1), .val (.int .i64 k.2.2.2.2.2)]), (20, .box 31 [.val (.int .i64 l.1), .val (.int .i64 l.2.1), .val (.int .i64 l.2.2)]), (24, .box 27 [.val (.int .i64 0), .val (.int .i64 0)])]⟩
def T_s_PoleOf_15 (p : Int) (k : Int × Int × Int × Int × Int × Int) (l : Int × Int × Int) (x : Int) (y : Int) : Tab := ⟨[.val (.int .i64 p), .val (.agg ⟨[.int .i64 k.1, .int .i64 k.2.1, .int .i64 k.2.2.1, .int .i64 k.2.2.2.1, .int .i64 k.2.2.2.2.1, .int .i64 k.2.2.2.2.2]⟩), .val (.agg ⟨[.int .i64 l.1, .int .i64 l.2.1, .int .i64 l.2.2]⟩), .junk, .ptr 16 0, .ptr 20 0, .ptr 24 0, .val (.int .i64 0), .val (.int .i64 (s_l08Code p k)), .val (.int .i64 x), .val (.int .i64 y), .junk, .junk, .val (.int .i64 p), .val (.agg ⟨[.int .i64 k.1, .int .i64 k.2.1, .int .i64 k.2.2.1, .int .i64 k.2.2.2.1, .int .i64 k.2.2.2.2.1, .int .i64 k.2.2.2.2.2]⟩), .val (.int .i64 (s_l08Code p k)), .val (.int .i64 (s_l08Code p k)), .val (.bool ((s_l08Code p k) == 0)), .junk, .junk, .junk, .junk, .val (.int .i64 (s_l08Code p k)), .val (.bool ((s_l08Code p k) == 0)), .val (.bool false), .val (undef), .val (undef), .val (undef), .val (undef), .val (.bool false), .val (.int .i64 (s_l08Code p k)), .val (.bool ((s_l08Code p k) != 0)), .junk, .junk, .val (.int .i64 x), .val (.int .i64 p), .val (.bool (decide (x < p))), .junk, .junk, .junk, .junk, .junk, .junk, .junk, .junk, .junk, .junk, .junk, .junk, .junk, .junk, .junk, .junk, .junk, .junk, .junk, .junk, .junk, .junk, .junk, .junk, .junk, .junk], [(16, .box 25 [.val (.int .i64 k.1), .val (.int .i64 k.2.1), .val (.int .i64 k.2.2.1), .val (.int .i64 k.2.2.2.1), .val (.int .i64 k.2.2.2.2.1), .val (.int .i64 k.2.2.2.2.2)]), (20, .box 31 [.val (.int .i64 l.1), .val (.int .i64 l.2.1), .val (.int .i64 l.2.2)]), (24, .box 27 [.val (.int .i64 0), .val (.int .i64 0)])]⟩
def X_s_PoleOf_3 (P : Program) (fu : Nat) (p : Int) (k : Int × Int × Int × Int × Int × Int) (l : Int × Int × Int) (x : Int) (rc2 : Tab → Option ((Int × Int) × Int)) (f : Nat) (y : Int) : Option ((Int × Int) × Int) := loopK (exec P S_s_PoleOf 63 (fuelOf fu []) (Code.sub [1, 1, 1, 1, 1, 0, 1, 0, 0, 1, 0, 0, 1, 0, 0] (bodyF P 21))) f (T_s_PoleOf_3 p k l x y) (kBlock 2 (kBlock 1 (kSeq (fun zs9 => exec P S_s_PoleOf 63 (fuelOf fu []) (Code.sub [1, 1, 1, 1, 1, 0, 1, 0, 0, 1, 1] (bodyF P 21)) zs9 (kLoop rc2 (T_s_PoleOf_2 p k l x) (kBlock 0 (kSeq (fun zs9 => exec P S_s_PoleOf 63 (fuelOf fu []) (Code.sub [1, 1, 1, 1, 1, 1] (bodyF P 21)) zs9 (finT P 21 dec_a2_i)) (finT P 21 dec_a2_i))))) (kLoop rc2 (T_s_PoleOf_2 p k l x) (kBlock 0 (kSeq (fun zs9 => exec P S_s_PoleOf 63 (fuelOf fu []) (Code.sub [1, 1, 1, 1, 1, 1] (bodyF P 21)) zs9 (finT P 21 dec_a2_i)) (finT P 21 dec_a2_i)))))))
def B_s_PoleOf_3 (p : Int) (k : Int × Int × Int × Int × Int × Int) (l : Int × Int × Int) (x : Int) (rec2 : Int → Option ((Int × Int) × Int)) (rec3 : Int → Option ((Int × Int) × Int)) (y : Int) : Option ((Int × Int) × Int) :=
  (if (decide (y < p)) = true then (if (prB p) = true then (if ((s_l08Polar p k (x, y)).2) = true then (if (((s_l08Polar p k (x, y)).1) == l) = true then some ((x, y), 0) else rec3 (wI (y + 1))) else rec3 (wI (y + 1))) else none) else rec2 (wI (x + 1)))
def L_s_PoleOf_3 (fu : Nat) (p : Int) (k : Int × Int × Int × Int × Int × Int) (l : Int × Int × Int) (x : Int) (rec2 : Int → Option ((Int × Int) × Int)) : Nat → Int → Option ((Int × Int) × Int)
  | 0, _ => none
  | f + 1, y => B_s_PoleOf_3 p k l x rec2 (L_s_PoleOf_3 fu p k l x rec2 f) y
theorem loop_s_PoleOf_3 (fu : Nat) (p : Int) (k : Int × Int × Int × Int × Int × Int) (l : Int × Int × Int) (x : Int) (rc2 : Tab → Option ((Int × Int) × Int)) : ∀ (f : Nat) (y : Int), X_s_PoleOf_3 Try.prog fu p k l x rc2 f y = L_s_PoleOf_3 fu p k l x (fun x => rc2 (T_s_PoleOf_2 p k l x)) f y := by
  intro f
  induction f with
  | zero => intros; rfl
  | succ f ih =>
    intro y
    have h1 : X_s_PoleOf_3 Try.prog fu p k l x rc2 (f + 1) y = B_s_PoleOf_3 p k l x (fun x => rc2 (T_s_PoleOf_2 p k l x)) (X_s_PoleOf_3 Try.prog fu p k l x rc2 f) y := by kernel_rfl
    have h2 : X_s_PoleOf_3 Try.prog fu p k l x rc2 f = L_s_PoleOf_3 fu p k l x (fun x => rc2 (T_s_PoleOf_2 p k l x)) f := by funext y; exact ih y
    rw [h1, h2]
    rfl
def X_s_PoleOf_2 (P : Program) (fu : Nat) (p : Int) (k : Int × Int × Int × Int × Int × Int) (l : Int × Int × Int) (f : Nat) (x : Int) : Option ((Int × Int) × Int) := loopK (exec P S_s_PoleOf 63 (fuelOf fu []) (Code.sub [1, 1, 1, 1, 1, 0, 1, 0, 0] (bodyF P 21))) f (T_s_PoleOf_2 p k l x) (kBlock 0 (kSeq (fun zs9 => exec P S_s_PoleOf 63 (fuelOf fu []) (Code.sub [1, 1, 1, 1, 1, 1] (bodyF P 21)) zs9 (finT P 21 dec_a2_i)) (finT P 21 dec_a2_i)))
def B_s_PoleOf_2 (p : Int) (k : Int × Int × Int × Int × Int × Int) (l : Int × Int × Int) (lo3 : Int → Option ((Int × Int) × Int)) (rec2 : Int → Option ((Int × Int) × Int)) (x : Int) : Option ((Int × Int) × Int) :=
  (if (decide (x < p)) = true then lo3 0 else some ((0, 0), 4))
def L_s_PoleOf_2 (fu : Nat) (p : Int) (k : Int × Int × Int × Int × Int × Int) (l : Int × Int × Int) : Nat → Int → Option ((Int × Int) × Int)
  | 0, _ => none
  | f + 1, x => B_s_PoleOf_2 p k l (L_s_PoleOf_3 fu p k l x (L_s_PoleOf_2 fu p k l f) fu) (L_s_PoleOf_2 fu p k l f) x
theorem loop_s_PoleOf_2 (fu : Nat) (p : Int) (k : Int × Int × Int × Int × Int × Int) (l : Int × Int × Int) : ∀ (f : Nat) (x : Int), X_s_PoleOf_2 Try.prog fu p k l f x = L_s_PoleOf_2 fu p k l f x := by
  intro f
  induction f with
  | zero => intros; rfl
  | succ f ih =>
    intro x
    have h1 : X_s_PoleOf_2 Try.prog fu p k l (f + 1) x = B_s_PoleOf_2 p k l (X_s_PoleOf_3 Try.prog fu p k l x (fun t => loopK (exec Try.prog S_s_PoleOf 63 (fuelOf fu []) (Code.sub [1, 1, 1, 1, 1, 0, 1, 0, 0] (bodyF Try.prog 21))) f t (kBlock 0 (kSeq (fun zs9 => exec Try.prog S_s_PoleOf 63 (fuelOf fu []) (Code.sub [1, 1, 1, 1, 1, 1] (bodyF Try.prog 21)) zs9 (finT Try.prog 21 dec_a2_i)) (finT Try.prog 21 dec_a2_i)))) fu) (X_s_PoleOf_2 Try.prog fu p k l f) x := by kernel_rfl
    have h2 : X_s_PoleOf_2 Try.prog fu p k l f = L_s_PoleOf_2 fu p k l f := by funext x; exact ih x
    have c3 : (X_s_PoleOf_3 Try.prog fu p k l x (fun t => loopK (exec Try.prog S_s_PoleOf 63 (fuelOf fu []) (Code.sub [1, 1, 1, 1, 1, 0, 1, 0, 0] (bodyF Try.prog 21))) f t (kBlock 0 (kSeq (fun zs9 => exec Try.prog S_s_PoleOf 63 (fuelOf fu []) (Code.sub [1, 1, 1, 1, 1, 1] (bodyF Try.prog 21)) zs9 (finT Try.prog 21 dec_a2_i)) (finT Try.prog 21 dec_a2_i)))) fu) = L_s_PoleOf_3 fu p k l x (X_s_PoleOf_2 Try.prog fu p k l f) fu := by funext y; exact loop_s_PoleOf_3 fu p k l x (fun t => loopK (exec Try.prog S_s_PoleOf 63 (fuelOf fu []) (Code.sub [1, 1, 1, 1, 1, 0, 1, 0, 0] (bodyF Try.prog 21))) f t (kBlock 0 (kSeq (fun zs9 => exec Try.prog S_s_PoleOf 63 (fuelOf fu []) (Code.sub [1, 1, 1, 1, 1, 1] (bodyF Try.prog 21)) zs9 (finT Try.prog 21 dec_a2_i)) (finT Try.prog 21 dec_a2_i)))) fu y
    rw [h1, c3, h2]
    rfl
def X_s_PoleOf_7 (P : Program) (fu : Nat) (p : Int) (k : Int × Int × Int × Int × Int × Int) (l : Int × Int × Int) (x : Int) (rc6 : Tab → Option ((Int × Int) × Int)) (f : Nat) (y : Int) : Option ((Int × Int) × Int) := loopK (exec P S_s_PoleOf 63 (fuelOf fu []) (Code.sub [1, 1, 1, 1, 1, 0, 1, 0, 0, 1, 0, 0, 1, 0, 0] (bodyF P 21))) f (T_s_PoleOf_7 p k l x y) (kBlock 2 (kBlock 1 (kSeq (fun zs9 => exec P S_s_PoleOf 63 (fuelOf fu []) (Code.sub [1, 1, 1, 1, 1, 0, 1, 0, 0, 1, 1] (bodyF P 21)) zs9 (kLoop rc6 (T_s_PoleOf_6 p k l x) (kBlock 0 (kSeq (fun zs9 => exec P S_s_PoleOf 63 (fuelOf fu []) (Code.sub [1, 1, 1, 1, 1, 1] (bodyF P 21)) zs9 (finT P 21 dec_a2_i)) (finT P 21 dec_a2_i))))) (kLoop rc6 (T_s_PoleOf_6 p k l x) (kBlock 0 (kSeq (fun zs9 => exec P S_s_PoleOf 63 (fuelOf fu []) (Code.sub [1, 1, 1, 1, 1, 1] (bodyF P 21)) zs9 (finT P 21 dec_a2_i)) (finT P 21 dec_a2_i)))))))
def B_s_PoleOf_7 (p : Int) (k : Int × Int × Int × Int × Int × Int) (l : Int × Int × Int) (x : Int) (rec6 : Int → Option ((Int × Int) × Int)) (rec7 : Int → Option ((Int × Int) × Int)) (y : Int) : Option ((Int × Int) × Int) :=
  (if (decide (y < p)) = true then (if (prB p) = true then (if ((s_l08Polar p k (x, y)).2) = true then (if (((s_l08Polar p k (x, y)).1) == l) = true then some ((x, y), 0) else rec7 (wI (y + 1))) else rec7 (wI (y + 1))) else none) else rec6 (wI (x + 1)))
def L_s_PoleOf_7 (fu : Nat) (p : Int) (k : Int × Int × Int × Int × Int × Int) (l : Int × Int × Int) (x : Int) (rec6 : Int → Option ((Int × Int) × Int)) : Nat → Int → Option ((Int × Int) × Int)
  | 0, _ => none
  | f + 1, y => B_s_PoleOf_7 p k l x rec6 (L_s_PoleOf_7 fu p k l x rec6 f) y
theorem loop_s_PoleOf_7 (fu : Nat) (p : Int) (k : Int × Int × Int × Int × Int × Int) (l : Int × Int × Int) (x : Int) (rc6 : Tab → Option ((Int × Int) × Int)) : ∀ (f : Nat) (y : Int), X_s_PoleOf_7 Try.prog fu p k l x rc6 f y = L_s_PoleOf_7 fu p k l x (fun x => rc6 (T_s_PoleOf_6 p k l x)) f y := by
  intro f
  induction f with
  | zero => intros; rfl
  | succ f ih =>
    intro y
    have h1 : X_s_PoleOf_7 Try.prog fu p k l x rc6 (f + 1) y = B_s_PoleOf_7 p k l x (fun x => rc6 (T_s_PoleOf_6 p k l x)) (X_s_PoleOf_7 Try.prog fu p k l x rc6 f) y := by kernel_rfl
    have h2 : X_s_PoleOf_7 Try.prog fu p k l x rc6 f = L_s_PoleOf_7 fu p k l x (fun x => rc6 (T_s_PoleOf_6 p k l x)) f := by funext y; exact ih y
    rw [h1, h2]
    rfl
def X_s_PoleOf_6 (P : Program) (fu : Nat) (p : Int) (k : Int × Int × Int × Int × Int × Int) (l : Int × Int × Int) (f : Nat) (x : Int) : Option ((Int × Int) × Int) := loopK (exec P S_s_PoleOf 63 (fuelOf fu []) (Code.sub [1, 1, 1, 1, 1, 0, 1, 0, 0] (bodyF P 21))) f (T_s_PoleOf_6 p k l x) (kBlock 0 (kSeq (fun zs9 => exec P S_s_PoleOf 63 (fuelOf fu []) (Code.sub [1, 1, 1, 1, 1, 1] (bodyF P 21)) zs9 (finT P 21 dec_a2_i)) (finT P 21 dec_a2_i)))
def B_s_PoleOf_6 (p : Int) (k : Int × Int × Int × Int × Int × Int) (l : Int × Int × Int) (lo7 : Int → Option ((Int × Int) × Int)) (rec6 : Int → Option ((Int × Int) × Int)) (x : Int) : Option ((Int × Int) × Int) :=
  (if (decide (x < p)) = true then lo7 0 else some ((0, 0), 4))
def L_s_PoleOf_6 (fu : Nat) (p : Int) (k : Int × Int × Int × Int × Int × Int) (l : Int × Int × Int) : Nat → Int → Option ((Int × Int) × Int)
  | 0, _ => none
  | f + 1, x => B_s_PoleOf_6 p k l (L_s_PoleOf_7 fu p k l x (L_s_PoleOf_6 fu p k l f) fu) (L_s_PoleOf_6 fu p k l f) x
theorem loop_s_PoleOf_6 (fu : Nat) (p : Int) (k : Int × Int × Int × Int × Int × Int) (l : Int × Int × Int) : ∀ (f : Nat) (x : Int), X_s_PoleOf_6 Try.prog fu p k l f x = L_s_PoleOf_6 fu p k l f x := by
  intro f
  induction f with
  | zero => intros; rfl
  | succ f ih =>
    intro x
    have h1 : X_s_PoleOf_6 Try.prog fu p k l (f + 1) x = B_s_PoleOf_6 p k l (X_s_PoleOf_7 Try.prog fu p k l x (fun t => loopK (exec Try.prog S_s_PoleOf 63 (fuelOf fu []) (Code.sub [1, 1, 1, 1, 1, 0, 1, 0, 0] (bodyF Try.prog 21))) f t (kBlock 0 (kSeq (fun zs9 => exec Try.prog S_s_PoleOf 63 (fuelOf fu []) (Code.sub [1, 1, 1, 1, 1, 1] (bodyF Try.prog 21)) zs9 (finT Try.prog 21 dec_a2_i)) (finT Try.prog 21 dec_a2_i)))) fu) (X_s_PoleOf_6 Try.prog fu p k l f) x := by kernel_rfl
    have h2 : X_s_PoleOf_6 Try.prog fu p k l f = L_s_PoleOf_6 fu p k l f := by funext x; exact ih x
    have c7 : (X_s_PoleOf_7 Try.prog fu p k l x (fun t => loopK (exec Try.prog S_s_PoleOf 63 (fuelOf fu []) (Code.sub [1, 1, 1, 1, 1, 0, 1, 0, 0] (bodyF Try.prog 21))) f t (kBlock 0 (kSeq (fun zs9 => exec Try.prog S_s_PoleOf 63 (fuelOf fu []) (Code.sub [1, 1, 1, 1, 1, 1] (bodyF Try.prog 21)) zs9 (finT Try.prog 21 dec_a2_i)) (finT Try.prog 21 dec_a2_i)))) fu) = L_s_PoleOf_7 fu p k l x (X_s_PoleOf_6 Try.prog fu p k l f) fu := by funext y; exact loop_s_PoleOf_7 fu p k l x (fun t => loopK (exec Try.prog S_s_PoleOf 63 (fuelOf fu []) (Code.sub [1, 1, 1, 1, 1, 0, 1, 0, 0] (bodyF Try.prog 21))) f t (kBlock 0 (kSeq (fun zs9 => exec Try.prog S_s_PoleOf 63 (fuelOf fu []) (Code.sub [1, 1, 1, 1, 1, 1] (bodyF Try.prog 21)) zs9 (finT Try.prog 21 dec_a2_i)) (finT Try.prog 21 dec_a2_i)))) fu y
    rw [h1, c7, h2]
    rfl
def X_s_PoleOf_11 (P : Program) (fu : Nat) (p : Int) (k : Int × Int × Int × Int × Int × Int) (l : Int × Int × Int) (x : Int) (rc10 : Tab → Option ((Int × Int) × Int)) (f : Nat) (y : Int) : Option ((Int × Int) × Int) := loopK (exec P S_s_PoleOf 63 (fuelOf fu []) (Code.sub [1, 1, 1, 1, 1, 0, 1, 0, 0, 1, 0, 0, 1, 0, 0] (bodyF P 21))) f (T_s_PoleOf_11 p k l x y) (kBlock 2 (kBlock 1 (kSeq (fun zs9 => exec P S_s_PoleOf 63 (fuelOf fu []) (Code.sub [1, 1, 1, 1, 1, 0, 1, 0, 0, 1, 1] (bodyF P 21)) zs9 (kLoop rc10 (T_s_PoleOf_10 p k l x) (kBlock 0 (kSeq (fun zs9 => exec P S_s_PoleOf 63 (fuelOf fu []) (Code.sub [1, 1, 1, 1, 1, 1] (bodyF P 21)) zs9 (finT P 21 dec_a2_i)) (finT P 21 dec_a2_i))))) (kLoop rc10 (T_s_PoleOf_10 p k l x) (kBlock 0 (kSeq (fun zs9 => exec P S_s_PoleOf 63 (fuelOf fu []) (Code.sub [1, 1, 1, 1, 1, 1] (bodyF P 21)) zs9 (finT P 21 dec_a2_i)) (finT P 21 dec_a2_i)))))))
def B_s_PoleOf_11 (p : Int) (k : Int × Int × Int × Int × Int × Int) (l : Int × Int × Int) (x : Int) (rec10 : Int → Option ((Int × Int) × Int)) (rec11 : Int → Option ((Int × Int) × Int)) (y : Int) : Option ((Int × Int) × Int) :=
  (if (decide (y < p)) = true then (if (prB p) = true then (if ((s_l08Polar p k (x, y)).2) = true then (if (((s_l08Polar p k (x, y)).1) == l) = true then some ((x, y), 0) else rec11 (wI (y + 1))) else rec11 (wI (y + 1))) else none) else rec10 (wI (x + 1)))
def L_s_PoleOf_11 (fu : Nat) (p : Int) (k : Int × Int × Int × Int × Int × Int) (l : Int × Int × Int) (x : Int) (rec10 : Int → Option ((Int × Int) × Int)) : Nat → Int → Option ((Int × Int) × Int)
  | 0, _ => none
  | f + 1, y => B_s_PoleOf_11 p k l x rec10 (L_s_PoleOf_11 fu p k l x rec10 f) y
theorem loop_s_PoleOf_11 (fu : Nat) (p : Int) (k : Int × Int × Int × Int × Int × Int) (l : Int × Int × Int) (x : Int) (rc10 : Tab → Option ((Int × Int) × Int)) : ∀ (f : Nat) (y : Int), X_s_PoleOf_11 Try.prog fu p k l x rc10 f y = L_s_PoleOf_11 fu p k l x (fun x => rc10 (T_s_PoleOf_10 p k l x)) f y := by
  intro f
  induction f with
  | zero => intros; rfl
  | succ f ih =>
    intro y
    have h1 : X_s_PoleOf_11 Try.prog fu p k l x rc10 (f + 1) y = B_s_PoleOf_11 p k l x (fun x => rc10 (T_s_PoleOf_10 p k l x)) (X_s_PoleOf_11 Try.prog fu p k l x rc10 f) y := by kernel_rfl
    have h2 : X_s_PoleOf_11 Try.prog fu p k l x rc10 f = L_s_PoleOf_11 fu p k l x (fun x => rc10 (T_s_PoleOf_10 p k l x)) f := by funext y; exact ih y
    rw [h1, h2]
    rfl
def X_s_PoleOf_10 (P : Program) (fu : Nat) (p : Int) (k : Int × Int × Int × Int × Int × Int) (l : Int × Int × Int) (f : Nat) (x : Int) : Option ((Int × Int) × Int) := loopK (exec P S_s_PoleOf 63 (fuelOf fu []) (Code.sub [1, 1, 1, 1, 1, 0, 1, 0, 0] (bodyF P 21))) f (T_s_PoleOf_10 p k l x) (kBlock 0 (kSeq (fun zs9 => exec P S_s_PoleOf 63 (fuelOf fu []) (Code.sub [1, 1, 1, 1, 1, 1] (bodyF P 21)) zs9 (finT P 21 dec_a2_i)) (finT P 21 dec_a2_i)))
def B_s_PoleOf_10 (p : Int) (k : Int × Int × Int × Int × Int × Int) (l : Int × Int × Int) (lo11 : Int → Option ((Int × Int) × Int)) (rec10 : Int → Option ((Int × Int) × Int)) (x : Int) : Option ((Int × Int) × Int) :=
  (if (decide (x < p)) = true then lo11 0 else some ((0, 0), 4))
def L_s_PoleOf_10 (fu : Nat) (p : Int) (k : Int × Int × Int × Int × Int × Int) (l : Int × Int × Int) : Nat → Int → Option ((Int × Int) × Int)
  | 0, _ => none
  | f + 1, x => B_s_PoleOf_10 p k l (L_s_PoleOf_11 fu p k l x (L_s_PoleOf_10 fu p k l f) fu) (L_s_PoleOf_10 fu p k l f) x
theorem loop_s_PoleOf_10 (fu : Nat) (p : Int) (k : Int × Int × Int × Int × Int × Int) (l : Int × Int × Int) : ∀ (f : Nat) (x : Int), X_s_PoleOf_10 Try.prog fu p k l f x = L_s_PoleOf_10 fu p k l f x := by
  intro f
  induction f with
  | zero => intros; rfl
  | succ f ih =>
    intro x
    have h1 : X_s_PoleOf_10 Try.prog fu p k l (f + 1) x = B_s_PoleOf_10 p k l (X_s_PoleOf_11 Try.prog fu p k l x (fun t => loopK (exec Try.prog S_s_PoleOf 63 (fuelOf fu []) (Code.sub [1, 1, 1, 1, 1, 0, 1, 0, 0] (bodyF Try.prog 21))) f t (kBlock 0 (kSeq (fun zs9 => exec Try.prog S_s_PoleOf 63 (fuelOf fu []) (Code.sub [1, 1, 1, 1, 1, 1] (bodyF Try.prog 21)) zs9 (finT Try.prog 21 dec_a2_i)) (finT Try.prog 21 dec_a2_i)))) fu) (X_s_PoleOf_10 Try.prog fu p k l f) x := by kernel_rfl
    have h2 : X_s_PoleOf_10 Try.prog fu p k l f = L_s_PoleOf_10 fu p k l f := by funext x; exact ih x
    have c11 : (X_s_PoleOf_11 Try.prog fu p k l x (fun t => loopK (exec Try.prog S_s_PoleOf 63 (fuelOf fu []) (Code.sub [1, 1, 1, 1, 1, 0, 1, 0, 0] (bodyF Try.prog 21))) f t (kBlock 0 (kSeq (fun zs9 => exec Try.prog S_s_PoleOf 63 (fuelOf fu []) (Code.sub [1, 1, 1, 1, 1, 1] (bodyF Try.prog 21)) zs9 (finT Try.prog 21 dec_a2_i)) (finT Try.prog 21 dec_a2_i)))) fu) = L_s_PoleOf_11 fu p k l x (X_s_PoleOf_10 Try.prog fu p k l f) fu := by funext y; exact loop_s_PoleOf_11 fu p k l x (fun t => loopK (exec Try.prog S_s_PoleOf 63 (fuelOf fu []) (Code.sub [1, 1, 1, 1, 1, 0, 1, 0, 0] (bodyF Try.prog 21))) f t (kBlock 0 (kSeq (fun zs9 => exec Try.prog S_s_PoleOf 63 (fuelOf fu []) (Code.sub [1, 1, 1, 1, 1, 1] (bodyF Try.prog 21)) zs9 (finT Try.prog 21 dec_a2_i)) (finT Try.prog 21 dec_a2_i)))) fu y
    rw [h1, c11, h2]
    rfl
def X_s_PoleOf_15 (P : Program) (fu : Nat) (p : Int) (k : Int × Int × Int × Int × Int × Int) (l : Int × Int × Int) (x : Int) (rc14 : Tab → Option ((Int × Int) × Int)) (f : Nat) (y : Int) : Option ((Int × Int) × Int) := loopK (exec P S_s_PoleOf 63 (fuelOf fu []) (Code.sub [1, 1, 1, 1, 1, 0, 1, 0, 0, 1, 0, 0, 1, 0, 0] (bodyF P 21))) f (T_s_PoleOf_15 p k l x y) (kBlock 2 (kBlock 1 (kSeq (fun zs9 => exec P S_s_PoleOf 63 (fuelOf fu []) (Code.sub [1, 1, 1, 1, 1, 0, 1, 0, 0, 1, 1] (bodyF P 21)) zs9 (kLoop rc14 (T_s_PoleOf_14 p k l x) (kBlock 0 (kSeq (fun zs9 => exec P S_s_PoleOf 63 (fuelOf fu []) (Code.sub [1, 1, 1, 1, 1, 1] (bodyF P 21)) zs9 (finT P 21 dec_a2_i)) (finT P 21 dec_a2_i))))) (kLoop rc14 (T_s_PoleOf_14 p k l x) (kBlock 0 (kSeq (fun zs9 => exec P S_s_PoleOf 63 (fuelOf fu []) (Code.sub [1, 1, 1, 1, 1, 1] (bodyF P 21)) zs9 (finT P 21 dec_a2_i)) (finT P 21 dec_a2_i)))))))
def B_s_PoleOf_15 (p : Int) (k : Int × Int × Int × Int × Int × Int) (l : Int × Int × Int) (x : Int) (rec14 : Int → Option ((Int × Int) × Int)) (rec15 : Int → Option ((Int × Int) × Int)) (y : Int) : Option ((Int × Int) × Int) :=
  (if (decide (y < p)) = true then (if (prB p) = true then (if ((s_l08Polar p k (x, y)).2) = true then (if (((s_l08Polar p k (x, y)).1) == l) = true then some ((x, y), 0) else rec15 (wI (y + 1))) else rec15 (wI (y + 1))) else none) else rec14 (wI (x + 1)))
def L_s_PoleOf_15 (fu : Nat) (p : Int) (k : Int × Int × Int × Int × Int × Int) (l : Int × Int × Int) (x : Int) (rec14 : Int → Option ((Int × Int) × Int)) : Nat → Int → Option ((Int × Int) × Int)
  | 0, _ => none
  | f + 1, y => B_s_PoleOf_15 p k l x rec14 (L_s_PoleOf_15 fu p k l x rec14 f) y
theorem loop_s_PoleOf_15 (fu : Nat) (p : Int) (k : Int × Int × Int × Int × Int × Int) (l : Int × Int × Int) (x : Int) (rc14 : Tab → Option ((Int × Int) × Int)) : ∀ (f : Nat) (y : Int), X_s_PoleOf_15 Try.prog fu p k l x rc14 f y = L_s_PoleOf_15 fu p k l x (fun x => rc14 (T_s_PoleOf_14 p k l x)) f y := by
  intro f
  induction f with
  | zero => intros; rfl
  | succ f ih =>
    intro y
    have h1 : X_s_PoleOf_15 Try.prog fu p k l x rc14 (f + 1) y = B_s_PoleOf_15 p k l x (fun x => rc14 (T_s_PoleOf_14 p k l x)) (X_s_PoleOf_15 Try.prog fu p k l x rc14 f) y := by kernel_rfl
    have h2 : X_s_PoleOf_15 Try.prog fu p k l x rc14 f = L_s_PoleOf_15 fu p k l x (fun x => rc14 (T_s_PoleOf_14 p k l x)) f := by funext y; exact ih y
    rw [h1, h2]
    rfl
def X_s_PoleOf_14 (P : Program) (fu : Nat) (p : Int) (k : Int × Int × Int × Int × Int × Int) (l : Int × Int × Int) (f : Nat) (x : Int) : Option ((Int × Int) × Int) := loopK (exec P S_s_PoleOf 63 (fuelOf fu []) (Code.sub [1, 1, 1, 1, 1, 0, 1, 0, 0] (bodyF P 21))) f (T_s_PoleOf_14 p k l x) (kBlock 0 (kSeq (fun zs9 => exec P S_s_PoleOf 63 (fuelOf fu []) (Code.sub [1, 1, 1, 1, 1, 1] (bodyF P 21)) zs9 (finT P 21 dec_a2_i)) (finT P 21 dec_a2_i)))
def B_s_PoleOf_14 (p : Int) (k : Int × Int × Int × Int × Int × Int) (l : Int × Int × Int) (lo15 : Int → Option ((Int × Int) × Int)) (rec14 : Int → Option ((Int × Int) × Int)) (x : Int) : Option ((Int × Int) × Int) :=
  (if (decide (x < p)) = true then lo15 0 else some ((0, 0), 4))
def L_s_PoleOf_14 (fu : Nat) (p : Int) (k : Int × Int × Int × Int × Int × Int) (l : Int × Int × Int) : Nat → Int → Option ((Int × Int) × Int)
  | 0, _ => none
  | f + 1, x => B_s_PoleOf_14 p k l (L_s_PoleOf_15 fu p k l x (L_s_PoleOf_14 fu p k l f) fu) (L_s_PoleOf_14 fu p k l f) x
theorem loop_s_PoleOf_14 (fu : Nat) (p : Int) (k : Int × Int × Int × Int × Int × Int) (l : Int × Int × Int) : ∀ (f : Nat) (x : Int), X_s_PoleOf_14 Try.prog fu p k l f x = L_s_PoleOf_14 fu p k l f x := by
  intro f
  induction f with
  | zero => intros; rfl
  | succ f ih =>
    intro x
    have h1 : X_s_PoleOf_14 Try.prog fu p k l (f + 1) x = B_s_PoleOf_14 p k l (X_s_PoleOf_15 Try.prog fu p k l x (fun t => loopK (exec Try.prog S_s_PoleOf 63 (fuelOf fu []) (Code.sub [1, 1, 1, 1, 1, 0, 1, 0, 0] (bodyF Try.prog 21))) f t (kBlock 0 (kSeq (fun zs9 => exec Try.prog S_s_PoleOf 63 (fuelOf fu []) (Code.sub [1, 1, 1, 1, 1, 1] (bodyF Try.prog 21)) zs9 (finT Try.prog 21 dec_a2_i)) (finT Try.prog 21 dec_a2_i)))) fu) (X_s_PoleOf_14 Try.prog fu p k l f) x := by kernel_rfl
    have h2 : X_s_PoleOf_14 Try.prog fu p k l f = L_s_PoleOf_14 fu p k l f := by funext x; exact ih x
    have c15 : (X_s_PoleOf_15 Try.prog fu p k l x (fun t => loopK (exec Try.prog S_s_PoleOf 63 (fuelOf fu []) (Code.sub [1, 1, 1, 1, 1, 0, 1, 0, 0] (bodyF Try.prog 21))) f t (kBlock 0 (kSeq (fun zs9 => exec Try.prog S_s_PoleOf 63 (fuelOf fu []) (Code.sub [1, 1, 1, 1, 1, 1] (bodyF Try.prog 21)) zs9 (finT Try.prog 21 dec_a2_i)) (finT Try.prog 21 dec_a2_i)))) fu) = L_s_PoleOf_15 fu p k l x (X_s_PoleOf_14 Try.prog fu p k l f) fu := by funext y; exact loop_s_PoleOf_15 fu p k l x (fun t => loopK (exec Try.prog S_s_PoleOf 63 (fuelOf fu []) (Code.sub [1, 1, 1, 1, 1, 0, 1, 0, 0] (bodyF Try.prog 21))) f t (kBlock 0 (kSeq (fun zs9 => exec Try.prog S_s_PoleOf 63 (fuelOf fu []) (Code.sub [1, 1, 1, 1, 1, 1] (bodyF Try.prog 21)) zs9 (finT Try.prog 21 dec_a2_i)) (finT Try.prog 21 dec_a2_i)))) fu y
    rw [h1, c15, h2]
    rfl
def G_s_PoleOf (p : Int) (k : Int × Int × Int × Int × Int × Int) (l : Int × Int × Int) (lo2 : Int → Option ((Int × Int) × Int)) (lo6 : Int → Option ((Int × Int) × Int)) (lo10 : Int → Option ((Int × Int) × Int)) (lo14 : Int → Option ((Int × Int) × Int)) : Option ((Int × Int) × Int) :=
  (if ((s_l08Code p k) == 0) = true then (if ((s_l01Lines p [l]) == 0) = true then (if (prB p) = true then (if ((s_l08Determinant p k) == 0) = true then some ((0, 0), 5) else (if ((s_l01Lines p [l]) != 0) = true then some ((0, 0), (s_l01Lines p [l])) else lo2 0)) else none) else (if ((s_l01Lines p [l]) != 0) = true then some ((0, 0), (s_l01Lines p [l])) else lo6 0)) else (if ((s_l08Code p k) == 0) = true then (if (prB p) = true then (if ((s_l08Determinant p k) == 0) = true then some ((0, 0), 5) else (if ((s_l08Code p k) != 0) = true then some ((0, 0), (s_l08Code p k)) else lo10 0)) else none) else (if ((s_l08Code p k) != 0) = true then some ((0, 0), (s_l08Code p k)) else lo14 0)))
def Fo_s_PoleOf (fu : Nat) (p : Int) (k : Int × Int × Int × Int × Int × Int) (l : Int × Int × Int) : Option ((Int × Int) × Int) := G_s_PoleOf p k l (L_s_PoleOf_2 fu p k l fu) (L_s_PoleOf_6 fu p k l fu) (L_s_PoleOf_10 fu p k l fu) (L_s_PoleOf_14 fu p k l fu)
theorem eqg_s_PoleOf (fu : Nat) (p : Int) (k : Int × Int × Int × Int × Int × Int) (l : Int × Int × Int) : execT Try.prog S_s_PoleOf 21 63 (fuelOf fu []) dec_a2_i [.v (.int .i64 p), .v (.agg ⟨[.int .i64 k.1, .int .i64 k.2.1, .int .i64 k.2.2.1, .int .i64 k.2.2.2.1, .int .i64 k.2.2.2.2.1, .int .i64 k.2.2.2.2.2]⟩), .v (.agg ⟨[.int .i64 l.1, .int .i64 l.2.1, .int .i64 l.2.2]⟩)] = G_s_PoleOf p k l (L_s_PoleOf_2 fu p k l fu) (L_s_PoleOf_6 fu p k l fu) (L_s_PoleOf_10 fu p k l fu) (L_s_PoleOf_14 fu p k l fu) := by
  have h1 : execT Try.prog S_s_PoleOf 21 63 (fuelOf fu []) dec_a2_i [.v (.int .i64 p), .v (.agg ⟨[.int .i64 k.1, .int .i64 k.2.1, .int .i64 k.2.2.1, .int .i64 k.2.2.2.1, .int .i64 k.2.2.2.2.1, .int .i64 k.2.2.2.2.2]⟩), .v (.agg ⟨[.int .i64 l.1, .int .i64 l.2.1, .int .i64 l.2.2]⟩)] = G_s_PoleOf p k l (X_s_PoleOf_2 Try.prog fu p k l fu) (X_s_PoleOf_6 Try.prog fu p k l fu) (X_s_PoleOf_10 Try.prog fu p k l fu) (X_s_PoleOf_14 Try.prog fu p k l fu) := by kernel_rfl
  have c2 : X_s_PoleOf_2 Try.prog fu p k l fu = L_s_PoleOf_2 fu p k l fu := by funext x; exact loop_s_PoleOf_2 fu p k l fu x
  have c6 : X_s_PoleOf_6 Try.prog fu p k l fu = L_s_PoleOf_6 fu p k l fu := by funext x; exact loop_s_PoleOf_6 fu p k l fu x
  have c10 : X_s_PoleOf_10 Try.prog fu p k l fu = L_s_PoleOf_10 fu p k l fu := by funext x; exact loop_s_PoleOf_10 fu p k l fu x
  have c14 : X_s_PoleOf_14 Try.prog fu p k l fu = L_s_PoleOf_14 fu p k l fu := by funext x; exact loop_s_PoleOf_14 fu p k l fu x
  rw [h1, c2, c6, c10, c14]
theorem eq_s_PoleOf (fu : Nat) (p : Int) (k : Int × Int × Int × Int × Int × Int) (l : Int × Int × Int) : execT Try.prog S_s_PoleOf 21 63 (fuelOf fu []) dec_a2_i [.v (.int .i64 p), .v (.agg ⟨[.int .i64 k.1, .int .i64 k.2.1, .int .i64 k.2.2.1, .int .i64 k.2.2.2.1, .int .i64 k.2.2.2.2.1, .int .i64 k.2.2.2.2.2]⟩), .v (.agg ⟨[.int .i64 l.1, .int .i64 l.2.1, .int .i64 l.2.2]⟩)] = Fo_s_PoleOf fu p k l := eqg_s_PoleOf fu p k l
def V_s_PoleOf_2 (p : Int) (k : Int × Int × Int × Int × Int × Int) (l : Int × Int × Int) : Int → (Int × Int) × Int := fun _ => (((pts p).findSome? (fun zz : P2 => if ((s_l08Polar p k zz).2 && ((s_l08Polar p k zz).1 == l)) = true then some (zz, (0 : Int)) else none)).getD ((0, 0), 4))
theorem lo3_s_PoleOf (p : Int) (k_ : P6) (l : P3) (hp : prB p = true) (x : Int) (rec2 : Int → Option ((Int × Int) × Int)) {F : Nat} (hF : p.toNat < F) : L_s_PoleOf_3 1000000 p k_ l x rec2 F 0 = orO ((List.range p.toNat).findSome? (fun y : Nat => if ((s_l08Polar p k_ (x, (y : Int))).2 && ((s_l08Polar p k_ (x, (y : Int))).1 == l)) = true then some (((x : Int), (y : Int)), (0 : Int)) else none)) (rec2 (wI (x + 1))) := by
  obtain ⟨h1, h0, hpn⟩ := prB_nat hp
  exact seekO (L := fun f i => L_s_PoleOf_3 1000000 p k_ l x rec2 f i) (q := (fun y : Nat => if ((s_l08Polar p k_ (x, (y : Int))).2 && ((s_l08Polar p k_ (x, (y : Int))).1 == l)) = true then some (((x : Int), (y : Int)), (0 : Int)) else none)) hF
    (fun f k hk => by
      show B_s_PoleOf_3 p k_ l x rec2 (L_s_PoleOf_3 1000000 p k_ l x rec2 f) (k : Int) = _
      unfold B_s_PoleOf_3
      simp only [cndp hk, hp, if_true, wrap_add1 hk (by omega)]
      generalize ((s_l08Polar p k_ (x, (k : Int))).2) = c0
      generalize (((s_l08Polar p k_ (x, (k : Int))).1 == l)) = c1
      cases c0 <;> cases c1 <;> rfl)
    (fun f => by
      show B_s_PoleOf_3 p k_ l x rec2 (L_s_PoleOf_3 1000000 p k_ l x rec2 f) ((p.toNat : Nat) : Int) = _
      unfold B_s_PoleOf_3
      rw [if_neg (by simp; omega)])
theorem lo2_s_PoleOf (p : Int) (k_ : P6) (l : P3) (hp : prB p = true) {F : Nat} (hF : 993 < F) : L_s_PoleOf_2 1000000 p k_ l F 0 = some (((pts p).findSome? (fun zz : P2 => if ((s_l08Polar p k_ zz).2 && ((s_l08Polar p k_ zz).1 == l)) = true then some (zz, (0 : Int)) else none)).getD ((0, 0), 4)) := by
  obtain ⟨h1, h0, hpn⟩ := prB_nat hp
  have h := seek (L := fun f i => L_s_PoleOf_2 1000000 p k_ l f i) (n := p.toNat) (F := F) (q := fun x : Nat => (List.range p.toNat).findSome? (fun y : Nat => if ((s_l08Polar p k_ ((x : Int), (y : Int))).2 && ((s_l08Polar p k_ ((x : Int), (y : Int))).1 == l)) = true then some ((((x : Int) : Int), (y : Int)), (0 : Int)) else none)) (e := ((0, 0), 4)) (by omega)
    (fun f k hk => by
      show B_s_PoleOf_2 p k_ l (L_s_PoleOf_3 1000000 p k_ l (k : Int) (L_s_PoleOf_2 1000000 p k_ l f) 1000000) (L_s_PoleOf_2 1000000 p k_ l f) (k : Int) = _
      unfold B_s_PoleOf_2
      rw [if_pos (cndp hk), lo3_s_PoleOf _ _ _ hp _ _ (by omega), wrap_add1 hk (by omega)])
    (fun f => by
      show B_s_PoleOf_2 p k_ l (L_s_PoleOf_3 1000000 p k_ l ((p.toNat : Nat) : Int) (L_s_PoleOf_2 1000000 p k_ l f) 1000000) (L_s_PoleOf_2 1000000 p k_ l f) ((p.toNat : Nat) : Int) = _
      unfold B_s_PoleOf_2
      rw [if_neg (by simp; omega)])
  have h2 := find_grid p.toNat (fun zz : P2 => if ((s_l08Polar p k_ zz).2 && ((s_l08Polar p k_ zz).1 == l)) = true then some (zz, (0 : Int)) else none)
  unfold pts
  rw [← h2]
  exact h

def V_s_PoleOf_6 (p : Int) (k : Int × Int × Int × Int × Int × Int) (l : Int × Int × Int) : Int → (Int × Int) × Int := fun _ => (((pts p).findSome? (fun zz : P2 => if ((s_l08Polar p k zz).2 && ((s_l08Polar p k zz).1 == l)) = true then some (zz, (0 : Int)) else none)).getD ((0, 0), 4))
theorem lo7_s_PoleOf (p : Int) (k_ : P6) (l : P3) (hp : prB p = true) (x : Int) (rec6 : Int → Option ((Int × Int) × Int)) {F : Nat} (hF : p.toNat < F) : L_s_PoleOf_7 1000000 p k_ l x rec6 F 0 = orO ((List.range p.toNat).findSome? (fun y : Nat => if ((s_l08Polar p k_ (x, (y : Int))).2 && ((s_l08Polar p k_ (x, (y : Int))).1 == l)) = true then some (((x : Int), (y : Int)), (0 : Int)) else none)) (rec6 (wI (x + 1))) := by
  obtain ⟨h1, h0, hpn⟩ := prB_nat hp
  exact seekO (L := fun f i => L_s_PoleOf_7 1000000 p k_ l x rec6 f i) (q := (fun y : Nat => if ((s_l08Polar p k_ (x, (y : Int))).2 && ((s_l08Polar p k_ (x, (y : Int))).1 == l)) = true then some (((x : Int), (y : Int)), (0 : Int)) else none)) hF
    (fun f k hk => by
      show B_s_PoleOf_7 p k_ l x rec6 (L_s_PoleOf_7 1000000 p k_ l x rec6 f) (k : Int) = _
      unfold B_s_PoleOf_7
      simp only [cndp hk, hp, if_true, wrap_add1 hk (by omega)]
      generalize ((s_l08Polar p k_ (x, (k : Int))).2) = c0
      generalize (((s_l08Polar p k_ (x, (k : Int))).1 == l)) = c1
      cases c0 <;> cases c1 <;> rfl)
    (fun f => by
      show B_s_PoleOf_7 p k_ l x rec6 (L_s_PoleOf_7 1000000 p k_ l x rec6 f) ((p.toNat : Nat) : Int) = _
      unfold B_s_PoleOf_7
      rw [if_neg (by simp; omega)])
theorem lo6_s_PoleOf (p : Int) (k_ : P6) (l : P3) (hp : prB p = true) {F : Nat} (hF : 993 < F) : L_s_PoleOf_6 1000000 p k_ l F 0 = some (((pts p).findSome? (fun zz : P2 => if ((s_l08Polar p k_ zz).2 && ((s_l08Polar p k_ zz).1 == l)) = true then some (zz, (0 : Int)) else none)).getD ((0, 0), 4)) := by
  obtain ⟨h1, h0, hpn⟩ := prB_nat hp
  have h := seek (L := fun f i => L_s_PoleOf_6 1000000 p k_ l f i) (n := p.toNat) (F := F) (q := fun x : Nat => (List.range p.toNat).findSome? (fun y : Nat => if ((s_l08Polar p k_ ((x : Int), (y : Int))).2 && ((s_l08Polar p k_ ((x : Int), (y : Int))).1 == l)) = true then some ((((x : Int) : Int), (y : Int)), (0 : Int)) else none)) (e := ((0, 0), 4)) (by omega)
    (fun f k hk => by
      show B_s_PoleOf_6 p k_ l (L_s_PoleOf_7 1000000 p k_ l (k : Int) (L_s_PoleOf_6 1000000 p k_ l f) 1000000) (L_s_PoleOf_6 1000000 p k_ l f) (k : Int) = _
      unfold B_s_PoleOf_6
      rw [if_pos (cndp hk), lo7_s_PoleOf _ _ _ hp _ _ (by omega), wrap_add1 hk (by omega)])
    (fun f => by
      show B_s_PoleOf_6 p k_ l (L_s_PoleOf_7 1000000 p k_ l ((p.toNat : Nat) : Int) (L_s_PoleOf_6 1000000 p k_ l f) 1000000) (L_s_PoleOf_6 1000000 p k_ l f) ((p.toNat : Nat) : Int) = _
      unfold B_s_PoleOf_6
      rw [if_neg (by simp; omega)])
  have h2 := find_grid p.toNat (fun zz : P2 => if ((s_l08Polar p k_ zz).2 && ((s_l08Polar p k_ zz).1 == l)) = true then some (zz, (0 : Int)) else none)
  unfold pts
  rw [← h2]
  exact h

def V_s_PoleOf_10 (p : Int) (k : Int × Int × Int × Int × Int × Int) (l : Int × Int × Int) : Int → (Int × Int) × Int := fun _ => (((pts p).findSome? (fun zz : P2 => if ((s_l08Polar p k zz).2 && ((s_l08Polar p k zz).1 == l)) = true then some (zz, (0 : Int)) else none)).getD ((0, 0), 4))
theorem lo11_s_PoleOf (p : Int) (k_ : P6) (l : P3) (hp : prB p = true) (x : Int) (rec10 : Int → Option ((Int × Int) × Int)) {F : Nat} (hF : p.toNat < F) : L_s_PoleOf_11 1000000 p k_ l x rec10 F 0 = orO ((List.range p.toNat).findSome? (fun y : Nat => if ((s_l08Polar p k_ (x, (y : Int))).2 && ((s_l08Polar p k_ (x, (y : Int))).1 == l)) = true then some (((x : Int), (y : Int)), (0 : Int)) else none)) (rec10 (wI (x + 1))) := by
  obtain ⟨h1, h0, hpn⟩ := prB_nat hp
  exact seekO (L := fun f i => L_s_PoleOf_11 1000000 p k_ l x rec10 f i) (q := (fun y : Nat => if ((s_l08Polar p k_ (x, (y : Int))).2 && ((s_l08Polar p k_ (x, (y : Int))).1 == l)) = true then some (((x : Int), (y : Int)), (0 : Int)) else none)) hF
    (fun f k hk => by
      show B_s_PoleOf_11 p k_ l x rec10 (L_s_PoleOf_11 1000000 p k_ l x rec10 f) (k : Int) = _
      unfold B_s_PoleOf_11
      simp only [cndp hk, hp, if_true, wrap_add1 hk (by omega)]
      generalize ((s_l08Polar p k_ (x, (k : Int))).2) = c0
      generalize (((s_l08Polar p k_ (x, (k : Int))).1 == l)) = c1
      cases c0 <;> cases c1 <;> rfl)
    (fun f => by
      show B_s_PoleOf_11 p k_ l x rec10 (L_s_PoleOf_11 1000000 p k_ l x rec10 f) ((p.toNat : Nat) : Int) = _
      unfold B_s_PoleOf_11
      rw [if_neg (by simp; omega)])
theorem lo10_s_PoleOf (p : Int) (k_ : P6) (l : P3) (hp : prB p = true) {F : Nat} (hF : 993 < F) : L_s_PoleOf_10 1000000 p k_ l F 0 = some (((pts p).findSome? (fun zz : P2 => if ((s_l08Polar p k_ zz).2 && ((s_l08Polar p k_ zz).1 == l)) = true then some (zz, (0 : Int)) else none)).getD ((0, 0), 4)) := by
  obtain ⟨h1, h0, hpn⟩ := prB_nat hp
  have h := seek (L := fun f i => L_s_PoleOf_10 1000000 p k_ l f i) (n := p.toNat) (F := F) (q := fun x : Nat => (List.range p.toNat).findSome? (fun y : Nat => if ((s_l08Polar p k_ ((x : Int), (y : Int))).2 && ((s_l08Polar p k_ ((x : Int), (y : Int))).1 == l)) = true then some ((((x : Int) : Int), (y : Int)), (0 : Int)) else none)) (e := ((0, 0), 4)) (by omega)
    (fun f k hk => by
      show B_s_PoleOf_10 p k_ l (L_s_PoleOf_11 1000000 p k_ l (k : Int) (L_s_PoleOf_10 1000000 p k_ l f) 1000000) (L_s_PoleOf_10 1000000 p k_ l f) (k : Int) = _
      unfold B_s_PoleOf_10
      rw [if_pos (cndp hk), lo11_s_PoleOf _ _ _ hp _ _ (by omega), wrap_add1 hk (by omega)])
    (fun f => by
      show B_s_PoleOf_10 p k_ l (L_s_PoleOf_11 1000000 p k_ l ((p.toNat : Nat) : Int) (L_s_PoleOf_10 1000000 p k_ l f) 1000000) (L_s_PoleOf_10 1000000 p k_ l f) ((p.toNat : Nat) : Int) = _
      unfold B_s_PoleOf_10
      rw [if_neg (by simp; omega)])
  have h2 := find_grid p.toNat (fun zz : P2 => if ((s_l08Polar p k_ zz).2 && ((s_l08Polar p k_ zz).1 == l)) = true then some (zz, (0 : Int)) else none)
  unfold pts
  rw [← h2]
  exact h

def V_s_PoleOf_14 (p : Int) (k : Int × Int × Int × Int × Int × Int) (l : Int × Int × Int) : Int → (Int × Int) × Int := fun _ => (((pts p).findSome? (fun zz : P2 => if ((s_l08Polar p k zz).2 && ((s_l08Polar p k zz).1 == l)) = true then some (zz, (0 : Int)) else none)).getD ((0, 0), 4))
theorem lo15_s_PoleOf (p : Int) (k_ : P6) (l : P3) (hp : prB p = true) (x : Int) (rec14 : Int → Option ((Int × Int) × Int)) {F : Nat} (hF : p.toNat < F) : L_s_PoleOf_15 1000000 p k_ l x rec14 F 0 = orO ((List.range p.toNat).findSome? (fun y : Nat => if ((s_l08Polar p k_ (x, (y : Int))).2 && ((s_l08Polar p k_ (x, (y : Int))).1 == l)) = true then some (((x : Int), (y : Int)), (0 : Int)) else none)) (rec14 (wI (x + 1))) := by
  obtain ⟨h1, h0, hpn⟩ := prB_nat hp
  exact seekO (L := fun f i => L_s_PoleOf_15 1000000 p k_ l x rec14 f i) (q := (fun y : Nat => if ((s_l08Polar p k_ (x, (y : Int))).2 && ((s_l08Polar p k_ (x, (y : Int))).1 == l)) = true then some (((x : Int), (y : Int)), (0 : Int)) else none)) hF
    (fun f k hk => by
      show B_s_PoleOf_15 p k_ l x rec14 (L_s_PoleOf_15 1000000 p k_ l x rec14 f) (k : Int) = _
      unfold B_s_PoleOf_15
      simp only [cndp hk, hp, if_true, wrap_add1 hk (by omega)]
      generalize ((s_l08Polar p k_ (x, (k : Int))).2) = c0
      generalize (((s_l08Polar p k_ (x, (k : Int))).1 == l)) = c1
      cases c0 <;> cases c1 <;> rfl)
    (fun f => by
      show B_s_PoleOf_15 p k_ l x rec14 (L_s_PoleOf_15 1000000 p k_ l x rec14 f) ((p.toNat : Nat) : Int) = _
      unfold B_s_PoleOf_15
      rw [if_neg (by simp; omega)])
theorem lo14_s_PoleOf (p : Int) (k_ : P6) (l : P3) (hp : prB p = true) {F : Nat} (hF : 993 < F) : L_s_PoleOf_14 1000000 p k_ l F 0 = some (((pts p).findSome? (fun zz : P2 => if ((s_l08Polar p k_ zz).2 && ((s_l08Polar p k_ zz).1 == l)) = true then some (zz, (0 : Int)) else none)).getD ((0, 0), 4)) := by
  obtain ⟨h1, h0, hpn⟩ := prB_nat hp
  have h := seek (L := fun f i => L_s_PoleOf_14 1000000 p k_ l f i) (n := p.toNat) (F := F) (q := fun x : Nat => (List.range p.toNat).findSome? (fun y : Nat => if ((s_l08Polar p k_ ((x : Int), (y : Int))).2 && ((s_l08Polar p k_ ((x : Int), (y : Int))).1 == l)) = true then some ((((x : Int) : Int), (y : Int)), (0 : Int)) else none)) (e := ((0, 0), 4)) (by omega)
    (fun f k hk => by
      show B_s_PoleOf_14 p k_ l (L_s_PoleOf_15 1000000 p k_ l (k : Int) (L_s_PoleOf_14 1000000 p k_ l f) 1000000) (L_s_PoleOf_14 1000000 p k_ l f) (k : Int) = _
      unfold B_s_PoleOf_14
      rw [if_pos (cndp hk), lo15_s_PoleOf _ _ _ hp _ _ (by omega), wrap_add1 hk (by omega)])
    (fun f => by
      show B_s_PoleOf_14 p k_ l (L_s_PoleOf_15 1000000 p k_ l ((p.toNat : Nat) : Int) (L_s_PoleOf_14 1000000 p k_ l f) 1000000) (L_s_PoleOf_14 1000000 p k_ l f) ((p.toNat : Nat) : Int) = _
      unfold B_s_PoleOf_14
      rw [if_neg (by simp; omega)])
  have h2 := find_grid p.toNat (fun zz : P2 => if ((s_l08Polar p k_ zz).2 && ((s_l08Polar p k_ zz).1 == l)) = true then some (zz, (0 : Int)) else none)
  unfold pts
  rw [← h2]
  exact h

def s_PoleOf (p : Int) (k : Int × Int × Int × Int × Int × Int) (l : Int × Int × Int) : (Int × Int) × Int :=
  (if ((s_l08Code p k) == 0) = true then (if ((s_l01Lines p [l]) == 0) = true then (if ((s_l08Determinant p k) == 0) = true then ((0, 0), 5) else (if ((s_l01Lines p [l]) != 0) = true then ((0, 0), (s_l01Lines p [l])) else V_s_PoleOf_2 p k l 0)) else (if ((s_l01Lines p [l]) != 0) = true then ((0, 0), (s_l01Lines p [l])) else V_s_PoleOf_6 p k l 0)) else (if ((s_l08Code p k) == 0) = true then (if ((s_l08Determinant p k) == 0) = true then ((0, 0), 5) else (if ((s_l08Code p k) != 0) = true then ((0, 0), (s_l08Code p k)) else V_s_PoleOf_10 p k l 0)) else (if ((s_l08Code p k) != 0) = true then ((0, 0), (s_l08Code p k)) else V_s_PoleOf_14 p k l 0)))
theorem tot_s_PoleOf (p : Int) (k : Int × Int × Int × Int × Int × Int) (l : Int × Int × Int) : Fo_s_PoleOf 1000000 p k l = some (s_PoleOf p k l) := by
  unfold Fo_s_PoleOf G_s_PoleOf s_PoleOf
  (try simp only [wI_eq])
  repeat' (first | with_reducible rfl | refine chk_opt (by first | with_reducible rfl | exact Bool.true_or _ | (with_reducible exact l01Lines_prB ‹_›) | (with_reducible exact l01Lines_prB0 ‹_›) | (with_reducible exact l08Code_prB ‹_›) | (with_reducible exact l08Code_prB0 ‹_›) | exact mk_ok (by (first | (with_reducible assumption) | (with_reducible exact l01Lines_prB ‹_›) | (with_reducible exact l01Lines_prB0 ‹_›) | (with_reducible exact l08Code_prB ‹_›) | (with_reducible exact l08Code_prB0 ‹_›))) | exact and_all (by (first | (with_reducible assumption) | (with_reducible exact l01Lines_prB ‹_›) | (with_reducible exact l01Lines_prB0 ‹_›) | (with_reducible exact l08Code_prB ‹_›) | (with_reducible exact l08Code_prB0 ‹_›))) (fun _ => rfl) | exact and_all (by (first | (with_reducible assumption) | (with_reducible exact l01Lines_prB ‹_›) | (with_reducible exact l01Lines_prB0 ‹_›) | (with_reducible exact l08Code_prB ‹_›) | (with_reducible exact l08Code_prB0 ‹_›))) (fun _ => by (first | (with_reducible assumption) | (with_reducible exact l01Lines_prB ‹_›) | (with_reducible exact l01Lines_prB0 ‹_›) | (with_reducible exact l08Code_prB ‹_›) | (with_reducible exact l08Code_prB0 ‹_›))) | exact and3 (by (first | (with_reducible assumption) | (with_reducible exact l01Lines_prB ‹_›) | (with_reducible exact l01Lines_prB0 ‹_›) | (with_reducible exact l08Code_prB ‹_›) | (with_reducible exact l08Code_prB0 ‹_›))) (by (first | (with_reducible assumption) | (with_reducible exact l01Lines_prB ‹_›) | (with_reducible exact l01Lines_prB0 ‹_›) | (with_reducible exact l08Code_prB ‹_›) | (with_reducible exact l08Code_prB0 ‹_›))) (by (first | (with_reducible assumption) | (with_reducible exact l01Lines_prB ‹_›) | (with_reducible exact l01Lines_prB0 ‹_›) | (with_reducible exact l08Code_prB ‹_›) | (with_reducible exact l08Code_prB0 ‹_›))) | exact and_two (by (first | (with_reducible assumption) | (with_reducible exact l01Lines_prB ‹_›) | (with_reducible exact l01Lines_prB0 ‹_›) | (with_reducible exact l08Code_prB ‹_›) | (with_reducible exact l08Code_prB0 ‹_›))) rfl | rfl) ?_ | refine ite_opt (fun _ => ?_) (fun _ => ?_) | exact lo2_s_PoleOf _ _ _ (by (first | (with_reducible assumption) | (with_reducible exact l01Lines_prB ‹_›) | (with_reducible exact l01Lines_prB0 ‹_›) | (with_reducible exact l08Code_prB ‹_›) | (with_reducible exact l08Code_prB0 ‹_›))) (by omega) | exact lo6_s_PoleOf _ _ _ (by (first | (with_reducible assumption) | (with_reducible exact l01Lines_prB ‹_›) | (with_reducible exact l01Lines_prB0 ‹_›) | (with_reducible exact l08Code_prB ‹_›) | (with_reducible exact l08Code_prB0 ‹_›))) (by omega) | exact lo10_s_PoleOf _ _ _ (by (first | (with_reducible assumption) | (with_reducible exact l01Lines_prB ‹_›) | (with_reducible exact l01Lines_prB0 ‹_›) | (with_reducible exact l08Code_prB ‹_›) | (with_reducible exact l08Code_prB0 ‹_›))) (by omega) | exact lo14_s_PoleOf _ _ _ (by (first | (with_reducible assumption) | (with_reducible exact l01Lines_prB ‹_›) | (with_reducible exact l01Lines_prB0 ‹_›) | (with_reducible exact l08Code_prB ‹_›) | (with_reducible exact l08Code_prB0 ‹_›))) (by omega) | rfl)
def run_s_PoleOf : List PV → Option (Bool × List TR)
  | [.v (.int .i64 p), .v (.agg ⟨[.int .i64 k0, .int .i64 k1, .int .i64 k2, .int .i64 k3, .int .i64 k4, .int .i64 k5]⟩), .v (.agg ⟨[.int .i64 l0, .int .i64 l1, .int .i64 l2]⟩)] => some (true, enc_a2_i (s_PoleOf p (k0, k1, k2, k3, k4, k5) (l0, l1, l2)))
  | _ => none
theorem sound_s_PoleOf : Sound Try.prog 21 run_s_PoleOf := by
  refine sound_of de_a2_i SO_s_PoleOf (by kernel_rfl) Try.func21 Try.ntmps21 rfl (by kernel_rfl) ?_
  intro W pvs avs rs hargs hrun
  unfold run_s_PoleOf at hrun
  split at hrun
  · simp only [Option.some.injEq, Prod.mk.injEq] at hrun
    obtain ⟨hp, rfl⟩ := hrun
    rename_i p k0 k1 k2 k3 k4 k5 l0 l1 l2
    exact ⟨_, _, _, hargs, rfl, (eq_s_PoleOf _ p (k0, k1, k2, k3, k4, k5) (l0, l1, l2)).trans (tot_s_PoleOf p (k0, k1, k2, k3, k4, k5) (l0, l1, l2))⟩
  · cases hrun

def S_s_ConicPoints : Sums := ⟨tblS [(57, run_s_l08Code), (64, run_s_l08Points)], tblM []⟩
theorem SO_s_ConicPoints : SumsOK Try.prog S_s_ConicPoints := ⟨tblS_ok ⟨⟨Try.call57, sound_s_l08Code⟩, ⟨Try.call64, sound_s_l08Points⟩, True.intro⟩, tblM_ok True.intro⟩
def Fo_s_ConicPoints (p : Int) (k : Int × Int × Int × Int × Int × Int) : Option ((Nat × List Int) × Int) :=
  (if ((s_l08Code p k) != 0) = true then some ((0, []), (s_l08Code p k)) else (if (prB p) = true then some (((s_l08Points p k).1, (s_l08Points p k).2), 0) else none))
theorem eq_s_ConicPoints (p : Int) (k : Int × Int × Int × Int × Int × Int) : execT Try.prog S_s_ConicPoints 13 16 (fun _ => 1000000) dec_l27_2_i [.v (.int .i64 p), .v (.agg ⟨[.int .i64 k.1, .int .i64 k.2.1, .int .i64 k.2.2.1, .int .i64 k.2.2.2.1, .int .i64 k.2.2.2.2.1, .int .i64 k.2.2.2.2.2]⟩)] = Fo_s_ConicPoints p k := by
  kernel_rfl
def s_ConicPoints (p : Int) (k : Int × Int × Int × Int × Int × Int) : (Nat × List Int) × Int :=
  (if ((s_l08Code p k) != 0) = true then ((0, []), (s_l08Code p k)) else (((s_l08Points p k).1, (s_l08Points p k).2), 0))
theorem tot_s_ConicPoints (p : Int) (k : Int × Int × Int × Int × Int × Int) : Fo_s_ConicPoints p k = some (s_ConicPoints p k) := by
  unfold Fo_s_ConicPoints s_ConicPoints
  (try simp only [wI_eq])
  repeat' (first | with_reducible rfl | refine chk_opt (by first | with_reducible rfl | exact Bool.true_or _ | (with_reducible exact l08Code_prB ‹_›) | (with_reducible exact l08Code_prB0 ‹_›) | exact mk_ok (by (first | (with_reducible assumption) | (with_reducible exact l08Code_prB ‹_›) | (with_reducible exact l08Code_prB0 ‹_›))) | exact and_all (by (first | (with_reducible assumption) | (with_reducible exact l08Code_prB ‹_›) | (with_reducible exact l08Code_prB0 ‹_›))) (fun _ => rfl) | exact and_all (by (first | (with_reducible assumption) | (with_reducible exact l08Code_prB ‹_›) | (with_reducible exact l08Code_prB0 ‹_›))) (fun _ => by (first | (with_reducible assumption) | (with_reducible exact l08Code_prB ‹_›) | (with_reducible exact l08Code_prB0 ‹_›))) | exact and3 (by (first | (with_reducible assumption) | (with_reducible exact l08Code_prB ‹_›) | (with_reducible exact l08Code_prB0 ‹_›))) (by (first | (with_reducible assumption) | (with_reducible exact l08Code_prB ‹_›) | (with_reducible exact l08Code_prB0 ‹_›))) (by (first | (with_reducible assumption) | (with_reducible exact l08Code_prB ‹_›) | (with_reducible exact l08Code_prB0 ‹_›))) | exact and_two (by (first | (with_reducible assumption) | (with_reducible exact l08Code_prB ‹_›) | (with_reducible exact l08Code_prB0 ‹_›))) rfl | rfl) ?_ | refine ite_opt (fun _ => ?_) (fun _ => ?_) | rfl)
def run_s_ConicPoints : List PV → Option (Bool × List TR)
  | [.v (.int .i64 p), .v (.agg ⟨[.int .i64 k0, .int .i64 k1, .int .i64 k2, .int .i64 k3, .int .i64 k4, .int .i64 k5]⟩)] => some (true, enc_l27_2_i (s_ConicPoints p (k0, k1, k2, k3, k4, k5)))
  | _ => none
theorem sound_s_ConicPoints : Sound Try.prog 13 run_s_ConicPoints := by
  refine sound_of de_l27_2_i SO_s_ConicPoints (by kernel_rfl) Try.func13 Try.ntmps13 rfl (by kernel_rfl) ?_
  intro W pvs avs rs hargs hrun
  unfold run_s_ConicPoints at hrun
  split at hrun
  · simp only [Option.some.injEq, Prod.mk.injEq] at hrun
    obtain ⟨hp, rfl⟩ := hrun
    rename_i p k0 k1 k2 k3 k4 k5
    exact ⟨_, _, _, hargs, rfl, (eq_s_ConicPoints p (k0, k1, k2, k3, k4, k5)).trans (tot_s_ConicPoints p (k0, k1, k2, k3, k4, k5))⟩
  · cases hrun


end

end Go.Proofs.Ytfclaacaphpoaaa
