import Derived.Test.YtjpckmpeahinkaaFa
import Derived.Test.YtjpckmpeahinkaaProg
set_option linter.unusedSimpArgs false
set_option linter.unusedVariables false
namespace Go.Proofs.Ytjpckmpeahinkaa
open Go.RowKit
def dec_a3_i : List TR → Option ((Int × Int × Int) × Int)
  | [.v (.agg ⟨[.int .i64 x0_0, .int .i64 x0_1, .int .i64 x0_2]⟩), .v (.int .i64 x1)] => some ((x0_0, x0_1, x0_2), x1)
  | _ => none
def enc_a3_i : (Int × Int × Int) × Int → List TR
  | ((x0_0, x0_1, x0_2), x1) => [.v (.agg ⟨[.int .i64 x0_0, .int .i64 x0_1, .int .i64 x0_2]⟩), .v (.int .i64 x1)]
theorem de_a3_i (rs : List TR) (x : (Int × Int × Int) × Int) (h : dec_a3_i rs = some x) : rs = enc_a3_i x := by
  unfold dec_a3_i at h
  split at h
  · simp only [Option.some.injEq] at h
    subst h
    rfl
  · cases h
def S_i_TangentOf_c1 : Sums := ⟨tblS [(52, run_i_isConic), (74, run_i_isPoint)], tblM []⟩
theorem SO_i_TangentOf_c1 : SumsOK Try.prog S_i_TangentOf_c1 := ⟨tblS_ok ⟨⟨Try.call52, sound_i_isConic⟩, ⟨Try.call74, sound_i_isPoint⟩, True.intro⟩, tblM_ok True.intro⟩
def Fo_i_TangentOf_c1 (c0 : Int) (c1 : Int × Int × Int × Int × Int × Int) (c2 : Int × Int) : Option (Bool) :=
  (if (i_isConic c0 c1) = true then some (i_isPoint c0 c2) else some false)
theorem eq_i_TangentOf_c1 (c0 : Int) (c1 : Int × Int × Int × Int × Int × Int) (c2 : Int × Int) : execT Try.prog S_i_TangentOf_c1 82 12 1000000 dec_b [.p [.int .i64 c0], .p [.int .i64 c1.1, .int .i64 c1.2.1, .int .i64 c1.2.2.1, .int .i64 c1.2.2.2.1, .int .i64 c1.2.2.2.2.1, .int .i64 c1.2.2.2.2.2], .p [.int .i64 c2.1, .int .i64 c2.2]] = Fo_i_TangentOf_c1 c0 c1 c2 := by
  kernel_rfl
def i_TangentOf_c1 (c0 : Int) (c1 : Int × Int × Int × Int × Int × Int) (c2 : Int × Int) : Bool :=
  (if (i_isConic c0 c1) = true then (i_isPoint c0 c2) else false)
theorem tot_i_TangentOf_c1 (c0 : Int) (c1 : Int × Int × Int × Int × Int × Int) (c2 : Int × Int) : Fo_i_TangentOf_c1 c0 c1 c2 = some (i_TangentOf_c1 c0 c1 c2) := by
  unfold Fo_i_TangentOf_c1 i_TangentOf_c1
  (try simp only [wI_eq])
  repeat' (first | with_reducible rfl | refine ite_opt (fun _ => ?_) (fun _ => ?_) | rfl)
def run_i_TangentOf_c1 : List PV → Option (Bool × List TR)
  | [.p [.int .i64 c0], .p [.int .i64 c10, .int .i64 c11, .int .i64 c12, .int .i64 c13, .int .i64 c14, .int .i64 c15], .p [.int .i64 c20, .int .i64 c21]] => some (true, enc_b (i_TangentOf_c1 c0 (c10, c11, c12, c13, c14, c15) (c20, c21)))
  | _ => none
theorem sound_i_TangentOf_c1 : Sound Try.prog 82 run_i_TangentOf_c1 := by
  refine sound_of de_b SO_i_TangentOf_c1 (by kernel_rfl) Try.func82 Try.ntmps82 rfl (by kernel_rfl) ?_
  intro W pvs avs rs hargs hrun
  unfold run_i_TangentOf_c1 at hrun
  split at hrun
  · simp only [Option.some.injEq, Prod.mk.injEq] at hrun
    obtain ⟨hp, rfl⟩ := hrun
    rename_i c0 c10 c11 c12 c13 c14 c15 c20 c21
    exact ⟨_, _, _, hargs, rfl, (eq_i_TangentOf_c1 c0 (c10, c11, c12, c13, c14, c15) (c20, c21)).trans (tot_i_TangentOf_c1 c0 (c10, c11, c12, c13, c14, c15) (c20, c21))⟩
  · cases hrun

def S_i_TangentOf : Sums := ⟨tblS [(55, run_i_asked), (82, run_i_TangentOf_c1), (57, run_i_determinant), (70, run_i_isOnConic), (75, run_i_polarLine)], tblM []⟩
theorem SO_i_TangentOf : SumsOK Try.prog S_i_TangentOf := ⟨tblS_ok ⟨⟨Try.call55, sound_i_asked⟩, ⟨Try.call82, sound_i_TangentOf_c1⟩, ⟨Try.call57, sound_i_determinant⟩, ⟨Try.call70, sound_i_isOnConic⟩, ⟨Try.call75, sound_i_polarLine⟩, True.intro⟩, tblM_ok True.intro⟩
def Fo_i_TangentOf (p : Int) (k : Int × Int × Int × Int × Int × Int) (a : Int × Int) : Option ((Int × Int × Int) × Int) :=
  (if ((true) || !(i_IsField p)) = true then (if ((i_asked p (true) (i_TangentOf_c1 p k a)) != 0) = true then some ((0, 0, 0), (i_asked p (true) (i_TangentOf_c1 p k a))) else (if (prB p) = true then (if ((i_determinant p k) == 0) = true then some ((0, 0, 0), 5) else (if (prB p) = true then (if (!(i_isOnConic p a k)) = true then some ((0, 0, 0), 5) else (if (prB p) = true then (if (!((i_polarLine p k a).2)) = true then some ((0, 0, 0), 5) else some (((i_polarLine p k a).1), 0)) else none)) else none)) else none)) else none)
theorem eq_i_TangentOf (p : Int) (k : Int × Int × Int × Int × Int × Int) (a : Int × Int) : execT Try.prog S_i_TangentOf 39 41 1000000 dec_a3_i [.v (.int .i64 p), .v (.agg ⟨[.int .i64 k.1, .int .i64 k.2.1, .int .i64 k.2.2.1, .int .i64 k.2.2.2.1, .int .i64 k.2.2.2.2.1, .int .i64 k.2.2.2.2.2]⟩), .v (.agg ⟨[.int .i64 a.1, .int .i64 a.2]⟩)] = Fo_i_TangentOf p k a := by
  kernel_rfl
def i_TangentOf (p : Int) (k : Int × Int × Int × Int × Int × Int) (a : Int × Int) : (Int × Int × Int) × Int :=
  (if ((i_asked p (true) (i_TangentOf_c1 p k a)) != 0) = true then ((0, 0, 0), (i_asked p (true) (i_TangentOf_c1 p k a))) else (if ((i_determinant p k) == 0) = true then ((0, 0, 0), 5) else (if (!(i_isOnConic p a k)) = true then ((0, 0, 0), 5) else (if (!((i_polarLine p k a).2)) = true then ((0, 0, 0), 5) else (((i_polarLine p k a).1), 0)))))
theorem tot_i_TangentOf (p : Int) (k : Int × Int × Int × Int × Int × Int) (a : Int × Int) : Fo_i_TangentOf p k a = some (i_TangentOf p k a) := by
  unfold Fo_i_TangentOf i_TangentOf
  (try simp only [wI_eq])
  repeat' (first | with_reducible rfl | refine chk_opt (by first | with_reducible rfl | exact Bool.true_or _ | (with_reducible exact asked_prB ‹_›) | (with_reducible exact l09Code_prB ‹_›) | (with_reducible exact l01Code_prB ‹_›) | (with_reducible exact l01Numbers_prB ‹_›) | (with_reducible exact l01Lines_prB ‹_›) | (with_reducible exact asked_prB0 ‹_›) | (with_reducible exact l09Code_prB0 ‹_›) | (with_reducible exact l01Code_prB0 ‹_›) | (with_reducible exact l01Numbers_prB0 ‹_›) | (with_reducible exact l01Lines_prB0 ‹_›) | (with_reducible exact field_prB ‹_›) | (with_reducible exact field_prB0 ‹_›) | (with_reducible exact l08Code_prB ‹_›) | (with_reducible exact l08Code_prB0 ‹_›) | (with_reducible exact l08Given_prB ‹_›) | (with_reducible exact l08Given_prB0 ‹_›)) ?_ | refine ite_opt (fun _ => ?_) (fun _ => ?_) | rfl)
def run_i_TangentOf : List PV → Option (Bool × List TR)
  | [.v (.int .i64 p), .v (.agg ⟨[.int .i64 k0, .int .i64 k1, .int .i64 k2, .int .i64 k3, .int .i64 k4, .int .i64 k5]⟩), .v (.agg ⟨[.int .i64 a0, .int .i64 a1]⟩)] => some (true, enc_a3_i (i_TangentOf p (k0, k1, k2, k3, k4, k5) (a0, a1)))
  | _ => none
theorem sound_i_TangentOf : Sound Try.prog 39 run_i_TangentOf := by
  refine sound_of de_a3_i SO_i_TangentOf (by kernel_rfl) Try.func39 Try.ntmps39 rfl (by kernel_rfl) ?_
  intro W pvs avs rs hargs hrun
  unfold run_i_TangentOf at hrun
  split at hrun
  · simp only [Option.some.injEq, Prod.mk.injEq] at hrun
    obtain ⟨hp, rfl⟩ := hrun
    rename_i p k0 k1 k2 k3 k4 k5 a0 a1
    exact ⟨_, _, _, hargs, rfl, (eq_i_TangentOf p (k0, k1, k2, k3, k4, k5) (a0, a1)).trans (tot_i_TangentOf p (k0, k1, k2, k3, k4, k5) (a0, a1))⟩
  · cases hrun

def S_s_TangentOf : Sums := ⟨tblS [(71, run_s_l08Given), (54, run_s_l08Determinant), (81, run_s_l08Value), (72, run_s_l08Polar)], tblM []⟩
theorem SO_s_TangentOf : SumsOK Try.prog S_s_TangentOf := ⟨tblS_ok ⟨⟨Try.call71, sound_s_l08Given⟩, ⟨Try.call54, sound_s_l08Determinant⟩, ⟨Try.call81, sound_s_l08Value⟩, ⟨Try.call72, sound_s_l08Polar⟩, True.intro⟩, tblM_ok True.intro⟩
def Fo_s_TangentOf (p : Int) (k : Int × Int × Int × Int × Int × Int) (a : Int × Int) : Option ((Int × Int × Int) × Int) :=
  (if ((s_l08Given p k a) == 0) = true then (if (prB p) = true then (if ((s_l08Determinant p k) == 0) = true then some ((0, 0, 0), 5) else (if (prB p) = true then (if ((s_l08Value p k a) != 0) = true then some ((0, 0, 0), 5) else (if ((s_l08Given p k a) != 0) = true then some ((0, 0, 0), (s_l08Given p k a)) else (if (prB p) = true then some (((s_l08Polar p k a).1), 0) else none))) else none)) else none) else (if ((s_l08Given p k a) != 0) = true then some ((0, 0, 0), (s_l08Given p k a)) else (if (prB p) = true then some (((s_l08Polar p k a).1), 0) else none)))
theorem eq_s_TangentOf (p : Int) (k : Int × Int × Int × Int × Int × Int) (a : Int × Int) : execT Try.prog S_s_TangentOf 38 42 1000000 dec_a3_i [.v (.int .i64 p), .v (.agg ⟨[.int .i64 k.1, .int .i64 k.2.1, .int .i64 k.2.2.1, .int .i64 k.2.2.2.1, .int .i64 k.2.2.2.2.1, .int .i64 k.2.2.2.2.2]⟩), .v (.agg ⟨[.int .i64 a.1, .int .i64 a.2]⟩)] = Fo_s_TangentOf p k a := by
  kernel_rfl
def s_TangentOf (p : Int) (k : Int × Int × Int × Int × Int × Int) (a : Int × Int) : (Int × Int × Int) × Int :=
  (if ((s_l08Given p k a) == 0) = true then (if ((s_l08Determinant p k) == 0) = true then ((0, 0, 0), 5) else (if ((s_l08Value p k a) != 0) = true then ((0, 0, 0), 5) else (if ((s_l08Given p k a) != 0) = true then ((0, 0, 0), (s_l08Given p k a)) else (((s_l08Polar p k a).1), 0)))) else (if ((s_l08Given p k a) != 0) = true then ((0, 0, 0), (s_l08Given p k a)) else (((s_l08Polar p k a).1), 0)))
theorem tot_s_TangentOf (p : Int) (k : Int × Int × Int × Int × Int × Int) (a : Int × Int) : Fo_s_TangentOf p k a = some (s_TangentOf p k a) := by
  unfold Fo_s_TangentOf s_TangentOf
  (try simp only [wI_eq])
  repeat' (first | with_reducible rfl | refine chk_opt (by first | with_reducible rfl | exact Bool.true_or _ | (with_reducible exact asked_prB ‹_›) | (with_reducible exact l09Code_prB ‹_›) | (with_reducible exact l01Code_prB ‹_›) | (with_reducible exact l01Numbers_prB ‹_›) | (with_reducible exact l01Lines_prB ‹_›) | (with_reducible exact asked_prB0 ‹_›) | (with_reducible exact l09Code_prB0 ‹_›) | (with_reducible exact l01Code_prB0 ‹_›) | (with_reducible exact l01Numbers_prB0 ‹_›) | (with_reducible exact l01Lines_prB0 ‹_›) | (with_reducible exact field_prB ‹_›) | (with_reducible exact field_prB0 ‹_›) | (with_reducible exact l08Code_prB ‹_›) | (with_reducible exact l08Code_prB0 ‹_›) | (with_reducible exact l08Given_prB ‹_›) | (with_reducible exact l08Given_prB0 ‹_›)) ?_ | refine ite_opt (fun _ => ?_) (fun _ => ?_) | rfl)
def run_s_TangentOf : List PV → Option (Bool × List TR)
  | [.v (.int .i64 p), .v (.agg ⟨[.int .i64 k0, .int .i64 k1, .int .i64 k2, .int .i64 k3, .int .i64 k4, .int .i64 k5]⟩), .v (.agg ⟨[.int .i64 a0, .int .i64 a1]⟩)] => some (true, enc_a3_i (s_TangentOf p (k0, k1, k2, k3, k4, k5) (a0, a1)))
  | _ => none
theorem sound_s_TangentOf : Sound Try.prog 38 run_s_TangentOf := by
  refine sound_of de_a3_i SO_s_TangentOf (by kernel_rfl) Try.func38 Try.ntmps38 rfl (by kernel_rfl) ?_
  intro W pvs avs rs hargs hrun
  unfold run_s_TangentOf at hrun
  split at hrun
  · simp only [Option.some.injEq, Prod.mk.injEq] at hrun
    obtain ⟨hp, rfl⟩ := hrun
    rename_i p k0 k1 k2 k3 k4 k5 a0 a1
    exact ⟨_, _, _, hargs, rfl, (eq_s_TangentOf p (k0, k1, k2, k3, k4, k5) (a0, a1)).trans (tot_s_TangentOf p (k0, k1, k2, k3, k4, k5) (a0, a1))⟩
  · cases hrun

def S_l_FnExactTangentOf : Sums := ⟨tblS [(15, run_l_toConic), (32, run_l_toPoint), (38, run_s_TangentOf), (39, run_i_TangentOf), (34, run_l_eqLine)], tblM []⟩
theorem SO_l_FnExactTangentOf : SumsOK Try.prog S_l_FnExactTangentOf := ⟨tblS_ok ⟨⟨Try.call15, sound_l_toConic⟩, ⟨Try.call32, sound_l_toPoint⟩, ⟨Try.call38, sound_s_TangentOf⟩, ⟨Try.call39, sound_i_TangentOf⟩, ⟨Try.call34, sound_l_eqLine⟩, True.intro⟩, tblM_ok True.intro⟩
def Fo_l_FnExactTangentOf (aP : Int) (aK : Int × Int × Int × Int × Int × Int) (aA : Int × Int) : Option (Bool) :=
  (if (!(l_eqLine ((i_TangentOf aP (l_toConic aK) (l_toPoint aA)).1) ((s_TangentOf aP (l_toConic aK) (l_toPoint aA)).1))) = true then some false else (if (((i_TangentOf aP (l_toConic aK) (l_toPoint aA)).2) != ((s_TangentOf aP (l_toConic aK) (l_toPoint aA)).2)) = true then some false else some true))
theorem eq_l_FnExactTangentOf (aP : Int) (aK : Int × Int × Int × Int × Int × Int) (aA : Int × Int) : execT Try.prog S_l_FnExactTangentOf 10 38 1000000 dec_b [.v (.int .i64 aP), .v (.agg ⟨[.int .i64 aK.1, .int .i64 aK.2.1, .int .i64 aK.2.2.1, .int .i64 aK.2.2.2.1, .int .i64 aK.2.2.2.2.1, .int .i64 aK.2.2.2.2.2]⟩), .v (.agg ⟨[.int .i64 aA.1, .int .i64 aA.2]⟩)] = Fo_l_FnExactTangentOf aP aK aA := by
  kernel_rfl
def l_FnExactTangentOf (aP : Int) (aK : Int × Int × Int × Int × Int × Int) (aA : Int × Int) : Bool :=
  (if (!(l_eqLine ((i_TangentOf aP (l_toConic aK) (l_toPoint aA)).1) ((s_TangentOf aP (l_toConic aK) (l_toPoint aA)).1))) = true then false else (if (((i_TangentOf aP (l_toConic aK) (l_toPoint aA)).2) != ((s_TangentOf aP (l_toConic aK) (l_toPoint aA)).2)) = true then false else true))
theorem tot_l_FnExactTangentOf (aP : Int) (aK : Int × Int × Int × Int × Int × Int) (aA : Int × Int) : Fo_l_FnExactTangentOf aP aK aA = some (l_FnExactTangentOf aP aK aA) := by
  unfold Fo_l_FnExactTangentOf l_FnExactTangentOf
  (try simp only [wI_eq])
  repeat' (first | with_reducible rfl | refine ite_opt (fun _ => ?_) (fun _ => ?_) | rfl)
def run_l_FnExactTangentOf : List PV → Option (Bool × List TR)
  | [.v (.int .i64 aP), .v (.agg ⟨[.int .i64 aK0, .int .i64 aK1, .int .i64 aK2, .int .i64 aK3, .int .i64 aK4, .int .i64 aK5]⟩), .v (.agg ⟨[.int .i64 aA0, .int .i64 aA1]⟩)] => some (true, enc_b (l_FnExactTangentOf aP (aK0, aK1, aK2, aK3, aK4, aK5) (aA0, aA1)))
  | _ => none
theorem sound_l_FnExactTangentOf : Sound Try.prog 10 run_l_FnExactTangentOf := by
  refine sound_of de_b SO_l_FnExactTangentOf (by kernel_rfl) Try.func10 Try.ntmps10 rfl (by kernel_rfl) ?_
  intro W pvs avs rs hargs hrun
  unfold run_l_FnExactTangentOf at hrun
  split at hrun
  · simp only [Option.some.injEq, Prod.mk.injEq] at hrun
    obtain ⟨hp, rfl⟩ := hrun
    rename_i aP aK0 aK1 aK2 aK3 aK4 aK5 aA0 aA1
    exact ⟨_, _, _, hargs, rfl, (eq_l_FnExactTangentOf aP (aK0, aK1, aK2, aK3, aK4, aK5) (aA0, aA1)).trans (tot_l_FnExactTangentOf aP (aK0, aK1, aK2, aK3, aK4, aK5) (aA0, aA1))⟩
  · cases hrun


end Go.Proofs.Ytjpckmpeahinkaa
