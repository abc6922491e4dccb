import Derived.Test.YtjpckmpeahinkaaFa
import Derived.Test.YtjpckmpeahinkaaProg
set_option linter.unusedSimpArgs false
set_option linter.unusedVariables false
namespace Go.Proofs.Ytjpckmpeahinkaa
open Go.RowKit
def S_i_PolarOf_c1 : Sums := ⟨tblS [(52, run_i_isConic), (74, run_i_isPoint)], tblM []⟩
theorem SO_i_PolarOf_c1 : SumsOK Try.prog S_i_PolarOf_c1 := ⟨tblS_ok ⟨⟨Try.call52, sound_i_isConic⟩, ⟨Try.call74, sound_i_isPoint⟩, True.intro⟩, tblM_ok True.intro⟩
def Fo_i_PolarOf_c1 (c0 : Int) (c1 : Int × Int × Int × Int × Int × Int) (c2 : Int × Int) : Option (Bool) :=
  (if (i_isConic c0 c1) = true then some (i_isPoint c0 c2) else some false)
theorem eq_i_PolarOf_c1 (c0 : Int) (c1 : Int × Int × Int × Int × Int × Int) (c2 : Int × Int) : execT Try.prog S_i_PolarOf_c1 73 12 1000000 dec_b [.p [.int .i64 c0], .p [.int .i64 c1.1, .int .i64 c1.2.1, .int .i64 c1.2.2.1, .int .i64 c1.2.2.2.1, .int .i64 c1.2.2.2.2.1, .int .i64 c1.2.2.2.2.2], .p [.int .i64 c2.1, .int .i64 c2.2]] = Fo_i_PolarOf_c1 c0 c1 c2 := by
  kernel_rfl
def i_PolarOf_c1 (c0 : Int) (c1 : Int × Int × Int × Int × Int × Int) (c2 : Int × Int) : Bool :=
  (if (i_isConic c0 c1) = true then (i_isPoint c0 c2) else false)
theorem tot_i_PolarOf_c1 (c0 : Int) (c1 : Int × Int × Int × Int × Int × Int) (c2 : Int × Int) : Fo_i_PolarOf_c1 c0 c1 c2 = some (i_PolarOf_c1 c0 c1 c2) := by
  unfold Fo_i_PolarOf_c1 i_PolarOf_c1
  (try simp only [wI_eq])
  repeat' (first | with_reducible rfl | refine ite_opt (fun _ => ?_) (fun _ => ?_) | rfl)
def run_i_PolarOf_c1 : List PV → Option (Bool × List TR)
  | [.p [.int .i64 c0], .p [.int .i64 c10, .int .i64 c11, .int .i64 c12, .int .i64 c13, .int .i64 c14, .int .i64 c15], .p [.int .i64 c20, .int .i64 c21]] => some (true, enc_b (i_PolarOf_c1 c0 (c10, c11, c12, c13, c14, c15) (c20, c21)))
  | _ => none
theorem sound_i_PolarOf_c1 : Sound Try.prog 73 run_i_PolarOf_c1 := by
  refine sound_of de_b SO_i_PolarOf_c1 (by kernel_rfl) Try.func73 Try.ntmps73 rfl (by kernel_rfl) ?_
  intro W pvs avs rs hargs hrun
  unfold run_i_PolarOf_c1 at hrun
  split at hrun
  · simp only [Option.some.injEq, Prod.mk.injEq] at hrun
    obtain ⟨hp, rfl⟩ := hrun
    rename_i c0 c10 c11 c12 c13 c14 c15 c20 c21
    exact ⟨_, _, _, hargs, rfl, (eq_i_PolarOf_c1 c0 (c10, c11, c12, c13, c14, c15) (c20, c21)).trans (tot_i_PolarOf_c1 c0 (c10, c11, c12, c13, c14, c15) (c20, c21))⟩
  · cases hrun

def S_i_polar : Sums := ⟨tblS [(94, run_i_rest)], tblM []⟩
theorem SO_i_polar : SumsOK Try.prog S_i_polar := ⟨tblS_ok ⟨⟨Try.call94, sound_i_rest⟩, True.intro⟩, tblM_ok True.intro⟩
def Fo_i_polar (p : Int) (k : Int × Int × Int × Int × Int × Int) (a : Int × Int) : Option (Int × Int × Int) :=
  (if (prB p) = true then (if (prB p) = true then (if (prB p) = true then some ((i_rest p (wI ((wI ((wI ((wI (2 * k.1)) * a.1)) + (wI (k.2.1 * a.2)))) + k.2.2.2.1))), (i_rest p (wI ((wI ((wI (k.2.1 * a.1)) + (wI ((wI (2 * k.2.2.1)) * a.2)))) + k.2.2.2.2.1))), (i_rest p (wI ((wI ((wI (k.2.2.2.1 * a.1)) + (wI (k.2.2.2.2.1 * a.2)))) + (wI (2 * k.2.2.2.2.2)))))) else none) else none) else none)
theorem eq_i_polar (p : Int) (k : Int × Int × Int × Int × Int × Int) (a : Int × Int) : execT Try.prog S_i_polar 80 59 1000000 dec_a3 [.v (.int .i64 p), .v (.agg ⟨[.int .i64 k.1, .int .i64 k.2.1, .int .i64 k.2.2.1, .int .i64 k.2.2.2.1, .int .i64 k.2.2.2.2.1, .int .i64 k.2.2.2.2.2]⟩), .v (.agg ⟨[.int .i64 a.1, .int .i64 a.2]⟩)] = Fo_i_polar p k a := by
  kernel_rfl
def i_polar (p : Int) (k : Int × Int × Int × Int × Int × Int) (a : Int × Int) : Int × Int × Int :=
  ((i_rest p (wrap64 ((wrap64 ((wrap64 ((wrap64 (2 * k.1)) * a.1)) + (wrap64 (k.2.1 * a.2)))) + k.2.2.2.1))), (i_rest p (wrap64 ((wrap64 ((wrap64 (k.2.1 * a.1)) + (wrap64 ((wrap64 (2 * k.2.2.1)) * a.2)))) + k.2.2.2.2.1))), (i_rest p (wrap64 ((wrap64 ((wrap64 (k.2.2.2.1 * a.1)) + (wrap64 (k.2.2.2.2.1 * a.2)))) + (wrap64 (2 * k.2.2.2.2.2))))))
theorem tot_i_polar (p : Int) (k : Int × Int × Int × Int × Int × Int) (a : Int × Int) (hp : (prB p) = true) : Fo_i_polar p k a = some (i_polar p k a) := by
  have h0 := prB_ne hp
  unfold Fo_i_polar i_polar
  (try simp only [wI_eq])
  repeat' (first | with_reducible rfl | with_reducible refine chk_opt hp ?_ | with_reducible refine chk_opt h0 ?_ | refine ite_opt (fun _ => ?_) (fun _ => ?_) | rfl)
def run_i_polar : List PV → Option (Bool × List TR)
  | [.v (.int .i64 p), .v (.agg ⟨[.int .i64 k0, .int .i64 k1, .int .i64 k2, .int .i64 k3, .int .i64 k4, .int .i64 k5]⟩), .v (.agg ⟨[.int .i64 a0, .int .i64 a1]⟩)] => some (prB p, enc_a3 (i_polar p (k0, k1, k2, k3, k4, k5) (a0, a1)))
  | _ => none
theorem sound_i_polar : Sound Try.prog 80 run_i_polar := by
  refine sound_of de_a3 SO_i_polar (by kernel_rfl) Try.func80 Try.ntmps80 rfl (by kernel_rfl) ?_
  intro W pvs avs rs hargs hrun
  unfold run_i_polar at hrun
  split at hrun
  · simp only [Option.some.injEq, Prod.mk.injEq] at hrun
    obtain ⟨hp, rfl⟩ := hrun
    rename_i p k0 k1 k2 k3 k4 k5 a0 a1
    exact ⟨_, _, _, hargs, rfl, (eq_i_polar p (k0, k1, k2, k3, k4, k5) (a0, a1)).trans (tot_i_polar p (k0, k1, k2, k3, k4, k5) (a0, a1) hp)⟩
  · cases hrun

def dec_a3_b : List TR → Option ((Int × Int × Int) × Bool)
  | [.v (.agg ⟨[.int .i64 x0_0, .int .i64 x0_1, .int .i64 x0_2]⟩), .v (.bool x1)] => some ((x0_0, x0_1, x0_2), x1)
  | _ => none
def enc_a3_b : (Int × Int × Int) × Bool → List TR
  | ((x0_0, x0_1, x0_2), x1) => [.v (.agg ⟨[.int .i64 x0_0, .int .i64 x0_1, .int .i64 x0_2]⟩), .v (.bool x1)]
theorem de_a3_b (rs : List TR) (x : (Int × Int × Int) × Bool) (h : dec_a3_b rs = some x) : rs = enc_a3_b x := by
  unfold dec_a3_b at h
  split at h
  · simp only [Option.some.injEq] at h
    subst h
    rfl
  · cases h
def S_i_polarLine : Sums := ⟨tblS [(80, run_i_polar), (111, run_i_makeLine)], tblM []⟩
theorem SO_i_polarLine : SumsOK Try.prog S_i_polarLine := ⟨tblS_ok ⟨⟨Try.call80, sound_i_polar⟩, ⟨Try.call111, sound_i_makeLine⟩, True.intro⟩, tblM_ok True.intro⟩
def Fo_i_polarLine (p : Int) (k : Int × Int × Int × Int × Int × Int) (a : Int × Int) : Option ((Int × Int × Int) × Bool) :=
  (if (prB p) = true then (if (((i_polar p k a).1) == 0) = true then (if (((i_polar p k a).2.1) == 0) = true then some ((0, 0, 0), false) else (if (prB p) = true then some ((i_makeLine p ((i_polar p k a).1) ((i_polar p k a).2.1) ((i_polar p k a).2.2)), true) else none)) else (if (prB p) = true then some ((i_makeLine p ((i_polar p k a).1) ((i_polar p k a).2.1) ((i_polar p k a).2.2)), true) else none)) else none)
theorem eq_i_polarLine (p : Int) (k : Int × Int × Int × Int × Int × Int) (a : Int × Int) : execT Try.prog S_i_polarLine 75 30 1000000 dec_a3_b [.v (.int .i64 p), .v (.agg ⟨[.int .i64 k.1, .int .i64 k.2.1, .int .i64 k.2.2.1, .int .i64 k.2.2.2.1, .int .i64 k.2.2.2.2.1, .int .i64 k.2.2.2.2.2]⟩), .v (.agg ⟨[.int .i64 a.1, .int .i64 a.2]⟩)] = Fo_i_polarLine p k a := by
  kernel_rfl
def i_polarLine (p : Int) (k : Int × Int × Int × Int × Int × Int) (a : Int × Int) : (Int × Int × Int) × Bool :=
  (if (((i_polar p k a).1) == 0) = true then (if (((i_polar p k a).2.1) == 0) = true then ((0, 0, 0), false) else ((i_makeLine p ((i_polar p k a).1) ((i_polar p k a).2.1) ((i_polar p k a).2.2)), true)) else ((i_makeLine p ((i_polar p k a).1) ((i_polar p k a).2.1) ((i_polar p k a).2.2)), true))
theorem tot_i_polarLine (p : Int) (k : Int × Int × Int × Int × Int × Int) (a : Int × Int) (hp : (prB p) = true) : Fo_i_polarLine p k a = some (i_polarLine p k a) := by
  have h0 := prB_ne hp
  unfold Fo_i_polarLine i_polarLine
  (try simp only [wI_eq])
  repeat' (first | with_reducible rfl | with_reducible refine chk_opt hp ?_ | with_reducible refine chk_opt h0 ?_ | refine ite_opt (fun _ => ?_) (fun _ => ?_) | rfl)
def run_i_polarLine : List PV → Option (Bool × List TR)
  | [.v (.int .i64 p), .v (.agg ⟨[.int .i64 k0, .int .i64 k1, .int .i64 k2, .int .i64 k3, .int .i64 k4, .int .i64 k5]⟩), .v (.agg ⟨[.int .i64 a0, .int .i64 a1]⟩)] => some (prB p, enc_a3_b (i_polarLine p (k0, k1, k2, k3, k4, k5) (a0, a1)))
  | _ => none
theorem sound_i_polarLine : Sound Try.prog 75 run_i_polarLine := by
  refine sound_of de_a3_b SO_i_polarLine (by kernel_rfl) Try.func75 Try.ntmps75 rfl (by kernel_rfl) ?_
  intro W pvs avs rs hargs hrun
  unfold run_i_polarLine at hrun
  split at hrun
  · simp only [Option.some.injEq, Prod.mk.injEq] at hrun
    obtain ⟨hp, rfl⟩ := hrun
    rename_i p k0 k1 k2 k3 k4 k5 a0 a1
    exact ⟨_, _, _, hargs, rfl, (eq_i_polarLine p (k0, k1, k2, k3, k4, k5) (a0, a1)).trans (tot_i_polarLine p (k0, k1, k2, k3, k4, k5) (a0, a1) hp)⟩
  · cases hrun

def dec_a3_i : List TR → Option ((Int × Int × Int) × Int)
  | [.v (.agg ⟨[.int .i64 x0_0, .int .i64 x0_1, .int .i64 x0_2]⟩), .v (.int .i64 x1)] => some ((x0_0, x0_1, x0_2), x1)
  | _ => none
def enc_a3_i : (Int × Int × Int) × Int → List TR
  | ((x0_0, x0_1, x0_2), x1) => [.v (.agg ⟨[.int .i64 x0_0, .int .i64 x0_1, .int .i64 x0_2]⟩), .v (.int .i64 x1)]
theorem de_a3_i (rs : List TR) (x : (Int × Int × Int) × Int) (h : dec_a3_i rs = some x) : rs = enc_a3_i x := by
  unfold dec_a3_i at h
  split at h
  · simp only [Option.some.injEq] at h
    subst h
    rfl
  · cases h
def S_i_PolarOf : Sums := ⟨tblS [(55, run_i_asked), (73, run_i_PolarOf_c1), (75, run_i_polarLine)], tblM []⟩
theorem SO_i_PolarOf : SumsOK Try.prog S_i_PolarOf := ⟨tblS_ok ⟨⟨Try.call55, sound_i_asked⟩, ⟨Try.call73, sound_i_PolarOf_c1⟩, ⟨Try.call75, sound_i_polarLine⟩, True.intro⟩, tblM_ok True.intro⟩
def Fo_i_PolarOf (p : Int) (k : Int × Int × Int × Int × Int × Int) (a : Int × Int) : Option ((Int × Int × Int) × Int) :=
  (if ((true) || !(i_IsField p)) = true then (if ((i_asked p (true) (i_PolarOf_c1 p k a)) != 0) = true then some ((0, 0, 0), (i_asked p (true) (i_PolarOf_c1 p k a))) else (if (prB p) = true then (if (!((i_polarLine p k a).2)) = true then some ((0, 0, 0), 5) else some (((i_polarLine p k a).1), 0)) else none)) else none)
theorem eq_i_PolarOf (p : Int) (k : Int × Int × Int × Int × Int × Int) (a : Int × Int) : execT Try.prog S_i_PolarOf 33 29 1000000 dec_a3_i [.v (.int .i64 p), .v (.agg ⟨[.int .i64 k.1, .int .i64 k.2.1, .int .i64 k.2.2.1, .int .i64 k.2.2.2.1, .int .i64 k.2.2.2.2.1, .int .i64 k.2.2.2.2.2]⟩), .v (.agg ⟨[.int .i64 a.1, .int .i64 a.2]⟩)] = Fo_i_PolarOf p k a := by
  kernel_rfl
def i_PolarOf (p : Int) (k : Int × Int × Int × Int × Int × Int) (a : Int × Int) : (Int × Int × Int) × Int :=
  (if ((i_asked p (true) (i_PolarOf_c1 p k a)) != 0) = true then ((0, 0, 0), (i_asked p (true) (i_PolarOf_c1 p k a))) else (if (!((i_polarLine p k a).2)) = true then ((0, 0, 0), 5) else (((i_polarLine p k a).1), 0)))
theorem tot_i_PolarOf (p : Int) (k : Int × Int × Int × Int × Int × Int) (a : Int × Int) : Fo_i_PolarOf p k a = some (i_PolarOf p k a) := by
  unfold Fo_i_PolarOf i_PolarOf
  (try simp only [wI_eq])
  repeat' (first | with_reducible rfl | refine chk_opt (by first | with_reducible rfl | exact Bool.true_or _ | (with_reducible exact asked_prB ‹_›) | (with_reducible exact l09Code_prB ‹_›) | (with_reducible exact l01Code_prB ‹_›) | (with_reducible exact l01Numbers_prB ‹_›) | (with_reducible exact l01Lines_prB ‹_›) | (with_reducible exact asked_prB0 ‹_›) | (with_reducible exact l09Code_prB0 ‹_›) | (with_reducible exact l01Code_prB0 ‹_›) | (with_reducible exact l01Numbers_prB0 ‹_›) | (with_reducible exact l01Lines_prB0 ‹_›) | (with_reducible exact field_prB ‹_›) | (with_reducible exact field_prB0 ‹_›) | (with_reducible exact l08Code_prB ‹_›) | (with_reducible exact l08Code_prB0 ‹_›) | (with_reducible exact l08Given_prB ‹_›) | (with_reducible exact l08Given_prB0 ‹_›)) ?_ | refine ite_opt (fun _ => ?_) (fun _ => ?_) | rfl)
def run_i_PolarOf : List PV → Option (Bool × List TR)
  | [.v (.int .i64 p), .v (.agg ⟨[.int .i64 k0, .int .i64 k1, .int .i64 k2, .int .i64 k3, .int .i64 k4, .int .i64 k5]⟩), .v (.agg ⟨[.int .i64 a0, .int .i64 a1]⟩)] => some (true, enc_a3_i (i_PolarOf p (k0, k1, k2, k3, k4, k5) (a0, a1)))
  | _ => none
theorem sound_i_PolarOf : Sound Try.prog 33 run_i_PolarOf := by
  refine sound_of de_a3_i SO_i_PolarOf (by kernel_rfl) Try.func33 Try.ntmps33 rfl (by kernel_rfl) ?_
  intro W pvs avs rs hargs hrun
  unfold run_i_PolarOf at hrun
  split at hrun
  · simp only [Option.some.injEq, Prod.mk.injEq] at hrun
    obtain ⟨hp, rfl⟩ := hrun
    rename_i p k0 k1 k2 k3 k4 k5 a0 a1
    exact ⟨_, _, _, hargs, rfl, (eq_i_PolarOf p (k0, k1, k2, k3, k4, k5) (a0, a1)).trans (tot_i_PolarOf p (k0, k1, k2, k3, k4, k5) (a0, a1))⟩
  · cases hrun

def S_s_l08Polar : Sums := ⟨tblS [(77, run_s_l01Normal)], tblM []⟩
theorem SO_s_l08Polar : SumsOK Try.prog S_s_l08Polar := ⟨tblS_ok ⟨⟨Try.call77, sound_s_l01Normal⟩, True.intro⟩, tblM_ok True.intro⟩
def Fo_s_l08Polar (p : Int) (k : Int × Int × Int × Int × Int × Int) (a : Int × Int) : Option ((Int × Int × Int) × Bool) :=
  (if (!(p == 0)) = true then (if (((wI ((wI ((wI ((wI (2 * k.1)) * a.1)) + (wI (k.2.1 * a.2)))) + k.2.2.2.1)).tmod p) == 0) = true then (if (!(p == 0)) = true then (if (((wI ((wI ((wI (k.2.1 * a.1)) + (wI ((wI (2 * k.2.2.1)) * a.2)))) + k.2.2.2.2.1)).tmod p) == 0) = true then some ((0, 0, 0), false) else (if (!(p == 0)) = true then (if (!(p == 0)) = true then (if (!(p == 0)) = true then (if (prB p) = true then some ((s_l01Normal p ((wI ((wI ((wI ((wI (2 * k.1)) * a.1)) + (wI (k.2.1 * a.2)))) + k.2.2.2.1)).tmod p) ((wI ((wI ((wI (k.2.1 * a.1)) + (wI ((wI (2 * k.2.2.1)) * a.2)))) + k.2.2.2.2.1)).tmod p) ((wI ((wI ((wI (k.2.2.2.1 * a.1)) + (wI (k.2.2.2.2.1 * a.2)))) + (wI (2 * k.2.2.2.2.2)))).tmod p)), true) else none) else none) else none) else none)) else none) else (if (!(p == 0)) = true then (if (!(p == 0)) = true then (if (!(p == 0)) = true then (if (prB p) = true then some ((s_l01Normal p ((wI ((wI ((wI ((wI (2 * k.1)) * a.1)) + (wI (k.2.1 * a.2)))) + k.2.2.2.1)).tmod p) ((wI ((wI ((wI (k.2.1 * a.1)) + (wI ((wI (2 * k.2.2.1)) * a.2)))) + k.2.2.2.2.1)).tmod p) ((wI ((wI ((wI (k.2.2.2.1 * a.1)) + (wI (k.2.2.2.2.1 * a.2)))) + (wI (2 * k.2.2.2.2.2)))).tmod p)), true) else none) else none) else none) else none)) else none)
theorem eq_s_l08Polar (p : Int) (k : Int × Int × Int × Int × Int × Int) (a : Int × Int) : execT Try.prog S_s_l08Polar 72 78 1000000 dec_a3_b [.v (.int .i64 p), .v (.agg ⟨[.int .i64 k.1, .int .i64 k.2.1, .int .i64 k.2.2.1, .int .i64 k.2.2.2.1, .int .i64 k.2.2.2.2.1, .int .i64 k.2.2.2.2.2]⟩), .v (.agg ⟨[.int .i64 a.1, .int .i64 a.2]⟩)] = Fo_s_l08Polar p k a := by
  kernel_rfl
def s_l08Polar (p : Int) (k : Int × Int × Int × Int × Int × Int) (a : Int × Int) : (Int × Int × Int) × Bool :=
  (if (((wrap64 ((wrap64 ((wrap64 ((wrap64 (2 * k.1)) * a.1)) + (wrap64 (k.2.1 * a.2)))) + k.2.2.2.1)).tmod p) == 0) = true then (if (((wrap64 ((wrap64 ((wrap64 (k.2.1 * a.1)) + (wrap64 ((wrap64 (2 * k.2.2.1)) * a.2)))) + k.2.2.2.2.1)).tmod p) == 0) = true then ((0, 0, 0), false) else ((s_l01Normal p ((wrap64 ((wrap64 ((wrap64 ((wrap64 (2 * k.1)) * a.1)) + (wrap64 (k.2.1 * a.2)))) + k.2.2.2.1)).tmod p) ((wrap64 ((wrap64 ((wrap64 (k.2.1 * a.1)) + (wrap64 ((wrap64 (2 * k.2.2.1)) * a.2)))) + k.2.2.2.2.1)).tmod p) ((wrap64 ((wrap64 ((wrap64 (k.2.2.2.1 * a.1)) + (wrap64 (k.2.2.2.2.1 * a.2)))) + (wrap64 (2 * k.2.2.2.2.2)))).tmod p)), true)) else ((s_l01Normal p ((wrap64 ((wrap64 ((wrap64 ((wrap64 (2 * k.1)) * a.1)) + (wrap64 (k.2.1 * a.2)))) + k.2.2.2.1)).tmod p) ((wrap64 ((wrap64 ((wrap64 (k.2.1 * a.1)) + (wrap64 ((wrap64 (2 * k.2.2.1)) * a.2)))) + k.2.2.2.2.1)).tmod p) ((wrap64 ((wrap64 ((wrap64 (k.2.2.2.1 * a.1)) + (wrap64 (k.2.2.2.2.1 * a.2)))) + (wrap64 (2 * k.2.2.2.2.2)))).tmod p)), true))
theorem tot_s_l08Polar (p : Int) (k : Int × Int × Int × Int × Int × Int) (a : Int × Int) (hp : (prB p) = true) : Fo_s_l08Polar p k a = some (s_l08Polar p k a) := by
  have h0 := prB_ne hp
  unfold Fo_s_l08Polar s_l08Polar
  (try simp only [wI_eq])
  repeat' (first | with_reducible rfl | with_reducible refine chk_opt hp ?_ | with_reducible refine chk_opt h0 ?_ | refine ite_opt (fun _ => ?_) (fun _ => ?_) | rfl)
def run_s_l08Polar : List PV → Option (Bool × List TR)
  | [.v (.int .i64 p), .v (.agg ⟨[.int .i64 k0, .int .i64 k1, .int .i64 k2, .int .i64 k3, .int .i64 k4, .int .i64 k5]⟩), .v (.agg ⟨[.int .i64 a0, .int .i64 a1]⟩)] => some (prB p, enc_a3_b (s_l08Polar p (k0, k1, k2, k3, k4, k5) (a0, a1)))
  | _ => none
theorem sound_s_l08Polar : Sound Try.prog 72 run_s_l08Polar := by
  refine sound_of de_a3_b SO_s_l08Polar (by kernel_rfl) Try.func72 Try.ntmps72 rfl (by kernel_rfl) ?_
  intro W pvs avs rs hargs hrun
  unfold run_s_l08Polar at hrun
  split at hrun
  · simp only [Option.some.injEq, Prod.mk.injEq] at hrun
    obtain ⟨hp, rfl⟩ := hrun
    rename_i p k0 k1 k2 k3 k4 k5 a0 a1
    exact ⟨_, _, _, hargs, rfl, (eq_s_l08Polar p (k0, k1, k2, k3, k4, k5) (a0, a1)).trans (tot_s_l08Polar p (k0, k1, k2, k3, k4, k5) (a0, a1) hp)⟩
  · cases hrun

def S_s_PolarOf : Sums := ⟨tblS [(71, run_s_l08Given), (72, run_s_l08Polar)], tblM []⟩
theorem SO_s_PolarOf : SumsOK Try.prog S_s_PolarOf := ⟨tblS_ok ⟨⟨Try.call71, sound_s_l08Given⟩, ⟨Try.call72, sound_s_l08Polar⟩, True.intro⟩, tblM_ok True.intro⟩
def Fo_s_PolarOf (p : Int) (k : Int × Int × Int × Int × Int × Int) (a : Int × Int) : Option ((Int × Int × Int) × Int) :=
  (if ((s_l08Given p k a) != 0) = true then some ((0, 0, 0), (s_l08Given p k a)) else (if (prB p) = true then (if (!((s_l08Polar p k a).2)) = true then some ((0, 0, 0), 5) else some (((s_l08Polar p k a).1), 0)) else none))
theorem eq_s_PolarOf (p : Int) (k : Int × Int × Int × Int × Int × Int) (a : Int × Int) : execT Try.prog S_s_PolarOf 31 30 1000000 dec_a3_i [.v (.int .i64 p), .v (.agg ⟨[.int .i64 k.1, .int .i64 k.2.1, .int .i64 k.2.2.1, .int .i64 k.2.2.2.1, .int .i64 k.2.2.2.2.1, .int .i64 k.2.2.2.2.2]⟩), .v (.agg ⟨[.int .i64 a.1, .int .i64 a.2]⟩)] = Fo_s_PolarOf p k a := by
  kernel_rfl
def s_PolarOf (p : Int) (k : Int × Int × Int × Int × Int × Int) (a : Int × Int) : (Int × Int × Int) × Int :=
  (if ((s_l08Given p k a) != 0) = true then ((0, 0, 0), (s_l08Given p k a)) else (if (!((s_l08Polar p k a).2)) = true then ((0, 0, 0), 5) else (((s_l08Polar p k a).1), 0)))
theorem tot_s_PolarOf (p : Int) (k : Int × Int × Int × Int × Int × Int) (a : Int × Int) : Fo_s_PolarOf p k a = some (s_PolarOf p k a) := by
  unfold Fo_s_PolarOf s_PolarOf
  (try simp only [wI_eq])
  repeat' (first | with_reducible rfl | refine chk_opt (by first | with_reducible rfl | exact Bool.true_or _ | (with_reducible exact asked_prB ‹_›) | (with_reducible exact l09Code_prB ‹_›) | (with_reducible exact l01Code_prB ‹_›) | (with_reducible exact l01Numbers_prB ‹_›) | (with_reducible exact l01Lines_prB ‹_›) | (with_reducible exact asked_prB0 ‹_›) | (with_reducible exact l09Code_prB0 ‹_›) | (with_reducible exact l01Code_prB0 ‹_›) | (with_reducible exact l01Numbers_prB0 ‹_›) | (with_reducible exact l01Lines_prB0 ‹_›) | (with_reducible exact field_prB ‹_›) | (with_reducible exact field_prB0 ‹_›) | (with_reducible exact l08Code_prB ‹_›) | (with_reducible exact l08Code_prB0 ‹_›) | (with_reducible exact l08Given_prB ‹_›) | (with_reducible exact l08Given_prB0 ‹_›)) ?_ | refine ite_opt (fun _ => ?_) (fun _ => ?_) | rfl)
def run_s_PolarOf : List PV → Option (Bool × List TR)
  | [.v (.int .i64 p), .v (.agg ⟨[.int .i64 k0, .int .i64 k1, .int .i64 k2, .int .i64 k3, .int .i64 k4, .int .i64 k5]⟩), .v (.agg ⟨[.int .i64 a0, .int .i64 a1]⟩)] => some (true, enc_a3_i (s_PolarOf p (k0, k1, k2, k3, k4, k5) (a0, a1)))
  | _ => none
theorem sound_s_PolarOf : Sound Try.prog 31 run_s_PolarOf := by
  refine sound_of de_a3_i SO_s_PolarOf (by kernel_rfl) Try.func31 Try.ntmps31 rfl (by kernel_rfl) ?_
  intro W pvs avs rs hargs hrun
  unfold run_s_PolarOf at hrun
  split at hrun
  · simp only [Option.some.injEq, Prod.mk.injEq] at hrun
    obtain ⟨hp, rfl⟩ := hrun
    rename_i p k0 k1 k2 k3 k4 k5 a0 a1
    exact ⟨_, _, _, hargs, rfl, (eq_s_PolarOf p (k0, k1, k2, k3, k4, k5) (a0, a1)).trans (tot_s_PolarOf p (k0, k1, k2, k3, k4, k5) (a0, a1))⟩
  · cases hrun

def S_l_FnExactPolarOf : Sums := ⟨tblS [(15, run_l_toConic), (32, run_l_toPoint), (31, run_s_PolarOf), (33, run_i_PolarOf), (34, run_l_eqLine)], tblM []⟩
theorem SO_l_FnExactPolarOf : SumsOK Try.prog S_l_FnExactPolarOf := ⟨tblS_ok ⟨⟨Try.call15, sound_l_toConic⟩, ⟨Try.call32, sound_l_toPoint⟩, ⟨Try.call31, sound_s_PolarOf⟩, ⟨Try.call33, sound_i_PolarOf⟩, ⟨Try.call34, sound_l_eqLine⟩, True.intro⟩, tblM_ok True.intro⟩
def Fo_l_FnExactPolarOf (aP : Int) (aK : Int × Int × Int × Int × Int × Int) (aA : Int × Int) : Option (Bool) :=
  (if (!(l_eqLine ((i_PolarOf aP (l_toConic aK) (l_toPoint aA)).1) ((s_PolarOf aP (l_toConic aK) (l_toPoint aA)).1))) = true then some false else (if (((i_PolarOf aP (l_toConic aK) (l_toPoint aA)).2) != ((s_PolarOf aP (l_toConic aK) (l_toPoint aA)).2)) = true then some false else some true))
theorem eq_l_FnExactPolarOf (aP : Int) (aK : Int × Int × Int × Int × Int × Int) (aA : Int × Int) : execT Try.prog S_l_FnExactPolarOf 8 38 1000000 dec_b [.v (.int .i64 aP), .v (.agg ⟨[.int .i64 aK.1, .int .i64 aK.2.1, .int .i64 aK.2.2.1, .int .i64 aK.2.2.2.1, .int .i64 aK.2.2.2.2.1, .int .i64 aK.2.2.2.2.2]⟩), .v (.agg ⟨[.int .i64 aA.1, .int .i64 aA.2]⟩)] = Fo_l_FnExactPolarOf aP aK aA := by
  kernel_rfl
def l_FnExactPolarOf (aP : Int) (aK : Int × Int × Int × Int × Int × Int) (aA : Int × Int) : Bool :=
  (if (!(l_eqLine ((i_PolarOf aP (l_toConic aK) (l_toPoint aA)).1) ((s_PolarOf aP (l_toConic aK) (l_toPoint aA)).1))) = true then false else (if (((i_PolarOf aP (l_toConic aK) (l_toPoint aA)).2) != ((s_PolarOf aP (l_toConic aK) (l_toPoint aA)).2)) = true then false else true))
theorem tot_l_FnExactPolarOf (aP : Int) (aK : Int × Int × Int × Int × Int × Int) (aA : Int × Int) : Fo_l_FnExactPolarOf aP aK aA = some (l_FnExactPolarOf aP aK aA) := by
  unfold Fo_l_FnExactPolarOf l_FnExactPolarOf
  (try simp only [wI_eq])
  repeat' (first | with_reducible rfl | refine ite_opt (fun _ => ?_) (fun _ => ?_) | rfl)
def run_l_FnExactPolarOf : List PV → Option (Bool × List TR)
  | [.v (.int .i64 aP), .v (.agg ⟨[.int .i64 aK0, .int .i64 aK1, .int .i64 aK2, .int .i64 aK3, .int .i64 aK4, .int .i64 aK5]⟩), .v (.agg ⟨[.int .i64 aA0, .int .i64 aA1]⟩)] => some (true, enc_b (l_FnExactPolarOf aP (aK0, aK1, aK2, aK3, aK4, aK5) (aA0, aA1)))
  | _ => none
theorem sound_l_FnExactPolarOf : Sound Try.prog 8 run_l_FnExactPolarOf := by
  refine sound_of de_b SO_l_FnExactPolarOf (by kernel_rfl) Try.func8 Try.ntmps8 rfl (by kernel_rfl) ?_
  intro W pvs avs rs hargs hrun
  unfold run_l_FnExactPolarOf at hrun
  split at hrun
  · simp only [Option.some.injEq, Prod.mk.injEq] at hrun
    obtain ⟨hp, rfl⟩ := hrun
    rename_i aP aK0 aK1 aK2 aK3 aK4 aK5 aA0 aA1
    exact ⟨_, _, _, hargs, rfl, (eq_l_FnExactPolarOf aP (aK0, aK1, aK2, aK3, aK4, aK5) (aA0, aA1)).trans (tot_l_FnExactPolarOf aP (aK0, aK1, aK2, aK3, aK4, aK5) (aA0, aA1))⟩
  · cases hrun


end Go.Proofs.Ytjpckmpeahinkaa
