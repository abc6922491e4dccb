import Derived.Test.YtjpckmpeahinkaaFa
import Derived.Test.YtjpckmpeahinkaaProg
set_option linter.unusedSimpArgs false
set_option linter.unusedVariables false
namespace Go.Proofs.Ytjpckmpeahinkaa
open Go.RowKit
def dec_a3_i : List TR → Option ((Int × Int × Int) × Int)
  | [.v (.agg ⟨[.int .i64 x0_0, .int .i64 x0_1, .int .i64 x0_2]⟩), .v (.int .i64 x1)] => some ((x0_0, x0_1, x0_2), x1)
  | _ => none
def enc_a3_i : (Int × Int × Int) × Int → List TR
  | ((x0_0, x0_1, x0_2), x1) => [.v (.agg ⟨[.int .i64 x0_0, .int .i64 x0_1, .int .i64 x0_2]⟩), .v (.int .i64 x1)]
theorem de_a3_i (rs : List TR) (x : (Int × Int × Int) × Int) (h : dec_a3_i rs = some x) : rs = enc_a3_i x := by
  unfold dec_a3_i at h
  split at h
  · simp only [Option.some.injEq] at h
    subst h
    rfl
  · cases h
def dec_l47_2_i : List TR → Option ((Nat × List Int) × Int)
  | [.s 47 2 n0 (.ints x0), .v (.int .i64 x1)] => some ((n0, x0), x1)
  | _ => none
def enc_l47_2_i : (Nat × List Int) × Int → List TR
  | ((n0, x0), x1) => [.s 47 2 n0 (.ints x0), .v (.int .i64 x1)]
theorem de_l47_2_i (rs : List TR) (x : (Nat × List Int) × Int) (h : dec_l47_2_i rs = some x) : rs = enc_l47_2_i x := by
  unfold dec_l47_2_i at h
  split at h
  · simp only [Option.some.injEq] at h
    subst h
    rfl
  · cases h
def dec_a2_i : List TR → Option ((Int × Int) × Int)
  | [.v (.agg ⟨[.int .i64 x0_0, .int .i64 x0_1]⟩), .v (.int .i64 x1)] => some ((x0_0, x0_1), x1)
  | _ => none
def enc_a2_i : (Int × Int) × Int → List TR
  | ((x0_0, x0_1), x1) => [.v (.agg ⟨[.int .i64 x0_0, .int .i64 x0_1]⟩), .v (.int .i64 x1)]
theorem de_a2_i (rs : List TR) (x : (Int × Int) × Int) (h : dec_a2_i rs = some x) : rs = enc_a2_i x := by
  unfold dec_a2_i at h
  split at h
  · simp only [Option.some.injEq] at h
    subst h
    rfl
  · cases h
def clo_a2_b (k : (Int × Int) → Bool) (h : (Int × Int) → Bool) : List Value → Option (Bool × Value)
  | [.agg ⟨[.int .i64 a0_0, .int .i64 a0_1]⟩] => some (k (a0_0, a0_1), .bool (h (a0_0, a0_1)))
  | _ => none
theorem clo_a2_b_ok (g : List Value → Option (Bool × Value)) : ∀ args r, clo_a2_b (fun a0 => okV (g [.agg ⟨[.int .i64 a0.1, .int .i64 a0.2]⟩])) (fun a0 => boolV (g [.agg ⟨[.int .i64 a0.1, .int .i64 a0.2]⟩])) args = some (true, r) → g args = some (true, r) := by
  intro args r h
  unfold clo_a2_b at h
  split at h
  · simp only [Option.some.injEq, Prod.mk.injEq] at h
    obtain ⟨h1, rfl⟩ := h
    exact okV_some h1
  · cases h
def S_s_CentreOf : Sums := ⟨tblS [(53, run_s_l08Code), (58, run_s_l08Kind), (77, run_s_l01Normal), (76, run_s_l01Meet)], tblM []⟩
theorem SO_s_CentreOf : SumsOK Try.prog S_s_CentreOf := ⟨tblS_ok ⟨⟨Try.call53, sound_s_l08Code⟩, ⟨Try.call58, sound_s_l08Kind⟩, ⟨Try.call77, sound_s_l01Normal⟩, ⟨Try.call76, sound_s_l01Meet⟩, True.intro⟩, tblM_ok True.intro⟩
def Fo_s_CentreOf (p : Int) (k : Int × Int × Int × Int × Int × Int) : Option ((Int × Int) × Int) :=
  (if ((s_l08Code p k) == 0) = true then (if (prB p) = true then (if ((s_l08Kind p k) == 0) = true then some ((0, 0), 5) else (if ((s_l08Code p k) != 0) = true then some ((0, 0), (s_l08Code p k)) else (if (prB p) = true then (if (prB p) = true then (if (prB p) = true then some (((s_l01Meet p (s_l01Normal p (wI (2 * k.1)) k.2.1 k.2.2.2.1) (s_l01Normal p k.2.1 (wI (2 * k.2.2.1)) k.2.2.2.2.1)).1), 0) else none) else none) else none))) else none) else (if ((s_l08Code p k) != 0) = true then some ((0, 0), (s_l08Code p k)) else (if (prB p) = true then (if (prB p) = true then (if (prB p) = true then some (((s_l01Meet p (s_l01Normal p (wI (2 * k.1)) k.2.1 k.2.2.2.1) (s_l01Normal p k.2.1 (wI (2 * k.2.2.1)) k.2.2.2.2.1)).1), 0) else none) else none) else none)))
theorem eq_s_CentreOf (p : Int) (k : Int × Int × Int × Int × Int × Int) : execT Try.prog S_s_CentreOf 35 48 (fun _ => 1000000) dec_a2_i [.v (.int .i64 p), .v (.agg ⟨[.int .i64 k.1, .int .i64 k.2.1, .int .i64 k.2.2.1, .int .i64 k.2.2.2.1, .int .i64 k.2.2.2.2.1, .int .i64 k.2.2.2.2.2]⟩)] = Fo_s_CentreOf p k := by
  kernel_rfl
def s_CentreOf (p : Int) (k : Int × Int × Int × Int × Int × Int) : (Int × Int) × Int :=
  (if ((s_l08Code p k) == 0) = true then (if ((s_l08Kind p k) == 0) = true then ((0, 0), 5) else (if ((s_l08Code p k) != 0) = true then ((0, 0), (s_l08Code p k)) else (((s_l01Meet p (s_l01Normal p (wrap64 (2 * k.1)) k.2.1 k.2.2.2.1) (s_l01Normal p k.2.1 (wrap64 (2 * k.2.2.1)) k.2.2.2.2.1)).1), 0))) else (if ((s_l08Code p k) != 0) = true then ((0, 0), (s_l08Code p k)) else (((s_l01Meet p (s_l01Normal p (wrap64 (2 * k.1)) k.2.1 k.2.2.2.1) (s_l01Normal p k.2.1 (wrap64 (2 * k.2.2.1)) k.2.2.2.2.1)).1), 0)))
theorem tot_s_CentreOf (p : Int) (k : Int × Int × Int × Int × Int × Int) : Fo_s_CentreOf p k = some (s_CentreOf p k) := by
  unfold Fo_s_CentreOf s_CentreOf
  (try simp only [wI_eq])
  repeat' (first | with_reducible rfl | refine chk_opt (by first | with_reducible rfl | exact Bool.true_or _ | (with_reducible exact asked_prB ‹_›) | (with_reducible exact l09Code_prB ‹_›) | (with_reducible exact l01Code_prB ‹_›) | (with_reducible exact l01Numbers_prB ‹_›) | (with_reducible exact l01Lines_prB ‹_›) | (with_reducible exact asked_prB0 ‹_›) | (with_reducible exact l09Code_prB0 ‹_›) | (with_reducible exact l01Code_prB0 ‹_›) | (with_reducible exact l01Numbers_prB0 ‹_›) | (with_reducible exact l01Lines_prB0 ‹_›) | (with_reducible exact field_prB ‹_›) | (with_reducible exact field_prB0 ‹_›) | (with_reducible exact l08Code_prB ‹_›) | (with_reducible exact l08Code_prB0 ‹_›) | (with_reducible exact l08Given_prB ‹_›) | (with_reducible exact l08Given_prB0 ‹_›) | (with_reducible exact l02Code_prB ‹_›) | (with_reducible exact l02Code_prB0 ‹_›) | (with_reducible exact l04Code_prB ‹_›) | (with_reducible exact l04Code_prB0 ‹_›) | (with_reducible exact triangle_prB ‹_›) | (with_reducible exact triangle_prB0 ‹_›) | (with_reducible exact l01Both_prB ‹_›) | (with_reducible exact l01Both_prB0 ‹_›) | (with_reducible exact sfield_prB0 ‹_›) | exact mk_ok (by (first | (with_reducible assumption) | (with_reducible exact asked_prB ‹_›) | (with_reducible exact l09Code_prB ‹_›) | (with_reducible exact l01Code_prB ‹_›) | (with_reducible exact l01Numbers_prB ‹_›) | (with_reducible exact l01Lines_prB ‹_›) | (with_reducible exact asked_prB0 ‹_›) | (with_reducible exact l09Code_prB0 ‹_›) | (with_reducible exact l01Code_prB0 ‹_›) | (with_reducible exact l01Numbers_prB0 ‹_›) | (with_reducible exact l01Lines_prB0 ‹_›) | (with_reducible exact field_prB ‹_›) | (with_reducible exact field_prB0 ‹_›) | (with_reducible exact l08Code_prB ‹_›) | (with_reducible exact l08Code_prB0 ‹_›) | (with_reducible exact l08Given_prB ‹_›) | (with_reducible exact l08Given_prB0 ‹_›) | (with_reducible exact l02Code_prB ‹_›) | (with_reducible exact l02Code_prB0 ‹_›) | (with_reducible exact l04Code_prB ‹_›) | (with_reducible exact l04Code_prB0 ‹_›) | (with_reducible exact triangle_prB ‹_›) | (with_reducible exact triangle_prB0 ‹_›) | (with_reducible exact l01Both_prB ‹_›) | (with_reducible exact l01Both_prB0 ‹_›) | (with_reducible exact sfield_prB0 ‹_›))) | exact and_all (by (first | (with_reducible assumption) | (with_reducible exact asked_prB ‹_›) | (with_reducible exact l09Code_prB ‹_›) | (with_reducible exact l01Code_prB ‹_›) | (with_reducible exact l01Numbers_prB ‹_›) | (with_reducible exact l01Lines_prB ‹_›) | (with_reducible exact asked_prB0 ‹_›) | (with_reducible exact l09Code_prB0 ‹_›) | (with_reducible exact l01Code_prB0 ‹_›) | (with_reducible exact l01Numbers_prB0 ‹_›) | (with_reducible exact l01Lines_prB0 ‹_›) | (with_reducible exact field_prB ‹_›) | (with_reducible exact field_prB0 ‹_›) | (with_reducible exact l08Code_prB ‹_›) | (with_reducible exact l08Code_prB0 ‹_›) | (with_reducible exact l08Given_prB ‹_›) | (with_reducible exact l08Given_prB0 ‹_›) | (with_reducible exact l02Code_prB ‹_›) | (with_reducible exact l02Code_prB0 ‹_›) | (with_reducible exact l04Code_prB ‹_›) | (with_reducible exact l04Code_prB0 ‹_›) | (with_reducible exact triangle_prB ‹_›) | (with_reducible exact triangle_prB0 ‹_›) | (with_reducible exact l01Both_prB ‹_›) | (with_reducible exact l01Both_prB0 ‹_›) | (with_reducible exact sfield_prB0 ‹_›))) (fun _ => rfl) | exact and_all (by (first | (with_reducible assumption) | (with_reducible exact asked_prB ‹_›) | (with_reducible exact l09Code_prB ‹_›) | (with_reducible exact l01Code_prB ‹_›) | (with_reducible exact l01Numbers_prB ‹_›) | (with_reducible exact l01Lines_prB ‹_›) | (with_reducible exact asked_prB0 ‹_›) | (with_reducible exact l09Code_prB0 ‹_›) | (with_reducible exact l01Code_prB0 ‹_›) | (with_reducible exact l01Numbers_prB0 ‹_›) | (with_reducible exact l01Lines_prB0 ‹_›) | (with_reducible exact field_prB ‹_›) | (with_reducible exact field_prB0 ‹_›) | (with_reducible exact l08Code_prB ‹_›) | (with_reducible exact l08Code_prB0 ‹_›) | (with_reducible exact l08Given_prB ‹_›) | (with_reducible exact l08Given_prB0 ‹_›) | (with_reducible exact l02Code_prB ‹_›) | (with_reducible exact l02Code_prB0 ‹_›) | (with_reducible exact l04Code_prB ‹_›) | (with_reducible exact l04Code_prB0 ‹_›) | (with_reducible exact triangle_prB ‹_›) | (with_reducible exact triangle_prB0 ‹_›) | (with_reducible exact l01Both_prB ‹_›) | (with_reducible exact l01Both_prB0 ‹_›) | (with_reducible exact sfield_prB0 ‹_›))) (fun _ => by (first | (with_reducible assumption) | (with_reducible exact asked_prB ‹_›) | (with_reducible exact l09Code_prB ‹_›) | (with_reducible exact l01Code_prB ‹_›) | (with_reducible exact l01Numbers_prB ‹_›) | (with_reducible exact l01Lines_prB ‹_›) | (with_reducible exact asked_prB0 ‹_›) | (with_reducible exact l09Code_prB0 ‹_›) | (with_reducible exact l01Code_prB0 ‹_›) | (with_reducible exact l01Numbers_prB0 ‹_›) | (with_reducible exact l01Lines_prB0 ‹_›) | (with_reducible exact field_prB ‹_›) | (with_reducible exact field_prB0 ‹_›) | (with_reducible exact l08Code_prB ‹_›) | (with_reducible exact l08Code_prB0 ‹_›) | (with_reducible exact l08Given_prB ‹_›) | (with_reducible exact l08Given_prB0 ‹_›) | (with_reducible exact l02Code_prB ‹_›) | (with_reducible exact l02Code_prB0 ‹_›) | (with_reducible exact l04Code_prB ‹_›) | (with_reducible exact l04Code_prB0 ‹_›) | (with_reducible exact triangle_prB ‹_›) | (with_reducible exact triangle_prB0 ‹_›) | (with_reducible exact l01Both_prB ‹_›) | (with_reducible exact l01Both_prB0 ‹_›) | (with_reducible exact sfield_prB0 ‹_›))) | exact and3 (by (first | (with_reducible assumption) | (with_reducible exact asked_prB ‹_›) | (with_reducible exact l09Code_prB ‹_›) | (with_reducible exact l01Code_prB ‹_›) | (with_reducible exact l01Numbers_prB ‹_›) | (with_reducible exact l01Lines_prB ‹_›) | (with_reducible exact asked_prB0 ‹_›) | (with_reducible exact l09Code_prB0 ‹_›) | (with_reducible exact l01Code_prB0 ‹_›) | (with_reducible exact l01Numbers_prB0 ‹_›) | (with_reducible exact l01Lines_prB0 ‹_›) | (with_reducible exact field_prB ‹_›) | (with_reducible exact field_prB0 ‹_›) | (with_reducible exact l08Code_prB ‹_›) | (with_reducible exact l08Code_prB0 ‹_›) | (with_reducible exact l08Given_prB ‹_›) | (with_reducible exact l08Given_prB0 ‹_›) | (with_reducible exact l02Code_prB ‹_›) | (with_reducible exact l02Code_prB0 ‹_›) | (with_reducible exact l04Code_prB ‹_›) | (with_reducible exact l04Code_prB0 ‹_›) | (with_reducible exact triangle_prB ‹_›) | (with_reducible exact triangle_prB0 ‹_›) | (with_reducible exact l01Both_prB ‹_›) | (with_reducible exact l01Both_prB0 ‹_›) | (with_reducible exact sfield_prB0 ‹_›))) (by (first | (with_reducible assumption) | (with_reducible exact asked_prB ‹_›) | (with_reducible exact l09Code_prB ‹_›) | (with_reducible exact l01Code_prB ‹_›) | (with_reducible exact l01Numbers_prB ‹_›) | (with_reducible exact l01Lines_prB ‹_›) | (with_reducible exact asked_prB0 ‹_›) | (with_reducible exact l09Code_prB0 ‹_›) | (with_reducible exact l01Code_prB0 ‹_›) | (with_reducible exact l01Numbers_prB0 ‹_›) | (with_reducible exact l01Lines_prB0 ‹_›) | (with_reducible exact field_prB ‹_›) | (with_reducible exact field_prB0 ‹_›) | (with_reducible exact l08Code_prB ‹_›) | (with_reducible exact l08Code_prB0 ‹_›) | (with_reducible exact l08Given_prB ‹_›) | (with_reducible exact l08Given_prB0 ‹_›) | (with_reducible exact l02Code_prB ‹_›) | (with_reducible exact l02Code_prB0 ‹_›) | (with_reducible exact l04Code_prB ‹_›) | (with_reducible exact l04Code_prB0 ‹_›) | (with_reducible exact triangle_prB ‹_›) | (with_reducible exact triangle_prB0 ‹_›) | (with_reducible exact l01Both_prB ‹_›) | (with_reducible exact l01Both_prB0 ‹_›) | (with_reducible exact sfield_prB0 ‹_›))) (by (first | (with_reducible assumption) | (with_reducible exact asked_prB ‹_›) | (with_reducible exact l09Code_prB ‹_›) | (with_reducible exact l01Code_prB ‹_›) | (with_reducible exact l01Numbers_prB ‹_›) | (with_reducible exact l01Lines_prB ‹_›) | (with_reducible exact asked_prB0 ‹_›) | (with_reducible exact l09Code_prB0 ‹_›) | (with_reducible exact l01Code_prB0 ‹_›) | (with_reducible exact l01Numbers_prB0 ‹_›) | (with_reducible exact l01Lines_prB0 ‹_›) | (with_reducible exact field_prB ‹_›) | (with_reducible exact field_prB0 ‹_›) | (with_reducible exact l08Code_prB ‹_›) | (with_reducible exact l08Code_prB0 ‹_›) | (with_reducible exact l08Given_prB ‹_›) | (with_reducible exact l08Given_prB0 ‹_›) | (with_reducible exact l02Code_prB ‹_›) | (with_reducible exact l02Code_prB0 ‹_›) | (with_reducible exact l04Code_prB ‹_›) | (with_reducible exact l04Code_prB0 ‹_›) | (with_reducible exact triangle_prB ‹_›) | (with_reducible exact triangle_prB0 ‹_›) | (with_reducible exact l01Both_prB ‹_›) | (with_reducible exact l01Both_prB0 ‹_›) | (with_reducible exact sfield_prB0 ‹_›))) | rfl) ?_ | refine ite_opt (fun _ => ?_) (fun _ => ?_) | rfl)
def run_s_CentreOf : List PV → Option (Bool × List TR)
  | [.v (.int .i64 p), .v (.agg ⟨[.int .i64 k0, .int .i64 k1, .int .i64 k2, .int .i64 k3, .int .i64 k4, .int .i64 k5]⟩)] => some (true, enc_a2_i (s_CentreOf p (k0, k1, k2, k3, k4, k5)))
  | _ => none
theorem sound_s_CentreOf : Sound Try.prog 35 run_s_CentreOf := by
  refine sound_of de_a2_i SO_s_CentreOf (by kernel_rfl) Try.func35 Try.ntmps35 rfl (by kernel_rfl) ?_
  intro W pvs avs rs hargs hrun
  unfold run_s_CentreOf at hrun
  split at hrun
  · simp only [Option.some.injEq, Prod.mk.injEq] at hrun
    obtain ⟨hp, rfl⟩ := hrun
    rename_i p k0 k1 k2 k3 k4 k5
    exact ⟨_, _, _, hargs, rfl, (eq_s_CentreOf p (k0, k1, k2, k3, k4, k5)).trans (tot_s_CentreOf p (k0, k1, k2, k3, k4, k5))⟩
  · cases hrun

def S_i_CentreOf_c1 : Sums := ⟨tblS [(52, run_i_isConic)], tblM []⟩
theorem SO_i_CentreOf_c1 : SumsOK Try.prog S_i_CentreOf_c1 := ⟨tblS_ok ⟨⟨Try.call52, sound_i_isConic⟩, True.intro⟩, tblM_ok True.intro⟩
def Fo_i_CentreOf_c1 (c0 : Int) (c1 : Int × Int × Int × Int × Int × Int) : Option (Bool) :=
  some (i_isConic c0 c1)
theorem eq_i_CentreOf_c1 (c0 : Int) (c1 : Int × Int × Int × Int × Int × Int) : execT Try.prog S_i_CentreOf_c1 78 6 (fun _ => 1000000) dec_b [.p [.int .i64 c0], .p [.int .i64 c1.1, .int .i64 c1.2.1, .int .i64 c1.2.2.1, .int .i64 c1.2.2.2.1, .int .i64 c1.2.2.2.2.1, .int .i64 c1.2.2.2.2.2]] = Fo_i_CentreOf_c1 c0 c1 := by
  kernel_rfl
def i_CentreOf_c1 (c0 : Int) (c1 : Int × Int × Int × Int × Int × Int) : Bool :=
  (i_isConic c0 c1)
theorem tot_i_CentreOf_c1 (c0 : Int) (c1 : Int × Int × Int × Int × Int × Int) : Fo_i_CentreOf_c1 c0 c1 = some (i_CentreOf_c1 c0 c1) := by
  unfold Fo_i_CentreOf_c1 i_CentreOf_c1
  (try simp only [wI_eq])
  repeat' (first | with_reducible rfl | refine ite_opt (fun _ => ?_) (fun _ => ?_) | rfl)
def run_i_CentreOf_c1 : List PV → Option (Bool × List TR)
  | [.p [.int .i64 c0], .p [.int .i64 c10, .int .i64 c11, .int .i64 c12, .int .i64 c13, .int .i64 c14, .int .i64 c15]] => some (true, enc_b (i_CentreOf_c1 c0 (c10, c11, c12, c13, c14, c15)))
  | _ => none
theorem sound_i_CentreOf_c1 : Sound Try.prog 78 run_i_CentreOf_c1 := by
  refine sound_of de_b SO_i_CentreOf_c1 (by kernel_rfl) Try.func78 Try.ntmps78 rfl (by kernel_rfl) ?_
  intro W pvs avs rs hargs hrun
  unfold run_i_CentreOf_c1 at hrun
  split at hrun
  · simp only [Option.some.injEq, Prod.mk.injEq] at hrun
    obtain ⟨hp, rfl⟩ := hrun
    rename_i c0 c10 c11 c12 c13 c14 c15
    exact ⟨_, _, _, hargs, rfl, (eq_i_CentreOf_c1 c0 (c10, c11, c12, c13, c14, c15)).trans (tot_i_CentreOf_c1 c0 (c10, c11, c12, c13, c14, c15))⟩
  · cases hrun

def S_i_CentreOf : Sums := ⟨tblS [(55, run_i_asked), (78, run_i_CentreOf_c1), (60, run_i_conicKind), (79, run_i_allPoints), (80, run_i_polar)], tblM []⟩
theorem SO_i_CentreOf : SumsOK Try.prog S_i_CentreOf := ⟨tblS_ok ⟨⟨Try.call55, sound_i_asked⟩, ⟨Try.call78, sound_i_CentreOf_c1⟩, ⟨Try.call60, sound_i_conicKind⟩, ⟨Try.call79, sound_i_allPoints⟩, ⟨Try.call80, sound_i_polar⟩, True.intro⟩, tblM_ok True.intro⟩
def T_i_CentreOf_0 (p : Int) (k : Int × Int × Int × Int × Int × Int) (t25 : Int) : Tab := ⟨[.val (.int .i64 p), .val (.agg ⟨[.int .i64 k.1, .int .i64 k.2.1, .int .i64 k.2.2.1, .int .i64 k.2.2.2.1, .int .i64 k.2.2.2.2.1, .int .i64 k.2.2.2.2.2]⟩), .ptr 8 0, .ptr 12 0, .ptr 16 0, .val (.int .i64 0), .val (.int .i64 (i_asked p (true) (i_CentreOf_c1 p k))), .junk, .junk, .junk, .val (.int .i64 p), .clo 78 [8, 12], .val (.int .i64 (i_asked p (true) (i_CentreOf_c1 p k))), .val (.int .i64 (i_asked p (true) (i_CentreOf_c1 p k))), .val (.bool ((i_asked p (true) (i_CentreOf_c1 p k)) != 0)), .junk, .junk, .val (.int .i64 p), .val (.agg ⟨[.int .i64 k.1, .int .i64 k.2.1, .int .i64 k.2.2.1, .int .i64 k.2.2.2.1, .int .i64 k.2.2.2.2.1, .int .i64 k.2.2.2.2.2]⟩), .val (.int .i64 (i_conicKind p k)), .val (.bool ((i_conicKind p k) == 0)), .junk, .val (.int .i64 p), .row 92, .val (.int .i64 (((i_allPoints p).1 : Nat) : Int)), .val (.int .i64 t25), .junk, .junk, .junk, .junk, .junk, .junk, .junk, .junk, .junk, .junk, .junk, .junk, .junk, .junk, .junk, .junk, .junk, .junk], [(8, .box 2 [.val (.int .i64 p)]), (12, .box 25 [.val (.int .i64 k.1), .val (.int .i64 k.2.1), .val (.int .i64 k.2.2.1), .val (.int .i64 k.2.2.2.1), .val (.int .i64 k.2.2.2.2.1), .val (.int .i64 k.2.2.2.2.2)]), (16, .box 47 [.val (.int .i64 0), .val (.int .i64 0)]), (92, .row 47 2 ((i_allPoints p).1) (.ints ((i_allPoints p).2)))]⟩
def X_i_CentreOf_0 (P : Program) (fu : Nat) (p : Int) (k : Int × Int × Int × Int × Int × Int) (f : Nat) (t25 : Int) : Option ((Int × Int) × Int) := loopK (exec P S_i_CentreOf 44 (fun _ => fu + 100) (Code.sub [1, 1, 1, 0, 1, 0, 0] (bodyF P 36))) f (T_i_CentreOf_0 p k t25) (kBlock 0 (kSeq (fun s => exec P S_i_CentreOf 44 (fun _ => fu + 100) (Code.sub [1, 1, 1, 1] (bodyF P 36)) s (finT P 36 dec_a2_i)) (finT P 36 dec_a2_i)))
def B_i_CentreOf_0 (p : Int) (k : Int × Int × Int × Int × Int × Int) (rec0 : Int → Option ((Int × Int) × Int)) (t25 : Int) : Option ((Int × Int) × Int) :=
  (if (decide (t25 < (((i_allPoints p).1 : Nat) : Int))) = true then (if (decide (0 ≤ t25) && decide (t25 < (((i_allPoints p).1 : Nat) : Int))) = true then (if (Nat.ble (t25.toNat * 2 + 2) (((i_allPoints p).2).length)) = true then (if (prB p) = true then (if (((i_polar p k (((i_allPoints p).2).getD (t25.toNat * 2 + 0) 0, ((i_allPoints p).2).getD (t25.toNat * 2 + 1) 0)).1) == 0) = true then (if (((i_polar p k (((i_allPoints p).2).getD (t25.toNat * 2 + 0) 0, ((i_allPoints p).2).getD (t25.toNat * 2 + 1) 0)).2.1) == 0) = true then some ((((i_allPoints p).2).getD (t25.toNat * 2 + 0) 0, ((i_allPoints p).2).getD (t25.toNat * 2 + 1) 0), 0) else rec0 (wI (t25 + 1))) else rec0 (wI (t25 + 1))) else none) else none) else none) else some ((0, 0), 5))
def L_i_CentreOf_0 (fu : Nat) (p : Int) (k : Int × Int × Int × Int × Int × Int) : Nat → Int → Option ((Int × Int) × Int)
  | 0, _ => none
  | f + 1, t25 => B_i_CentreOf_0 p k (L_i_CentreOf_0 fu p k f) t25
theorem loop_i_CentreOf_0 (fu : Nat) (p : Int) (k : Int × Int × Int × Int × Int × Int) : ∀ (f : Nat) (t25 : Int), X_i_CentreOf_0 Try.prog fu p k f t25 = L_i_CentreOf_0 fu p k f t25 := by
  intro f
  induction f with
  | zero => intros; rfl
  | succ f ih =>
    intro t25
    have h1 : X_i_CentreOf_0 Try.prog fu p k (f + 1) t25 = B_i_CentreOf_0 p k (X_i_CentreOf_0 Try.prog fu p k f) t25 := by kernel_rfl
    have h2 : X_i_CentreOf_0 Try.prog fu p k f = L_i_CentreOf_0 fu p k f := by funext t25; exact ih t25
    rw [h1, h2]
    rfl
def G_i_CentreOf (p : Int) (k : Int × Int × Int × Int × Int × Int) (lo0 : Int → Option ((Int × Int) × Int)) : Option ((Int × Int) × Int) :=
  (if ((true) || !(i_IsField p)) = true then (if ((i_asked p (true) (i_CentreOf_c1 p k)) != 0) = true then some ((0, 0), (i_asked p (true) (i_CentreOf_c1 p k))) else (if (prB p) = true then (if ((i_conicKind p k) == 0) = true then some ((0, 0), 5) else (if (prB p) = true then lo0 0 else none)) else none)) else none)
def Fo_i_CentreOf (fu : Nat) (p : Int) (k : Int × Int × Int × Int × Int × Int) : Option ((Int × Int) × Int) := G_i_CentreOf p k (L_i_CentreOf_0 fu p k (fu + 100))
theorem eqg_i_CentreOf (fu : Nat) (p : Int) (k : Int × Int × Int × Int × Int × Int) : execT Try.prog S_i_CentreOf 36 44 (fun _ => fu + 100) dec_a2_i [.v (.int .i64 p), .v (.agg ⟨[.int .i64 k.1, .int .i64 k.2.1, .int .i64 k.2.2.1, .int .i64 k.2.2.2.1, .int .i64 k.2.2.2.2.1, .int .i64 k.2.2.2.2.2]⟩)] = G_i_CentreOf p k (L_i_CentreOf_0 fu p k (fu + 100)) := by
  have h1 : execT Try.prog S_i_CentreOf 36 44 (fun _ => fu + 100) dec_a2_i [.v (.int .i64 p), .v (.agg ⟨[.int .i64 k.1, .int .i64 k.2.1, .int .i64 k.2.2.1, .int .i64 k.2.2.2.1, .int .i64 k.2.2.2.2.1, .int .i64 k.2.2.2.2.2]⟩)] = G_i_CentreOf p k (X_i_CentreOf_0 Try.prog fu p k (fu + 100)) := by kernel_rfl
  have c0 : X_i_CentreOf_0 Try.prog fu p k (fu + 100) = L_i_CentreOf_0 fu p k (fu + 100) := by funext t25; exact loop_i_CentreOf_0 fu p k (fu + 100) t25
  rw [h1, c0]
theorem eq_i_CentreOf (fu : Nat) (p : Int) (k : Int × Int × Int × Int × Int × Int) : execT Try.prog S_i_CentreOf 36 44 (fun _ => fu + 100) dec_a2_i [.v (.int .i64 p), .v (.agg ⟨[.int .i64 k.1, .int .i64 k.2.1, .int .i64 k.2.2.1, .int .i64 k.2.2.2.1, .int .i64 k.2.2.2.2.1, .int .i64 k.2.2.2.2.2]⟩)] = Fo_i_CentreOf fu p k := eqg_i_CentreOf fu p k
def V_i_CentreOf_0 (p : Int) (k : Int × Int × Int × Int × Int × Int) : Int → (Int × Int) × Int := fun _ => ((((pts p).findSome? fun zz => if (((i_polar p k zz).1 == 0) && ((i_polar p k zz).2.1 == 0)) = true then some (zz, (0 : Int)) else none)).getD ((0, 0), 5))
theorem lo0_i_CentreOf (p : Int) (k_ : P6) (hp : prB p = true) {F : Nat} (hF : 993 < F) : L_i_CentreOf_0 1000000 p k_ F 0 = some ((((pts p).findSome? fun zz => if (((i_polar p k_ zz).1 == 0) && ((i_polar p k_ zz).2.1 == 0)) = true then some ((zz, (0 : Int))) else none)).getD ((0, 0), 5)) := by
  have hlen : (pts p).length ≤ 993 := Nat.le_trans (pts_len hp) (by omega)
  have h := seek (L := fun f i => L_i_CentreOf_0 1000000 p k_ f i) (n := (pts p).length) (F := F) (q := fun k => if (((i_polar p k_ (R2 (flat2 (pts p)) k)).1 == 0) && ((i_polar p k_ (R2 (flat2 (pts p)) k)).2.1 == 0)) = true then some (((R2 (flat2 (pts p)) k), (0 : Int))) else none) (e := ((0, 0), 5)) (by omega)
    (fun f k hk => by
      show B_i_CentreOf_0 p k_ (L_i_CentreOf_0 1000000 p k_ f) (k : Int) = _
      unfold B_i_CentreOf_0
      have e0 : decide (0 ≤ (k : Int)) = true := by simp
      have e1 := cnd hk
      have e3 : (k : Int).toNat = k := Int.toNat_natCast k
      have e4 := row2_ok (flat2_len _) hk
      rw [show i_allPoints p = ((pts p).length, flat2 (pts p)) from rfl]
      simp only [e0, e1, e3, e4, hp, Bool.and_true, Bool.true_and, if_true, wrap_add1 hk (by omega)]
      have hr : ((flat2 (pts p)).getD (k * 2 + 0) 0, (flat2 (pts p)).getD (k * 2 + 1) 0) = R2 (flat2 (pts p)) k := rfl
      try simp only [hr]
      generalize (((i_polar p k_ (R2 (flat2 (pts p)) k)).1 == 0)) = c0
      generalize (((i_polar p k_ (R2 (flat2 (pts p)) k)).2.1 == 0)) = c1
      cases c0 <;> cases c1 <;> rfl)
    (fun f => by
      show B_i_CentreOf_0 p k_ (L_i_CentreOf_0 1000000 p k_ f) (((pts p).length : Nat) : Int) = _
      unfold B_i_CentreOf_0
      rw [show i_allPoints p = ((pts p).length, flat2 (pts p)) from rfl]
      rw [if_neg (by simp)])
  have h2 := find_row (pts p) (0, 0) (fun zz => if (((i_polar p k_ zz).1 == 0) && ((i_polar p k_ zz).2.1 == 0)) = true then some ((zz, (0 : Int))) else none)
  rw [← h2]
  simp only [← R2_flat]
  exact h

def i_CentreOf (p : Int) (k : Int × Int × Int × Int × Int × Int) : (Int × Int) × Int :=
  (if ((i_asked p (true) (i_CentreOf_c1 p k)) != 0) = true then ((0, 0), (i_asked p (true) (i_CentreOf_c1 p k))) else (if ((i_conicKind p k) == 0) = true then ((0, 0), 5) else V_i_CentreOf_0 p k 0))
theorem tot_i_CentreOf (p : Int) (k : Int × Int × Int × Int × Int × Int) : Fo_i_CentreOf 1000000 p k = some (i_CentreOf p k) := by
  unfold Fo_i_CentreOf G_i_CentreOf i_CentreOf
  (try simp only [wI_eq])
  repeat' (first | with_reducible rfl | refine chk_opt (by first | with_reducible rfl | exact Bool.true_or _ | (with_reducible exact asked_prB ‹_›) | (with_reducible exact l09Code_prB ‹_›) | (with_reducible exact l01Code_prB ‹_›) | (with_reducible exact l01Numbers_prB ‹_›) | (with_reducible exact l01Lines_prB ‹_›) | (with_reducible exact asked_prB0 ‹_›) | (with_reducible exact l09Code_prB0 ‹_›) | (with_reducible exact l01Code_prB0 ‹_›) | (with_reducible exact l01Numbers_prB0 ‹_›) | (with_reducible exact l01Lines_prB0 ‹_›) | (with_reducible exact field_prB ‹_›) | (with_reducible exact field_prB0 ‹_›) | (with_reducible exact l08Code_prB ‹_›) | (with_reducible exact l08Code_prB0 ‹_›) | (with_reducible exact l08Given_prB ‹_›) | (with_reducible exact l08Given_prB0 ‹_›) | (with_reducible exact l02Code_prB ‹_›) | (with_reducible exact l02Code_prB0 ‹_›) | (with_reducible exact l04Code_prB ‹_›) | (with_reducible exact l04Code_prB0 ‹_›) | (with_reducible exact triangle_prB ‹_›) | (with_reducible exact triangle_prB0 ‹_›) | (with_reducible exact l01Both_prB ‹_›) | (with_reducible exact l01Both_prB0 ‹_›) | (with_reducible exact sfield_prB0 ‹_›) | exact mk_ok (by (first | (with_reducible assumption) | (with_reducible exact asked_prB ‹_›) | (with_reducible exact l09Code_prB ‹_›) | (with_reducible exact l01Code_prB ‹_›) | (with_reducible exact l01Numbers_prB ‹_›) | (with_reducible exact l01Lines_prB ‹_›) | (with_reducible exact asked_prB0 ‹_›) | (with_reducible exact l09Code_prB0 ‹_›) | (with_reducible exact l01Code_prB0 ‹_›) | (with_reducible exact l01Numbers_prB0 ‹_›) | (with_reducible exact l01Lines_prB0 ‹_›) | (with_reducible exact field_prB ‹_›) | (with_reducible exact field_prB0 ‹_›) | (with_reducible exact l08Code_prB ‹_›) | (with_reducible exact l08Code_prB0 ‹_›) | (with_reducible exact l08Given_prB ‹_›) | (with_reducible exact l08Given_prB0 ‹_›) | (with_reducible exact l02Code_prB ‹_›) | (with_reducible exact l02Code_prB0 ‹_›) | (with_reducible exact l04Code_prB ‹_›) | (with_reducible exact l04Code_prB0 ‹_›) | (with_reducible exact triangle_prB ‹_›) | (with_reducible exact triangle_prB0 ‹_›) | (with_reducible exact l01Both_prB ‹_›) | (with_reducible exact l01Both_prB0 ‹_›) | (with_reducible exact sfield_prB0 ‹_›))) | exact and_all (by (first | (with_reducible assumption) | (with_reducible exact asked_prB ‹_›) | (with_reducible exact l09Code_prB ‹_›) | (with_reducible exact l01Code_prB ‹_›) | (with_reducible exact l01Numbers_prB ‹_›) | (with_reducible exact l01Lines_prB ‹_›) | (with_reducible exact asked_prB0 ‹_›) | (with_reducible exact l09Code_prB0 ‹_›) | (with_reducible exact l01Code_prB0 ‹_›) | (with_reducible exact l01Numbers_prB0 ‹_›) | (with_reducible exact l01Lines_prB0 ‹_›) | (with_reducible exact field_prB ‹_›) | (with_reducible exact field_prB0 ‹_›) | (with_reducible exact l08Code_prB ‹_›) | (with_reducible exact l08Code_prB0 ‹_›) | (with_reducible exact l08Given_prB ‹_›) | (with_reducible exact l08Given_prB0 ‹_›) | (with_reducible exact l02Code_prB ‹_›) | (with_reducible exact l02Code_prB0 ‹_›) | (with_reducible exact l04Code_prB ‹_›) | (with_reducible exact l04Code_prB0 ‹_›) | (with_reducible exact triangle_prB ‹_›) | (with_reducible exact triangle_prB0 ‹_›) | (with_reducible exact l01Both_prB ‹_›) | (with_reducible exact l01Both_prB0 ‹_›) | (with_reducible exact sfield_prB0 ‹_›))) (fun _ => rfl) | exact and_all (by (first | (with_reducible assumption) | (with_reducible exact asked_prB ‹_›) | (with_reducible exact l09Code_prB ‹_›) | (with_reducible exact l01Code_prB ‹_›) | (with_reducible exact l01Numbers_prB ‹_›) | (with_reducible exact l01Lines_prB ‹_›) | (with_reducible exact asked_prB0 ‹_›) | (with_reducible exact l09Code_prB0 ‹_›) | (with_reducible exact l01Code_prB0 ‹_›) | (with_reducible exact l01Numbers_prB0 ‹_›) | (with_reducible exact l01Lines_prB0 ‹_›) | (with_reducible exact field_prB ‹_›) | (with_reducible exact field_prB0 ‹_›) | (with_reducible exact l08Code_prB ‹_›) | (with_reducible exact l08Code_prB0 ‹_›) | (with_reducible exact l08Given_prB ‹_›) | (with_reducible exact l08Given_prB0 ‹_›) | (with_reducible exact l02Code_prB ‹_›) | (with_reducible exact l02Code_prB0 ‹_›) | (with_reducible exact l04Code_prB ‹_›) | (with_reducible exact l04Code_prB0 ‹_›) | (with_reducible exact triangle_prB ‹_›) | (with_reducible exact triangle_prB0 ‹_›) | (with_reducible exact l01Both_prB ‹_›) | (with_reducible exact l01Both_prB0 ‹_›) | (with_reducible exact sfield_prB0 ‹_›))) (fun _ => by (first | (with_reducible assumption) | (with_reducible exact asked_prB ‹_›) | (with_reducible exact l09Code_prB ‹_›) | (with_reducible exact l01Code_prB ‹_›) | (with_reducible exact l01Numbers_prB ‹_›) | (with_reducible exact l01Lines_prB ‹_›) | (with_reducible exact asked_prB0 ‹_›) | (with_reducible exact l09Code_prB0 ‹_›) | (with_reducible exact l01Code_prB0 ‹_›) | (with_reducible exact l01Numbers_prB0 ‹_›) | (with_reducible exact l01Lines_prB0 ‹_›) | (with_reducible exact field_prB ‹_›) | (with_reducible exact field_prB0 ‹_›) | (with_reducible exact l08Code_prB ‹_›) | (with_reducible exact l08Code_prB0 ‹_›) | (with_reducible exact l08Given_prB ‹_›) | (with_reducible exact l08Given_prB0 ‹_›) | (with_reducible exact l02Code_prB ‹_›) | (with_reducible exact l02Code_prB0 ‹_›) | (with_reducible exact l04Code_prB ‹_›) | (with_reducible exact l04Code_prB0 ‹_›) | (with_reducible exact triangle_prB ‹_›) | (with_reducible exact triangle_prB0 ‹_›) | (with_reducible exact l01Both_prB ‹_›) | (with_reducible exact l01Both_prB0 ‹_›) | (with_reducible exact sfield_prB0 ‹_›))) | exact and3 (by (first | (with_reducible assumption) | (with_reducible exact asked_prB ‹_›) | (with_reducible exact l09Code_prB ‹_›) | (with_reducible exact l01Code_prB ‹_›) | (with_reducible exact l01Numbers_prB ‹_›) | (with_reducible exact l01Lines_prB ‹_›) | (with_reducible exact asked_prB0 ‹_›) | (with_reducible exact l09Code_prB0 ‹_›) | (with_reducible exact l01Code_prB0 ‹_›) | (with_reducible exact l01Numbers_prB0 ‹_›) | (with_reducible exact l01Lines_prB0 ‹_›) | (with_reducible exact field_prB ‹_›) | (with_reducible exact field_prB0 ‹_›) | (with_reducible exact l08Code_prB ‹_›) | (with_reducible exact l08Code_prB0 ‹_›) | (with_reducible exact l08Given_prB ‹_›) | (with_reducible exact l08Given_prB0 ‹_›) | (with_reducible exact l02Code_prB ‹_›) | (with_reducible exact l02Code_prB0 ‹_›) | (with_reducible exact l04Code_prB ‹_›) | (with_reducible exact l04Code_prB0 ‹_›) | (with_reducible exact triangle_prB ‹_›) | (with_reducible exact triangle_prB0 ‹_›) | (with_reducible exact l01Both_prB ‹_›) | (with_reducible exact l01Both_prB0 ‹_›) | (with_reducible exact sfield_prB0 ‹_›))) (by (first | (with_reducible assumption) | (with_reducible exact asked_prB ‹_›) | (with_reducible exact l09Code_prB ‹_›) | (with_reducible exact l01Code_prB ‹_›) | (with_reducible exact l01Numbers_prB ‹_›) | (with_reducible exact l01Lines_prB ‹_›) | (with_reducible exact asked_prB0 ‹_›) | (with_reducible exact l09Code_prB0 ‹_›) | (with_reducible exact l01Code_prB0 ‹_›) | (with_reducible exact l01Numbers_prB0 ‹_›) | (with_reducible exact l01Lines_prB0 ‹_›) | (with_reducible exact field_prB ‹_›) | (with_reducible exact field_prB0 ‹_›) | (with_reducible exact l08Code_prB ‹_›) | (with_reducible exact l08Code_prB0 ‹_›) | (with_reducible exact l08Given_prB ‹_›) | (with_reducible exact l08Given_prB0 ‹_›) | (with_reducible exact l02Code_prB ‹_›) | (with_reducible exact l02Code_prB0 ‹_›) | (with_reducible exact l04Code_prB ‹_›) | (with_reducible exact l04Code_prB0 ‹_›) | (with_reducible exact triangle_prB ‹_›) | (with_reducible exact triangle_prB0 ‹_›) | (with_reducible exact l01Both_prB ‹_›) | (with_reducible exact l01Both_prB0 ‹_›) | (with_reducible exact sfield_prB0 ‹_›))) (by (first | (with_reducible assumption) | (with_reducible exact asked_prB ‹_›) | (with_reducible exact l09Code_prB ‹_›) | (with_reducible exact l01Code_prB ‹_›) | (with_reducible exact l01Numbers_prB ‹_›) | (with_reducible exact l01Lines_prB ‹_›) | (with_reducible exact asked_prB0 ‹_›) | (with_reducible exact l09Code_prB0 ‹_›) | (with_reducible exact l01Code_prB0 ‹_›) | (with_reducible exact l01Numbers_prB0 ‹_›) | (with_reducible exact l01Lines_prB0 ‹_›) | (with_reducible exact field_prB ‹_›) | (with_reducible exact field_prB0 ‹_›) | (with_reducible exact l08Code_prB ‹_›) | (with_reducible exact l08Code_prB0 ‹_›) | (with_reducible exact l08Given_prB ‹_›) | (with_reducible exact l08Given_prB0 ‹_›) | (with_reducible exact l02Code_prB ‹_›) | (with_reducible exact l02Code_prB0 ‹_›) | (with_reducible exact l04Code_prB ‹_›) | (with_reducible exact l04Code_prB0 ‹_›) | (with_reducible exact triangle_prB ‹_›) | (with_reducible exact triangle_prB0 ‹_›) | (with_reducible exact l01Both_prB ‹_›) | (with_reducible exact l01Both_prB0 ‹_›) | (with_reducible exact sfield_prB0 ‹_›))) | rfl) ?_ | refine ite_opt (fun _ => ?_) (fun _ => ?_) | exact lo0_i_CentreOf _ _ (by (first | (with_reducible assumption) | (with_reducible exact asked_prB ‹_›) | (with_reducible exact l09Code_prB ‹_›) | (with_reducible exact l01Code_prB ‹_›) | (with_reducible exact l01Numbers_prB ‹_›) | (with_reducible exact l01Lines_prB ‹_›) | (with_reducible exact asked_prB0 ‹_›) | (with_reducible exact l09Code_prB0 ‹_›) | (with_reducible exact l01Code_prB0 ‹_›) | (with_reducible exact l01Numbers_prB0 ‹_›) | (with_reducible exact l01Lines_prB0 ‹_›) | (with_reducible exact field_prB ‹_›) | (with_reducible exact field_prB0 ‹_›) | (with_reducible exact l08Code_prB ‹_›) | (with_reducible exact l08Code_prB0 ‹_›) | (with_reducible exact l08Given_prB ‹_›) | (with_reducible exact l08Given_prB0 ‹_›) | (with_reducible exact l02Code_prB ‹_›) | (with_reducible exact l02Code_prB0 ‹_›) | (with_reducible exact l04Code_prB ‹_›) | (with_reducible exact l04Code_prB0 ‹_›) | (with_reducible exact triangle_prB ‹_›) | (with_reducible exact triangle_prB0 ‹_›) | (with_reducible exact l01Both_prB ‹_›) | (with_reducible exact l01Both_prB0 ‹_›) | (with_reducible exact sfield_prB0 ‹_›))) (by omega) | rfl)
def run_i_CentreOf : List PV → Option (Bool × List TR)
  | [.v (.int .i64 p), .v (.agg ⟨[.int .i64 k0, .int .i64 k1, .int .i64 k2, .int .i64 k3, .int .i64 k4, .int .i64 k5]⟩)] => some (true, enc_a2_i (i_CentreOf p (k0, k1, k2, k3, k4, k5)))
  | _ => none
theorem sound_i_CentreOf : Sound Try.prog 36 run_i_CentreOf := by
  refine sound_of de_a2_i SO_i_CentreOf (by kernel_rfl) Try.func36 Try.ntmps36 rfl (by kernel_rfl) ?_
  intro W pvs avs rs hargs hrun
  unfold run_i_CentreOf at hrun
  split at hrun
  · simp only [Option.some.injEq, Prod.mk.injEq] at hrun
    obtain ⟨hp, rfl⟩ := hrun
    rename_i p k0 k1 k2 k3 k4 k5
    exact ⟨_, _, _, hargs, rfl, (eq_i_CentreOf _ p (k0, k1, k2, k3, k4, k5)).trans (tot_i_CentreOf p (k0, k1, k2, k3, k4, k5))⟩
  · cases hrun

def S_l_FnExactCentreOf : Sums := ⟨tblS [(15, run_l_toConic), (35, run_s_CentreOf), (36, run_i_CentreOf), (37, run_l_eqPoint)], tblM []⟩
theorem SO_l_FnExactCentreOf : SumsOK Try.prog S_l_FnExactCentreOf := ⟨tblS_ok ⟨⟨Try.call15, sound_l_toConic⟩, ⟨Try.call35, sound_s_CentreOf⟩, ⟨Try.call36, sound_i_CentreOf⟩, ⟨Try.call37, sound_l_eqPoint⟩, True.intro⟩, tblM_ok True.intro⟩
def Fo_l_FnExactCentreOf (aP : Int) (aK : Int × Int × Int × Int × Int × Int) : Option (Bool) :=
  (if (!(l_eqPoint ((i_CentreOf aP (l_toConic aK)).1) ((s_CentreOf aP (l_toConic aK)).1))) = true then some false else (if (((i_CentreOf aP (l_toConic aK)).2) != ((s_CentreOf aP (l_toConic aK)).2)) = true then some false else some true))
theorem eq_l_FnExactCentreOf (aP : Int) (aK : Int × Int × Int × Int × Int × Int) : execT Try.prog S_l_FnExactCentreOf 9 32 (fun _ => 1000000) dec_b [.v (.int .i64 aP), .v (.agg ⟨[.int .i64 aK.1, .int .i64 aK.2.1, .int .i64 aK.2.2.1, .int .i64 aK.2.2.2.1, .int .i64 aK.2.2.2.2.1, .int .i64 aK.2.2.2.2.2]⟩)] = Fo_l_FnExactCentreOf aP aK := by
  kernel_rfl
def l_FnExactCentreOf (aP : Int) (aK : Int × Int × Int × Int × Int × Int) : Bool :=
  (if (!(l_eqPoint ((i_CentreOf aP (l_toConic aK)).1) ((s_CentreOf aP (l_toConic aK)).1))) = true then false else (if (((i_CentreOf aP (l_toConic aK)).2) != ((s_CentreOf aP (l_toConic aK)).2)) = true then false else true))
theorem tot_l_FnExactCentreOf (aP : Int) (aK : Int × Int × Int × Int × Int × Int) : Fo_l_FnExactCentreOf aP aK = some (l_FnExactCentreOf aP aK) := by
  unfold Fo_l_FnExactCentreOf l_FnExactCentreOf
  (try simp only [wI_eq])
  repeat' (first | with_reducible rfl | refine ite_opt (fun _ => ?_) (fun _ => ?_) | rfl)
def run_l_FnExactCentreOf : List PV → Option (Bool × List TR)
  | [.v (.int .i64 aP), .v (.agg ⟨[.int .i64 aK0, .int .i64 aK1, .int .i64 aK2, .int .i64 aK3, .int .i64 aK4, .int .i64 aK5]⟩)] => some (true, enc_b (l_FnExactCentreOf aP (aK0, aK1, aK2, aK3, aK4, aK5)))
  | _ => none
theorem sound_l_FnExactCentreOf : Sound Try.prog 9 run_l_FnExactCentreOf := by
  refine sound_of de_b SO_l_FnExactCentreOf (by kernel_rfl) Try.func9 Try.ntmps9 rfl (by kernel_rfl) ?_
  intro W pvs avs rs hargs hrun
  unfold run_l_FnExactCentreOf at hrun
  split at hrun
  · simp only [Option.some.injEq, Prod.mk.injEq] at hrun
    obtain ⟨hp, rfl⟩ := hrun
    rename_i aP aK0 aK1 aK2 aK3 aK4 aK5
    exact ⟨_, _, _, hargs, rfl, (eq_l_FnExactCentreOf aP (aK0, aK1, aK2, aK3, aK4, aK5)).trans (tot_l_FnExactCentreOf aP (aK0, aK1, aK2, aK3, aK4, aK5))⟩
  · cases hrun


end Go.Proofs.Ytjpckmpeahinkaa
