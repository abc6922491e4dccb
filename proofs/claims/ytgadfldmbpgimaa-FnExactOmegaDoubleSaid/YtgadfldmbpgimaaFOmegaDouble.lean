import Derived.Test.YtgadfldmbpgimaaFa
import Derived.Test.YtgadfldmbpgimaaProg
set_option linter.unusedSimpArgs false
set_option linter.unusedVariables false
namespace Go.Proofs.Ytgadfldmbpgimaa
open Go.RowKit
def dec_l2_1_i : List TR → Option ((Nat × List Int) × Int)
  | [.s 2 1 n0 (.ints x0), .v (.int .i64 x1)] => some ((n0, x0), x1)
  | _ => none
def enc_l2_1_i : (Nat × List Int) × Int → List TR
  | ((n0, x0), x1) => [.s 2 1 n0 (.ints x0), .v (.int .i64 x1)]
theorem de_l2_1_i (rs : List TR) (x : (Nat × List Int) × Int) (h : dec_l2_1_i rs = some x) : rs = enc_l2_1_i x := by
  unfold dec_l2_1_i at h
  split at h
  · simp only [Option.some.injEq] at h
    subst h
    rfl
  · cases h
def dec_l2_1 : List TR → Option (Nat × List Int)
  | [.s 2 1 n0 (.ints x0)] => some (n0, x0)
  | _ => none
def enc_l2_1 : Nat × List Int → List TR
  | (n0, x0) => [.s 2 1 n0 (.ints x0)]
theorem de_l2_1 (rs : List TR) (x : Nat × List Int) (h : dec_l2_1 rs = some x) : rs = enc_l2_1 x := by
  unfold dec_l2_1 at h
  split at h
  · simp only [Option.some.injEq] at h
    subst h
    rfl
  · cases h
def dec_l30_2_i : List TR → Option ((Nat × List Int) × Int)
  | [.s 30 2 n0 (.ints x0), .v (.int .i64 x1)] => some ((n0, x0), x1)
  | _ => none
def enc_l30_2_i : (Nat × List Int) × Int → List TR
  | ((n0, x0), x1) => [.s 30 2 n0 (.ints x0), .v (.int .i64 x1)]
theorem de_l30_2_i (rs : List TR) (x : (Nat × List Int) × Int) (h : dec_l30_2_i rs = some x) : rs = enc_l30_2_i x := by
  unfold dec_l30_2_i at h
  split at h
  · simp only [Option.some.injEq] at h
    subst h
    rfl
  · cases h
def dec_a2_i : List TR → Option ((Int × Int) × Int)
  | [.v (.agg ⟨[.int .i64 x0_0, .int .i64 x0_1]⟩), .v (.int .i64 x1)] => some ((x0_0, x0_1), x1)
  | _ => none
def enc_a2_i : (Int × Int) × Int → List TR
  | ((x0_0, x0_1), x1) => [.v (.agg ⟨[.int .i64 x0_0, .int .i64 x0_1]⟩), .v (.int .i64 x1)]
theorem de_a2_i (rs : List TR) (x : (Int × Int) × Int) (h : dec_a2_i rs = some x) : rs = enc_a2_i x := by
  unfold dec_a2_i at h
  split at h
  · simp only [Option.some.injEq] at h
    subst h
    rfl
  · cases h
def dec_a3_i : List TR → Option ((Int × Int × Int) × Int)
  | [.v (.agg ⟨[.int .i64 x0_0, .int .i64 x0_1, .int .i64 x0_2]⟩), .v (.int .i64 x1)] => some ((x0_0, x0_1, x0_2), x1)
  | _ => none
def enc_a3_i : (Int × Int × Int) × Int → List TR
  | ((x0_0, x0_1, x0_2), x1) => [.v (.agg ⟨[.int .i64 x0_0, .int .i64 x0_1, .int .i64 x0_2]⟩), .v (.int .i64 x1)]
theorem de_a3_i (rs : List TR) (x : (Int × Int × Int) × Int) (h : dec_a3_i rs = some x) : rs = enc_a3_i x := by
  unfold dec_a3_i at h
  split at h
  · simp only [Option.some.injEq] at h
    subst h
    rfl
  · cases h
def dec_l37_3_i : List TR → Option ((Nat × List Int) × Int)
  | [.s 37 3 n0 (.ints x0), .v (.int .i64 x1)] => some ((n0, x0), x1)
  | _ => none
def enc_l37_3_i : (Nat × List Int) × Int → List TR
  | ((n0, x0), x1) => [.s 37 3 n0 (.ints x0), .v (.int .i64 x1)]
theorem de_l37_3_i (rs : List TR) (x : (Nat × List Int) × Int) (h : dec_l37_3_i rs = some x) : rs = enc_l37_3_i x := by
  unfold dec_l37_3_i at h
  split at h
  · simp only [Option.some.injEq] at h
    subst h
    rfl
  · cases h
def clo_a2_b (k : (Int × Int) → Bool) (h : (Int × Int) → Bool) : List Value → Option (Bool × Value)
  | [.agg ⟨[.int .i64 a0_0, .int .i64 a0_1]⟩] => some (k (a0_0, a0_1), .bool (h (a0_0, a0_1)))
  | _ => none
theorem clo_a2_b_ok (g : List Value → Option (Bool × Value)) : ∀ args r, clo_a2_b (fun a0 => okV (g [.agg ⟨[.int .i64 a0.1, .int .i64 a0.2]⟩])) (fun a0 => boolV (g [.agg ⟨[.int .i64 a0.1, .int .i64 a0.2]⟩])) args = some (true, r) → g args = some (true, r) := by
  intro args r h
  unfold clo_a2_b at h
  split at h
  · simp only [Option.some.injEq, Prod.mk.injEq] at h
    obtain ⟨h1, rfl⟩ := h
    exact okV_some h1
  · cases h
def clo_i_b (k : Int → Bool) (h : Int → Bool) : List Value → Option (Bool × Value)
  | [.int .i64 a0] => some (k a0, .bool (h a0))
  | _ => none
theorem clo_i_b_ok (g : List Value → Option (Bool × Value)) : ∀ args r, clo_i_b (fun a0 => okV (g [.int .i64 a0])) (fun a0 => boolV (g [.int .i64 a0])) args = some (true, r) → g args = some (true, r) := by
  intro args r h
  unfold clo_i_b at h
  split at h
  · simp only [Option.some.injEq, Prod.mk.injEq] at h
    obtain ⟨h1, rfl⟩ := h
    exact okV_some h1
  · cases h
def S_s_l10Omega : Sums := ⟨tblS [(80, run_s_l04Orthocentre)], tblM []⟩
theorem SO_s_l10Omega : SumsOK Try.prog S_s_l10Omega := ⟨tblS_ok ⟨⟨Try.call80, sound_s_l04Orthocentre⟩, True.intro⟩, tblM_ok True.intro⟩
def Fo_s_l10Omega (p : Int) (a : Int × Int) (b : Int × Int) (c : Int × Int) : Option (Nat × List Int) :=
  (if (prB p) = true then (if (prB p) = true then (if (prB p) = true then some (3, [(s_l04Orthocentre p 0 a b c).1, (s_l04Orthocentre p 0 a b c).2, (s_l04Orthocentre p 1 a b c).1, (s_l04Orthocentre p 1 a b c).2, (s_l04Orthocentre p 2 a b c).1, (s_l04Orthocentre p 2 a b c).2]) else none) else none) else none)
theorem eq_s_l10Omega (p : Int) (a : Int × Int) (b : Int × Int) (c : Int × Int) : execT Try.prog S_s_l10Omega 69 26 1000000 dec_l30_2 [.v (.int .i64 p), .v (.agg ⟨[.int .i64 a.1, .int .i64 a.2]⟩), .v (.agg ⟨[.int .i64 b.1, .int .i64 b.2]⟩), .v (.agg ⟨[.int .i64 c.1, .int .i64 c.2]⟩)] = Fo_s_l10Omega p a b c := by
  kernel_rfl
def s_l10Omega (p : Int) (a : Int × Int) (b : Int × Int) (c : Int × Int) : Nat × List Int :=
  (3, [(s_l04Orthocentre p 0 a b c).1, (s_l04Orthocentre p 0 a b c).2, (s_l04Orthocentre p 1 a b c).1, (s_l04Orthocentre p 1 a b c).2, (s_l04Orthocentre p 2 a b c).1, (s_l04Orthocentre p 2 a b c).2])
theorem tot_s_l10Omega (p : Int) (a : Int × Int) (b : Int × Int) (c : Int × Int) (hp : (prB p) = true) : Fo_s_l10Omega p a b c = some (s_l10Omega p a b c) := by
  try have h0 := prB_ne hp
  unfold Fo_s_l10Omega s_l10Omega
  (try simp only [wI_eq])
  repeat' (first | with_reducible rfl | with_reducible refine chk_opt hp ?_ | with_reducible refine chk_opt h0 ?_ | refine chk_opt (and_all hp fun _ => hp) ?_ | refine chk_opt (and_all hp fun _ => rfl) ?_ | refine ite_opt (fun _ => ?_) (fun _ => ?_) | rfl)
def run_s_l10Omega : List PV → Option (Bool × List TR)
  | [.v (.int .i64 p), .v (.agg ⟨[.int .i64 a0, .int .i64 a1]⟩), .v (.agg ⟨[.int .i64 b0, .int .i64 b1]⟩), .v (.agg ⟨[.int .i64 c0, .int .i64 c1]⟩)] => some (prB p, enc_l30_2 (s_l10Omega p (a0, a1) (b0, b1) (c0, c1)))
  | _ => none
theorem sound_s_l10Omega : Sound Try.prog 69 run_s_l10Omega := by
  refine sound_of de_l30_2 SO_s_l10Omega (by kernel_rfl) Try.func69 Try.ntmps69 rfl (by kernel_rfl) ?_
  intro W pvs avs rs hargs hrun
  unfold run_s_l10Omega at hrun
  split at hrun
  · simp only [Option.some.injEq, Prod.mk.injEq] at hrun
    obtain ⟨hp, rfl⟩ := hrun
    rename_i p a0 a1 b0 b1 c0 c1
    exact ⟨_, _, _, hargs, rfl, (eq_s_l10Omega p (a0, a1) (b0, b1) (c0, c1)).trans (tot_s_l10Omega p (a0, a1) (b0, b1) (c0, c1) hp)⟩
  · cases hrun

def dec_i_i : List TR → Option (Int × Int)
  | [.v (.int .i64 x0), .v (.int .i64 x1)] => some (x0, x1)
  | _ => none
def enc_i_i : Int × Int → List TR
  | (x0, x1) => [.v (.int .i64 x0), .v (.int .i64 x1)]
theorem de_i_i (rs : List TR) (x : Int × Int) (h : dec_i_i rs = some x) : rs = enc_i_i x := by
  unfold dec_i_i at h
  split at h
  · simp only [Option.some.injEq] at h
    subst h
    rfl
  · cases h
def S_s_OmegaDouble : Sums := ⟨tblS [(68, run_s_l04Code), (69, run_s_l10Omega), (70, run_s_l01Area)], tblM []⟩
theorem SO_s_OmegaDouble : SumsOK Try.prog S_s_OmegaDouble := ⟨tblS_ok ⟨⟨Try.call68, sound_s_l04Code⟩, ⟨Try.call69, sound_s_l10Omega⟩, ⟨Try.call70, sound_s_l01Area⟩, True.intro⟩, tblM_ok True.intro⟩
def Fo_s_OmegaDouble (p : Int) (a : Int × Int) (b : Int × Int) (c : Int × Int) : Option (Int × Int) :=
  (if ((s_l04Code p 0 a b c) != 0) = true then some (0, (s_l04Code p 0 a b c)) else (if (prB p) = true then (if (decide (0 ≤ 0) && decide (0 < (((s_l10Omega p a b c).1 : Nat) : Int))) = true then (if (Nat.ble (2) (((s_l10Omega p a b c).2).length)) = true then (if (decide (0 ≤ 1) && decide (1 < (((s_l10Omega p a b c).1 : Nat) : Int))) = true then (if (Nat.ble (4) (((s_l10Omega p a b c).2).length)) = true then (if (decide (0 ≤ 2) && decide (2 < (((s_l10Omega p a b c).1 : Nat) : Int))) = true then (if (Nat.ble (6) (((s_l10Omega p a b c).2).length)) = true then (if (prB p) = true then some ((s_l01Area p (((s_l10Omega p a b c).2).getD 0 0, ((s_l10Omega p a b c).2).getD 1 0) (((s_l10Omega p a b c).2).getD 2 0, ((s_l10Omega p a b c).2).getD 3 0) (((s_l10Omega p a b c).2).getD 4 0, ((s_l10Omega p a b c).2).getD 5 0)), 0) else none) else none) else none) else none) else none) else none) else none) else none))
theorem eq_s_OmegaDouble (p : Int) (a : Int × Int) (b : Int × Int) (c : Int × Int) : execT Try.prog S_s_OmegaDouble 28 36 1000000 dec_i_i [.v (.int .i64 p), .v (.agg ⟨[.int .i64 a.1, .int .i64 a.2]⟩), .v (.agg ⟨[.int .i64 b.1, .int .i64 b.2]⟩), .v (.agg ⟨[.int .i64 c.1, .int .i64 c.2]⟩)] = Fo_s_OmegaDouble p a b c := by
  kernel_rfl
def s_OmegaDouble (p : Int) (a : Int × Int) (b : Int × Int) (c : Int × Int) : Int × Int :=
  (if ((s_l04Code p 0 a b c) != 0) = true then (0, (s_l04Code p 0 a b c)) else ((s_l01Area p (((s_l10Omega p a b c).2).getD 0 0, ((s_l10Omega p a b c).2).getD 1 0) (((s_l10Omega p a b c).2).getD 2 0, ((s_l10Omega p a b c).2).getD 3 0) (((s_l10Omega p a b c).2).getD 4 0, ((s_l10Omega p a b c).2).getD 5 0)), 0))
theorem tot_s_OmegaDouble (p : Int) (a : Int × Int) (b : Int × Int) (c : Int × Int) : Fo_s_OmegaDouble p a b c = some (s_OmegaDouble p a b c) := by
  unfold Fo_s_OmegaDouble s_OmegaDouble
  (try simp only [wI_eq])
  repeat' (first | with_reducible rfl | refine chk_opt (by first | with_reducible rfl | exact Bool.true_or _ | (with_reducible exact asked_prB ‹_›) | (with_reducible exact l09Code_prB ‹_›) | (with_reducible exact l01Code_prB ‹_›) | (with_reducible exact l01Numbers_prB ‹_›) | (with_reducible exact l01Lines_prB ‹_›) | (with_reducible exact asked_prB0 ‹_›) | (with_reducible exact l09Code_prB0 ‹_›) | (with_reducible exact l01Code_prB0 ‹_›) | (with_reducible exact l01Numbers_prB0 ‹_›) | (with_reducible exact l01Lines_prB0 ‹_›) | (with_reducible exact field_prB ‹_›) | (with_reducible exact field_prB0 ‹_›) | (with_reducible exact l08Code_prB ‹_›) | (with_reducible exact l08Code_prB0 ‹_›) | (with_reducible exact l08Given_prB ‹_›) | (with_reducible exact l08Given_prB0 ‹_›) | (with_reducible exact l02Code_prB ‹_›) | (with_reducible exact l02Code_prB0 ‹_›) | (with_reducible exact l04Code_prB ‹_›) | (with_reducible exact l04Code_prB0 ‹_›) | (with_reducible exact triangle_prB ‹_›) | (with_reducible exact triangle_prB0 ‹_›) | (with_reducible exact l01Both_prB ‹_›) | (with_reducible exact l01Both_prB0 ‹_›) | (with_reducible exact sfield_prB0 ‹_›) | exact mk_ok (by (first | (with_reducible assumption) | (with_reducible exact asked_prB ‹_›) | (with_reducible exact l09Code_prB ‹_›) | (with_reducible exact l01Code_prB ‹_›) | (with_reducible exact l01Numbers_prB ‹_›) | (with_reducible exact l01Lines_prB ‹_›) | (with_reducible exact asked_prB0 ‹_›) | (with_reducible exact l09Code_prB0 ‹_›) | (with_reducible exact l01Code_prB0 ‹_›) | (with_reducible exact l01Numbers_prB0 ‹_›) | (with_reducible exact l01Lines_prB0 ‹_›) | (with_reducible exact field_prB ‹_›) | (with_reducible exact field_prB0 ‹_›) | (with_reducible exact l08Code_prB ‹_›) | (with_reducible exact l08Code_prB0 ‹_›) | (with_reducible exact l08Given_prB ‹_›) | (with_reducible exact l08Given_prB0 ‹_›) | (with_reducible exact l02Code_prB ‹_›) | (with_reducible exact l02Code_prB0 ‹_›) | (with_reducible exact l04Code_prB ‹_›) | (with_reducible exact l04Code_prB0 ‹_›) | (with_reducible exact triangle_prB ‹_›) | (with_reducible exact triangle_prB0 ‹_›) | (with_reducible exact l01Both_prB ‹_›) | (with_reducible exact l01Both_prB0 ‹_›) | (with_reducible exact sfield_prB0 ‹_›))) | exact and_all (by (first | (with_reducible assumption) | (with_reducible exact asked_prB ‹_›) | (with_reducible exact l09Code_prB ‹_›) | (with_reducible exact l01Code_prB ‹_›) | (with_reducible exact l01Numbers_prB ‹_›) | (with_reducible exact l01Lines_prB ‹_›) | (with_reducible exact asked_prB0 ‹_›) | (with_reducible exact l09Code_prB0 ‹_›) | (with_reducible exact l01Code_prB0 ‹_›) | (with_reducible exact l01Numbers_prB0 ‹_›) | (with_reducible exact l01Lines_prB0 ‹_›) | (with_reducible exact field_prB ‹_›) | (with_reducible exact field_prB0 ‹_›) | (with_reducible exact l08Code_prB ‹_›) | (with_reducible exact l08Code_prB0 ‹_›) | (with_reducible exact l08Given_prB ‹_›) | (with_reducible exact l08Given_prB0 ‹_›) | (with_reducible exact l02Code_prB ‹_›) | (with_reducible exact l02Code_prB0 ‹_›) | (with_reducible exact l04Code_prB ‹_›) | (with_reducible exact l04Code_prB0 ‹_›) | (with_reducible exact triangle_prB ‹_›) | (with_reducible exact triangle_prB0 ‹_›) | (with_reducible exact l01Both_prB ‹_›) | (with_reducible exact l01Both_prB0 ‹_›) | (with_reducible exact sfield_prB0 ‹_›))) (fun _ => rfl) | exact and_all (by (first | (with_reducible assumption) | (with_reducible exact asked_prB ‹_›) | (with_reducible exact l09Code_prB ‹_›) | (with_reducible exact l01Code_prB ‹_›) | (with_reducible exact l01Numbers_prB ‹_›) | (with_reducible exact l01Lines_prB ‹_›) | (with_reducible exact asked_prB0 ‹_›) | (with_reducible exact l09Code_prB0 ‹_›) | (with_reducible exact l01Code_prB0 ‹_›) | (with_reducible exact l01Numbers_prB0 ‹_›) | (with_reducible exact l01Lines_prB0 ‹_›) | (with_reducible exact field_prB ‹_›) | (with_reducible exact field_prB0 ‹_›) | (with_reducible exact l08Code_prB ‹_›) | (with_reducible exact l08Code_prB0 ‹_›) | (with_reducible exact l08Given_prB ‹_›) | (with_reducible exact l08Given_prB0 ‹_›) | (with_reducible exact l02Code_prB ‹_›) | (with_reducible exact l02Code_prB0 ‹_›) | (with_reducible exact l04Code_prB ‹_›) | (with_reducible exact l04Code_prB0 ‹_›) | (with_reducible exact triangle_prB ‹_›) | (with_reducible exact triangle_prB0 ‹_›) | (with_reducible exact l01Both_prB ‹_›) | (with_reducible exact l01Both_prB0 ‹_›) | (with_reducible exact sfield_prB0 ‹_›))) (fun _ => by (first | (with_reducible assumption) | (with_reducible exact asked_prB ‹_›) | (with_reducible exact l09Code_prB ‹_›) | (with_reducible exact l01Code_prB ‹_›) | (with_reducible exact l01Numbers_prB ‹_›) | (with_reducible exact l01Lines_prB ‹_›) | (with_reducible exact asked_prB0 ‹_›) | (with_reducible exact l09Code_prB0 ‹_›) | (with_reducible exact l01Code_prB0 ‹_›) | (with_reducible exact l01Numbers_prB0 ‹_›) | (with_reducible exact l01Lines_prB0 ‹_›) | (with_reducible exact field_prB ‹_›) | (with_reducible exact field_prB0 ‹_›) | (with_reducible exact l08Code_prB ‹_›) | (with_reducible exact l08Code_prB0 ‹_›) | (with_reducible exact l08Given_prB ‹_›) | (with_reducible exact l08Given_prB0 ‹_›) | (with_reducible exact l02Code_prB ‹_›) | (with_reducible exact l02Code_prB0 ‹_›) | (with_reducible exact l04Code_prB ‹_›) | (with_reducible exact l04Code_prB0 ‹_›) | (with_reducible exact triangle_prB ‹_›) | (with_reducible exact triangle_prB0 ‹_›) | (with_reducible exact l01Both_prB ‹_›) | (with_reducible exact l01Both_prB0 ‹_›) | (with_reducible exact sfield_prB0 ‹_›))) | exact and3 (by (first | (with_reducible assumption) | (with_reducible exact asked_prB ‹_›) | (with_reducible exact l09Code_prB ‹_›) | (with_reducible exact l01Code_prB ‹_›) | (with_reducible exact l01Numbers_prB ‹_›) | (with_reducible exact l01Lines_prB ‹_›) | (with_reducible exact asked_prB0 ‹_›) | (with_reducible exact l09Code_prB0 ‹_›) | (with_reducible exact l01Code_prB0 ‹_›) | (with_reducible exact l01Numbers_prB0 ‹_›) | (with_reducible exact l01Lines_prB0 ‹_›) | (with_reducible exact field_prB ‹_›) | (with_reducible exact field_prB0 ‹_›) | (with_reducible exact l08Code_prB ‹_›) | (with_reducible exact l08Code_prB0 ‹_›) | (with_reducible exact l08Given_prB ‹_›) | (with_reducible exact l08Given_prB0 ‹_›) | (with_reducible exact l02Code_prB ‹_›) | (with_reducible exact l02Code_prB0 ‹_›) | (with_reducible exact l04Code_prB ‹_›) | (with_reducible exact l04Code_prB0 ‹_›) | (with_reducible exact triangle_prB ‹_›) | (with_reducible exact triangle_prB0 ‹_›) | (with_reducible exact l01Both_prB ‹_›) | (with_reducible exact l01Both_prB0 ‹_›) | (with_reducible exact sfield_prB0 ‹_›))) (by (first | (with_reducible assumption) | (with_reducible exact asked_prB ‹_›) | (with_reducible exact l09Code_prB ‹_›) | (with_reducible exact l01Code_prB ‹_›) | (with_reducible exact l01Numbers_prB ‹_›) | (with_reducible exact l01Lines_prB ‹_›) | (with_reducible exact asked_prB0 ‹_›) | (with_reducible exact l09Code_prB0 ‹_›) | (with_reducible exact l01Code_prB0 ‹_›) | (with_reducible exact l01Numbers_prB0 ‹_›) | (with_reducible exact l01Lines_prB0 ‹_›) | (with_reducible exact field_prB ‹_›) | (with_reducible exact field_prB0 ‹_›) | (with_reducible exact l08Code_prB ‹_›) | (with_reducible exact l08Code_prB0 ‹_›) | (with_reducible exact l08Given_prB ‹_›) | (with_reducible exact l08Given_prB0 ‹_›) | (with_reducible exact l02Code_prB ‹_›) | (with_reducible exact l02Code_prB0 ‹_›) | (with_reducible exact l04Code_prB ‹_›) | (with_reducible exact l04Code_prB0 ‹_›) | (with_reducible exact triangle_prB ‹_›) | (with_reducible exact triangle_prB0 ‹_›) | (with_reducible exact l01Both_prB ‹_›) | (with_reducible exact l01Both_prB0 ‹_›) | (with_reducible exact sfield_prB0 ‹_›))) (by (first | (with_reducible assumption) | (with_reducible exact asked_prB ‹_›) | (with_reducible exact l09Code_prB ‹_›) | (with_reducible exact l01Code_prB ‹_›) | (with_reducible exact l01Numbers_prB ‹_›) | (with_reducible exact l01Lines_prB ‹_›) | (with_reducible exact asked_prB0 ‹_›) | (with_reducible exact l09Code_prB0 ‹_›) | (with_reducible exact l01Code_prB0 ‹_›) | (with_reducible exact l01Numbers_prB0 ‹_›) | (with_reducible exact l01Lines_prB0 ‹_›) | (with_reducible exact field_prB ‹_›) | (with_reducible exact field_prB0 ‹_›) | (with_reducible exact l08Code_prB ‹_›) | (with_reducible exact l08Code_prB0 ‹_›) | (with_reducible exact l08Given_prB ‹_›) | (with_reducible exact l08Given_prB0 ‹_›) | (with_reducible exact l02Code_prB ‹_›) | (with_reducible exact l02Code_prB0 ‹_›) | (with_reducible exact l04Code_prB ‹_›) | (with_reducible exact l04Code_prB0 ‹_›) | (with_reducible exact triangle_prB ‹_›) | (with_reducible exact triangle_prB0 ‹_›) | (with_reducible exact l01Both_prB ‹_›) | (with_reducible exact l01Both_prB0 ‹_›) | (with_reducible exact sfield_prB0 ‹_›))) | rfl) ?_ | refine ite_opt (fun _ => ?_) (fun _ => ?_) | rfl)
def run_s_OmegaDouble : List PV → Option (Bool × List TR)
  | [.v (.int .i64 p), .v (.agg ⟨[.int .i64 a0, .int .i64 a1]⟩), .v (.agg ⟨[.int .i64 b0, .int .i64 b1]⟩), .v (.agg ⟨[.int .i64 c0, .int .i64 c1]⟩)] => some (true, enc_i_i (s_OmegaDouble p (a0, a1) (b0, b1) (c0, c1)))
  | _ => none
theorem sound_s_OmegaDouble : Sound Try.prog 28 run_s_OmegaDouble := by
  refine sound_of de_i_i SO_s_OmegaDouble (by kernel_rfl) Try.func28 Try.ntmps28 rfl (by kernel_rfl) ?_
  intro W pvs avs rs hargs hrun
  unfold run_s_OmegaDouble at hrun
  split at hrun
  · simp only [Option.some.injEq, Prod.mk.injEq] at hrun
    obtain ⟨hp, rfl⟩ := hrun
    rename_i p a0 a1 b0 b1 c0 c1
    exact ⟨_, _, _, hargs, rfl, (eq_s_OmegaDouble p (a0, a1) (b0, b1) (c0, c1)).trans (tot_s_OmegaDouble p (a0, a1) (b0, b1) (c0, c1))⟩
  · cases hrun

def S_i_omegaPoints : Sums := ⟨tblS [(99, run_i_orthocentre)], tblM []⟩
theorem SO_i_omegaPoints : SumsOK Try.prog S_i_omegaPoints := ⟨tblS_ok ⟨⟨Try.call99, sound_i_orthocentre⟩, True.intro⟩, tblM_ok True.intro⟩
def Fo_i_omegaPoints (p : Int) (a : Int × Int) (b : Int × Int) (c : Int × Int) : Option (Nat × List Int) :=
  (if (prB p) = true then (if (prB p) = true then (if (prB p) = true then some (3, [(i_orthocentre p 0 a b c).1, (i_orthocentre p 0 a b c).2, (i_orthocentre p 1 a b c).1, (i_orthocentre p 1 a b c).2, (i_orthocentre p 2 a b c).1, (i_orthocentre p 2 a b c).2]) else none) else none) else none)
theorem eq_i_omegaPoints (p : Int) (a : Int × Int) (b : Int × Int) (c : Int × Int) : execT Try.prog S_i_omegaPoints 72 25 1000000 dec_l30_2 [.v (.int .i64 p), .v (.agg ⟨[.int .i64 a.1, .int .i64 a.2]⟩), .v (.agg ⟨[.int .i64 b.1, .int .i64 b.2]⟩), .v (.agg ⟨[.int .i64 c.1, .int .i64 c.2]⟩)] = Fo_i_omegaPoints p a b c := by
  kernel_rfl
def i_omegaPoints (p : Int) (a : Int × Int) (b : Int × Int) (c : Int × Int) : Nat × List Int :=
  (3, [(i_orthocentre p 0 a b c).1, (i_orthocentre p 0 a b c).2, (i_orthocentre p 1 a b c).1, (i_orthocentre p 1 a b c).2, (i_orthocentre p 2 a b c).1, (i_orthocentre p 2 a b c).2])
theorem tot_i_omegaPoints (p : Int) (a : Int × Int) (b : Int × Int) (c : Int × Int) (hp : (prB p) = true) : Fo_i_omegaPoints p a b c = some (i_omegaPoints p a b c) := by
  try have h0 := prB_ne hp
  unfold Fo_i_omegaPoints i_omegaPoints
  (try simp only [wI_eq])
  repeat' (first | with_reducible rfl | with_reducible refine chk_opt hp ?_ | with_reducible refine chk_opt h0 ?_ | refine chk_opt (and_all hp fun _ => hp) ?_ | refine chk_opt (and_all hp fun _ => rfl) ?_ | refine ite_opt (fun _ => ?_) (fun _ => ?_) | rfl)
def run_i_omegaPoints : List PV → Option (Bool × List TR)
  | [.v (.int .i64 p), .v (.agg ⟨[.int .i64 a0, .int .i64 a1]⟩), .v (.agg ⟨[.int .i64 b0, .int .i64 b1]⟩), .v (.agg ⟨[.int .i64 c0, .int .i64 c1]⟩)] => some (prB p, enc_l30_2 (i_omegaPoints p (a0, a1) (b0, b1) (c0, c1)))
  | _ => none
theorem sound_i_omegaPoints : Sound Try.prog 72 run_i_omegaPoints := by
  refine sound_of de_l30_2 SO_i_omegaPoints (by kernel_rfl) Try.func72 Try.ntmps72 rfl (by kernel_rfl) ?_
  intro W pvs avs rs hargs hrun
  unfold run_i_omegaPoints at hrun
  split at hrun
  · simp only [Option.some.injEq, Prod.mk.injEq] at hrun
    obtain ⟨hp, rfl⟩ := hrun
    rename_i p a0 a1 b0 b1 c0 c1
    exact ⟨_, _, _, hargs, rfl, (eq_i_omegaPoints p (a0, a1) (b0, b1) (c0, c1)).trans (tot_i_omegaPoints p (a0, a1) (b0, b1) (c0, c1) hp)⟩
  · cases hrun

def S_i_OmegaDouble : Sums := ⟨tblS [(71, run_i_triangle), (72, run_i_omegaPoints), (73, run_i_area)], tblM []⟩
theorem SO_i_OmegaDouble : SumsOK Try.prog S_i_OmegaDouble := ⟨tblS_ok ⟨⟨Try.call71, sound_i_triangle⟩, ⟨Try.call72, sound_i_omegaPoints⟩, ⟨Try.call73, sound_i_area⟩, True.intro⟩, tblM_ok True.intro⟩
def Fo_i_OmegaDouble (p : Int) (a : Int × Int) (b : Int × Int) (c : Int × Int) : Option (Int × Int) :=
  (if ((i_triangle p 0 a b c) != 0) = true then some (0, (i_triangle p 0 a b c)) else (if (prB p) = true then (if (decide (0 ≤ 0) && decide (0 < (((i_omegaPoints p a b c).1 : Nat) : Int))) = true then (if (Nat.ble (2) (((i_omegaPoints p a b c).2).length)) = true then (if (decide (0 ≤ 1) && decide (1 < (((i_omegaPoints p a b c).1 : Nat) : Int))) = true then (if (Nat.ble (4) (((i_omegaPoints p a b c).2).length)) = true then (if (decide (0 ≤ 2) && decide (2 < (((i_omegaPoints p a b c).1 : Nat) : Int))) = true then (if (Nat.ble (6) (((i_omegaPoints p a b c).2).length)) = true then (if (prB p) = true then some ((i_area p (((i_omegaPoints p a b c).2).getD 0 0, ((i_omegaPoints p a b c).2).getD 1 0) (((i_omegaPoints p a b c).2).getD 2 0, ((i_omegaPoints p a b c).2).getD 3 0) (((i_omegaPoints p a b c).2).getD 4 0, ((i_omegaPoints p a b c).2).getD 5 0)), 0) else none) else none) else none) else none) else none) else none) else none) else none))
theorem eq_i_OmegaDouble (p : Int) (a : Int × Int) (b : Int × Int) (c : Int × Int) : execT Try.prog S_i_OmegaDouble 29 36 1000000 dec_i_i [.v (.int .i64 p), .v (.agg ⟨[.int .i64 a.1, .int .i64 a.2]⟩), .v (.agg ⟨[.int .i64 b.1, .int .i64 b.2]⟩), .v (.agg ⟨[.int .i64 c.1, .int .i64 c.2]⟩)] = Fo_i_OmegaDouble p a b c := by
  kernel_rfl
def i_OmegaDouble (p : Int) (a : Int × Int) (b : Int × Int) (c : Int × Int) : Int × Int :=
  (if ((i_triangle p 0 a b c) != 0) = true then (0, (i_triangle p 0 a b c)) else ((i_area p (((i_omegaPoints p a b c).2).getD 0 0, ((i_omegaPoints p a b c).2).getD 1 0) (((i_omegaPoints p a b c).2).getD 2 0, ((i_omegaPoints p a b c).2).getD 3 0) (((i_omegaPoints p a b c).2).getD 4 0, ((i_omegaPoints p a b c).2).getD 5 0)), 0))
theorem tot_i_OmegaDouble (p : Int) (a : Int × Int) (b : Int × Int) (c : Int × Int) : Fo_i_OmegaDouble p a b c = some (i_OmegaDouble p a b c) := by
  unfold Fo_i_OmegaDouble i_OmegaDouble
  (try simp only [wI_eq])
  repeat' (first | with_reducible rfl | refine chk_opt (by first | with_reducible rfl | exact Bool.true_or _ | (with_reducible exact asked_prB ‹_›) | (with_reducible exact l09Code_prB ‹_›) | (with_reducible exact l01Code_prB ‹_›) | (with_reducible exact l01Numbers_prB ‹_›) | (with_reducible exact l01Lines_prB ‹_›) | (with_reducible exact asked_prB0 ‹_›) | (with_reducible exact l09Code_prB0 ‹_›) | (with_reducible exact l01Code_prB0 ‹_›) | (with_reducible exact l01Numbers_prB0 ‹_›) | (with_reducible exact l01Lines_prB0 ‹_›) | (with_reducible exact field_prB ‹_›) | (with_reducible exact field_prB0 ‹_›) | (with_reducible exact l08Code_prB ‹_›) | (with_reducible exact l08Code_prB0 ‹_›) | (with_reducible exact l08Given_prB ‹_›) | (with_reducible exact l08Given_prB0 ‹_›) | (with_reducible exact l02Code_prB ‹_›) | (with_reducible exact l02Code_prB0 ‹_›) | (with_reducible exact l04Code_prB ‹_›) | (with_reducible exact l04Code_prB0 ‹_›) | (with_reducible exact triangle_prB ‹_›) | (with_reducible exact triangle_prB0 ‹_›) | (with_reducible exact l01Both_prB ‹_›) | (with_reducible exact l01Both_prB0 ‹_›) | (with_reducible exact sfield_prB0 ‹_›) | exact mk_ok (by (first | (with_reducible assumption) | (with_reducible exact asked_prB ‹_›) | (with_reducible exact l09Code_prB ‹_›) | (with_reducible exact l01Code_prB ‹_›) | (with_reducible exact l01Numbers_prB ‹_›) | (with_reducible exact l01Lines_prB ‹_›) | (with_reducible exact asked_prB0 ‹_›) | (with_reducible exact l09Code_prB0 ‹_›) | (with_reducible exact l01Code_prB0 ‹_›) | (with_reducible exact l01Numbers_prB0 ‹_›) | (with_reducible exact l01Lines_prB0 ‹_›) | (with_reducible exact field_prB ‹_›) | (with_reducible exact field_prB0 ‹_›) | (with_reducible exact l08Code_prB ‹_›) | (with_reducible exact l08Code_prB0 ‹_›) | (with_reducible exact l08Given_prB ‹_›) | (with_reducible exact l08Given_prB0 ‹_›) | (with_reducible exact l02Code_prB ‹_›) | (with_reducible exact l02Code_prB0 ‹_›) | (with_reducible exact l04Code_prB ‹_›) | (with_reducible exact l04Code_prB0 ‹_›) | (with_reducible exact triangle_prB ‹_›) | (with_reducible exact triangle_prB0 ‹_›) | (with_reducible exact l01Both_prB ‹_›) | (with_reducible exact l01Both_prB0 ‹_›) | (with_reducible exact sfield_prB0 ‹_›))) | exact and_all (by (first | (with_reducible assumption) | (with_reducible exact asked_prB ‹_›) | (with_reducible exact l09Code_prB ‹_›) | (with_reducible exact l01Code_prB ‹_›) | (with_reducible exact l01Numbers_prB ‹_›) | (with_reducible exact l01Lines_prB ‹_›) | (with_reducible exact asked_prB0 ‹_›) | (with_reducible exact l09Code_prB0 ‹_›) | (with_reducible exact l01Code_prB0 ‹_›) | (with_reducible exact l01Numbers_prB0 ‹_›) | (with_reducible exact l01Lines_prB0 ‹_›) | (with_reducible exact field_prB ‹_›) | (with_reducible exact field_prB0 ‹_›) | (with_reducible exact l08Code_prB ‹_›) | (with_reducible exact l08Code_prB0 ‹_›) | (with_reducible exact l08Given_prB ‹_›) | (with_reducible exact l08Given_prB0 ‹_›) | (with_reducible exact l02Code_prB ‹_›) | (with_reducible exact l02Code_prB0 ‹_›) | (with_reducible exact l04Code_prB ‹_›) | (with_reducible exact l04Code_prB0 ‹_›) | (with_reducible exact triangle_prB ‹_›) | (with_reducible exact triangle_prB0 ‹_›) | (with_reducible exact l01Both_prB ‹_›) | (with_reducible exact l01Both_prB0 ‹_›) | (with_reducible exact sfield_prB0 ‹_›))) (fun _ => rfl) | exact and_all (by (first | (with_reducible assumption) | (with_reducible exact asked_prB ‹_›) | (with_reducible exact l09Code_prB ‹_›) | (with_reducible exact l01Code_prB ‹_›) | (with_reducible exact l01Numbers_prB ‹_›) | (with_reducible exact l01Lines_prB ‹_›) | (with_reducible exact asked_prB0 ‹_›) | (with_reducible exact l09Code_prB0 ‹_›) | (with_reducible exact l01Code_prB0 ‹_›) | (with_reducible exact l01Numbers_prB0 ‹_›) | (with_reducible exact l01Lines_prB0 ‹_›) | (with_reducible exact field_prB ‹_›) | (with_reducible exact field_prB0 ‹_›) | (with_reducible exact l08Code_prB ‹_›) | (with_reducible exact l08Code_prB0 ‹_›) | (with_reducible exact l08Given_prB ‹_›) | (with_reducible exact l08Given_prB0 ‹_›) | (with_reducible exact l02Code_prB ‹_›) | (with_reducible exact l02Code_prB0 ‹_›) | (with_reducible exact l04Code_prB ‹_›) | (with_reducible exact l04Code_prB0 ‹_›) | (with_reducible exact triangle_prB ‹_›) | (with_reducible exact triangle_prB0 ‹_›) | (with_reducible exact l01Both_prB ‹_›) | (with_reducible exact l01Both_prB0 ‹_›) | (with_reducible exact sfield_prB0 ‹_›))) (fun _ => by (first | (with_reducible assumption) | (with_reducible exact asked_prB ‹_›) | (with_reducible exact l09Code_prB ‹_›) | (with_reducible exact l01Code_prB ‹_›) | (with_reducible exact l01Numbers_prB ‹_›) | (with_reducible exact l01Lines_prB ‹_›) | (with_reducible exact asked_prB0 ‹_›) | (with_reducible exact l09Code_prB0 ‹_›) | (with_reducible exact l01Code_prB0 ‹_›) | (with_reducible exact l01Numbers_prB0 ‹_›) | (with_reducible exact l01Lines_prB0 ‹_›) | (with_reducible exact field_prB ‹_›) | (with_reducible exact field_prB0 ‹_›) | (with_reducible exact l08Code_prB ‹_›) | (with_reducible exact l08Code_prB0 ‹_›) | (with_reducible exact l08Given_prB ‹_›) | (with_reducible exact l08Given_prB0 ‹_›) | (with_reducible exact l02Code_prB ‹_›) | (with_reducible exact l02Code_prB0 ‹_›) | (with_reducible exact l04Code_prB ‹_›) | (with_reducible exact l04Code_prB0 ‹_›) | (with_reducible exact triangle_prB ‹_›) | (with_reducible exact triangle_prB0 ‹_›) | (with_reducible exact l01Both_prB ‹_›) | (with_reducible exact l01Both_prB0 ‹_›) | (with_reducible exact sfield_prB0 ‹_›))) | exact and3 (by (first | (with_reducible assumption) | (with_reducible exact asked_prB ‹_›) | (with_reducible exact l09Code_prB ‹_›) | (with_reducible exact l01Code_prB ‹_›) | (with_reducible exact l01Numbers_prB ‹_›) | (with_reducible exact l01Lines_prB ‹_›) | (with_reducible exact asked_prB0 ‹_›) | (with_reducible exact l09Code_prB0 ‹_›) | (with_reducible exact l01Code_prB0 ‹_›) | (with_reducible exact l01Numbers_prB0 ‹_›) | (with_reducible exact l01Lines_prB0 ‹_›) | (with_reducible exact field_prB ‹_›) | (with_reducible exact field_prB0 ‹_›) | (with_reducible exact l08Code_prB ‹_›) | (with_reducible exact l08Code_prB0 ‹_›) | (with_reducible exact l08Given_prB ‹_›) | (with_reducible exact l08Given_prB0 ‹_›) | (with_reducible exact l02Code_prB ‹_›) | (with_reducible exact l02Code_prB0 ‹_›) | (with_reducible exact l04Code_prB ‹_›) | (with_reducible exact l04Code_prB0 ‹_›) | (with_reducible exact triangle_prB ‹_›) | (with_reducible exact triangle_prB0 ‹_›) | (with_reducible exact l01Both_prB ‹_›) | (with_reducible exact l01Both_prB0 ‹_›) | (with_reducible exact sfield_prB0 ‹_›))) (by (first | (with_reducible assumption) | (with_reducible exact asked_prB ‹_›) | (with_reducible exact l09Code_prB ‹_›) | (with_reducible exact l01Code_prB ‹_›) | (with_reducible exact l01Numbers_prB ‹_›) | (with_reducible exact l01Lines_prB ‹_›) | (with_reducible exact asked_prB0 ‹_›) | (with_reducible exact l09Code_prB0 ‹_›) | (with_reducible exact l01Code_prB0 ‹_›) | (with_reducible exact l01Numbers_prB0 ‹_›) | (with_reducible exact l01Lines_prB0 ‹_›) | (with_reducible exact field_prB ‹_›) | (with_reducible exact field_prB0 ‹_›) | (with_reducible exact l08Code_prB ‹_›) | (with_reducible exact l08Code_prB0 ‹_›) | (with_reducible exact l08Given_prB ‹_›) | (with_reducible exact l08Given_prB0 ‹_›) | (with_reducible exact l02Code_prB ‹_›) | (with_reducible exact l02Code_prB0 ‹_›) | (with_reducible exact l04Code_prB ‹_›) | (with_reducible exact l04Code_prB0 ‹_›) | (with_reducible exact triangle_prB ‹_›) | (with_reducible exact triangle_prB0 ‹_›) | (with_reducible exact l01Both_prB ‹_›) | (with_reducible exact l01Both_prB0 ‹_›) | (with_reducible exact sfield_prB0 ‹_›))) (by (first | (with_reducible assumption) | (with_reducible exact asked_prB ‹_›) | (with_reducible exact l09Code_prB ‹_›) | (with_reducible exact l01Code_prB ‹_›) | (with_reducible exact l01Numbers_prB ‹_›) | (with_reducible exact l01Lines_prB ‹_›) | (with_reducible exact asked_prB0 ‹_›) | (with_reducible exact l09Code_prB0 ‹_›) | (with_reducible exact l01Code_prB0 ‹_›) | (with_reducible exact l01Numbers_prB0 ‹_›) | (with_reducible exact l01Lines_prB0 ‹_›) | (with_reducible exact field_prB ‹_›) | (with_reducible exact field_prB0 ‹_›) | (with_reducible exact l08Code_prB ‹_›) | (with_reducible exact l08Code_prB0 ‹_›) | (with_reducible exact l08Given_prB ‹_›) | (with_reducible exact l08Given_prB0 ‹_›) | (with_reducible exact l02Code_prB ‹_›) | (with_reducible exact l02Code_prB0 ‹_›) | (with_reducible exact l04Code_prB ‹_›) | (with_reducible exact l04Code_prB0 ‹_›) | (with_reducible exact triangle_prB ‹_›) | (with_reducible exact triangle_prB0 ‹_›) | (with_reducible exact l01Both_prB ‹_›) | (with_reducible exact l01Both_prB0 ‹_›) | (with_reducible exact sfield_prB0 ‹_›))) | rfl) ?_ | refine ite_opt (fun _ => ?_) (fun _ => ?_) | rfl)
def run_i_OmegaDouble : List PV → Option (Bool × List TR)
  | [.v (.int .i64 p), .v (.agg ⟨[.int .i64 a0, .int .i64 a1]⟩), .v (.agg ⟨[.int .i64 b0, .int .i64 b1]⟩), .v (.agg ⟨[.int .i64 c0, .int .i64 c1]⟩)] => some (true, enc_i_i (i_OmegaDouble p (a0, a1) (b0, b1) (c0, c1)))
  | _ => none
theorem sound_i_OmegaDouble : Sound Try.prog 29 run_i_OmegaDouble := by
  refine sound_of de_i_i SO_i_OmegaDouble (by kernel_rfl) Try.func29 Try.ntmps29 rfl (by kernel_rfl) ?_
  intro W pvs avs rs hargs hrun
  unfold run_i_OmegaDouble at hrun
  split at hrun
  · simp only [Option.some.injEq, Prod.mk.injEq] at hrun
    obtain ⟨hp, rfl⟩ := hrun
    rename_i p a0 a1 b0 b1 c0 c1
    exact ⟨_, _, _, hargs, rfl, (eq_i_OmegaDouble p (a0, a1) (b0, b1) (c0, c1)).trans (tot_i_OmegaDouble p (a0, a1) (b0, b1) (c0, c1))⟩
  · cases hrun

def S_l_FnExactOmegaDouble : Sums := ⟨tblS [(19, run_l_toPoint), (28, run_s_OmegaDouble), (29, run_i_OmegaDouble)], tblM []⟩
theorem SO_l_FnExactOmegaDouble : SumsOK Try.prog S_l_FnExactOmegaDouble := ⟨tblS_ok ⟨⟨Try.call19, sound_l_toPoint⟩, ⟨Try.call28, sound_s_OmegaDouble⟩, ⟨Try.call29, sound_i_OmegaDouble⟩, True.intro⟩, tblM_ok True.intro⟩
def Fo_l_FnExactOmegaDouble (aP : Int) (aA : Int × Int) (aB : Int × Int) (aC : Int × Int) : Option (Bool) :=
  (if (((i_OmegaDouble aP (l_toPoint aA) (l_toPoint aB) (l_toPoint aC)).1) != ((s_OmegaDouble aP (l_toPoint aA) (l_toPoint aB) (l_toPoint aC)).1)) = true then some false else (if (((i_OmegaDouble aP (l_toPoint aA) (l_toPoint aB) (l_toPoint aC)).2) != ((s_OmegaDouble aP (l_toPoint aA) (l_toPoint aB) (l_toPoint aC)).2)) = true then some false else some true))
theorem eq_l_FnExactOmegaDouble (aP : Int) (aA : Int × Int) (aB : Int × Int) (aC : Int × Int) : execT Try.prog S_l_FnExactOmegaDouble 8 43 1000000 dec_b [.v (.int .i64 aP), .v (.agg ⟨[.int .i64 aA.1, .int .i64 aA.2]⟩), .v (.agg ⟨[.int .i64 aB.1, .int .i64 aB.2]⟩), .v (.agg ⟨[.int .i64 aC.1, .int .i64 aC.2]⟩)] = Fo_l_FnExactOmegaDouble aP aA aB aC := by
  kernel_rfl
def l_FnExactOmegaDouble (aP : Int) (aA : Int × Int) (aB : Int × Int) (aC : Int × Int) : Bool :=
  (if (((i_OmegaDouble aP (l_toPoint aA) (l_toPoint aB) (l_toPoint aC)).1) != ((s_OmegaDouble aP (l_toPoint aA) (l_toPoint aB) (l_toPoint aC)).1)) = true then false else (if (((i_OmegaDouble aP (l_toPoint aA) (l_toPoint aB) (l_toPoint aC)).2) != ((s_OmegaDouble aP (l_toPoint aA) (l_toPoint aB) (l_toPoint aC)).2)) = true then false else true))
theorem tot_l_FnExactOmegaDouble (aP : Int) (aA : Int × Int) (aB : Int × Int) (aC : Int × Int) : Fo_l_FnExactOmegaDouble aP aA aB aC = some (l_FnExactOmegaDouble aP aA aB aC) := by
  unfold Fo_l_FnExactOmegaDouble l_FnExactOmegaDouble
  (try simp only [wI_eq])
  repeat' (first | with_reducible rfl | refine ite_opt (fun _ => ?_) (fun _ => ?_) | rfl)
def run_l_FnExactOmegaDouble : List PV → Option (Bool × List TR)
  | [.v (.int .i64 aP), .v (.agg ⟨[.int .i64 aA0, .int .i64 aA1]⟩), .v (.agg ⟨[.int .i64 aB0, .int .i64 aB1]⟩), .v (.agg ⟨[.int .i64 aC0, .int .i64 aC1]⟩)] => some (true, enc_b (l_FnExactOmegaDouble aP (aA0, aA1) (aB0, aB1) (aC0, aC1)))
  | _ => none
theorem sound_l_FnExactOmegaDouble : Sound Try.prog 8 run_l_FnExactOmegaDouble := by
  refine sound_of de_b SO_l_FnExactOmegaDouble (by kernel_rfl) Try.func8 Try.ntmps8 rfl (by kernel_rfl) ?_
  intro W pvs avs rs hargs hrun
  unfold run_l_FnExactOmegaDouble at hrun
  split at hrun
  · simp only [Option.some.injEq, Prod.mk.injEq] at hrun
    obtain ⟨hp, rfl⟩ := hrun
    rename_i aP aA0 aA1 aB0 aB1 aC0 aC1
    exact ⟨_, _, _, hargs, rfl, (eq_l_FnExactOmegaDouble aP (aA0, aA1) (aB0, aB1) (aC0, aC1)).trans (tot_l_FnExactOmegaDouble aP (aA0, aA1) (aB0, aB1) (aC0, aC1))⟩
  · cases hrun


end Go.Proofs.Ytgadfldmbpgimaa
