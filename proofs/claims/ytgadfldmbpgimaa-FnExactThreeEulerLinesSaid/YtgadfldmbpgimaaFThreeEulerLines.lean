import Derived.Test.YtgadfldmbpgimaaFa
import Derived.Test.YtgadfldmbpgimaaProg
set_option linter.unusedSimpArgs false
set_option linter.unusedVariables false
namespace Go.Proofs.Ytgadfldmbpgimaa
open Go.RowKit
def dec_l2_1_i : List TR → Option ((Nat × List Int) × Int)
  | [.s 2 1 n0 (.ints x0), .v (.int .i64 x1)] => some ((n0, x0), x1)
  | _ => none
def enc_l2_1_i : (Nat × List Int) × Int → List TR
  | ((n0, x0), x1) => [.s 2 1 n0 (.ints x0), .v (.int .i64 x1)]
theorem de_l2_1_i (rs : List TR) (x : (Nat × List Int) × Int) (h : dec_l2_1_i rs = some x) : rs = enc_l2_1_i x := by
  unfold dec_l2_1_i at h
  split at h
  · simp only [Option.some.injEq] at h
    subst h
    rfl
  · cases h
def dec_l2_1 : List TR → Option (Nat × List Int)
  | [.s 2 1 n0 (.ints x0)] => some (n0, x0)
  | _ => none
def enc_l2_1 : Nat × List Int → List TR
  | (n0, x0) => [.s 2 1 n0 (.ints x0)]
theorem de_l2_1 (rs : List TR) (x : Nat × List Int) (h : dec_l2_1 rs = some x) : rs = enc_l2_1 x := by
  unfold dec_l2_1 at h
  split at h
  · simp only [Option.some.injEq] at h
    subst h
    rfl
  · cases h
def dec_l30_2_i : List TR → Option ((Nat × List Int) × Int)
  | [.s 30 2 n0 (.ints x0), .v (.int .i64 x1)] => some ((n0, x0), x1)
  | _ => none
def enc_l30_2_i : (Nat × List Int) × Int → List TR
  | ((n0, x0), x1) => [.s 30 2 n0 (.ints x0), .v (.int .i64 x1)]
theorem de_l30_2_i (rs : List TR) (x : (Nat × List Int) × Int) (h : dec_l30_2_i rs = some x) : rs = enc_l30_2_i x := by
  unfold dec_l30_2_i at h
  split at h
  · simp only [Option.some.injEq] at h
    subst h
    rfl
  · cases h
def dec_a2_i : List TR → Option ((Int × Int) × Int)
  | [.v (.agg ⟨[.int .i64 x0_0, .int .i64 x0_1]⟩), .v (.int .i64 x1)] => some ((x0_0, x0_1), x1)
  | _ => none
def enc_a2_i : (Int × Int) × Int → List TR
  | ((x0_0, x0_1), x1) => [.v (.agg ⟨[.int .i64 x0_0, .int .i64 x0_1]⟩), .v (.int .i64 x1)]
theorem de_a2_i (rs : List TR) (x : (Int × Int) × Int) (h : dec_a2_i rs = some x) : rs = enc_a2_i x := by
  unfold dec_a2_i at h
  split at h
  · simp only [Option.some.injEq] at h
    subst h
    rfl
  · cases h
def dec_a3_i : List TR → Option ((Int × Int × Int) × Int)
  | [.v (.agg ⟨[.int .i64 x0_0, .int .i64 x0_1, .int .i64 x0_2]⟩), .v (.int .i64 x1)] => some ((x0_0, x0_1, x0_2), x1)
  | _ => none
def enc_a3_i : (Int × Int × Int) × Int → List TR
  | ((x0_0, x0_1, x0_2), x1) => [.v (.agg ⟨[.int .i64 x0_0, .int .i64 x0_1, .int .i64 x0_2]⟩), .v (.int .i64 x1)]
theorem de_a3_i (rs : List TR) (x : (Int × Int × Int) × Int) (h : dec_a3_i rs = some x) : rs = enc_a3_i x := by
  unfold dec_a3_i at h
  split at h
  · simp only [Option.some.injEq] at h
    subst h
    rfl
  · cases h
def clo_a2_b (k : (Int × Int) → Bool) (h : (Int × Int) → Bool) : List Value → Option (Bool × Value)
  | [.agg ⟨[.int .i64 a0_0, .int .i64 a0_1]⟩] => some (k (a0_0, a0_1), .bool (h (a0_0, a0_1)))
  | _ => none
theorem clo_a2_b_ok (g : List Value → Option (Bool × Value)) : ∀ args r, clo_a2_b (fun a0 => okV (g [.agg ⟨[.int .i64 a0.1, .int .i64 a0.2]⟩])) (fun a0 => boolV (g [.agg ⟨[.int .i64 a0.1, .int .i64 a0.2]⟩])) args = some (true, r) → g args = some (true, r) := by
  intro args r h
  unfold clo_a2_b at h
  split at h
  · simp only [Option.some.injEq, Prod.mk.injEq] at h
    obtain ⟨h1, rfl⟩ := h
    exact okV_some h1
  · cases h
def clo_i_b (k : Int → Bool) (h : Int → Bool) : List Value → Option (Bool × Value)
  | [.int .i64 a0] => some (k a0, .bool (h a0))
  | _ => none
theorem clo_i_b_ok (g : List Value → Option (Bool × Value)) : ∀ args r, clo_i_b (fun a0 => okV (g [.int .i64 a0])) (fun a0 => boolV (g [.int .i64 a0])) args = some (true, r) → g args = some (true, r) := by
  intro args r h
  unfold clo_i_b at h
  split at h
  · simp only [Option.some.injEq, Prod.mk.injEq] at h
    obtain ⟨h1, rfl⟩ := h
    exact okV_some h1
  · cases h
def S_i_EulerLineOf : Sums := ⟨tblS [(71, run_i_triangle), (99, run_i_orthocentre), (75, run_i_circumcentre), (109, run_i_lineThrough)], tblM []⟩
theorem SO_i_EulerLineOf : SumsOK Try.prog S_i_EulerLineOf := ⟨tblS_ok ⟨⟨Try.call71, sound_i_triangle⟩, ⟨Try.call99, sound_i_orthocentre⟩, ⟨Try.call75, sound_i_circumcentre⟩, ⟨Try.call109, sound_i_lineThrough⟩, True.intro⟩, tblM_ok True.intro⟩
def Fo_i_EulerLineOf (p : Int) (colour : Int) (a : Int × Int) (b : Int × Int) (c : Int × Int) : Option ((Int × Int × Int) × Int) :=
  (if ((i_triangle p colour a b c) != 0) = true then some ((0, 0, 0), (i_triangle p colour a b c)) else (if (prB p) = true then (if (prB p) = true then (if ((i_orthocentre p colour a b c) == (i_circumcentre p colour a b c)) = true then some ((0, 0, 0), 5) else (if (prB p) = true then some ((i_lineThrough p (i_orthocentre p colour a b c) (i_circumcentre p colour a b c)), 0) else none)) else none) else none))
theorem eq_i_EulerLineOf (p : Int) (colour : Int) (a : Int × Int) (b : Int × Int) (c : Int × Int) : execT Try.prog S_i_EulerLineOf 82 45 1000000 dec_a3_i [.v (.int .i64 p), .v (.int .i64 colour), .v (.agg ⟨[.int .i64 a.1, .int .i64 a.2]⟩), .v (.agg ⟨[.int .i64 b.1, .int .i64 b.2]⟩), .v (.agg ⟨[.int .i64 c.1, .int .i64 c.2]⟩)] = Fo_i_EulerLineOf p colour a b c := by
  kernel_rfl
def i_EulerLineOf (p : Int) (colour : Int) (a : Int × Int) (b : Int × Int) (c : Int × Int) : (Int × Int × Int) × Int :=
  (if ((i_triangle p colour a b c) != 0) = true then ((0, 0, 0), (i_triangle p colour a b c)) else (if ((i_orthocentre p colour a b c) == (i_circumcentre p colour a b c)) = true then ((0, 0, 0), 5) else ((i_lineThrough p (i_orthocentre p colour a b c) (i_circumcentre p colour a b c)), 0)))
theorem tot_i_EulerLineOf (p : Int) (colour : Int) (a : Int × Int) (b : Int × Int) (c : Int × Int) : Fo_i_EulerLineOf p colour a b c = some (i_EulerLineOf p colour a b c) := by
  unfold Fo_i_EulerLineOf i_EulerLineOf
  (try simp only [wI_eq])
  repeat' (first | with_reducible rfl | refine chk_opt (by first | with_reducible rfl | exact Bool.true_or _ | (with_reducible exact asked_prB ‹_›) | (with_reducible exact l09Code_prB ‹_›) | (with_reducible exact l01Code_prB ‹_›) | (with_reducible exact l01Numbers_prB ‹_›) | (with_reducible exact l01Lines_prB ‹_›) | (with_reducible exact asked_prB0 ‹_›) | (with_reducible exact l09Code_prB0 ‹_›) | (with_reducible exact l01Code_prB0 ‹_›) | (with_reducible exact l01Numbers_prB0 ‹_›) | (with_reducible exact l01Lines_prB0 ‹_›) | (with_reducible exact field_prB ‹_›) | (with_reducible exact field_prB0 ‹_›) | (with_reducible exact l08Code_prB ‹_›) | (with_reducible exact l08Code_prB0 ‹_›) | (with_reducible exact l08Given_prB ‹_›) | (with_reducible exact l08Given_prB0 ‹_›) | (with_reducible exact l02Code_prB ‹_›) | (with_reducible exact l02Code_prB0 ‹_›) | (with_reducible exact l04Code_prB ‹_›) | (with_reducible exact l04Code_prB0 ‹_›) | (with_reducible exact triangle_prB ‹_›) | (with_reducible exact triangle_prB0 ‹_›) | (with_reducible exact l01Both_prB ‹_›) | (with_reducible exact l01Both_prB0 ‹_›) | (with_reducible exact sfield_prB0 ‹_›) | exact mk_ok (by (first | (with_reducible assumption) | (with_reducible exact asked_prB ‹_›) | (with_reducible exact l09Code_prB ‹_›) | (with_reducible exact l01Code_prB ‹_›) | (with_reducible exact l01Numbers_prB ‹_›) | (with_reducible exact l01Lines_prB ‹_›) | (with_reducible exact asked_prB0 ‹_›) | (with_reducible exact l09Code_prB0 ‹_›) | (with_reducible exact l01Code_prB0 ‹_›) | (with_reducible exact l01Numbers_prB0 ‹_›) | (with_reducible exact l01Lines_prB0 ‹_›) | (with_reducible exact field_prB ‹_›) | (with_reducible exact field_prB0 ‹_›) | (with_reducible exact l08Code_prB ‹_›) | (with_reducible exact l08Code_prB0 ‹_›) | (with_reducible exact l08Given_prB ‹_›) | (with_reducible exact l08Given_prB0 ‹_›) | (with_reducible exact l02Code_prB ‹_›) | (with_reducible exact l02Code_prB0 ‹_›) | (with_reducible exact l04Code_prB ‹_›) | (with_reducible exact l04Code_prB0 ‹_›) | (with_reducible exact triangle_prB ‹_›) | (with_reducible exact triangle_prB0 ‹_›) | (with_reducible exact l01Both_prB ‹_›) | (with_reducible exact l01Both_prB0 ‹_›) | (with_reducible exact sfield_prB0 ‹_›))) | exact and_all (by (first | (with_reducible assumption) | (with_reducible exact asked_prB ‹_›) | (with_reducible exact l09Code_prB ‹_›) | (with_reducible exact l01Code_prB ‹_›) | (with_reducible exact l01Numbers_prB ‹_›) | (with_reducible exact l01Lines_prB ‹_›) | (with_reducible exact asked_prB0 ‹_›) | (with_reducible exact l09Code_prB0 ‹_›) | (with_reducible exact l01Code_prB0 ‹_›) | (with_reducible exact l01Numbers_prB0 ‹_›) | (with_reducible exact l01Lines_prB0 ‹_›) | (with_reducible exact field_prB ‹_›) | (with_reducible exact field_prB0 ‹_›) | (with_reducible exact l08Code_prB ‹_›) | (with_reducible exact l08Code_prB0 ‹_›) | (with_reducible exact l08Given_prB ‹_›) | (with_reducible exact l08Given_prB0 ‹_›) | (with_reducible exact l02Code_prB ‹_›) | (with_reducible exact l02Code_prB0 ‹_›) | (with_reducible exact l04Code_prB ‹_›) | (with_reducible exact l04Code_prB0 ‹_›) | (with_reducible exact triangle_prB ‹_›) | (with_reducible exact triangle_prB0 ‹_›) | (with_reducible exact l01Both_prB ‹_›) | (with_reducible exact l01Both_prB0 ‹_›) | (with_reducible exact sfield_prB0 ‹_›))) (fun _ => rfl) | exact and_all (by (first | (with_reducible assumption) | (with_reducible exact asked_prB ‹_›) | (with_reducible exact l09Code_prB ‹_›) | (with_reducible exact l01Code_prB ‹_›) | (with_reducible exact l01Numbers_prB ‹_›) | (with_reducible exact l01Lines_prB ‹_›) | (with_reducible exact asked_prB0 ‹_›) | (with_reducible exact l09Code_prB0 ‹_›) | (with_reducible exact l01Code_prB0 ‹_›) | (with_reducible exact l01Numbers_prB0 ‹_›) | (with_reducible exact l01Lines_prB0 ‹_›) | (with_reducible exact field_prB ‹_›) | (with_reducible exact field_prB0 ‹_›) | (with_reducible exact l08Code_prB ‹_›) | (with_reducible exact l08Code_prB0 ‹_›) | (with_reducible exact l08Given_prB ‹_›) | (with_reducible exact l08Given_prB0 ‹_›) | (with_reducible exact l02Code_prB ‹_›) | (with_reducible exact l02Code_prB0 ‹_›) | (with_reducible exact l04Code_prB ‹_›) | (with_reducible exact l04Code_prB0 ‹_›) | (with_reducible exact triangle_prB ‹_›) | (with_reducible exact triangle_prB0 ‹_›) | (with_reducible exact l01Both_prB ‹_›) | (with_reducible exact l01Both_prB0 ‹_›) | (with_reducible exact sfield_prB0 ‹_›))) (fun _ => by (first | (with_reducible assumption) | (with_reducible exact asked_prB ‹_›) | (with_reducible exact l09Code_prB ‹_›) | (with_reducible exact l01Code_prB ‹_›) | (with_reducible exact l01Numbers_prB ‹_›) | (with_reducible exact l01Lines_prB ‹_›) | (with_reducible exact asked_prB0 ‹_›) | (with_reducible exact l09Code_prB0 ‹_›) | (with_reducible exact l01Code_prB0 ‹_›) | (with_reducible exact l01Numbers_prB0 ‹_›) | (with_reducible exact l01Lines_prB0 ‹_›) | (with_reducible exact field_prB ‹_›) | (with_reducible exact field_prB0 ‹_›) | (with_reducible exact l08Code_prB ‹_›) | (with_reducible exact l08Code_prB0 ‹_›) | (with_reducible exact l08Given_prB ‹_›) | (with_reducible exact l08Given_prB0 ‹_›) | (with_reducible exact l02Code_prB ‹_›) | (with_reducible exact l02Code_prB0 ‹_›) | (with_reducible exact l04Code_prB ‹_›) | (with_reducible exact l04Code_prB0 ‹_›) | (with_reducible exact triangle_prB ‹_›) | (with_reducible exact triangle_prB0 ‹_›) | (with_reducible exact l01Both_prB ‹_›) | (with_reducible exact l01Both_prB0 ‹_›) | (with_reducible exact sfield_prB0 ‹_›))) | exact and3 (by (first | (with_reducible assumption) | (with_reducible exact asked_prB ‹_›) | (with_reducible exact l09Code_prB ‹_›) | (with_reducible exact l01Code_prB ‹_›) | (with_reducible exact l01Numbers_prB ‹_›) | (with_reducible exact l01Lines_prB ‹_›) | (with_reducible exact asked_prB0 ‹_›) | (with_reducible exact l09Code_prB0 ‹_›) | (with_reducible exact l01Code_prB0 ‹_›) | (with_reducible exact l01Numbers_prB0 ‹_›) | (with_reducible exact l01Lines_prB0 ‹_›) | (with_reducible exact field_prB ‹_›) | (with_reducible exact field_prB0 ‹_›) | (with_reducible exact l08Code_prB ‹_›) | (with_reducible exact l08Code_prB0 ‹_›) | (with_reducible exact l08Given_prB ‹_›) | (with_reducible exact l08Given_prB0 ‹_›) | (with_reducible exact l02Code_prB ‹_›) | (with_reducible exact l02Code_prB0 ‹_›) | (with_reducible exact l04Code_prB ‹_›) | (with_reducible exact l04Code_prB0 ‹_›) | (with_reducible exact triangle_prB ‹_›) | (with_reducible exact triangle_prB0 ‹_›) | (with_reducible exact l01Both_prB ‹_›) | (with_reducible exact l01Both_prB0 ‹_›) | (with_reducible exact sfield_prB0 ‹_›))) (by (first | (with_reducible assumption) | (with_reducible exact asked_prB ‹_›) | (with_reducible exact l09Code_prB ‹_›) | (with_reducible exact l01Code_prB ‹_›) | (with_reducible exact l01Numbers_prB ‹_›) | (with_reducible exact l01Lines_prB ‹_›) | (with_reducible exact asked_prB0 ‹_›) | (with_reducible exact l09Code_prB0 ‹_›) | (with_reducible exact l01Code_prB0 ‹_›) | (with_reducible exact l01Numbers_prB0 ‹_›) | (with_reducible exact l01Lines_prB0 ‹_›) | (with_reducible exact field_prB ‹_›) | (with_reducible exact field_prB0 ‹_›) | (with_reducible exact l08Code_prB ‹_›) | (with_reducible exact l08Code_prB0 ‹_›) | (with_reducible exact l08Given_prB ‹_›) | (with_reducible exact l08Given_prB0 ‹_›) | (with_reducible exact l02Code_prB ‹_›) | (with_reducible exact l02Code_prB0 ‹_›) | (with_reducible exact l04Code_prB ‹_›) | (with_reducible exact l04Code_prB0 ‹_›) | (with_reducible exact triangle_prB ‹_›) | (with_reducible exact triangle_prB0 ‹_›) | (with_reducible exact l01Both_prB ‹_›) | (with_reducible exact l01Both_prB0 ‹_›) | (with_reducible exact sfield_prB0 ‹_›))) (by (first | (with_reducible assumption) | (with_reducible exact asked_prB ‹_›) | (with_reducible exact l09Code_prB ‹_›) | (with_reducible exact l01Code_prB ‹_›) | (with_reducible exact l01Numbers_prB ‹_›) | (with_reducible exact l01Lines_prB ‹_›) | (with_reducible exact asked_prB0 ‹_›) | (with_reducible exact l09Code_prB0 ‹_›) | (with_reducible exact l01Code_prB0 ‹_›) | (with_reducible exact l01Numbers_prB0 ‹_›) | (with_reducible exact l01Lines_prB0 ‹_›) | (with_reducible exact field_prB ‹_›) | (with_reducible exact field_prB0 ‹_›) | (with_reducible exact l08Code_prB ‹_›) | (with_reducible exact l08Code_prB0 ‹_›) | (with_reducible exact l08Given_prB ‹_›) | (with_reducible exact l08Given_prB0 ‹_›) | (with_reducible exact l02Code_prB ‹_›) | (with_reducible exact l02Code_prB0 ‹_›) | (with_reducible exact l04Code_prB ‹_›) | (with_reducible exact l04Code_prB0 ‹_›) | (with_reducible exact triangle_prB ‹_›) | (with_reducible exact triangle_prB0 ‹_›) | (with_reducible exact l01Both_prB ‹_›) | (with_reducible exact l01Both_prB0 ‹_›) | (with_reducible exact sfield_prB0 ‹_›))) | rfl) ?_ | refine ite_opt (fun _ => ?_) (fun _ => ?_) | rfl)
def run_i_EulerLineOf : List PV → Option (Bool × List TR)
  | [.v (.int .i64 p), .v (.int .i64 colour), .v (.agg ⟨[.int .i64 a0, .int .i64 a1]⟩), .v (.agg ⟨[.int .i64 b0, .int .i64 b1]⟩), .v (.agg ⟨[.int .i64 c0, .int .i64 c1]⟩)] => some (true, enc_a3_i (i_EulerLineOf p colour (a0, a1) (b0, b1) (c0, c1)))
  | _ => none
theorem sound_i_EulerLineOf : Sound Try.prog 82 run_i_EulerLineOf := by
  refine sound_of de_a3_i SO_i_EulerLineOf (by kernel_rfl) Try.func82 Try.ntmps82 rfl (by kernel_rfl) ?_
  intro W pvs avs rs hargs hrun
  unfold run_i_EulerLineOf at hrun
  split at hrun
  · simp only [Option.some.injEq, Prod.mk.injEq] at hrun
    obtain ⟨hp, rfl⟩ := hrun
    rename_i p colour a0 a1 b0 b1 c0 c1
    exact ⟨_, _, _, hargs, rfl, (eq_i_EulerLineOf p colour (a0, a1) (b0, b1) (c0, c1)).trans (tot_i_EulerLineOf p colour (a0, a1) (b0, b1) (c0, c1))⟩
  · cases hrun

def dec_l37_3_i : List TR → Option ((Nat × List Int) × Int)
  | [.s 37 3 n0 (.ints x0), .v (.int .i64 x1)] => some ((n0, x0), x1)
  | _ => none
def enc_l37_3_i : (Nat × List Int) × Int → List TR
  | ((n0, x0), x1) => [.s 37 3 n0 (.ints x0), .v (.int .i64 x1)]
theorem de_l37_3_i (rs : List TR) (x : (Nat × List Int) × Int) (h : dec_l37_3_i rs = some x) : rs = enc_l37_3_i x := by
  unfold dec_l37_3_i at h
  split at h
  · simp only [Option.some.injEq] at h
    subst h
    rfl
  · cases h
def S_i_ThreeEulerLines : Sums := ⟨tblS [(82, run_i_EulerLineOf)], tblM []⟩
theorem SO_i_ThreeEulerLines : SumsOK Try.prog S_i_ThreeEulerLines := ⟨tblS_ok ⟨⟨Try.call82, sound_i_EulerLineOf⟩, True.intro⟩, tblM_ok True.intro⟩
def Fo_i_ThreeEulerLines (p : Int) (a : Int × Int) (b : Int × Int) (c : Int × Int) : Option ((Nat × List Int) × Int) :=
  (if (((i_EulerLineOf p 0 a b c).2) != 0) = true then some ((0, []), (i_EulerLineOf p 0 a b c).2) else (if (((i_EulerLineOf p 1 a b c).2) != 0) = true then some ((0, []), (i_EulerLineOf p 1 a b c).2) else (if (((i_EulerLineOf p 2 a b c).2) != 0) = true then some ((0, []), (i_EulerLineOf p 2 a b c).2) else some ((3, [((i_EulerLineOf p 0 a b c).1).1, ((i_EulerLineOf p 0 a b c).1).2.1, ((i_EulerLineOf p 0 a b c).1).2.2, ((i_EulerLineOf p 1 a b c).1).1, ((i_EulerLineOf p 1 a b c).1).2.1, ((i_EulerLineOf p 1 a b c).1).2.2, ((i_EulerLineOf p 2 a b c).1).1, ((i_EulerLineOf p 2 a b c).1).2.1, ((i_EulerLineOf p 2 a b c).1).2.2]), 0))))
theorem eq_i_ThreeEulerLines (p : Int) (a : Int × Int) (b : Int × Int) (c : Int × Int) : execT Try.prog S_i_ThreeEulerLines 40 36 1000000 dec_l37_3_i [.v (.int .i64 p), .v (.agg ⟨[.int .i64 a.1, .int .i64 a.2]⟩), .v (.agg ⟨[.int .i64 b.1, .int .i64 b.2]⟩), .v (.agg ⟨[.int .i64 c.1, .int .i64 c.2]⟩)] = Fo_i_ThreeEulerLines p a b c := by
  kernel_rfl
def i_ThreeEulerLines (p : Int) (a : Int × Int) (b : Int × Int) (c : Int × Int) : (Nat × List Int) × Int :=
  (if (((i_EulerLineOf p 0 a b c).2) != 0) = true then ((0, []), (i_EulerLineOf p 0 a b c).2) else (if (((i_EulerLineOf p 1 a b c).2) != 0) = true then ((0, []), (i_EulerLineOf p 1 a b c).2) else (if (((i_EulerLineOf p 2 a b c).2) != 0) = true then ((0, []), (i_EulerLineOf p 2 a b c).2) else ((3, [((i_EulerLineOf p 0 a b c).1).1, ((i_EulerLineOf p 0 a b c).1).2.1, ((i_EulerLineOf p 0 a b c).1).2.2, ((i_EulerLineOf p 1 a b c).1).1, ((i_EulerLineOf p 1 a b c).1).2.1, ((i_EulerLineOf p 1 a b c).1).2.2, ((i_EulerLineOf p 2 a b c).1).1, ((i_EulerLineOf p 2 a b c).1).2.1, ((i_EulerLineOf p 2 a b c).1).2.2]), 0))))
theorem tot_i_ThreeEulerLines (p : Int) (a : Int × Int) (b : Int × Int) (c : Int × Int) : Fo_i_ThreeEulerLines p a b c = some (i_ThreeEulerLines p a b c) := by
  unfold Fo_i_ThreeEulerLines i_ThreeEulerLines
  (try simp only [wI_eq])
  repeat' (first | with_reducible rfl | refine ite_opt (fun _ => ?_) (fun _ => ?_) | rfl)
def run_i_ThreeEulerLines : List PV → Option (Bool × List TR)
  | [.v (.int .i64 p), .v (.agg ⟨[.int .i64 a0, .int .i64 a1]⟩), .v (.agg ⟨[.int .i64 b0, .int .i64 b1]⟩), .v (.agg ⟨[.int .i64 c0, .int .i64 c1]⟩)] => some (true, enc_l37_3_i (i_ThreeEulerLines p (a0, a1) (b0, b1) (c0, c1)))
  | _ => none
theorem sound_i_ThreeEulerLines : Sound Try.prog 40 run_i_ThreeEulerLines := by
  refine sound_of de_l37_3_i SO_i_ThreeEulerLines (by kernel_rfl) Try.func40 Try.ntmps40 rfl (by kernel_rfl) ?_
  intro W pvs avs rs hargs hrun
  unfold run_i_ThreeEulerLines at hrun
  split at hrun
  · simp only [Option.some.injEq, Prod.mk.injEq] at hrun
    obtain ⟨hp, rfl⟩ := hrun
    rename_i p a0 a1 b0 b1 c0 c1
    exact ⟨_, _, _, hargs, rfl, (eq_i_ThreeEulerLines p (a0, a1) (b0, b1) (c0, c1)).trans (tot_i_ThreeEulerLines p (a0, a1) (b0, b1) (c0, c1))⟩
  · cases hrun

def S_s_ThreeEulerLines : Sums := ⟨tblS [(68, run_s_l04Code), (80, run_s_l04Orthocentre), (74, run_s_l04Circumcentre), (81, run_s_l01Through)], tblM []⟩
theorem SO_s_ThreeEulerLines : SumsOK Try.prog S_s_ThreeEulerLines := ⟨tblS_ok ⟨⟨Try.call68, sound_s_l04Code⟩, ⟨Try.call80, sound_s_l04Orthocentre⟩, ⟨Try.call74, sound_s_l04Circumcentre⟩, ⟨Try.call81, sound_s_l01Through⟩, True.intro⟩, tblM_ok True.intro⟩
def Fo_s_ThreeEulerLines (p : Int) (a : Int × Int) (b : Int × Int) (c : Int × Int) : Option ((Nat × List Int) × Int) :=
  (if ((s_l04Code p 0 a b c) != 0) = true then some ((0, []), (s_l04Code p 0 a b c)) else (if (prB p) = true then (if (prB p) = true then (if ((s_l04Orthocentre p 0 a b c) == (s_l04Circumcentre p 0 a b c)) = true then some ((0, []), 5) else (if (prB p) = true then (if (prB p) = true then (if (prB p) = true then (if ((s_l04Orthocentre p 1 a b c) == (s_l04Circumcentre p 1 a b c)) = true then some ((0, []), 5) else (if (prB p) = true then (if (prB p) = true then (if (prB p) = true then (if ((s_l04Orthocentre p 2 a b c) == (s_l04Circumcentre p 2 a b c)) = true then some ((0, []), 5) else (if (prB p) = true then some ((3, [(s_l01Through p (s_l04Orthocentre p 0 a b c) (s_l04Circumcentre p 0 a b c)).1, (s_l01Through p (s_l04Orthocentre p 0 a b c) (s_l04Circumcentre p 0 a b c)).2.1, (s_l01Through p (s_l04Orthocentre p 0 a b c) (s_l04Circumcentre p 0 a b c)).2.2, (s_l01Through p (s_l04Orthocentre p 1 a b c) (s_l04Circumcentre p 1 a b c)).1, (s_l01Through p (s_l04Orthocentre p 1 a b c) (s_l04Circumcentre p 1 a b c)).2.1, (s_l01Through p (s_l04Orthocentre p 1 a b c) (s_l04Circumcentre p 1 a b c)).2.2, (s_l01Through p (s_l04Orthocentre p 2 a b c) (s_l04Circumcentre p 2 a b c)).1, (s_l01Through p (s_l04Orthocentre p 2 a b c) (s_l04Circumcentre p 2 a b c)).2.1, (s_l01Through p (s_l04Orthocentre p 2 a b c) (s_l04Circumcentre p 2 a b c)).2.2]), 0) else none)) else none) else none) else none)) else none) else none) else none)) else none) else none))
theorem eq_s_ThreeEulerLines (p : Int) (a : Int × Int) (b : Int × Int) (c : Int × Int) : execT Try.prog S_s_ThreeEulerLines 39 51 1000000 dec_l37_3_i [.v (.int .i64 p), .v (.agg ⟨[.int .i64 a.1, .int .i64 a.2]⟩), .v (.agg ⟨[.int .i64 b.1, .int .i64 b.2]⟩), .v (.agg ⟨[.int .i64 c.1, .int .i64 c.2]⟩)] = Fo_s_ThreeEulerLines p a b c := by
  kernel_rfl
def s_ThreeEulerLines (p : Int) (a : Int × Int) (b : Int × Int) (c : Int × Int) : (Nat × List Int) × Int :=
  (if ((s_l04Code p 0 a b c) != 0) = true then ((0, []), (s_l04Code p 0 a b c)) else (if ((s_l04Orthocentre p 0 a b c) == (s_l04Circumcentre p 0 a b c)) = true then ((0, []), 5) else (if ((s_l04Orthocentre p 1 a b c) == (s_l04Circumcentre p 1 a b c)) = true then ((0, []), 5) else (if ((s_l04Orthocentre p 2 a b c) == (s_l04Circumcentre p 2 a b c)) = true then ((0, []), 5) else ((3, [(s_l01Through p (s_l04Orthocentre p 0 a b c) (s_l04Circumcentre p 0 a b c)).1, (s_l01Through p (s_l04Orthocentre p 0 a b c) (s_l04Circumcentre p 0 a b c)).2.1, (s_l01Through p (s_l04Orthocentre p 0 a b c) (s_l04Circumcentre p 0 a b c)).2.2, (s_l01Through p (s_l04Orthocentre p 1 a b c) (s_l04Circumcentre p 1 a b c)).1, (s_l01Through p (s_l04Orthocentre p 1 a b c) (s_l04Circumcentre p 1 a b c)).2.1, (s_l01Through p (s_l04Orthocentre p 1 a b c) (s_l04Circumcentre p 1 a b c)).2.2, (s_l01Through p (s_l04Orthocentre p 2 a b c) (s_l04Circumcentre p 2 a b c)).1, (s_l01Through p (s_l04Orthocentre p 2 a b c) (s_l04Circumcentre p 2 a b c)).2.1, (s_l01Through p (s_l04Orthocentre p 2 a b c) (s_l04Circumcentre p 2 a b c)).2.2]), 0)))))
theorem tot_s_ThreeEulerLines (p : Int) (a : Int × Int) (b : Int × Int) (c : Int × Int) : Fo_s_ThreeEulerLines p a b c = some (s_ThreeEulerLines p a b c) := by
  unfold Fo_s_ThreeEulerLines s_ThreeEulerLines
  (try simp only [wI_eq])
  repeat' (first | with_reducible rfl | refine chk_opt (by first | with_reducible rfl | exact Bool.true_or _ | (with_reducible exact asked_prB ‹_›) | (with_reducible exact l09Code_prB ‹_›) | (with_reducible exact l01Code_prB ‹_›) | (with_reducible exact l01Numbers_prB ‹_›) | (with_reducible exact l01Lines_prB ‹_›) | (with_reducible exact asked_prB0 ‹_›) | (with_reducible exact l09Code_prB0 ‹_›) | (with_reducible exact l01Code_prB0 ‹_›) | (with_reducible exact l01Numbers_prB0 ‹_›) | (with_reducible exact l01Lines_prB0 ‹_›) | (with_reducible exact field_prB ‹_›) | (with_reducible exact field_prB0 ‹_›) | (with_reducible exact l08Code_prB ‹_›) | (with_reducible exact l08Code_prB0 ‹_›) | (with_reducible exact l08Given_prB ‹_›) | (with_reducible exact l08Given_prB0 ‹_›) | (with_reducible exact l02Code_prB ‹_›) | (with_reducible exact l02Code_prB0 ‹_›) | (with_reducible exact l04Code_prB ‹_›) | (with_reducible exact l04Code_prB0 ‹_›) | (with_reducible exact triangle_prB ‹_›) | (with_reducible exact triangle_prB0 ‹_›) | (with_reducible exact l01Both_prB ‹_›) | (with_reducible exact l01Both_prB0 ‹_›) | (with_reducible exact sfield_prB0 ‹_›) | exact mk_ok (by (first | (with_reducible assumption) | (with_reducible exact asked_prB ‹_›) | (with_reducible exact l09Code_prB ‹_›) | (with_reducible exact l01Code_prB ‹_›) | (with_reducible exact l01Numbers_prB ‹_›) | (with_reducible exact l01Lines_prB ‹_›) | (with_reducible exact asked_prB0 ‹_›) | (with_reducible exact l09Code_prB0 ‹_›) | (with_reducible exact l01Code_prB0 ‹_›) | (with_reducible exact l01Numbers_prB0 ‹_›) | (with_reducible exact l01Lines_prB0 ‹_›) | (with_reducible exact field_prB ‹_›) | (with_reducible exact field_prB0 ‹_›) | (with_reducible exact l08Code_prB ‹_›) | (with_reducible exact l08Code_prB0 ‹_›) | (with_reducible exact l08Given_prB ‹_›) | (with_reducible exact l08Given_prB0 ‹_›) | (with_reducible exact l02Code_prB ‹_›) | (with_reducible exact l02Code_prB0 ‹_›) | (with_reducible exact l04Code_prB ‹_›) | (with_reducible exact l04Code_prB0 ‹_›) | (with_reducible exact triangle_prB ‹_›) | (with_reducible exact triangle_prB0 ‹_›) | (with_reducible exact l01Both_prB ‹_›) | (with_reducible exact l01Both_prB0 ‹_›) | (with_reducible exact sfield_prB0 ‹_›))) | exact and_all (by (first | (with_reducible assumption) | (with_reducible exact asked_prB ‹_›) | (with_reducible exact l09Code_prB ‹_›) | (with_reducible exact l01Code_prB ‹_›) | (with_reducible exact l01Numbers_prB ‹_›) | (with_reducible exact l01Lines_prB ‹_›) | (with_reducible exact asked_prB0 ‹_›) | (with_reducible exact l09Code_prB0 ‹_›) | (with_reducible exact l01Code_prB0 ‹_›) | (with_reducible exact l01Numbers_prB0 ‹_›) | (with_reducible exact l01Lines_prB0 ‹_›) | (with_reducible exact field_prB ‹_›) | (with_reducible exact field_prB0 ‹_›) | (with_reducible exact l08Code_prB ‹_›) | (with_reducible exact l08Code_prB0 ‹_›) | (with_reducible exact l08Given_prB ‹_›) | (with_reducible exact l08Given_prB0 ‹_›) | (with_reducible exact l02Code_prB ‹_›) | (with_reducible exact l02Code_prB0 ‹_›) | (with_reducible exact l04Code_prB ‹_›) | (with_reducible exact l04Code_prB0 ‹_›) | (with_reducible exact triangle_prB ‹_›) | (with_reducible exact triangle_prB0 ‹_›) | (with_reducible exact l01Both_prB ‹_›) | (with_reducible exact l01Both_prB0 ‹_›) | (with_reducible exact sfield_prB0 ‹_›))) (fun _ => rfl) | exact and_all (by (first | (with_reducible assumption) | (with_reducible exact asked_prB ‹_›) | (with_reducible exact l09Code_prB ‹_›) | (with_reducible exact l01Code_prB ‹_›) | (with_reducible exact l01Numbers_prB ‹_›) | (with_reducible exact l01Lines_prB ‹_›) | (with_reducible exact asked_prB0 ‹_›) | (with_reducible exact l09Code_prB0 ‹_›) | (with_reducible exact l01Code_prB0 ‹_›) | (with_reducible exact l01Numbers_prB0 ‹_›) | (with_reducible exact l01Lines_prB0 ‹_›) | (with_reducible exact field_prB ‹_›) | (with_reducible exact field_prB0 ‹_›) | (with_reducible exact l08Code_prB ‹_›) | (with_reducible exact l08Code_prB0 ‹_›) | (with_reducible exact l08Given_prB ‹_›) | (with_reducible exact l08Given_prB0 ‹_›) | (with_reducible exact l02Code_prB ‹_›) | (with_reducible exact l02Code_prB0 ‹_›) | (with_reducible exact l04Code_prB ‹_›) | (with_reducible exact l04Code_prB0 ‹_›) | (with_reducible exact triangle_prB ‹_›) | (with_reducible exact triangle_prB0 ‹_›) | (with_reducible exact l01Both_prB ‹_›) | (with_reducible exact l01Both_prB0 ‹_›) | (with_reducible exact sfield_prB0 ‹_›))) (fun _ => by (first | (with_reducible assumption) | (with_reducible exact asked_prB ‹_›) | (with_reducible exact l09Code_prB ‹_›) | (with_reducible exact l01Code_prB ‹_›) | (with_reducible exact l01Numbers_prB ‹_›) | (with_reducible exact l01Lines_prB ‹_›) | (with_reducible exact asked_prB0 ‹_›) | (with_reducible exact l09Code_prB0 ‹_›) | (with_reducible exact l01Code_prB0 ‹_›) | (with_reducible exact l01Numbers_prB0 ‹_›) | (with_reducible exact l01Lines_prB0 ‹_›) | (with_reducible exact field_prB ‹_›) | (with_reducible exact field_prB0 ‹_›) | (with_reducible exact l08Code_prB ‹_›) | (with_reducible exact l08Code_prB0 ‹_›) | (with_reducible exact l08Given_prB ‹_›) | (with_reducible exact l08Given_prB0 ‹_›) | (with_reducible exact l02Code_prB ‹_›) | (with_reducible exact l02Code_prB0 ‹_›) | (with_reducible exact l04Code_prB ‹_›) | (with_reducible exact l04Code_prB0 ‹_›) | (with_reducible exact triangle_prB ‹_›) | (with_reducible exact triangle_prB0 ‹_›) | (with_reducible exact l01Both_prB ‹_›) | (with_reducible exact l01Both_prB0 ‹_›) | (with_reducible exact sfield_prB0 ‹_›))) | exact and3 (by (first | (with_reducible assumption) | (with_reducible exact asked_prB ‹_›) | (with_reducible exact l09Code_prB ‹_›) | (with_reducible exact l01Code_prB ‹_›) | (with_reducible exact l01Numbers_prB ‹_›) | (with_reducible exact l01Lines_prB ‹_›) | (with_reducible exact asked_prB0 ‹_›) | (with_reducible exact l09Code_prB0 ‹_›) | (with_reducible exact l01Code_prB0 ‹_›) | (with_reducible exact l01Numbers_prB0 ‹_›) | (with_reducible exact l01Lines_prB0 ‹_›) | (with_reducible exact field_prB ‹_›) | (with_reducible exact field_prB0 ‹_›) | (with_reducible exact l08Code_prB ‹_›) | (with_reducible exact l08Code_prB0 ‹_›) | (with_reducible exact l08Given_prB ‹_›) | (with_reducible exact l08Given_prB0 ‹_›) | (with_reducible exact l02Code_prB ‹_›) | (with_reducible exact l02Code_prB0 ‹_›) | (with_reducible exact l04Code_prB ‹_›) | (with_reducible exact l04Code_prB0 ‹_›) | (with_reducible exact triangle_prB ‹_›) | (with_reducible exact triangle_prB0 ‹_›) | (with_reducible exact l01Both_prB ‹_›) | (with_reducible exact l01Both_prB0 ‹_›) | (with_reducible exact sfield_prB0 ‹_›))) (by (first | (with_reducible assumption) | (with_reducible exact asked_prB ‹_›) | (with_reducible exact l09Code_prB ‹_›) | (with_reducible exact l01Code_prB ‹_›) | (with_reducible exact l01Numbers_prB ‹_›) | (with_reducible exact l01Lines_prB ‹_›) | (with_reducible exact asked_prB0 ‹_›) | (with_reducible exact l09Code_prB0 ‹_›) | (with_reducible exact l01Code_prB0 ‹_›) | (with_reducible exact l01Numbers_prB0 ‹_›) | (with_reducible exact l01Lines_prB0 ‹_›) | (with_reducible exact field_prB ‹_›) | (with_reducible exact field_prB0 ‹_›) | (with_reducible exact l08Code_prB ‹_›) | (with_reducible exact l08Code_prB0 ‹_›) | (with_reducible exact l08Given_prB ‹_›) | (with_reducible exact l08Given_prB0 ‹_›) | (with_reducible exact l02Code_prB ‹_›) | (with_reducible exact l02Code_prB0 ‹_›) | (with_reducible exact l04Code_prB ‹_›) | (with_reducible exact l04Code_prB0 ‹_›) | (with_reducible exact triangle_prB ‹_›) | (with_reducible exact triangle_prB0 ‹_›) | (with_reducible exact l01Both_prB ‹_›) | (with_reducible exact l01Both_prB0 ‹_›) | (with_reducible exact sfield_prB0 ‹_›))) (by (first | (with_reducible assumption) | (with_reducible exact asked_prB ‹_›) | (with_reducible exact l09Code_prB ‹_›) | (with_reducible exact l01Code_prB ‹_›) | (with_reducible exact l01Numbers_prB ‹_›) | (with_reducible exact l01Lines_prB ‹_›) | (with_reducible exact asked_prB0 ‹_›) | (with_reducible exact l09Code_prB0 ‹_›) | (with_reducible exact l01Code_prB0 ‹_›) | (with_reducible exact l01Numbers_prB0 ‹_›) | (with_reducible exact l01Lines_prB0 ‹_›) | (with_reducible exact field_prB ‹_›) | (with_reducible exact field_prB0 ‹_›) | (with_reducible exact l08Code_prB ‹_›) | (with_reducible exact l08Code_prB0 ‹_›) | (with_reducible exact l08Given_prB ‹_›) | (with_reducible exact l08Given_prB0 ‹_›) | (with_reducible exact l02Code_prB ‹_›) | (with_reducible exact l02Code_prB0 ‹_›) | (with_reducible exact l04Code_prB ‹_›) | (with_reducible exact l04Code_prB0 ‹_›) | (with_reducible exact triangle_prB ‹_›) | (with_reducible exact triangle_prB0 ‹_›) | (with_reducible exact l01Both_prB ‹_›) | (with_reducible exact l01Both_prB0 ‹_›) | (with_reducible exact sfield_prB0 ‹_›))) | rfl) ?_ | refine ite_opt (fun _ => ?_) (fun _ => ?_) | rfl)
def run_s_ThreeEulerLines : List PV → Option (Bool × List TR)
  | [.v (.int .i64 p), .v (.agg ⟨[.int .i64 a0, .int .i64 a1]⟩), .v (.agg ⟨[.int .i64 b0, .int .i64 b1]⟩), .v (.agg ⟨[.int .i64 c0, .int .i64 c1]⟩)] => some (true, enc_l37_3_i (s_ThreeEulerLines p (a0, a1) (b0, b1) (c0, c1)))
  | _ => none
theorem sound_s_ThreeEulerLines : Sound Try.prog 39 run_s_ThreeEulerLines := by
  refine sound_of de_l37_3_i SO_s_ThreeEulerLines (by kernel_rfl) Try.func39 Try.ntmps39 rfl (by kernel_rfl) ?_
  intro W pvs avs rs hargs hrun
  unfold run_s_ThreeEulerLines at hrun
  split at hrun
  · simp only [Option.some.injEq, Prod.mk.injEq] at hrun
    obtain ⟨hp, rfl⟩ := hrun
    rename_i p a0 a1 b0 b1 c0 c1
    exact ⟨_, _, _, hargs, rfl, (eq_s_ThreeEulerLines p (a0, a1) (b0, b1) (c0, c1)).trans (tot_s_ThreeEulerLines p (a0, a1) (b0, b1) (c0, c1))⟩
  · cases hrun


end Go.Proofs.Ytgadfldmbpgimaa
