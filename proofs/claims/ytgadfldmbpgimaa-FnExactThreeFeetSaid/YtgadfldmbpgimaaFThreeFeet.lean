import Derived.Test.YtgadfldmbpgimaaFa
import Derived.Test.YtgadfldmbpgimaaProg
set_option linter.unusedSimpArgs false
set_option linter.unusedVariables false
namespace Go.Proofs.Ytgadfldmbpgimaa
open Go.RowKit
def dec_l2_1_i : List TR → Option ((Nat × List Int) × Int)
  | [.s 2 1 n0 (.ints x0), .v (.int .i64 x1)] => some ((n0, x0), x1)
  | _ => none
def enc_l2_1_i : (Nat × List Int) × Int → List TR
  | ((n0, x0), x1) => [.s 2 1 n0 (.ints x0), .v (.int .i64 x1)]
theorem de_l2_1_i (rs : List TR) (x : (Nat × List Int) × Int) (h : dec_l2_1_i rs = some x) : rs = enc_l2_1_i x := by
  unfold dec_l2_1_i at h
  split at h
  · simp only [Option.some.injEq] at h
    subst h
    rfl
  · cases h
def dec_l2_1 : List TR → Option (Nat × List Int)
  | [.s 2 1 n0 (.ints x0)] => some (n0, x0)
  | _ => none
def enc_l2_1 : Nat × List Int → List TR
  | (n0, x0) => [.s 2 1 n0 (.ints x0)]
theorem de_l2_1 (rs : List TR) (x : Nat × List Int) (h : dec_l2_1 rs = some x) : rs = enc_l2_1 x := by
  unfold dec_l2_1 at h
  split at h
  · simp only [Option.some.injEq] at h
    subst h
    rfl
  · cases h
def dec_l30_2_i : List TR → Option ((Nat × List Int) × Int)
  | [.s 30 2 n0 (.ints x0), .v (.int .i64 x1)] => some ((n0, x0), x1)
  | _ => none
def enc_l30_2_i : (Nat × List Int) × Int → List TR
  | ((n0, x0), x1) => [.s 30 2 n0 (.ints x0), .v (.int .i64 x1)]
theorem de_l30_2_i (rs : List TR) (x : (Nat × List Int) × Int) (h : dec_l30_2_i rs = some x) : rs = enc_l30_2_i x := by
  unfold dec_l30_2_i at h
  split at h
  · simp only [Option.some.injEq] at h
    subst h
    rfl
  · cases h
def clo_a2_b (k : (Int × Int) → Bool) (h : (Int × Int) → Bool) : List Value → Option (Bool × Value)
  | [.agg ⟨[.int .i64 a0_0, .int .i64 a0_1]⟩] => some (k (a0_0, a0_1), .bool (h (a0_0, a0_1)))
  | _ => none
theorem clo_a2_b_ok (g : List Value → Option (Bool × Value)) : ∀ args r, clo_a2_b (fun a0 => okV (g [.agg ⟨[.int .i64 a0.1, .int .i64 a0.2]⟩])) (fun a0 => boolV (g [.agg ⟨[.int .i64 a0.1, .int .i64 a0.2]⟩])) args = some (true, r) → g args = some (true, r) := by
  intro args r h
  unfold clo_a2_b at h
  split at h
  · simp only [Option.some.injEq, Prod.mk.injEq] at h
    obtain ⟨h1, rfl⟩ := h
    exact okV_some h1
  · cases h
def clo_i_b (k : Int → Bool) (h : Int → Bool) : List Value → Option (Bool × Value)
  | [.int .i64 a0] => some (k a0, .bool (h a0))
  | _ => none
theorem clo_i_b_ok (g : List Value → Option (Bool × Value)) : ∀ args r, clo_i_b (fun a0 => okV (g [.int .i64 a0])) (fun a0 => boolV (g [.int .i64 a0])) args = some (true, r) → g args = some (true, r) := by
  intro args r h
  unfold clo_i_b at h
  split at h
  · simp only [Option.some.injEq, Prod.mk.injEq] at h
    obtain ⟨h1, rfl⟩ := h
    exact okV_some h1
  · cases h
def S_i_FootOf_c1 : Sums := ⟨tblS [(98, run_i_isColour), (88, run_i_isPoint), (63, run_i_isLine)], tblM []⟩
theorem SO_i_FootOf_c1 : SumsOK Try.prog S_i_FootOf_c1 := ⟨tblS_ok ⟨⟨Try.call98, sound_i_isColour⟩, ⟨Try.call88, sound_i_isPoint⟩, ⟨Try.call63, sound_i_isLine⟩, True.intro⟩, tblM_ok True.intro⟩
def Fo_i_FootOf_c1 (c0 : Int) (c1 : Int) (c2 : Int × Int) (c3 : Int × Int × Int) : Option (Bool) :=
  (if (i_isColour c0) = true then (if (i_isPoint c1 c2) = true then some (i_isLine c1 c3) else some false) else some false)
theorem eq_i_FootOf_c1 (c0 : Int) (c1 : Int) (c2 : Int × Int) (c3 : Int × Int × Int) : execT Try.prog S_i_FootOf_c1 105 17 1000000 dec_b [.p [.int .i64 c0], .p [.int .i64 c1], .p [.int .i64 c2.1, .int .i64 c2.2], .p [.int .i64 c3.1, .int .i64 c3.2.1, .int .i64 c3.2.2]] = Fo_i_FootOf_c1 c0 c1 c2 c3 := by
  kernel_rfl
def i_FootOf_c1 (c0 : Int) (c1 : Int) (c2 : Int × Int) (c3 : Int × Int × Int) : Bool :=
  (if (i_isColour c0) = true then (if (i_isPoint c1 c2) = true then (i_isLine c1 c3) else false) else false)
theorem tot_i_FootOf_c1 (c0 : Int) (c1 : Int) (c2 : Int × Int) (c3 : Int × Int × Int) : Fo_i_FootOf_c1 c0 c1 c2 c3 = some (i_FootOf_c1 c0 c1 c2 c3) := by
  unfold Fo_i_FootOf_c1 i_FootOf_c1
  (try simp only [wI_eq])
  repeat' (first | with_reducible rfl | refine ite_opt (fun _ => ?_) (fun _ => ?_) | rfl)
def run_i_FootOf_c1 : List PV → Option (Bool × List TR)
  | [.p [.int .i64 c0], .p [.int .i64 c1], .p [.int .i64 c20, .int .i64 c21], .p [.int .i64 c30, .int .i64 c31, .int .i64 c32]] => some (true, enc_b (i_FootOf_c1 c0 c1 (c20, c21) (c30, c31, c32)))
  | _ => none
theorem sound_i_FootOf_c1 : Sound Try.prog 105 run_i_FootOf_c1 := by
  refine sound_of de_b SO_i_FootOf_c1 (by kernel_rfl) Try.func105 Try.ntmps105 rfl (by kernel_rfl) ?_
  intro W pvs avs rs hargs hrun
  unfold run_i_FootOf_c1 at hrun
  split at hrun
  · simp only [Option.some.injEq, Prod.mk.injEq] at hrun
    obtain ⟨hp, rfl⟩ := hrun
    rename_i c0 c1 c20 c21 c30 c31 c32
    exact ⟨_, _, _, hargs, rfl, (eq_i_FootOf_c1 c0 c1 (c20, c21) (c30, c31, c32)).trans (tot_i_FootOf_c1 c0 c1 (c20, c21) (c30, c31, c32))⟩
  · cases hrun

def dec_a2_i : List TR → Option ((Int × Int) × Int)
  | [.v (.agg ⟨[.int .i64 x0_0, .int .i64 x0_1]⟩), .v (.int .i64 x1)] => some ((x0_0, x0_1), x1)
  | _ => none
def enc_a2_i : (Int × Int) × Int → List TR
  | ((x0_0, x0_1), x1) => [.v (.agg ⟨[.int .i64 x0_0, .int .i64 x0_1]⟩), .v (.int .i64 x1)]
theorem de_a2_i (rs : List TR) (x : (Int × Int) × Int) (h : dec_a2_i rs = some x) : rs = enc_a2_i x := by
  unfold dec_a2_i at h
  split at h
  · simp only [Option.some.injEq] at h
    subst h
    rfl
  · cases h
def S_i_FootOf : Sums := ⟨tblS [(50, run_i_asked), (105, run_i_FootOf_c1), (65, run_i_isNull), (106, run_i_foot)], tblM []⟩
theorem SO_i_FootOf : SumsOK Try.prog S_i_FootOf := ⟨tblS_ok ⟨⟨Try.call50, sound_i_asked⟩, ⟨Try.call105, sound_i_FootOf_c1⟩, ⟨Try.call65, sound_i_isNull⟩, ⟨Try.call106, sound_i_foot⟩, True.intro⟩, tblM_ok True.intro⟩
def Fo_i_FootOf (p : Int) (colour : Int) (a : Int × Int) (l : Int × Int × Int) : Option ((Int × Int) × Int) :=
  (if ((true) || !(i_IsField p)) = true then (if ((i_asked p (true) (i_FootOf_c1 colour p a l)) != 0) = true then some ((0, 0), (i_asked p (true) (i_FootOf_c1 colour p a l))) else (if (prB p) = true then (if (i_isNull p colour l) = true then some ((0, 0), 5) else (if (prB p) = true then some ((i_foot p colour a l), 0) else none)) else none)) else none)
theorem eq_i_FootOf (p : Int) (colour : Int) (a : Int × Int) (l : Int × Int × Int) : execT Try.prog S_i_FootOf 79 28 1000000 dec_a2_i [.v (.int .i64 p), .v (.int .i64 colour), .v (.agg ⟨[.int .i64 a.1, .int .i64 a.2]⟩), .v (.agg ⟨[.int .i64 l.1, .int .i64 l.2.1, .int .i64 l.2.2]⟩)] = Fo_i_FootOf p colour a l := by
  kernel_rfl
def i_FootOf (p : Int) (colour : Int) (a : Int × Int) (l : Int × Int × Int) : (Int × Int) × Int :=
  (if ((i_asked p (true) (i_FootOf_c1 colour p a l)) != 0) = true then ((0, 0), (i_asked p (true) (i_FootOf_c1 colour p a l))) else (if (i_isNull p colour l) = true then ((0, 0), 5) else ((i_foot p colour a l), 0)))
theorem tot_i_FootOf (p : Int) (colour : Int) (a : Int × Int) (l : Int × Int × Int) : Fo_i_FootOf p colour a l = some (i_FootOf p colour a l) := by
  unfold Fo_i_FootOf i_FootOf
  (try simp only [wI_eq])
  repeat' (first | with_reducible rfl | refine chk_opt (by first | with_reducible rfl | exact Bool.true_or _ | (with_reducible exact asked_prB ‹_›) | (with_reducible exact l09Code_prB ‹_›) | (with_reducible exact l01Code_prB ‹_›) | (with_reducible exact l01Numbers_prB ‹_›) | (with_reducible exact l01Lines_prB ‹_›) | (with_reducible exact asked_prB0 ‹_›) | (with_reducible exact l09Code_prB0 ‹_›) | (with_reducible exact l01Code_prB0 ‹_›) | (with_reducible exact l01Numbers_prB0 ‹_›) | (with_reducible exact l01Lines_prB0 ‹_›) | (with_reducible exact field_prB ‹_›) | (with_reducible exact field_prB0 ‹_›) | (with_reducible exact l08Code_prB ‹_›) | (with_reducible exact l08Code_prB0 ‹_›) | (with_reducible exact l08Given_prB ‹_›) | (with_reducible exact l08Given_prB0 ‹_›) | (with_reducible exact l02Code_prB ‹_›) | (with_reducible exact l02Code_prB0 ‹_›) | (with_reducible exact l04Code_prB ‹_›) | (with_reducible exact l04Code_prB0 ‹_›) | (with_reducible exact triangle_prB ‹_›) | (with_reducible exact triangle_prB0 ‹_›) | (with_reducible exact l01Both_prB ‹_›) | (with_reducible exact l01Both_prB0 ‹_›) | (with_reducible exact sfield_prB0 ‹_›) | exact mk_ok (by (first | (with_reducible assumption) | (with_reducible exact asked_prB ‹_›) | (with_reducible exact l09Code_prB ‹_›) | (with_reducible exact l01Code_prB ‹_›) | (with_reducible exact l01Numbers_prB ‹_›) | (with_reducible exact l01Lines_prB ‹_›) | (with_reducible exact asked_prB0 ‹_›) | (with_reducible exact l09Code_prB0 ‹_›) | (with_reducible exact l01Code_prB0 ‹_›) | (with_reducible exact l01Numbers_prB0 ‹_›) | (with_reducible exact l01Lines_prB0 ‹_›) | (with_reducible exact field_prB ‹_›) | (with_reducible exact field_prB0 ‹_›) | (with_reducible exact l08Code_prB ‹_›) | (with_reducible exact l08Code_prB0 ‹_›) | (with_reducible exact l08Given_prB ‹_›) | (with_reducible exact l08Given_prB0 ‹_›) | (with_reducible exact l02Code_prB ‹_›) | (with_reducible exact l02Code_prB0 ‹_›) | (with_reducible exact l04Code_prB ‹_›) | (with_reducible exact l04Code_prB0 ‹_›) | (with_reducible exact triangle_prB ‹_›) | (with_reducible exact triangle_prB0 ‹_›) | (with_reducible exact l01Both_prB ‹_›) | (with_reducible exact l01Both_prB0 ‹_›) | (with_reducible exact sfield_prB0 ‹_›))) | exact and_all (by (first | (with_reducible assumption) | (with_reducible exact asked_prB ‹_›) | (with_reducible exact l09Code_prB ‹_›) | (with_reducible exact l01Code_prB ‹_›) | (with_reducible exact l01Numbers_prB ‹_›) | (with_reducible exact l01Lines_prB ‹_›) | (with_reducible exact asked_prB0 ‹_›) | (with_reducible exact l09Code_prB0 ‹_›) | (with_reducible exact l01Code_prB0 ‹_›) | (with_reducible exact l01Numbers_prB0 ‹_›) | (with_reducible exact l01Lines_prB0 ‹_›) | (with_reducible exact field_prB ‹_›) | (with_reducible exact field_prB0 ‹_›) | (with_reducible exact l08Code_prB ‹_›) | (with_reducible exact l08Code_prB0 ‹_›) | (with_reducible exact l08Given_prB ‹_›) | (with_reducible exact l08Given_prB0 ‹_›) | (with_reducible exact l02Code_prB ‹_›) | (with_reducible exact l02Code_prB0 ‹_›) | (with_reducible exact l04Code_prB ‹_›) | (with_reducible exact l04Code_prB0 ‹_›) | (with_reducible exact triangle_prB ‹_›) | (with_reducible exact triangle_prB0 ‹_›) | (with_reducible exact l01Both_prB ‹_›) | (with_reducible exact l01Both_prB0 ‹_›) | (with_reducible exact sfield_prB0 ‹_›))) (fun _ => rfl) | exact and_all (by (first | (with_reducible assumption) | (with_reducible exact asked_prB ‹_›) | (with_reducible exact l09Code_prB ‹_›) | (with_reducible exact l01Code_prB ‹_›) | (with_reducible exact l01Numbers_prB ‹_›) | (with_reducible exact l01Lines_prB ‹_›) | (with_reducible exact asked_prB0 ‹_›) | (with_reducible exact l09Code_prB0 ‹_›) | (with_reducible exact l01Code_prB0 ‹_›) | (with_reducible exact l01Numbers_prB0 ‹_›) | (with_reducible exact l01Lines_prB0 ‹_›) | (with_reducible exact field_prB ‹_›) | (with_reducible exact field_prB0 ‹_›) | (with_reducible exact l08Code_prB ‹_›) | (with_reducible exact l08Code_prB0 ‹_›) | (with_reducible exact l08Given_prB ‹_›) | (with_reducible exact l08Given_prB0 ‹_›) | (with_reducible exact l02Code_prB ‹_›) | (with_reducible exact l02Code_prB0 ‹_›) | (with_reducible exact l04Code_prB ‹_›) | (with_reducible exact l04Code_prB0 ‹_›) | (with_reducible exact triangle_prB ‹_›) | (with_reducible exact triangle_prB0 ‹_›) | (with_reducible exact l01Both_prB ‹_›) | (with_reducible exact l01Both_prB0 ‹_›) | (with_reducible exact sfield_prB0 ‹_›))) (fun _ => by (first | (with_reducible assumption) | (with_reducible exact asked_prB ‹_›) | (with_reducible exact l09Code_prB ‹_›) | (with_reducible exact l01Code_prB ‹_›) | (with_reducible exact l01Numbers_prB ‹_›) | (with_reducible exact l01Lines_prB ‹_›) | (with_reducible exact asked_prB0 ‹_›) | (with_reducible exact l09Code_prB0 ‹_›) | (with_reducible exact l01Code_prB0 ‹_›) | (with_reducible exact l01Numbers_prB0 ‹_›) | (with_reducible exact l01Lines_prB0 ‹_›) | (with_reducible exact field_prB ‹_›) | (with_reducible exact field_prB0 ‹_›) | (with_reducible exact l08Code_prB ‹_›) | (with_reducible exact l08Code_prB0 ‹_›) | (with_reducible exact l08Given_prB ‹_›) | (with_reducible exact l08Given_prB0 ‹_›) | (with_reducible exact l02Code_prB ‹_›) | (with_reducible exact l02Code_prB0 ‹_›) | (with_reducible exact l04Code_prB ‹_›) | (with_reducible exact l04Code_prB0 ‹_›) | (with_reducible exact triangle_prB ‹_›) | (with_reducible exact triangle_prB0 ‹_›) | (with_reducible exact l01Both_prB ‹_›) | (with_reducible exact l01Both_prB0 ‹_›) | (with_reducible exact sfield_prB0 ‹_›))) | exact and3 (by (first | (with_reducible assumption) | (with_reducible exact asked_prB ‹_›) | (with_reducible exact l09Code_prB ‹_›) | (with_reducible exact l01Code_prB ‹_›) | (with_reducible exact l01Numbers_prB ‹_›) | (with_reducible exact l01Lines_prB ‹_›) | (with_reducible exact asked_prB0 ‹_›) | (with_reducible exact l09Code_prB0 ‹_›) | (with_reducible exact l01Code_prB0 ‹_›) | (with_reducible exact l01Numbers_prB0 ‹_›) | (with_reducible exact l01Lines_prB0 ‹_›) | (with_reducible exact field_prB ‹_›) | (with_reducible exact field_prB0 ‹_›) | (with_reducible exact l08Code_prB ‹_›) | (with_reducible exact l08Code_prB0 ‹_›) | (with_reducible exact l08Given_prB ‹_›) | (with_reducible exact l08Given_prB0 ‹_›) | (with_reducible exact l02Code_prB ‹_›) | (with_reducible exact l02Code_prB0 ‹_›) | (with_reducible exact l04Code_prB ‹_›) | (with_reducible exact l04Code_prB0 ‹_›) | (with_reducible exact triangle_prB ‹_›) | (with_reducible exact triangle_prB0 ‹_›) | (with_reducible exact l01Both_prB ‹_›) | (with_reducible exact l01Both_prB0 ‹_›) | (with_reducible exact sfield_prB0 ‹_›))) (by (first | (with_reducible assumption) | (with_reducible exact asked_prB ‹_›) | (with_reducible exact l09Code_prB ‹_›) | (with_reducible exact l01Code_prB ‹_›) | (with_reducible exact l01Numbers_prB ‹_›) | (with_reducible exact l01Lines_prB ‹_›) | (with_reducible exact asked_prB0 ‹_›) | (with_reducible exact l09Code_prB0 ‹_›) | (with_reducible exact l01Code_prB0 ‹_›) | (with_reducible exact l01Numbers_prB0 ‹_›) | (with_reducible exact l01Lines_prB0 ‹_›) | (with_reducible exact field_prB ‹_›) | (with_reducible exact field_prB0 ‹_›) | (with_reducible exact l08Code_prB ‹_›) | (with_reducible exact l08Code_prB0 ‹_›) | (with_reducible exact l08Given_prB ‹_›) | (with_reducible exact l08Given_prB0 ‹_›) | (with_reducible exact l02Code_prB ‹_›) | (with_reducible exact l02Code_prB0 ‹_›) | (with_reducible exact l04Code_prB ‹_›) | (with_reducible exact l04Code_prB0 ‹_›) | (with_reducible exact triangle_prB ‹_›) | (with_reducible exact triangle_prB0 ‹_›) | (with_reducible exact l01Both_prB ‹_›) | (with_reducible exact l01Both_prB0 ‹_›) | (with_reducible exact sfield_prB0 ‹_›))) (by (first | (with_reducible assumption) | (with_reducible exact asked_prB ‹_›) | (with_reducible exact l09Code_prB ‹_›) | (with_reducible exact l01Code_prB ‹_›) | (with_reducible exact l01Numbers_prB ‹_›) | (with_reducible exact l01Lines_prB ‹_›) | (with_reducible exact asked_prB0 ‹_›) | (with_reducible exact l09Code_prB0 ‹_›) | (with_reducible exact l01Code_prB0 ‹_›) | (with_reducible exact l01Numbers_prB0 ‹_›) | (with_reducible exact l01Lines_prB0 ‹_›) | (with_reducible exact field_prB ‹_›) | (with_reducible exact field_prB0 ‹_›) | (with_reducible exact l08Code_prB ‹_›) | (with_reducible exact l08Code_prB0 ‹_›) | (with_reducible exact l08Given_prB ‹_›) | (with_reducible exact l08Given_prB0 ‹_›) | (with_reducible exact l02Code_prB ‹_›) | (with_reducible exact l02Code_prB0 ‹_›) | (with_reducible exact l04Code_prB ‹_›) | (with_reducible exact l04Code_prB0 ‹_›) | (with_reducible exact triangle_prB ‹_›) | (with_reducible exact triangle_prB0 ‹_›) | (with_reducible exact l01Both_prB ‹_›) | (with_reducible exact l01Both_prB0 ‹_›) | (with_reducible exact sfield_prB0 ‹_›))) | rfl) ?_ | refine ite_opt (fun _ => ?_) (fun _ => ?_) | rfl)
def run_i_FootOf : List PV → Option (Bool × List TR)
  | [.v (.int .i64 p), .v (.int .i64 colour), .v (.agg ⟨[.int .i64 a0, .int .i64 a1]⟩), .v (.agg ⟨[.int .i64 l0, .int .i64 l1, .int .i64 l2]⟩)] => some (true, enc_a2_i (i_FootOf p colour (a0, a1) (l0, l1, l2)))
  | _ => none
theorem sound_i_FootOf : Sound Try.prog 79 run_i_FootOf := by
  refine sound_of de_a2_i SO_i_FootOf (by kernel_rfl) Try.func79 Try.ntmps79 rfl (by kernel_rfl) ?_
  intro W pvs avs rs hargs hrun
  unfold run_i_FootOf at hrun
  split at hrun
  · simp only [Option.some.injEq, Prod.mk.injEq] at hrun
    obtain ⟨hp, rfl⟩ := hrun
    rename_i p colour a0 a1 l0 l1 l2
    exact ⟨_, _, _, hargs, rfl, (eq_i_FootOf p colour (a0, a1) (l0, l1, l2)).trans (tot_i_FootOf p colour (a0, a1) (l0, l1, l2))⟩
  · cases hrun

def S_i_ThreeFeet : Sums := ⟨tblS [(79, run_i_FootOf)], tblM []⟩
theorem SO_i_ThreeFeet : SumsOK Try.prog S_i_ThreeFeet := ⟨tblS_ok ⟨⟨Try.call79, sound_i_FootOf⟩, True.intro⟩, tblM_ok True.intro⟩
def Fo_i_ThreeFeet (p : Int) (a : Int × Int) (l : Int × Int × Int) : Option ((Nat × List Int) × Int) :=
  (if (((i_FootOf p 0 a l).2) != 0) = true then some ((0, []), (i_FootOf p 0 a l).2) else (if (((i_FootOf p 1 a l).2) != 0) = true then some ((0, []), (i_FootOf p 1 a l).2) else (if (((i_FootOf p 2 a l).2) != 0) = true then some ((0, []), (i_FootOf p 2 a l).2) else some ((3, [((i_FootOf p 0 a l).1).1, ((i_FootOf p 0 a l).1).2, ((i_FootOf p 1 a l).1).1, ((i_FootOf p 1 a l).1).2, ((i_FootOf p 2 a l).1).1, ((i_FootOf p 2 a l).1).2]), 0))))
theorem eq_i_ThreeFeet (p : Int) (a : Int × Int) (l : Int × Int × Int) : execT Try.prog S_i_ThreeFeet 36 33 1000000 dec_l30_2_i [.v (.int .i64 p), .v (.agg ⟨[.int .i64 a.1, .int .i64 a.2]⟩), .v (.agg ⟨[.int .i64 l.1, .int .i64 l.2.1, .int .i64 l.2.2]⟩)] = Fo_i_ThreeFeet p a l := by
  kernel_rfl
def i_ThreeFeet (p : Int) (a : Int × Int) (l : Int × Int × Int) : (Nat × List Int) × Int :=
  (if (((i_FootOf p 0 a l).2) != 0) = true then ((0, []), (i_FootOf p 0 a l).2) else (if (((i_FootOf p 1 a l).2) != 0) = true then ((0, []), (i_FootOf p 1 a l).2) else (if (((i_FootOf p 2 a l).2) != 0) = true then ((0, []), (i_FootOf p 2 a l).2) else ((3, [((i_FootOf p 0 a l).1).1, ((i_FootOf p 0 a l).1).2, ((i_FootOf p 1 a l).1).1, ((i_FootOf p 1 a l).1).2, ((i_FootOf p 2 a l).1).1, ((i_FootOf p 2 a l).1).2]), 0))))
theorem tot_i_ThreeFeet (p : Int) (a : Int × Int) (l : Int × Int × Int) : Fo_i_ThreeFeet p a l = some (i_ThreeFeet p a l) := by
  unfold Fo_i_ThreeFeet i_ThreeFeet
  (try simp only [wI_eq])
  repeat' (first | with_reducible rfl | refine ite_opt (fun _ => ?_) (fun _ => ?_) | rfl)
def run_i_ThreeFeet : List PV → Option (Bool × List TR)
  | [.v (.int .i64 p), .v (.agg ⟨[.int .i64 a0, .int .i64 a1]⟩), .v (.agg ⟨[.int .i64 l0, .int .i64 l1, .int .i64 l2]⟩)] => some (true, enc_l30_2_i (i_ThreeFeet p (a0, a1) (l0, l1, l2)))
  | _ => none
theorem sound_i_ThreeFeet : Sound Try.prog 36 run_i_ThreeFeet := by
  refine sound_of de_l30_2_i SO_i_ThreeFeet (by kernel_rfl) Try.func36 Try.ntmps36 rfl (by kernel_rfl) ?_
  intro W pvs avs rs hargs hrun
  unfold run_i_ThreeFeet at hrun
  split at hrun
  · simp only [Option.some.injEq, Prod.mk.injEq] at hrun
    obtain ⟨hp, rfl⟩ := hrun
    rename_i p a0 a1 l0 l1 l2
    exact ⟨_, _, _, hargs, rfl, (eq_i_ThreeFeet p (a0, a1) (l0, l1, l2)).trans (tot_i_ThreeFeet p (a0, a1) (l0, l1, l2))⟩
  · cases hrun

def S_s_ThreeFeet : Sums := ⟨tblS [(77, run_s_l01Both), (78, run_s_l02Foot)], tblM []⟩
theorem SO_s_ThreeFeet : SumsOK Try.prog S_s_ThreeFeet := ⟨tblS_ok ⟨⟨Try.call77, sound_s_l01Both⟩, ⟨Try.call78, sound_s_l02Foot⟩, True.intro⟩, tblM_ok True.intro⟩
def Fo_s_ThreeFeet (p : Int) (a : Int × Int) (l : Int × Int × Int) : Option ((Nat × List Int) × Int) :=
  (if ((s_l01Both p a l) != 0) = true then some ((0, []), (s_l01Both p a l)) else (if (prB p) = true then (if (!((s_l02Foot p 0 a l).2)) = true then some ((0, []), 5) else (if (prB p) = true then (if (!((s_l02Foot p 1 a l).2)) = true then some ((0, []), 5) else (if (prB p) = true then (if (!((s_l02Foot p 2 a l).2)) = true then some ((0, []), 5) else some ((3, [((s_l02Foot p 0 a l).1).1, ((s_l02Foot p 0 a l).1).2, ((s_l02Foot p 1 a l).1).1, ((s_l02Foot p 1 a l).1).2, ((s_l02Foot p 2 a l).1).1, ((s_l02Foot p 2 a l).1).2]), 0)) else none)) else none)) else none))
theorem eq_s_ThreeFeet (p : Int) (a : Int × Int) (l : Int × Int × Int) : execT Try.prog S_s_ThreeFeet 35 40 1000000 dec_l30_2_i [.v (.int .i64 p), .v (.agg ⟨[.int .i64 a.1, .int .i64 a.2]⟩), .v (.agg ⟨[.int .i64 l.1, .int .i64 l.2.1, .int .i64 l.2.2]⟩)] = Fo_s_ThreeFeet p a l := by
  kernel_rfl
def s_ThreeFeet (p : Int) (a : Int × Int) (l : Int × Int × Int) : (Nat × List Int) × Int :=
  (if ((s_l01Both p a l) != 0) = true then ((0, []), (s_l01Both p a l)) else (if (!((s_l02Foot p 0 a l).2)) = true then ((0, []), 5) else (if (!((s_l02Foot p 1 a l).2)) = true then ((0, []), 5) else (if (!((s_l02Foot p 2 a l).2)) = true then ((0, []), 5) else ((3, [((s_l02Foot p 0 a l).1).1, ((s_l02Foot p 0 a l).1).2, ((s_l02Foot p 1 a l).1).1, ((s_l02Foot p 1 a l).1).2, ((s_l02Foot p 2 a l).1).1, ((s_l02Foot p 2 a l).1).2]), 0)))))
theorem tot_s_ThreeFeet (p : Int) (a : Int × Int) (l : Int × Int × Int) : Fo_s_ThreeFeet p a l = some (s_ThreeFeet p a l) := by
  unfold Fo_s_ThreeFeet s_ThreeFeet
  (try simp only [wI_eq])
  repeat' (first | with_reducible rfl | refine chk_opt (by first | with_reducible rfl | exact Bool.true_or _ | (with_reducible exact asked_prB ‹_›) | (with_reducible exact l09Code_prB ‹_›) | (with_reducible exact l01Code_prB ‹_›) | (with_reducible exact l01Numbers_prB ‹_›) | (with_reducible exact l01Lines_prB ‹_›) | (with_reducible exact asked_prB0 ‹_›) | (with_reducible exact l09Code_prB0 ‹_›) | (with_reducible exact l01Code_prB0 ‹_›) | (with_reducible exact l01Numbers_prB0 ‹_›) | (with_reducible exact l01Lines_prB0 ‹_›) | (with_reducible exact field_prB ‹_›) | (with_reducible exact field_prB0 ‹_›) | (with_reducible exact l08Code_prB ‹_›) | (with_reducible exact l08Code_prB0 ‹_›) | (with_reducible exact l08Given_prB ‹_›) | (with_reducible exact l08Given_prB0 ‹_›) | (with_reducible exact l02Code_prB ‹_›) | (with_reducible exact l02Code_prB0 ‹_›) | (with_reducible exact l04Code_prB ‹_›) | (with_reducible exact l04Code_prB0 ‹_›) | (with_reducible exact triangle_prB ‹_›) | (with_reducible exact triangle_prB0 ‹_›) | (with_reducible exact l01Both_prB ‹_›) | (with_reducible exact l01Both_prB0 ‹_›) | (with_reducible exact sfield_prB0 ‹_›) | exact mk_ok (by (first | (with_reducible assumption) | (with_reducible exact asked_prB ‹_›) | (with_reducible exact l09Code_prB ‹_›) | (with_reducible exact l01Code_prB ‹_›) | (with_reducible exact l01Numbers_prB ‹_›) | (with_reducible exact l01Lines_prB ‹_›) | (with_reducible exact asked_prB0 ‹_›) | (with_reducible exact l09Code_prB0 ‹_›) | (with_reducible exact l01Code_prB0 ‹_›) | (with_reducible exact l01Numbers_prB0 ‹_›) | (with_reducible exact l01Lines_prB0 ‹_›) | (with_reducible exact field_prB ‹_›) | (with_reducible exact field_prB0 ‹_›) | (with_reducible exact l08Code_prB ‹_›) | (with_reducible exact l08Code_prB0 ‹_›) | (with_reducible exact l08Given_prB ‹_›) | (with_reducible exact l08Given_prB0 ‹_›) | (with_reducible exact l02Code_prB ‹_›) | (with_reducible exact l02Code_prB0 ‹_›) | (with_reducible exact l04Code_prB ‹_›) | (with_reducible exact l04Code_prB0 ‹_›) | (with_reducible exact triangle_prB ‹_›) | (with_reducible exact triangle_prB0 ‹_›) | (with_reducible exact l01Both_prB ‹_›) | (with_reducible exact l01Both_prB0 ‹_›) | (with_reducible exact sfield_prB0 ‹_›))) | exact and_all (by (first | (with_reducible assumption) | (with_reducible exact asked_prB ‹_›) | (with_reducible exact l09Code_prB ‹_›) | (with_reducible exact l01Code_prB ‹_›) | (with_reducible exact l01Numbers_prB ‹_›) | (with_reducible exact l01Lines_prB ‹_›) | (with_reducible exact asked_prB0 ‹_›) | (with_reducible exact l09Code_prB0 ‹_›) | (with_reducible exact l01Code_prB0 ‹_›) | (with_reducible exact l01Numbers_prB0 ‹_›) | (with_reducible exact l01Lines_prB0 ‹_›) | (with_reducible exact field_prB ‹_›) | (with_reducible exact field_prB0 ‹_›) | (with_reducible exact l08Code_prB ‹_›) | (with_reducible exact l08Code_prB0 ‹_›) | (with_reducible exact l08Given_prB ‹_›) | (with_reducible exact l08Given_prB0 ‹_›) | (with_reducible exact l02Code_prB ‹_›) | (with_reducible exact l02Code_prB0 ‹_›) | (with_reducible exact l04Code_prB ‹_›) | (with_reducible exact l04Code_prB0 ‹_›) | (with_reducible exact triangle_prB ‹_›) | (with_reducible exact triangle_prB0 ‹_›) | (with_reducible exact l01Both_prB ‹_›) | (with_reducible exact l01Both_prB0 ‹_›) | (with_reducible exact sfield_prB0 ‹_›))) (fun _ => rfl) | exact and_all (by (first | (with_reducible assumption) | (with_reducible exact asked_prB ‹_›) | (with_reducible exact l09Code_prB ‹_›) | (with_reducible exact l01Code_prB ‹_›) | (with_reducible exact l01Numbers_prB ‹_›) | (with_reducible exact l01Lines_prB ‹_›) | (with_reducible exact asked_prB0 ‹_›) | (with_reducible exact l09Code_prB0 ‹_›) | (with_reducible exact l01Code_prB0 ‹_›) | (with_reducible exact l01Numbers_prB0 ‹_›) | (with_reducible exact l01Lines_prB0 ‹_›) | (with_reducible exact field_prB ‹_›) | (with_reducible exact field_prB0 ‹_›) | (with_reducible exact l08Code_prB ‹_›) | (with_reducible exact l08Code_prB0 ‹_›) | (with_reducible exact l08Given_prB ‹_›) | (with_reducible exact l08Given_prB0 ‹_›) | (with_reducible exact l02Code_prB ‹_›) | (with_reducible exact l02Code_prB0 ‹_›) | (with_reducible exact l04Code_prB ‹_›) | (with_reducible exact l04Code_prB0 ‹_›) | (with_reducible exact triangle_prB ‹_›) | (with_reducible exact triangle_prB0 ‹_›) | (with_reducible exact l01Both_prB ‹_›) | (with_reducible exact l01Both_prB0 ‹_›) | (with_reducible exact sfield_prB0 ‹_›))) (fun _ => by (first | (with_reducible assumption) | (with_reducible exact asked_prB ‹_›) | (with_reducible exact l09Code_prB ‹_›) | (with_reducible exact l01Code_prB ‹_›) | (with_reducible exact l01Numbers_prB ‹_›) | (with_reducible exact l01Lines_prB ‹_›) | (with_reducible exact asked_prB0 ‹_›) | (with_reducible exact l09Code_prB0 ‹_›) | (with_reducible exact l01Code_prB0 ‹_›) | (with_reducible exact l01Numbers_prB0 ‹_›) | (with_reducible exact l01Lines_prB0 ‹_›) | (with_reducible exact field_prB ‹_›) | (with_reducible exact field_prB0 ‹_›) | (with_reducible exact l08Code_prB ‹_›) | (with_reducible exact l08Code_prB0 ‹_›) | (with_reducible exact l08Given_prB ‹_›) | (with_reducible exact l08Given_prB0 ‹_›) | (with_reducible exact l02Code_prB ‹_›) | (with_reducible exact l02Code_prB0 ‹_›) | (with_reducible exact l04Code_prB ‹_›) | (with_reducible exact l04Code_prB0 ‹_›) | (with_reducible exact triangle_prB ‹_›) | (with_reducible exact triangle_prB0 ‹_›) | (with_reducible exact l01Both_prB ‹_›) | (with_reducible exact l01Both_prB0 ‹_›) | (with_reducible exact sfield_prB0 ‹_›))) | exact and3 (by (first | (with_reducible assumption) | (with_reducible exact asked_prB ‹_›) | (with_reducible exact l09Code_prB ‹_›) | (with_reducible exact l01Code_prB ‹_›) | (with_reducible exact l01Numbers_prB ‹_›) | (with_reducible exact l01Lines_prB ‹_›) | (with_reducible exact asked_prB0 ‹_›) | (with_reducible exact l09Code_prB0 ‹_›) | (with_reducible exact l01Code_prB0 ‹_›) | (with_reducible exact l01Numbers_prB0 ‹_›) | (with_reducible exact l01Lines_prB0 ‹_›) | (with_reducible exact field_prB ‹_›) | (with_reducible exact field_prB0 ‹_›) | (with_reducible exact l08Code_prB ‹_›) | (with_reducible exact l08Code_prB0 ‹_›) | (with_reducible exact l08Given_prB ‹_›) | (with_reducible exact l08Given_prB0 ‹_›) | (with_reducible exact l02Code_prB ‹_›) | (with_reducible exact l02Code_prB0 ‹_›) | (with_reducible exact l04Code_prB ‹_›) | (with_reducible exact l04Code_prB0 ‹_›) | (with_reducible exact triangle_prB ‹_›) | (with_reducible exact triangle_prB0 ‹_›) | (with_reducible exact l01Both_prB ‹_›) | (with_reducible exact l01Both_prB0 ‹_›) | (with_reducible exact sfield_prB0 ‹_›))) (by (first | (with_reducible assumption) | (with_reducible exact asked_prB ‹_›) | (with_reducible exact l09Code_prB ‹_›) | (with_reducible exact l01Code_prB ‹_›) | (with_reducible exact l01Numbers_prB ‹_›) | (with_reducible exact l01Lines_prB ‹_›) | (with_reducible exact asked_prB0 ‹_›) | (with_reducible exact l09Code_prB0 ‹_›) | (with_reducible exact l01Code_prB0 ‹_›) | (with_reducible exact l01Numbers_prB0 ‹_›) | (with_reducible exact l01Lines_prB0 ‹_›) | (with_reducible exact field_prB ‹_›) | (with_reducible exact field_prB0 ‹_›) | (with_reducible exact l08Code_prB ‹_›) | (with_reducible exact l08Code_prB0 ‹_›) | (with_reducible exact l08Given_prB ‹_›) | (with_reducible exact l08Given_prB0 ‹_›) | (with_reducible exact l02Code_prB ‹_›) | (with_reducible exact l02Code_prB0 ‹_›) | (with_reducible exact l04Code_prB ‹_›) | (with_reducible exact l04Code_prB0 ‹_›) | (with_reducible exact triangle_prB ‹_›) | (with_reducible exact triangle_prB0 ‹_›) | (with_reducible exact l01Both_prB ‹_›) | (with_reducible exact l01Both_prB0 ‹_›) | (with_reducible exact sfield_prB0 ‹_›))) (by (first | (with_reducible assumption) | (with_reducible exact asked_prB ‹_›) | (with_reducible exact l09Code_prB ‹_›) | (with_reducible exact l01Code_prB ‹_›) | (with_reducible exact l01Numbers_prB ‹_›) | (with_reducible exact l01Lines_prB ‹_›) | (with_reducible exact asked_prB0 ‹_›) | (with_reducible exact l09Code_prB0 ‹_›) | (with_reducible exact l01Code_prB0 ‹_›) | (with_reducible exact l01Numbers_prB0 ‹_›) | (with_reducible exact l01Lines_prB0 ‹_›) | (with_reducible exact field_prB ‹_›) | (with_reducible exact field_prB0 ‹_›) | (with_reducible exact l08Code_prB ‹_›) | (with_reducible exact l08Code_prB0 ‹_›) | (with_reducible exact l08Given_prB ‹_›) | (with_reducible exact l08Given_prB0 ‹_›) | (with_reducible exact l02Code_prB ‹_›) | (with_reducible exact l02Code_prB0 ‹_›) | (with_reducible exact l04Code_prB ‹_›) | (with_reducible exact l04Code_prB0 ‹_›) | (with_reducible exact triangle_prB ‹_›) | (with_reducible exact triangle_prB0 ‹_›) | (with_reducible exact l01Both_prB ‹_›) | (with_reducible exact l01Both_prB0 ‹_›) | (with_reducible exact sfield_prB0 ‹_›))) | rfl) ?_ | refine ite_opt (fun _ => ?_) (fun _ => ?_) | rfl)
def run_s_ThreeFeet : List PV → Option (Bool × List TR)
  | [.v (.int .i64 p), .v (.agg ⟨[.int .i64 a0, .int .i64 a1]⟩), .v (.agg ⟨[.int .i64 l0, .int .i64 l1, .int .i64 l2]⟩)] => some (true, enc_l30_2_i (s_ThreeFeet p (a0, a1) (l0, l1, l2)))
  | _ => none
theorem sound_s_ThreeFeet : Sound Try.prog 35 run_s_ThreeFeet := by
  refine sound_of de_l30_2_i SO_s_ThreeFeet (by kernel_rfl) Try.func35 Try.ntmps35 rfl (by kernel_rfl) ?_
  intro W pvs avs rs hargs hrun
  unfold run_s_ThreeFeet at hrun
  split at hrun
  · simp only [Option.some.injEq, Prod.mk.injEq] at hrun
    obtain ⟨hp, rfl⟩ := hrun
    rename_i p a0 a1 l0 l1 l2
    exact ⟨_, _, _, hargs, rfl, (eq_s_ThreeFeet p (a0, a1) (l0, l1, l2)).trans (tot_s_ThreeFeet p (a0, a1) (l0, l1, l2))⟩
  · cases hrun


end Go.Proofs.Ytgadfldmbpgimaa
