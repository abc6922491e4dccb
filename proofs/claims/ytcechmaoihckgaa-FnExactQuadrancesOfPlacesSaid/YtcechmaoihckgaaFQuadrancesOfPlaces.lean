import Derived.Test.YtcechmaoihckgaaFa
import Derived.Test.YtcechmaoihckgaaProg
set_option linter.unusedSimpArgs false
set_option linter.unusedVariables false
namespace Go.Proofs.Ytcechmaoihckgaa
open Go.RowKit
def dec_a3_i : List TR → Option ((Int × Int × Int) × Int)
  | [.v (.agg ⟨[.int .i64 x0_0, .int .i64 x0_1, .int .i64 x0_2]⟩), .v (.int .i64 x1)] => some ((x0_0, x0_1, x0_2), x1)
  | _ => none
def enc_a3_i : (Int × Int × Int) × Int → List TR
  | ((x0_0, x0_1, x0_2), x1) => [.v (.agg ⟨[.int .i64 x0_0, .int .i64 x0_1, .int .i64 x0_2]⟩), .v (.int .i64 x1)]
theorem de_a3_i (rs : List TR) (x : (Int × Int × Int) × Int) (h : dec_a3_i rs = some x) : rs = enc_a3_i x := by
  unfold dec_a3_i at h
  split at h
  · simp only [Option.some.injEq] at h
    subst h
    rfl
  · cases h
def dec_i_i : List TR → Option (Int × Int)
  | [.v (.int .i64 x0), .v (.int .i64 x1)] => some (x0, x1)
  | _ => none
def enc_i_i : Int × Int → List TR
  | (x0, x1) => [.v (.int .i64 x0), .v (.int .i64 x1)]
theorem de_i_i (rs : List TR) (x : Int × Int) (h : dec_i_i rs = some x) : rs = enc_i_i x := by
  unfold dec_i_i at h
  split at h
  · simp only [Option.some.injEq] at h
    subst h
    rfl
  · cases h
def S_i_QuadrancesOfPlaces_c1 : Sums := ⟨tblS [(66, run_i_arePlaces)], tblM []⟩
theorem SO_i_QuadrancesOfPlaces_c1 : SumsOK Try.prog S_i_QuadrancesOfPlaces_c1 := ⟨tblS_ok ⟨⟨Try.call66, sound_i_arePlaces⟩, True.intro⟩, tblM_ok True.intro⟩
def Fo_i_QuadrancesOfPlaces_c1 (c0 : Int) (c1 : Int × Int × Int) (c2 : Int × Int × Int) (c3 : Int × Int × Int) : Option (Bool) :=
  some (i_arePlaces c0 [c1, c2, c3])
theorem eq_i_QuadrancesOfPlaces_c1 (c0 : Int) (c1 : Int × Int × Int) (c2 : Int × Int × Int) (c3 : Int × Int × Int) : execT Try.prog S_i_QuadrancesOfPlaces_c1 88 11 1000000 dec_b [.p [.int .i64 c0], .p [.int .i64 c1.1, .int .i64 c1.2.1, .int .i64 c1.2.2], .p [.int .i64 c2.1, .int .i64 c2.2.1, .int .i64 c2.2.2], .p [.int .i64 c3.1, .int .i64 c3.2.1, .int .i64 c3.2.2]] = Fo_i_QuadrancesOfPlaces_c1 c0 c1 c2 c3 := by
  kernel_rfl
def i_QuadrancesOfPlaces_c1 (c0 : Int) (c1 : Int × Int × Int) (c2 : Int × Int × Int) (c3 : Int × Int × Int) : Bool :=
  (i_arePlaces c0 [c1, c2, c3])
theorem tot_i_QuadrancesOfPlaces_c1 (c0 : Int) (c1 : Int × Int × Int) (c2 : Int × Int × Int) (c3 : Int × Int × Int) : Fo_i_QuadrancesOfPlaces_c1 c0 c1 c2 c3 = some (i_QuadrancesOfPlaces_c1 c0 c1 c2 c3) := by
  unfold Fo_i_QuadrancesOfPlaces_c1 i_QuadrancesOfPlaces_c1
  (try simp only [wI_eq])
  repeat' (first | with_reducible rfl | refine ite_opt (fun _ => ?_) (fun _ => ?_) | rfl)
def run_i_QuadrancesOfPlaces_c1 : List PV → Option (Bool × List TR)
  | [.p [.int .i64 c0], .p [.int .i64 c10, .int .i64 c11, .int .i64 c12], .p [.int .i64 c20, .int .i64 c21, .int .i64 c22], .p [.int .i64 c30, .int .i64 c31, .int .i64 c32]] => some (true, enc_b (i_QuadrancesOfPlaces_c1 c0 (c10, c11, c12) (c20, c21, c22) (c30, c31, c32)))
  | _ => none
theorem sound_i_QuadrancesOfPlaces_c1 : Sound Try.prog 88 run_i_QuadrancesOfPlaces_c1 := by
  refine sound_of de_b SO_i_QuadrancesOfPlaces_c1 (by kernel_rfl) Try.func88 Try.ntmps88 rfl (by kernel_rfl) ?_
  intro W pvs avs rs hargs hrun
  unfold run_i_QuadrancesOfPlaces_c1 at hrun
  split at hrun
  · simp only [Option.some.injEq, Prod.mk.injEq] at hrun
    obtain ⟨hp, rfl⟩ := hrun
    rename_i c0 c10 c11 c12 c20 c21 c22 c30 c31 c32
    exact ⟨_, _, _, hargs, rfl, (eq_i_QuadrancesOfPlaces_c1 c0 (c10, c11, c12) (c20, c21, c22) (c30, c31, c32)).trans (tot_i_QuadrancesOfPlaces_c1 c0 (c10, c11, c12) (c20, c21, c22) (c30, c31, c32))⟩
  · cases hrun

def dec_l2_1_i : List TR → Option ((Nat × List Int) × Int)
  | [.s 2 1 n0 (.ints x0), .v (.int .i64 x1)] => some ((n0, x0), x1)
  | _ => none
def enc_l2_1_i : (Nat × List Int) × Int → List TR
  | ((n0, x0), x1) => [.s 2 1 n0 (.ints x0), .v (.int .i64 x1)]
theorem de_l2_1_i (rs : List TR) (x : (Nat × List Int) × Int) (h : dec_l2_1_i rs = some x) : rs = enc_l2_1_i x := by
  unfold dec_l2_1_i at h
  split at h
  · simp only [Option.some.injEq] at h
    subst h
    rfl
  · cases h
def S_i_QuadrancesOfPlaces : Sums := ⟨tblS [(60, run_i_asked), (88, run_i_QuadrancesOfPlaces_c1), (63, run_i_isNullPlace), (82, run_i_placeQuadrance)], tblM []⟩
theorem SO_i_QuadrancesOfPlaces : SumsOK Try.prog S_i_QuadrancesOfPlaces := ⟨tblS_ok ⟨⟨Try.call60, sound_i_asked⟩, ⟨Try.call88, sound_i_QuadrancesOfPlaces_c1⟩, ⟨Try.call63, sound_i_isNullPlace⟩, ⟨Try.call82, sound_i_placeQuadrance⟩, True.intro⟩, tblM_ok True.intro⟩
def Fo_i_QuadrancesOfPlaces (p : Int) (a : Int × Int × Int) (b : Int × Int × Int) (c : Int × Int × Int) : Option ((Nat × List Int) × Int) :=
  (if ((true) || !(i_IsField p)) = true then (if ((i_asked p (true) (i_QuadrancesOfPlaces_c1 p a b c)) != 0) = true then some ((0, []), (i_asked p (true) (i_QuadrancesOfPlaces_c1 p a b c))) else (if (prB p) = true then (if (i_isNullPlace p a) = true then some ((0, []), 5) else (if (prB p) = true then (if (i_isNullPlace p b) = true then some ((0, []), 5) else (if (prB p) = true then (if (i_isNullPlace p c) = true then some ((0, []), 5) else (if (prB p) = true then (if (prB p) = true then (if (prB p) = true then some ((3, [(i_placeQuadrance p b c), (i_placeQuadrance p a c), (i_placeQuadrance p a b)]), 0) else none) else none) else none)) else none)) else none)) else none)) else none)
theorem eq_i_QuadrancesOfPlaces (p : Int) (a : Int × Int × Int) (b : Int × Int × Int) (c : Int × Int × Int) : execT Try.prog S_i_QuadrancesOfPlaces 40 43 1000000 dec_l2_1_i [.v (.int .i64 p), .v (.agg ⟨[.int .i64 a.1, .int .i64 a.2.1, .int .i64 a.2.2]⟩), .v (.agg ⟨[.int .i64 b.1, .int .i64 b.2.1, .int .i64 b.2.2]⟩), .v (.agg ⟨[.int .i64 c.1, .int .i64 c.2.1, .int .i64 c.2.2]⟩)] = Fo_i_QuadrancesOfPlaces p a b c := by
  kernel_rfl
def i_QuadrancesOfPlaces (p : Int) (a : Int × Int × Int) (b : Int × Int × Int) (c : Int × Int × Int) : (Nat × List Int) × Int :=
  (if ((i_asked p (true) (i_QuadrancesOfPlaces_c1 p a b c)) != 0) = true then ((0, []), (i_asked p (true) (i_QuadrancesOfPlaces_c1 p a b c))) else (if (i_isNullPlace p a) = true then ((0, []), 5) else (if (i_isNullPlace p b) = true then ((0, []), 5) else (if (i_isNullPlace p c) = true then ((0, []), 5) else ((3, [(i_placeQuadrance p b c), (i_placeQuadrance p a c), (i_placeQuadrance p a b)]), 0)))))
theorem tot_i_QuadrancesOfPlaces (p : Int) (a : Int × Int × Int) (b : Int × Int × Int) (c : Int × Int × Int) : Fo_i_QuadrancesOfPlaces p a b c = some (i_QuadrancesOfPlaces p a b c) := by
  unfold Fo_i_QuadrancesOfPlaces i_QuadrancesOfPlaces
  (try simp only [wI_eq])
  repeat' (first | with_reducible rfl | refine chk_opt (by first | with_reducible rfl | exact Bool.true_or _ | (with_reducible exact asked_prB ‹_›) | (with_reducible exact l09Code_prB ‹_›) | (with_reducible exact l01Code_prB ‹_›) | (with_reducible exact l01Numbers_prB ‹_›) | (with_reducible exact l01Lines_prB ‹_›) | (with_reducible exact asked_prB0 ‹_›) | (with_reducible exact l09Code_prB0 ‹_›) | (with_reducible exact l01Code_prB0 ‹_›) | (with_reducible exact l01Numbers_prB0 ‹_›) | (with_reducible exact l01Lines_prB0 ‹_›) | (with_reducible exact field_prB ‹_›) | (with_reducible exact field_prB0 ‹_›)) ?_ | refine ite_opt (fun _ => ?_) (fun _ => ?_) | rfl)
def run_i_QuadrancesOfPlaces : List PV → Option (Bool × List TR)
  | [.v (.int .i64 p), .v (.agg ⟨[.int .i64 a0, .int .i64 a1, .int .i64 a2]⟩), .v (.agg ⟨[.int .i64 b0, .int .i64 b1, .int .i64 b2]⟩), .v (.agg ⟨[.int .i64 c0, .int .i64 c1, .int .i64 c2]⟩)] => some (true, enc_l2_1_i (i_QuadrancesOfPlaces p (a0, a1, a2) (b0, b1, b2) (c0, c1, c2)))
  | _ => none
theorem sound_i_QuadrancesOfPlaces : Sound Try.prog 40 run_i_QuadrancesOfPlaces := by
  refine sound_of de_l2_1_i SO_i_QuadrancesOfPlaces (by kernel_rfl) Try.func40 Try.ntmps40 rfl (by kernel_rfl) ?_
  intro W pvs avs rs hargs hrun
  unfold run_i_QuadrancesOfPlaces at hrun
  split at hrun
  · simp only [Option.some.injEq, Prod.mk.injEq] at hrun
    obtain ⟨hp, rfl⟩ := hrun
    rename_i p a0 a1 a2 b0 b1 b2 c0 c1 c2
    exact ⟨_, _, _, hargs, rfl, (eq_i_QuadrancesOfPlaces p (a0, a1, a2) (b0, b1, b2) (c0, c1, c2)).trans (tot_i_QuadrancesOfPlaces p (a0, a1, a2) (b0, b1, b2) (c0, c1, c2))⟩
  · cases hrun

def S_s_QuadrancesOfPlaces : Sums := ⟨tblS [(58, run_s_l09Code), (59, run_s_l09Null), (80, run_s_l09Quadrance)], tblM []⟩
theorem SO_s_QuadrancesOfPlaces : SumsOK Try.prog S_s_QuadrancesOfPlaces := ⟨tblS_ok ⟨⟨Try.call58, sound_s_l09Code⟩, ⟨Try.call59, sound_s_l09Null⟩, ⟨Try.call80, sound_s_l09Quadrance⟩, True.intro⟩, tblM_ok True.intro⟩
def Fo_s_QuadrancesOfPlaces (p : Int) (a : Int × Int × Int) (b : Int × Int × Int) (c : Int × Int × Int) : Option ((Nat × List Int) × Int) :=
  (if ((s_l09Code p [a, b, c]) == 0) = true then (if (prB p) = true then (if (s_l09Null p a) = true then some ((0, []), 5) else (if (prB p) = true then (if (s_l09Null p b) = true then some ((0, []), 5) else (if (prB p) = true then (if (s_l09Null p c) = true then some ((0, []), 5) else (if ((s_l09Code p [a, b, c]) != 0) = true then some ((0, []), (s_l09Code p [a, b, c])) else (if (prB p) = true then (if (prB p) = true then (if (prB p) = true then some ((3, [(s_l09Quadrance p b c), (s_l09Quadrance p a c), (s_l09Quadrance p a b)]), 0) else none) else none) else none))) else none)) else none)) else none) else (if ((s_l09Code p [a, b, c]) != 0) = true then some ((0, []), (s_l09Code p [a, b, c])) else (if (prB p) = true then (if (prB p) = true then (if (prB p) = true then some ((3, [(s_l09Quadrance p b c), (s_l09Quadrance p a c), (s_l09Quadrance p a b)]), 0) else none) else none) else none)))
theorem eq_s_QuadrancesOfPlaces (p : Int) (a : Int × Int × Int) (b : Int × Int × Int) (c : Int × Int × Int) : execT Try.prog S_s_QuadrancesOfPlaces 39 50 1000000 dec_l2_1_i [.v (.int .i64 p), .v (.agg ⟨[.int .i64 a.1, .int .i64 a.2.1, .int .i64 a.2.2]⟩), .v (.agg ⟨[.int .i64 b.1, .int .i64 b.2.1, .int .i64 b.2.2]⟩), .v (.agg ⟨[.int .i64 c.1, .int .i64 c.2.1, .int .i64 c.2.2]⟩)] = Fo_s_QuadrancesOfPlaces p a b c := by
  kernel_rfl
def s_QuadrancesOfPlaces (p : Int) (a : Int × Int × Int) (b : Int × Int × Int) (c : Int × Int × Int) : (Nat × List Int) × Int :=
  (if ((s_l09Code p [a, b, c]) == 0) = true then (if (s_l09Null p a) = true then ((0, []), 5) else (if (s_l09Null p b) = true then ((0, []), 5) else (if (s_l09Null p c) = true then ((0, []), 5) else (if ((s_l09Code p [a, b, c]) != 0) = true then ((0, []), (s_l09Code p [a, b, c])) else ((3, [(s_l09Quadrance p b c), (s_l09Quadrance p a c), (s_l09Quadrance p a b)]), 0))))) else (if ((s_l09Code p [a, b, c]) != 0) = true then ((0, []), (s_l09Code p [a, b, c])) else ((3, [(s_l09Quadrance p b c), (s_l09Quadrance p a c), (s_l09Quadrance p a b)]), 0)))
theorem tot_s_QuadrancesOfPlaces (p : Int) (a : Int × Int × Int) (b : Int × Int × Int) (c : Int × Int × Int) : Fo_s_QuadrancesOfPlaces p a b c = some (s_QuadrancesOfPlaces p a b c) := by
  unfold Fo_s_QuadrancesOfPlaces s_QuadrancesOfPlaces
  (try simp only [wI_eq])
  repeat' (first | with_reducible rfl | refine chk_opt (by first | with_reducible rfl | exact Bool.true_or _ | (with_reducible exact asked_prB ‹_›) | (with_reducible exact l09Code_prB ‹_›) | (with_reducible exact l01Code_prB ‹_›) | (with_reducible exact l01Numbers_prB ‹_›) | (with_reducible exact l01Lines_prB ‹_›) | (with_reducible exact asked_prB0 ‹_›) | (with_reducible exact l09Code_prB0 ‹_›) | (with_reducible exact l01Code_prB0 ‹_›) | (with_reducible exact l01Numbers_prB0 ‹_›) | (with_reducible exact l01Lines_prB0 ‹_›) | (with_reducible exact field_prB ‹_›) | (with_reducible exact field_prB0 ‹_›)) ?_ | refine ite_opt (fun _ => ?_) (fun _ => ?_) | rfl)
def run_s_QuadrancesOfPlaces : List PV → Option (Bool × List TR)
  | [.v (.int .i64 p), .v (.agg ⟨[.int .i64 a0, .int .i64 a1, .int .i64 a2]⟩), .v (.agg ⟨[.int .i64 b0, .int .i64 b1, .int .i64 b2]⟩), .v (.agg ⟨[.int .i64 c0, .int .i64 c1, .int .i64 c2]⟩)] => some (true, enc_l2_1_i (s_QuadrancesOfPlaces p (a0, a1, a2) (b0, b1, b2) (c0, c1, c2)))
  | _ => none
theorem sound_s_QuadrancesOfPlaces : Sound Try.prog 39 run_s_QuadrancesOfPlaces := by
  refine sound_of de_l2_1_i SO_s_QuadrancesOfPlaces (by kernel_rfl) Try.func39 Try.ntmps39 rfl (by kernel_rfl) ?_
  intro W pvs avs rs hargs hrun
  unfold run_s_QuadrancesOfPlaces at hrun
  split at hrun
  · simp only [Option.some.injEq, Prod.mk.injEq] at hrun
    obtain ⟨hp, rfl⟩ := hrun
    rename_i p a0 a1 a2 b0 b1 b2 c0 c1 c2
    exact ⟨_, _, _, hargs, rfl, (eq_s_QuadrancesOfPlaces p (a0, a1, a2) (b0, b1, b2) (c0, c1, c2)).trans (tot_s_QuadrancesOfPlaces p (a0, a1, a2) (b0, b1, b2) (c0, c1, c2))⟩
  · cases hrun


end Go.Proofs.Ytcechmaoihckgaa
