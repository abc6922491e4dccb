import Derived.Test.YtcechmaoihckgaaFa
import Derived.Test.YtcechmaoihckgaaProg
set_option linter.unusedSimpArgs false
set_option linter.unusedVariables false
namespace Go.Proofs.Ytcechmaoihckgaa
open Go.RowKit
def dec_a3_i : List TR → Option ((Int × Int × Int) × Int)
  | [.v (.agg ⟨[.int .i64 x0_0, .int .i64 x0_1, .int .i64 x0_2]⟩), .v (.int .i64 x1)] => some ((x0_0, x0_1, x0_2), x1)
  | _ => none
def enc_a3_i : (Int × Int × Int) × Int → List TR
  | ((x0_0, x0_1, x0_2), x1) => [.v (.agg ⟨[.int .i64 x0_0, .int .i64 x0_1, .int .i64 x0_2]⟩), .v (.int .i64 x1)]
theorem de_a3_i (rs : List TR) (x : (Int × Int × Int) × Int) (h : dec_a3_i rs = some x) : rs = enc_a3_i x := by
  unfold dec_a3_i at h
  split at h
  · simp only [Option.some.injEq] at h
    subst h
    rfl
  · cases h
def S_s_JoinOf : Sums := tblS [(58, run_s_l09Code), (73, run_s_l09Join)]
theorem SO_s_JoinOf : SumsOK Try.prog S_s_JoinOf := tblS_ok ⟨⟨Try.call58, sound_s_l09Code⟩, ⟨Try.call73, sound_s_l09Join⟩, True.intro⟩
def Fo_s_JoinOf (p : Int) (a : Int × Int × Int) (b : Int × Int × Int) : Option ((Int × Int × Int) × Int) :=
  (if ((s_l09Code p [a, b]) != 0) = true then some ((0, 0, 0), (s_l09Code p [a, b])) else (if (a == b) = true then some ((0, 0, 0), 5) else (if (prB p) = true then some ((s_l09Join p a b), 0) else none)))
theorem eq_s_JoinOf (p : Int) (a : Int × Int × Int) (b : Int × Int × Int) : execT Try.prog S_s_JoinOf 37 26 1000000 dec_a3_i [.v (.int .i64 p), .v (.agg ⟨[.int .i64 a.1, .int .i64 a.2.1, .int .i64 a.2.2]⟩), .v (.agg ⟨[.int .i64 b.1, .int .i64 b.2.1, .int .i64 b.2.2]⟩)] = Fo_s_JoinOf p a b := by
  kernel_rfl
def s_JoinOf (p : Int) (a : Int × Int × Int) (b : Int × Int × Int) : (Int × Int × Int) × Int :=
  (if ((s_l09Code p [a, b]) != 0) = true then ((0, 0, 0), (s_l09Code p [a, b])) else (if (a == b) = true then ((0, 0, 0), 5) else ((s_l09Join p a b), 0)))
theorem tot_s_JoinOf (p : Int) (a : Int × Int × Int) (b : Int × Int × Int) : Fo_s_JoinOf p a b = some (s_JoinOf p a b) := by
  unfold Fo_s_JoinOf s_JoinOf
  (try simp only [wI_eq])
  repeat' (first | with_reducible rfl | refine chk_opt (by first | with_reducible rfl | exact Bool.true_or _ | (with_reducible exact asked_prB ‹_›) | (with_reducible exact l09Code_prB ‹_›)) ?_ | refine ite_opt (fun _ => ?_) (fun _ => ?_) | rfl)
def run_s_JoinOf : List PV → Option (Bool × List TR)
  | [.v (.int .i64 p), .v (.agg ⟨[.int .i64 a0, .int .i64 a1, .int .i64 a2]⟩), .v (.agg ⟨[.int .i64 b0, .int .i64 b1, .int .i64 b2]⟩)] => some (true, enc_a3_i (s_JoinOf p (a0, a1, a2) (b0, b1, b2)))
  | _ => none
theorem sound_s_JoinOf : Sound Try.prog 37 run_s_JoinOf := by
  refine sound_of de_a3_i SO_s_JoinOf (by kernel_rfl) Try.func37 Try.ntmps37 rfl (by kernel_rfl) ?_
  intro W pvs avs rs hargs hrun
  unfold run_s_JoinOf at hrun
  split at hrun
  · simp only [Option.some.injEq, Prod.mk.injEq] at hrun
    obtain ⟨hp, rfl⟩ := hrun
    rename_i p a0 a1 a2 b0 b1 b2
    exact ⟨_, _, _, hargs, rfl, (eq_s_JoinOf p (a0, a1, a2) (b0, b1, b2)).trans (tot_s_JoinOf p (a0, a1, a2) (b0, b1, b2))⟩
  · cases hrun

def S_i_JoinOf_c1 : Sums := tblS [(66, run_i_arePlaces)]
theorem SO_i_JoinOf_c1 : SumsOK Try.prog S_i_JoinOf_c1 := tblS_ok ⟨⟨Try.call66, sound_i_arePlaces⟩, True.intro⟩
def Fo_i_JoinOf_c1 (c0 : Int) (c1 : Int × Int × Int) (c2 : Int × Int × Int) : Option (Bool) :=
  some (i_arePlaces c0 [c1, c2])
theorem eq_i_JoinOf_c1 (c0 : Int) (c1 : Int × Int × Int) (c2 : Int × Int × Int) : execT Try.prog S_i_JoinOf_c1 86 9 1000000 dec_b [.p [.int .i64 c0], .p [.int .i64 c1.1, .int .i64 c1.2.1, .int .i64 c1.2.2], .p [.int .i64 c2.1, .int .i64 c2.2.1, .int .i64 c2.2.2]] = Fo_i_JoinOf_c1 c0 c1 c2 := by
  kernel_rfl
def i_JoinOf_c1 (c0 : Int) (c1 : Int × Int × Int) (c2 : Int × Int × Int) : Bool :=
  (i_arePlaces c0 [c1, c2])
theorem tot_i_JoinOf_c1 (c0 : Int) (c1 : Int × Int × Int) (c2 : Int × Int × Int) : Fo_i_JoinOf_c1 c0 c1 c2 = some (i_JoinOf_c1 c0 c1 c2) := by
  unfold Fo_i_JoinOf_c1 i_JoinOf_c1
  (try simp only [wI_eq])
  repeat' (first | with_reducible rfl | refine ite_opt (fun _ => ?_) (fun _ => ?_) | rfl)
def run_i_JoinOf_c1 : List PV → Option (Bool × List TR)
  | [.p [.int .i64 c0], .p [.int .i64 c10, .int .i64 c11, .int .i64 c12], .p [.int .i64 c20, .int .i64 c21, .int .i64 c22]] => some (true, enc_b (i_JoinOf_c1 c0 (c10, c11, c12) (c20, c21, c22)))
  | _ => none
theorem sound_i_JoinOf_c1 : Sound Try.prog 86 run_i_JoinOf_c1 := by
  refine sound_of de_b SO_i_JoinOf_c1 (by kernel_rfl) Try.func86 Try.ntmps86 rfl (by kernel_rfl) ?_
  intro W pvs avs rs hargs hrun
  unfold run_i_JoinOf_c1 at hrun
  split at hrun
  · simp only [Option.some.injEq, Prod.mk.injEq] at hrun
    obtain ⟨hp, rfl⟩ := hrun
    rename_i c0 c10 c11 c12 c20 c21 c22
    exact ⟨_, _, _, hargs, rfl, (eq_i_JoinOf_c1 c0 (c10, c11, c12) (c20, c21, c22)).trans (tot_i_JoinOf_c1 c0 (c10, c11, c12) (c20, c21, c22))⟩
  · cases hrun

def S_i_JoinOf : Sums := tblS [(60, run_i_asked), (86, run_i_JoinOf_c1), (87, run_i_join)]
theorem SO_i_JoinOf : SumsOK Try.prog S_i_JoinOf := tblS_ok ⟨⟨Try.call60, sound_i_asked⟩, ⟨Try.call86, sound_i_JoinOf_c1⟩, ⟨Try.call87, sound_i_join⟩, True.intro⟩
def Fo_i_JoinOf (p : Int) (a : Int × Int × Int) (b : Int × Int × Int) : Option ((Int × Int × Int) × Int) :=
  (if ((true) || !(i_IsField p)) = true then (if ((i_asked p (true) (i_JoinOf_c1 p a b)) != 0) = true then some ((0, 0, 0), (i_asked p (true) (i_JoinOf_c1 p a b))) else (if (a == b) = true then some ((0, 0, 0), 5) else (if (prB p) = true then some ((i_join p a b), 0) else none))) else none)
theorem eq_i_JoinOf (p : Int) (a : Int × Int × Int) (b : Int × Int × Int) : execT Try.prog S_i_JoinOf 38 24 1000000 dec_a3_i [.v (.int .i64 p), .v (.agg ⟨[.int .i64 a.1, .int .i64 a.2.1, .int .i64 a.2.2]⟩), .v (.agg ⟨[.int .i64 b.1, .int .i64 b.2.1, .int .i64 b.2.2]⟩)] = Fo_i_JoinOf p a b := by
  kernel_rfl
def i_JoinOf (p : Int) (a : Int × Int × Int) (b : Int × Int × Int) : (Int × Int × Int) × Int :=
  (if ((i_asked p (true) (i_JoinOf_c1 p a b)) != 0) = true then ((0, 0, 0), (i_asked p (true) (i_JoinOf_c1 p a b))) else (if (a == b) = true then ((0, 0, 0), 5) else ((i_join p a b), 0)))
theorem tot_i_JoinOf (p : Int) (a : Int × Int × Int) (b : Int × Int × Int) : Fo_i_JoinOf p a b = some (i_JoinOf p a b) := by
  unfold Fo_i_JoinOf i_JoinOf
  (try simp only [wI_eq])
  repeat' (first | with_reducible rfl | refine chk_opt (by first | with_reducible rfl | exact Bool.true_or _ | (with_reducible exact asked_prB ‹_›) | (with_reducible exact l09Code_prB ‹_›)) ?_ | refine ite_opt (fun _ => ?_) (fun _ => ?_) | rfl)
def run_i_JoinOf : List PV → Option (Bool × List TR)
  | [.v (.int .i64 p), .v (.agg ⟨[.int .i64 a0, .int .i64 a1, .int .i64 a2]⟩), .v (.agg ⟨[.int .i64 b0, .int .i64 b1, .int .i64 b2]⟩)] => some (true, enc_a3_i (i_JoinOf p (a0, a1, a2) (b0, b1, b2)))
  | _ => none
theorem sound_i_JoinOf : Sound Try.prog 38 run_i_JoinOf := by
  refine sound_of de_a3_i SO_i_JoinOf (by kernel_rfl) Try.func38 Try.ntmps38 rfl (by kernel_rfl) ?_
  intro W pvs avs rs hargs hrun
  unfold run_i_JoinOf at hrun
  split at hrun
  · simp only [Option.some.injEq, Prod.mk.injEq] at hrun
    obtain ⟨hp, rfl⟩ := hrun
    rename_i p a0 a1 a2 b0 b1 b2
    exact ⟨_, _, _, hargs, rfl, (eq_i_JoinOf p (a0, a1, a2) (b0, b1, b2)).trans (tot_i_JoinOf p (a0, a1, a2) (b0, b1, b2))⟩
  · cases hrun

def S_l_FnExactJoinOf : Sums := tblS [(19, run_l_toPlace), (37, run_s_JoinOf), (38, run_i_JoinOf), (25, run_l_eqPlace)]
theorem SO_l_FnExactJoinOf : SumsOK Try.prog S_l_FnExactJoinOf := tblS_ok ⟨⟨Try.call19, sound_l_toPlace⟩, ⟨Try.call37, sound_s_JoinOf⟩, ⟨Try.call38, sound_i_JoinOf⟩, ⟨Try.call25, sound_l_eqPlace⟩, True.intro⟩
def Fo_l_FnExactJoinOf (aP : Int) (aA : Int × Int × Int) (aB : Int × Int × Int) : Option (Bool) :=
  (if (!(l_eqPlace ((i_JoinOf aP (l_toPlace aA) (l_toPlace aB)).1) ((s_JoinOf aP (l_toPlace aA) (l_toPlace aB)).1))) = true then some false else (if (((i_JoinOf aP (l_toPlace aA) (l_toPlace aB)).2) != ((s_JoinOf aP (l_toPlace aA) (l_toPlace aB)).2)) = true then some false else some true))
theorem eq_l_FnExactJoinOf (aP : Int) (aA : Int × Int × Int) (aB : Int × Int × Int) : execT Try.prog S_l_FnExactJoinOf 10 38 1000000 dec_b [.v (.int .i64 aP), .v (.agg ⟨[.int .i64 aA.1, .int .i64 aA.2.1, .int .i64 aA.2.2]⟩), .v (.agg ⟨[.int .i64 aB.1, .int .i64 aB.2.1, .int .i64 aB.2.2]⟩)] = Fo_l_FnExactJoinOf aP aA aB := by
  kernel_rfl
def l_FnExactJoinOf (aP : Int) (aA : Int × Int × Int) (aB : Int × Int × Int) : Bool :=
  (if (!(l_eqPlace ((i_JoinOf aP (l_toPlace aA) (l_toPlace aB)).1) ((s_JoinOf aP (l_toPlace aA) (l_toPlace aB)).1))) = true then false else (if (((i_JoinOf aP (l_toPlace aA) (l_toPlace aB)).2) != ((s_JoinOf aP (l_toPlace aA) (l_toPlace aB)).2)) = true then false else true))
theorem tot_l_FnExactJoinOf (aP : Int) (aA : Int × Int × Int) (aB : Int × Int × Int) : Fo_l_FnExactJoinOf aP aA aB = some (l_FnExactJoinOf aP aA aB) := by
  unfold Fo_l_FnExactJoinOf l_FnExactJoinOf
  (try simp only [wI_eq])
  repeat' (first | with_reducible rfl | refine ite_opt (fun _ => ?_) (fun _ => ?_) | rfl)
def run_l_FnExactJoinOf : List PV → Option (Bool × List TR)
  | [.v (.int .i64 aP), .v (.agg ⟨[.int .i64 aA0, .int .i64 aA1, .int .i64 aA2]⟩), .v (.agg ⟨[.int .i64 aB0, .int .i64 aB1, .int .i64 aB2]⟩)] => some (true, enc_b (l_FnExactJoinOf aP (aA0, aA1, aA2) (aB0, aB1, aB2)))
  | _ => none
theorem sound_l_FnExactJoinOf : Sound Try.prog 10 run_l_FnExactJoinOf := by
  refine sound_of de_b SO_l_FnExactJoinOf (by kernel_rfl) Try.func10 Try.ntmps10 rfl (by kernel_rfl) ?_
  intro W pvs avs rs hargs hrun
  unfold run_l_FnExactJoinOf at hrun
  split at hrun
  · simp only [Option.some.injEq, Prod.mk.injEq] at hrun
    obtain ⟨hp, rfl⟩ := hrun
    rename_i aP aA0 aA1 aA2 aB0 aB1 aB2
    exact ⟨_, _, _, hargs, rfl, (eq_l_FnExactJoinOf aP (aA0, aA1, aA2) (aB0, aB1, aB2)).trans (tot_l_FnExactJoinOf aP (aA0, aA1, aA2) (aB0, aB1, aB2))⟩
  · cases hrun


end Go.Proofs.Ytcechmaoihckgaa
