import Derived.Test.YtcechmaoihckgaaFa
import Derived.Test.YtcechmaoihckgaaProg
set_option linter.unusedSimpArgs false
set_option linter.unusedVariables false
namespace Go.Proofs.Ytcechmaoihckgaa
open Go.RowKit
def S_s_l09Null : Sums := tblS [(64, run_s_l09Product)]
theorem SO_s_l09Null : SumsOK Try.prog S_s_l09Null := tblS_ok ⟨⟨Try.call64, sound_s_l09Product⟩, True.intro⟩
def Fo_s_l09Null (p : Int) (a : Int × Int × Int) : Option (Bool) :=
  (if (prB p) = true then some ((s_l09Product p a a) == 0) else none)
theorem eq_s_l09Null (p : Int) (a : Int × Int × Int) : execT Try.prog S_s_l09Null 59 10 1000000 dec_b [.v (.int .i64 p), .v (.agg ⟨[.int .i64 a.1, .int .i64 a.2.1, .int .i64 a.2.2]⟩)] = Fo_s_l09Null p a := by
  kernel_rfl
def s_l09Null (p : Int) (a : Int × Int × Int) : Bool :=
  (s_l09Product p a a) == 0
theorem tot_s_l09Null (p : Int) (a : Int × Int × Int) (hp : (prB p) = true) : Fo_s_l09Null p a = some (s_l09Null p a) := by
  have h0 := prB_ne hp
  unfold Fo_s_l09Null s_l09Null
  (try simp only [wI_eq])
  repeat' (first | with_reducible rfl | with_reducible refine chk_opt hp ?_ | with_reducible refine chk_opt h0 ?_ | refine ite_opt (fun _ => ?_) (fun _ => ?_) | rfl)
def run_s_l09Null : List PV → Option (Bool × List TR)
  | [.v (.int .i64 p), .v (.agg ⟨[.int .i64 a0, .int .i64 a1, .int .i64 a2]⟩)] => some (prB p, enc_b (s_l09Null p (a0, a1, a2)))
  | _ => none
theorem sound_s_l09Null : Sound Try.prog 59 run_s_l09Null := by
  refine sound_of de_b SO_s_l09Null (by kernel_rfl) Try.func59 Try.ntmps59 rfl (by kernel_rfl) ?_
  intro W pvs avs rs hargs hrun
  unfold run_s_l09Null at hrun
  split at hrun
  · simp only [Option.some.injEq, Prod.mk.injEq] at hrun
    obtain ⟨hp, rfl⟩ := hrun
    rename_i p a0 a1 a2
    exact ⟨_, _, _, hargs, rfl, (eq_s_l09Null p (a0, a1, a2)).trans (tot_s_l09Null p (a0, a1, a2) hp)⟩
  · cases hrun

def dec_i_i : List TR → Option (Int × Int)
  | [.v (.int .i64 x0), .v (.int .i64 x1)] => some (x0, x1)
  | _ => none
def enc_i_i : Int × Int → List TR
  | (x0, x1) => [.v (.int .i64 x0), .v (.int .i64 x1)]
theorem de_i_i (rs : List TR) (x : Int × Int) (h : dec_i_i rs = some x) : rs = enc_i_i x := by
  unfold dec_i_i at h
  split at h
  · simp only [Option.some.injEq] at h
    subst h
    rfl
  · cases h
def S_s_SpreadOfJoins : Sums := tblS [(58, run_s_l09Code), (73, run_s_l09Join), (59, run_s_l09Null), (80, run_s_l09Quadrance)]
theorem SO_s_SpreadOfJoins : SumsOK Try.prog S_s_SpreadOfJoins := tblS_ok ⟨⟨Try.call58, sound_s_l09Code⟩, ⟨Try.call73, sound_s_l09Join⟩, ⟨Try.call59, sound_s_l09Null⟩, ⟨Try.call80, sound_s_l09Quadrance⟩, True.intro⟩
def Fo_s_SpreadOfJoins (p : Int) (a : Int × Int × Int) (b : Int × Int × Int) (c : Int × Int × Int) : Option (Int × Int) :=
  (if ((s_l09Code p [a, b, c]) != 0) = true then some (0, (s_l09Code p [a, b, c])) else (if (a == b) = true then some (0, 5) else (if (a == c) = true then some (0, 5) else (if (prB p) = true then (if (prB p) = true then (if (prB p) = true then (if (s_l09Null p (s_l09Join p a b)) = true then some (0, 5) else (if (prB p) = true then (if (s_l09Null p (s_l09Join p a c)) = true then some (0, 5) else (if (prB p) = true then some ((s_l09Quadrance p (s_l09Join p a b) (s_l09Join p a c)), 0) else none)) else none)) else none) else none) else none))))
theorem eq_s_SpreadOfJoins (p : Int) (a : Int × Int × Int) (b : Int × Int × Int) (c : Int × Int × Int) : execT Try.prog S_s_SpreadOfJoins 44 50 1000000 dec_i_i [.v (.int .i64 p), .v (.agg ⟨[.int .i64 a.1, .int .i64 a.2.1, .int .i64 a.2.2]⟩), .v (.agg ⟨[.int .i64 b.1, .int .i64 b.2.1, .int .i64 b.2.2]⟩), .v (.agg ⟨[.int .i64 c.1, .int .i64 c.2.1, .int .i64 c.2.2]⟩)] = Fo_s_SpreadOfJoins p a b c := by
  kernel_rfl
def s_SpreadOfJoins (p : Int) (a : Int × Int × Int) (b : Int × Int × Int) (c : Int × Int × Int) : Int × Int :=
  (if ((s_l09Code p [a, b, c]) != 0) = true then (0, (s_l09Code p [a, b, c])) else (if (a == b) = true then (0, 5) else (if (a == c) = true then (0, 5) else (if (s_l09Null p (s_l09Join p a b)) = true then (0, 5) else (if (s_l09Null p (s_l09Join p a c)) = true then (0, 5) else ((s_l09Quadrance p (s_l09Join p a b) (s_l09Join p a c)), 0))))))
theorem tot_s_SpreadOfJoins (p : Int) (a : Int × Int × Int) (b : Int × Int × Int) (c : Int × Int × Int) : Fo_s_SpreadOfJoins p a b c = some (s_SpreadOfJoins p a b c) := by
  unfold Fo_s_SpreadOfJoins s_SpreadOfJoins
  (try simp only [wI_eq])
  repeat' (first | with_reducible rfl | refine chk_opt (by first | with_reducible rfl | exact Bool.true_or _ | (with_reducible exact asked_prB ‹_›) | (with_reducible exact l09Code_prB ‹_›)) ?_ | refine ite_opt (fun _ => ?_) (fun _ => ?_) | rfl)
def run_s_SpreadOfJoins : List PV → Option (Bool × List TR)
  | [.v (.int .i64 p), .v (.agg ⟨[.int .i64 a0, .int .i64 a1, .int .i64 a2]⟩), .v (.agg ⟨[.int .i64 b0, .int .i64 b1, .int .i64 b2]⟩), .v (.agg ⟨[.int .i64 c0, .int .i64 c1, .int .i64 c2]⟩)] => some (true, enc_i_i (s_SpreadOfJoins p (a0, a1, a2) (b0, b1, b2) (c0, c1, c2)))
  | _ => none
theorem sound_s_SpreadOfJoins : Sound Try.prog 44 run_s_SpreadOfJoins := by
  refine sound_of de_i_i SO_s_SpreadOfJoins (by kernel_rfl) Try.func44 Try.ntmps44 rfl (by kernel_rfl) ?_
  intro W pvs avs rs hargs hrun
  unfold run_s_SpreadOfJoins at hrun
  split at hrun
  · simp only [Option.some.injEq, Prod.mk.injEq] at hrun
    obtain ⟨hp, rfl⟩ := hrun
    rename_i p a0 a1 a2 b0 b1 b2 c0 c1 c2
    exact ⟨_, _, _, hargs, rfl, (eq_s_SpreadOfJoins p (a0, a1, a2) (b0, b1, b2) (c0, c1, c2)).trans (tot_s_SpreadOfJoins p (a0, a1, a2) (b0, b1, b2) (c0, c1, c2))⟩
  · cases hrun

def S_i_SpreadOfJoins_c1 : Sums := tblS [(66, run_i_arePlaces)]
theorem SO_i_SpreadOfJoins_c1 : SumsOK Try.prog S_i_SpreadOfJoins_c1 := tblS_ok ⟨⟨Try.call66, sound_i_arePlaces⟩, True.intro⟩
def Fo_i_SpreadOfJoins_c1 (c0 : Int) (c1 : Int × Int × Int) (c2 : Int × Int × Int) (c3 : Int × Int × Int) : Option (Bool) :=
  some (i_arePlaces c0 [c1, c2, c3])
theorem eq_i_SpreadOfJoins_c1 (c0 : Int) (c1 : Int × Int × Int) (c2 : Int × Int × Int) (c3 : Int × Int × Int) : execT Try.prog S_i_SpreadOfJoins_c1 89 11 1000000 dec_b [.p [.int .i64 c0], .p [.int .i64 c1.1, .int .i64 c1.2.1, .int .i64 c1.2.2], .p [.int .i64 c2.1, .int .i64 c2.2.1, .int .i64 c2.2.2], .p [.int .i64 c3.1, .int .i64 c3.2.1, .int .i64 c3.2.2]] = Fo_i_SpreadOfJoins_c1 c0 c1 c2 c3 := by
  kernel_rfl
def i_SpreadOfJoins_c1 (c0 : Int) (c1 : Int × Int × Int) (c2 : Int × Int × Int) (c3 : Int × Int × Int) : Bool :=
  (i_arePlaces c0 [c1, c2, c3])
theorem tot_i_SpreadOfJoins_c1 (c0 : Int) (c1 : Int × Int × Int) (c2 : Int × Int × Int) (c3 : Int × Int × Int) : Fo_i_SpreadOfJoins_c1 c0 c1 c2 c3 = some (i_SpreadOfJoins_c1 c0 c1 c2 c3) := by
  unfold Fo_i_SpreadOfJoins_c1 i_SpreadOfJoins_c1
  (try simp only [wI_eq])
  repeat' (first | with_reducible rfl | refine ite_opt (fun _ => ?_) (fun _ => ?_) | rfl)
def run_i_SpreadOfJoins_c1 : List PV → Option (Bool × List TR)
  | [.p [.int .i64 c0], .p [.int .i64 c10, .int .i64 c11, .int .i64 c12], .p [.int .i64 c20, .int .i64 c21, .int .i64 c22], .p [.int .i64 c30, .int .i64 c31, .int .i64 c32]] => some (true, enc_b (i_SpreadOfJoins_c1 c0 (c10, c11, c12) (c20, c21, c22) (c30, c31, c32)))
  | _ => none
theorem sound_i_SpreadOfJoins_c1 : Sound Try.prog 89 run_i_SpreadOfJoins_c1 := by
  refine sound_of de_b SO_i_SpreadOfJoins_c1 (by kernel_rfl) Try.func89 Try.ntmps89 rfl (by kernel_rfl) ?_
  intro W pvs avs rs hargs hrun
  unfold run_i_SpreadOfJoins_c1 at hrun
  split at hrun
  · simp only [Option.some.injEq, Prod.mk.injEq] at hrun
    obtain ⟨hp, rfl⟩ := hrun
    rename_i c0 c10 c11 c12 c20 c21 c22 c30 c31 c32
    exact ⟨_, _, _, hargs, rfl, (eq_i_SpreadOfJoins_c1 c0 (c10, c11, c12) (c20, c21, c22) (c30, c31, c32)).trans (tot_i_SpreadOfJoins_c1 c0 (c10, c11, c12) (c20, c21, c22) (c30, c31, c32))⟩
  · cases hrun

def S_i_isNullPlace : Sums := tblS [(67, run_i_placeProduct)]
theorem SO_i_isNullPlace : SumsOK Try.prog S_i_isNullPlace := tblS_ok ⟨⟨Try.call67, sound_i_placeProduct⟩, True.intro⟩
def Fo_i_isNullPlace (p : Int) (a : Int × Int × Int) : Option (Bool) :=
  (if (prB p) = true then some ((i_placeProduct p a a) == 0) else none)
theorem eq_i_isNullPlace (p : Int) (a : Int × Int × Int) : execT Try.prog S_i_isNullPlace 63 10 1000000 dec_b [.v (.int .i64 p), .v (.agg ⟨[.int .i64 a.1, .int .i64 a.2.1, .int .i64 a.2.2]⟩)] = Fo_i_isNullPlace p a := by
  kernel_rfl
def i_isNullPlace (p : Int) (a : Int × Int × Int) : Bool :=
  (i_placeProduct p a a) == 0
theorem tot_i_isNullPlace (p : Int) (a : Int × Int × Int) (hp : (prB p) = true) : Fo_i_isNullPlace p a = some (i_isNullPlace p a) := by
  have h0 := prB_ne hp
  unfold Fo_i_isNullPlace i_isNullPlace
  (try simp only [wI_eq])
  repeat' (first | with_reducible rfl | with_reducible refine chk_opt hp ?_ | with_reducible refine chk_opt h0 ?_ | refine ite_opt (fun _ => ?_) (fun _ => ?_) | rfl)
def run_i_isNullPlace : List PV → Option (Bool × List TR)
  | [.v (.int .i64 p), .v (.agg ⟨[.int .i64 a0, .int .i64 a1, .int .i64 a2]⟩)] => some (prB p, enc_b (i_isNullPlace p (a0, a1, a2)))
  | _ => none
theorem sound_i_isNullPlace : Sound Try.prog 63 run_i_isNullPlace := by
  refine sound_of de_b SO_i_isNullPlace (by kernel_rfl) Try.func63 Try.ntmps63 rfl (by kernel_rfl) ?_
  intro W pvs avs rs hargs hrun
  unfold run_i_isNullPlace at hrun
  split at hrun
  · simp only [Option.some.injEq, Prod.mk.injEq] at hrun
    obtain ⟨hp, rfl⟩ := hrun
    rename_i p a0 a1 a2
    exact ⟨_, _, _, hargs, rfl, (eq_i_isNullPlace p (a0, a1, a2)).trans (tot_i_isNullPlace p (a0, a1, a2) hp)⟩
  · cases hrun

def S_i_SpreadOfJoins : Sums := tblS [(60, run_i_asked), (89, run_i_SpreadOfJoins_c1), (87, run_i_join), (63, run_i_isNullPlace), (82, run_i_placeQuadrance)]
theorem SO_i_SpreadOfJoins : SumsOK Try.prog S_i_SpreadOfJoins := tblS_ok ⟨⟨Try.call60, sound_i_asked⟩, ⟨Try.call89, sound_i_SpreadOfJoins_c1⟩, ⟨Try.call87, sound_i_join⟩, ⟨Try.call63, sound_i_isNullPlace⟩, ⟨Try.call82, sound_i_placeQuadrance⟩, True.intro⟩
def Fo_i_SpreadOfJoins (p : Int) (a : Int × Int × Int) (b : Int × Int × Int) (c : Int × Int × Int) : Option (Int × Int) :=
  (if ((true) || !(i_IsField p)) = true then (if ((i_asked p (true) (i_SpreadOfJoins_c1 p a b c)) != 0) = true then some (0, (i_asked p (true) (i_SpreadOfJoins_c1 p a b c))) else (if (a == b) = true then some (0, 5) else (if (a == c) = true then some (0, 5) else (if (prB p) = true then (if (prB p) = true then (if (prB p) = true then (if (i_isNullPlace p (i_join p a b)) = true then some (0, 5) else (if (prB p) = true then (if (i_isNullPlace p (i_join p a c)) = true then some (0, 5) else (if (prB p) = true then some ((i_placeQuadrance p (i_join p a b) (i_join p a c)), 0) else none)) else none)) else none) else none) else none)))) else none)
theorem eq_i_SpreadOfJoins (p : Int) (a : Int × Int × Int) (b : Int × Int × Int) (c : Int × Int × Int) : execT Try.prog S_i_SpreadOfJoins 45 47 1000000 dec_i_i [.v (.int .i64 p), .v (.agg ⟨[.int .i64 a.1, .int .i64 a.2.1, .int .i64 a.2.2]⟩), .v (.agg ⟨[.int .i64 b.1, .int .i64 b.2.1, .int .i64 b.2.2]⟩), .v (.agg ⟨[.int .i64 c.1, .int .i64 c.2.1, .int .i64 c.2.2]⟩)] = Fo_i_SpreadOfJoins p a b c := by
  kernel_rfl
def i_SpreadOfJoins (p : Int) (a : Int × Int × Int) (b : Int × Int × Int) (c : Int × Int × Int) : Int × Int :=
  (if ((i_asked p (true) (i_SpreadOfJoins_c1 p a b c)) != 0) = true then (0, (i_asked p (true) (i_SpreadOfJoins_c1 p a b c))) else (if (a == b) = true then (0, 5) else (if (a == c) = true then (0, 5) else (if (i_isNullPlace p (i_join p a b)) = true then (0, 5) else (if (i_isNullPlace p (i_join p a c)) = true then (0, 5) else ((i_placeQuadrance p (i_join p a b) (i_join p a c)), 0))))))
theorem tot_i_SpreadOfJoins (p : Int) (a : Int × Int × Int) (b : Int × Int × Int) (c : Int × Int × Int) : Fo_i_SpreadOfJoins p a b c = some (i_SpreadOfJoins p a b c) := by
  unfold Fo_i_SpreadOfJoins i_SpreadOfJoins
  (try simp only [wI_eq])
  repeat' (first | with_reducible rfl | refine chk_opt (by first | with_reducible rfl | exact Bool.true_or _ | (with_reducible exact asked_prB ‹_›) | (with_reducible exact l09Code_prB ‹_›)) ?_ | refine ite_opt (fun _ => ?_) (fun _ => ?_) | rfl)
def run_i_SpreadOfJoins : List PV → Option (Bool × List TR)
  | [.v (.int .i64 p), .v (.agg ⟨[.int .i64 a0, .int .i64 a1, .int .i64 a2]⟩), .v (.agg ⟨[.int .i64 b0, .int .i64 b1, .int .i64 b2]⟩), .v (.agg ⟨[.int .i64 c0, .int .i64 c1, .int .i64 c2]⟩)] => some (true, enc_i_i (i_SpreadOfJoins p (a0, a1, a2) (b0, b1, b2) (c0, c1, c2)))
  | _ => none
theorem sound_i_SpreadOfJoins : Sound Try.prog 45 run_i_SpreadOfJoins := by
  refine sound_of de_i_i SO_i_SpreadOfJoins (by kernel_rfl) Try.func45 Try.ntmps45 rfl (by kernel_rfl) ?_
  intro W pvs avs rs hargs hrun
  unfold run_i_SpreadOfJoins at hrun
  split at hrun
  · simp only [Option.some.injEq, Prod.mk.injEq] at hrun
    obtain ⟨hp, rfl⟩ := hrun
    rename_i p a0 a1 a2 b0 b1 b2 c0 c1 c2
    exact ⟨_, _, _, hargs, rfl, (eq_i_SpreadOfJoins p (a0, a1, a2) (b0, b1, b2) (c0, c1, c2)).trans (tot_i_SpreadOfJoins p (a0, a1, a2) (b0, b1, b2) (c0, c1, c2))⟩
  · cases hrun

def S_l_FnExactSpreadOfJoins : Sums := tblS [(19, run_l_toPlace), (44, run_s_SpreadOfJoins), (45, run_i_SpreadOfJoins)]
theorem SO_l_FnExactSpreadOfJoins : SumsOK Try.prog S_l_FnExactSpreadOfJoins := tblS_ok ⟨⟨Try.call19, sound_l_toPlace⟩, ⟨Try.call44, sound_s_SpreadOfJoins⟩, ⟨Try.call45, sound_i_SpreadOfJoins⟩, True.intro⟩
def Fo_l_FnExactSpreadOfJoins (aP : Int) (aA : Int × Int × Int) (aB : Int × Int × Int) (aC : Int × Int × Int) : Option (Bool) :=
  (if (((i_SpreadOfJoins aP (l_toPlace aA) (l_toPlace aB) (l_toPlace aC)).1) != ((s_SpreadOfJoins aP (l_toPlace aA) (l_toPlace aB) (l_toPlace aC)).1)) = true then some false else (if (((i_SpreadOfJoins aP (l_toPlace aA) (l_toPlace aB) (l_toPlace aC)).2) != ((s_SpreadOfJoins aP (l_toPlace aA) (l_toPlace aB) (l_toPlace aC)).2)) = true then some false else some true))
theorem eq_l_FnExactSpreadOfJoins (aP : Int) (aA : Int × Int × Int) (aB : Int × Int × Int) (aC : Int × Int × Int) : execT Try.prog S_l_FnExactSpreadOfJoins 12 43 1000000 dec_b [.v (.int .i64 aP), .v (.agg ⟨[.int .i64 aA.1, .int .i64 aA.2.1, .int .i64 aA.2.2]⟩), .v (.agg ⟨[.int .i64 aB.1, .int .i64 aB.2.1, .int .i64 aB.2.2]⟩), .v (.agg ⟨[.int .i64 aC.1, .int .i64 aC.2.1, .int .i64 aC.2.2]⟩)] = Fo_l_FnExactSpreadOfJoins aP aA aB aC := by
  kernel_rfl
def l_FnExactSpreadOfJoins (aP : Int) (aA : Int × Int × Int) (aB : Int × Int × Int) (aC : Int × Int × Int) : Bool :=
  (if (((i_SpreadOfJoins aP (l_toPlace aA) (l_toPlace aB) (l_toPlace aC)).1) != ((s_SpreadOfJoins aP (l_toPlace aA) (l_toPlace aB) (l_toPlace aC)).1)) = true then false else (if (((i_SpreadOfJoins aP (l_toPlace aA) (l_toPlace aB) (l_toPlace aC)).2) != ((s_SpreadOfJoins aP (l_toPlace aA) (l_toPlace aB) (l_toPlace aC)).2)) = true then false else true))
theorem tot_l_FnExactSpreadOfJoins (aP : Int) (aA : Int × Int × Int) (aB : Int × Int × Int) (aC : Int × Int × Int) : Fo_l_FnExactSpreadOfJoins aP aA aB aC = some (l_FnExactSpreadOfJoins aP aA aB aC) := by
  unfold Fo_l_FnExactSpreadOfJoins l_FnExactSpreadOfJoins
  (try simp only [wI_eq])
  repeat' (first | with_reducible rfl | refine ite_opt (fun _ => ?_) (fun _ => ?_) | rfl)
def run_l_FnExactSpreadOfJoins : List PV → Option (Bool × List TR)
  | [.v (.int .i64 aP), .v (.agg ⟨[.int .i64 aA0, .int .i64 aA1, .int .i64 aA2]⟩), .v (.agg ⟨[.int .i64 aB0, .int .i64 aB1, .int .i64 aB2]⟩), .v (.agg ⟨[.int .i64 aC0, .int .i64 aC1, .int .i64 aC2]⟩)] => some (true, enc_b (l_FnExactSpreadOfJoins aP (aA0, aA1, aA2) (aB0, aB1, aB2) (aC0, aC1, aC2)))
  | _ => none
theorem sound_l_FnExactSpreadOfJoins : Sound Try.prog 12 run_l_FnExactSpreadOfJoins := by
  refine sound_of de_b SO_l_FnExactSpreadOfJoins (by kernel_rfl) Try.func12 Try.ntmps12 rfl (by kernel_rfl) ?_
  intro W pvs avs rs hargs hrun
  unfold run_l_FnExactSpreadOfJoins at hrun
  split at hrun
  · simp only [Option.some.injEq, Prod.mk.injEq] at hrun
    obtain ⟨hp, rfl⟩ := hrun
    rename_i aP aA0 aA1 aA2 aB0 aB1 aB2 aC0 aC1 aC2
    exact ⟨_, _, _, hargs, rfl, (eq_l_FnExactSpreadOfJoins aP (aA0, aA1, aA2) (aB0, aB1, aB2) (aC0, aC1, aC2)).trans (tot_l_FnExactSpreadOfJoins aP (aA0, aA1, aA2) (aB0, aB1, aB2) (aC0, aC1, aC2))⟩
  · cases hrun


end Go.Proofs.Ytcechmaoihckgaa
