import Derived.Test.YtnijajjdldijpaaFa
import Derived.Test.YtnijajjdldijpaaProg
set_option linter.unusedSimpArgs false
set_option linter.unusedVariables false
namespace Go.Proofs.Ytnijajjdldijpaa
open Go.RowKit
noncomputable section
def S_s_JoinOf : Sums := ⟨tblS [(50, run_s_l09Code), (51, run_s_l09Join)], tblM []⟩
theorem SO_s_JoinOf : SumsOK Try.prog S_s_JoinOf := ⟨tblS_ok ⟨⟨Try.call50, sound_s_l09Code⟩, ⟨Try.call51, sound_s_l09Join⟩, True.intro⟩, tblM_ok True.intro⟩
def Fo_s_JoinOf (p : Int) (a : Int × Int × Int) (b : Int × Int × Int) : Option ((Int × Int × Int) × Int) :=
  (if ((s_l09Code p [a, b]) != 0) = true then some ((0, 0, 0), (s_l09Code p [a, b])) else (if (a == b) = true then some ((0, 0, 0), 5) else (if (prB p) = true then some ((s_l09Join p a b), 0) else none)))
theorem eq_s_JoinOf (p : Int) (a : Int × Int × Int) (b : Int × Int × Int) : execT Try.prog S_s_JoinOf 8 26 (fun _ => 1000000) dec_a3_i [.v (.int .i64 p), .v (.agg ⟨[.int .i64 a.1, .int .i64 a.2.1, .int .i64 a.2.2]⟩), .v (.agg ⟨[.int .i64 b.1, .int .i64 b.2.1, .int .i64 b.2.2]⟩)] = Fo_s_JoinOf p a b := by
  kernel_rfl
def s_JoinOf (p : Int) (a : Int × Int × Int) (b : Int × Int × Int) : (Int × Int × Int) × Int :=
  (if ((s_l09Code p [a, b]) != 0) = true then ((0, 0, 0), (s_l09Code p [a, b])) else (if (a == b) = true then ((0, 0, 0), 5) else ((s_l09Join p a b), 0)))
theorem tot_s_JoinOf (p : Int) (a : Int × Int × Int) (b : Int × Int × Int) : Fo_s_JoinOf p a b = some (s_JoinOf p a b) := by
  unfold Fo_s_JoinOf s_JoinOf
  (try simp only [wI_eq])
  repeat' (first | with_reducible rfl | refine chk_opt (by first | with_reducible rfl | exact Bool.true_or _ | (with_reducible exact l09Code_prB ‹_›) | (with_reducible exact l09Code_prB0 ‹_›) | exact mk_ok (by (first | (with_reducible assumption) | (with_reducible exact l09Code_prB ‹_›) | (with_reducible exact l09Code_prB0 ‹_›))) | exact and_all (by (first | (with_reducible assumption) | (with_reducible exact l09Code_prB ‹_›) | (with_reducible exact l09Code_prB0 ‹_›))) (fun _ => rfl) | exact and_all (by (first | (with_reducible assumption) | (with_reducible exact l09Code_prB ‹_›) | (with_reducible exact l09Code_prB0 ‹_›))) (fun _ => by (first | (with_reducible assumption) | (with_reducible exact l09Code_prB ‹_›) | (with_reducible exact l09Code_prB0 ‹_›))) | exact and3 (by (first | (with_reducible assumption) | (with_reducible exact l09Code_prB ‹_›) | (with_reducible exact l09Code_prB0 ‹_›))) (by (first | (with_reducible assumption) | (with_reducible exact l09Code_prB ‹_›) | (with_reducible exact l09Code_prB0 ‹_›))) (by (first | (with_reducible assumption) | (with_reducible exact l09Code_prB ‹_›) | (with_reducible exact l09Code_prB0 ‹_›))) | exact and_two (by (first | (with_reducible assumption) | (with_reducible exact l09Code_prB ‹_›) | (with_reducible exact l09Code_prB0 ‹_›))) rfl | rfl) ?_ | refine ite_opt (fun _ => ?_) (fun _ => ?_) | rfl)
def run_s_JoinOf : List PV → Option (Bool × List TR)
  | [.v (.int .i64 p), .v (.agg ⟨[.int .i64 a0, .int .i64 a1, .int .i64 a2]⟩), .v (.agg ⟨[.int .i64 b0, .int .i64 b1, .int .i64 b2]⟩)] => some (true, enc_a3_i (s_JoinOf p (a0, a1, a2) (b0, b1, b2)))
  | _ => none
theorem sound_s_JoinOf : Sound Try.prog 8 run_s_JoinOf := by
  refine sound_of de_a3_i SO_s_JoinOf (by kernel_rfl) Try.func8 Try.ntmps8 rfl (by kernel_rfl) ?_
  intro W pvs avs rs hargs hrun
  unfold run_s_JoinOf at hrun
  split at hrun
  · simp only [Option.some.injEq, Prod.mk.injEq] at hrun
    obtain ⟨hp, rfl⟩ := hrun
    rename_i p a0 a1 a2 b0 b1 b2
    exact ⟨_, _, _, hargs, rfl, (eq_s_JoinOf p (a0, a1, a2) (b0, b1, b2)).trans (tot_s_JoinOf p (a0, a1, a2) (b0, b1, b2))⟩
  · cases hrun

def S_i_JoinOf_c1 : Sums := ⟨tblS [(48, run_i_arePlaces)], tblM []⟩
theorem SO_i_JoinOf_c1 : SumsOK Try.prog S_i_JoinOf_c1 := ⟨tblS_ok ⟨⟨Try.call48, sound_i_arePlaces⟩, True.intro⟩, tblM_ok True.intro⟩
def Fo_i_JoinOf_c1 (c0 : Int) (c1 : Int × Int × Int) (c2 : Int × Int × Int) : Option (Bool) :=
  some (i_arePlaces c0 [c1, c2])
theorem eq_i_JoinOf_c1 (c0 : Int) (c1 : Int × Int × Int) (c2 : Int × Int × Int) : execT Try.prog S_i_JoinOf_c1 47 9 (fun _ => 1000000) dec_b [.p [.int .i64 c0], .p [.int .i64 c1.1, .int .i64 c1.2.1, .int .i64 c1.2.2], .p [.int .i64 c2.1, .int .i64 c2.2.1, .int .i64 c2.2.2]] = Fo_i_JoinOf_c1 c0 c1 c2 := by
  kernel_rfl
def i_JoinOf_c1 (c0 : Int) (c1 : Int × Int × Int) (c2 : Int × Int × Int) : Bool :=
  (i_arePlaces c0 [c1, c2])
theorem tot_i_JoinOf_c1 (c0 : Int) (c1 : Int × Int × Int) (c2 : Int × Int × Int) : Fo_i_JoinOf_c1 c0 c1 c2 = some (i_JoinOf_c1 c0 c1 c2) := by
  unfold Fo_i_JoinOf_c1 i_JoinOf_c1
  (try simp only [wI_eq])
  repeat' (first | with_reducible rfl | refine ite_opt (fun _ => ?_) (fun _ => ?_) | rfl)
def run_i_JoinOf_c1 : List PV → Option (Bool × List TR)
  | [.p [.int .i64 c0], .p [.int .i64 c10, .int .i64 c11, .int .i64 c12], .p [.int .i64 c20, .int .i64 c21, .int .i64 c22]] => some (true, enc_b (i_JoinOf_c1 c0 (c10, c11, c12) (c20, c21, c22)))
  | _ => none
theorem sound_i_JoinOf_c1 : Sound Try.prog 47 run_i_JoinOf_c1 := by
  refine sound_of de_b SO_i_JoinOf_c1 (by kernel_rfl) Try.func47 Try.ntmps47 rfl (by kernel_rfl) ?_
  intro W pvs avs rs hargs hrun
  unfold run_i_JoinOf_c1 at hrun
  split at hrun
  · simp only [Option.some.injEq, Prod.mk.injEq] at hrun
    obtain ⟨hp, rfl⟩ := hrun
    rename_i c0 c10 c11 c12 c20 c21 c22
    exact ⟨_, _, _, hargs, rfl, (eq_i_JoinOf_c1 c0 (c10, c11, c12) (c20, c21, c22)).trans (tot_i_JoinOf_c1 c0 (c10, c11, c12) (c20, c21, c22))⟩
  · cases hrun

def S_i_JoinOf : Sums := ⟨tblS [(46, run_i_asked), (47, run_i_JoinOf_c1), (49, run_i_join)], tblM []⟩
theorem SO_i_JoinOf : SumsOK Try.prog S_i_JoinOf := ⟨tblS_ok ⟨⟨Try.call46, sound_i_asked⟩, ⟨Try.call47, sound_i_JoinOf_c1⟩, ⟨Try.call49, sound_i_join⟩, True.intro⟩, tblM_ok True.intro⟩
def Fo_i_JoinOf (p : Int) (a : Int × Int × Int) (b : Int × Int × Int) : Option ((Int × Int × Int) × Int) :=
  (if ((true) || !(i_IsField p)) = true then (if ((i_asked p (true) (i_JoinOf_c1 p a b)) != 0) = true then some ((0, 0, 0), (i_asked p (true) (i_JoinOf_c1 p a b))) else (if (a == b) = true then some ((0, 0, 0), 5) else (if (prB p) = true then some ((i_join p a b), 0) else none))) else none)
theorem eq_i_JoinOf (p : Int) (a : Int × Int × Int) (b : Int × Int × Int) : execT Try.prog S_i_JoinOf 7 24 (fun _ => 1000000) dec_a3_i [.v (.int .i64 p), .v (.agg ⟨[.int .i64 a.1, .int .i64 a.2.1, .int .i64 a.2.2]⟩), .v (.agg ⟨[.int .i64 b.1, .int .i64 b.2.1, .int .i64 b.2.2]⟩)] = Fo_i_JoinOf p a b := by
  kernel_rfl
def i_JoinOf (p : Int) (a : Int × Int × Int) (b : Int × Int × Int) : (Int × Int × Int) × Int :=
  (if ((i_asked p (true) (i_JoinOf_c1 p a b)) != 0) = true then ((0, 0, 0), (i_asked p (true) (i_JoinOf_c1 p a b))) else (if (a == b) = true then ((0, 0, 0), 5) else ((i_join p a b), 0)))
theorem tot_i_JoinOf (p : Int) (a : Int × Int × Int) (b : Int × Int × Int) : Fo_i_JoinOf p a b = some (i_JoinOf p a b) := by
  unfold Fo_i_JoinOf i_JoinOf
  (try simp only [wI_eq])
  repeat' (first | with_reducible rfl | refine chk_opt (by first | with_reducible rfl | exact Bool.true_or _ | (with_reducible exact asked_prB ‹_›) | (with_reducible exact asked_prB0 ‹_›) | exact mk_ok (by (first | (with_reducible assumption) | (with_reducible exact asked_prB ‹_›) | (with_reducible exact asked_prB0 ‹_›))) | exact and_all (by (first | (with_reducible assumption) | (with_reducible exact asked_prB ‹_›) | (with_reducible exact asked_prB0 ‹_›))) (fun _ => rfl) | exact and_all (by (first | (with_reducible assumption) | (with_reducible exact asked_prB ‹_›) | (with_reducible exact asked_prB0 ‹_›))) (fun _ => by (first | (with_reducible assumption) | (with_reducible exact asked_prB ‹_›) | (with_reducible exact asked_prB0 ‹_›))) | exact and3 (by (first | (with_reducible assumption) | (with_reducible exact asked_prB ‹_›) | (with_reducible exact asked_prB0 ‹_›))) (by (first | (with_reducible assumption) | (with_reducible exact asked_prB ‹_›) | (with_reducible exact asked_prB0 ‹_›))) (by (first | (with_reducible assumption) | (with_reducible exact asked_prB ‹_›) | (with_reducible exact asked_prB0 ‹_›))) | exact and_two (by (first | (with_reducible assumption) | (with_reducible exact asked_prB ‹_›) | (with_reducible exact asked_prB0 ‹_›))) rfl | rfl) ?_ | refine ite_opt (fun _ => ?_) (fun _ => ?_) | rfl)
def run_i_JoinOf : List PV → Option (Bool × List TR)
  | [.v (.int .i64 p), .v (.agg ⟨[.int .i64 a0, .int .i64 a1, .int .i64 a2]⟩), .v (.agg ⟨[.int .i64 b0, .int .i64 b1, .int .i64 b2]⟩)] => some (true, enc_a3_i (i_JoinOf p (a0, a1, a2) (b0, b1, b2)))
  | _ => none
theorem sound_i_JoinOf : Sound Try.prog 7 run_i_JoinOf := by
  refine sound_of de_a3_i SO_i_JoinOf (by kernel_rfl) Try.func7 Try.ntmps7 rfl (by kernel_rfl) ?_
  intro W pvs avs rs hargs hrun
  unfold run_i_JoinOf at hrun
  split at hrun
  · simp only [Option.some.injEq, Prod.mk.injEq] at hrun
    obtain ⟨hp, rfl⟩ := hrun
    rename_i p a0 a1 a2 b0 b1 b2
    exact ⟨_, _, _, hargs, rfl, (eq_i_JoinOf p (a0, a1, a2) (b0, b1, b2)).trans (tot_i_JoinOf p (a0, a1, a2) (b0, b1, b2))⟩
  · cases hrun

def S_i_PlaceProduct_c1 : Sums := ⟨tblS [(48, run_i_arePlaces)], tblM []⟩
theorem SO_i_PlaceProduct_c1 : SumsOK Try.prog S_i_PlaceProduct_c1 := ⟨tblS_ok ⟨⟨Try.call48, sound_i_arePlaces⟩, True.intro⟩, tblM_ok True.intro⟩
def Fo_i_PlaceProduct_c1 (c0 : Int) (c1 : Int × Int × Int) (c2 : Int × Int × Int) : Option (Bool) :=
  some (i_arePlaces c0 [c1, c2])
theorem eq_i_PlaceProduct_c1 (c0 : Int) (c1 : Int × Int × Int) (c2 : Int × Int × Int) : execT Try.prog S_i_PlaceProduct_c1 52 9 (fun _ => 1000000) dec_b [.p [.int .i64 c0], .p [.int .i64 c1.1, .int .i64 c1.2.1, .int .i64 c1.2.2], .p [.int .i64 c2.1, .int .i64 c2.2.1, .int .i64 c2.2.2]] = Fo_i_PlaceProduct_c1 c0 c1 c2 := by
  kernel_rfl
def i_PlaceProduct_c1 (c0 : Int) (c1 : Int × Int × Int) (c2 : Int × Int × Int) : Bool :=
  (i_arePlaces c0 [c1, c2])
theorem tot_i_PlaceProduct_c1 (c0 : Int) (c1 : Int × Int × Int) (c2 : Int × Int × Int) : Fo_i_PlaceProduct_c1 c0 c1 c2 = some (i_PlaceProduct_c1 c0 c1 c2) := by
  unfold Fo_i_PlaceProduct_c1 i_PlaceProduct_c1
  (try simp only [wI_eq])
  repeat' (first | with_reducible rfl | refine ite_opt (fun _ => ?_) (fun _ => ?_) | rfl)
def run_i_PlaceProduct_c1 : List PV → Option (Bool × List TR)
  | [.p [.int .i64 c0], .p [.int .i64 c10, .int .i64 c11, .int .i64 c12], .p [.int .i64 c20, .int .i64 c21, .int .i64 c22]] => some (true, enc_b (i_PlaceProduct_c1 c0 (c10, c11, c12) (c20, c21, c22)))
  | _ => none
theorem sound_i_PlaceProduct_c1 : Sound Try.prog 52 run_i_PlaceProduct_c1 := by
  refine sound_of de_b SO_i_PlaceProduct_c1 (by kernel_rfl) Try.func52 Try.ntmps52 rfl (by kernel_rfl) ?_
  intro W pvs avs rs hargs hrun
  unfold run_i_PlaceProduct_c1 at hrun
  split at hrun
  · simp only [Option.some.injEq, Prod.mk.injEq] at hrun
    obtain ⟨hp, rfl⟩ := hrun
    rename_i c0 c10 c11 c12 c20 c21 c22
    exact ⟨_, _, _, hargs, rfl, (eq_i_PlaceProduct_c1 c0 (c10, c11, c12) (c20, c21, c22)).trans (tot_i_PlaceProduct_c1 c0 (c10, c11, c12) (c20, c21, c22))⟩
  · cases hrun

def S_i_PlaceProduct : Sums := ⟨tblS [(46, run_i_asked), (52, run_i_PlaceProduct_c1), (53, run_i_placeProduct)], tblM []⟩
theorem SO_i_PlaceProduct : SumsOK Try.prog S_i_PlaceProduct := ⟨tblS_ok ⟨⟨Try.call46, sound_i_asked⟩, ⟨Try.call52, sound_i_PlaceProduct_c1⟩, ⟨Try.call53, sound_i_placeProduct⟩, True.intro⟩, tblM_ok True.intro⟩
def Fo_i_PlaceProduct (p : Int) (a : Int × Int × Int) (b : Int × Int × Int) : Option (Int × Int) :=
  (if ((true) || !(i_IsField p)) = true then (if ((i_asked p (true) (i_PlaceProduct_c1 p a b)) != 0) = true then some (0, (i_asked p (true) (i_PlaceProduct_c1 p a b))) else (if (prB p) = true then some ((i_placeProduct p a b), 0) else none)) else none)
theorem eq_i_PlaceProduct (p : Int) (a : Int × Int × Int) (b : Int × Int × Int) : execT Try.prog S_i_PlaceProduct 9 19 (fun _ => 1000000) dec_i_i [.v (.int .i64 p), .v (.agg ⟨[.int .i64 a.1, .int .i64 a.2.1, .int .i64 a.2.2]⟩), .v (.agg ⟨[.int .i64 b.1, .int .i64 b.2.1, .int .i64 b.2.2]⟩)] = Fo_i_PlaceProduct p a b := by
  kernel_rfl
def i_PlaceProduct (p : Int) (a : Int × Int × Int) (b : Int × Int × Int) : Int × Int :=
  (if ((i_asked p (true) (i_PlaceProduct_c1 p a b)) != 0) = true then (0, (i_asked p (true) (i_PlaceProduct_c1 p a b))) else ((i_placeProduct p a b), 0))
theorem tot_i_PlaceProduct (p : Int) (a : Int × Int × Int) (b : Int × Int × Int) : Fo_i_PlaceProduct p a b = some (i_PlaceProduct p a b) := by
  unfold Fo_i_PlaceProduct i_PlaceProduct
  (try simp only [wI_eq])
  repeat' (first | with_reducible rfl | refine chk_opt (by first | with_reducible rfl | exact Bool.true_or _ | (with_reducible exact asked_prB ‹_›) | (with_reducible exact asked_prB0 ‹_›) | exact mk_ok (by (first | (with_reducible assumption) | (with_reducible exact asked_prB ‹_›) | (with_reducible exact asked_prB0 ‹_›))) | exact and_all (by (first | (with_reducible assumption) | (with_reducible exact asked_prB ‹_›) | (with_reducible exact asked_prB0 ‹_›))) (fun _ => rfl) | exact and_all (by (first | (with_reducible assumption) | (with_reducible exact asked_prB ‹_›) | (with_reducible exact asked_prB0 ‹_›))) (fun _ => by (first | (with_reducible assumption) | (with_reducible exact asked_prB ‹_›) | (with_reducible exact asked_prB0 ‹_›))) | exact and3 (by (first | (with_reducible assumption) | (with_reducible exact asked_prB ‹_›) | (with_reducible exact asked_prB0 ‹_›))) (by (first | (with_reducible assumption) | (with_reducible exact asked_prB ‹_›) | (with_reducible exact asked_prB0 ‹_›))) (by (first | (with_reducible assumption) | (with_reducible exact asked_prB ‹_›) | (with_reducible exact asked_prB0 ‹_›))) | exact and_two (by (first | (with_reducible assumption) | (with_reducible exact asked_prB ‹_›) | (with_reducible exact asked_prB0 ‹_›))) rfl | rfl) ?_ | refine ite_opt (fun _ => ?_) (fun _ => ?_) | rfl)
def run_i_PlaceProduct : List PV → Option (Bool × List TR)
  | [.v (.int .i64 p), .v (.agg ⟨[.int .i64 a0, .int .i64 a1, .int .i64 a2]⟩), .v (.agg ⟨[.int .i64 b0, .int .i64 b1, .int .i64 b2]⟩)] => some (true, enc_i_i (i_PlaceProduct p (a0, a1, a2) (b0, b1, b2)))
  | _ => none
theorem sound_i_PlaceProduct : Sound Try.prog 9 run_i_PlaceProduct := by
  refine sound_of de_i_i SO_i_PlaceProduct (by kernel_rfl) Try.func9 Try.ntmps9 rfl (by kernel_rfl) ?_
  intro W pvs avs rs hargs hrun
  unfold run_i_PlaceProduct at hrun
  split at hrun
  · simp only [Option.some.injEq, Prod.mk.injEq] at hrun
    obtain ⟨hp, rfl⟩ := hrun
    rename_i p a0 a1 a2 b0 b1 b2
    exact ⟨_, _, _, hargs, rfl, (eq_i_PlaceProduct p (a0, a1, a2) (b0, b1, b2)).trans (tot_i_PlaceProduct p (a0, a1, a2) (b0, b1, b2))⟩
  · cases hrun

def S_s_PlaceProduct : Sums := ⟨tblS [(50, run_s_l09Code), (54, run_s_l09Product)], tblM []⟩
theorem SO_s_PlaceProduct : SumsOK Try.prog S_s_PlaceProduct := ⟨tblS_ok ⟨⟨Try.call50, sound_s_l09Code⟩, ⟨Try.call54, sound_s_l09Product⟩, True.intro⟩, tblM_ok True.intro⟩
def Fo_s_PlaceProduct (p : Int) (a : Int × Int × Int) (b : Int × Int × Int) : Option (Int × Int) :=
  (if ((s_l09Code p [a, b]) != 0) = true then some (0, (s_l09Code p [a, b])) else (if (prB p) = true then some ((s_l09Product p a b), 0) else none))
theorem eq_s_PlaceProduct (p : Int) (a : Int × Int × Int) (b : Int × Int × Int) : execT Try.prog S_s_PlaceProduct 10 21 (fun _ => 1000000) dec_i_i [.v (.int .i64 p), .v (.agg ⟨[.int .i64 a.1, .int .i64 a.2.1, .int .i64 a.2.2]⟩), .v (.agg ⟨[.int .i64 b.1, .int .i64 b.2.1, .int .i64 b.2.2]⟩)] = Fo_s_PlaceProduct p a b := by
  kernel_rfl
def s_PlaceProduct (p : Int) (a : Int × Int × Int) (b : Int × Int × Int) : Int × Int :=
  (if ((s_l09Code p [a, b]) != 0) = true then (0, (s_l09Code p [a, b])) else ((s_l09Product p a b), 0))
theorem tot_s_PlaceProduct (p : Int) (a : Int × Int × Int) (b : Int × Int × Int) : Fo_s_PlaceProduct p a b = some (s_PlaceProduct p a b) := by
  unfold Fo_s_PlaceProduct s_PlaceProduct
  (try simp only [wI_eq])
  repeat' (first | with_reducible rfl | refine chk_opt (by first | with_reducible rfl | exact Bool.true_or _ | (with_reducible exact l09Code_prB ‹_›) | (with_reducible exact l09Code_prB0 ‹_›) | exact mk_ok (by (first | (with_reducible assumption) | (with_reducible exact l09Code_prB ‹_›) | (with_reducible exact l09Code_prB0 ‹_›))) | exact and_all (by (first | (with_reducible assumption) | (with_reducible exact l09Code_prB ‹_›) | (with_reducible exact l09Code_prB0 ‹_›))) (fun _ => rfl) | exact and_all (by (first | (with_reducible assumption) | (with_reducible exact l09Code_prB ‹_›) | (with_reducible exact l09Code_prB0 ‹_›))) (fun _ => by (first | (with_reducible assumption) | (with_reducible exact l09Code_prB ‹_›) | (with_reducible exact l09Code_prB0 ‹_›))) | exact and3 (by (first | (with_reducible assumption) | (with_reducible exact l09Code_prB ‹_›) | (with_reducible exact l09Code_prB0 ‹_›))) (by (first | (with_reducible assumption) | (with_reducible exact l09Code_prB ‹_›) | (with_reducible exact l09Code_prB0 ‹_›))) (by (first | (with_reducible assumption) | (with_reducible exact l09Code_prB ‹_›) | (with_reducible exact l09Code_prB0 ‹_›))) | exact and_two (by (first | (with_reducible assumption) | (with_reducible exact l09Code_prB ‹_›) | (with_reducible exact l09Code_prB0 ‹_›))) rfl | rfl) ?_ | refine ite_opt (fun _ => ?_) (fun _ => ?_) | rfl)
def run_s_PlaceProduct : List PV → Option (Bool × List TR)
  | [.v (.int .i64 p), .v (.agg ⟨[.int .i64 a0, .int .i64 a1, .int .i64 a2]⟩), .v (.agg ⟨[.int .i64 b0, .int .i64 b1, .int .i64 b2]⟩)] => some (true, enc_i_i (s_PlaceProduct p (a0, a1, a2) (b0, b1, b2)))
  | _ => none
theorem sound_s_PlaceProduct : Sound Try.prog 10 run_s_PlaceProduct := by
  refine sound_of de_i_i SO_s_PlaceProduct (by kernel_rfl) Try.func10 Try.ntmps10 rfl (by kernel_rfl) ?_
  intro W pvs avs rs hargs hrun
  unfold run_s_PlaceProduct at hrun
  split at hrun
  · simp only [Option.some.injEq, Prod.mk.injEq] at hrun
    obtain ⟨hp, rfl⟩ := hrun
    rename_i p a0 a1 a2 b0 b1 b2
    exact ⟨_, _, _, hargs, rfl, (eq_s_PlaceProduct p (a0, a1, a2) (b0, b1, b2)).trans (tot_s_PlaceProduct p (a0, a1, a2) (b0, b1, b2))⟩
  · cases hrun

def S_i_IsNullPlace_c1 : Sums := ⟨tblS [(56, run_i_isPlace)], tblM []⟩
theorem SO_i_IsNullPlace_c1 : SumsOK Try.prog S_i_IsNullPlace_c1 := ⟨tblS_ok ⟨⟨Try.call56, sound_i_isPlace⟩, True.intro⟩, tblM_ok True.intro⟩
def Fo_i_IsNullPlace_c1 (c0 : Int) (c1 : Int × Int × Int) : Option (Bool) :=
  some (i_isPlace c0 c1)
theorem eq_i_IsNullPlace_c1 (c0 : Int) (c1 : Int × Int × Int) : execT Try.prog S_i_IsNullPlace_c1 62 6 (fun _ => 1000000) dec_b [.p [.int .i64 c0], .p [.int .i64 c1.1, .int .i64 c1.2.1, .int .i64 c1.2.2]] = Fo_i_IsNullPlace_c1 c0 c1 := by
  kernel_rfl
def i_IsNullPlace_c1 (c0 : Int) (c1 : Int × Int × Int) : Bool :=
  (i_isPlace c0 c1)
theorem tot_i_IsNullPlace_c1 (c0 : Int) (c1 : Int × Int × Int) : Fo_i_IsNullPlace_c1 c0 c1 = some (i_IsNullPlace_c1 c0 c1) := by
  unfold Fo_i_IsNullPlace_c1 i_IsNullPlace_c1
  (try simp only [wI_eq])
  repeat' (first | with_reducible rfl | refine ite_opt (fun _ => ?_) (fun _ => ?_) | rfl)
def run_i_IsNullPlace_c1 : List PV → Option (Bool × List TR)
  | [.p [.int .i64 c0], .p [.int .i64 c10, .int .i64 c11, .int .i64 c12]] => some (true, enc_b (i_IsNullPlace_c1 c0 (c10, c11, c12)))
  | _ => none
theorem sound_i_IsNullPlace_c1 : Sound Try.prog 62 run_i_IsNullPlace_c1 := by
  refine sound_of de_b SO_i_IsNullPlace_c1 (by kernel_rfl) Try.func62 Try.ntmps62 rfl (by kernel_rfl) ?_
  intro W pvs avs rs hargs hrun
  unfold run_i_IsNullPlace_c1 at hrun
  split at hrun
  · simp only [Option.some.injEq, Prod.mk.injEq] at hrun
    obtain ⟨hp, rfl⟩ := hrun
    rename_i c0 c10 c11 c12
    exact ⟨_, _, _, hargs, rfl, (eq_i_IsNullPlace_c1 c0 (c10, c11, c12)).trans (tot_i_IsNullPlace_c1 c0 (c10, c11, c12))⟩
  · cases hrun

def S_i_IsNullPlace : Sums := ⟨tblS [(46, run_i_asked), (62, run_i_IsNullPlace_c1), (61, run_i_isNullPlace)], tblM []⟩
theorem SO_i_IsNullPlace : SumsOK Try.prog S_i_IsNullPlace := ⟨tblS_ok ⟨⟨Try.call46, sound_i_asked⟩, ⟨Try.call62, sound_i_IsNullPlace_c1⟩, ⟨Try.call61, sound_i_isNullPlace⟩, True.intro⟩, tblM_ok True.intro⟩
def Fo_i_IsNullPlace (p : Int) (a : Int × Int × Int) : Option (Bool × Int) :=
  (if ((true) || !(i_IsField p)) = true then (if ((i_asked p (true) (i_IsNullPlace_c1 p a)) != 0) = true then some (false, (i_asked p (true) (i_IsNullPlace_c1 p a))) else (if (prB p) = true then some ((i_isNullPlace p a), 0) else none)) else none)
theorem eq_i_IsNullPlace (p : Int) (a : Int × Int × Int) : execT Try.prog S_i_IsNullPlace 14 16 (fun _ => 1000000) dec_b_i [.v (.int .i64 p), .v (.agg ⟨[.int .i64 a.1, .int .i64 a.2.1, .int .i64 a.2.2]⟩)] = Fo_i_IsNullPlace p a := by
  kernel_rfl
def i_IsNullPlace (p : Int) (a : Int × Int × Int) : Bool × Int :=
  (if ((i_asked p (true) (i_IsNullPlace_c1 p a)) != 0) = true then (false, (i_asked p (true) (i_IsNullPlace_c1 p a))) else ((i_isNullPlace p a), 0))
theorem tot_i_IsNullPlace (p : Int) (a : Int × Int × Int) : Fo_i_IsNullPlace p a = some (i_IsNullPlace p a) := by
  unfold Fo_i_IsNullPlace i_IsNullPlace
  (try simp only [wI_eq])
  repeat' (first | with_reducible rfl | refine chk_opt (by first | with_reducible rfl | exact Bool.true_or _ | (with_reducible exact asked_prB ‹_›) | (with_reducible exact asked_prB0 ‹_›) | exact mk_ok (by (first | (with_reducible assumption) | (with_reducible exact asked_prB ‹_›) | (with_reducible exact asked_prB0 ‹_›))) | exact and_all (by (first | (with_reducible assumption) | (with_reducible exact asked_prB ‹_›) | (with_reducible exact asked_prB0 ‹_›))) (fun _ => rfl) | exact and_all (by (first | (with_reducible assumption) | (with_reducible exact asked_prB ‹_›) | (with_reducible exact asked_prB0 ‹_›))) (fun _ => by (first | (with_reducible assumption) | (with_reducible exact asked_prB ‹_›) | (with_reducible exact asked_prB0 ‹_›))) | exact and3 (by (first | (with_reducible assumption) | (with_reducible exact asked_prB ‹_›) | (with_reducible exact asked_prB0 ‹_›))) (by (first | (with_reducible assumption) | (with_reducible exact asked_prB ‹_›) | (with_reducible exact asked_prB0 ‹_›))) (by (first | (with_reducible assumption) | (with_reducible exact asked_prB ‹_›) | (with_reducible exact asked_prB0 ‹_›))) | exact and_two (by (first | (with_reducible assumption) | (with_reducible exact asked_prB ‹_›) | (with_reducible exact asked_prB0 ‹_›))) rfl | rfl) ?_ | refine ite_opt (fun _ => ?_) (fun _ => ?_) | rfl)
def run_i_IsNullPlace : List PV → Option (Bool × List TR)
  | [.v (.int .i64 p), .v (.agg ⟨[.int .i64 a0, .int .i64 a1, .int .i64 a2]⟩)] => some (true, enc_b_i (i_IsNullPlace p (a0, a1, a2)))
  | _ => none
theorem sound_i_IsNullPlace : Sound Try.prog 14 run_i_IsNullPlace := by
  refine sound_of de_b_i SO_i_IsNullPlace (by kernel_rfl) Try.func14 Try.ntmps14 rfl (by kernel_rfl) ?_
  intro W pvs avs rs hargs hrun
  unfold run_i_IsNullPlace at hrun
  split at hrun
  · simp only [Option.some.injEq, Prod.mk.injEq] at hrun
    obtain ⟨hp, rfl⟩ := hrun
    rename_i p a0 a1 a2
    exact ⟨_, _, _, hargs, rfl, (eq_i_IsNullPlace p (a0, a1, a2)).trans (tot_i_IsNullPlace p (a0, a1, a2))⟩
  · cases hrun

def S_s_IsNullPlace : Sums := ⟨tblS [(50, run_s_l09Code), (70, run_s_l09Null)], tblM []⟩
theorem SO_s_IsNullPlace : SumsOK Try.prog S_s_IsNullPlace := ⟨tblS_ok ⟨⟨Try.call50, sound_s_l09Code⟩, ⟨Try.call70, sound_s_l09Null⟩, True.intro⟩, tblM_ok True.intro⟩
def Fo_s_IsNullPlace (p : Int) (a : Int × Int × Int) : Option (Bool × Int) :=
  (if ((s_l09Code p [a]) != 0) = true then some (false, (s_l09Code p [a])) else (if (prB p) = true then some ((s_l09Null p a), 0) else none))
theorem eq_s_IsNullPlace (p : Int) (a : Int × Int × Int) : execT Try.prog S_s_IsNullPlace 22 17 (fun _ => 1000000) dec_b_i [.v (.int .i64 p), .v (.agg ⟨[.int .i64 a.1, .int .i64 a.2.1, .int .i64 a.2.2]⟩)] = Fo_s_IsNullPlace p a := by
  kernel_rfl
def s_IsNullPlace (p : Int) (a : Int × Int × Int) : Bool × Int :=
  (if ((s_l09Code p [a]) != 0) = true then (false, (s_l09Code p [a])) else ((s_l09Null p a), 0))
theorem tot_s_IsNullPlace (p : Int) (a : Int × Int × Int) : Fo_s_IsNullPlace p a = some (s_IsNullPlace p a) := by
  unfold Fo_s_IsNullPlace s_IsNullPlace
  (try simp only [wI_eq])
  repeat' (first | with_reducible rfl | refine chk_opt (by first | with_reducible rfl | exact Bool.true_or _ | (with_reducible exact l09Code_prB ‹_›) | (with_reducible exact l09Code_prB0 ‹_›) | exact mk_ok (by (first | (with_reducible assumption) | (with_reducible exact l09Code_prB ‹_›) | (with_reducible exact l09Code_prB0 ‹_›))) | exact and_all (by (first | (with_reducible assumption) | (with_reducible exact l09Code_prB ‹_›) | (with_reducible exact l09Code_prB0 ‹_›))) (fun _ => rfl) | exact and_all (by (first | (with_reducible assumption) | (with_reducible exact l09Code_prB ‹_›) | (with_reducible exact l09Code_prB0 ‹_›))) (fun _ => by (first | (with_reducible assumption) | (with_reducible exact l09Code_prB ‹_›) | (with_reducible exact l09Code_prB0 ‹_›))) | exact and3 (by (first | (with_reducible assumption) | (with_reducible exact l09Code_prB ‹_›) | (with_reducible exact l09Code_prB0 ‹_›))) (by (first | (with_reducible assumption) | (with_reducible exact l09Code_prB ‹_›) | (with_reducible exact l09Code_prB0 ‹_›))) (by (first | (with_reducible assumption) | (with_reducible exact l09Code_prB ‹_›) | (with_reducible exact l09Code_prB0 ‹_›))) | exact and_two (by (first | (with_reducible assumption) | (with_reducible exact l09Code_prB ‹_›) | (with_reducible exact l09Code_prB0 ‹_›))) rfl | rfl) ?_ | refine ite_opt (fun _ => ?_) (fun _ => ?_) | rfl)
def run_s_IsNullPlace : List PV → Option (Bool × List TR)
  | [.v (.int .i64 p), .v (.agg ⟨[.int .i64 a0, .int .i64 a1, .int .i64 a2]⟩)] => some (true, enc_b_i (s_IsNullPlace p (a0, a1, a2)))
  | _ => none
theorem sound_s_IsNullPlace : Sound Try.prog 22 run_s_IsNullPlace := by
  refine sound_of de_b_i SO_s_IsNullPlace (by kernel_rfl) Try.func22 Try.ntmps22 rfl (by kernel_rfl) ?_
  intro W pvs avs rs hargs hrun
  unfold run_s_IsNullPlace at hrun
  split at hrun
  · simp only [Option.some.injEq, Prod.mk.injEq] at hrun
    obtain ⟨hp, rfl⟩ := hrun
    rename_i p a0 a1 a2
    exact ⟨_, _, _, hargs, rfl, (eq_s_IsNullPlace p (a0, a1, a2)).trans (tot_s_IsNullPlace p (a0, a1, a2))⟩
  · cases hrun

def S_i_KindOfLine_c1 : Sums := ⟨tblS [(56, run_i_isPlace)], tblM []⟩
theorem SO_i_KindOfLine_c1 : SumsOK Try.prog S_i_KindOfLine_c1 := ⟨tblS_ok ⟨⟨Try.call56, sound_i_isPlace⟩, True.intro⟩, tblM_ok True.intro⟩
def Fo_i_KindOfLine_c1 (c0 : Int) (c1 : Int × Int × Int) : Option (Bool) :=
  some (i_isPlace c0 c1)
theorem eq_i_KindOfLine_c1 (c0 : Int) (c1 : Int × Int × Int) : execT Try.prog S_i_KindOfLine_c1 60 6 (fun _ => 1000000) dec_b [.p [.int .i64 c0], .p [.int .i64 c1.1, .int .i64 c1.2.1, .int .i64 c1.2.2]] = Fo_i_KindOfLine_c1 c0 c1 := by
  kernel_rfl
def i_KindOfLine_c1 (c0 : Int) (c1 : Int × Int × Int) : Bool :=
  (i_isPlace c0 c1)
theorem tot_i_KindOfLine_c1 (c0 : Int) (c1 : Int × Int × Int) : Fo_i_KindOfLine_c1 c0 c1 = some (i_KindOfLine_c1 c0 c1) := by
  unfold Fo_i_KindOfLine_c1 i_KindOfLine_c1
  (try simp only [wI_eq])
  repeat' (first | with_reducible rfl | refine ite_opt (fun _ => ?_) (fun _ => ?_) | rfl)
def run_i_KindOfLine_c1 : List PV → Option (Bool × List TR)
  | [.p [.int .i64 c0], .p [.int .i64 c10, .int .i64 c11, .int .i64 c12]] => some (true, enc_b (i_KindOfLine_c1 c0 (c10, c11, c12)))
  | _ => none
theorem sound_i_KindOfLine_c1 : Sound Try.prog 60 run_i_KindOfLine_c1 := by
  refine sound_of de_b SO_i_KindOfLine_c1 (by kernel_rfl) Try.func60 Try.ntmps60 rfl (by kernel_rfl) ?_
  intro W pvs avs rs hargs hrun
  unfold run_i_KindOfLine_c1 at hrun
  split at hrun
  · simp only [Option.some.injEq, Prod.mk.injEq] at hrun
    obtain ⟨hp, rfl⟩ := hrun
    rename_i c0 c10 c11 c12
    exact ⟨_, _, _, hargs, rfl, (eq_i_KindOfLine_c1 c0 (c10, c11, c12)).trans (tot_i_KindOfLine_c1 c0 (c10, c11, c12))⟩
  · cases hrun

def S_i_KindOfLine : Sums := ⟨tblS [(46, run_i_asked), (60, run_i_KindOfLine_c1), (57, run_i_placesOn), (61, run_i_isNullPlace)], tblM []⟩
theorem SO_i_KindOfLine : SumsOK Try.prog S_i_KindOfLine := ⟨tblS_ok ⟨⟨Try.call46, sound_i_asked⟩, ⟨Try.call60, sound_i_KindOfLine_c1⟩, ⟨Try.call57, sound_i_placesOn⟩, ⟨Try.call61, sound_i_isNullPlace⟩, True.intro⟩, tblM_ok True.intro⟩
def T_i_KindOfLine_0 (p : Int) (pole : Int × Int × Int) (t20 : Int) (j_n : Int) : Tab := ⟨[.val (.int .i64 p), .val (.agg ⟨[.int .i64 pole.1, .int .i64 pole.2.1, .int .i64 pole.2.2]⟩), .ptr 8 0, .ptr 12 0, .val (.int .i64 0), .val (.int .i64 0), .val (.int .i64 (i_asked p (true) (i_KindOfLine_c1 p pole))), .val (.int .i64 j_n), .junk, .junk, .val (.int .i64 p), .clo 60 [8, 12], .val (.int .i64 (i_asked p (true) (i_KindOfLine_c1 p pole))), .val (.int .i64 (i_asked p (true) (i_KindOfLine_c1 p pole))), .val (.bool ((i_asked p (true) (i_KindOfLine_c1 p pole)) != 0)), .junk, .val (.int .i64 p), .val (.agg ⟨[.int .i64 pole.1, .int .i64 pole.2.1, .int .i64 pole.2.2]⟩), .row 72, .val (.int .i64 (((i_placesOn p pole).1 : Nat) : Int)), .val (.int .i64 t20), .junk, .junk, .junk, .junk, .junk, .junk, .junk, .junk, .junk, .junk], [(8, .box 2 [.val (.int .i64 p)]), (12, .box 25 [.val (.int .i64 pole.1), .val (.int .i64 pole.2.1), .val (.int .i64 pole.2.2)]), (72, .row 25 3 ((i_placesOn p pole).1) (.ints ((i_placesOn p pole).2)))]⟩
def X_i_KindOfLine_0 (P : Program) (fu : Nat) (p : Int) (pole : Int × Int × Int) (f : Nat) (t20 : Int) (j_n : Int) : Option (Int × Int) := loopK (exec P S_i_KindOfLine 31 (fun _ => fu + 100) (Code.sub [1, 1, 1, 0, 1, 0, 0] (bodyF P 13))) f (T_i_KindOfLine_0 p pole t20 j_n) (kBlock 0 (kSeq (fun s => exec P S_i_KindOfLine 31 (fun _ => fu + 100) (Code.sub [1, 1, 1, 1] (bodyF P 13)) s (finT P 13 dec_i_i)) (finT P 13 dec_i_i)))
def B_i_KindOfLine_0 (p : Int) (pole : Int × Int × Int) (rec0 : Int → Int → Option (Int × Int)) (t20 : Int) (j_n : Int) : Option (Int × Int) :=
  (if (decide (t20 < (((i_placesOn p pole).1 : Nat) : Int))) = true then (if (decide (0 ≤ t20) && decide (t20 < (((i_placesOn p pole).1 : Nat) : Int))) = true then (if (Nat.ble (t20.toNat * 3 + 3) (((i_placesOn p pole).2).length)) = true then (if (prB p) = true then (if (i_isNullPlace p (((i_placesOn p pole).2).getD (t20.toNat * 3 + 0) 0, ((i_placesOn p pole).2).getD (t20.toNat * 3 + 1) 0, ((i_placesOn p pole).2).getD (t20.toNat * 3 + 2) 0)) = true then rec0 (wI (t20 + 1)) (wI (j_n + 1)) else rec0 (wI (t20 + 1)) j_n) else none) else none) else none) else some (j_n, 0))
def L_i_KindOfLine_0 (fu : Nat) (p : Int) (pole : Int × Int × Int) : Nat → Int → Int → Option (Int × Int)
  | 0, _, _ => none
  | f + 1, t20, j_n => B_i_KindOfLine_0 p pole (L_i_KindOfLine_0 fu p pole f) t20 j_n
theorem loop_i_KindOfLine_0 (fu : Nat) (p : Int) (pole : Int × Int × Int) : ∀ (f : Nat) (t20 : Int) (j_n : Int), X_i_KindOfLine_0 Try.prog fu p pole f t20 j_n = L_i_KindOfLine_0 fu p pole f t20 j_n := by
  intro f
  induction f with
  | zero => intros; rfl
  | succ f ih =>
    intro t20 j_n
    have h1 : X_i_KindOfLine_0 Try.prog fu p pole (f + 1) t20 j_n = B_i_KindOfLine_0 p pole (X_i_KindOfLine_0 Try.prog fu p pole f) t20 j_n := by kernel_rfl
    have h2 : X_i_KindOfLine_0 Try.prog fu p pole f = L_i_KindOfLine_0 fu p pole f := by funext t20 j_n; exact ih t20 j_n
    rw [h1, h2]
    rfl
def G_i_KindOfLine (p : Int) (pole : Int × Int × Int) (lo0 : Int → Int → Option (Int × Int)) : Option (Int × Int) :=
  (if ((true) || !(i_IsField p)) = true then (if ((i_asked p (true) (i_KindOfLine_c1 p pole)) != 0) = true then some (0, (i_asked p (true) (i_KindOfLine_c1 p pole))) else (if (prB p) = true then lo0 0 0 else none)) else none)
def Fo_i_KindOfLine (fu : Nat) (p : Int) (pole : Int × Int × Int) : Option (Int × Int) := G_i_KindOfLine p pole (L_i_KindOfLine_0 fu p pole (fu + 100))
theorem eqg_i_KindOfLine (fu : Nat) (p : Int) (pole : Int × Int × Int) : execT Try.prog S_i_KindOfLine 13 31 (fun _ => fu + 100) dec_i_i [.v (.int .i64 p), .v (.agg ⟨[.int .i64 pole.1, .int .i64 pole.2.1, .int .i64 pole.2.2]⟩)] = G_i_KindOfLine p pole (L_i_KindOfLine_0 fu p pole (fu + 100)) := by
  have h1 : execT Try.prog S_i_KindOfLine 13 31 (fun _ => fu + 100) dec_i_i [.v (.int .i64 p), .v (.agg ⟨[.int .i64 pole.1, .int .i64 pole.2.1, .int .i64 pole.2.2]⟩)] = G_i_KindOfLine p pole (X_i_KindOfLine_0 Try.prog fu p pole (fu + 100)) := by kernel_rfl
  have c0 : X_i_KindOfLine_0 Try.prog fu p pole (fu + 100) = L_i_KindOfLine_0 fu p pole (fu + 100) := by funext t20 j_n; exact loop_i_KindOfLine_0 fu p pole (fu + 100) t20 j_n
  rw [h1, c0]
theorem eq_i_KindOfLine (fu : Nat) (p : Int) (pole : Int × Int × Int) : execT Try.prog S_i_KindOfLine 13 31 (fun _ => fu + 100) dec_i_i [.v (.int .i64 p), .v (.agg ⟨[.int .i64 pole.1, .int .i64 pole.2.1, .int .i64 pole.2.2]⟩)] = Fo_i_KindOfLine fu p pole := eqg_i_KindOfLine fu p pole
def V_i_KindOfLine_0 (p : Int) (pole : Int × Int × Int) : Int → Int → Int × Int := fun _ _ => (((((((places p).filter fun zz => (i_placeProduct p zz pole == 0))).filter fun zz => i_isNullPlace p zz).length : Nat) : Int), 0)
theorem lo0_i_KindOfLine (p : Int) (pole : P3) (hp : prB p = true) {F : Nat} (hF : 993 < F) : L_i_KindOfLine_0 1000000 p pole F 0 0 = some (((((((places p).filter fun zz => (i_placeProduct p zz pole == 0))).filter fun zz => i_isNullPlace p zz).length : Nat) : Int), 0) := by
  have hlen : (((places p).filter fun zz => (i_placeProduct p zz pole == 0))).length ≤ 993 := Nat.le_trans (List.length_filter_le _ _) (places_len hp)
  have h := tally (L := fun f s i => L_i_KindOfLine_0 1000000 p pole f i s) (n := (((places p).filter fun zz => (i_placeProduct p zz pole == 0))).length) (q := fun k => i_isNullPlace p (R3 (flat3 (((places p).filter fun zz => (i_placeProduct p zz pole == 0)))) k)) (K := fun s => some (s, 0)) (F := F) (by omega)
    (fun f k s hk h0 h1 => by
      show B_i_KindOfLine_0 p pole (L_i_KindOfLine_0 1000000 p pole f) (k : Int) s = _
      unfold B_i_KindOfLine_0
      have e0 : decide (0 ≤ (k : Int)) = true := by simp
      have e1 := cnd hk
      have e3 : (k : Int).toNat = k := Int.toNat_natCast k
      have e4 := row3_ok (flat3_len _) hk
      rw [show i_placesOn p pole = ((((places p).filter fun zz => (i_placeProduct p zz pole == 0))).length, flat3 (((places p).filter fun zz => (i_placeProduct p zz pole == 0)))) from rfl]
      have e7 : wI (s + 1) = s + 1 := by rw [wI_eq]; unfold wrap64; omega
      simp only [e0, e1, e3, e4, hp, Bool.and_true, Bool.true_and, if_true, wrap_add1 hk (by omega), e7]
      have hq : (i_isNullPlace p ((flat3 (((places p).filter fun zz => (i_placeProduct p zz pole == 0)))).getD (k * 3 + 0) 0, (flat3 (((places p).filter fun zz => (i_placeProduct p zz pole == 0)))).getD (k * 3 + 1) 0, (flat3 (((places p).filter fun zz => (i_placeProduct p zz pole == 0)))).getD (k * 3 + 2) 0)) = (i_isNullPlace p (R3 (flat3 (((places p).filter fun zz => (i_placeProduct p zz pole == 0)))) k)) := rfl
      rw [hq]
      cases (i_isNullPlace p (R3 (flat3 (((places p).filter fun zz => (i_placeProduct p zz pole == 0)))) k)) <;> rfl)
    (fun f s => by
      show B_i_KindOfLine_0 p pole (L_i_KindOfLine_0 1000000 p pole f) (((((places p).filter fun zz => (i_placeProduct p zz pole == 0))).length : Nat) : Int) s = _
      unfold B_i_KindOfLine_0
      rw [show i_placesOn p pole = ((((places p).filter fun zz => (i_placeProduct p zz pole == 0))).length, flat3 (((places p).filter fun zz => (i_placeProduct p zz pole == 0)))) from rfl]
      rw [if_neg (by simp)])
  rw [count3 _ _ (fun zz => i_isNullPlace p zz), rows3_flat3] at h
  exact h

def i_KindOfLine (p : Int) (pole : Int × Int × Int) : Int × Int :=
  (if ((i_asked p (true) (i_KindOfLine_c1 p pole)) != 0) = true then (0, (i_asked p (true) (i_KindOfLine_c1 p pole))) else V_i_KindOfLine_0 p pole 0 0)
theorem tot_i_KindOfLine (p : Int) (pole : Int × Int × Int) : Fo_i_KindOfLine 1000000 p pole = some (i_KindOfLine p pole) := by
  unfold Fo_i_KindOfLine G_i_KindOfLine i_KindOfLine
  (try simp only [wI_eq])
  repeat' (first | with_reducible rfl | refine chk_opt (by first | with_reducible rfl | exact Bool.true_or _ | (with_reducible exact asked_prB ‹_›) | (with_reducible exact asked_prB0 ‹_›) | exact mk_ok (by (first | (with_reducible assumption) | (with_reducible exact asked_prB ‹_›) | (with_reducible exact asked_prB0 ‹_›))) | exact and_all (by (first | (with_reducible assumption) | (with_reducible exact asked_prB ‹_›) | (with_reducible exact asked_prB0 ‹_›))) (fun _ => rfl) | exact and_all (by (first | (with_reducible assumption) | (with_reducible exact asked_prB ‹_›) | (with_reducible exact asked_prB0 ‹_›))) (fun _ => by (first | (with_reducible assumption) | (with_reducible exact asked_prB ‹_›) | (with_reducible exact asked_prB0 ‹_›))) | exact and3 (by (first | (with_reducible assumption) | (with_reducible exact asked_prB ‹_›) | (with_reducible exact asked_prB0 ‹_›))) (by (first | (with_reducible assumption) | (with_reducible exact asked_prB ‹_›) | (with_reducible exact asked_prB0 ‹_›))) (by (first | (with_reducible assumption) | (with_reducible exact asked_prB ‹_›) | (with_reducible exact asked_prB0 ‹_›))) | exact and_two (by (first | (with_reducible assumption) | (with_reducible exact asked_prB ‹_›) | (with_reducible exact asked_prB0 ‹_›))) rfl | rfl) ?_ | refine ite_opt (fun _ => ?_) (fun _ => ?_) | exact lo0_i_KindOfLine _ _ (by (first | (with_reducible assumption) | (with_reducible exact asked_prB ‹_›) | (with_reducible exact asked_prB0 ‹_›))) (by omega) | rfl)
def run_i_KindOfLine : List PV → Option (Bool × List TR)
  | [.v (.int .i64 p), .v (.agg ⟨[.int .i64 pole0, .int .i64 pole1, .int .i64 pole2]⟩)] => some (true, enc_i_i (i_KindOfLine p (pole0, pole1, pole2)))
  | _ => none
theorem sound_i_KindOfLine : Sound Try.prog 13 run_i_KindOfLine := by
  refine sound_of de_i_i SO_i_KindOfLine (by kernel_rfl) Try.func13 Try.ntmps13 rfl (by kernel_rfl) ?_
  intro W pvs avs rs hargs hrun
  unfold run_i_KindOfLine at hrun
  split at hrun
  · simp only [Option.some.injEq, Prod.mk.injEq] at hrun
    obtain ⟨hp, rfl⟩ := hrun
    rename_i p pole0 pole1 pole2
    exact ⟨_, _, _, hargs, rfl, (eq_i_KindOfLine _ p (pole0, pole1, pole2)).trans (tot_i_KindOfLine p (pole0, pole1, pole2))⟩
  · cases hrun

def S_s_KindOfLine : Sums := ⟨tblS [(50, run_s_l09Code), (71, run_s_l09On), (70, run_s_l09Null)], tblM []⟩
theorem SO_s_KindOfLine : SumsOK Try.prog S_s_KindOfLine := ⟨tblS_ok ⟨⟨Try.call50, sound_s_l09Code⟩, ⟨Try.call71, sound_s_l09On⟩, ⟨Try.call70, sound_s_l09Null⟩, True.intro⟩, tblM_ok True.intro⟩
def T_s_KindOfLine_0 (p : Int) (pole : Int × Int × Int) (count : Int) (i : Int) : Tab := ⟨[.val (.int .i64 p), .val (.agg ⟨[.int .i64 pole.1, .int .i64 pole.2.1, .int .i64 pole.2.2]⟩), .junk, .ptr 12 0, .val (.int .i64 0), .val (.int .i64 0), .val (.int .i64 (s_l09Code p [pole])), .row 76, .val (.int .i64 count), .val (.int .i64 i), .val (.int .i64 p), .val (.agg ⟨[.int .i64 pole.1, .int .i64 pole.2.1, .int .i64 pole.2.2]⟩), .row 48, .val (.int .i64 (s_l09Code p [pole])), .val (.int .i64 (s_l09Code p [pole])), .val (.bool ((s_l09Code p [pole]) != 0)), .junk, .val (.int .i64 p), .val (.agg ⟨[.int .i64 pole.1, .int .i64 pole.2.1, .int .i64 pole.2.2]⟩), .row 76, .junk, .junk, .junk, .junk, .junk, .junk, .junk, .junk, .junk, .junk, .junk, .junk, .junk, .junk, .junk], [(12, .box 25 [.val (.int .i64 pole.1), .val (.int .i64 pole.2.1), .val (.int .i64 pole.2.2)]), (48, .row 25 3 1 (.ints [pole.1, pole.2.1, pole.2.2])), (76, .row 25 3 ((s_l09On p pole).1) (.ints ((s_l09On p pole).2)))]⟩
def X_s_KindOfLine_0 (P : Program) (fu : Nat) (p : Int) (pole : Int × Int × Int) (f : Nat) (count : Int) (i : Int) : Option (Int × Int) := loopK (exec P S_s_KindOfLine 35 (fun _ => fu + 100) (Code.sub [1, 1, 1, 0, 1, 0, 0] (bodyF P 21))) f (T_s_KindOfLine_0 p pole count i) (kBlock 0 (kSeq (fun s => exec P S_s_KindOfLine 35 (fun _ => fu + 100) (Code.sub [1, 1, 1, 1] (bodyF P 21)) s (finT P 21 dec_i_i)) (finT P 21 dec_i_i)))
def B_s_KindOfLine_0 (p : Int) (pole : Int × Int × Int) (rec0 : Int → Int → Option (Int × Int)) (count : Int) (i : Int) : Option (Int × Int) :=
  (if (decide (i < (((s_l09On p pole).1 : Nat) : Int))) = true then (if (decide (0 ≤ i) && decide (i < (((s_l09On p pole).1 : Nat) : Int))) = true then (if (Nat.ble (i.toNat * 3 + 3) (((s_l09On p pole).2).length)) = true then (if (prB p) = true then (if (s_l09Null p (((s_l09On p pole).2).getD (i.toNat * 3 + 0) 0, ((s_l09On p pole).2).getD (i.toNat * 3 + 1) 0, ((s_l09On p pole).2).getD (i.toNat * 3 + 2) 0)) = true then rec0 (wI (count + 1)) (wI (i + 1)) else rec0 count (wI (i + 1))) else none) else none) else none) else some (count, 0))
def L_s_KindOfLine_0 (fu : Nat) (p : Int) (pole : Int × Int × Int) : Nat → Int → Int → Option (Int × Int)
  | 0, _, _ => none
  | f + 1, count, i => B_s_KindOfLine_0 p pole (L_s_KindOfLine_0 fu p pole f) count i
theorem loop_s_KindOfLine_0 (fu : Nat) (p : Int) (pole : Int × Int × Int) : ∀ (f : Nat) (count : Int) (i : Int), X_s_KindOfLine_0 Try.prog fu p pole f count i = L_s_KindOfLine_0 fu p pole f count i := by
  intro f
  induction f with
  | zero => intros; rfl
  | succ f ih =>
    intro count i
    have h1 : X_s_KindOfLine_0 Try.prog fu p pole (f + 1) count i = B_s_KindOfLine_0 p pole (X_s_KindOfLine_0 Try.prog fu p pole f) count i := by kernel_rfl
    have h2 : X_s_KindOfLine_0 Try.prog fu p pole f = L_s_KindOfLine_0 fu p pole f := by funext count i; exact ih count i
    rw [h1, h2]
    rfl
def G_s_KindOfLine (p : Int) (pole : Int × Int × Int) (lo0 : Int → Int → Option (Int × Int)) : Option (Int × Int) :=
  (if ((s_l09Code p [pole]) != 0) = true then some (0, (s_l09Code p [pole])) else (if (prB p) = true then lo0 0 0 else none))
def Fo_s_KindOfLine (fu : Nat) (p : Int) (pole : Int × Int × Int) : Option (Int × Int) := G_s_KindOfLine p pole (L_s_KindOfLine_0 fu p pole (fu + 100))
theorem eqg_s_KindOfLine (fu : Nat) (p : Int) (pole : Int × Int × Int) : execT Try.prog S_s_KindOfLine 21 35 (fun _ => fu + 100) dec_i_i [.v (.int .i64 p), .v (.agg ⟨[.int .i64 pole.1, .int .i64 pole.2.1, .int .i64 pole.2.2]⟩)] = G_s_KindOfLine p pole (L_s_KindOfLine_0 fu p pole (fu + 100)) := by
  have h1 : execT Try.prog S_s_KindOfLine 21 35 (fun _ => fu + 100) dec_i_i [.v (.int .i64 p), .v (.agg ⟨[.int .i64 pole.1, .int .i64 pole.2.1, .int .i64 pole.2.2]⟩)] = G_s_KindOfLine p pole (X_s_KindOfLine_0 Try.prog fu p pole (fu + 100)) := by kernel_rfl
  have c0 : X_s_KindOfLine_0 Try.prog fu p pole (fu + 100) = L_s_KindOfLine_0 fu p pole (fu + 100) := by funext count i; exact loop_s_KindOfLine_0 fu p pole (fu + 100) count i
  rw [h1, c0]
theorem eq_s_KindOfLine (fu : Nat) (p : Int) (pole : Int × Int × Int) : execT Try.prog S_s_KindOfLine 21 35 (fun _ => fu + 100) dec_i_i [.v (.int .i64 p), .v (.agg ⟨[.int .i64 pole.1, .int .i64 pole.2.1, .int .i64 pole.2.2]⟩)] = Fo_s_KindOfLine fu p pole := eqg_s_KindOfLine fu p pole
def V_s_KindOfLine_0 (p : Int) (pole : Int × Int × Int) : Int → Int → Int × Int := fun _ _ => (((((((places p).filter fun zz => (s_l09Product p zz pole == 0))).filter fun zz => s_l09Null p zz).length : Nat) : Int), 0)
theorem lo0_s_KindOfLine (p : Int) (pole : P3) (hp : prB p = true) {F : Nat} (hF : 993 < F) : L_s_KindOfLine_0 1000000 p pole F 0 0 = some (((((((places p).filter fun zz => (s_l09Product p zz pole == 0))).filter fun zz => s_l09Null p zz).length : Nat) : Int), 0) := by
  have hlen : (((places p).filter fun zz => (s_l09Product p zz pole == 0))).length ≤ 993 := Nat.le_trans (List.length_filter_le _ _) (places_len hp)
  have h := tally (L := fun f s i => L_s_KindOfLine_0 1000000 p pole f s i) (n := (((places p).filter fun zz => (s_l09Product p zz pole == 0))).length) (q := fun k => s_l09Null p (R3 (flat3 (((places p).filter fun zz => (s_l09Product p zz pole == 0)))) k)) (K := fun s => some (s, 0)) (F := F) (by omega)
    (fun f k s hk h0 h1 => by
      show B_s_KindOfLine_0 p pole (L_s_KindOfLine_0 1000000 p pole f) s (k : Int) = _
      unfold B_s_KindOfLine_0
      have e0 : decide (0 ≤ (k : Int)) = true := by simp
      have e1 := cnd hk
      have e3 : (k : Int).toNat = k := Int.toNat_natCast k
      have e4 := row3_ok (flat3_len _) hk
      rw [show s_l09On p pole = ((((places p).filter fun zz => (s_l09Product p zz pole == 0))).length, flat3 (((places p).filter fun zz => (s_l09Product p zz pole == 0)))) from rfl]
      have e7 : wI (s + 1) = s + 1 := by rw [wI_eq]; unfold wrap64; omega
      simp only [e0, e1, e3, e4, hp, Bool.and_true, Bool.true_and, if_true, wrap_add1 hk (by omega), e7]
      have hq : (s_l09Null p ((flat3 (((places p).filter fun zz => (s_l09Product p zz pole == 0)))).getD (k * 3 + 0) 0, (flat3 (((places p).filter fun zz => (s_l09Product p zz pole == 0)))).getD (k * 3 + 1) 0, (flat3 (((places p).filter fun zz => (s_l09Product p zz pole == 0)))).getD (k * 3 + 2) 0)) = (s_l09Null p (R3 (flat3 (((places p).filter fun zz => (s_l09Product p zz pole == 0)))) k)) := rfl
      rw [hq]
      cases (s_l09Null p (R3 (flat3 (((places p).filter fun zz => (s_l09Product p zz pole == 0)))) k)) <;> rfl)
    (fun f s => by
      show B_s_KindOfLine_0 p pole (L_s_KindOfLine_0 1000000 p pole f) s (((((places p).filter fun zz => (s_l09Product p zz pole == 0))).length : Nat) : Int) = _
      unfold B_s_KindOfLine_0
      rw [show s_l09On p pole = ((((places p).filter fun zz => (s_l09Product p zz pole == 0))).length, flat3 (((places p).filter fun zz => (s_l09Product p zz pole == 0)))) from rfl]
      rw [if_neg (by simp)])
  rw [count3 _ _ (fun zz => s_l09Null p zz), rows3_flat3] at h
  exact h

def s_KindOfLine (p : Int) (pole : Int × Int × Int) : Int × Int :=
  (if ((s_l09Code p [pole]) != 0) = true then (0, (s_l09Code p [pole])) else V_s_KindOfLine_0 p pole 0 0)
theorem tot_s_KindOfLine (p : Int) (pole : Int × Int × Int) : Fo_s_KindOfLine 1000000 p pole = some (s_KindOfLine p pole) := by
  unfold Fo_s_KindOfLine G_s_KindOfLine s_KindOfLine
  (try simp only [wI_eq])
  repeat' (first | with_reducible rfl | refine chk_opt (by first | with_reducible rfl | exact Bool.true_or _ | (with_reducible exact l09Code_prB ‹_›) | (with_reducible exact l09Code_prB0 ‹_›) | exact mk_ok (by (first | (with_reducible assumption) | (with_reducible exact l09Code_prB ‹_›) | (with_reducible exact l09Code_prB0 ‹_›))) | exact and_all (by (first | (with_reducible assumption) | (with_reducible exact l09Code_prB ‹_›) | (with_reducible exact l09Code_prB0 ‹_›))) (fun _ => rfl) | exact and_all (by (first | (with_reducible assumption) | (with_reducible exact l09Code_prB ‹_›) | (with_reducible exact l09Code_prB0 ‹_›))) (fun _ => by (first | (with_reducible assumption) | (with_reducible exact l09Code_prB ‹_›) | (with_reducible exact l09Code_prB0 ‹_›))) | exact and3 (by (first | (with_reducible assumption) | (with_reducible exact l09Code_prB ‹_›) | (with_reducible exact l09Code_prB0 ‹_›))) (by (first | (with_reducible assumption) | (with_reducible exact l09Code_prB ‹_›) | (with_reducible exact l09Code_prB0 ‹_›))) (by (first | (with_reducible assumption) | (with_reducible exact l09Code_prB ‹_›) | (with_reducible exact l09Code_prB0 ‹_›))) | exact and_two (by (first | (with_reducible assumption) | (with_reducible exact l09Code_prB ‹_›) | (with_reducible exact l09Code_prB0 ‹_›))) rfl | rfl) ?_ | refine ite_opt (fun _ => ?_) (fun _ => ?_) | exact lo0_s_KindOfLine _ _ (by (first | (with_reducible assumption) | (with_reducible exact l09Code_prB ‹_›) | (with_reducible exact l09Code_prB0 ‹_›))) (by omega) | rfl)
def run_s_KindOfLine : List PV → Option (Bool × List TR)
  | [.v (.int .i64 p), .v (.agg ⟨[.int .i64 pole0, .int .i64 pole1, .int .i64 pole2]⟩)] => some (true, enc_i_i (s_KindOfLine p (pole0, pole1, pole2)))
  | _ => none
theorem sound_s_KindOfLine : Sound Try.prog 21 run_s_KindOfLine := by
  refine sound_of de_i_i SO_s_KindOfLine (by kernel_rfl) Try.func21 Try.ntmps21 rfl (by kernel_rfl) ?_
  intro W pvs avs rs hargs hrun
  unfold run_s_KindOfLine at hrun
  split at hrun
  · simp only [Option.some.injEq, Prod.mk.injEq] at hrun
    obtain ⟨hp, rfl⟩ := hrun
    rename_i p pole0 pole1 pole2
    exact ⟨_, _, _, hargs, rfl, (eq_s_KindOfLine _ p (pole0, pole1, pole2)).trans (tot_s_KindOfLine p (pole0, pole1, pole2))⟩
  · cases hrun

def S_i_AreInLine_c1 : Sums := ⟨tblS [(48, run_i_arePlaces)], tblM []⟩
theorem SO_i_AreInLine_c1 : SumsOK Try.prog S_i_AreInLine_c1 := ⟨tblS_ok ⟨⟨Try.call48, sound_i_arePlaces⟩, True.intro⟩, tblM_ok True.intro⟩
def Fo_i_AreInLine_c1 (c0 : Int) (c1 : Int × Int × Int) (c2 : Int × Int × Int) (c3 : Int × Int × Int) : Option (Bool) :=
  some (i_arePlaces c0 [c1, c2, c3])
theorem eq_i_AreInLine_c1 (c0 : Int) (c1 : Int × Int × Int) (c2 : Int × Int × Int) (c3 : Int × Int × Int) : execT Try.prog S_i_AreInLine_c1 58 11 (fun _ => 1000000) dec_b [.p [.int .i64 c0], .p [.int .i64 c1.1, .int .i64 c1.2.1, .int .i64 c1.2.2], .p [.int .i64 c2.1, .int .i64 c2.2.1, .int .i64 c2.2.2], .p [.int .i64 c3.1, .int .i64 c3.2.1, .int .i64 c3.2.2]] = Fo_i_AreInLine_c1 c0 c1 c2 c3 := by
  kernel_rfl
def i_AreInLine_c1 (c0 : Int) (c1 : Int × Int × Int) (c2 : Int × Int × Int) (c3 : Int × Int × Int) : Bool :=
  (i_arePlaces c0 [c1, c2, c3])
theorem tot_i_AreInLine_c1 (c0 : Int) (c1 : Int × Int × Int) (c2 : Int × Int × Int) (c3 : Int × Int × Int) : Fo_i_AreInLine_c1 c0 c1 c2 c3 = some (i_AreInLine_c1 c0 c1 c2 c3) := by
  unfold Fo_i_AreInLine_c1 i_AreInLine_c1
  (try simp only [wI_eq])
  repeat' (first | with_reducible rfl | refine ite_opt (fun _ => ?_) (fun _ => ?_) | rfl)
def run_i_AreInLine_c1 : List PV → Option (Bool × List TR)
  | [.p [.int .i64 c0], .p [.int .i64 c10, .int .i64 c11, .int .i64 c12], .p [.int .i64 c20, .int .i64 c21, .int .i64 c22], .p [.int .i64 c30, .int .i64 c31, .int .i64 c32]] => some (true, enc_b (i_AreInLine_c1 c0 (c10, c11, c12) (c20, c21, c22) (c30, c31, c32)))
  | _ => none
theorem sound_i_AreInLine_c1 : Sound Try.prog 58 run_i_AreInLine_c1 := by
  refine sound_of de_b SO_i_AreInLine_c1 (by kernel_rfl) Try.func58 Try.ntmps58 rfl (by kernel_rfl) ?_
  intro W pvs avs rs hargs hrun
  unfold run_i_AreInLine_c1 at hrun
  split at hrun
  · simp only [Option.some.injEq, Prod.mk.injEq] at hrun
    obtain ⟨hp, rfl⟩ := hrun
    rename_i c0 c10 c11 c12 c20 c21 c22 c30 c31 c32
    exact ⟨_, _, _, hargs, rfl, (eq_i_AreInLine_c1 c0 (c10, c11, c12) (c20, c21, c22) (c30, c31, c32)).trans (tot_i_AreInLine_c1 c0 (c10, c11, c12) (c20, c21, c22) (c30, c31, c32))⟩
  · cases hrun

def S_i_AreInLine : Sums := ⟨tblS [(46, run_i_asked), (58, run_i_AreInLine_c1), (59, run_i_threeBy)], tblM []⟩
theorem SO_i_AreInLine : SumsOK Try.prog S_i_AreInLine := ⟨tblS_ok ⟨⟨Try.call46, sound_i_asked⟩, ⟨Try.call58, sound_i_AreInLine_c1⟩, ⟨Try.call59, sound_i_threeBy⟩, True.intro⟩, tblM_ok True.intro⟩
def Fo_i_AreInLine (p : Int) (a : Int × Int × Int) (b : Int × Int × Int) (c : Int × Int × Int) : Option (Bool × Int) :=
  (if ((true) || !(i_IsField p)) = true then (if ((i_asked p (true) (i_AreInLine_c1 p a b c)) != 0) = true then some (false, (i_asked p (true) (i_AreInLine_c1 p a b c))) else (if (prB p) = true then some ((i_threeBy p a b c) == 0, 0) else none)) else none)
theorem eq_i_AreInLine (p : Int) (a : Int × Int × Int) (b : Int × Int × Int) (c : Int × Int × Int) : execT Try.prog S_i_AreInLine 12 23 (fun _ => 1000000) dec_b_i [.v (.int .i64 p), .v (.agg ⟨[.int .i64 a.1, .int .i64 a.2.1, .int .i64 a.2.2]⟩), .v (.agg ⟨[.int .i64 b.1, .int .i64 b.2.1, .int .i64 b.2.2]⟩), .v (.agg ⟨[.int .i64 c.1, .int .i64 c.2.1, .int .i64 c.2.2]⟩)] = Fo_i_AreInLine p a b c := by
  kernel_rfl
def i_AreInLine (p : Int) (a : Int × Int × Int) (b : Int × Int × Int) (c : Int × Int × Int) : Bool × Int :=
  (if ((i_asked p (true) (i_AreInLine_c1 p a b c)) != 0) = true then (false, (i_asked p (true) (i_AreInLine_c1 p a b c))) else ((i_threeBy p a b c) == 0, 0))
theorem tot_i_AreInLine (p : Int) (a : Int × Int × Int) (b : Int × Int × Int) (c : Int × Int × Int) : Fo_i_AreInLine p a b c = some (i_AreInLine p a b c) := by
  unfold Fo_i_AreInLine i_AreInLine
  (try simp only [wI_eq])
  repeat' (first | with_reducible rfl | refine chk_opt (by first | with_reducible rfl | exact Bool.true_or _ | (with_reducible exact asked_prB ‹_›) | (with_reducible exact asked_prB0 ‹_›) | exact mk_ok (by (first | (with_reducible assumption) | (with_reducible exact asked_prB ‹_›) | (with_reducible exact asked_prB0 ‹_›))) | exact and_all (by (first | (with_reducible assumption) | (with_reducible exact asked_prB ‹_›) | (with_reducible exact asked_prB0 ‹_›))) (fun _ => rfl) | exact and_all (by (first | (with_reducible assumption) | (with_reducible exact asked_prB ‹_›) | (with_reducible exact asked_prB0 ‹_›))) (fun _ => by (first | (with_reducible assumption) | (with_reducible exact asked_prB ‹_›) | (with_reducible exact asked_prB0 ‹_›))) | exact and3 (by (first | (with_reducible assumption) | (with_reducible exact asked_prB ‹_›) | (with_reducible exact asked_prB0 ‹_›))) (by (first | (with_reducible assumption) | (with_reducible exact asked_prB ‹_›) | (with_reducible exact asked_prB0 ‹_›))) (by (first | (with_reducible assumption) | (with_reducible exact asked_prB ‹_›) | (with_reducible exact asked_prB0 ‹_›))) | exact and_two (by (first | (with_reducible assumption) | (with_reducible exact asked_prB ‹_›) | (with_reducible exact asked_prB0 ‹_›))) rfl | rfl) ?_ | refine ite_opt (fun _ => ?_) (fun _ => ?_) | rfl)
def run_i_AreInLine : List PV → Option (Bool × List TR)
  | [.v (.int .i64 p), .v (.agg ⟨[.int .i64 a0, .int .i64 a1, .int .i64 a2]⟩), .v (.agg ⟨[.int .i64 b0, .int .i64 b1, .int .i64 b2]⟩), .v (.agg ⟨[.int .i64 c0, .int .i64 c1, .int .i64 c2]⟩)] => some (true, enc_b_i (i_AreInLine p (a0, a1, a2) (b0, b1, b2) (c0, c1, c2)))
  | _ => none
theorem sound_i_AreInLine : Sound Try.prog 12 run_i_AreInLine := by
  refine sound_of de_b_i SO_i_AreInLine (by kernel_rfl) Try.func12 Try.ntmps12 rfl (by kernel_rfl) ?_
  intro W pvs avs rs hargs hrun
  unfold run_i_AreInLine at hrun
  split at hrun
  · simp only [Option.some.injEq, Prod.mk.injEq] at hrun
    obtain ⟨hp, rfl⟩ := hrun
    rename_i p a0 a1 a2 b0 b1 b2 c0 c1 c2
    exact ⟨_, _, _, hargs, rfl, (eq_i_AreInLine p (a0, a1, a2) (b0, b1, b2) (c0, c1, c2)).trans (tot_i_AreInLine p (a0, a1, a2) (b0, b1, b2) (c0, c1, c2))⟩
  · cases hrun

def S_s_AreInLine : Sums := ⟨tblS [(50, run_s_l09Code), (51, run_s_l09Join), (54, run_s_l09Product)], tblM []⟩
theorem SO_s_AreInLine : SumsOK Try.prog S_s_AreInLine := ⟨tblS_ok ⟨⟨Try.call50, sound_s_l09Code⟩, ⟨Try.call51, sound_s_l09Join⟩, ⟨Try.call54, sound_s_l09Product⟩, True.intro⟩, tblM_ok True.intro⟩
def Fo_s_AreInLine (p : Int) (a : Int × Int × Int) (b : Int × Int × Int) (c : Int × Int × Int) : Option (Bool × Int) :=
  (if ((s_l09Code p [a, b, c]) != 0) = true then some (false, (s_l09Code p [a, b, c])) else (if (a == b) = true then some (true, 0) else (if (prB p) = true then (if (prB p) = true then some ((s_l09Product p (s_l09Join p a b) c) == 0, 0) else none) else none)))
theorem eq_s_AreInLine (p : Int) (a : Int × Int × Int) (b : Int × Int × Int) (c : Int × Int × Int) : execT Try.prog S_s_AreInLine 27 33 (fun _ => 1000000) dec_b_i [.v (.int .i64 p), .v (.agg ⟨[.int .i64 a.1, .int .i64 a.2.1, .int .i64 a.2.2]⟩), .v (.agg ⟨[.int .i64 b.1, .int .i64 b.2.1, .int .i64 b.2.2]⟩), .v (.agg ⟨[.int .i64 c.1, .int .i64 c.2.1, .int .i64 c.2.2]⟩)] = Fo_s_AreInLine p a b c := by
  kernel_rfl
def s_AreInLine (p : Int) (a : Int × Int × Int) (b : Int × Int × Int) (c : Int × Int × Int) : Bool × Int :=
  (if ((s_l09Code p [a, b, c]) != 0) = true then (false, (s_l09Code p [a, b, c])) else (if (a == b) = true then (true, 0) else ((s_l09Product p (s_l09Join p a b) c) == 0, 0)))
theorem tot_s_AreInLine (p : Int) (a : Int × Int × Int) (b : Int × Int × Int) (c : Int × Int × Int) : Fo_s_AreInLine p a b c = some (s_AreInLine p a b c) := by
  unfold Fo_s_AreInLine s_AreInLine
  (try simp only [wI_eq])
  repeat' (first | with_reducible rfl | refine chk_opt (by first | with_reducible rfl | exact Bool.true_or _ | (with_reducible exact l09Code_prB ‹_›) | (with_reducible exact l09Code_prB0 ‹_›) | exact mk_ok (by (first | (with_reducible assumption) | (with_reducible exact l09Code_prB ‹_›) | (with_reducible exact l09Code_prB0 ‹_›))) | exact and_all (by (first | (with_reducible assumption) | (with_reducible exact l09Code_prB ‹_›) | (with_reducible exact l09Code_prB0 ‹_›))) (fun _ => rfl) | exact and_all (by (first | (with_reducible assumption) | (with_reducible exact l09Code_prB ‹_›) | (with_reducible exact l09Code_prB0 ‹_›))) (fun _ => by (first | (with_reducible assumption) | (with_reducible exact l09Code_prB ‹_›) | (with_reducible exact l09Code_prB0 ‹_›))) | exact and3 (by (first | (with_reducible assumption) | (with_reducible exact l09Code_prB ‹_›) | (with_reducible exact l09Code_prB0 ‹_›))) (by (first | (with_reducible assumption) | (with_reducible exact l09Code_prB ‹_›) | (with_reducible exact l09Code_prB0 ‹_›))) (by (first | (with_reducible assumption) | (with_reducible exact l09Code_prB ‹_›) | (with_reducible exact l09Code_prB0 ‹_›))) | exact and_two (by (first | (with_reducible assumption) | (with_reducible exact l09Code_prB ‹_›) | (with_reducible exact l09Code_prB0 ‹_›))) rfl | rfl) ?_ | refine ite_opt (fun _ => ?_) (fun _ => ?_) | rfl)
def run_s_AreInLine : List PV → Option (Bool × List TR)
  | [.v (.int .i64 p), .v (.agg ⟨[.int .i64 a0, .int .i64 a1, .int .i64 a2]⟩), .v (.agg ⟨[.int .i64 b0, .int .i64 b1, .int .i64 b2]⟩), .v (.agg ⟨[.int .i64 c0, .int .i64 c1, .int .i64 c2]⟩)] => some (true, enc_b_i (s_AreInLine p (a0, a1, a2) (b0, b1, b2) (c0, c1, c2)))
  | _ => none
theorem sound_s_AreInLine : Sound Try.prog 27 run_s_AreInLine := by
  refine sound_of de_b_i SO_s_AreInLine (by kernel_rfl) Try.func27 Try.ntmps27 rfl (by kernel_rfl) ?_
  intro W pvs avs rs hargs hrun
  unfold run_s_AreInLine at hrun
  split at hrun
  · simp only [Option.some.injEq, Prod.mk.injEq] at hrun
    obtain ⟨hp, rfl⟩ := hrun
    rename_i p a0 a1 a2 b0 b1 b2 c0 c1 c2
    exact ⟨_, _, _, hargs, rfl, (eq_s_AreInLine p (a0, a1, a2) (b0, b1, b2) (c0, c1, c2)).trans (tot_s_AreInLine p (a0, a1, a2) (b0, b1, b2) (c0, c1, c2))⟩
  · cases hrun

def S_i_PlaceOf_c1 : Sums := ⟨tblS [(75, run_i_areNumbers)], tblM []⟩
theorem SO_i_PlaceOf_c1 : SumsOK Try.prog S_i_PlaceOf_c1 := ⟨tblS_ok ⟨⟨Try.call75, sound_i_areNumbers⟩, True.intro⟩, tblM_ok True.intro⟩
def Fo_i_PlaceOf_c1 (c0 : Int) (c1 : Int) (c2 : Int) (c3 : Int) : Option (Bool) :=
  some (i_areNumbers c0 [c1, c2, c3])
theorem eq_i_PlaceOf_c1 (c0 : Int) (c1 : Int) (c2 : Int) (c3 : Int) : execT Try.prog S_i_PlaceOf_c1 74 11 (fun _ => 1000000) dec_b [.p [.int .i64 c0], .p [.int .i64 c1], .p [.int .i64 c2], .p [.int .i64 c3]] = Fo_i_PlaceOf_c1 c0 c1 c2 c3 := by
  kernel_rfl
def i_PlaceOf_c1 (c0 : Int) (c1 : Int) (c2 : Int) (c3 : Int) : Bool :=
  (i_areNumbers c0 [c1, c2, c3])
theorem tot_i_PlaceOf_c1 (c0 : Int) (c1 : Int) (c2 : Int) (c3 : Int) : Fo_i_PlaceOf_c1 c0 c1 c2 c3 = some (i_PlaceOf_c1 c0 c1 c2 c3) := by
  unfold Fo_i_PlaceOf_c1 i_PlaceOf_c1
  (try simp only [wI_eq])
  repeat' (first | with_reducible rfl | refine ite_opt (fun _ => ?_) (fun _ => ?_) | rfl)
def run_i_PlaceOf_c1 : List PV → Option (Bool × List TR)
  | [.p [.int .i64 c0], .p [.int .i64 c1], .p [.int .i64 c2], .p [.int .i64 c3]] => some (true, enc_b (i_PlaceOf_c1 c0 c1 c2 c3))
  | _ => none
theorem sound_i_PlaceOf_c1 : Sound Try.prog 74 run_i_PlaceOf_c1 := by
  refine sound_of de_b SO_i_PlaceOf_c1 (by kernel_rfl) Try.func74 Try.ntmps74 rfl (by kernel_rfl) ?_
  intro W pvs avs rs hargs hrun
  unfold run_i_PlaceOf_c1 at hrun
  split at hrun
  · simp only [Option.some.injEq, Prod.mk.injEq] at hrun
    obtain ⟨hp, rfl⟩ := hrun
    rename_i c0 c1 c2 c3
    exact ⟨_, _, _, hargs, rfl, (eq_i_PlaceOf_c1 c0 c1 c2 c3).trans (tot_i_PlaceOf_c1 c0 c1 c2 c3)⟩
  · cases hrun

def S_i_PlaceOf : Sums := ⟨tblS [(46, run_i_asked), (74, run_i_PlaceOf_c1), (76, run_i_makePlace)], tblM []⟩
theorem SO_i_PlaceOf : SumsOK Try.prog S_i_PlaceOf := ⟨tblS_ok ⟨⟨Try.call46, sound_i_asked⟩, ⟨Try.call74, sound_i_PlaceOf_c1⟩, ⟨Try.call76, sound_i_makePlace⟩, True.intro⟩, tblM_ok True.intro⟩
def Fo_i_PlaceOf (p : Int) (x : Int) (y : Int) (z : Int) : Option ((Int × Int × Int) × Int) :=
  (if ((true) || !(i_IsField p)) = true then (if ((i_asked p (true) (i_PlaceOf_c1 p x y z)) != 0) = true then some ((0, 0, 0), (i_asked p (true) (i_PlaceOf_c1 p x y z))) else (if (x == 0) = true then (if (y == 0) = true then (if (z == 0) = true then some ((0, 0, 0), 5) else (if (prB p) = true then some ((i_makePlace p (x, y, z)), 0) else none)) else (if (prB p) = true then some ((i_makePlace p (x, y, z)), 0) else none)) else (if (prB p) = true then some ((i_makePlace p (x, y, z)), 0) else none))) else none)
theorem eq_i_PlaceOf (p : Int) (x : Int) (y : Int) (z : Int) : execT Try.prog S_i_PlaceOf 24 35 (fun _ => 1000000) dec_a3_i [.v (.int .i64 p), .v (.int .i64 x), .v (.int .i64 y), .v (.int .i64 z)] = Fo_i_PlaceOf p x y z := by
  kernel_rfl
def i_PlaceOf (p : Int) (x : Int) (y : Int) (z : Int) : (Int × Int × Int) × Int :=
  (if ((i_asked p (true) (i_PlaceOf_c1 p x y z)) != 0) = true then ((0, 0, 0), (i_asked p (true) (i_PlaceOf_c1 p x y z))) else (if (x == 0) = true then (if (y == 0) = true then (if (z == 0) = true then ((0, 0, 0), 5) else ((i_makePlace p (x, y, z)), 0)) else ((i_makePlace p (x, y, z)), 0)) else ((i_makePlace p (x, y, z)), 0)))
theorem tot_i_PlaceOf (p : Int) (x : Int) (y : Int) (z : Int) : Fo_i_PlaceOf p x y z = some (i_PlaceOf p x y z) := by
  unfold Fo_i_PlaceOf i_PlaceOf
  (try simp only [wI_eq])
  repeat' (first | with_reducible rfl | refine chk_opt (by first | with_reducible rfl | exact Bool.true_or _ | (with_reducible exact asked_prB ‹_›) | (with_reducible exact asked_prB0 ‹_›) | exact mk_ok (by (first | (with_reducible assumption) | (with_reducible exact asked_prB ‹_›) | (with_reducible exact asked_prB0 ‹_›))) | exact and_all (by (first | (with_reducible assumption) | (with_reducible exact asked_prB ‹_›) | (with_reducible exact asked_prB0 ‹_›))) (fun _ => rfl) | exact and_all (by (first | (with_reducible assumption) | (with_reducible exact asked_prB ‹_›) | (with_reducible exact asked_prB0 ‹_›))) (fun _ => by (first | (with_reducible assumption) | (with_reducible exact asked_prB ‹_›) | (with_reducible exact asked_prB0 ‹_›))) | exact and3 (by (first | (with_reducible assumption) | (with_reducible exact asked_prB ‹_›) | (with_reducible exact asked_prB0 ‹_›))) (by (first | (with_reducible assumption) | (with_reducible exact asked_prB ‹_›) | (with_reducible exact asked_prB0 ‹_›))) (by (first | (with_reducible assumption) | (with_reducible exact asked_prB ‹_›) | (with_reducible exact asked_prB0 ‹_›))) | exact and_two (by (first | (with_reducible assumption) | (with_reducible exact asked_prB ‹_›) | (with_reducible exact asked_prB0 ‹_›))) rfl | rfl) ?_ | refine ite_opt (fun _ => ?_) (fun _ => ?_) | rfl)
def run_i_PlaceOf : List PV → Option (Bool × List TR)
  | [.v (.int .i64 p), .v (.int .i64 x), .v (.int .i64 y), .v (.int .i64 z)] => some (true, enc_a3_i (i_PlaceOf p x y z))
  | _ => none
theorem sound_i_PlaceOf : Sound Try.prog 24 run_i_PlaceOf := by
  refine sound_of de_a3_i SO_i_PlaceOf (by kernel_rfl) Try.func24 Try.ntmps24 rfl (by kernel_rfl) ?_
  intro W pvs avs rs hargs hrun
  unfold run_i_PlaceOf at hrun
  split at hrun
  · simp only [Option.some.injEq, Prod.mk.injEq] at hrun
    obtain ⟨hp, rfl⟩ := hrun
    rename_i p x y z
    exact ⟨_, _, _, hargs, rfl, (eq_i_PlaceOf p x y z).trans (tot_i_PlaceOf p x y z)⟩
  · cases hrun

def S_s_l01Numbers : Sums := ⟨tblS [(94, run_s_l01Field), (100, run_s_l01In)], tblM []⟩
theorem SO_s_l01Numbers : SumsOK Try.prog S_s_l01Numbers := ⟨tblS_ok ⟨⟨Try.call94, sound_s_l01Field⟩, ⟨Try.call100, sound_s_l01In⟩, True.intro⟩, tblM_ok True.intro⟩
def T_s_l01Numbers_0 (p : Int) (listn : Nat) (listl : List Int) (i : Int) : Tab := ⟨[.val (.int .i64 p), .row 4, .junk, .junk, .val (.int .i64 0), .val (.int .i64 i), .val (.int .i64 p), .val (.bool (s_l01Field p)), .val (.bool (!(s_l01Field p))), .junk, .junk, .junk, .junk, .junk, .junk, .junk, .junk, .junk, .junk, .junk, .junk, .junk, .junk], [(4, .ros listn (.ints listl))]⟩
def X_s_l01Numbers_0 (P : Program) (fu : Nat) (p : Int) (listn : Nat) (listl : List Int) (f : Nat) (i : Int) : Option (Int) := loopK (exec P S_s_l01Numbers 23 (fun _ => fu + 100) (Code.sub [1, 1, 0, 1, 0, 0] (bodyF P 77))) f (T_s_l01Numbers_0 p listn listl i) (kBlock 0 (kSeq (fun s => exec P S_s_l01Numbers 23 (fun _ => fu + 100) (Code.sub [1, 1, 1] (bodyF P 77)) s (finT P 77 dec_i)) (finT P 77 dec_i)))
def B_s_l01Numbers_0 (p : Int) (listn : Nat) (listl : List Int) (rec0 : Int → Option (Int)) (i : Int) : Option (Int) :=
  (if (decide (i < ((listn : Nat) : Int))) = true then (if (decide (0 ≤ i) && decide (i < ((listn : Nat) : Int))) = true then (if (Nat.ble (i.toNat * 1 + 1) listl.length) = true then (if (!(s_l01In (listl.getD (i.toNat * 1) 0) 0 (wI (p - 1)))) = true then some 2 else rec0 (wI (i + 1))) else none) else none) else some 0)
def L_s_l01Numbers_0 (fu : Nat) (p : Int) (listn : Nat) (listl : List Int) : Nat → Int → Option (Int)
  | 0, _ => none
  | f + 1, i => B_s_l01Numbers_0 p listn listl (L_s_l01Numbers_0 fu p listn listl f) i
theorem loop_s_l01Numbers_0 (fu : Nat) (p : Int) (listn : Nat) (listl : List Int) : ∀ (f : Nat) (i : Int), X_s_l01Numbers_0 Try.prog fu p listn listl f i = L_s_l01Numbers_0 fu p listn listl f i := by
  intro f
  induction f with
  | zero => intros; rfl
  | succ f ih =>
    intro i
    have h1 : X_s_l01Numbers_0 Try.prog fu p listn listl (f + 1) i = B_s_l01Numbers_0 p listn listl (X_s_l01Numbers_0 Try.prog fu p listn listl f) i := by kernel_rfl
    have h2 : X_s_l01Numbers_0 Try.prog fu p listn listl f = L_s_l01Numbers_0 fu p listn listl f := by funext i; exact ih i
    rw [h1, h2]
    rfl
def G_s_l01Numbers (p : Int) (listn : Nat) (listl : List Int) (lo0 : Int → Option (Int)) : Option (Int) :=
  (if (!(s_l01Field p)) = true then some 1 else lo0 0)
def Fo_s_l01Numbers (fu : Nat) (p : Int) (listn : Nat) (listl : List Int) : Option (Int) := G_s_l01Numbers p listn listl (L_s_l01Numbers_0 fu p listn listl (fu + 100))
theorem eqg_s_l01Numbers (fu : Nat) (p : Int) (listn : Nat) (listl : List Int) : execT Try.prog S_s_l01Numbers 77 23 (fun _ => fu + 100) dec_i [.v (.int .i64 p), .s listn (.ints listl)] = G_s_l01Numbers p listn listl (L_s_l01Numbers_0 fu p listn listl (fu + 100)) := by
  have h1 : execT Try.prog S_s_l01Numbers 77 23 (fun _ => fu + 100) dec_i [.v (.int .i64 p), .s listn (.ints listl)] = G_s_l01Numbers p listn listl (X_s_l01Numbers_0 Try.prog fu p listn listl (fu + 100)) := by kernel_rfl
  have c0 : X_s_l01Numbers_0 Try.prog fu p listn listl (fu + 100) = L_s_l01Numbers_0 fu p listn listl (fu + 100) := by funext i; exact loop_s_l01Numbers_0 fu p listn listl (fu + 100) i
  rw [h1, c0]
theorem eq_s_l01Numbers (fu : Nat) (p : Int) (listn : Nat) (listl : List Int) : execT Try.prog S_s_l01Numbers 77 23 (fun _ => fu + 100) dec_i [.v (.int .i64 p), .s listn (.ints listl)] = Fo_s_l01Numbers fu p listn listl := eqg_s_l01Numbers fu p listn listl
def s_l01Numbers (p : Int) (l : List Int) : Int := if s_l01Field p = true then (if l.all (fun x => s_l01In x 0 (wrap64 (p - 1))) = true then 0 else 2) else 1
theorem l01Numbers_prB {p : Int} {l : List Int} (h : ¬ (s_l01Numbers p l != 0) = true) : prB p = true := by
  refine Pr_prB (i_IsField_ok ?_)
  have h : s_l01Numbers p l = 0 := by simpa using h
  cases hf : i_IsField p
  · simp [s_l01Numbers, s_l01Field, hf] at h
  · rfl
theorem l01Numbers_prB0 {p : Int} {l : List Int} (h : (s_l01Numbers p l == 0) = true) : prB p = true := l01Numbers_prB (by simpa using h)
theorem tot_s_l01Numbers (p : Int) (listn : Nat) (listl : List Int) (hp : (lenB listn 1 listl) = true) : Fo_s_l01Numbers listn p listn listl = some (s_l01Numbers p listl) := by
  obtain ⟨hl, hn⟩ := lenB_ok hp
  have key : ∀ F, listn < F → (L_s_l01Numbers_0 listn p listn listl) F 0 = some (if (List.range listn).all (fun k => (fun x => s_l01In x 0 (wrap64 (p - 1))) (listl.getD (k * 1) 0)) = true then 0 else 2) := by
    intro F hF
    refine scan hF (fun f k hk => ?_) fun f => ?_
    · show B_s_l01Numbers_0 p listn listl ((L_s_l01Numbers_0 listn p listn listl) f) (k : Int) = _
      unfold B_s_l01Numbers_0
      rw [if_pos (by simpa using hk), if_pos (by simpa using hk), if_pos (leb (by rw [hl, Int.toNat_natCast]; omega)), wrap_add1 hk (by omega)]
      first | rfl | (rw [wI_eq]; rfl)
    · show B_s_l01Numbers_0 p listn listl ((L_s_l01Numbers_0 listn p listn listl) f) ((listn : Nat) : Int) = _
      unfold B_s_l01Numbers_0
      rw [if_neg (by simp)]
  unfold Fo_s_l01Numbers G_s_l01Numbers
  show _ = some (if s_l01Field p = true then (if (listl).all (fun x => s_l01In x 0 (wrap64 (p - 1))) = true then 0 else 2) else 1)
  cases hf : s_l01Field p
  · rfl
  · rw [key _ (by omega), all_rows1 listn listl (by omega)]
    rfl
def run_s_l01Numbers : List PV → Option (Bool × List TR)
  | [.v (.int .i64 p), .s listn (.ints listl)] => some (lenB listn 1 listl, enc_i (s_l01Numbers p listl))
  | _ => none
theorem sound_s_l01Numbers : Sound Try.prog 77 run_s_l01Numbers := by
  refine sound_of de_i SO_s_l01Numbers (by kernel_rfl) Try.func77 Try.ntmps77 rfl (by kernel_rfl) ?_
  intro W pvs avs rs hargs hrun
  unfold run_s_l01Numbers at hrun
  split at hrun
  · simp only [Option.some.injEq, Prod.mk.injEq] at hrun
    obtain ⟨hp, rfl⟩ := hrun
    rename_i p listn listl
    exact ⟨_, _, _, hargs, rfl, (eq_s_l01Numbers _ p listn listl).trans (tot_s_l01Numbers p listn listl hp)⟩
  · cases hrun

def S_s_PlaceOf : Sums := ⟨tblS [(77, run_s_l01Numbers), (78, run_s_l09Made)], tblM []⟩
theorem SO_s_PlaceOf : SumsOK Try.prog S_s_PlaceOf := ⟨tblS_ok ⟨⟨Try.call77, sound_s_l01Numbers⟩, ⟨Try.call78, sound_s_l09Made⟩, True.intro⟩, tblM_ok True.intro⟩
def Fo_s_PlaceOf (p : Int) (x : Int) (y : Int) (z : Int) : Option ((Int × Int × Int) × Int) :=
  (if ((s_l01Numbers p [x, y, z]) != 0) = true then some ((0, 0, 0), (s_l01Numbers p [x, y, z])) else (if (x == 0) = true then (if (y == 0) = true then (if (z == 0) = true then some ((0, 0, 0), 5) else (if (prB p) = true then some ((s_l09Made p x y z), 0) else none)) else (if (prB p) = true then some ((s_l09Made p x y z), 0) else none)) else (if (prB p) = true then some ((s_l09Made p x y z), 0) else none)))
theorem eq_s_PlaceOf (p : Int) (x : Int) (y : Int) (z : Int) : execT Try.prog S_s_PlaceOf 25 37 (fun _ => 1000000) dec_a3_i [.v (.int .i64 p), .v (.int .i64 x), .v (.int .i64 y), .v (.int .i64 z)] = Fo_s_PlaceOf p x y z := by
  kernel_rfl
def s_PlaceOf (p : Int) (x : Int) (y : Int) (z : Int) : (Int × Int × Int) × Int :=
  (if ((s_l01Numbers p [x, y, z]) != 0) = true then ((0, 0, 0), (s_l01Numbers p [x, y, z])) else (if (x == 0) = true then (if (y == 0) = true then (if (z == 0) = true then ((0, 0, 0), 5) else ((s_l09Made p x y z), 0)) else ((s_l09Made p x y z), 0)) else ((s_l09Made p x y z), 0)))
theorem tot_s_PlaceOf (p : Int) (x : Int) (y : Int) (z : Int) : Fo_s_PlaceOf p x y z = some (s_PlaceOf p x y z) := by
  unfold Fo_s_PlaceOf s_PlaceOf
  (try simp only [wI_eq])
  repeat' (first | with_reducible rfl | refine chk_opt (by first | with_reducible rfl | exact Bool.true_or _ | (with_reducible exact l01Numbers_prB ‹_›) | (with_reducible exact l01Numbers_prB0 ‹_›) | exact mk_ok (by (first | (with_reducible assumption) | (with_reducible exact l01Numbers_prB ‹_›) | (with_reducible exact l01Numbers_prB0 ‹_›))) | exact and_all (by (first | (with_reducible assumption) | (with_reducible exact l01Numbers_prB ‹_›) | (with_reducible exact l01Numbers_prB0 ‹_›))) (fun _ => rfl) | exact and_all (by (first | (with_reducible assumption) | (with_reducible exact l01Numbers_prB ‹_›) | (with_reducible exact l01Numbers_prB0 ‹_›))) (fun _ => by (first | (with_reducible assumption) | (with_reducible exact l01Numbers_prB ‹_›) | (with_reducible exact l01Numbers_prB0 ‹_›))) | exact and3 (by (first | (with_reducible assumption) | (with_reducible exact l01Numbers_prB ‹_›) | (with_reducible exact l01Numbers_prB0 ‹_›))) (by (first | (with_reducible assumption) | (with_reducible exact l01Numbers_prB ‹_›) | (with_reducible exact l01Numbers_prB0 ‹_›))) (by (first | (with_reducible assumption) | (with_reducible exact l01Numbers_prB ‹_›) | (with_reducible exact l01Numbers_prB0 ‹_›))) | exact and_two (by (first | (with_reducible assumption) | (with_reducible exact l01Numbers_prB ‹_›) | (with_reducible exact l01Numbers_prB0 ‹_›))) rfl | rfl) ?_ | refine ite_opt (fun _ => ?_) (fun _ => ?_) | rfl)
def run_s_PlaceOf : List PV → Option (Bool × List TR)
  | [.v (.int .i64 p), .v (.int .i64 x), .v (.int .i64 y), .v (.int .i64 z)] => some (true, enc_a3_i (s_PlaceOf p x y z))
  | _ => none
theorem sound_s_PlaceOf : Sound Try.prog 25 run_s_PlaceOf := by
  refine sound_of de_a3_i SO_s_PlaceOf (by kernel_rfl) Try.func25 Try.ntmps25 rfl (by kernel_rfl) ?_
  intro W pvs avs rs hargs hrun
  unfold run_s_PlaceOf at hrun
  split at hrun
  · simp only [Option.some.injEq, Prod.mk.injEq] at hrun
    obtain ⟨hp, rfl⟩ := hrun
    rename_i p x y z
    exact ⟨_, _, _, hargs, rfl, (eq_s_PlaceOf p x y z).trans (tot_s_PlaceOf p x y z)⟩
  · cases hrun

def S_i_PlacesOn_c1 : Sums := ⟨tblS [(56, run_i_isPlace)], tblM []⟩
theorem SO_i_PlacesOn_c1 : SumsOK Try.prog S_i_PlacesOn_c1 := ⟨tblS_ok ⟨⟨Try.call56, sound_i_isPlace⟩, True.intro⟩, tblM_ok True.intro⟩
def Fo_i_PlacesOn_c1 (c0 : Int) (c1 : Int × Int × Int) : Option (Bool) :=
  some (i_isPlace c0 c1)
theorem eq_i_PlacesOn_c1 (c0 : Int) (c1 : Int × Int × Int) : execT Try.prog S_i_PlacesOn_c1 55 6 (fun _ => 1000000) dec_b [.p [.int .i64 c0], .p [.int .i64 c1.1, .int .i64 c1.2.1, .int .i64 c1.2.2]] = Fo_i_PlacesOn_c1 c0 c1 := by
  kernel_rfl
def i_PlacesOn_c1 (c0 : Int) (c1 : Int × Int × Int) : Bool :=
  (i_isPlace c0 c1)
theorem tot_i_PlacesOn_c1 (c0 : Int) (c1 : Int × Int × Int) : Fo_i_PlacesOn_c1 c0 c1 = some (i_PlacesOn_c1 c0 c1) := by
  unfold Fo_i_PlacesOn_c1 i_PlacesOn_c1
  (try simp only [wI_eq])
  repeat' (first | with_reducible rfl | refine ite_opt (fun _ => ?_) (fun _ => ?_) | rfl)
def run_i_PlacesOn_c1 : List PV → Option (Bool × List TR)
  | [.p [.int .i64 c0], .p [.int .i64 c10, .int .i64 c11, .int .i64 c12]] => some (true, enc_b (i_PlacesOn_c1 c0 (c10, c11, c12)))
  | _ => none
theorem sound_i_PlacesOn_c1 : Sound Try.prog 55 run_i_PlacesOn_c1 := by
  refine sound_of de_b SO_i_PlacesOn_c1 (by kernel_rfl) Try.func55 Try.ntmps55 rfl (by kernel_rfl) ?_
  intro W pvs avs rs hargs hrun
  unfold run_i_PlacesOn_c1 at hrun
  split at hrun
  · simp only [Option.some.injEq, Prod.mk.injEq] at hrun
    obtain ⟨hp, rfl⟩ := hrun
    rename_i c0 c10 c11 c12
    exact ⟨_, _, _, hargs, rfl, (eq_i_PlacesOn_c1 c0 (c10, c11, c12)).trans (tot_i_PlacesOn_c1 c0 (c10, c11, c12))⟩
  · cases hrun

def S_i_PlacesOn : Sums := ⟨tblS [(46, run_i_asked), (55, run_i_PlacesOn_c1), (57, run_i_placesOn)], tblM []⟩
theorem SO_i_PlacesOn : SumsOK Try.prog S_i_PlacesOn := ⟨tblS_ok ⟨⟨Try.call46, sound_i_asked⟩, ⟨Try.call55, sound_i_PlacesOn_c1⟩, ⟨Try.call57, sound_i_placesOn⟩, True.intro⟩, tblM_ok True.intro⟩
def Fo_i_PlacesOn (p : Int) (pole : Int × Int × Int) : Option ((Nat × List Int) × Int) :=
  (if ((true) || !(i_IsField p)) = true then (if ((i_asked p (true) (i_PlacesOn_c1 p pole)) != 0) = true then some ((0, []), (i_asked p (true) (i_PlacesOn_c1 p pole))) else (if (prB p) = true then some (((i_placesOn p pole).1, (i_placesOn p pole).2), 0) else none)) else none)
theorem eq_i_PlacesOn (p : Int) (pole : Int × Int × Int) : execT Try.prog S_i_PlacesOn 11 16 (fun _ => 1000000) dec_l25_3_i [.v (.int .i64 p), .v (.agg ⟨[.int .i64 pole.1, .int .i64 pole.2.1, .int .i64 pole.2.2]⟩)] = Fo_i_PlacesOn p pole := by
  kernel_rfl
def i_PlacesOn (p : Int) (pole : Int × Int × Int) : (Nat × List Int) × Int :=
  (if ((i_asked p (true) (i_PlacesOn_c1 p pole)) != 0) = true then ((0, []), (i_asked p (true) (i_PlacesOn_c1 p pole))) else (((i_placesOn p pole).1, (i_placesOn p pole).2), 0))
theorem tot_i_PlacesOn (p : Int) (pole : Int × Int × Int) : Fo_i_PlacesOn p pole = some (i_PlacesOn p pole) := by
  unfold Fo_i_PlacesOn i_PlacesOn
  (try simp only [wI_eq])
  repeat' (first | with_reducible rfl | refine chk_opt (by first | with_reducible rfl | exact Bool.true_or _ | (with_reducible exact asked_prB ‹_›) | (with_reducible exact asked_prB0 ‹_›) | exact mk_ok (by (first | (with_reducible assumption) | (with_reducible exact asked_prB ‹_›) | (with_reducible exact asked_prB0 ‹_›))) | exact and_all (by (first | (with_reducible assumption) | (with_reducible exact asked_prB ‹_›) | (with_reducible exact asked_prB0 ‹_›))) (fun _ => rfl) | exact and_all (by (first | (with_reducible assumption) | (with_reducible exact asked_prB ‹_›) | (with_reducible exact asked_prB0 ‹_›))) (fun _ => by (first | (with_reducible assumption) | (with_reducible exact asked_prB ‹_›) | (with_reducible exact asked_prB0 ‹_›))) | exact and3 (by (first | (with_reducible assumption) | (with_reducible exact asked_prB ‹_›) | (with_reducible exact asked_prB0 ‹_›))) (by (first | (with_reducible assumption) | (with_reducible exact asked_prB ‹_›) | (with_reducible exact asked_prB0 ‹_›))) (by (first | (with_reducible assumption) | (with_reducible exact asked_prB ‹_›) | (with_reducible exact asked_prB0 ‹_›))) | exact and_two (by (first | (with_reducible assumption) | (with_reducible exact asked_prB ‹_›) | (with_reducible exact asked_prB0 ‹_›))) rfl | rfl) ?_ | refine ite_opt (fun _ => ?_) (fun _ => ?_) | rfl)
def run_i_PlacesOn : List PV → Option (Bool × List TR)
  | [.v (.int .i64 p), .v (.agg ⟨[.int .i64 pole0, .int .i64 pole1, .int .i64 pole2]⟩)] => some (true, enc_l25_3_i (i_PlacesOn p (pole0, pole1, pole2)))
  | _ => none
theorem sound_i_PlacesOn : Sound Try.prog 11 run_i_PlacesOn := by
  refine sound_of de_l25_3_i SO_i_PlacesOn (by kernel_rfl) Try.func11 Try.ntmps11 rfl (by kernel_rfl) ?_
  intro W pvs avs rs hargs hrun
  unfold run_i_PlacesOn at hrun
  split at hrun
  · simp only [Option.some.injEq, Prod.mk.injEq] at hrun
    obtain ⟨hp, rfl⟩ := hrun
    rename_i p pole0 pole1 pole2
    exact ⟨_, _, _, hargs, rfl, (eq_i_PlacesOn p (pole0, pole1, pole2)).trans (tot_i_PlacesOn p (pole0, pole1, pole2))⟩
  · cases hrun

def S_s_PlacesOn : Sums := ⟨tblS [(50, run_s_l09Code), (71, run_s_l09On)], tblM []⟩
theorem SO_s_PlacesOn : SumsOK Try.prog S_s_PlacesOn := ⟨tblS_ok ⟨⟨Try.call50, sound_s_l09Code⟩, ⟨Try.call71, sound_s_l09On⟩, True.intro⟩, tblM_ok True.intro⟩
def Fo_s_PlacesOn (p : Int) (pole : Int × Int × Int) : Option ((Nat × List Int) × Int) :=
  (if ((s_l09Code p [pole]) != 0) = true then some ((0, []), (s_l09Code p [pole])) else (if (prB p) = true then some (((s_l09On p pole).1, (s_l09On p pole).2), 0) else none))
theorem eq_s_PlacesOn (p : Int) (pole : Int × Int × Int) : execT Try.prog S_s_PlacesOn 20 17 (fun _ => 1000000) dec_l25_3_i [.v (.int .i64 p), .v (.agg ⟨[.int .i64 pole.1, .int .i64 pole.2.1, .int .i64 pole.2.2]⟩)] = Fo_s_PlacesOn p pole := by
  kernel_rfl
def s_PlacesOn (p : Int) (pole : Int × Int × Int) : (Nat × List Int) × Int :=
  (if ((s_l09Code p [pole]) != 0) = true then ((0, []), (s_l09Code p [pole])) else (((s_l09On p pole).1, (s_l09On p pole).2), 0))
theorem tot_s_PlacesOn (p : Int) (pole : Int × Int × Int) : Fo_s_PlacesOn p pole = some (s_PlacesOn p pole) := by
  unfold Fo_s_PlacesOn s_PlacesOn
  (try simp only [wI_eq])
  repeat' (first | with_reducible rfl | refine chk_opt (by first | with_reducible rfl | exact Bool.true_or _ | (with_reducible exact l09Code_prB ‹_›) | (with_reducible exact l09Code_prB0 ‹_›) | exact mk_ok (by (first | (with_reducible assumption) | (with_reducible exact l09Code_prB ‹_›) | (with_reducible exact l09Code_prB0 ‹_›))) | exact and_all (by (first | (with_reducible assumption) | (with_reducible exact l09Code_prB ‹_›) | (with_reducible exact l09Code_prB0 ‹_›))) (fun _ => rfl) | exact and_all (by (first | (with_reducible assumption) | (with_reducible exact l09Code_prB ‹_›) | (with_reducible exact l09Code_prB0 ‹_›))) (fun _ => by (first | (with_reducible assumption) | (with_reducible exact l09Code_prB ‹_›) | (with_reducible exact l09Code_prB0 ‹_›))) | exact and3 (by (first | (with_reducible assumption) | (with_reducible exact l09Code_prB ‹_›) | (with_reducible exact l09Code_prB0 ‹_›))) (by (first | (with_reducible assumption) | (with_reducible exact l09Code_prB ‹_›) | (with_reducible exact l09Code_prB0 ‹_›))) (by (first | (with_reducible assumption) | (with_reducible exact l09Code_prB ‹_›) | (with_reducible exact l09Code_prB0 ‹_›))) | exact and_two (by (first | (with_reducible assumption) | (with_reducible exact l09Code_prB ‹_›) | (with_reducible exact l09Code_prB0 ‹_›))) rfl | rfl) ?_ | refine ite_opt (fun _ => ?_) (fun _ => ?_) | rfl)
def run_s_PlacesOn : List PV → Option (Bool × List TR)
  | [.v (.int .i64 p), .v (.agg ⟨[.int .i64 pole0, .int .i64 pole1, .int .i64 pole2]⟩)] => some (true, enc_l25_3_i (s_PlacesOn p (pole0, pole1, pole2)))
  | _ => none
theorem sound_s_PlacesOn : Sound Try.prog 20 run_s_PlacesOn := by
  refine sound_of de_l25_3_i SO_s_PlacesOn (by kernel_rfl) Try.func20 Try.ntmps20 rfl (by kernel_rfl) ?_
  intro W pvs avs rs hargs hrun
  unfold run_s_PlacesOn at hrun
  split at hrun
  · simp only [Option.some.injEq, Prod.mk.injEq] at hrun
    obtain ⟨hp, rfl⟩ := hrun
    rename_i p pole0 pole1 pole2
    exact ⟨_, _, _, hargs, rfl, (eq_s_PlacesOn p (pole0, pole1, pole2)).trans (tot_s_PlacesOn p (pole0, pole1, pole2))⟩
  · cases hrun

def S_i_NullPlaces_c1 : Sums := ⟨tblS [(61, run_i_isNullPlace)], tblM []⟩
theorem SO_i_NullPlaces_c1 : SumsOK Try.prog S_i_NullPlaces_c1 := ⟨tblS_ok ⟨⟨Try.call61, sound_i_isNullPlace⟩, True.intro⟩, tblM_ok True.intro⟩
def Fo_i_NullPlaces_c1 (a : Int × Int × Int) (c0 : Int) : Option (Bool) :=
  (if (prB c0) = true then some (i_isNullPlace c0 a) else none)
theorem eq_i_NullPlaces_c1 (a : Int × Int × Int) (c0 : Int) : execT Try.prog S_i_NullPlaces_c1 68 7 (fun _ => 1000000) dec_b [.v (.agg ⟨[.int .i64 a.1, .int .i64 a.2.1, .int .i64 a.2.2]⟩), .p [.int .i64 c0]] = Fo_i_NullPlaces_c1 a c0 := by
  kernel_rfl
def i_NullPlaces_c1 (a : Int × Int × Int) (c0 : Int) : Bool :=
  (i_isNullPlace c0 a)
theorem tot_i_NullPlaces_c1 (a : Int × Int × Int) (c0 : Int) (hp : (prB c0) = true) : Fo_i_NullPlaces_c1 a c0 = some (i_NullPlaces_c1 a c0) := by
  try have h0 := prB_ne hp
  unfold Fo_i_NullPlaces_c1 i_NullPlaces_c1
  (try simp only [wI_eq])
  repeat' (first | with_reducible rfl | with_reducible refine chk_opt hp ?_ | with_reducible refine chk_opt h0 ?_ | refine chk_opt (and_all hp fun _ => hp) ?_ | refine chk_opt (and_all hp fun _ => rfl) ?_ | refine ite_opt (fun _ => ?_) (fun _ => ?_) | rfl)
def run_i_NullPlaces_c1 : List PV → Option (Bool × List TR)
  | [.v (.agg ⟨[.int .i64 a0, .int .i64 a1, .int .i64 a2]⟩), .p [.int .i64 c0]] => some (prB c0, enc_b (i_NullPlaces_c1 (a0, a1, a2) c0))
  | _ => none
theorem sound_i_NullPlaces_c1 : Sound Try.prog 68 run_i_NullPlaces_c1 := by
  refine sound_of de_b SO_i_NullPlaces_c1 (by kernel_rfl) Try.func68 Try.ntmps68 rfl (by kernel_rfl) ?_
  intro W pvs avs rs hargs hrun
  unfold run_i_NullPlaces_c1 at hrun
  split at hrun
  · simp only [Option.some.injEq, Prod.mk.injEq] at hrun
    obtain ⟨hp, rfl⟩ := hrun
    rename_i a0 a1 a2 c0
    exact ⟨_, _, _, hargs, rfl, (eq_i_NullPlaces_c1 (a0, a1, a2) c0).trans (tot_i_NullPlaces_c1 (a0, a1, a2) c0 hp)⟩
  · cases hrun

def S_i_NullPlaces : Sums := ⟨tblS [(66, run_i_IsField), (67, run_i_placesWith), (68, run_i_NullPlaces_c1)], tblM []⟩
theorem SO_i_NullPlaces : SumsOK Try.prog S_i_NullPlaces := ⟨tblS_ok ⟨⟨Try.call66, sound_i_IsField⟩, ⟨Try.call67, sound_i_placesWith⟩, ⟨Try.call68, sound_i_NullPlaces_c1⟩, True.intro⟩, tblM_ok True.intro⟩
def Fo_i_NullPlaces (p : Int) : Option ((Nat × List Int) × Int) :=
  (if (!(i_IsField p)) = true then some ((0, []), 1) else (if (prB p && (places p).all (fun a0 => prB p)) = true then some (((i_placesWith p (fun a0 => prB p) (fun a0 => i_NullPlaces_c1 a0 p)).1, (i_placesWith p (fun a0 => prB p) (fun a0 => i_NullPlaces_c1 a0 p)).2), 0) else none))
theorem eq_i_NullPlaces (p : Int) : execT Try.prog S_i_NullPlaces 16 10 (fun _ => 1000000) dec_l25_3_i [.v (.int .i64 p)] = Fo_i_NullPlaces p := by
  kernel_rfl
def i_NullPlaces (p : Int) : (Nat × List Int) × Int :=
  (if (!(i_IsField p)) = true then ((0, []), 1) else (((i_placesWith p (fun a0 => prB p) (fun a0 => i_NullPlaces_c1 a0 p)).1, (i_placesWith p (fun a0 => prB p) (fun a0 => i_NullPlaces_c1 a0 p)).2), 0))
theorem tot_i_NullPlaces (p : Int) : Fo_i_NullPlaces p = some (i_NullPlaces p) := by
  unfold Fo_i_NullPlaces i_NullPlaces
  (try simp only [wI_eq])
  repeat' (first | with_reducible rfl | refine chk_opt (by first | with_reducible rfl | exact Bool.true_or _ | (with_reducible exact field_prB ‹_›) | (with_reducible exact field_prB0 ‹_›) | exact mk_ok (by (first | (with_reducible assumption) | (with_reducible exact field_prB ‹_›) | (with_reducible exact field_prB0 ‹_›))) | exact and_all (by (first | (with_reducible assumption) | (with_reducible exact field_prB ‹_›) | (with_reducible exact field_prB0 ‹_›))) (fun _ => rfl) | exact and_all (by (first | (with_reducible assumption) | (with_reducible exact field_prB ‹_›) | (with_reducible exact field_prB0 ‹_›))) (fun _ => by (first | (with_reducible assumption) | (with_reducible exact field_prB ‹_›) | (with_reducible exact field_prB0 ‹_›))) | exact and3 (by (first | (with_reducible assumption) | (with_reducible exact field_prB ‹_›) | (with_reducible exact field_prB0 ‹_›))) (by (first | (with_reducible assumption) | (with_reducible exact field_prB ‹_›) | (with_reducible exact field_prB0 ‹_›))) (by (first | (with_reducible assumption) | (with_reducible exact field_prB ‹_›) | (with_reducible exact field_prB0 ‹_›))) | exact and_two (by (first | (with_reducible assumption) | (with_reducible exact field_prB ‹_›) | (with_reducible exact field_prB0 ‹_›))) rfl | rfl) ?_ | refine ite_opt (fun _ => ?_) (fun _ => ?_) | rfl)
def run_i_NullPlaces : List PV → Option (Bool × List TR)
  | [.v (.int .i64 p)] => some (true, enc_l25_3_i (i_NullPlaces p))
  | _ => none
theorem sound_i_NullPlaces : Sound Try.prog 16 run_i_NullPlaces := by
  refine sound_of de_l25_3_i SO_i_NullPlaces (by kernel_rfl) Try.func16 Try.ntmps16 rfl (by kernel_rfl) ?_
  intro W pvs avs rs hargs hrun
  unfold run_i_NullPlaces at hrun
  split at hrun
  · simp only [Option.some.injEq, Prod.mk.injEq] at hrun
    obtain ⟨hp, rfl⟩ := hrun
    rename_i p
    exact ⟨_, _, _, hargs, rfl, (eq_i_NullPlaces p).trans (tot_i_NullPlaces p)⟩
  · cases hrun

def S_s_NullPlaces : Sums := ⟨tblS [(50, run_s_l09Code), (69, run_s_l09All), (70, run_s_l09Null)], tblM []⟩
theorem SO_s_NullPlaces : SumsOK Try.prog S_s_NullPlaces := ⟨tblS_ok ⟨⟨Try.call50, sound_s_l09Code⟩, ⟨Try.call69, sound_s_l09All⟩, ⟨Try.call70, sound_s_l09Null⟩, True.intro⟩, tblM_ok True.intro⟩
def T_s_NullPlaces_0 (p : Int) (l15 : List Int) (m15 : Nat) (i : Int) : Tab := ⟨[.val (.int .i64 p), .junk, .val (.slice none 0 0), .val (.int .i64 0), .val (.int .i64 (s_l09Code p [])), .row 56, .row 60, .val (.int .i64 i), .val (.int .i64 p), .val (.int .i64 (s_l09Code p [])), .val (.int .i64 (s_l09Code p [])), .val (.bool ((s_l09Code p []) != 0)), .junk, .val (.int .i64 p), .row 56, .junk, .junk, .junk, .junk, .junk, .junk, .junk, .junk, .junk, .junk, .junk, .junk, .junk, .junk, .junk, .junk, .junk, .junk, .junk, .junk, .junk], [(56, .row 25 3 ((s_l09All p).1) (.ints ((s_l09All p).2))), (60, .row 25 3 m15 (.ints l15))]⟩
def X_s_NullPlaces_0 (P : Program) (fu : Nat) (p : Int) (f : Nat) (l15 : List Int) (m15 : Nat) (i : Int) : Option ((Nat × List Int) × Int) := loopK (exec P S_s_NullPlaces 36 (fun _ => fu + 100) (Code.sub [1, 1, 1, 0, 1, 0, 0] (bodyF P 17))) f (T_s_NullPlaces_0 p l15 m15 i) (kBlock 0 (kSeq (fun s => exec P S_s_NullPlaces 36 (fun _ => fu + 100) (Code.sub [1, 1, 1, 1] (bodyF P 17)) s (finT P 17 dec_l25_3_i)) (finT P 17 dec_l25_3_i)))
def B_s_NullPlaces_0 (p : Int) (rec0 : (List Int) → Nat → Int → Option ((Nat × List Int) × Int)) (l15 : List Int) (m15 : Nat) (i : Int) : Option ((Nat × List Int) × Int) :=
  (if (decide (i < (((s_l09All p).1 : Nat) : Int))) = true then (if (decide (0 ≤ i) && decide (i < (((s_l09All p).1 : Nat) : Int))) = true then (if (Nat.ble (i.toNat * 3 + 3) (((s_l09All p).2).length)) = true then (if (prB p) = true then (if (s_l09Null p (((s_l09All p).2).getD (i.toNat * 3 + 0) 0, ((s_l09All p).2).getD (i.toNat * 3 + 1) 0, ((s_l09All p).2).getD (i.toNat * 3 + 2) 0)) = true then (if (decide (0 ≤ i) && decide (i < (((s_l09All p).1 : Nat) : Int))) = true then (if (Nat.ble (i.toNat * 3 + 3) (((s_l09All p).2).length)) = true then (if (Nat.ble 1 1 && Nat.ble (m15 + 1) 1000000 && Nat.beq 3 (3)) = true then rec0 (l15 ++ [((s_l09All p).2).getD (i.toNat * 3 + 0) 0, ((s_l09All p).2).getD (i.toNat * 3 + 1) 0, ((s_l09All p).2).getD (i.toNat * 3 + 2) 0]) (m15 + 1) (wI (i + 1)) else none) else none) else none) else rec0 l15 m15 (wI (i + 1))) else none) else none) else none) else some ((m15, l15), 0))
def L_s_NullPlaces_0 (fu : Nat) (p : Int) : Nat → (List Int) → Nat → Int → Option ((Nat × List Int) × Int)
  | 0, _, _, _ => none
  | f + 1, l15, m15, i => B_s_NullPlaces_0 p (L_s_NullPlaces_0 fu p f) l15 m15 i
theorem loop_s_NullPlaces_0 (fu : Nat) (p : Int) : ∀ (f : Nat) (l15 : List Int) (m15 : Nat) (i : Int), X_s_NullPlaces_0 Try.prog fu p f l15 m15 i = L_s_NullPlaces_0 fu p f l15 m15 i := by
  intro f
  induction f with
  | zero => intros; rfl
  | succ f ih =>
    intro l15 m15 i
    have h1 : X_s_NullPlaces_0 Try.prog fu p (f + 1) l15 m15 i = B_s_NullPlaces_0 p (X_s_NullPlaces_0 Try.prog fu p f) l15 m15 i := by kernel_rfl
    have h2 : X_s_NullPlaces_0 Try.prog fu p f = L_s_NullPlaces_0 fu p f := by funext l15 m15 i; exact ih l15 m15 i
    rw [h1, h2]
    rfl
def G_s_NullPlaces (p : Int) (lo0 : (List Int) → Nat → Int → Option ((Nat × List Int) × Int)) : Option ((Nat × List Int) × Int) :=
  (if ((s_l09Code p []) != 0) = true then some ((0, []), (s_l09Code p [])) else (if (prB p) = true then lo0 [] 0 0 else none))
def Fo_s_NullPlaces (fu : Nat) (p : Int) : Option ((Nat × List Int) × Int) := G_s_NullPlaces p (L_s_NullPlaces_0 fu p (fu + 100))
theorem eqg_s_NullPlaces (fu : Nat) (p : Int) : execT Try.prog S_s_NullPlaces 17 36 (fun _ => fu + 100) dec_l25_3_i [.v (.int .i64 p)] = G_s_NullPlaces p (L_s_NullPlaces_0 fu p (fu + 100)) := by
  have h1 : execT Try.prog S_s_NullPlaces 17 36 (fun _ => fu + 100) dec_l25_3_i [.v (.int .i64 p)] = G_s_NullPlaces p (X_s_NullPlaces_0 Try.prog fu p (fu + 100)) := by kernel_rfl
  have c0 : X_s_NullPlaces_0 Try.prog fu p (fu + 100) = L_s_NullPlaces_0 fu p (fu + 100) := by funext l15 m15 i; exact loop_s_NullPlaces_0 fu p (fu + 100) l15 m15 i
  rw [h1, c0]
theorem eq_s_NullPlaces (fu : Nat) (p : Int) : execT Try.prog S_s_NullPlaces 17 36 (fun _ => fu + 100) dec_l25_3_i [.v (.int .i64 p)] = Fo_s_NullPlaces fu p := eqg_s_NullPlaces fu p
def V_s_NullPlaces_0 (p : Int) : (List Int) → Nat → Int → (Nat × List Int) × Int := fun _ _ _ => ((((places p).filter fun zz => s_l09Null p zz).length, flat3 ((places p).filter fun zz => s_l09Null p zz)), 0)
theorem lo0_s_NullPlaces (p : Int) (hp : prB p = true) {F : Nat} (hF : 993 < F) : L_s_NullPlaces_0 1000000 p F [] 0 0 = some ((((places p).filter fun zz => s_l09Null p zz).length, flat3 ((places p).filter fun zz => s_l09Null p zz)), 0) := by
  have hlen : (places p).length ≤ 993 := places_len hp
  exact gather (flat := flat3) flat3_app rfl (L := fun f l m i => L_s_NullPlaces_0 1000000 p f l m i) (n := (places p).length) (b := 1) (M := 0) (fun k => if s_l09Null p (R3 (flat3 (places p)) k) = true then [R3 (flat3 (places p)) k] else []) (K := (some ((((places p).filter fun zz => s_l09Null p zz).length, flat3 ((places p).filter fun zz => s_l09Null p zz)), 0))) (l := []) (m := 0) (F := F) (by intro k hk; first | (split <;> simp) | simp_all)
    (fun f k l m hk hm => by
      show B_s_NullPlaces_0 p (L_s_NullPlaces_0 1000000 p f) l m (k : Int) = _
      unfold B_s_NullPlaces_0
      have x0 : prB p = true := hp
      have e0 : decide (0 ≤ (k : Int)) = true := by simp
      have e1 := cnd hk
      have e3 : (k : Int).toNat = k := Int.toNat_natCast k
      have e4 := row3_ok (flat3_len _) hk
      have e5 : Nat.ble 1 1 = true := rfl
      have e6 : Nat.ble (m + 1) 1000000 = true := leb (by omega)
      rw [show s_l09All p = ((places p).length, flat3 (places p)) from rfl]
      simp only [e0, e1, e3, e4, e5, e6, beq33, x0, Bool.and_true, Bool.true_and, if_true, wrap_add1 hk (by omega)]
      have hq0 : (s_l09Null p ((flat3 (places p)).getD (k * 3 + 0) 0, (flat3 (places p)).getD (k * 3 + 1) 0, (flat3 (places p)).getD (k * 3 + 2) 0)) = (s_l09Null p (R3 (flat3 (places p)) k)) := rfl
      try rw [hq0]
      generalize (s_l09Null p (R3 (flat3 (places p)) k)) = c0
      cases c0 <;> first
        | rfl
        | (simp only [Bool.false_eq_true, Bool.false_and, Bool.and_false, Bool.true_and, if_false, if_true]
           rw [show flat3 [] = [] from rfl, List.append_nil]
           rfl))
    (fun f hm => by
      show B_s_NullPlaces_0 p (L_s_NullPlaces_0 1000000 p f) ([] ++ flat3 ((List.range (places p).length).flatMap (fun k => if s_l09Null p (R3 (flat3 (places p)) k) = true then [R3 (flat3 (places p)) k] else []))) (0 + ((List.range (places p).length).flatMap (fun k => if s_l09Null p (R3 (flat3 (places p)) k) = true then [R3 (flat3 (places p)) k] else [])).length) (((places p).length : Nat) : Int) = _
      unfold B_s_NullPlaces_0
      have hkp : ((List.range ((places p).length)).flatMap fun k => if s_l09Null p (R3 (flat3 (places p)) k) = true then [R3 (flat3 (places p)) k] else []) = (rows3 ((places p).length) (flat3 (places p))).filter (fun zz => s_l09Null p zz) := keep3 ((places p).length) (flat3 (places p)) (fun zz => s_l09Null p zz)
      rw [show s_l09All p = ((places p).length, flat3 (places p)) from rfl]
      rw [if_neg (by simp), hkp, rows3_flat3]
      simp) (by omega) (Nat.le_refl _)

def s_NullPlaces (p : Int) : (Nat × List Int) × Int :=
  (if ((s_l09Code p []) != 0) = true then ((0, []), (s_l09Code p [])) else V_s_NullPlaces_0 p [] 0 0)
theorem tot_s_NullPlaces (p : Int) : Fo_s_NullPlaces 1000000 p = some (s_NullPlaces p) := by
  unfold Fo_s_NullPlaces G_s_NullPlaces s_NullPlaces
  (try simp only [wI_eq])
  repeat' (first | with_reducible rfl | refine chk_opt (by first | with_reducible rfl | exact Bool.true_or _ | (with_reducible exact l09Code_prB ‹_›) | (with_reducible exact l09Code_prB0 ‹_›) | exact mk_ok (by (first | (with_reducible assumption) | (with_reducible exact l09Code_prB ‹_›) | (with_reducible exact l09Code_prB0 ‹_›))) | exact and_all (by (first | (with_reducible assumption) | (with_reducible exact l09Code_prB ‹_›) | (with_reducible exact l09Code_prB0 ‹_›))) (fun _ => rfl) | exact and_all (by (first | (with_reducible assumption) | (with_reducible exact l09Code_prB ‹_›) | (with_reducible exact l09Code_prB0 ‹_›))) (fun _ => by (first | (with_reducible assumption) | (with_reducible exact l09Code_prB ‹_›) | (with_reducible exact l09Code_prB0 ‹_›))) | exact and3 (by (first | (with_reducible assumption) | (with_reducible exact l09Code_prB ‹_›) | (with_reducible exact l09Code_prB0 ‹_›))) (by (first | (with_reducible assumption) | (with_reducible exact l09Code_prB ‹_›) | (with_reducible exact l09Code_prB0 ‹_›))) (by (first | (with_reducible assumption) | (with_reducible exact l09Code_prB ‹_›) | (with_reducible exact l09Code_prB0 ‹_›))) | exact and_two (by (first | (with_reducible assumption) | (with_reducible exact l09Code_prB ‹_›) | (with_reducible exact l09Code_prB0 ‹_›))) rfl | rfl) ?_ | refine ite_opt (fun _ => ?_) (fun _ => ?_) | exact lo0_s_NullPlaces _ (by (first | (with_reducible assumption) | (with_reducible exact l09Code_prB ‹_›) | (with_reducible exact l09Code_prB0 ‹_›))) (by omega) | rfl)
def run_s_NullPlaces : List PV → Option (Bool × List TR)
  | [.v (.int .i64 p)] => some (true, enc_l25_3_i (s_NullPlaces p))
  | _ => none
theorem sound_s_NullPlaces : Sound Try.prog 17 run_s_NullPlaces := by
  refine sound_of de_l25_3_i SO_s_NullPlaces (by kernel_rfl) Try.func17 Try.ntmps17 rfl (by kernel_rfl) ?_
  intro W pvs avs rs hargs hrun
  unfold run_s_NullPlaces at hrun
  split at hrun
  · simp only [Option.some.injEq, Prod.mk.injEq] at hrun
    obtain ⟨hp, rfl⟩ := hrun
    rename_i p
    exact ⟨_, _, _, hargs, rfl, (eq_s_NullPlaces _ p).trans (tot_s_NullPlaces p)⟩
  · cases hrun


end

end Go.Proofs.Ytnijajjdldijpaa
