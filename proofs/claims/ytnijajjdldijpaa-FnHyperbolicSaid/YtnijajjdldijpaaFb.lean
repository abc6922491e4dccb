import Derived.Test.YtnijajjdldijpaaFa
import Derived.Test.YtnijajjdldijpaaProg
set_option linter.unusedSimpArgs false
set_option linter.unusedVariables false
namespace Go.Proofs.Ytnijajjdldijpaa
open Go.RowKit
noncomputable section
def S_i_PlaceQuadrance_c1 : Sums := ⟨tblS [(48, run_i_arePlaces)], tblM []⟩
theorem SO_i_PlaceQuadrance_c1 : SumsOK Try.prog S_i_PlaceQuadrance_c1 := ⟨tblS_ok ⟨⟨Try.call48, sound_i_arePlaces⟩, True.intro⟩, tblM_ok True.intro⟩
def Fo_i_PlaceQuadrance_c1 (c0 : Int) (c1 : Int × Int × Int) (c2 : Int × Int × Int) : Option (Bool) :=
  some (i_arePlaces c0 [c1, c2])
theorem eq_i_PlaceQuadrance_c1 (c0 : Int) (c1 : Int × Int × Int) (c2 : Int × Int × Int) : execT Try.prog S_i_PlaceQuadrance_c1 79 9 (fun _ => 1000000) dec_b [.p [.int .i64 c0], .p [.int .i64 c1.1, .int .i64 c1.2.1, .int .i64 c1.2.2], .p [.int .i64 c2.1, .int .i64 c2.2.1, .int .i64 c2.2.2]] = Fo_i_PlaceQuadrance_c1 c0 c1 c2 := by
  kernel_rfl
def i_PlaceQuadrance_c1 (c0 : Int) (c1 : Int × Int × Int) (c2 : Int × Int × Int) : Bool :=
  (i_arePlaces c0 [c1, c2])
theorem tot_i_PlaceQuadrance_c1 (c0 : Int) (c1 : Int × Int × Int) (c2 : Int × Int × Int) : Fo_i_PlaceQuadrance_c1 c0 c1 c2 = some (i_PlaceQuadrance_c1 c0 c1 c2) := by
  unfold Fo_i_PlaceQuadrance_c1 i_PlaceQuadrance_c1
  (try simp only [wI_eq])
  repeat' (first | with_reducible rfl | refine ite_opt (fun _ => ?_) (fun _ => ?_) | rfl)
def run_i_PlaceQuadrance_c1 : List PV → Option (Bool × List TR)
  | [.p [.int .i64 c0], .p [.int .i64 c10, .int .i64 c11, .int .i64 c12], .p [.int .i64 c20, .int .i64 c21, .int .i64 c22]] => some (true, enc_b (i_PlaceQuadrance_c1 c0 (c10, c11, c12) (c20, c21, c22)))
  | _ => none
theorem sound_i_PlaceQuadrance_c1 : Sound Try.prog 79 run_i_PlaceQuadrance_c1 := by
  refine sound_of de_b SO_i_PlaceQuadrance_c1 (by kernel_rfl) Try.func79 Try.ntmps79 rfl (by kernel_rfl) ?_
  intro W pvs avs rs hargs hrun
  unfold run_i_PlaceQuadrance_c1 at hrun
  split at hrun
  · simp only [Option.some.injEq, Prod.mk.injEq] at hrun
    obtain ⟨hp, rfl⟩ := hrun
    rename_i c0 c10 c11 c12 c20 c21 c22
    exact ⟨_, _, _, hargs, rfl, (eq_i_PlaceQuadrance_c1 c0 (c10, c11, c12) (c20, c21, c22)).trans (tot_i_PlaceQuadrance_c1 c0 (c10, c11, c12) (c20, c21, c22))⟩
  · cases hrun

def S_i_PlaceQuadrance : Sums := ⟨tblS [(46, run_i_asked), (79, run_i_PlaceQuadrance_c1), (61, run_i_isNullPlace), (80, run_i_placeQuadrance)], tblM []⟩
theorem SO_i_PlaceQuadrance : SumsOK Try.prog S_i_PlaceQuadrance := ⟨tblS_ok ⟨⟨Try.call46, sound_i_asked⟩, ⟨Try.call79, sound_i_PlaceQuadrance_c1⟩, ⟨Try.call61, sound_i_isNullPlace⟩, ⟨Try.call80, sound_i_placeQuadrance⟩, True.intro⟩, tblM_ok True.intro⟩
def Fo_i_PlaceQuadrance (p : Int) (a : Int × Int × Int) (b : Int × Int × Int) : Option (Int × Int) :=
  (if ((true) || !(i_IsField p)) = true then (if ((i_asked p (true) (i_PlaceQuadrance_c1 p a b)) != 0) = true then some (0, (i_asked p (true) (i_PlaceQuadrance_c1 p a b))) else (if (prB p) = true then (if (i_isNullPlace p a) = true then some (0, 5) else (if (prB p) = true then (if (i_isNullPlace p b) = true then some (0, 5) else (if (prB p) = true then some ((i_placeQuadrance p a b), 0) else none)) else none)) else none)) else none)
theorem eq_i_PlaceQuadrance (p : Int) (a : Int × Int × Int) (b : Int × Int × Int) : execT Try.prog S_i_PlaceQuadrance 28 27 (fun _ => 1000000) dec_i_i [.v (.int .i64 p), .v (.agg ⟨[.int .i64 a.1, .int .i64 a.2.1, .int .i64 a.2.2]⟩), .v (.agg ⟨[.int .i64 b.1, .int .i64 b.2.1, .int .i64 b.2.2]⟩)] = Fo_i_PlaceQuadrance p a b := by
  kernel_rfl
def i_PlaceQuadrance (p : Int) (a : Int × Int × Int) (b : Int × Int × Int) : Int × Int :=
  (if ((i_asked p (true) (i_PlaceQuadrance_c1 p a b)) != 0) = true then (0, (i_asked p (true) (i_PlaceQuadrance_c1 p a b))) else (if (i_isNullPlace p a) = true then (0, 5) else (if (i_isNullPlace p b) = true then (0, 5) else ((i_placeQuadrance p a b), 0))))
theorem tot_i_PlaceQuadrance (p : Int) (a : Int × Int × Int) (b : Int × Int × Int) : Fo_i_PlaceQuadrance p a b = some (i_PlaceQuadrance p a b) := by
  unfold Fo_i_PlaceQuadrance i_PlaceQuadrance
  (try simp only [wI_eq])
  repeat' (first | with_reducible rfl | refine chk_opt (by first | with_reducible rfl | exact Bool.true_or _ | (with_reducible exact asked_prB ‹_›) | (with_reducible exact asked_prB0 ‹_›) | exact mk_ok (by (first | (with_reducible assumption) | (with_reducible exact asked_prB ‹_›) | (with_reducible exact asked_prB0 ‹_›))) | exact and_all (by (first | (with_reducible assumption) | (with_reducible exact asked_prB ‹_›) | (with_reducible exact asked_prB0 ‹_›))) (fun _ => rfl) | exact and_all (by (first | (with_reducible assumption) | (with_reducible exact asked_prB ‹_›) | (with_reducible exact asked_prB0 ‹_›))) (fun _ => by (first | (with_reducible assumption) | (with_reducible exact asked_prB ‹_›) | (with_reducible exact asked_prB0 ‹_›))) | exact and3 (by (first | (with_reducible assumption) | (with_reducible exact asked_prB ‹_›) | (with_reducible exact asked_prB0 ‹_›))) (by (first | (with_reducible assumption) | (with_reducible exact asked_prB ‹_›) | (with_reducible exact asked_prB0 ‹_›))) (by (first | (with_reducible assumption) | (with_reducible exact asked_prB ‹_›) | (with_reducible exact asked_prB0 ‹_›))) | exact and_two (by (first | (with_reducible assumption) | (with_reducible exact asked_prB ‹_›) | (with_reducible exact asked_prB0 ‹_›))) rfl | rfl) ?_ | refine ite_opt (fun _ => ?_) (fun _ => ?_) | rfl)
def run_i_PlaceQuadrance : List PV → Option (Bool × List TR)
  | [.v (.int .i64 p), .v (.agg ⟨[.int .i64 a0, .int .i64 a1, .int .i64 a2]⟩), .v (.agg ⟨[.int .i64 b0, .int .i64 b1, .int .i64 b2]⟩)] => some (true, enc_i_i (i_PlaceQuadrance p (a0, a1, a2) (b0, b1, b2)))
  | _ => none
theorem sound_i_PlaceQuadrance : Sound Try.prog 28 run_i_PlaceQuadrance := by
  refine sound_of de_i_i SO_i_PlaceQuadrance (by kernel_rfl) Try.func28 Try.ntmps28 rfl (by kernel_rfl) ?_
  intro W pvs avs rs hargs hrun
  unfold run_i_PlaceQuadrance at hrun
  split at hrun
  · simp only [Option.some.injEq, Prod.mk.injEq] at hrun
    obtain ⟨hp, rfl⟩ := hrun
    rename_i p a0 a1 a2 b0 b1 b2
    exact ⟨_, _, _, hargs, rfl, (eq_i_PlaceQuadrance p (a0, a1, a2) (b0, b1, b2)).trans (tot_i_PlaceQuadrance p (a0, a1, a2) (b0, b1, b2))⟩
  · cases hrun

def S_s_PlaceQuadrance : Sums := ⟨tblS [(50, run_s_l09Code), (70, run_s_l09Null), (81, run_s_l09Quadrance)], tblM []⟩
theorem SO_s_PlaceQuadrance : SumsOK Try.prog S_s_PlaceQuadrance := ⟨tblS_ok ⟨⟨Try.call50, sound_s_l09Code⟩, ⟨Try.call70, sound_s_l09Null⟩, ⟨Try.call81, sound_s_l09Quadrance⟩, True.intro⟩, tblM_ok True.intro⟩
def Fo_s_PlaceQuadrance (p : Int) (a : Int × Int × Int) (b : Int × Int × Int) : Option (Int × Int) :=
  (if ((s_l09Code p [a, b]) == 0) = true then (if (prB p) = true then (if (s_l09Null p a) = true then some (0, 5) else (if (prB p) = true then (if (s_l09Null p b) = true then some (0, 5) else (if ((s_l09Code p [a, b]) != 0) = true then some (0, (s_l09Code p [a, b])) else (if (prB p) = true then some ((s_l09Quadrance p a b), 0) else none))) else none)) else none) else (if ((s_l09Code p [a, b]) != 0) = true then some (0, (s_l09Code p [a, b])) else (if (prB p) = true then some ((s_l09Quadrance p a b), 0) else none)))
theorem eq_s_PlaceQuadrance (p : Int) (a : Int × Int × Int) (b : Int × Int × Int) : execT Try.prog S_s_PlaceQuadrance 29 33 (fun _ => 1000000) dec_i_i [.v (.int .i64 p), .v (.agg ⟨[.int .i64 a.1, .int .i64 a.2.1, .int .i64 a.2.2]⟩), .v (.agg ⟨[.int .i64 b.1, .int .i64 b.2.1, .int .i64 b.2.2]⟩)] = Fo_s_PlaceQuadrance p a b := by
  kernel_rfl
def s_PlaceQuadrance (p : Int) (a : Int × Int × Int) (b : Int × Int × Int) : Int × Int :=
  (if ((s_l09Code p [a, b]) == 0) = true then (if (s_l09Null p a) = true then (0, 5) else (if (s_l09Null p b) = true then (0, 5) else (if ((s_l09Code p [a, b]) != 0) = true then (0, (s_l09Code p [a, b])) else ((s_l09Quadrance p a b), 0)))) else (if ((s_l09Code p [a, b]) != 0) = true then (0, (s_l09Code p [a, b])) else ((s_l09Quadrance p a b), 0)))
theorem tot_s_PlaceQuadrance (p : Int) (a : Int × Int × Int) (b : Int × Int × Int) : Fo_s_PlaceQuadrance p a b = some (s_PlaceQuadrance p a b) := by
  unfold Fo_s_PlaceQuadrance s_PlaceQuadrance
  (try simp only [wI_eq])
  repeat' (first | with_reducible rfl | refine chk_opt (by first | with_reducible rfl | exact Bool.true_or _ | (with_reducible exact l09Code_prB ‹_›) | (with_reducible exact l09Code_prB0 ‹_›) | exact mk_ok (by (first | (with_reducible assumption) | (with_reducible exact l09Code_prB ‹_›) | (with_reducible exact l09Code_prB0 ‹_›))) | exact and_all (by (first | (with_reducible assumption) | (with_reducible exact l09Code_prB ‹_›) | (with_reducible exact l09Code_prB0 ‹_›))) (fun _ => rfl) | exact and_all (by (first | (with_reducible assumption) | (with_reducible exact l09Code_prB ‹_›) | (with_reducible exact l09Code_prB0 ‹_›))) (fun _ => by (first | (with_reducible assumption) | (with_reducible exact l09Code_prB ‹_›) | (with_reducible exact l09Code_prB0 ‹_›))) | exact and3 (by (first | (with_reducible assumption) | (with_reducible exact l09Code_prB ‹_›) | (with_reducible exact l09Code_prB0 ‹_›))) (by (first | (with_reducible assumption) | (with_reducible exact l09Code_prB ‹_›) | (with_reducible exact l09Code_prB0 ‹_›))) (by (first | (with_reducible assumption) | (with_reducible exact l09Code_prB ‹_›) | (with_reducible exact l09Code_prB0 ‹_›))) | exact and_two (by (first | (with_reducible assumption) | (with_reducible exact l09Code_prB ‹_›) | (with_reducible exact l09Code_prB0 ‹_›))) rfl | rfl) ?_ | refine ite_opt (fun _ => ?_) (fun _ => ?_) | rfl)
def run_s_PlaceQuadrance : List PV → Option (Bool × List TR)
  | [.v (.int .i64 p), .v (.agg ⟨[.int .i64 a0, .int .i64 a1, .int .i64 a2]⟩), .v (.agg ⟨[.int .i64 b0, .int .i64 b1, .int .i64 b2]⟩)] => some (true, enc_i_i (s_PlaceQuadrance p (a0, a1, a2) (b0, b1, b2)))
  | _ => none
theorem sound_s_PlaceQuadrance : Sound Try.prog 29 run_s_PlaceQuadrance := by
  refine sound_of de_i_i SO_s_PlaceQuadrance (by kernel_rfl) Try.func29 Try.ntmps29 rfl (by kernel_rfl) ?_
  intro W pvs avs rs hargs hrun
  unfold run_s_PlaceQuadrance at hrun
  split at hrun
  · simp only [Option.some.injEq, Prod.mk.injEq] at hrun
    obtain ⟨hp, rfl⟩ := hrun
    rename_i p a0 a1 a2 b0 b1 b2
    exact ⟨_, _, _, hargs, rfl, (eq_s_PlaceQuadrance p (a0, a1, a2) (b0, b1, b2)).trans (tot_s_PlaceQuadrance p (a0, a1, a2) (b0, b1, b2))⟩
  · cases hrun

def S_i_AreTripleSpreads_c1 : Sums := ⟨tblS [(75, run_i_areNumbers)], tblM []⟩
theorem SO_i_AreTripleSpreads_c1 : SumsOK Try.prog S_i_AreTripleSpreads_c1 := ⟨tblS_ok ⟨⟨Try.call75, sound_i_areNumbers⟩, True.intro⟩, tblM_ok True.intro⟩
def Fo_i_AreTripleSpreads_c1 (c0 : Int) (c1 : Int) (c2 : Int) (c3 : Int) : Option (Bool) :=
  some (i_areNumbers c0 [c1, c2, c3])
theorem eq_i_AreTripleSpreads_c1 (c0 : Int) (c1 : Int) (c2 : Int) (c3 : Int) : execT Try.prog S_i_AreTripleSpreads_c1 83 11 (fun _ => 1000000) dec_b [.p [.int .i64 c0], .p [.int .i64 c1], .p [.int .i64 c2], .p [.int .i64 c3]] = Fo_i_AreTripleSpreads_c1 c0 c1 c2 c3 := by
  kernel_rfl
def i_AreTripleSpreads_c1 (c0 : Int) (c1 : Int) (c2 : Int) (c3 : Int) : Bool :=
  (i_areNumbers c0 [c1, c2, c3])
theorem tot_i_AreTripleSpreads_c1 (c0 : Int) (c1 : Int) (c2 : Int) (c3 : Int) : Fo_i_AreTripleSpreads_c1 c0 c1 c2 c3 = some (i_AreTripleSpreads_c1 c0 c1 c2 c3) := by
  unfold Fo_i_AreTripleSpreads_c1 i_AreTripleSpreads_c1
  (try simp only [wI_eq])
  repeat' (first | with_reducible rfl | refine ite_opt (fun _ => ?_) (fun _ => ?_) | rfl)
def run_i_AreTripleSpreads_c1 : List PV → Option (Bool × List TR)
  | [.p [.int .i64 c0], .p [.int .i64 c1], .p [.int .i64 c2], .p [.int .i64 c3]] => some (true, enc_b (i_AreTripleSpreads_c1 c0 c1 c2 c3))
  | _ => none
theorem sound_i_AreTripleSpreads_c1 : Sound Try.prog 83 run_i_AreTripleSpreads_c1 := by
  refine sound_of de_b SO_i_AreTripleSpreads_c1 (by kernel_rfl) Try.func83 Try.ntmps83 rfl (by kernel_rfl) ?_
  intro W pvs avs rs hargs hrun
  unfold run_i_AreTripleSpreads_c1 at hrun
  split at hrun
  · simp only [Option.some.injEq, Prod.mk.injEq] at hrun
    obtain ⟨hp, rfl⟩ := hrun
    rename_i c0 c1 c2 c3
    exact ⟨_, _, _, hargs, rfl, (eq_i_AreTripleSpreads_c1 c0 c1 c2 c3).trans (tot_i_AreTripleSpreads_c1 c0 c1 c2 c3)⟩
  · cases hrun

def S_i_areTriple : Sums := ⟨tblS [(93, run_i_rest)], tblM []⟩
theorem SO_i_areTriple : SumsOK Try.prog S_i_areTriple := ⟨tblS_ok ⟨⟨Try.call93, sound_i_rest⟩, True.intro⟩, tblM_ok True.intro⟩
def Fo_i_areTriple (p : Int) (r : Int) (s : Int) (t : Int) : Option (Bool) :=
  (if (prB p) = true then some ((i_rest p (wI ((wI ((wI ((wI ((wI (r + s)) + t)) * (wI ((wI (r + s)) + t)))) - (wI (2 * (wI ((wI ((wI (r * r)) + (wI (s * s)))) + (wI (t * t)))))))) - (wI ((wI ((wI (4 * r)) * s)) * t))))) == 0) else none)
theorem eq_i_areTriple (p : Int) (r : Int) (s : Int) (t : Int) : execT Try.prog S_i_areTriple 84 43 (fun _ => 1000000) dec_b [.v (.int .i64 p), .v (.int .i64 r), .v (.int .i64 s), .v (.int .i64 t)] = Fo_i_areTriple p r s t := by
  kernel_rfl
def i_areTriple (p : Int) (r : Int) (s : Int) (t : Int) : Bool :=
  (i_rest p (wrap64 ((wrap64 ((wrap64 ((wrap64 ((wrap64 (r + s)) + t)) * (wrap64 ((wrap64 (r + s)) + t)))) - (wrap64 (2 * (wrap64 ((wrap64 ((wrap64 (r * r)) + (wrap64 (s * s)))) + (wrap64 (t * t)))))))) - (wrap64 ((wrap64 ((wrap64 (4 * r)) * s)) * t))))) == 0
theorem tot_i_areTriple (p : Int) (r : Int) (s : Int) (t : Int) (hp : (prB p) = true) : Fo_i_areTriple p r s t = some (i_areTriple p r s t) := by
  try have h0 := prB_ne hp
  unfold Fo_i_areTriple i_areTriple
  (try simp only [wI_eq])
  repeat' (first | with_reducible rfl | with_reducible refine chk_opt hp ?_ | with_reducible refine chk_opt h0 ?_ | refine chk_opt (and_all hp fun _ => hp) ?_ | refine chk_opt (and_all hp fun _ => rfl) ?_ | refine ite_opt (fun _ => ?_) (fun _ => ?_) | rfl)
def run_i_areTriple : List PV → Option (Bool × List TR)
  | [.v (.int .i64 p), .v (.int .i64 r), .v (.int .i64 s), .v (.int .i64 t)] => some (prB p, enc_b (i_areTriple p r s t))
  | _ => none
theorem sound_i_areTriple : Sound Try.prog 84 run_i_areTriple := by
  refine sound_of de_b SO_i_areTriple (by kernel_rfl) Try.func84 Try.ntmps84 rfl (by kernel_rfl) ?_
  intro W pvs avs rs hargs hrun
  unfold run_i_areTriple at hrun
  split at hrun
  · simp only [Option.some.injEq, Prod.mk.injEq] at hrun
    obtain ⟨hp, rfl⟩ := hrun
    rename_i p r s t
    exact ⟨_, _, _, hargs, rfl, (eq_i_areTriple p r s t).trans (tot_i_areTriple p r s t hp)⟩
  · cases hrun

def S_i_AreTripleSpreads : Sums := ⟨tblS [(46, run_i_asked), (83, run_i_AreTripleSpreads_c1), (84, run_i_areTriple)], tblM []⟩
theorem SO_i_AreTripleSpreads : SumsOK Try.prog S_i_AreTripleSpreads := ⟨tblS_ok ⟨⟨Try.call46, sound_i_asked⟩, ⟨Try.call83, sound_i_AreTripleSpreads_c1⟩, ⟨Try.call84, sound_i_areTriple⟩, True.intro⟩, tblM_ok True.intro⟩
def Fo_i_AreTripleSpreads (p : Int) (r : Int) (s : Int) (t : Int) : Option (Bool × Int) :=
  (if ((true) || !(i_IsField p)) = true then (if ((i_asked p (true) (i_AreTripleSpreads_c1 p r s t)) != 0) = true then some (false, (i_asked p (true) (i_AreTripleSpreads_c1 p r s t))) else (if (prB p) = true then some ((i_areTriple p r s t), 0) else none)) else none)
theorem eq_i_AreTripleSpreads (p : Int) (r : Int) (s : Int) (t : Int) : execT Try.prog S_i_AreTripleSpreads 31 22 (fun _ => 1000000) dec_b_i [.v (.int .i64 p), .v (.int .i64 r), .v (.int .i64 s), .v (.int .i64 t)] = Fo_i_AreTripleSpreads p r s t := by
  kernel_rfl
def i_AreTripleSpreads (p : Int) (r : Int) (s : Int) (t : Int) : Bool × Int :=
  (if ((i_asked p (true) (i_AreTripleSpreads_c1 p r s t)) != 0) = true then (false, (i_asked p (true) (i_AreTripleSpreads_c1 p r s t))) else ((i_areTriple p r s t), 0))
theorem tot_i_AreTripleSpreads (p : Int) (r : Int) (s : Int) (t : Int) : Fo_i_AreTripleSpreads p r s t = some (i_AreTripleSpreads p r s t) := by
  unfold Fo_i_AreTripleSpreads i_AreTripleSpreads
  (try simp only [wI_eq])
  repeat' (first | with_reducible rfl | refine chk_opt (by first | with_reducible rfl | exact Bool.true_or _ | (with_reducible exact asked_prB ‹_›) | (with_reducible exact asked_prB0 ‹_›) | exact mk_ok (by (first | (with_reducible assumption) | (with_reducible exact asked_prB ‹_›) | (with_reducible exact asked_prB0 ‹_›))) | exact and_all (by (first | (with_reducible assumption) | (with_reducible exact asked_prB ‹_›) | (with_reducible exact asked_prB0 ‹_›))) (fun _ => rfl) | exact and_all (by (first | (with_reducible assumption) | (with_reducible exact asked_prB ‹_›) | (with_reducible exact asked_prB0 ‹_›))) (fun _ => by (first | (with_reducible assumption) | (with_reducible exact asked_prB ‹_›) | (with_reducible exact asked_prB0 ‹_›))) | exact and3 (by (first | (with_reducible assumption) | (with_reducible exact asked_prB ‹_›) | (with_reducible exact asked_prB0 ‹_›))) (by (first | (with_reducible assumption) | (with_reducible exact asked_prB ‹_›) | (with_reducible exact asked_prB0 ‹_›))) (by (first | (with_reducible assumption) | (with_reducible exact asked_prB ‹_›) | (with_reducible exact asked_prB0 ‹_›))) | exact and_two (by (first | (with_reducible assumption) | (with_reducible exact asked_prB ‹_›) | (with_reducible exact asked_prB0 ‹_›))) rfl | rfl) ?_ | refine ite_opt (fun _ => ?_) (fun _ => ?_) | rfl)
def run_i_AreTripleSpreads : List PV → Option (Bool × List TR)
  | [.v (.int .i64 p), .v (.int .i64 r), .v (.int .i64 s), .v (.int .i64 t)] => some (true, enc_b_i (i_AreTripleSpreads p r s t))
  | _ => none
theorem sound_i_AreTripleSpreads : Sound Try.prog 31 run_i_AreTripleSpreads := by
  refine sound_of de_b_i SO_i_AreTripleSpreads (by kernel_rfl) Try.func31 Try.ntmps31 rfl (by kernel_rfl) ?_
  intro W pvs avs rs hargs hrun
  unfold run_i_AreTripleSpreads at hrun
  split at hrun
  · simp only [Option.some.injEq, Prod.mk.injEq] at hrun
    obtain ⟨hp, rfl⟩ := hrun
    rename_i p r s t
    exact ⟨_, _, _, hargs, rfl, (eq_i_AreTripleSpreads p r s t).trans (tot_i_AreTripleSpreads p r s t)⟩
  · cases hrun

def S_i_QuadrancesOfPlaces_c1 : Sums := ⟨tblS [(48, run_i_arePlaces)], tblM []⟩
theorem SO_i_QuadrancesOfPlaces_c1 : SumsOK Try.prog S_i_QuadrancesOfPlaces_c1 := ⟨tblS_ok ⟨⟨Try.call48, sound_i_arePlaces⟩, True.intro⟩, tblM_ok True.intro⟩
def Fo_i_QuadrancesOfPlaces_c1 (c0 : Int) (c1 : Int × Int × Int) (c2 : Int × Int × Int) (c3 : Int × Int × Int) : Option (Bool) :=
  some (i_arePlaces c0 [c1, c2, c3])
theorem eq_i_QuadrancesOfPlaces_c1 (c0 : Int) (c1 : Int × Int × Int) (c2 : Int × Int × Int) (c3 : Int × Int × Int) : execT Try.prog S_i_QuadrancesOfPlaces_c1 82 11 (fun _ => 1000000) dec_b [.p [.int .i64 c0], .p [.int .i64 c1.1, .int .i64 c1.2.1, .int .i64 c1.2.2], .p [.int .i64 c2.1, .int .i64 c2.2.1, .int .i64 c2.2.2], .p [.int .i64 c3.1, .int .i64 c3.2.1, .int .i64 c3.2.2]] = Fo_i_QuadrancesOfPlaces_c1 c0 c1 c2 c3 := by
  kernel_rfl
def i_QuadrancesOfPlaces_c1 (c0 : Int) (c1 : Int × Int × Int) (c2 : Int × Int × Int) (c3 : Int × Int × Int) : Bool :=
  (i_arePlaces c0 [c1, c2, c3])
theorem tot_i_QuadrancesOfPlaces_c1 (c0 : Int) (c1 : Int × Int × Int) (c2 : Int × Int × Int) (c3 : Int × Int × Int) : Fo_i_QuadrancesOfPlaces_c1 c0 c1 c2 c3 = some (i_QuadrancesOfPlaces_c1 c0 c1 c2 c3) := by
  unfold Fo_i_QuadrancesOfPlaces_c1 i_QuadrancesOfPlaces_c1
  (try simp only [wI_eq])
  repeat' (first | with_reducible rfl | refine ite_opt (fun _ => ?_) (fun _ => ?_) | rfl)
def run_i_QuadrancesOfPlaces_c1 : List PV → Option (Bool × List TR)
  | [.p [.int .i64 c0], .p [.int .i64 c10, .int .i64 c11, .int .i64 c12], .p [.int .i64 c20, .int .i64 c21, .int .i64 c22], .p [.int .i64 c30, .int .i64 c31, .int .i64 c32]] => some (true, enc_b (i_QuadrancesOfPlaces_c1 c0 (c10, c11, c12) (c20, c21, c22) (c30, c31, c32)))
  | _ => none
theorem sound_i_QuadrancesOfPlaces_c1 : Sound Try.prog 82 run_i_QuadrancesOfPlaces_c1 := by
  refine sound_of de_b SO_i_QuadrancesOfPlaces_c1 (by kernel_rfl) Try.func82 Try.ntmps82 rfl (by kernel_rfl) ?_
  intro W pvs avs rs hargs hrun
  unfold run_i_QuadrancesOfPlaces_c1 at hrun
  split at hrun
  · simp only [Option.some.injEq, Prod.mk.injEq] at hrun
    obtain ⟨hp, rfl⟩ := hrun
    rename_i c0 c10 c11 c12 c20 c21 c22 c30 c31 c32
    exact ⟨_, _, _, hargs, rfl, (eq_i_QuadrancesOfPlaces_c1 c0 (c10, c11, c12) (c20, c21, c22) (c30, c31, c32)).trans (tot_i_QuadrancesOfPlaces_c1 c0 (c10, c11, c12) (c20, c21, c22) (c30, c31, c32))⟩
  · cases hrun

def S_i_QuadrancesOfPlaces : Sums := ⟨tblS [(46, run_i_asked), (82, run_i_QuadrancesOfPlaces_c1), (61, run_i_isNullPlace), (80, run_i_placeQuadrance)], tblM []⟩
theorem SO_i_QuadrancesOfPlaces : SumsOK Try.prog S_i_QuadrancesOfPlaces := ⟨tblS_ok ⟨⟨Try.call46, sound_i_asked⟩, ⟨Try.call82, sound_i_QuadrancesOfPlaces_c1⟩, ⟨Try.call61, sound_i_isNullPlace⟩, ⟨Try.call80, sound_i_placeQuadrance⟩, True.intro⟩, tblM_ok True.intro⟩
def Fo_i_QuadrancesOfPlaces (p : Int) (a : Int × Int × Int) (b : Int × Int × Int) (c : Int × Int × Int) : Option ((Nat × List Int) × Int) :=
  (if ((true) || !(i_IsField p)) = true then (if ((i_asked p (true) (i_QuadrancesOfPlaces_c1 p a b c)) != 0) = true then some ((0, []), (i_asked p (true) (i_QuadrancesOfPlaces_c1 p a b c))) else (if (prB p) = true then (if (i_isNullPlace p a) = true then some ((0, []), 5) else (if (prB p) = true then (if (i_isNullPlace p b) = true then some ((0, []), 5) else (if (prB p) = true then (if (i_isNullPlace p c) = true then some ((0, []), 5) else (if (prB p) = true then (if (prB p) = true then (if (prB p) = true then some ((3, [(i_placeQuadrance p b c), (i_placeQuadrance p a c), (i_placeQuadrance p a b)]), 0) else none) else none) else none)) else none)) else none)) else none)) else none)
theorem eq_i_QuadrancesOfPlaces (p : Int) (a : Int × Int × Int) (b : Int × Int × Int) (c : Int × Int × Int) : execT Try.prog S_i_QuadrancesOfPlaces 30 43 (fun _ => 1000000) dec_l2_1_i [.v (.int .i64 p), .v (.agg ⟨[.int .i64 a.1, .int .i64 a.2.1, .int .i64 a.2.2]⟩), .v (.agg ⟨[.int .i64 b.1, .int .i64 b.2.1, .int .i64 b.2.2]⟩), .v (.agg ⟨[.int .i64 c.1, .int .i64 c.2.1, .int .i64 c.2.2]⟩)] = Fo_i_QuadrancesOfPlaces p a b c := by
  kernel_rfl
def i_QuadrancesOfPlaces (p : Int) (a : Int × Int × Int) (b : Int × Int × Int) (c : Int × Int × Int) : (Nat × List Int) × Int :=
  (if ((i_asked p (true) (i_QuadrancesOfPlaces_c1 p a b c)) != 0) = true then ((0, []), (i_asked p (true) (i_QuadrancesOfPlaces_c1 p a b c))) else (if (i_isNullPlace p a) = true then ((0, []), 5) else (if (i_isNullPlace p b) = true then ((0, []), 5) else (if (i_isNullPlace p c) = true then ((0, []), 5) else ((3, [(i_placeQuadrance p b c), (i_placeQuadrance p a c), (i_placeQuadrance p a b)]), 0)))))
theorem tot_i_QuadrancesOfPlaces (p : Int) (a : Int × Int × Int) (b : Int × Int × Int) (c : Int × Int × Int) : Fo_i_QuadrancesOfPlaces p a b c = some (i_QuadrancesOfPlaces p a b c) := by
  unfold Fo_i_QuadrancesOfPlaces i_QuadrancesOfPlaces
  (try simp only [wI_eq])
  repeat' (first | with_reducible rfl | refine chk_opt (by first | with_reducible rfl | exact Bool.true_or _ | (with_reducible exact asked_prB ‹_›) | (with_reducible exact asked_prB0 ‹_›) | exact mk_ok (by (first | (with_reducible assumption) | (with_reducible exact asked_prB ‹_›) | (with_reducible exact asked_prB0 ‹_›))) | exact and_all (by (first | (with_reducible assumption) | (with_reducible exact asked_prB ‹_›) | (with_reducible exact asked_prB0 ‹_›))) (fun _ => rfl) | exact and_all (by (first | (with_reducible assumption) | (with_reducible exact asked_prB ‹_›) | (with_reducible exact asked_prB0 ‹_›))) (fun _ => by (first | (with_reducible assumption) | (with_reducible exact asked_prB ‹_›) | (with_reducible exact asked_prB0 ‹_›))) | exact and3 (by (first | (with_reducible assumption) | (with_reducible exact asked_prB ‹_›) | (with_reducible exact asked_prB0 ‹_›))) (by (first | (with_reducible assumption) | (with_reducible exact asked_prB ‹_›) | (with_reducible exact asked_prB0 ‹_›))) (by (first | (with_reducible assumption) | (with_reducible exact asked_prB ‹_›) | (with_reducible exact asked_prB0 ‹_›))) | exact and_two (by (first | (with_reducible assumption) | (with_reducible exact asked_prB ‹_›) | (with_reducible exact asked_prB0 ‹_›))) rfl | rfl) ?_ | refine ite_opt (fun _ => ?_) (fun _ => ?_) | rfl)
def run_i_QuadrancesOfPlaces : List PV → Option (Bool × List TR)
  | [.v (.int .i64 p), .v (.agg ⟨[.int .i64 a0, .int .i64 a1, .int .i64 a2]⟩), .v (.agg ⟨[.int .i64 b0, .int .i64 b1, .int .i64 b2]⟩), .v (.agg ⟨[.int .i64 c0, .int .i64 c1, .int .i64 c2]⟩)] => some (true, enc_l2_1_i (i_QuadrancesOfPlaces p (a0, a1, a2) (b0, b1, b2) (c0, c1, c2)))
  | _ => none
theorem sound_i_QuadrancesOfPlaces : Sound Try.prog 30 run_i_QuadrancesOfPlaces := by
  refine sound_of de_l2_1_i SO_i_QuadrancesOfPlaces (by kernel_rfl) Try.func30 Try.ntmps30 rfl (by kernel_rfl) ?_
  intro W pvs avs rs hargs hrun
  unfold run_i_QuadrancesOfPlaces at hrun
  split at hrun
  · simp only [Option.some.injEq, Prod.mk.injEq] at hrun
    obtain ⟨hp, rfl⟩ := hrun
    rename_i p a0 a1 a2 b0 b1 b2 c0 c1 c2
    exact ⟨_, _, _, hargs, rfl, (eq_i_QuadrancesOfPlaces p (a0, a1, a2) (b0, b1, b2) (c0, c1, c2)).trans (tot_i_QuadrancesOfPlaces p (a0, a1, a2) (b0, b1, b2) (c0, c1, c2))⟩
  · cases hrun

def S_s_QuadrancesOfPlaces : Sums := ⟨tblS [(50, run_s_l09Code), (70, run_s_l09Null), (81, run_s_l09Quadrance)], tblM []⟩
theorem SO_s_QuadrancesOfPlaces : SumsOK Try.prog S_s_QuadrancesOfPlaces := ⟨tblS_ok ⟨⟨Try.call50, sound_s_l09Code⟩, ⟨Try.call70, sound_s_l09Null⟩, ⟨Try.call81, sound_s_l09Quadrance⟩, True.intro⟩, tblM_ok True.intro⟩
def Fo_s_QuadrancesOfPlaces (p : Int) (a : Int × Int × Int) (b : Int × Int × Int) (c : Int × Int × Int) : Option ((Nat × List Int) × Int) :=
  (if ((s_l09Code p [a, b, c]) == 0) = true then (if (prB p) = true then (if (s_l09Null p a) = true then some ((0, []), 5) else (if (prB p) = true then (if (s_l09Null p b) = true then some ((0, []), 5) else (if (prB p) = true then (if (s_l09Null p c) = true then some ((0, []), 5) else (if ((s_l09Code p [a, b, c]) != 0) = true then some ((0, []), (s_l09Code p [a, b, c])) else (if (prB p) = true then (if (prB p) = true then (if (prB p) = true then some ((3, [(s_l09Quadrance p b c), (s_l09Quadrance p a c), (s_l09Quadrance p a b)]), 0) else none) else none) else none))) else none)) else none)) else none) else (if ((s_l09Code p [a, b, c]) != 0) = true then some ((0, []), (s_l09Code p [a, b, c])) else (if (prB p) = true then (if (prB p) = true then (if (prB p) = true then some ((3, [(s_l09Quadrance p b c), (s_l09Quadrance p a c), (s_l09Quadrance p a b)]), 0) else none) else none) else none)))
theorem eq_s_QuadrancesOfPlaces (p : Int) (a : Int × Int × Int) (b : Int × Int × Int) (c : Int × Int × Int) : execT Try.prog S_s_QuadrancesOfPlaces 42 50 (fun _ => 1000000) dec_l2_1_i [.v (.int .i64 p), .v (.agg ⟨[.int .i64 a.1, .int .i64 a.2.1, .int .i64 a.2.2]⟩), .v (.agg ⟨[.int .i64 b.1, .int .i64 b.2.1, .int .i64 b.2.2]⟩), .v (.agg ⟨[.int .i64 c.1, .int .i64 c.2.1, .int .i64 c.2.2]⟩)] = Fo_s_QuadrancesOfPlaces p a b c := by
  kernel_rfl
def s_QuadrancesOfPlaces (p : Int) (a : Int × Int × Int) (b : Int × Int × Int) (c : Int × Int × Int) : (Nat × List Int) × Int :=
  (if ((s_l09Code p [a, b, c]) == 0) = true then (if (s_l09Null p a) = true then ((0, []), 5) else (if (s_l09Null p b) = true then ((0, []), 5) else (if (s_l09Null p c) = true then ((0, []), 5) else (if ((s_l09Code p [a, b, c]) != 0) = true then ((0, []), (s_l09Code p [a, b, c])) else ((3, [(s_l09Quadrance p b c), (s_l09Quadrance p a c), (s_l09Quadrance p a b)]), 0))))) else (if ((s_l09Code p [a, b, c]) != 0) = true then ((0, []), (s_l09Code p [a, b, c])) else ((3, [(s_l09Quadrance p b c), (s_l09Quadrance p a c), (s_l09Quadrance p a b)]), 0)))
theorem tot_s_QuadrancesOfPlaces (p : Int) (a : Int × Int × Int) (b : Int × Int × Int) (c : Int × Int × Int) : Fo_s_QuadrancesOfPlaces p a b c = some (s_QuadrancesOfPlaces p a b c) := by
  unfold Fo_s_QuadrancesOfPlaces s_QuadrancesOfPlaces
  (try simp only [wI_eq])
  repeat' (first | with_reducible rfl | refine chk_opt (by first | with_reducible rfl | exact Bool.true_or _ | (with_reducible exact l09Code_prB ‹_›) | (with_reducible exact l09Code_prB0 ‹_›) | exact mk_ok (by (first | (with_reducible assumption) | (with_reducible exact l09Code_prB ‹_›) | (with_reducible exact l09Code_prB0 ‹_›))) | exact and_all (by (first | (with_reducible assumption) | (with_reducible exact l09Code_prB ‹_›) | (with_reducible exact l09Code_prB0 ‹_›))) (fun _ => rfl) | exact and_all (by (first | (with_reducible assumption) | (with_reducible exact l09Code_prB ‹_›) | (with_reducible exact l09Code_prB0 ‹_›))) (fun _ => by (first | (with_reducible assumption) | (with_reducible exact l09Code_prB ‹_›) | (with_reducible exact l09Code_prB0 ‹_›))) | exact and3 (by (first | (with_reducible assumption) | (with_reducible exact l09Code_prB ‹_›) | (with_reducible exact l09Code_prB0 ‹_›))) (by (first | (with_reducible assumption) | (with_reducible exact l09Code_prB ‹_›) | (with_reducible exact l09Code_prB0 ‹_›))) (by (first | (with_reducible assumption) | (with_reducible exact l09Code_prB ‹_›) | (with_reducible exact l09Code_prB0 ‹_›))) | exact and_two (by (first | (with_reducible assumption) | (with_reducible exact l09Code_prB ‹_›) | (with_reducible exact l09Code_prB0 ‹_›))) rfl | rfl) ?_ | refine ite_opt (fun _ => ?_) (fun _ => ?_) | rfl)
def run_s_QuadrancesOfPlaces : List PV → Option (Bool × List TR)
  | [.v (.int .i64 p), .v (.agg ⟨[.int .i64 a0, .int .i64 a1, .int .i64 a2]⟩), .v (.agg ⟨[.int .i64 b0, .int .i64 b1, .int .i64 b2]⟩), .v (.agg ⟨[.int .i64 c0, .int .i64 c1, .int .i64 c2]⟩)] => some (true, enc_l2_1_i (s_QuadrancesOfPlaces p (a0, a1, a2) (b0, b1, b2) (c0, c1, c2)))
  | _ => none
theorem sound_s_QuadrancesOfPlaces : Sound Try.prog 42 run_s_QuadrancesOfPlaces := by
  refine sound_of de_l2_1_i SO_s_QuadrancesOfPlaces (by kernel_rfl) Try.func42 Try.ntmps42 rfl (by kernel_rfl) ?_
  intro W pvs avs rs hargs hrun
  unfold run_s_QuadrancesOfPlaces at hrun
  split at hrun
  · simp only [Option.some.injEq, Prod.mk.injEq] at hrun
    obtain ⟨hp, rfl⟩ := hrun
    rename_i p a0 a1 a2 b0 b1 b2 c0 c1 c2
    exact ⟨_, _, _, hargs, rfl, (eq_s_QuadrancesOfPlaces p (a0, a1, a2) (b0, b1, b2) (c0, c1, c2)).trans (tot_s_QuadrancesOfPlaces p (a0, a1, a2) (b0, b1, b2) (c0, c1, c2))⟩
  · cases hrun

def S_i_CountByQuadrance_c1 : Sums := ⟨tblS [(56, run_i_isPlace)], tblM []⟩
theorem SO_i_CountByQuadrance_c1 : SumsOK Try.prog S_i_CountByQuadrance_c1 := ⟨tblS_ok ⟨⟨Try.call56, sound_i_isPlace⟩, True.intro⟩, tblM_ok True.intro⟩
def Fo_i_CountByQuadrance_c1 (c0 : Int) (c1 : Int × Int × Int) : Option (Bool) :=
  some (i_isPlace c0 c1)
theorem eq_i_CountByQuadrance_c1 (c0 : Int) (c1 : Int × Int × Int) : execT Try.prog S_i_CountByQuadrance_c1 85 6 (fun _ => 1000000) dec_b [.p [.int .i64 c0], .p [.int .i64 c1.1, .int .i64 c1.2.1, .int .i64 c1.2.2]] = Fo_i_CountByQuadrance_c1 c0 c1 := by
  kernel_rfl
def i_CountByQuadrance_c1 (c0 : Int) (c1 : Int × Int × Int) : Bool :=
  (i_isPlace c0 c1)
theorem tot_i_CountByQuadrance_c1 (c0 : Int) (c1 : Int × Int × Int) : Fo_i_CountByQuadrance_c1 c0 c1 = some (i_CountByQuadrance_c1 c0 c1) := by
  unfold Fo_i_CountByQuadrance_c1 i_CountByQuadrance_c1
  (try simp only [wI_eq])
  repeat' (first | with_reducible rfl | refine ite_opt (fun _ => ?_) (fun _ => ?_) | rfl)
def run_i_CountByQuadrance_c1 : List PV → Option (Bool × List TR)
  | [.p [.int .i64 c0], .p [.int .i64 c10, .int .i64 c11, .int .i64 c12]] => some (true, enc_b (i_CountByQuadrance_c1 c0 (c10, c11, c12)))
  | _ => none
theorem sound_i_CountByQuadrance_c1 : Sound Try.prog 85 run_i_CountByQuadrance_c1 := by
  refine sound_of de_b SO_i_CountByQuadrance_c1 (by kernel_rfl) Try.func85 Try.ntmps85 rfl (by kernel_rfl) ?_
  intro W pvs avs rs hargs hrun
  unfold run_i_CountByQuadrance_c1 at hrun
  split at hrun
  · simp only [Option.some.injEq, Prod.mk.injEq] at hrun
    obtain ⟨hp, rfl⟩ := hrun
    rename_i c0 c10 c11 c12
    exact ⟨_, _, _, hargs, rfl, (eq_i_CountByQuadrance_c1 c0 (c10, c11, c12)).trans (tot_i_CountByQuadrance_c1 c0 (c10, c11, c12))⟩
  · cases hrun

def S_i_CountByQuadrance_c2 : Sums := ⟨tblS [(61, run_i_isNullPlace)], tblM []⟩
theorem SO_i_CountByQuadrance_c2 : SumsOK Try.prog S_i_CountByQuadrance_c2 := ⟨tblS_ok ⟨⟨Try.call61, sound_i_isNullPlace⟩, True.intro⟩, tblM_ok True.intro⟩
def Fo_i_CountByQuadrance_c2 (b : Int × Int × Int) (c0 : Int) : Option (Bool) :=
  (if (prB c0) = true then some (!(i_isNullPlace c0 b)) else none)
theorem eq_i_CountByQuadrance_c2 (b : Int × Int × Int) (c0 : Int) : execT Try.prog S_i_CountByQuadrance_c2 86 8 (fun _ => 1000000) dec_b [.v (.agg ⟨[.int .i64 b.1, .int .i64 b.2.1, .int .i64 b.2.2]⟩), .p [.int .i64 c0]] = Fo_i_CountByQuadrance_c2 b c0 := by
  kernel_rfl
def i_CountByQuadrance_c2 (b : Int × Int × Int) (c0 : Int) : Bool :=
  !(i_isNullPlace c0 b)
theorem tot_i_CountByQuadrance_c2 (b : Int × Int × Int) (c0 : Int) (hp : (prB c0) = true) : Fo_i_CountByQuadrance_c2 b c0 = some (i_CountByQuadrance_c2 b c0) := by
  try have h0 := prB_ne hp
  unfold Fo_i_CountByQuadrance_c2 i_CountByQuadrance_c2
  (try simp only [wI_eq])
  repeat' (first | with_reducible rfl | with_reducible refine chk_opt hp ?_ | with_reducible refine chk_opt h0 ?_ | refine chk_opt (and_all hp fun _ => hp) ?_ | refine chk_opt (and_all hp fun _ => rfl) ?_ | refine ite_opt (fun _ => ?_) (fun _ => ?_) | rfl)
def run_i_CountByQuadrance_c2 : List PV → Option (Bool × List TR)
  | [.v (.agg ⟨[.int .i64 b0, .int .i64 b1, .int .i64 b2]⟩), .p [.int .i64 c0]] => some (prB c0, enc_b (i_CountByQuadrance_c2 (b0, b1, b2) c0))
  | _ => none
theorem sound_i_CountByQuadrance_c2 : Sound Try.prog 86 run_i_CountByQuadrance_c2 := by
  refine sound_of de_b SO_i_CountByQuadrance_c2 (by kernel_rfl) Try.func86 Try.ntmps86 rfl (by kernel_rfl) ?_
  intro W pvs avs rs hargs hrun
  unfold run_i_CountByQuadrance_c2 at hrun
  split at hrun
  · simp only [Option.some.injEq, Prod.mk.injEq] at hrun
    obtain ⟨hp, rfl⟩ := hrun
    rename_i b0 b1 b2 c0
    exact ⟨_, _, _, hargs, rfl, (eq_i_CountByQuadrance_c2 (b0, b1, b2) c0).trans (tot_i_CountByQuadrance_c2 (b0, b1, b2) c0 hp)⟩
  · cases hrun

def S_i_CountByQuadrance : Sums := ⟨tblS [(46, run_i_asked), (85, run_i_CountByQuadrance_c1), (61, run_i_isNullPlace), (67, run_i_placesWith), (86, run_i_CountByQuadrance_c2), (80, run_i_placeQuadrance)], tblM []⟩
theorem SO_i_CountByQuadrance : SumsOK Try.prog S_i_CountByQuadrance := ⟨tblS_ok ⟨⟨Try.call46, sound_i_asked⟩, ⟨Try.call85, sound_i_CountByQuadrance_c1⟩, ⟨Try.call61, sound_i_isNullPlace⟩, ⟨Try.call67, sound_i_placesWith⟩, ⟨Try.call86, sound_i_CountByQuadrance_c2⟩, ⟨Try.call80, sound_i_placeQuadrance⟩, True.intro⟩, tblM_ok True.intro⟩
def T_i_CountByQuadrance_0 (p : Int) (a : Int × Int × Int) (l20 : List Int) (t25 : Int) : Tab := ⟨[.val (.int .i64 p), .val (.agg ⟨[.int .i64 a.1, .int .i64 a.2.1, .int .i64 a.2.2]⟩), .ptr 8 0, .ptr 12 0, .val (.slice none 0 0), .val (.int .i64 0), .val (.int .i64 (i_asked p (true) (i_CountByQuadrance_c1 p a))), .row 80, .junk, .junk, .val (.int .i64 p), .clo 85 [8, 12], .val (.int .i64 (i_asked p (true) (i_CountByQuadrance_c1 p a))), .val (.int .i64 (i_asked p (true) (i_CountByQuadrance_c1 p a))), .val (.bool ((i_asked p (true) (i_CountByQuadrance_c1 p a)) != 0)), .junk, .val (.int .i64 p), .val (.agg ⟨[.int .i64 a.1, .int .i64 a.2.1, .int .i64 a.2.2]⟩), .val (.bool (i_isNullPlace p a)), .val (.int .i64 p), .row 80, .val (.int .i64 p), .clo 86 [8], .row 92, .val (.int .i64 (((i_placesWith p (fun a0 => prB p) (fun a0 => i_CountByQuadrance_c2 a0 p)).1 : Nat) : Int)), .val (.int .i64 t25), .junk, .junk, .junk, .junk, .junk, .junk, .junk, .junk, .junk, .junk, .junk, .junk, .junk, .junk], [(8, .box 2 [.val (.int .i64 p)]), (12, .box 25 [.val (.int .i64 a.1), .val (.int .i64 a.2.1), .val (.int .i64 a.2.2)]), (80, .row 2 1 p.toNat (.ints l20)), (92, .row 25 3 ((i_placesWith p (fun a0 => prB p) (fun a0 => i_CountByQuadrance_c2 a0 p)).1) (.ints ((i_placesWith p (fun a0 => prB p) (fun a0 => i_CountByQuadrance_c2 a0 p)).2)))]⟩
def X_i_CountByQuadrance_0 (P : Program) (fu : Nat) (p : Int) (a : Int × Int × Int) (f : Nat) (l20 : List Int) (t25 : Int) : Option ((Nat × List Int) × Int) := loopK (exec P S_i_CountByQuadrance 40 (fun _ => fu + 100) (Code.sub [1, 1, 1, 1, 0, 1, 0, 0] (bodyF P 33))) f (T_i_CountByQuadrance_0 p a l20 t25) (kBlock 0 (kSeq (fun s => exec P S_i_CountByQuadrance 40 (fun _ => fu + 100) (Code.sub [1, 1, 1, 1, 1] (bodyF P 33)) s (finT P 33 dec_l2_1_i)) (finT P 33 dec_l2_1_i)))
def B_i_CountByQuadrance_0 (p : Int) (a : Int × Int × Int) (rec0 : (List Int) → Int → Option ((Nat × List Int) × Int)) (l20 : List Int) (t25 : Int) : Option ((Nat × List Int) × Int) :=
  (if (decide (t25 < (((i_placesWith p (fun a0 => prB p) (fun a0 => i_CountByQuadrance_c2 a0 p)).1 : Nat) : Int))) = true then (if (decide (0 ≤ t25) && decide (t25 < (((i_placesWith p (fun a0 => prB p) (fun a0 => i_CountByQuadrance_c2 a0 p)).1 : Nat) : Int))) = true then (if (Nat.ble (t25.toNat * 3 + 3) (((i_placesWith p (fun a0 => prB p) (fun a0 => i_CountByQuadrance_c2 a0 p)).2).length)) = true then (if (prB p) = true then (if (decide (0 ≤ (i_placeQuadrance p a (((i_placesWith p (fun a0 => prB p) (fun a0 => i_CountByQuadrance_c2 a0 p)).2).getD (t25.toNat * 3 + 0) 0, ((i_placesWith p (fun a0 => prB p) (fun a0 => i_CountByQuadrance_c2 a0 p)).2).getD (t25.toNat * 3 + 1) 0, ((i_placesWith p (fun a0 => prB p) (fun a0 => i_CountByQuadrance_c2 a0 p)).2).getD (t25.toNat * 3 + 2) 0))) && decide ((i_placeQuadrance p a (((i_placesWith p (fun a0 => prB p) (fun a0 => i_CountByQuadrance_c2 a0 p)).2).getD (t25.toNat * 3 + 0) 0, ((i_placesWith p (fun a0 => prB p) (fun a0 => i_CountByQuadrance_c2 a0 p)).2).getD (t25.toNat * 3 + 1) 0, ((i_placesWith p (fun a0 => prB p) (fun a0 => i_CountByQuadrance_c2 a0 p)).2).getD (t25.toNat * 3 + 2) 0)) < ((p.toNat : Nat) : Int))) = true then (if (Nat.ble (((i_placeQuadrance p a (((i_placesWith p (fun a0 => prB p) (fun a0 => i_CountByQuadrance_c2 a0 p)).2).getD (t25.toNat * 3 + 0) 0, ((i_placesWith p (fun a0 => prB p) (fun a0 => i_CountByQuadrance_c2 a0 p)).2).getD (t25.toNat * 3 + 1) 0, ((i_placesWith p (fun a0 => prB p) (fun a0 => i_CountByQuadrance_c2 a0 p)).2).getD (t25.toNat * 3 + 2) 0)).toNat) * 1 + 1) l20.length) = true then (if (decide (0 ≤ (i_placeQuadrance p a (((i_placesWith p (fun a0 => prB p) (fun a0 => i_CountByQuadrance_c2 a0 p)).2).getD (t25.toNat * 3 + 0) 0, ((i_placesWith p (fun a0 => prB p) (fun a0 => i_CountByQuadrance_c2 a0 p)).2).getD (t25.toNat * 3 + 1) 0, ((i_placesWith p (fun a0 => prB p) (fun a0 => i_CountByQuadrance_c2 a0 p)).2).getD (t25.toNat * 3 + 2) 0))) && decide ((i_placeQuadrance p a (((i_placesWith p (fun a0 => prB p) (fun a0 => i_CountByQuadrance_c2 a0 p)).2).getD (t25.toNat * 3 + 0) 0, ((i_placesWith p (fun a0 => prB p) (fun a0 => i_CountByQuadrance_c2 a0 p)).2).getD (t25.toNat * 3 + 1) 0, ((i_placesWith p (fun a0 => prB p) (fun a0 => i_CountByQuadrance_c2 a0 p)).2).getD (t25.toNat * 3 + 2) 0)) < ((p.toNat : Nat) : Int))) = true then (if (Nat.ble (((i_placeQuadrance p a (((i_placesWith p (fun a0 => prB p) (fun a0 => i_CountByQuadrance_c2 a0 p)).2).getD (t25.toNat * 3 + 0) 0, ((i_placesWith p (fun a0 => prB p) (fun a0 => i_CountByQuadrance_c2 a0 p)).2).getD (t25.toNat * 3 + 1) 0, ((i_placesWith p (fun a0 => prB p) (fun a0 => i_CountByQuadrance_c2 a0 p)).2).getD (t25.toNat * 3 + 2) 0)).toNat) * 1 + 1) l20.length) = true then rec0 (l20.set (((i_placeQuadrance p a (((i_placesWith p (fun a0 => prB p) (fun a0 => i_CountByQuadrance_c2 a0 p)).2).getD (t25.toNat * 3 + 0) 0, ((i_placesWith p (fun a0 => prB p) (fun a0 => i_CountByQuadrance_c2 a0 p)).2).getD (t25.toNat * 3 + 1) 0, ((i_placesWith p (fun a0 => prB p) (fun a0 => i_CountByQuadrance_c2 a0 p)).2).getD (t25.toNat * 3 + 2) 0)).toNat) * 1 + 0) (wI ((l20.getD (((i_placeQuadrance p a (((i_placesWith p (fun a0 => prB p) (fun a0 => i_CountByQuadrance_c2 a0 p)).2).getD (t25.toNat * 3 + 0) 0, ((i_placesWith p (fun a0 => prB p) (fun a0 => i_CountByQuadrance_c2 a0 p)).2).getD (t25.toNat * 3 + 1) 0, ((i_placesWith p (fun a0 => prB p) (fun a0 => i_CountByQuadrance_c2 a0 p)).2).getD (t25.toNat * 3 + 2) 0)).toNat) * 1) 0) + 1))) (wI (t25 + 1)) else none) else none) else none) else none) else none) else none) else none) else some ((p.toNat, l20), 0))
def L_i_CountByQuadrance_0 (fu : Nat) (p : Int) (a : Int × Int × Int) : Nat → (List Int) → Int → Option ((Nat × List Int) × Int)
  | 0, _, _ => none
  | f + 1, l20, t25 => B_i_CountByQuadrance_0 p a (L_i_CountByQuadrance_0 fu p a f) l20 t25
theorem loop_i_CountByQuadrance_0 (fu : Nat) (p : Int) (a : Int × Int × Int) : ∀ (f : Nat) (l20 : List Int) (t25 : Int), X_i_CountByQuadrance_0 Try.prog fu p a f l20 t25 = L_i_CountByQuadrance_0 fu p a f l20 t25 := by
  intro f
  induction f with
  | zero => intros; rfl
  | succ f ih =>
    intro l20 t25
    have h1 : X_i_CountByQuadrance_0 Try.prog fu p a (f + 1) l20 t25 = B_i_CountByQuadrance_0 p a (X_i_CountByQuadrance_0 Try.prog fu p a f) l20 t25 := by kernel_rfl
    have h2 : X_i_CountByQuadrance_0 Try.prog fu p a f = L_i_CountByQuadrance_0 fu p a f := by funext l20 t25; exact ih l20 t25
    rw [h1, h2]
    rfl
def G_i_CountByQuadrance (p : Int) (a : Int × Int × Int) (lo0 : (List Int) → Int → Option ((Nat × List Int) × Int)) : Option ((Nat × List Int) × Int) :=
  (if ((true) || !(i_IsField p)) = true then (if ((i_asked p (true) (i_CountByQuadrance_c1 p a)) != 0) = true then some ((0, []), (i_asked p (true) (i_CountByQuadrance_c1 p a))) else (if (prB p) = true then (if (i_isNullPlace p a) = true then some ((0, []), 5) else (if (decide (0 ≤ p) && decide (p ≤ 1000000) && p == p) = true then (if (prB p && (places p).all (fun a0 => prB p)) = true then lo0 (List.replicate p.toNat 0) 0 else none) else none)) else none)) else none)
def Fo_i_CountByQuadrance (fu : Nat) (p : Int) (a : Int × Int × Int) : Option ((Nat × List Int) × Int) := G_i_CountByQuadrance p a (L_i_CountByQuadrance_0 fu p a (fu + 100))
theorem eqg_i_CountByQuadrance (fu : Nat) (p : Int) (a : Int × Int × Int) : execT Try.prog S_i_CountByQuadrance 33 40 (fun _ => fu + 100) dec_l2_1_i [.v (.int .i64 p), .v (.agg ⟨[.int .i64 a.1, .int .i64 a.2.1, .int .i64 a.2.2]⟩)] = G_i_CountByQuadrance p a (L_i_CountByQuadrance_0 fu p a (fu + 100)) := by
  have h1 : execT Try.prog S_i_CountByQuadrance 33 40 (fun _ => fu + 100) dec_l2_1_i [.v (.int .i64 p), .v (.agg ⟨[.int .i64 a.1, .int .i64 a.2.1, .int .i64 a.2.2]⟩)] = G_i_CountByQuadrance p a (X_i_CountByQuadrance_0 Try.prog fu p a (fu + 100)) := by kernel_rfl
  have c0 : X_i_CountByQuadrance_0 Try.prog fu p a (fu + 100) = L_i_CountByQuadrance_0 fu p a (fu + 100) := by funext l20 t25; exact loop_i_CountByQuadrance_0 fu p a (fu + 100) l20 t25
  rw [h1, c0]
theorem eq_i_CountByQuadrance (fu : Nat) (p : Int) (a : Int × Int × Int) : execT Try.prog S_i_CountByQuadrance 33 40 (fun _ => fu + 100) dec_l2_1_i [.v (.int .i64 p), .v (.agg ⟨[.int .i64 a.1, .int .i64 a.2.1, .int .i64 a.2.2]⟩)] = Fo_i_CountByQuadrance fu p a := eqg_i_CountByQuadrance fu p a
def V_i_CountByQuadrance_0 (p : Int) (a : Int × Int × Int) : (List Int) → Int → (Nat × List Int) × Int := fun _ _ => ((p.toNat, (((places p).filter fun zz => (i_CountByQuadrance_c2 zz p))).foldl (fun s zz => bump s (i_placeQuadrance p a zz).toNat) (List.replicate p.toNat 0)), 0)
theorem lo0_i_CountByQuadrance (p : Int) (a : P3) (hp : prB p = true) {F : Nat} (hF : 993 < F) : L_i_CountByQuadrance_0 1000000 p a F (List.replicate p.toNat 0) 0 = some ((p.toNat, (((places p).filter fun zz => (i_CountByQuadrance_c2 zz p))).foldl (fun s zz => bump s (i_placeQuadrance p a zz).toNat) (List.replicate p.toNat 0)), 0) := by
  have hlen : (((places p).filter fun zz => (i_CountByQuadrance_c2 zz p))).length ≤ 993 := Nat.le_trans (List.length_filter_le _ _) (places_len hp)
  obtain ⟨h1, h0, hpn⟩ := prB_nat hp
  have h := bumps (L := fun f s i => L_i_CountByQuadrance_0 1000000 p a f s i) (n := (((places p).filter fun zz => (i_CountByQuadrance_c2 zz p))).length) (N := p.toNat) (row := R3 (flat3 (((places p).filter fun zz => (i_CountByQuadrance_c2 zz p))))) (q := fun zz => true) (f := fun zz => (i_placeQuadrance p a zz).toNat) (K := fun s => some ((p.toNat, s), 0)) (F := F) (l := (List.replicate p.toNat 0)) (by omega) (by simp)
    (fun f k s hk hs => by
      show B_i_CountByQuadrance_0 p a (L_i_CountByQuadrance_0 1000000 p a f) s (k : Int) = _
      unfold B_i_CountByQuadrance_0
      have e0 : decide (0 ≤ (k : Int)) = true := by simp
      have e1 := cnd hk
      have e3 : (k : Int).toNat = k := Int.toNat_natCast k
      have e4 := row3_ok (flat3_len _) hk
      have hr : ((flat3 (((places p).filter fun zz => (i_CountByQuadrance_c2 zz p)))).getD (k * 3 + 0) 0, (flat3 (((places p).filter fun zz => (i_CountByQuadrance_c2 zz p)))).getD (k * 3 + 1) 0, (flat3 (((places p).filter fun zz => (i_CountByQuadrance_c2 zz p)))).getD (k * 3 + 2) 0) = R3 (flat3 (((places p).filter fun zz => (i_CountByQuadrance_c2 zz p)))) k := rfl
      rw [show i_placesWith p (fun a0 => prB p) (fun a0 => i_CountByQuadrance_c2 a0 p) = ((((places p).filter fun zz => (i_CountByQuadrance_c2 zz p))).length, flat3 (((places p).filter fun zz => (i_CountByQuadrance_c2 zz p)))) from rfl]
      simp only [hr]
      have b1 : decide (0 ≤ i_placeQuadrance p a (R3 (flat3 (((places p).filter fun zz => (i_CountByQuadrance_c2 zz p)))) k)) = true := by have := (iquad_b hp a (R3 (flat3 ((places p).filter fun zz => (i_CountByQuadrance_c2 zz p))) k)).1; simpa using this
      have b2 : decide (i_placeQuadrance p a (R3 (flat3 (((places p).filter fun zz => (i_CountByQuadrance_c2 zz p)))) k) < ((p.toNat : Nat) : Int)) = true := by have := (iquad_b hp a (R3 (flat3 ((places p).filter fun zz => (i_CountByQuadrance_c2 zz p))) k)).2; simp; omega
      have b3 : Nat.ble ((i_placeQuadrance p a (R3 (flat3 (((places p).filter fun zz => (i_CountByQuadrance_c2 zz p)))) k)).toNat * 1 + 1) s.length = true := leb (by simp at b1 b2; omega)
      simp only [e0, e1, e3, e4, hp, hr, b1, b2, b3, Bool.and_true, Bool.true_and, if_true, wrap_add1 hk (by omega)]
      simp [bump, Nat.mul_one])
    (fun f s => by
      show B_i_CountByQuadrance_0 p a (L_i_CountByQuadrance_0 1000000 p a f) s (((((places p).filter fun zz => (i_CountByQuadrance_c2 zz p))).length : Nat) : Int) = _
      unfold B_i_CountByQuadrance_0
      rw [show i_placesWith p (fun a0 => prB p) (fun a0 => i_CountByQuadrance_c2 a0 p) = ((((places p).filter fun zz => (i_CountByQuadrance_c2 zz p))).length, flat3 (((places p).filter fun zz => (i_CountByQuadrance_c2 zz p)))) from rfl]
      rw [if_neg (by simp)])
  rw [← rows3_R, rows3_flat3] at h
  rw [filter_yes] at h
  exact h

def i_CountByQuadrance (p : Int) (a : Int × Int × Int) : (Nat × List Int) × Int :=
  (if ((i_asked p (true) (i_CountByQuadrance_c1 p a)) != 0) = true then ((0, []), (i_asked p (true) (i_CountByQuadrance_c1 p a))) else (if (i_isNullPlace p a) = true then ((0, []), 5) else V_i_CountByQuadrance_0 p a (List.replicate p.toNat 0) 0))
theorem tot_i_CountByQuadrance (p : Int) (a : Int × Int × Int) : Fo_i_CountByQuadrance 1000000 p a = some (i_CountByQuadrance p a) := by
  unfold Fo_i_CountByQuadrance G_i_CountByQuadrance i_CountByQuadrance
  (try simp only [wI_eq])
  repeat' (first | with_reducible rfl | refine chk_opt (by first | with_reducible rfl | exact Bool.true_or _ | (with_reducible exact asked_prB ‹_›) | (with_reducible exact asked_prB0 ‹_›) | exact mk_ok (by (first | (with_reducible assumption) | (with_reducible exact asked_prB ‹_›) | (with_reducible exact asked_prB0 ‹_›))) | exact and_all (by (first | (with_reducible assumption) | (with_reducible exact asked_prB ‹_›) | (with_reducible exact asked_prB0 ‹_›))) (fun _ => rfl) | exact and_all (by (first | (with_reducible assumption) | (with_reducible exact asked_prB ‹_›) | (with_reducible exact asked_prB0 ‹_›))) (fun _ => by (first | (with_reducible assumption) | (with_reducible exact asked_prB ‹_›) | (with_reducible exact asked_prB0 ‹_›))) | exact and3 (by (first | (with_reducible assumption) | (with_reducible exact asked_prB ‹_›) | (with_reducible exact asked_prB0 ‹_›))) (by (first | (with_reducible assumption) | (with_reducible exact asked_prB ‹_›) | (with_reducible exact asked_prB0 ‹_›))) (by (first | (with_reducible assumption) | (with_reducible exact asked_prB ‹_›) | (with_reducible exact asked_prB0 ‹_›))) | exact and_two (by (first | (with_reducible assumption) | (with_reducible exact asked_prB ‹_›) | (with_reducible exact asked_prB0 ‹_›))) rfl | rfl) ?_ | refine ite_opt (fun _ => ?_) (fun _ => ?_) | exact lo0_i_CountByQuadrance _ _ (by (first | (with_reducible assumption) | (with_reducible exact asked_prB ‹_›) | (with_reducible exact asked_prB0 ‹_›))) (by omega) | rfl)
def run_i_CountByQuadrance : List PV → Option (Bool × List TR)
  | [.v (.int .i64 p), .v (.agg ⟨[.int .i64 a0, .int .i64 a1, .int .i64 a2]⟩)] => some (true, enc_l2_1_i (i_CountByQuadrance p (a0, a1, a2)))
  | _ => none
theorem sound_i_CountByQuadrance : Sound Try.prog 33 run_i_CountByQuadrance := by
  refine sound_of de_l2_1_i SO_i_CountByQuadrance (by kernel_rfl) Try.func33 Try.ntmps33 rfl (by kernel_rfl) ?_
  intro W pvs avs rs hargs hrun
  unfold run_i_CountByQuadrance at hrun
  split at hrun
  · simp only [Option.some.injEq, Prod.mk.injEq] at hrun
    obtain ⟨hp, rfl⟩ := hrun
    rename_i p a0 a1 a2
    exact ⟨_, _, _, hargs, rfl, (eq_i_CountByQuadrance _ p (a0, a1, a2)).trans (tot_i_CountByQuadrance p (a0, a1, a2))⟩
  · cases hrun

def S_s_CountByQuadrance : Sums := ⟨tblS [(50, run_s_l09Code), (70, run_s_l09Null), (69, run_s_l09All), (81, run_s_l09Quadrance)], tblM []⟩
theorem SO_s_CountByQuadrance : SumsOK Try.prog S_s_CountByQuadrance := ⟨tblS_ok ⟨⟨Try.call50, sound_s_l09Code⟩, ⟨Try.call70, sound_s_l09Null⟩, ⟨Try.call69, sound_s_l09All⟩, ⟨Try.call81, sound_s_l09Quadrance⟩, True.intro⟩, tblM_ok True.intro⟩
def T_s_CountByQuadrance_0 (p : Int) (a : Int × Int × Int) (l27 : List Int) (i : Int) : Tab := ⟨[.val (.int .i64 p), .val (.agg ⟨[.int .i64 a.1, .int .i64 a.2.1, .int .i64 a.2.2]⟩), .junk, .ptr 12 0, .val (.slice none 0 0), .val (.int .i64 0), .val (.int .i64 (s_l09Code p [a])), .row 100, .row 108, .val (.int .i64 i), .val (.int .i64 p), .val (.agg ⟨[.int .i64 a.1, .int .i64 a.2.1, .int .i64 a.2.2]⟩), .row 48, .val (.int .i64 (s_l09Code p [a])), .val (.int .i64 (s_l09Code p [a])), .val (.bool ((s_l09Code p [a]) == 0)), .val (.bool true), .val (.int .i64 p), .val (.agg ⟨[.int .i64 a.1, .int .i64 a.2.1, .int .i64 a.2.2]⟩), .val (.bool (s_l09Null p a)), .val (.bool (s_l09Null p a)), .val (.int .i64 (s_l09Code p [a])), .val (.bool ((s_l09Code p [a]) != 0)), .junk, .val (.int .i64 p), .row 100, .val (.int .i64 p), .row 108, .junk, .junk, .junk, .junk, .junk, .junk, .junk, .junk, .junk, .junk, .junk, .junk, .junk, .junk, .junk, .junk, .junk, .junk, .junk, .junk, .junk, .junk, .junk, .junk, .junk, .junk], [(12, .box 25 [.val (.int .i64 a.1), .val (.int .i64 a.2.1), .val (.int .i64 a.2.2)]), (48, .row 25 3 1 (.ints [a.1, a.2.1, a.2.2])), (100, .row 25 3 ((s_l09All p).1) (.ints ((s_l09All p).2))), (108, .row 2 1 p.toNat (.ints l27))]⟩
def T_s_CountByQuadrance_1 (p : Int) (a : Int × Int × Int) (l27 : List Int) (i : Int) : Tab := ⟨[.val (.int .i64 p), .val (.agg ⟨[.int .i64 a.1, .int .i64 a.2.1, .int .i64 a.2.2]⟩), .junk, .ptr 12 0, .val (.slice none 0 0), .val (.int .i64 0), .val (.int .i64 (s_l09Code p [a])), .row 100, .row 108, .val (.int .i64 i), .val (.int .i64 p), .val (.agg ⟨[.int .i64 a.1, .int .i64 a.2.1, .int .i64 a.2.2]⟩), .row 48, .val (.int .i64 (s_l09Code p [a])), .val (.int .i64 (s_l09Code p [a])), .val (.bool ((s_l09Code p [a]) == 0)), .val (.bool false), .val (undef), .val (undef), .val (undef), .val (.bool false), .val (.int .i64 (s_l09Code p [a])), .val (.bool ((s_l09Code p [a]) != 0)), .junk, .val (.int .i64 p), .row 100, .val (.int .i64 p), .row 108, .junk, .junk, .junk, .junk, .junk, .junk, .junk, .junk, .junk, .junk, .junk, .junk, .junk, .junk, .junk, .junk, .junk, .junk, .junk, .junk, .junk, .junk, .junk, .junk, .junk, .junk], [(12, .box 25 [.val (.int .i64 a.1), .val (.int .i64 a.2.1), .val (.int .i64 a.2.2)]), (48, .row 25 3 1 (.ints [a.1, a.2.1, a.2.2])), (100, .row 25 3 ((s_l09All p).1) (.ints ((s_l09All p).2))), (108, .row 2 1 p.toNat (.ints l27))]⟩
def X_s_CountByQuadrance_0 (P : Program) (fu : Nat) (p : Int) (a : Int × Int × Int) (f : Nat) (l27 : List Int) (i : Int) : Option ((Nat × List Int) × Int) := loopK (exec P S_s_CountByQuadrance 54 (fun _ => fu + 100) (Code.sub [1, 1, 1, 1, 1, 0, 1, 0, 0] (bodyF P 44))) f (T_s_CountByQuadrance_0 p a l27 i) (kBlock 0 (kSeq (fun s => exec P S_s_CountByQuadrance 54 (fun _ => fu + 100) (Code.sub [1, 1, 1, 1, 1, 1] (bodyF P 44)) s (finT P 44 dec_l2_1_i)) (finT P 44 dec_l2_1_i)))
def B_s_CountByQuadrance_0 (p : Int) (a : Int × Int × Int) (rec0 : (List Int) → Int → Option ((Nat × List Int) × Int)) (l27 : List Int) (i : Int) : Option ((Nat × List Int) × Int) :=
  (if (decide (i < (((s_l09All p).1 : Nat) : Int))) = true then (if (decide (0 ≤ i) && decide (i < (((s_l09All p).1 : Nat) : Int))) = true then (if (Nat.ble (i.toNat * 3 + 3) (((s_l09All p).2).length)) = true then (if (prB p) = true then (if (!(s_l09Null p (((s_l09All p).2).getD (i.toNat * 3 + 0) 0, ((s_l09All p).2).getD (i.toNat * 3 + 1) 0, ((s_l09All p).2).getD (i.toNat * 3 + 2) 0))) = true then (if (decide (0 ≤ i) && decide (i < (((s_l09All p).1 : Nat) : Int))) = true then (if (Nat.ble (i.toNat * 3 + 3) (((s_l09All p).2).length)) = true then (if (prB p) = true then (if (decide (0 ≤ (s_l09Quadrance p a (((s_l09All p).2).getD (i.toNat * 3 + 0) 0, ((s_l09All p).2).getD (i.toNat * 3 + 1) 0, ((s_l09All p).2).getD (i.toNat * 3 + 2) 0))) && decide ((s_l09Quadrance p a (((s_l09All p).2).getD (i.toNat * 3 + 0) 0, ((s_l09All p).2).getD (i.toNat * 3 + 1) 0, ((s_l09All p).2).getD (i.toNat * 3 + 2) 0)) < ((p.toNat : Nat) : Int))) = true then (if (Nat.ble (((s_l09Quadrance p a (((s_l09All p).2).getD (i.toNat * 3 + 0) 0, ((s_l09All p).2).getD (i.toNat * 3 + 1) 0, ((s_l09All p).2).getD (i.toNat * 3 + 2) 0)).toNat) * 1 + 1) l27.length) = true then (if (decide (0 ≤ (s_l09Quadrance p a (((s_l09All p).2).getD (i.toNat * 3 + 0) 0, ((s_l09All p).2).getD (i.toNat * 3 + 1) 0, ((s_l09All p).2).getD (i.toNat * 3 + 2) 0))) && decide ((s_l09Quadrance p a (((s_l09All p).2).getD (i.toNat * 3 + 0) 0, ((s_l09All p).2).getD (i.toNat * 3 + 1) 0, ((s_l09All p).2).getD (i.toNat * 3 + 2) 0)) < ((p.toNat : Nat) : Int))) = true then (if (Nat.ble (((s_l09Quadrance p a (((s_l09All p).2).getD (i.toNat * 3 + 0) 0, ((s_l09All p).2).getD (i.toNat * 3 + 1) 0, ((s_l09All p).2).getD (i.toNat * 3 + 2) 0)).toNat) * 1 + 1) l27.length) = true then rec0 (l27.set (((s_l09Quadrance p a (((s_l09All p).2).getD (i.toNat * 3 + 0) 0, ((s_l09All p).2).getD (i.toNat * 3 + 1) 0, ((s_l09All p).2).getD (i.toNat * 3 + 2) 0)).toNat) * 1 + 0) (wI ((l27.getD (((s_l09Quadrance p a (((s_l09All p).2).getD (i.toNat * 3 + 0) 0, ((s_l09All p).2).getD (i.toNat * 3 + 1) 0, ((s_l09All p).2).getD (i.toNat * 3 + 2) 0)).toNat) * 1) 0) + 1))) (wI (i + 1)) else none) else none) else none) else none) else none) else none) else none) else rec0 l27 (wI (i + 1))) else none) else none) else none) else some ((p.toNat, l27), 0))
def L_s_CountByQuadrance_0 (fu : Nat) (p : Int) (a : Int × Int × Int) : Nat → (List Int) → Int → Option ((Nat × List Int) × Int)
  | 0, _, _ => none
  | f + 1, l27, i => B_s_CountByQuadrance_0 p a (L_s_CountByQuadrance_0 fu p a f) l27 i
theorem loop_s_CountByQuadrance_0 (fu : Nat) (p : Int) (a : Int × Int × Int) : ∀ (f : Nat) (l27 : List Int) (i : Int), X_s_CountByQuadrance_0 Try.prog fu p a f l27 i = L_s_CountByQuadrance_0 fu p a f l27 i := by
  intro f
  induction f with
  | zero => intros; rfl
  | succ f ih =>
    intro l27 i
    have h1 : X_s_CountByQuadrance_0 Try.prog fu p a (f + 1) l27 i = B_s_CountByQuadrance_0 p a (X_s_CountByQuadrance_0 Try.prog fu p a f) l27 i := by kernel_rfl
    have h2 : X_s_CountByQuadrance_0 Try.prog fu p a f = L_s_CountByQuadrance_0 fu p a f := by funext l27 i; exact ih l27 i
    rw [h1, h2]
    rfl
def X_s_CountByQuadrance_1 (P : Program) (fu : Nat) (p : Int) (a : Int × Int × Int) (f : Nat) (l27 : List Int) (i : Int) : Option ((Nat × List Int) × Int) := loopK (exec P S_s_CountByQuadrance 54 (fun _ => fu + 100) (Code.sub [1, 1, 1, 1, 1, 0, 1, 0, 0] (bodyF P 44))) f (T_s_CountByQuadrance_1 p a l27 i) (kBlock 0 (kSeq (fun s => exec P S_s_CountByQuadrance 54 (fun _ => fu + 100) (Code.sub [1, 1, 1, 1, 1, 1] (bodyF P 44)) s (finT P 44 dec_l2_1_i)) (finT P 44 dec_l2_1_i)))
def B_s_CountByQuadrance_1 (p : Int) (a : Int × Int × Int) (rec1 : (List Int) → Int → Option ((Nat × List Int) × Int)) (l27 : List Int) (i : Int) : Option ((Nat × List Int) × Int) :=
  (if (decide (i < (((s_l09All p).1 : Nat) : Int))) = true then (if (decide (0 ≤ i) && decide (i < (((s_l09All p).1 : Nat) : Int))) = true then (if (Nat.ble (i.toNat * 3 + 3) (((s_l09All p).2).length)) = true then (if (prB p) = true then (if (!(s_l09Null p (((s_l09All p).2).getD (i.toNat * 3 + 0) 0, ((s_l09All p).2).getD (i.toNat * 3 + 1) 0, ((s_l09All p).2).getD (i.toNat * 3 + 2) 0))) = true then (if (decide (0 ≤ i) && decide (i < (((s_l09All p).1 : Nat) : Int))) = true then (if (Nat.ble (i.toNat * 3 + 3) (((s_l09All p).2).length)) = true then (if (prB p) = true then (if (decide (0 ≤ (s_l09Quadrance p a (((s_l09All p).2).getD (i.toNat * 3 + 0) 0, ((s_l09All p).2).getD (i.toNat * 3 + 1) 0, ((s_l09All p).2).getD (i.toNat * 3 + 2) 0))) && decide ((s_l09Quadrance p a (((s_l09All p).2).getD (i.toNat * 3 + 0) 0, ((s_l09All p).2).getD (i.toNat * 3 + 1) 0, ((s_l09All p).2).getD (i.toNat * 3 + 2) 0)) < ((p.toNat : Nat) : Int))) = true then (if (Nat.ble (((s_l09Quadrance p a (((s_l09All p).2).getD (i.toNat * 3 + 0) 0, ((s_l09All p).2).getD (i.toNat * 3 + 1) 0, ((s_l09All p).2).getD (i.toNat * 3 + 2) 0)).toNat) * 1 + 1) l27.length) = true then (if (decide (0 ≤ (s_l09Quadrance p a (((s_l09All p).2).getD (i.toNat * 3 + 0) 0, ((s_l09All p).2).getD (i.toNat * 3 + 1) 0, ((s_l09All p).2).getD (i.toNat * 3 + 2) 0))) && decide ((s_l09Quadrance p a (((s_l09All p).2).getD (i.toNat * 3 + 0) 0, ((s_l09All p).2).getD (i.toNat * 3 + 1) 0, ((s_l09All p).2).getD (i.toNat * 3 + 2) 0)) < ((p.toNat : Nat) : Int))) = true then (if (Nat.ble (((s_l09Quadrance p a (((s_l09All p).2).getD (i.toNat * 3 + 0) 0, ((s_l09All p).2).getD (i.toNat * 3 + 1) 0, ((s_l09All p).2).getD (i.toNat * 3 + 2) 0)).toNat) * 1 + 1) l27.length) = true then rec1 (l27.set (((s_l09Quadrance p a (((s_l09All p).2).getD (i.toNat * 3 + 0) 0, ((s_l09All p).2).getD (i.toNat * 3 + 1) 0, ((s_l09All p).2).getD (i.toNat * 3 + 2) 0)).toNat) * 1 + 0) (wI ((l27.getD (((s_l09Quadrance p a (((s_l09All p).2).getD (i.toNat * 3 + 0) 0, ((s_l09All p).2).getD (i.toNat * 3 + 1) 0, ((s_l09All p).2).getD (i.toNat * 3 + 2) 0)).toNat) * 1) 0) + 1))) (wI (i + 1)) else none) else none) else none) else none) else none) else none) else none) else rec1 l27 (wI (i + 1))) else none) else none) else none) else some ((p.toNat, l27), 0))
def L_s_CountByQuadrance_1 (fu : Nat) (p : Int) (a : Int × Int × Int) : Nat → (List Int) → Int → Option ((Nat × List Int) × Int)
  | 0, _, _ => none
  | f + 1, l27, i => B_s_CountByQuadrance_1 p a (L_s_CountByQuadrance_1 fu p a f) l27 i
theorem loop_s_CountByQuadrance_1 (fu : Nat) (p : Int) (a : Int × Int × Int) : ∀ (f : Nat) (l27 : List Int) (i : Int), X_s_CountByQuadrance_1 Try.prog fu p a f l27 i = L_s_CountByQuadrance_1 fu p a f l27 i := by
  intro f
  induction f with
  | zero => intros; rfl
  | succ f ih =>
    intro l27 i
    have h1 : X_s_CountByQuadrance_1 Try.prog fu p a (f + 1) l27 i = B_s_CountByQuadrance_1 p a (X_s_CountByQuadrance_1 Try.prog fu p a f) l27 i := by kernel_rfl
    have h2 : X_s_CountByQuadrance_1 Try.prog fu p a f = L_s_CountByQuadrance_1 fu p a f := by funext l27 i; exact ih l27 i
    rw [h1, h2]
    rfl
theorem same_s_CountByQuadrance_1 : L_s_CountByQuadrance_1 = L_s_CountByQuadrance_0 := by kernel_rfl
def G_s_CountByQuadrance (p : Int) (a : Int × Int × Int) (lo0 : (List Int) → Int → Option ((Nat × List Int) × Int)) (lo1 : (List Int) → Int → Option ((Nat × List Int) × Int)) : Option ((Nat × List Int) × Int) :=
  (if ((s_l09Code p [a]) == 0) = true then (if (prB p) = true then (if (s_l09Null p a) = true then some ((0, []), 5) else (if ((s_l09Code p [a]) != 0) = true then some ((0, []), (s_l09Code p [a])) else (if (prB p) = true then (if (decide (0 ≤ p) && decide (p ≤ 1000000) && p == p) = true then lo0 (List.replicate p.toNat 0) 0 else none) else none))) else none) else (if ((s_l09Code p [a]) != 0) = true then some ((0, []), (s_l09Code p [a])) else (if (prB p) = true then (if (decide (0 ≤ p) && decide (p ≤ 1000000) && p == p) = true then lo1 (List.replicate p.toNat 0) 0 else none) else none)))
def Fo_s_CountByQuadrance (fu : Nat) (p : Int) (a : Int × Int × Int) : Option ((Nat × List Int) × Int) := G_s_CountByQuadrance p a (L_s_CountByQuadrance_0 fu p a (fu + 100)) (L_s_CountByQuadrance_1 fu p a (fu + 100))
theorem eqg_s_CountByQuadrance (fu : Nat) (p : Int) (a : Int × Int × Int) : execT Try.prog S_s_CountByQuadrance 44 54 (fun _ => fu + 100) dec_l2_1_i [.v (.int .i64 p), .v (.agg ⟨[.int .i64 a.1, .int .i64 a.2.1, .int .i64 a.2.2]⟩)] = G_s_CountByQuadrance p a (L_s_CountByQuadrance_0 fu p a (fu + 100)) (L_s_CountByQuadrance_1 fu p a (fu + 100)) := by
  have h1 : execT Try.prog S_s_CountByQuadrance 44 54 (fun _ => fu + 100) dec_l2_1_i [.v (.int .i64 p), .v (.agg ⟨[.int .i64 a.1, .int .i64 a.2.1, .int .i64 a.2.2]⟩)] = G_s_CountByQuadrance p a (X_s_CountByQuadrance_0 Try.prog fu p a (fu + 100)) (X_s_CountByQuadrance_1 Try.prog fu p a (fu + 100)) := by kernel_rfl
  have c0 : X_s_CountByQuadrance_0 Try.prog fu p a (fu + 100) = L_s_CountByQuadrance_0 fu p a (fu + 100) := by funext l27 i; exact loop_s_CountByQuadrance_0 fu p a (fu + 100) l27 i
  have c1 : X_s_CountByQuadrance_1 Try.prog fu p a (fu + 100) = L_s_CountByQuadrance_1 fu p a (fu + 100) := by funext l27 i; exact loop_s_CountByQuadrance_1 fu p a (fu + 100) l27 i
  rw [h1, c0, c1]
theorem eq_s_CountByQuadrance (fu : Nat) (p : Int) (a : Int × Int × Int) : execT Try.prog S_s_CountByQuadrance 44 54 (fun _ => fu + 100) dec_l2_1_i [.v (.int .i64 p), .v (.agg ⟨[.int .i64 a.1, .int .i64 a.2.1, .int .i64 a.2.2]⟩)] = Fo_s_CountByQuadrance fu p a := eqg_s_CountByQuadrance fu p a
def V_s_CountByQuadrance_0 (p : Int) (a : Int × Int × Int) : (List Int) → Int → (Nat × List Int) × Int := fun _ _ => ((p.toNat, (((places p).filter fun zz => (!(s_l09Null p zz)))).foldl (fun s zz => bump s (s_l09Quadrance p a zz).toNat) (List.replicate p.toNat 0)), 0)
theorem lo0_s_CountByQuadrance (p : Int) (a : P3) (hp : prB p = true) {F : Nat} (hF : 993 < F) : L_s_CountByQuadrance_0 1000000 p a F (List.replicate p.toNat 0) 0 = some ((p.toNat, (((places p).filter fun zz => (!(s_l09Null p zz)))).foldl (fun s zz => bump s (s_l09Quadrance p a zz).toNat) (List.replicate p.toNat 0)), 0) := by
  have hlen : (places p).length ≤ 993 := places_len hp
  obtain ⟨h1, h0, hpn⟩ := prB_nat hp
  have h := bumps (L := fun f s i => L_s_CountByQuadrance_0 1000000 p a f s i) (n := (places p).length) (N := p.toNat) (row := R3 (flat3 (places p))) (q := fun zz => (!(s_l09Null p zz))) (f := fun zz => (s_l09Quadrance p a zz).toNat) (K := fun s => some ((p.toNat, s), 0)) (F := F) (l := (List.replicate p.toNat 0)) (by omega) (by simp)
    (fun f k s hk hs => by
      show B_s_CountByQuadrance_0 p a (L_s_CountByQuadrance_0 1000000 p a f) s (k : Int) = _
      unfold B_s_CountByQuadrance_0
      have e0 : decide (0 ≤ (k : Int)) = true := by simp
      have e1 := cnd hk
      have e3 : (k : Int).toNat = k := Int.toNat_natCast k
      have e4 := row3_ok (flat3_len _) hk
      have hr : ((flat3 (places p)).getD (k * 3 + 0) 0, (flat3 (places p)).getD (k * 3 + 1) 0, (flat3 (places p)).getD (k * 3 + 2) 0) = R3 (flat3 (places p)) k := rfl
      rw [show s_l09All p = ((places p).length, flat3 (places p)) from rfl]
      simp only [hr]
      have b1 : decide (0 ≤ s_l09Quadrance p a (R3 (flat3 (places p)) k)) = true := by have := (squad_b hp a (R3 (flat3 (places p)) k)).1; simpa using this
      have b2 : decide (s_l09Quadrance p a (R3 (flat3 (places p)) k) < ((p.toNat : Nat) : Int)) = true := by have := (squad_b hp a (R3 (flat3 (places p)) k)).2; simp; omega
      have b3 : Nat.ble ((s_l09Quadrance p a (R3 (flat3 (places p)) k)).toNat * 1 + 1) s.length = true := leb (by simp at b1 b2; omega)
      simp only [e0, e1, e3, e4, hp, hr, b1, b2, b3, Bool.and_true, Bool.true_and, if_true, wrap_add1 hk (by omega)]
      generalize ((!(s_l09Null p (R3 (flat3 (places p)) k)))) = c
      cases c <;> simp [bump, Nat.mul_one])
    (fun f s => by
      show B_s_CountByQuadrance_0 p a (L_s_CountByQuadrance_0 1000000 p a f) s (((places p).length : Nat) : Int) = _
      unfold B_s_CountByQuadrance_0
      rw [show s_l09All p = ((places p).length, flat3 (places p)) from rfl]
      rw [if_neg (by simp)])
  rw [← rows3_R, rows3_flat3] at h
  exact h

def V_s_CountByQuadrance_1 (p : Int) (a : Int × Int × Int) : (List Int) → Int → (Nat × List Int) × Int := fun _ _ => ((p.toNat, (((places p).filter fun zz => (!(s_l09Null p zz)))).foldl (fun s zz => bump s (s_l09Quadrance p a zz).toNat) (List.replicate p.toNat 0)), 0)
theorem lo1_s_CountByQuadrance (p : Int) (a : P3) (hp : prB p = true) {F : Nat} (hF : 993 < F) : L_s_CountByQuadrance_1 1000000 p a F (List.replicate p.toNat 0) 0 = some ((p.toNat, (((places p).filter fun zz => (!(s_l09Null p zz)))).foldl (fun s zz => bump s (s_l09Quadrance p a zz).toNat) (List.replicate p.toNat 0)), 0) := by
  have hlen : (places p).length ≤ 993 := places_len hp
  obtain ⟨h1, h0, hpn⟩ := prB_nat hp
  have h := bumps (L := fun f s i => L_s_CountByQuadrance_1 1000000 p a f s i) (n := (places p).length) (N := p.toNat) (row := R3 (flat3 (places p))) (q := fun zz => (!(s_l09Null p zz))) (f := fun zz => (s_l09Quadrance p a zz).toNat) (K := fun s => some ((p.toNat, s), 0)) (F := F) (l := (List.replicate p.toNat 0)) (by omega) (by simp)
    (fun f k s hk hs => by
      show B_s_CountByQuadrance_1 p a (L_s_CountByQuadrance_1 1000000 p a f) s (k : Int) = _
      unfold B_s_CountByQuadrance_1
      have e0 : decide (0 ≤ (k : Int)) = true := by simp
      have e1 := cnd hk
      have e3 : (k : Int).toNat = k := Int.toNat_natCast k
      have e4 := row3_ok (flat3_len _) hk
      have hr : ((flat3 (places p)).getD (k * 3 + 0) 0, (flat3 (places p)).getD (k * 3 + 1) 0, (flat3 (places p)).getD (k * 3 + 2) 0) = R3 (flat3 (places p)) k := rfl
      rw [show s_l09All p = ((places p).length, flat3 (places p)) from rfl]
      simp only [hr]
      have b1 : decide (0 ≤ s_l09Quadrance p a (R3 (flat3 (places p)) k)) = true := by have := (squad_b hp a (R3 (flat3 (places p)) k)).1; simpa using this
      have b2 : decide (s_l09Quadrance p a (R3 (flat3 (places p)) k) < ((p.toNat : Nat) : Int)) = true := by have := (squad_b hp a (R3 (flat3 (places p)) k)).2; simp; omega
      have b3 : Nat.ble ((s_l09Quadrance p a (R3 (flat3 (places p)) k)).toNat * 1 + 1) s.length = true := leb (by simp at b1 b2; omega)
      simp only [e0, e1, e3, e4, hp, hr, b1, b2, b3, Bool.and_true, Bool.true_and, if_true, wrap_add1 hk (by omega)]
      generalize ((!(s_l09Null p (R3 (flat3 (places p)) k)))) = c
      cases c <;> simp [bump, Nat.mul_one])
    (fun f s => by
      show B_s_CountByQuadrance_1 p a (L_s_CountByQuadrance_1 1000000 p a f) s (((places p).length : Nat) : Int) = _
      unfold B_s_CountByQuadrance_1
      rw [show s_l09All p = ((places p).length, flat3 (places p)) from rfl]
      rw [if_neg (by simp)])
  rw [← rows3_R, rows3_flat3] at h
  exact h

def s_CountByQuadrance (p : Int) (a : Int × Int × Int) : (Nat × List Int) × Int :=
  (if ((s_l09Code p [a]) == 0) = true then (if (s_l09Null p a) = true then ((0, []), 5) else (if ((s_l09Code p [a]) != 0) = true then ((0, []), (s_l09Code p [a])) else V_s_CountByQuadrance_0 p a (List.replicate p.toNat 0) 0)) else (if ((s_l09Code p [a]) != 0) = true then ((0, []), (s_l09Code p [a])) else V_s_CountByQuadrance_1 p a (List.replicate p.toNat 0) 0))
theorem tot_s_CountByQuadrance (p : Int) (a : Int × Int × Int) : Fo_s_CountByQuadrance 1000000 p a = some (s_CountByQuadrance p a) := by
  unfold Fo_s_CountByQuadrance G_s_CountByQuadrance s_CountByQuadrance
  (try simp only [wI_eq])
  repeat' (first | with_reducible rfl | refine chk_opt (by first | with_reducible rfl | exact Bool.true_or _ | (with_reducible exact l09Code_prB ‹_›) | (with_reducible exact l09Code_prB0 ‹_›) | exact mk_ok (by (first | (with_reducible assumption) | (with_reducible exact l09Code_prB ‹_›) | (with_reducible exact l09Code_prB0 ‹_›))) | exact and_all (by (first | (with_reducible assumption) | (with_reducible exact l09Code_prB ‹_›) | (with_reducible exact l09Code_prB0 ‹_›))) (fun _ => rfl) | exact and_all (by (first | (with_reducible assumption) | (with_reducible exact l09Code_prB ‹_›) | (with_reducible exact l09Code_prB0 ‹_›))) (fun _ => by (first | (with_reducible assumption) | (with_reducible exact l09Code_prB ‹_›) | (with_reducible exact l09Code_prB0 ‹_›))) | exact and3 (by (first | (with_reducible assumption) | (with_reducible exact l09Code_prB ‹_›) | (with_reducible exact l09Code_prB0 ‹_›))) (by (first | (with_reducible assumption) | (with_reducible exact l09Code_prB ‹_›) | (with_reducible exact l09Code_prB0 ‹_›))) (by (first | (with_reducible assumption) | (with_reducible exact l09Code_prB ‹_›) | (with_reducible exact l09Code_prB0 ‹_›))) | exact and_two (by (first | (with_reducible assumption) | (with_reducible exact l09Code_prB ‹_›) | (with_reducible exact l09Code_prB0 ‹_›))) rfl | rfl) ?_ | refine ite_opt (fun _ => ?_) (fun _ => ?_) | exact lo0_s_CountByQuadrance _ _ (by (first | (with_reducible assumption) | (with_reducible exact l09Code_prB ‹_›) | (with_reducible exact l09Code_prB0 ‹_›))) (by omega) | exact lo1_s_CountByQuadrance _ _ (by (first | (with_reducible assumption) | (with_reducible exact l09Code_prB ‹_›) | (with_reducible exact l09Code_prB0 ‹_›))) (by omega) | rfl)
def run_s_CountByQuadrance : List PV → Option (Bool × List TR)
  | [.v (.int .i64 p), .v (.agg ⟨[.int .i64 a0, .int .i64 a1, .int .i64 a2]⟩)] => some (true, enc_l2_1_i (s_CountByQuadrance p (a0, a1, a2)))
  | _ => none
theorem sound_s_CountByQuadrance : Sound Try.prog 44 run_s_CountByQuadrance := by
  refine sound_of de_l2_1_i SO_s_CountByQuadrance (by kernel_rfl) Try.func44 Try.ntmps44 rfl (by kernel_rfl) ?_
  intro W pvs avs rs hargs hrun
  unfold run_s_CountByQuadrance at hrun
  split at hrun
  · simp only [Option.some.injEq, Prod.mk.injEq] at hrun
    obtain ⟨hp, rfl⟩ := hrun
    rename_i p a0 a1 a2
    exact ⟨_, _, _, hargs, rfl, (eq_s_CountByQuadrance _ p (a0, a1, a2)).trans (tot_s_CountByQuadrance p (a0, a1, a2))⟩
  · cases hrun

def S_i_MidpointsOf_c1 : Sums := ⟨tblS [(48, run_i_arePlaces)], tblM []⟩
theorem SO_i_MidpointsOf_c1 : SumsOK Try.prog S_i_MidpointsOf_c1 := ⟨tblS_ok ⟨⟨Try.call48, sound_i_arePlaces⟩, True.intro⟩, tblM_ok True.intro⟩
def Fo_i_MidpointsOf_c1 (c0 : Int) (c1 : Int × Int × Int) (c2 : Int × Int × Int) : Option (Bool) :=
  some (i_arePlaces c0 [c1, c2])
theorem eq_i_MidpointsOf_c1 (c0 : Int) (c1 : Int × Int × Int) (c2 : Int × Int × Int) : execT Try.prog S_i_MidpointsOf_c1 87 9 (fun _ => 1000000) dec_b [.p [.int .i64 c0], .p [.int .i64 c1.1, .int .i64 c1.2.1, .int .i64 c1.2.2], .p [.int .i64 c2.1, .int .i64 c2.2.1, .int .i64 c2.2.2]] = Fo_i_MidpointsOf_c1 c0 c1 c2 := by
  kernel_rfl
def i_MidpointsOf_c1 (c0 : Int) (c1 : Int × Int × Int) (c2 : Int × Int × Int) : Bool :=
  (i_arePlaces c0 [c1, c2])
theorem tot_i_MidpointsOf_c1 (c0 : Int) (c1 : Int × Int × Int) (c2 : Int × Int × Int) : Fo_i_MidpointsOf_c1 c0 c1 c2 = some (i_MidpointsOf_c1 c0 c1 c2) := by
  unfold Fo_i_MidpointsOf_c1 i_MidpointsOf_c1
  (try simp only [wI_eq])
  repeat' (first | with_reducible rfl | refine ite_opt (fun _ => ?_) (fun _ => ?_) | rfl)
def run_i_MidpointsOf_c1 : List PV → Option (Bool × List TR)
  | [.p [.int .i64 c0], .p [.int .i64 c10, .int .i64 c11, .int .i64 c12], .p [.int .i64 c20, .int .i64 c21, .int .i64 c22]] => some (true, enc_b (i_MidpointsOf_c1 c0 (c10, c11, c12) (c20, c21, c22)))
  | _ => none
theorem sound_i_MidpointsOf_c1 : Sound Try.prog 87 run_i_MidpointsOf_c1 := by
  refine sound_of de_b SO_i_MidpointsOf_c1 (by kernel_rfl) Try.func87 Try.ntmps87 rfl (by kernel_rfl) ?_
  intro W pvs avs rs hargs hrun
  unfold run_i_MidpointsOf_c1 at hrun
  split at hrun
  · simp only [Option.some.injEq, Prod.mk.injEq] at hrun
    obtain ⟨hp, rfl⟩ := hrun
    rename_i c0 c10 c11 c12 c20 c21 c22
    exact ⟨_, _, _, hargs, rfl, (eq_i_MidpointsOf_c1 c0 (c10, c11, c12) (c20, c21, c22)).trans (tot_i_MidpointsOf_c1 c0 (c10, c11, c12) (c20, c21, c22))⟩
  · cases hrun

def S_i_MidpointsOf_c2 : Sums := ⟨tblS [(61, run_i_isNullPlace), (53, run_i_placeProduct), (80, run_i_placeQuadrance)], tblM []⟩
theorem SO_i_MidpointsOf_c2 : SumsOK Try.prog S_i_MidpointsOf_c2 := ⟨tblS_ok ⟨⟨Try.call61, sound_i_isNullPlace⟩, ⟨Try.call53, sound_i_placeProduct⟩, ⟨Try.call80, sound_i_placeQuadrance⟩, True.intro⟩, tblM_ok True.intro⟩
def Fo_i_MidpointsOf_c2 (m : Int × Int × Int) (c0 : Int) (c1 : Int × Int × Int) (c2 : Int × Int × Int) (c3 : Int × Int × Int) : Option (Bool) :=
  (if (prB c0) = true then (if (!(i_isNullPlace c0 m)) = true then (if (prB c0) = true then (if ((i_placeProduct c0 m c1) == 0) = true then (if (prB c0) = true then (if (prB c0) = true then some ((i_placeQuadrance c0 m c2) == (i_placeQuadrance c0 m c3)) else none) else none) else some false) else none) else some false) else none)
theorem eq_i_MidpointsOf_c2 (m : Int × Int × Int) (c0 : Int) (c1 : Int × Int × Int) (c2 : Int × Int × Int) (c3 : Int × Int × Int) : execT Try.prog S_i_MidpointsOf_c2 88 29 (fun _ => 1000000) dec_b [.v (.agg ⟨[.int .i64 m.1, .int .i64 m.2.1, .int .i64 m.2.2]⟩), .p [.int .i64 c0], .p [.int .i64 c1.1, .int .i64 c1.2.1, .int .i64 c1.2.2], .p [.int .i64 c2.1, .int .i64 c2.2.1, .int .i64 c2.2.2], .p [.int .i64 c3.1, .int .i64 c3.2.1, .int .i64 c3.2.2]] = Fo_i_MidpointsOf_c2 m c0 c1 c2 c3 := by
  kernel_rfl
def i_MidpointsOf_c2 (m : Int × Int × Int) (c0 : Int) (c1 : Int × Int × Int) (c2 : Int × Int × Int) (c3 : Int × Int × Int) : Bool :=
  (if (!(i_isNullPlace c0 m)) = true then (if ((i_placeProduct c0 m c1) == 0) = true then (i_placeQuadrance c0 m c2) == (i_placeQuadrance c0 m c3) else false) else false)
theorem tot_i_MidpointsOf_c2 (m : Int × Int × Int) (c0 : Int) (c1 : Int × Int × Int) (c2 : Int × Int × Int) (c3 : Int × Int × Int) (hp : (prB c0) = true) : Fo_i_MidpointsOf_c2 m c0 c1 c2 c3 = some (i_MidpointsOf_c2 m c0 c1 c2 c3) := by
  try have h0 := prB_ne hp
  unfold Fo_i_MidpointsOf_c2 i_MidpointsOf_c2
  (try simp only [wI_eq])
  repeat' (first | with_reducible rfl | with_reducible refine chk_opt hp ?_ | with_reducible refine chk_opt h0 ?_ | refine chk_opt (and_all hp fun _ => hp) ?_ | refine chk_opt (and_all hp fun _ => rfl) ?_ | refine ite_opt (fun _ => ?_) (fun _ => ?_) | rfl)
def run_i_MidpointsOf_c2 : List PV → Option (Bool × List TR)
  | [.v (.agg ⟨[.int .i64 m0, .int .i64 m1, .int .i64 m2]⟩), .p [.int .i64 c0], .p [.int .i64 c10, .int .i64 c11, .int .i64 c12], .p [.int .i64 c20, .int .i64 c21, .int .i64 c22], .p [.int .i64 c30, .int .i64 c31, .int .i64 c32]] => some (prB c0, enc_b (i_MidpointsOf_c2 (m0, m1, m2) c0 (c10, c11, c12) (c20, c21, c22) (c30, c31, c32)))
  | _ => none
theorem sound_i_MidpointsOf_c2 : Sound Try.prog 88 run_i_MidpointsOf_c2 := by
  refine sound_of de_b SO_i_MidpointsOf_c2 (by kernel_rfl) Try.func88 Try.ntmps88 rfl (by kernel_rfl) ?_
  intro W pvs avs rs hargs hrun
  unfold run_i_MidpointsOf_c2 at hrun
  split at hrun
  · simp only [Option.some.injEq, Prod.mk.injEq] at hrun
    obtain ⟨hp, rfl⟩ := hrun
    rename_i m0 m1 m2 c0 c10 c11 c12 c20 c21 c22 c30 c31 c32
    exact ⟨_, _, _, hargs, rfl, (eq_i_MidpointsOf_c2 (m0, m1, m2) c0 (c10, c11, c12) (c20, c21, c22) (c30, c31, c32)).trans (tot_i_MidpointsOf_c2 (m0, m1, m2) c0 (c10, c11, c12) (c20, c21, c22) (c30, c31, c32) hp)⟩
  · cases hrun

def S_i_MidpointsOf : Sums := ⟨tblS [(46, run_i_asked), (87, run_i_MidpointsOf_c1), (61, run_i_isNullPlace), (49, run_i_join), (67, run_i_placesWith), (88, run_i_MidpointsOf_c2)], tblM []⟩
theorem SO_i_MidpointsOf : SumsOK Try.prog S_i_MidpointsOf := ⟨tblS_ok ⟨⟨Try.call46, sound_i_asked⟩, ⟨Try.call87, sound_i_MidpointsOf_c1⟩, ⟨Try.call61, sound_i_isNullPlace⟩, ⟨Try.call49, sound_i_join⟩, ⟨Try.call67, sound_i_placesWith⟩, ⟨Try.call88, sound_i_MidpointsOf_c2⟩, True.intro⟩, tblM_ok True.intro⟩
def Fo_i_MidpointsOf (p : Int) (a : Int × Int × Int) (b : Int × Int × Int) : Option ((Nat × List Int) × Int) :=
  (if ((true) || !(i_IsField p)) = true then (if ((i_asked p (true) (i_MidpointsOf_c1 p a b)) != 0) = true then some ((0, []), (i_asked p (true) (i_MidpointsOf_c1 p a b))) else (if (a == b) = true then some ((0, []), 5) else (if (prB p) = true then (if (i_isNullPlace p a) = true then some ((0, []), 5) else (if (prB p) = true then (if (i_isNullPlace p b) = true then some ((0, []), 5) else (if (prB p) = true then (if (prB p && (places p).all (fun a0 => prB p)) = true then some (((i_placesWith p (fun a0 => prB p) (fun a0 => i_MidpointsOf_c2 a0 p (i_join p a b) a b)).1, (i_placesWith p (fun a0 => prB p) (fun a0 => i_MidpointsOf_c2 a0 p (i_join p a b) a b)).2), 0) else none) else none)) else none)) else none))) else none)
theorem eq_i_MidpointsOf (p : Int) (a : Int × Int × Int) (b : Int × Int × Int) : execT Try.prog S_i_MidpointsOf 36 36 (fun _ => 1000000) dec_l25_3_i [.v (.int .i64 p), .v (.agg ⟨[.int .i64 a.1, .int .i64 a.2.1, .int .i64 a.2.2]⟩), .v (.agg ⟨[.int .i64 b.1, .int .i64 b.2.1, .int .i64 b.2.2]⟩)] = Fo_i_MidpointsOf p a b := by
  kernel_rfl
def i_MidpointsOf (p : Int) (a : Int × Int × Int) (b : Int × Int × Int) : (Nat × List Int) × Int :=
  (if ((i_asked p (true) (i_MidpointsOf_c1 p a b)) != 0) = true then ((0, []), (i_asked p (true) (i_MidpointsOf_c1 p a b))) else (if (a == b) = true then ((0, []), 5) else (if (i_isNullPlace p a) = true then ((0, []), 5) else (if (i_isNullPlace p b) = true then ((0, []), 5) else (((i_placesWith p (fun a0 => prB p) (fun a0 => i_MidpointsOf_c2 a0 p (i_join p a b) a b)).1, (i_placesWith p (fun a0 => prB p) (fun a0 => i_MidpointsOf_c2 a0 p (i_join p a b) a b)).2), 0)))))
theorem tot_i_MidpointsOf (p : Int) (a : Int × Int × Int) (b : Int × Int × Int) : Fo_i_MidpointsOf p a b = some (i_MidpointsOf p a b) := by
  unfold Fo_i_MidpointsOf i_MidpointsOf
  (try simp only [wI_eq])
  repeat' (first | with_reducible rfl | refine chk_opt (by first | with_reducible rfl | exact Bool.true_or _ | (with_reducible exact asked_prB ‹_›) | (with_reducible exact asked_prB0 ‹_›) | exact mk_ok (by (first | (with_reducible assumption) | (with_reducible exact asked_prB ‹_›) | (with_reducible exact asked_prB0 ‹_›))) | exact and_all (by (first | (with_reducible assumption) | (with_reducible exact asked_prB ‹_›) | (with_reducible exact asked_prB0 ‹_›))) (fun _ => rfl) | exact and_all (by (first | (with_reducible assumption) | (with_reducible exact asked_prB ‹_›) | (with_reducible exact asked_prB0 ‹_›))) (fun _ => by (first | (with_reducible assumption) | (with_reducible exact asked_prB ‹_›) | (with_reducible exact asked_prB0 ‹_›))) | exact and3 (by (first | (with_reducible assumption) | (with_reducible exact asked_prB ‹_›) | (with_reducible exact asked_prB0 ‹_›))) (by (first | (with_reducible assumption) | (with_reducible exact asked_prB ‹_›) | (with_reducible exact asked_prB0 ‹_›))) (by (first | (with_reducible assumption) | (with_reducible exact asked_prB ‹_›) | (with_reducible exact asked_prB0 ‹_›))) | exact and_two (by (first | (with_reducible assumption) | (with_reducible exact asked_prB ‹_›) | (with_reducible exact asked_prB0 ‹_›))) rfl | rfl) ?_ | refine ite_opt (fun _ => ?_) (fun _ => ?_) | rfl)
def run_i_MidpointsOf : List PV → Option (Bool × List TR)
  | [.v (.int .i64 p), .v (.agg ⟨[.int .i64 a0, .int .i64 a1, .int .i64 a2]⟩), .v (.agg ⟨[.int .i64 b0, .int .i64 b1, .int .i64 b2]⟩)] => some (true, enc_l25_3_i (i_MidpointsOf p (a0, a1, a2) (b0, b1, b2)))
  | _ => none
theorem sound_i_MidpointsOf : Sound Try.prog 36 run_i_MidpointsOf := by
  refine sound_of de_l25_3_i SO_i_MidpointsOf (by kernel_rfl) Try.func36 Try.ntmps36 rfl (by kernel_rfl) ?_
  intro W pvs avs rs hargs hrun
  unfold run_i_MidpointsOf at hrun
  split at hrun
  · simp only [Option.some.injEq, Prod.mk.injEq] at hrun
    obtain ⟨hp, rfl⟩ := hrun
    rename_i p a0 a1 a2 b0 b1 b2
    exact ⟨_, _, _, hargs, rfl, (eq_i_MidpointsOf p (a0, a1, a2) (b0, b1, b2)).trans (tot_i_MidpointsOf p (a0, a1, a2) (b0, b1, b2))⟩
  · cases hrun

def S_s_MidpointsOf : Sums := ⟨tblS [(50, run_s_l09Code), (70, run_s_l09Null), (51, run_s_l09Join), (71, run_s_l09On), (81, run_s_l09Quadrance)], tblM []⟩
theorem SO_s_MidpointsOf : SumsOK Try.prog S_s_MidpointsOf := ⟨tblS_ok ⟨⟨Try.call50, sound_s_l09Code⟩, ⟨Try.call70, sound_s_l09Null⟩, ⟨Try.call51, sound_s_l09Join⟩, ⟨Try.call71, sound_s_l09On⟩, ⟨Try.call81, sound_s_l09Quadrance⟩, True.intro⟩, tblM_ok True.intro⟩
def T_s_MidpointsOf_0 (p : Int) (a : Int × Int × Int) (b : Int × Int × Int) (l43 : List Int) (m43 : Nat) (i : Int) : Tab := ⟨[.val (.int .i64 p), .val (.agg ⟨[.int .i64 a.1, .int .i64 a.2.1, .int .i64 a.2.2]⟩), .val (.agg ⟨[.int .i64 b.1, .int .i64 b.2.1, .int .i64 b.2.2]⟩), .junk, .ptr 16 0, .ptr 20 0, .val (.slice none 0 0), .val (.int .i64 0), .val (.int .i64 (s_l09Code p [a, b])), .row 168, .row 172, .val (.int .i64 i), .val (.int .i64 p), .val (.agg ⟨[.int .i64 a.1, .int .i64 a.2.1, .int .i64 a.2.2]⟩), .val (.agg ⟨[.int .i64 b.1, .int .i64 b.2.1, .int .i64 b.2.2]⟩), .row 60, .val (.int .i64 (s_l09Code p [a, b])), .val (.int .i64 (s_l09Code p [a, b])), .val (.bool ((s_l09Code p [a, b]) == 0)), .val (.bool true), .val (.agg ⟨[.int .i64 a.1, .int .i64 a.2.1, .int .i64 a.2.2]⟩), .val (.agg ⟨[.int .i64 b.1, .int .i64 b.2.1, .int .i64 b.2.2]⟩), .val (.bool (a == b)), .val (.bool false), .val (.int .i64 p), .val (.agg ⟨[.int .i64 a.1, .int .i64 a.2.1, .int .i64 a.2.2]⟩), .val (.bool (s_l09Null p a)), .val (.bool (s_l09Null p a)), .val (.bool false), .val (.int .i64 p), .val (.agg ⟨[.int .i64 b.1, .int .i64 b.2.1, .int .i64 b.2.2]⟩), .val (.bool (s_l09Null p b)), .val (.bool (s_l09Null p b)), .val (.bool (s_l09Null p b)), .val (.int .i64 (s_l09Code p [a, b])), .val (.bool ((s_l09Code p [a, b]) != 0)), .junk, .val (.int .i64 p), .val (.int .i64 p), .val (.agg ⟨[.int .i64 a.1, .int .i64 a.2.1, .int .i64 a.2.2]⟩), .val (.agg ⟨[.int .i64 b.1, .int .i64 b.2.1, .int .i64 b.2.2]⟩), .val (.agg ⟨[.int .i64 ((s_l09Join p a b).1), .int .i64 ((s_l09Join p a b).2.1), .int .i64 ((s_l09Join p a b).2.2)]⟩), .row 168, .junk, .junk, .junk, .junk, .junk, .junk, .junk, .junk, .junk, .junk, .junk, .junk, .junk, .junk, .junk, .junk, .junk, .junk, .junk, .junk, .junk, .junk, .junk, .junk, .junk, .junk, .junk, .junk, .junk, .junk, .junk, .junk, .junk, .junk, .junk, .junk, .junk, .junk, .junk], [(16, .box 25 [.val (.int .i64 a.1), .val (.int .i64 a.2.1), .val (.int .i64 a.2.2)]), (20, .box 25 [.val (.int .i64 b.1), .val (.int .i64 b.2.1), .val (.int .i64 b.2.2)]), (60, .row 25 3 2 (.ints [a.1, a.2.1, a.2.2, b.1, b.2.1, b.2.2])), (168, .row 25 3 ((s_l09On p (s_l09Join p a b)).1) (.ints ((s_l09On p (s_l09Join p a b)).2))), (172, .row 25 3 m43 (.ints l43))]⟩
def T_s_MidpointsOf_1 (p : Int) (a : Int × Int × Int) (b : Int × Int × Int) (l43 : List Int) (m43 : Nat) (i : Int) : Tab := ⟨[.val (.int .i64 p), .val (.agg ⟨[.int .i64 a.1, .int .i64 a.2.1, .int .i64 a.2.2]⟩), .val (.agg ⟨[.int .i64 b.1, .int .i64 b.2.1, .int .i64 b.2.2]⟩), .junk, .ptr 16 0, .ptr 20 0, .val (.slice none 0 0), .val (.int .i64 0), .val (.int .i64 (s_l09Code p [a, b])), .row 168, .row 172, .val (.int .i64 i), .val (.int .i64 p), .val (.agg ⟨[.int .i64 a.1, .int .i64 a.2.1, .int .i64 a.2.2]⟩), .val (.agg ⟨[.int .i64 b.1, .int .i64 b.2.1, .int .i64 b.2.2]⟩), .row 60, .val (.int .i64 (s_l09Code p [a, b])), .val (.int .i64 (s_l09Code p [a, b])), .val (.bool ((s_l09Code p [a, b]) == 0)), .val (.bool false), .val (undef), .val (undef), .val (undef), .val (undef), .val (undef), .val (undef), .val (undef), .val (undef), .val (undef), .val (undef), .val (undef), .val (undef), .val (undef), .val (.bool false), .val (.int .i64 (s_l09Code p [a, b])), .val (.bool ((s_l09Code p [a, b]) != 0)), .junk, .val (.int .i64 p), .val (.int .i64 p), .val (.agg ⟨[.int .i64 a.1, .int .i64 a.2.1, .int .i64 a.2.2]⟩), .val (.agg ⟨[.int .i64 b.1, .int .i64 b.2.1, .int .i64 b.2.2]⟩), .val (.agg ⟨[.int .i64 ((s_l09Join p a b).1), .int .i64 ((s_l09Join p a b).2.1), .int .i64 ((s_l09Join p a b).2.2)]⟩), .row 168, .junk, .junk, .junk, .junk, .junk, .junk, .junk, .junk, .junk, .junk, .junk, .junk, .junk, .junk, .junk, .junk, .junk, .junk, .junk, .junk, .junk, .junk, .junk, .junk, .junk, .junk, .junk, .junk, .junk, .junk, .junk, .junk, .junk, .junk, .junk, .junk, .junk, .junk, .junk], [(16, .box 25 [.val (.int .i64 a.1), .val (.int .i64 a.2.1), .val (.int .i64 a.2.2)]), (20, .box 25 [.val (.int .i64 b.1), .val (.int .i64 b.2.1), .val (.int .i64 b.2.2)]), (60, .row 25 3 2 (.ints [a.1, a.2.1, a.2.2, b.1, b.2.1, b.2.2])), (168, .row 25 3 ((s_l09On p (s_l09Join p a b)).1) (.ints ((s_l09On p (s_l09Join p a b)).2))), (172, .row 25 3 m43 (.ints l43))]⟩
def X_s_MidpointsOf_0 (P : Program) (fu : Nat) (p : Int) (a : Int × Int × Int) (b : Int × Int × Int) (f : Nat) (l43 : List Int) (m43 : Nat) (i : Int) : Option ((Nat × List Int) × Int) := loopK (exec P S_s_MidpointsOf 82 (fun _ => fu + 100) (Code.sub [1, 1, 1, 1, 1, 0, 1, 0, 0] (bodyF P 37))) f (T_s_MidpointsOf_0 p a b l43 m43 i) (kBlock 0 (kSeq (fun s => exec P S_s_MidpointsOf 82 (fun _ => fu + 100) (Code.sub [1, 1, 1, 1, 1, 1] (bodyF P 37)) s (finT P 37 dec_l25_3_i)) (finT P 37 dec_l25_3_i)))
def B_s_MidpointsOf_0 (p : Int) (a : Int × Int × Int) (b : Int × Int × Int) (rec0 : (List Int) → Nat → Int → Option ((Nat × List Int) × Int)) (l43 : List Int) (m43 : Nat) (i : Int) : Option ((Nat × List Int) × Int) :=
  (if (decide (i < (((s_l09On p (s_l09Join p a b)).1 : Nat) : Int))) = true then (if (decide (0 ≤ i) && decide (i < (((s_l09On p (s_l09Join p a b)).1 : Nat) : Int))) = true then (if (Nat.ble (i.toNat * 3 + 3) (((s_l09On p (s_l09Join p a b)).2).length)) = true then (if (prB p) = true then (if (!(s_l09Null p (((s_l09On p (s_l09Join p a b)).2).getD (i.toNat * 3 + 0) 0, ((s_l09On p (s_l09Join p a b)).2).getD (i.toNat * 3 + 1) 0, ((s_l09On p (s_l09Join p a b)).2).getD (i.toNat * 3 + 2) 0))) = true then (if (decide (0 ≤ i) && decide (i < (((s_l09On p (s_l09Join p a b)).1 : Nat) : Int))) = true then (if (Nat.ble (i.toNat * 3 + 3) (((s_l09On p (s_l09Join p a b)).2).length)) = true then (if (prB p) = true then (if (decide (0 ≤ i) && decide (i < (((s_l09On p (s_l09Join p a b)).1 : Nat) : Int))) = true then (if (Nat.ble (i.toNat * 3 + 3) (((s_l09On p (s_l09Join p a b)).2).length)) = true then (if (prB p) = true then (if ((s_l09Quadrance p a (((s_l09On p (s_l09Join p a b)).2).getD (i.toNat * 3 + 0) 0, ((s_l09On p (s_l09Join p a b)).2).getD (i.toNat * 3 + 1) 0, ((s_l09On p (s_l09Join p a b)).2).getD (i.toNat * 3 + 2) 0)) == (s_l09Quadrance p b (((s_l09On p (s_l09Join p a b)).2).getD (i.toNat * 3 + 0) 0, ((s_l09On p (s_l09Join p a b)).2).getD (i.toNat * 3 + 1) 0, ((s_l09On p (s_l09Join p a b)).2).getD (i.toNat * 3 + 2) 0))) = true then (if (decide (0 ≤ i) && decide (i < (((s_l09On p (s_l09Join p a b)).1 : Nat) : Int))) = true then (if (Nat.ble (i.toNat * 3 + 3) (((s_l09On p (s_l09Join p a b)).2).length)) = true then (if (Nat.ble 1 1 && Nat.ble (m43 + 1) 1000000 && Nat.beq 3 (3)) = true then rec0 (l43 ++ [((s_l09On p (s_l09Join p a b)).2).getD (i.toNat * 3 + 0) 0, ((s_l09On p (s_l09Join p a b)).2).getD (i.toNat * 3 + 1) 0, ((s_l09On p (s_l09Join p a b)).2).getD (i.toNat * 3 + 2) 0]) (m43 + 1) (wI (i + 1)) else none) else none) else none) else rec0 l43 m43 (wI (i + 1))) else none) else none) else none) else none) else none) else none) else rec0 l43 m43 (wI (i + 1))) else none) else none) else none) else some ((m43, l43), 0))
def L_s_MidpointsOf_0 (fu : Nat) (p : Int) (a : Int × Int × Int) (b : Int × Int × Int) : Nat → (List Int) → Nat → Int → Option ((Nat × List Int) × Int)
  | 0, _, _, _ => none
  | f + 1, l43, m43, i => B_s_MidpointsOf_0 p a b (L_s_MidpointsOf_0 fu p a b f) l43 m43 i
theorem loop_s_MidpointsOf_0 (fu : Nat) (p : Int) (a : Int × Int × Int) (b : Int × Int × Int) : ∀ (f : Nat) (l43 : List Int) (m43 : Nat) (i : Int), X_s_MidpointsOf_0 Try.prog fu p a b f l43 m43 i = L_s_MidpointsOf_0 fu p a b f l43 m43 i := by
  intro f
  induction f with
  | zero => intros; rfl
  | succ f ih =>
    intro l43 m43 i
    have h1 : X_s_MidpointsOf_0 Try.prog fu p a b (f + 1) l43 m43 i = B_s_MidpointsOf_0 p a b (X_s_MidpointsOf_0 Try.prog fu p a b f) l43 m43 i := by kernel_rfl
    have h2 : X_s_MidpointsOf_0 Try.prog fu p a b f = L_s_MidpointsOf_0 fu p a b f := by funext l43 m43 i; exact ih l43 m43 i
    rw [h1, h2]
    rfl
def X_s_MidpointsOf_1 (P : Program) (fu : Nat) (p : Int) (a : Int × Int × Int) (b : Int × Int × Int) (f : Nat) (l43 : List Int) (m43 : Nat) (i : Int) : Option ((Nat × List Int) × Int) := loopK (exec P S_s_MidpointsOf 82 (fun _ => fu + 100) (Code.sub [1, 1, 1, 1, 1, 0, 1, 0, 0] (bodyF P 37))) f (T_s_MidpointsOf_1 p a b l43 m43 i) (kBlock 0 (kSeq (fun s => exec P S_s_MidpointsOf 82 (fun _ => fu + 100) (Code.sub [1, 1, 1, 1, 1, 1] (bodyF P 37)) s (finT P 37 dec_l25_3_i)) (finT P 37 dec_l25_3_i)))
def B_s_MidpointsOf_1 (p : Int) (a : Int × Int × Int) (b : Int × Int × Int) (rec1 : (List Int) → Nat → Int → Option ((Nat × List Int) × Int)) (l43 : List Int) (m43 : Nat) (i : Int) : Option ((Nat × List Int) × Int) :=
  (if (decide (i < (((s_l09On p (s_l09Join p a b)).1 : Nat) : Int))) = true then (if (decide (0 ≤ i) && decide (i < (((s_l09On p (s_l09Join p a b)).1 : Nat) : Int))) = true then (if (Nat.ble (i.toNat * 3 + 3) (((s_l09On p (s_l09Join p a b)).2).length)) = true then (if (prB p) = true then (if (!(s_l09Null p (((s_l09On p (s_l09Join p a b)).2).getD (i.toNat * 3 + 0) 0, ((s_l09On p (s_l09Join p a b)).2).getD (i.toNat * 3 + 1) 0, ((s_l09On p (s_l09Join p a b)).2).getD (i.toNat * 3 + 2) 0))) = true then (if (decide (0 ≤ i) && decide (i < (((s_l09On p (s_l09Join p a b)).1 : Nat) : Int))) = true then (if (Nat.ble (i.toNat * 3 + 3) (((s_l09On p (s_l09Join p a b)).2).length)) = true then (if (prB p) = true then (if (decide (0 ≤ i) && decide (i < (((s_l09On p (s_l09Join p a b)).1 : Nat) : Int))) = true then (if (Nat.ble (i.toNat * 3 + 3) (((s_l09On p (s_l09Join p a b)).2).length)) = true then (if (prB p) = true then (if ((s_l09Quadrance p a (((s_l09On p (s_l09Join p a b)).2).getD (i.toNat * 3 + 0) 0, ((s_l09On p (s_l09Join p a b)).2).getD (i.toNat * 3 + 1) 0, ((s_l09On p (s_l09Join p a b)).2).getD (i.toNat * 3 + 2) 0)) == (s_l09Quadrance p b (((s_l09On p (s_l09Join p a b)).2).getD (i.toNat * 3 + 0) 0, ((s_l09On p (s_l09Join p a b)).2).getD (i.toNat * 3 + 1) 0, ((s_l09On p (s_l09Join p a b)).2).getD (i.toNat * 3 + 2) 0))) = true then (if (decide (0 ≤ i) && decide (i < (((s_l09On p (s_l09Join p a b)).1 : Nat) : Int))) = true then (if (Nat.ble (i.toNat * 3 + 3) (((s_l09On p (s_l09Join p a b)).2).length)) = true then (if (Nat.ble 1 1 && Nat.ble (m43 + 1) 1000000 && Nat.beq 3 (3)) = true then rec1 (l43 ++ [((s_l09On p (s_l09Join p a b)).2).getD (i.toNat * 3 + 0) 0, ((s_l09On p (s_l09Join p a b)).2).getD (i.toNat * 3 + 1) 0, ((s_l09On p (s_l09Join p a b)).2).getD (i.toNat * 3 + 2) 0]) (m43 + 1) (wI (i + 1)) else none) else none) else none) else rec1 l43 m43 (wI (i + 1))) else none) else none) else none) else none) else none) else none) else rec1 l43 m43 (wI (i + 1))) else none) else none) else none) else some ((m43, l43), 0))
def L_s_MidpointsOf_1 (fu : Nat) (p : Int) (a : Int × Int × Int) (b : Int × Int × Int) : Nat → (List Int) → Nat → Int → Option ((Nat × List Int) × Int)
  | 0, _, _, _ => none
  | f + 1, l43, m43, i => B_s_MidpointsOf_1 p a b (L_s_MidpointsOf_1 fu p a b f) l43 m43 i
theorem loop_s_MidpointsOf_1 (fu : Nat) (p : Int) (a : Int × Int × Int) (b : Int × Int × Int) : ∀ (f : Nat) (l43 : List Int) (m43 : Nat) (i : Int), X_s_MidpointsOf_1 Try.prog fu p a b f l43 m43 i = L_s_MidpointsOf_1 fu p a b f l43 m43 i := by
  intro f
  induction f with
  | zero => intros; rfl
  | succ f ih =>
    intro l43 m43 i
    have h1 : X_s_MidpointsOf_1 Try.prog fu p a b (f + 1) l43 m43 i = B_s_MidpointsOf_1 p a b (X_s_MidpointsOf_1 Try.prog fu p a b f) l43 m43 i := by kernel_rfl
    have h2 : X_s_MidpointsOf_1 Try.prog fu p a b f = L_s_MidpointsOf_1 fu p a b f := by funext l43 m43 i; exact ih l43 m43 i
    rw [h1, h2]
    rfl
theorem same_s_MidpointsOf_1 : L_s_MidpointsOf_1 = L_s_MidpointsOf_0 := by kernel_rfl
def G_s_MidpointsOf (p : Int) (a : Int × Int × Int) (b : Int × Int × Int) (lo0 : (List Int) → Nat → Int → Option ((Nat × List Int) × Int)) (lo1 : (List Int) → Nat → Int → Option ((Nat × List Int) × Int)) : Option ((Nat × List Int) × Int) :=
  (if ((s_l09Code p [a, b]) == 0) = true then (if (a == b) = true then some ((0, []), 5) else (if (prB p) = true then (if (s_l09Null p a) = true then some ((0, []), 5) else (if (prB p) = true then (if (s_l09Null p b) = true then some ((0, []), 5) else (if ((s_l09Code p [a, b]) != 0) = true then some ((0, []), (s_l09Code p [a, b])) else (if (prB p) = true then (if (prB p) = true then lo0 [] 0 0 else none) else none))) else none)) else none)) else (if ((s_l09Code p [a, b]) != 0) = true then some ((0, []), (s_l09Code p [a, b])) else (if (prB p) = true then (if (prB p) = true then lo1 [] 0 0 else none) else none)))
def Fo_s_MidpointsOf (fu : Nat) (p : Int) (a : Int × Int × Int) (b : Int × Int × Int) : Option ((Nat × List Int) × Int) := G_s_MidpointsOf p a b (L_s_MidpointsOf_0 fu p a b (fu + 100)) (L_s_MidpointsOf_1 fu p a b (fu + 100))
theorem eqg_s_MidpointsOf (fu : Nat) (p : Int) (a : Int × Int × Int) (b : Int × Int × Int) : execT Try.prog S_s_MidpointsOf 37 82 (fun _ => fu + 100) dec_l25_3_i [.v (.int .i64 p), .v (.agg ⟨[.int .i64 a.1, .int .i64 a.2.1, .int .i64 a.2.2]⟩), .v (.agg ⟨[.int .i64 b.1, .int .i64 b.2.1, .int .i64 b.2.2]⟩)] = G_s_MidpointsOf p a b (L_s_MidpointsOf_0 fu p a b (fu + 100)) (L_s_MidpointsOf_1 fu p a b (fu + 100)) := by
  have h1 : execT Try.prog S_s_MidpointsOf 37 82 (fun _ => fu + 100) dec_l25_3_i [.v (.int .i64 p), .v (.agg ⟨[.int .i64 a.1, .int .i64 a.2.1, .int .i64 a.2.2]⟩), .v (.agg ⟨[.int .i64 b.1, .int .i64 b.2.1, .int .i64 b.2.2]⟩)] = G_s_MidpointsOf p a b (X_s_MidpointsOf_0 Try.prog fu p a b (fu + 100)) (X_s_MidpointsOf_1 Try.prog fu p a b (fu + 100)) := by kernel_rfl
  have c0 : X_s_MidpointsOf_0 Try.prog fu p a b (fu + 100) = L_s_MidpointsOf_0 fu p a b (fu + 100) := by funext l43 m43 i; exact loop_s_MidpointsOf_0 fu p a b (fu + 100) l43 m43 i
  have c1 : X_s_MidpointsOf_1 Try.prog fu p a b (fu + 100) = L_s_MidpointsOf_1 fu p a b (fu + 100) := by funext l43 m43 i; exact loop_s_MidpointsOf_1 fu p a b (fu + 100) l43 m43 i
  rw [h1, c0, c1]
theorem eq_s_MidpointsOf (fu : Nat) (p : Int) (a : Int × Int × Int) (b : Int × Int × Int) : execT Try.prog S_s_MidpointsOf 37 82 (fun _ => fu + 100) dec_l25_3_i [.v (.int .i64 p), .v (.agg ⟨[.int .i64 a.1, .int .i64 a.2.1, .int .i64 a.2.2]⟩), .v (.agg ⟨[.int .i64 b.1, .int .i64 b.2.1, .int .i64 b.2.2]⟩)] = Fo_s_MidpointsOf fu p a b := eqg_s_MidpointsOf fu p a b
def V_s_MidpointsOf_0 (p : Int) (a : Int × Int × Int) (b : Int × Int × Int) : (List Int) → Nat → Int → (Nat × List Int) × Int := fun _ _ _ => ((((((places p).filter fun zz => (s_l09Product p zz (s_l09Join p a b) == 0))).filter fun zz => ((!(s_l09Null p zz)) && (s_l09Quadrance p a zz == s_l09Quadrance p b zz))).length, flat3 ((((places p).filter fun zz => (s_l09Product p zz (s_l09Join p a b) == 0))).filter fun zz => ((!(s_l09Null p zz)) && (s_l09Quadrance p a zz == s_l09Quadrance p b zz)))), 0)
theorem lo0_s_MidpointsOf (p : Int) (a b : P3) (hp : prB p = true) {F : Nat} (hF : 993 < F) : L_s_MidpointsOf_0 1000000 p a b F [] 0 0 = some ((((((places p).filter fun zz => (s_l09Product p zz (s_l09Join p a b) == 0))).filter fun zz => ((!(s_l09Null p zz)) && (s_l09Quadrance p a zz == s_l09Quadrance p b zz))).length, flat3 ((((places p).filter fun zz => (s_l09Product p zz (s_l09Join p a b) == 0))).filter fun zz => ((!(s_l09Null p zz)) && (s_l09Quadrance p a zz == s_l09Quadrance p b zz)))), 0) := by
  have hlen : (((places p).filter fun zz => (s_l09Product p zz (s_l09Join p a b) == 0))).length ≤ 993 := Nat.le_trans (List.length_filter_le _ _) (places_len hp)
  exact gather (flat := flat3) flat3_app rfl (L := fun f l m i => L_s_MidpointsOf_0 1000000 p a b f l m i) (n := (((places p).filter fun zz => (s_l09Product p zz (s_l09Join p a b) == 0))).length) (b := 1) (M := 0) (fun k => if ((!(s_l09Null p (R3 (flat3 (((places p).filter fun zz => (s_l09Product p zz (s_l09Join p a b) == 0)))) k))) && (s_l09Quadrance p a (R3 (flat3 (((places p).filter fun zz => (s_l09Product p zz (s_l09Join p a b) == 0)))) k) == s_l09Quadrance p b (R3 (flat3 (((places p).filter fun zz => (s_l09Product p zz (s_l09Join p a b) == 0)))) k))) = true then [R3 (flat3 (((places p).filter fun zz => (s_l09Product p zz (s_l09Join p a b) == 0)))) k] else []) (K := (some ((((((places p).filter fun zz => (s_l09Product p zz (s_l09Join p a b) == 0))).filter fun zz => ((!(s_l09Null p zz)) && (s_l09Quadrance p a zz == s_l09Quadrance p b zz))).length, flat3 ((((places p).filter fun zz => (s_l09Product p zz (s_l09Join p a b) == 0))).filter fun zz => ((!(s_l09Null p zz)) && (s_l09Quadrance p a zz == s_l09Quadrance p b zz)))), 0))) (l := []) (m := 0) (F := F) (by intro k hk; first | (split <;> simp) | simp_all)
    (fun f k l m hk hm => by
      show B_s_MidpointsOf_0 p a b (L_s_MidpointsOf_0 1000000 p a b f) l m (k : Int) = _
      unfold B_s_MidpointsOf_0
      have x0 : prB p = true := hp
      have e0 : decide (0 ≤ (k : Int)) = true := by simp
      have e1 := cnd hk
      have e3 : (k : Int).toNat = k := Int.toNat_natCast k
      have e4 := row3_ok (flat3_len _) hk
      have e5 : Nat.ble 1 1 = true := rfl
      have e6 : Nat.ble (m + 1) 1000000 = true := leb (by omega)
      rw [show s_l09On p (s_l09Join p a b) = ((((places p).filter fun zz => (s_l09Product p zz (s_l09Join p a b) == 0))).length, flat3 (((places p).filter fun zz => (s_l09Product p zz (s_l09Join p a b) == 0)))) from rfl]
      simp only [e0, e1, e3, e4, e5, e6, beq33, x0, Bool.and_true, Bool.true_and, if_true, wrap_add1 hk (by omega)]
      have hq0 : ((!(s_l09Null p ((flat3 (((places p).filter fun zz => (s_l09Product p zz (s_l09Join p a b) == 0)))).getD (k * 3 + 0) 0, (flat3 (((places p).filter fun zz => (s_l09Product p zz (s_l09Join p a b) == 0)))).getD (k * 3 + 1) 0, (flat3 (((places p).filter fun zz => (s_l09Product p zz (s_l09Join p a b) == 0)))).getD (k * 3 + 2) 0)))) = ((!(s_l09Null p (R3 (flat3 (((places p).filter fun zz => (s_l09Product p zz (s_l09Join p a b) == 0)))) k)))) := rfl
      try rw [hq0]
      have hq1 : ((s_l09Quadrance p a ((flat3 (((places p).filter fun zz => (s_l09Product p zz (s_l09Join p a b) == 0)))).getD (k * 3 + 0) 0, (flat3 (((places p).filter fun zz => (s_l09Product p zz (s_l09Join p a b) == 0)))).getD (k * 3 + 1) 0, (flat3 (((places p).filter fun zz => (s_l09Product p zz (s_l09Join p a b) == 0)))).getD (k * 3 + 2) 0) == s_l09Quadrance p b ((flat3 (((places p).filter fun zz => (s_l09Product p zz (s_l09Join p a b) == 0)))).getD (k * 3 + 0) 0, (flat3 (((places p).filter fun zz => (s_l09Product p zz (s_l09Join p a b) == 0)))).getD (k * 3 + 1) 0, (flat3 (((places p).filter fun zz => (s_l09Product p zz (s_l09Join p a b) == 0)))).getD (k * 3 + 2) 0))) = ((s_l09Quadrance p a (R3 (flat3 (((places p).filter fun zz => (s_l09Product p zz (s_l09Join p a b) == 0)))) k) == s_l09Quadrance p b (R3 (flat3 (((places p).filter fun zz => (s_l09Product p zz (s_l09Join p a b) == 0)))) k))) := rfl
      try rw [hq1]
      generalize ((!(s_l09Null p (R3 (flat3 (((places p).filter fun zz => (s_l09Product p zz (s_l09Join p a b) == 0)))) k)))) = c0
      generalize ((s_l09Quadrance p a (R3 (flat3 (((places p).filter fun zz => (s_l09Product p zz (s_l09Join p a b) == 0)))) k) == s_l09Quadrance p b (R3 (flat3 (((places p).filter fun zz => (s_l09Product p zz (s_l09Join p a b) == 0)))) k))) = c1
      cases c0 <;> cases c1 <;> first
        | rfl
        | (simp only [Bool.false_eq_true, Bool.false_and, Bool.and_false, Bool.true_and, if_false, if_true]
           rw [show flat3 [] = [] from rfl, List.append_nil]
           rfl))
    (fun f hm => by
      show B_s_MidpointsOf_0 p a b (L_s_MidpointsOf_0 1000000 p a b f) ([] ++ flat3 ((List.range (((places p).filter fun zz => (s_l09Product p zz (s_l09Join p a b) == 0))).length).flatMap (fun k => if ((!(s_l09Null p (R3 (flat3 (((places p).filter fun zz => (s_l09Product p zz (s_l09Join p a b) == 0)))) k))) && (s_l09Quadrance p a (R3 (flat3 (((places p).filter fun zz => (s_l09Product p zz (s_l09Join p a b) == 0)))) k) == s_l09Quadrance p b (R3 (flat3 (((places p).filter fun zz => (s_l09Product p zz (s_l09Join p a b) == 0)))) k))) = true then [R3 (flat3 (((places p).filter fun zz => (s_l09Product p zz (s_l09Join p a b) == 0)))) k] else []))) (0 + ((List.range (((places p).filter fun zz => (s_l09Product p zz (s_l09Join p a b) == 0))).length).flatMap (fun k => if ((!(s_l09Null p (R3 (flat3 (((places p).filter fun zz => (s_l09Product p zz (s_l09Join p a b) == 0)))) k))) && (s_l09Quadrance p a (R3 (flat3 (((places p).filter fun zz => (s_l09Product p zz (s_l09Join p a b) == 0)))) k) == s_l09Quadrance p b (R3 (flat3 (((places p).filter fun zz => (s_l09Product p zz (s_l09Join p a b) == 0)))) k))) = true then [R3 (flat3 (((places p).filter fun zz => (s_l09Product p zz (s_l09Join p a b) == 0)))) k] else [])).length) (((((places p).filter fun zz => (s_l09Product p zz (s_l09Join p a b) == 0))).length : Nat) : Int) = _
      unfold B_s_MidpointsOf_0
      have hkp : ((List.range ((((places p).filter fun zz => (s_l09Product p zz (s_l09Join p a b) == 0))).length)).flatMap fun k => if ((!(s_l09Null p (R3 (flat3 (((places p).filter fun zz => (s_l09Product p zz (s_l09Join p a b) == 0)))) k))) && (s_l09Quadrance p a (R3 (flat3 (((places p).filter fun zz => (s_l09Product p zz (s_l09Join p a b) == 0)))) k) == s_l09Quadrance p b (R3 (flat3 (((places p).filter fun zz => (s_l09Product p zz (s_l09Join p a b) == 0)))) k))) = true then [R3 (flat3 (((places p).filter fun zz => (s_l09Product p zz (s_l09Join p a b) == 0)))) k] else []) = (rows3 ((((places p).filter fun zz => (s_l09Product p zz (s_l09Join p a b) == 0))).length) (flat3 (((places p).filter fun zz => (s_l09Product p zz (s_l09Join p a b) == 0))))).filter (fun zz => ((!(s_l09Null p zz)) && (s_l09Quadrance p a zz == s_l09Quadrance p b zz))) := keep3 ((((places p).filter fun zz => (s_l09Product p zz (s_l09Join p a b) == 0))).length) (flat3 (((places p).filter fun zz => (s_l09Product p zz (s_l09Join p a b) == 0)))) (fun zz => ((!(s_l09Null p zz)) && (s_l09Quadrance p a zz == s_l09Quadrance p b zz)))
      rw [show s_l09On p (s_l09Join p a b) = ((((places p).filter fun zz => (s_l09Product p zz (s_l09Join p a b) == 0))).length, flat3 (((places p).filter fun zz => (s_l09Product p zz (s_l09Join p a b) == 0)))) from rfl]
      rw [if_neg (by simp), hkp, rows3_flat3]
      simp) (by omega) (Nat.le_refl _)

def V_s_MidpointsOf_1 (p : Int) (a : Int × Int × Int) (b : Int × Int × Int) : (List Int) → Nat → Int → (Nat × List Int) × Int := fun _ _ _ => ((((((places p).filter fun zz => (s_l09Product p zz (s_l09Join p a b) == 0))).filter fun zz => ((!(s_l09Null p zz)) && (s_l09Quadrance p a zz == s_l09Quadrance p b zz))).length, flat3 ((((places p).filter fun zz => (s_l09Product p zz (s_l09Join p a b) == 0))).filter fun zz => ((!(s_l09Null p zz)) && (s_l09Quadrance p a zz == s_l09Quadrance p b zz)))), 0)
theorem lo1_s_MidpointsOf (p : Int) (a b : P3) (hp : prB p = true) {F : Nat} (hF : 993 < F) : L_s_MidpointsOf_1 1000000 p a b F [] 0 0 = some ((((((places p).filter fun zz => (s_l09Product p zz (s_l09Join p a b) == 0))).filter fun zz => ((!(s_l09Null p zz)) && (s_l09Quadrance p a zz == s_l09Quadrance p b zz))).length, flat3 ((((places p).filter fun zz => (s_l09Product p zz (s_l09Join p a b) == 0))).filter fun zz => ((!(s_l09Null p zz)) && (s_l09Quadrance p a zz == s_l09Quadrance p b zz)))), 0) := by
  have hlen : (((places p).filter fun zz => (s_l09Product p zz (s_l09Join p a b) == 0))).length ≤ 993 := Nat.le_trans (List.length_filter_le _ _) (places_len hp)
  exact gather (flat := flat3) flat3_app rfl (L := fun f l m i => L_s_MidpointsOf_1 1000000 p a b f l m i) (n := (((places p).filter fun zz => (s_l09Product p zz (s_l09Join p a b) == 0))).length) (b := 1) (M := 0) (fun k => if ((!(s_l09Null p (R3 (flat3 (((places p).filter fun zz => (s_l09Product p zz (s_l09Join p a b) == 0)))) k))) && (s_l09Quadrance p a (R3 (flat3 (((places p).filter fun zz => (s_l09Product p zz (s_l09Join p a b) == 0)))) k) == s_l09Quadrance p b (R3 (flat3 (((places p).filter fun zz => (s_l09Product p zz (s_l09Join p a b) == 0)))) k))) = true then [R3 (flat3 (((places p).filter fun zz => (s_l09Product p zz (s_l09Join p a b) == 0)))) k] else []) (K := (some ((((((places p).filter fun zz => (s_l09Product p zz (s_l09Join p a b) == 0))).filter fun zz => ((!(s_l09Null p zz)) && (s_l09Quadrance p a zz == s_l09Quadrance p b zz))).length, flat3 ((((places p).filter fun zz => (s_l09Product p zz (s_l09Join p a b) == 0))).filter fun zz => ((!(s_l09Null p zz)) && (s_l09Quadrance p a zz == s_l09Quadrance p b zz)))), 0))) (l := []) (m := 0) (F := F) (by intro k hk; first | (split <;> simp) | simp_all)
    (fun f k l m hk hm => by
      show B_s_MidpointsOf_1 p a b (L_s_MidpointsOf_1 1000000 p a b f) l m (k : Int) = _
      unfold B_s_MidpointsOf_1
      have x0 : prB p = true := hp
      have e0 : decide (0 ≤ (k : Int)) = true := by simp
      have e1 := cnd hk
      have e3 : (k : Int).toNat = k := Int.toNat_natCast k
      have e4 := row3_ok (flat3_len _) hk
      have e5 : Nat.ble 1 1 = true := rfl
      have e6 : Nat.ble (m + 1) 1000000 = true := leb (by omega)
      rw [show s_l09On p (s_l09Join p a b) = ((((places p).filter fun zz => (s_l09Product p zz (s_l09Join p a b) == 0))).length, flat3 (((places p).filter fun zz => (s_l09Product p zz (s_l09Join p a b) == 0)))) from rfl]
      simp only [e0, e1, e3, e4, e5, e6, beq33, x0, Bool.and_true, Bool.true_and, if_true, wrap_add1 hk (by omega)]
      have hq0 : ((!(s_l09Null p ((flat3 (((places p).filter fun zz => (s_l09Product p zz (s_l09Join p a b) == 0)))).getD (k * 3 + 0) 0, (flat3 (((places p).filter fun zz => (s_l09Product p zz (s_l09Join p a b) == 0)))).getD (k * 3 + 1) 0, (flat3 (((places p).filter fun zz => (s_l09Product p zz (s_l09Join p a b) == 0)))).getD (k * 3 + 2) 0)))) = ((!(s_l09Null p (R3 (flat3 (((places p).filter fun zz => (s_l09Product p zz (s_l09Join p a b) == 0)))) k)))) := rfl
      try rw [hq0]
      have hq1 : ((s_l09Quadrance p a ((flat3 (((places p).filter fun zz => (s_l09Product p zz (s_l09Join p a b) == 0)))).getD (k * 3 + 0) 0, (flat3 (((places p).filter fun zz => (s_l09Product p zz (s_l09Join p a b) == 0)))).getD (k * 3 + 1) 0, (flat3 (((places p).filter fun zz => (s_l09Product p zz (s_l09Join p a b) == 0)))).getD (k * 3 + 2) 0) == s_l09Quadrance p b ((flat3 (((places p).filter fun zz => (s_l09Product p zz (s_l09Join p a b) == 0)))).getD (k * 3 + 0) 0, (flat3 (((places p).filter fun zz => (s_l09Product p zz (s_l09Join p a b) == 0)))).getD (k * 3 + 1) 0, (flat3 (((places p).filter fun zz => (s_l09Product p zz (s_l09Join p a b) == 0)))).getD (k * 3 + 2) 0))) = ((s_l09Quadrance p a (R3 (flat3 (((places p).filter fun zz => (s_l09Product p zz (s_l09Join p a b) == 0)))) k) == s_l09Quadrance p b (R3 (flat3 (((places p).filter fun zz => (s_l09Product p zz (s_l09Join p a b) == 0)))) k))) := rfl
      try rw [hq1]
      generalize ((!(s_l09Null p (R3 (flat3 (((places p).filter fun zz => (s_l09Product p zz (s_l09Join p a b) == 0)))) k)))) = c0
      generalize ((s_l09Quadrance p a (R3 (flat3 (((places p).filter fun zz => (s_l09Product p zz (s_l09Join p a b) == 0)))) k) == s_l09Quadrance p b (R3 (flat3 (((places p).filter fun zz => (s_l09Product p zz (s_l09Join p a b) == 0)))) k))) = c1
      cases c0 <;> cases c1 <;> first
        | rfl
        | (simp only [Bool.false_eq_true, Bool.false_and, Bool.and_false, Bool.true_and, if_false, if_true]
           rw [show flat3 [] = [] from rfl, List.append_nil]
           rfl))
    (fun f hm => by
      show B_s_MidpointsOf_1 p a b (L_s_MidpointsOf_1 1000000 p a b f) ([] ++ flat3 ((List.range (((places p).filter fun zz => (s_l09Product p zz (s_l09Join p a b) == 0))).length).flatMap (fun k => if ((!(s_l09Null p (R3 (flat3 (((places p).filter fun zz => (s_l09Product p zz (s_l09Join p a b) == 0)))) k))) && (s_l09Quadrance p a (R3 (flat3 (((places p).filter fun zz => (s_l09Product p zz (s_l09Join p a b) == 0)))) k) == s_l09Quadrance p b (R3 (flat3 (((places p).filter fun zz => (s_l09Product p zz (s_l09Join p a b) == 0)))) k))) = true then [R3 (flat3 (((places p).filter fun zz => (s_l09Product p zz (s_l09Join p a b) == 0)))) k] else []))) (0 + ((List.range (((places p).filter fun zz => (s_l09Product p zz (s_l09Join p a b) == 0))).length).flatMap (fun k => if ((!(s_l09Null p (R3 (flat3 (((places p).filter fun zz => (s_l09Product p zz (s_l09Join p a b) == 0)))) k))) && (s_l09Quadrance p a (R3 (flat3 (((places p).filter fun zz => (s_l09Product p zz (s_l09Join p a b) == 0)))) k) == s_l09Quadrance p b (R3 (flat3 (((places p).filter fun zz => (s_l09Product p zz (s_l09Join p a b) == 0)))) k))) = true then [R3 (flat3 (((places p).filter fun zz => (s_l09Product p zz (s_l09Join p a b) == 0)))) k] else [])).length) (((((places p).filter fun zz => (s_l09Product p zz (s_l09Join p a b) == 0))).length : Nat) : Int) = _
      unfold B_s_MidpointsOf_1
      have hkp : ((List.range ((((places p).filter fun zz => (s_l09Product p zz (s_l09Join p a b) == 0))).length)).flatMap fun k => if ((!(s_l09Null p (R3 (flat3 (((places p).filter fun zz => (s_l09Product p zz (s_l09Join p a b) == 0)))) k))) && (s_l09Quadrance p a (R3 (flat3 (((places p).filter fun zz => (s_l09Product p zz (s_l09Join p a b) == 0)))) k) == s_l09Quadrance p b (R3 (flat3 (((places p).filter fun zz => (s_l09Product p zz (s_l09Join p a b) == 0)))) k))) = true then [R3 (flat3 (((places p).filter fun zz => (s_l09Product p zz (s_l09Join p a b) == 0)))) k] else []) = (rows3 ((((places p).filter fun zz => (s_l09Product p zz (s_l09Join p a b) == 0))).length) (flat3 (((places p).filter fun zz => (s_l09Product p zz (s_l09Join p a b) == 0))))).filter (fun zz => ((!(s_l09Null p zz)) && (s_l09Quadrance p a zz == s_l09Quadrance p b zz))) := keep3 ((((places p).filter fun zz => (s_l09Product p zz (s_l09Join p a b) == 0))).length) (flat3 (((places p).filter fun zz => (s_l09Product p zz (s_l09Join p a b) == 0)))) (fun zz => ((!(s_l09Null p zz)) && (s_l09Quadrance p a zz == s_l09Quadrance p b zz)))
      rw [show s_l09On p (s_l09Join p a b) = ((((places p).filter fun zz => (s_l09Product p zz (s_l09Join p a b) == 0))).length, flat3 (((places p).filter fun zz => (s_l09Product p zz (s_l09Join p a b) == 0)))) from rfl]
      rw [if_neg (by simp), hkp, rows3_flat3]
      simp) (by omega) (Nat.le_refl _)

def s_MidpointsOf (p : Int) (a : Int × Int × Int) (b : Int × Int × Int) : (Nat × List Int) × Int :=
  (if ((s_l09Code p [a, b]) == 0) = true then (if (a == b) = true then ((0, []), 5) else (if (s_l09Null p a) = true then ((0, []), 5) else (if (s_l09Null p b) = true then ((0, []), 5) else (if ((s_l09Code p [a, b]) != 0) = true then ((0, []), (s_l09Code p [a, b])) else V_s_MidpointsOf_0 p a b [] 0 0)))) else (if ((s_l09Code p [a, b]) != 0) = true then ((0, []), (s_l09Code p [a, b])) else V_s_MidpointsOf_1 p a b [] 0 0))
theorem tot_s_MidpointsOf (p : Int) (a : Int × Int × Int) (b : Int × Int × Int) : Fo_s_MidpointsOf 1000000 p a b = some (s_MidpointsOf p a b) := by
  unfold Fo_s_MidpointsOf G_s_MidpointsOf s_MidpointsOf
  (try simp only [wI_eq])
  repeat' (first | with_reducible rfl | refine chk_opt (by first | with_reducible rfl | exact Bool.true_or _ | (with_reducible exact l09Code_prB ‹_›) | (with_reducible exact l09Code_prB0 ‹_›) | exact mk_ok (by (first | (with_reducible assumption) | (with_reducible exact l09Code_prB ‹_›) | (with_reducible exact l09Code_prB0 ‹_›))) | exact and_all (by (first | (with_reducible assumption) | (with_reducible exact l09Code_prB ‹_›) | (with_reducible exact l09Code_prB0 ‹_›))) (fun _ => rfl) | exact and_all (by (first | (with_reducible assumption) | (with_reducible exact l09Code_prB ‹_›) | (with_reducible exact l09Code_prB0 ‹_›))) (fun _ => by (first | (with_reducible assumption) | (with_reducible exact l09Code_prB ‹_›) | (with_reducible exact l09Code_prB0 ‹_›))) | exact and3 (by (first | (with_reducible assumption) | (with_reducible exact l09Code_prB ‹_›) | (with_reducible exact l09Code_prB0 ‹_›))) (by (first | (with_reducible assumption) | (with_reducible exact l09Code_prB ‹_›) | (with_reducible exact l09Code_prB0 ‹_›))) (by (first | (with_reducible assumption) | (with_reducible exact l09Code_prB ‹_›) | (with_reducible exact l09Code_prB0 ‹_›))) | exact and_two (by (first | (with_reducible assumption) | (with_reducible exact l09Code_prB ‹_›) | (with_reducible exact l09Code_prB0 ‹_›))) rfl | rfl) ?_ | refine ite_opt (fun _ => ?_) (fun _ => ?_) | exact lo0_s_MidpointsOf _ _ _ (by (first | (with_reducible assumption) | (with_reducible exact l09Code_prB ‹_›) | (with_reducible exact l09Code_prB0 ‹_›))) (by omega) | exact lo1_s_MidpointsOf _ _ _ (by (first | (with_reducible assumption) | (with_reducible exact l09Code_prB ‹_›) | (with_reducible exact l09Code_prB0 ‹_›))) (by omega) | rfl)
def run_s_MidpointsOf : List PV → Option (Bool × List TR)
  | [.v (.int .i64 p), .v (.agg ⟨[.int .i64 a0, .int .i64 a1, .int .i64 a2]⟩), .v (.agg ⟨[.int .i64 b0, .int .i64 b1, .int .i64 b2]⟩)] => some (true, enc_l25_3_i (s_MidpointsOf p (a0, a1, a2) (b0, b1, b2)))
  | _ => none
theorem sound_s_MidpointsOf : Sound Try.prog 37 run_s_MidpointsOf := by
  refine sound_of de_l25_3_i SO_s_MidpointsOf (by kernel_rfl) Try.func37 Try.ntmps37 rfl (by kernel_rfl) ?_
  intro W pvs avs rs hargs hrun
  unfold run_s_MidpointsOf at hrun
  split at hrun
  · simp only [Option.some.injEq, Prod.mk.injEq] at hrun
    obtain ⟨hp, rfl⟩ := hrun
    rename_i p a0 a1 a2 b0 b1 b2
    exact ⟨_, _, _, hargs, rfl, (eq_s_MidpointsOf _ p (a0, a1, a2) (b0, b1, b2)).trans (tot_s_MidpointsOf p (a0, a1, a2) (b0, b1, b2))⟩
  · cases hrun

def S_i_SpreadOfJoins_c1 : Sums := ⟨tblS [(48, run_i_arePlaces)], tblM []⟩
theorem SO_i_SpreadOfJoins_c1 : SumsOK Try.prog S_i_SpreadOfJoins_c1 := ⟨tblS_ok ⟨⟨Try.call48, sound_i_arePlaces⟩, True.intro⟩, tblM_ok True.intro⟩
def Fo_i_SpreadOfJoins_c1 (c0 : Int) (c1 : Int × Int × Int) (c2 : Int × Int × Int) (c3 : Int × Int × Int) : Option (Bool) :=
  some (i_arePlaces c0 [c1, c2, c3])
theorem eq_i_SpreadOfJoins_c1 (c0 : Int) (c1 : Int × Int × Int) (c2 : Int × Int × Int) (c3 : Int × Int × Int) : execT Try.prog S_i_SpreadOfJoins_c1 89 11 (fun _ => 1000000) dec_b [.p [.int .i64 c0], .p [.int .i64 c1.1, .int .i64 c1.2.1, .int .i64 c1.2.2], .p [.int .i64 c2.1, .int .i64 c2.2.1, .int .i64 c2.2.2], .p [.int .i64 c3.1, .int .i64 c3.2.1, .int .i64 c3.2.2]] = Fo_i_SpreadOfJoins_c1 c0 c1 c2 c3 := by
  kernel_rfl
def i_SpreadOfJoins_c1 (c0 : Int) (c1 : Int × Int × Int) (c2 : Int × Int × Int) (c3 : Int × Int × Int) : Bool :=
  (i_arePlaces c0 [c1, c2, c3])
theorem tot_i_SpreadOfJoins_c1 (c0 : Int) (c1 : Int × Int × Int) (c2 : Int × Int × Int) (c3 : Int × Int × Int) : Fo_i_SpreadOfJoins_c1 c0 c1 c2 c3 = some (i_SpreadOfJoins_c1 c0 c1 c2 c3) := by
  unfold Fo_i_SpreadOfJoins_c1 i_SpreadOfJoins_c1
  (try simp only [wI_eq])
  repeat' (first | with_reducible rfl | refine ite_opt (fun _ => ?_) (fun _ => ?_) | rfl)
def run_i_SpreadOfJoins_c1 : List PV → Option (Bool × List TR)
  | [.p [.int .i64 c0], .p [.int .i64 c10, .int .i64 c11, .int .i64 c12], .p [.int .i64 c20, .int .i64 c21, .int .i64 c22], .p [.int .i64 c30, .int .i64 c31, .int .i64 c32]] => some (true, enc_b (i_SpreadOfJoins_c1 c0 (c10, c11, c12) (c20, c21, c22) (c30, c31, c32)))
  | _ => none
theorem sound_i_SpreadOfJoins_c1 : Sound Try.prog 89 run_i_SpreadOfJoins_c1 := by
  refine sound_of de_b SO_i_SpreadOfJoins_c1 (by kernel_rfl) Try.func89 Try.ntmps89 rfl (by kernel_rfl) ?_
  intro W pvs avs rs hargs hrun
  unfold run_i_SpreadOfJoins_c1 at hrun
  split at hrun
  · simp only [Option.some.injEq, Prod.mk.injEq] at hrun
    obtain ⟨hp, rfl⟩ := hrun
    rename_i c0 c10 c11 c12 c20 c21 c22 c30 c31 c32
    exact ⟨_, _, _, hargs, rfl, (eq_i_SpreadOfJoins_c1 c0 (c10, c11, c12) (c20, c21, c22) (c30, c31, c32)).trans (tot_i_SpreadOfJoins_c1 c0 (c10, c11, c12) (c20, c21, c22) (c30, c31, c32))⟩
  · cases hrun

def S_i_SpreadOfJoins : Sums := ⟨tblS [(46, run_i_asked), (89, run_i_SpreadOfJoins_c1), (49, run_i_join), (61, run_i_isNullPlace), (80, run_i_placeQuadrance)], tblM []⟩
theorem SO_i_SpreadOfJoins : SumsOK Try.prog S_i_SpreadOfJoins := ⟨tblS_ok ⟨⟨Try.call46, sound_i_asked⟩, ⟨Try.call89, sound_i_SpreadOfJoins_c1⟩, ⟨Try.call49, sound_i_join⟩, ⟨Try.call61, sound_i_isNullPlace⟩, ⟨Try.call80, sound_i_placeQuadrance⟩, True.intro⟩, tblM_ok True.intro⟩
def Fo_i_SpreadOfJoins (p : Int) (a : Int × Int × Int) (b : Int × Int × Int) (c : Int × Int × Int) : Option (Int × Int) :=
  (if ((true) || !(i_IsField p)) = true then (if ((i_asked p (true) (i_SpreadOfJoins_c1 p a b c)) != 0) = true then some (0, (i_asked p (true) (i_SpreadOfJoins_c1 p a b c))) else (if (a == b) = true then some (0, 5) else (if (a == c) = true then some (0, 5) else (if (prB p) = true then (if (prB p) = true then (if (prB p) = true then (if (i_isNullPlace p (i_join p a b)) = true then some (0, 5) else (if (prB p) = true then (if (i_isNullPlace p (i_join p a c)) = true then some (0, 5) else (if (prB p) = true then some ((i_placeQuadrance p (i_join p a b) (i_join p a c)), 0) else none)) else none)) else none) else none) else none)))) else none)
theorem eq_i_SpreadOfJoins (p : Int) (a : Int × Int × Int) (b : Int × Int × Int) (c : Int × Int × Int) : execT Try.prog S_i_SpreadOfJoins 39 47 (fun _ => 1000000) dec_i_i [.v (.int .i64 p), .v (.agg ⟨[.int .i64 a.1, .int .i64 a.2.1, .int .i64 a.2.2]⟩), .v (.agg ⟨[.int .i64 b.1, .int .i64 b.2.1, .int .i64 b.2.2]⟩), .v (.agg ⟨[.int .i64 c.1, .int .i64 c.2.1, .int .i64 c.2.2]⟩)] = Fo_i_SpreadOfJoins p a b c := by
  kernel_rfl
def i_SpreadOfJoins (p : Int) (a : Int × Int × Int) (b : Int × Int × Int) (c : Int × Int × Int) : Int × Int :=
  (if ((i_asked p (true) (i_SpreadOfJoins_c1 p a b c)) != 0) = true then (0, (i_asked p (true) (i_SpreadOfJoins_c1 p a b c))) else (if (a == b) = true then (0, 5) else (if (a == c) = true then (0, 5) else (if (i_isNullPlace p (i_join p a b)) = true then (0, 5) else (if (i_isNullPlace p (i_join p a c)) = true then (0, 5) else ((i_placeQuadrance p (i_join p a b) (i_join p a c)), 0))))))
theorem tot_i_SpreadOfJoins (p : Int) (a : Int × Int × Int) (b : Int × Int × Int) (c : Int × Int × Int) : Fo_i_SpreadOfJoins p a b c = some (i_SpreadOfJoins p a b c) := by
  unfold Fo_i_SpreadOfJoins i_SpreadOfJoins
  (try simp only [wI_eq])
  repeat' (first | with_reducible rfl | refine chk_opt (by first | with_reducible rfl | exact Bool.true_or _ | (with_reducible exact asked_prB ‹_›) | (with_reducible exact asked_prB0 ‹_›) | exact mk_ok (by (first | (with_reducible assumption) | (with_reducible exact asked_prB ‹_›) | (with_reducible exact asked_prB0 ‹_›))) | exact and_all (by (first | (with_reducible assumption) | (with_reducible exact asked_prB ‹_›) | (with_reducible exact asked_prB0 ‹_›))) (fun _ => rfl) | exact and_all (by (first | (with_reducible assumption) | (with_reducible exact asked_prB ‹_›) | (with_reducible exact asked_prB0 ‹_›))) (fun _ => by (first | (with_reducible assumption) | (with_reducible exact asked_prB ‹_›) | (with_reducible exact asked_prB0 ‹_›))) | exact and3 (by (first | (with_reducible assumption) | (with_reducible exact asked_prB ‹_›) | (with_reducible exact asked_prB0 ‹_›))) (by (first | (with_reducible assumption) | (with_reducible exact asked_prB ‹_›) | (with_reducible exact asked_prB0 ‹_›))) (by (first | (with_reducible assumption) | (with_reducible exact asked_prB ‹_›) | (with_reducible exact asked_prB0 ‹_›))) | exact and_two (by (first | (with_reducible assumption) | (with_reducible exact asked_prB ‹_›) | (with_reducible exact asked_prB0 ‹_›))) rfl | rfl) ?_ | refine ite_opt (fun _ => ?_) (fun _ => ?_) | rfl)
def run_i_SpreadOfJoins : List PV → Option (Bool × List TR)
  | [.v (.int .i64 p), .v (.agg ⟨[.int .i64 a0, .int .i64 a1, .int .i64 a2]⟩), .v (.agg ⟨[.int .i64 b0, .int .i64 b1, .int .i64 b2]⟩), .v (.agg ⟨[.int .i64 c0, .int .i64 c1, .int .i64 c2]⟩)] => some (true, enc_i_i (i_SpreadOfJoins p (a0, a1, a2) (b0, b1, b2) (c0, c1, c2)))
  | _ => none
theorem sound_i_SpreadOfJoins : Sound Try.prog 39 run_i_SpreadOfJoins := by
  refine sound_of de_i_i SO_i_SpreadOfJoins (by kernel_rfl) Try.func39 Try.ntmps39 rfl (by kernel_rfl) ?_
  intro W pvs avs rs hargs hrun
  unfold run_i_SpreadOfJoins at hrun
  split at hrun
  · simp only [Option.some.injEq, Prod.mk.injEq] at hrun
    obtain ⟨hp, rfl⟩ := hrun
    rename_i p a0 a1 a2 b0 b1 b2 c0 c1 c2
    exact ⟨_, _, _, hargs, rfl, (eq_i_SpreadOfJoins p (a0, a1, a2) (b0, b1, b2) (c0, c1, c2)).trans (tot_i_SpreadOfJoins p (a0, a1, a2) (b0, b1, b2) (c0, c1, c2))⟩
  · cases hrun

def S_s_SpreadOfJoins : Sums := ⟨tblS [(50, run_s_l09Code), (51, run_s_l09Join), (70, run_s_l09Null), (81, run_s_l09Quadrance)], tblM []⟩
theorem SO_s_SpreadOfJoins : SumsOK Try.prog S_s_SpreadOfJoins := ⟨tblS_ok ⟨⟨Try.call50, sound_s_l09Code⟩, ⟨Try.call51, sound_s_l09Join⟩, ⟨Try.call70, sound_s_l09Null⟩, ⟨Try.call81, sound_s_l09Quadrance⟩, True.intro⟩, tblM_ok True.intro⟩
def Fo_s_SpreadOfJoins (p : Int) (a : Int × Int × Int) (b : Int × Int × Int) (c : Int × Int × Int) : Option (Int × Int) :=
  (if ((s_l09Code p [a, b, c]) != 0) = true then some (0, (s_l09Code p [a, b, c])) else (if (a == b) = true then some (0, 5) else (if (a == c) = true then some (0, 5) else (if (prB p) = true then (if (prB p) = true then (if (prB p) = true then (if (s_l09Null p (s_l09Join p a b)) = true then some (0, 5) else (if (prB p) = true then (if (s_l09Null p (s_l09Join p a c)) = true then some (0, 5) else (if (prB p) = true then some ((s_l09Quadrance p (s_l09Join p a b) (s_l09Join p a c)), 0) else none)) else none)) else none) else none) else none))))
theorem eq_s_SpreadOfJoins (p : Int) (a : Int × Int × Int) (b : Int × Int × Int) (c : Int × Int × Int) : execT Try.prog S_s_SpreadOfJoins 40 50 (fun _ => 1000000) dec_i_i [.v (.int .i64 p), .v (.agg ⟨[.int .i64 a.1, .int .i64 a.2.1, .int .i64 a.2.2]⟩), .v (.agg ⟨[.int .i64 b.1, .int .i64 b.2.1, .int .i64 b.2.2]⟩), .v (.agg ⟨[.int .i64 c.1, .int .i64 c.2.1, .int .i64 c.2.2]⟩)] = Fo_s_SpreadOfJoins p a b c := by
  kernel_rfl
def s_SpreadOfJoins (p : Int) (a : Int × Int × Int) (b : Int × Int × Int) (c : Int × Int × Int) : Int × Int :=
  (if ((s_l09Code p [a, b, c]) != 0) = true then (0, (s_l09Code p [a, b, c])) else (if (a == b) = true then (0, 5) else (if (a == c) = true then (0, 5) else (if (s_l09Null p (s_l09Join p a b)) = true then (0, 5) else (if (s_l09Null p (s_l09Join p a c)) = true then (0, 5) else ((s_l09Quadrance p (s_l09Join p a b) (s_l09Join p a c)), 0))))))
theorem tot_s_SpreadOfJoins (p : Int) (a : Int × Int × Int) (b : Int × Int × Int) (c : Int × Int × Int) : Fo_s_SpreadOfJoins p a b c = some (s_SpreadOfJoins p a b c) := by
  unfold Fo_s_SpreadOfJoins s_SpreadOfJoins
  (try simp only [wI_eq])
  repeat' (first | with_reducible rfl | refine chk_opt (by first | with_reducible rfl | exact Bool.true_or _ | (with_reducible exact l09Code_prB ‹_›) | (with_reducible exact l09Code_prB0 ‹_›) | exact mk_ok (by (first | (with_reducible assumption) | (with_reducible exact l09Code_prB ‹_›) | (with_reducible exact l09Code_prB0 ‹_›))) | exact and_all (by (first | (with_reducible assumption) | (with_reducible exact l09Code_prB ‹_›) | (with_reducible exact l09Code_prB0 ‹_›))) (fun _ => rfl) | exact and_all (by (first | (with_reducible assumption) | (with_reducible exact l09Code_prB ‹_›) | (with_reducible exact l09Code_prB0 ‹_›))) (fun _ => by (first | (with_reducible assumption) | (with_reducible exact l09Code_prB ‹_›) | (with_reducible exact l09Code_prB0 ‹_›))) | exact and3 (by (first | (with_reducible assumption) | (with_reducible exact l09Code_prB ‹_›) | (with_reducible exact l09Code_prB0 ‹_›))) (by (first | (with_reducible assumption) | (with_reducible exact l09Code_prB ‹_›) | (with_reducible exact l09Code_prB0 ‹_›))) (by (first | (with_reducible assumption) | (with_reducible exact l09Code_prB ‹_›) | (with_reducible exact l09Code_prB0 ‹_›))) | exact and_two (by (first | (with_reducible assumption) | (with_reducible exact l09Code_prB ‹_›) | (with_reducible exact l09Code_prB0 ‹_›))) rfl | rfl) ?_ | refine ite_opt (fun _ => ?_) (fun _ => ?_) | rfl)
def run_s_SpreadOfJoins : List PV → Option (Bool × List TR)
  | [.v (.int .i64 p), .v (.agg ⟨[.int .i64 a0, .int .i64 a1, .int .i64 a2]⟩), .v (.agg ⟨[.int .i64 b0, .int .i64 b1, .int .i64 b2]⟩), .v (.agg ⟨[.int .i64 c0, .int .i64 c1, .int .i64 c2]⟩)] => some (true, enc_i_i (s_SpreadOfJoins p (a0, a1, a2) (b0, b1, b2) (c0, c1, c2)))
  | _ => none
theorem sound_s_SpreadOfJoins : Sound Try.prog 40 run_s_SpreadOfJoins := by
  refine sound_of de_i_i SO_s_SpreadOfJoins (by kernel_rfl) Try.func40 Try.ntmps40 rfl (by kernel_rfl) ?_
  intro W pvs avs rs hargs hrun
  unfold run_s_SpreadOfJoins at hrun
  split at hrun
  · simp only [Option.some.injEq, Prod.mk.injEq] at hrun
    obtain ⟨hp, rfl⟩ := hrun
    rename_i p a0 a1 a2 b0 b1 b2 c0 c1 c2
    exact ⟨_, _, _, hargs, rfl, (eq_s_SpreadOfJoins p (a0, a1, a2) (b0, b1, b2) (c0, c1, c2)).trans (tot_s_SpreadOfJoins p (a0, a1, a2) (b0, b1, b2) (c0, c1, c2))⟩
  · cases hrun


end

end Go.Proofs.Ytnijajjdldijpaa
