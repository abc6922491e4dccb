import Derived.Test.YtpopgdmnajngjaaFe
import Derived.Test.YtpopgdmnajngjaaProg
set_option linter.unusedSimpArgs false
set_option linter.unusedVariables false
namespace Go.Proofs.Ytpopgdmnajngjaa
open Go.RowKit
noncomputable section
def S_i_omegaPoints : Sums := ⟨tblS [(128, run_i_orthocentre)], tblM []⟩
theorem SO_i_omegaPoints : SumsOK Try.prog S_i_omegaPoints := ⟨tblS_ok ⟨⟨Try.call128, sound_i_orthocentre⟩, True.intro⟩, tblM_ok True.intro⟩
def Fo_i_omegaPoints (p : Int) (a : Int × Int) (b : Int × Int) (c : Int × Int) : Option (Nat × List Int) :=
  (if (prB p) = true then (if (prB p) = true then (if (prB p) = true then some (3, [(i_orthocentre p 0 a b c).1, (i_orthocentre p 0 a b c).2, (i_orthocentre p 1 a b c).1, (i_orthocentre p 1 a b c).2, (i_orthocentre p 2 a b c).1, (i_orthocentre p 2 a b c).2]) else none) else none) else none)
theorem eq_i_omegaPoints (p : Int) (a : Int × Int) (b : Int × Int) (c : Int × Int) : execT Try.prog S_i_omegaPoints 82 25 (fun _ => 1000000) dec_l30_2 [.v (.int .i64 p), .v (.agg ⟨[.int .i64 a.1, .int .i64 a.2]⟩), .v (.agg ⟨[.int .i64 b.1, .int .i64 b.2]⟩), .v (.agg ⟨[.int .i64 c.1, .int .i64 c.2]⟩)] = Fo_i_omegaPoints p a b c := by
  kernel_rfl
def i_omegaPoints (p : Int) (a : Int × Int) (b : Int × Int) (c : Int × Int) : Nat × List Int :=
  (3, [(i_orthocentre p 0 a b c).1, (i_orthocentre p 0 a b c).2, (i_orthocentre p 1 a b c).1, (i_orthocentre p 1 a b c).2, (i_orthocentre p 2 a b c).1, (i_orthocentre p 2 a b c).2])
theorem tot_i_omegaPoints (p : Int) (a : Int × Int) (b : Int × Int) (c : Int × Int) (hp : (prB p) = true) : Fo_i_omegaPoints p a b c = some (i_omegaPoints p a b c) := by
  try have h0 := prB_ne hp
  unfold Fo_i_omegaPoints i_omegaPoints
  (try simp only [wI_eq])
  repeat' (first | with_reducible rfl | with_reducible refine chk_opt hp ?_ | with_reducible refine chk_opt h0 ?_ | refine chk_opt (and_all hp fun _ => hp) ?_ | refine chk_opt (and_all hp fun _ => rfl) ?_ | refine ite_opt (fun _ => ?_) (fun _ => ?_) | rfl)
def run_i_omegaPoints : List PV → Option (Bool × List TR)
  | [.v (.int .i64 p), .v (.agg ⟨[.int .i64 a0, .int .i64 a1]⟩), .v (.agg ⟨[.int .i64 b0, .int .i64 b1]⟩), .v (.agg ⟨[.int .i64 c0, .int .i64 c1]⟩)] => some (prB p, enc_l30_2 (i_omegaPoints p (a0, a1) (b0, b1) (c0, c1)))
  | _ => none
theorem sound_i_omegaPoints : Sound Try.prog 82 run_i_omegaPoints := by
  refine sound_of de_l30_2 SO_i_omegaPoints (by kernel_rfl) Try.func82 Try.ntmps82 rfl (by kernel_rfl) ?_
  intro W pvs avs rs hargs hrun
  unfold run_i_omegaPoints at hrun
  split at hrun
  · simp only [Option.some.injEq, Prod.mk.injEq] at hrun
    obtain ⟨hp, rfl⟩ := hrun
    rename_i p a0 a1 b0 b1 c0 c1
    exact ⟨_, _, _, hargs, rfl, (eq_i_omegaPoints p (a0, a1) (b0, b1) (c0, c1)).trans (tot_i_omegaPoints p (a0, a1) (b0, b1) (c0, c1) hp)⟩
  · cases hrun

def S_i_OmegaPoints : Sums := ⟨tblS [(81, run_i_triangle), (82, run_i_omegaPoints)], tblM []⟩
theorem SO_i_OmegaPoints : SumsOK Try.prog S_i_OmegaPoints := ⟨tblS_ok ⟨⟨Try.call81, sound_i_triangle⟩, ⟨Try.call82, sound_i_omegaPoints⟩, True.intro⟩, tblM_ok True.intro⟩
def Fo_i_OmegaPoints (p : Int) (a : Int × Int) (b : Int × Int) (c : Int × Int) : Option ((Nat × List Int) × Int) :=
  (if ((i_triangle p 0 a b c) != 0) = true then some ((0, []), (i_triangle p 0 a b c)) else (if (prB p) = true then some (((i_omegaPoints p a b c).1, (i_omegaPoints p a b c).2), 0) else none))
theorem eq_i_OmegaPoints (p : Int) (a : Int × Int) (b : Int × Int) (c : Int × Int) : execT Try.prog S_i_OmegaPoints 27 24 (fun _ => 1000000) dec_l30_2_i [.v (.int .i64 p), .v (.agg ⟨[.int .i64 a.1, .int .i64 a.2]⟩), .v (.agg ⟨[.int .i64 b.1, .int .i64 b.2]⟩), .v (.agg ⟨[.int .i64 c.1, .int .i64 c.2]⟩)] = Fo_i_OmegaPoints p a b c := by
  kernel_rfl
def i_OmegaPoints (p : Int) (a : Int × Int) (b : Int × Int) (c : Int × Int) : (Nat × List Int) × Int :=
  (if ((i_triangle p 0 a b c) != 0) = true then ((0, []), (i_triangle p 0 a b c)) else (((i_omegaPoints p a b c).1, (i_omegaPoints p a b c).2), 0))
theorem tot_i_OmegaPoints (p : Int) (a : Int × Int) (b : Int × Int) (c : Int × Int) : Fo_i_OmegaPoints p a b c = some (i_OmegaPoints p a b c) := by
  unfold Fo_i_OmegaPoints i_OmegaPoints
  (try simp only [wI_eq])
  repeat' (first | with_reducible rfl | refine chk_opt (by first | with_reducible rfl | exact Bool.true_or _ | (with_reducible exact triangle_prB ‹_›) | (with_reducible exact triangle_prB0 ‹_›) | exact mk_ok (by (first | (with_reducible assumption) | (with_reducible exact triangle_prB ‹_›) | (with_reducible exact triangle_prB0 ‹_›))) | exact and_all (by (first | (with_reducible assumption) | (with_reducible exact triangle_prB ‹_›) | (with_reducible exact triangle_prB0 ‹_›))) (fun _ => rfl) | exact and_all (by (first | (with_reducible assumption) | (with_reducible exact triangle_prB ‹_›) | (with_reducible exact triangle_prB0 ‹_›))) (fun _ => by (first | (with_reducible assumption) | (with_reducible exact triangle_prB ‹_›) | (with_reducible exact triangle_prB0 ‹_›))) | exact and3 (by (first | (with_reducible assumption) | (with_reducible exact triangle_prB ‹_›) | (with_reducible exact triangle_prB0 ‹_›))) (by (first | (with_reducible assumption) | (with_reducible exact triangle_prB ‹_›) | (with_reducible exact triangle_prB0 ‹_›))) (by (first | (with_reducible assumption) | (with_reducible exact triangle_prB ‹_›) | (with_reducible exact triangle_prB0 ‹_›))) | exact and_two (by (first | (with_reducible assumption) | (with_reducible exact triangle_prB ‹_›) | (with_reducible exact triangle_prB0 ‹_›))) rfl | rfl) ?_ | refine ite_opt (fun _ => ?_) (fun _ => ?_) | rfl)
def run_i_OmegaPoints : List PV → Option (Bool × List TR)
  | [.v (.int .i64 p), .v (.agg ⟨[.int .i64 a0, .int .i64 a1]⟩), .v (.agg ⟨[.int .i64 b0, .int .i64 b1]⟩), .v (.agg ⟨[.int .i64 c0, .int .i64 c1]⟩)] => some (true, enc_l30_2_i (i_OmegaPoints p (a0, a1) (b0, b1) (c0, c1)))
  | _ => none
theorem sound_i_OmegaPoints : Sound Try.prog 27 run_i_OmegaPoints := by
  refine sound_of de_l30_2_i SO_i_OmegaPoints (by kernel_rfl) Try.func27 Try.ntmps27 rfl (by kernel_rfl) ?_
  intro W pvs avs rs hargs hrun
  unfold run_i_OmegaPoints at hrun
  split at hrun
  · simp only [Option.some.injEq, Prod.mk.injEq] at hrun
    obtain ⟨hp, rfl⟩ := hrun
    rename_i p a0 a1 b0 b1 c0 c1
    exact ⟨_, _, _, hargs, rfl, (eq_i_OmegaPoints p (a0, a1) (b0, b1) (c0, c1)).trans (tot_i_OmegaPoints p (a0, a1) (b0, b1) (c0, c1))⟩
  · cases hrun

def S_s_l10Omega : Sums := ⟨tblS [(88, run_s_l04Orthocentre)], tblM []⟩
theorem SO_s_l10Omega : SumsOK Try.prog S_s_l10Omega := ⟨tblS_ok ⟨⟨Try.call88, sound_s_l04Orthocentre⟩, True.intro⟩, tblM_ok True.intro⟩
def Fo_s_l10Omega (p : Int) (a : Int × Int) (b : Int × Int) (c : Int × Int) : Option (Nat × List Int) :=
  (if (prB p) = true then (if (prB p) = true then (if (prB p) = true then some (3, [(s_l04Orthocentre p 0 a b c).1, (s_l04Orthocentre p 0 a b c).2, (s_l04Orthocentre p 1 a b c).1, (s_l04Orthocentre p 1 a b c).2, (s_l04Orthocentre p 2 a b c).1, (s_l04Orthocentre p 2 a b c).2]) else none) else none) else none)
theorem eq_s_l10Omega (p : Int) (a : Int × Int) (b : Int × Int) (c : Int × Int) : execT Try.prog S_s_l10Omega 84 26 (fun _ => 1000000) dec_l30_2 [.v (.int .i64 p), .v (.agg ⟨[.int .i64 a.1, .int .i64 a.2]⟩), .v (.agg ⟨[.int .i64 b.1, .int .i64 b.2]⟩), .v (.agg ⟨[.int .i64 c.1, .int .i64 c.2]⟩)] = Fo_s_l10Omega p a b c := by
  kernel_rfl
def s_l10Omega (p : Int) (a : Int × Int) (b : Int × Int) (c : Int × Int) : Nat × List Int :=
  (3, [(s_l04Orthocentre p 0 a b c).1, (s_l04Orthocentre p 0 a b c).2, (s_l04Orthocentre p 1 a b c).1, (s_l04Orthocentre p 1 a b c).2, (s_l04Orthocentre p 2 a b c).1, (s_l04Orthocentre p 2 a b c).2])
theorem tot_s_l10Omega (p : Int) (a : Int × Int) (b : Int × Int) (c : Int × Int) (hp : (prB p) = true) : Fo_s_l10Omega p a b c = some (s_l10Omega p a b c) := by
  try have h0 := prB_ne hp
  unfold Fo_s_l10Omega s_l10Omega
  (try simp only [wI_eq])
  repeat' (first | with_reducible rfl | with_reducible refine chk_opt hp ?_ | with_reducible refine chk_opt h0 ?_ | refine chk_opt (and_all hp fun _ => hp) ?_ | refine chk_opt (and_all hp fun _ => rfl) ?_ | refine ite_opt (fun _ => ?_) (fun _ => ?_) | rfl)
def run_s_l10Omega : List PV → Option (Bool × List TR)
  | [.v (.int .i64 p), .v (.agg ⟨[.int .i64 a0, .int .i64 a1]⟩), .v (.agg ⟨[.int .i64 b0, .int .i64 b1]⟩), .v (.agg ⟨[.int .i64 c0, .int .i64 c1]⟩)] => some (prB p, enc_l30_2 (s_l10Omega p (a0, a1) (b0, b1) (c0, c1)))
  | _ => none
theorem sound_s_l10Omega : Sound Try.prog 84 run_s_l10Omega := by
  refine sound_of de_l30_2 SO_s_l10Omega (by kernel_rfl) Try.func84 Try.ntmps84 rfl (by kernel_rfl) ?_
  intro W pvs avs rs hargs hrun
  unfold run_s_l10Omega at hrun
  split at hrun
  · simp only [Option.some.injEq, Prod.mk.injEq] at hrun
    obtain ⟨hp, rfl⟩ := hrun
    rename_i p a0 a1 b0 b1 c0 c1
    exact ⟨_, _, _, hargs, rfl, (eq_s_l10Omega p (a0, a1) (b0, b1) (c0, c1)).trans (tot_s_l10Omega p (a0, a1) (b0, b1) (c0, c1) hp)⟩
  · cases hrun

def S_s_OmegaPoints : Sums := ⟨tblS [(83, run_s_l04Code), (84, run_s_l10Omega)], tblM []⟩
theorem SO_s_OmegaPoints : SumsOK Try.prog S_s_OmegaPoints := ⟨tblS_ok ⟨⟨Try.call83, sound_s_l04Code⟩, ⟨Try.call84, sound_s_l10Omega⟩, True.intro⟩, tblM_ok True.intro⟩
def Fo_s_OmegaPoints (p : Int) (a : Int × Int) (b : Int × Int) (c : Int × Int) : Option ((Nat × List Int) × Int) :=
  (if ((s_l04Code p 0 a b c) != 0) = true then some ((0, []), (s_l04Code p 0 a b c)) else (if (prB p) = true then some (((s_l10Omega p a b c).1, (s_l10Omega p a b c).2), 0) else none))
theorem eq_s_OmegaPoints (p : Int) (a : Int × Int) (b : Int × Int) (c : Int × Int) : execT Try.prog S_s_OmegaPoints 28 24 (fun _ => 1000000) dec_l30_2_i [.v (.int .i64 p), .v (.agg ⟨[.int .i64 a.1, .int .i64 a.2]⟩), .v (.agg ⟨[.int .i64 b.1, .int .i64 b.2]⟩), .v (.agg ⟨[.int .i64 c.1, .int .i64 c.2]⟩)] = Fo_s_OmegaPoints p a b c := by
  kernel_rfl
def s_OmegaPoints (p : Int) (a : Int × Int) (b : Int × Int) (c : Int × Int) : (Nat × List Int) × Int :=
  (if ((s_l04Code p 0 a b c) != 0) = true then ((0, []), (s_l04Code p 0 a b c)) else (((s_l10Omega p a b c).1, (s_l10Omega p a b c).2), 0))
theorem tot_s_OmegaPoints (p : Int) (a : Int × Int) (b : Int × Int) (c : Int × Int) : Fo_s_OmegaPoints p a b c = some (s_OmegaPoints p a b c) := by
  unfold Fo_s_OmegaPoints s_OmegaPoints
  (try simp only [wI_eq])
  repeat' (first | with_reducible rfl | refine chk_opt (by first | with_reducible rfl | exact Bool.true_or _ | (with_reducible exact l04Code_prB ‹_›) | (with_reducible exact l04Code_prB0 ‹_›) | exact mk_ok (by (first | (with_reducible assumption) | (with_reducible exact l04Code_prB ‹_›) | (with_reducible exact l04Code_prB0 ‹_›))) | exact and_all (by (first | (with_reducible assumption) | (with_reducible exact l04Code_prB ‹_›) | (with_reducible exact l04Code_prB0 ‹_›))) (fun _ => rfl) | exact and_all (by (first | (with_reducible assumption) | (with_reducible exact l04Code_prB ‹_›) | (with_reducible exact l04Code_prB0 ‹_›))) (fun _ => by (first | (with_reducible assumption) | (with_reducible exact l04Code_prB ‹_›) | (with_reducible exact l04Code_prB0 ‹_›))) | exact and3 (by (first | (with_reducible assumption) | (with_reducible exact l04Code_prB ‹_›) | (with_reducible exact l04Code_prB0 ‹_›))) (by (first | (with_reducible assumption) | (with_reducible exact l04Code_prB ‹_›) | (with_reducible exact l04Code_prB0 ‹_›))) (by (first | (with_reducible assumption) | (with_reducible exact l04Code_prB ‹_›) | (with_reducible exact l04Code_prB0 ‹_›))) | exact and_two (by (first | (with_reducible assumption) | (with_reducible exact l04Code_prB ‹_›) | (with_reducible exact l04Code_prB0 ‹_›))) rfl | rfl) ?_ | refine ite_opt (fun _ => ?_) (fun _ => ?_) | rfl)
def run_s_OmegaPoints : List PV → Option (Bool × List TR)
  | [.v (.int .i64 p), .v (.agg ⟨[.int .i64 a0, .int .i64 a1]⟩), .v (.agg ⟨[.int .i64 b0, .int .i64 b1]⟩), .v (.agg ⟨[.int .i64 c0, .int .i64 c1]⟩)] => some (true, enc_l30_2_i (s_OmegaPoints p (a0, a1) (b0, b1) (c0, c1)))
  | _ => none
theorem sound_s_OmegaPoints : Sound Try.prog 28 run_s_OmegaPoints := by
  refine sound_of de_l30_2_i SO_s_OmegaPoints (by kernel_rfl) Try.func28 Try.ntmps28 rfl (by kernel_rfl) ?_
  intro W pvs avs rs hargs hrun
  unfold run_s_OmegaPoints at hrun
  split at hrun
  · simp only [Option.some.injEq, Prod.mk.injEq] at hrun
    obtain ⟨hp, rfl⟩ := hrun
    rename_i p a0 a1 b0 b1 c0 c1
    exact ⟨_, _, _, hargs, rfl, (eq_s_OmegaPoints p (a0, a1) (b0, b1) (c0, c1)).trans (tot_s_OmegaPoints p (a0, a1) (b0, b1) (c0, c1))⟩
  · cases hrun

def S_i_ThreeCircumcentres : Sums := ⟨tblS [(81, run_i_triangle), (85, run_i_circumcentre)], tblM []⟩
theorem SO_i_ThreeCircumcentres : SumsOK Try.prog S_i_ThreeCircumcentres := ⟨tblS_ok ⟨⟨Try.call81, sound_i_triangle⟩, ⟨Try.call85, sound_i_circumcentre⟩, True.intro⟩, tblM_ok True.intro⟩
def Fo_i_ThreeCircumcentres (p : Int) (a : Int × Int) (b : Int × Int) (c : Int × Int) : Option ((Nat × List Int) × Int) :=
  (if ((i_triangle p 0 a b c) != 0) = true then some ((0, []), (i_triangle p 0 a b c)) else (if (prB p) = true then (if (prB p) = true then (if (prB p) = true then some ((3, [(i_circumcentre p 0 a b c).1, (i_circumcentre p 0 a b c).2, (i_circumcentre p 1 a b c).1, (i_circumcentre p 1 a b c).2, (i_circumcentre p 2 a b c).1, (i_circumcentre p 2 a b c).2]), 0) else none) else none) else none))
theorem eq_i_ThreeCircumcentres (p : Int) (a : Int × Int) (b : Int × Int) (c : Int × Int) : execT Try.prog S_i_ThreeCircumcentres 29 36 (fun _ => 1000000) dec_l30_2_i [.v (.int .i64 p), .v (.agg ⟨[.int .i64 a.1, .int .i64 a.2]⟩), .v (.agg ⟨[.int .i64 b.1, .int .i64 b.2]⟩), .v (.agg ⟨[.int .i64 c.1, .int .i64 c.2]⟩)] = Fo_i_ThreeCircumcentres p a b c := by
  kernel_rfl
def i_ThreeCircumcentres (p : Int) (a : Int × Int) (b : Int × Int) (c : Int × Int) : (Nat × List Int) × Int :=
  (if ((i_triangle p 0 a b c) != 0) = true then ((0, []), (i_triangle p 0 a b c)) else ((3, [(i_circumcentre p 0 a b c).1, (i_circumcentre p 0 a b c).2, (i_circumcentre p 1 a b c).1, (i_circumcentre p 1 a b c).2, (i_circumcentre p 2 a b c).1, (i_circumcentre p 2 a b c).2]), 0))
theorem tot_i_ThreeCircumcentres (p : Int) (a : Int × Int) (b : Int × Int) (c : Int × Int) : Fo_i_ThreeCircumcentres p a b c = some (i_ThreeCircumcentres p a b c) := by
  unfold Fo_i_ThreeCircumcentres i_ThreeCircumcentres
  (try simp only [wI_eq])
  repeat' (first | with_reducible rfl | refine chk_opt (by first | with_reducible rfl | exact Bool.true_or _ | (with_reducible exact triangle_prB ‹_›) | (with_reducible exact triangle_prB0 ‹_›) | exact mk_ok (by (first | (with_reducible assumption) | (with_reducible exact triangle_prB ‹_›) | (with_reducible exact triangle_prB0 ‹_›))) | exact and_all (by (first | (with_reducible assumption) | (with_reducible exact triangle_prB ‹_›) | (with_reducible exact triangle_prB0 ‹_›))) (fun _ => rfl) | exact and_all (by (first | (with_reducible assumption) | (with_reducible exact triangle_prB ‹_›) | (with_reducible exact triangle_prB0 ‹_›))) (fun _ => by (first | (with_reducible assumption) | (with_reducible exact triangle_prB ‹_›) | (with_reducible exact triangle_prB0 ‹_›))) | exact and3 (by (first | (with_reducible assumption) | (with_reducible exact triangle_prB ‹_›) | (with_reducible exact triangle_prB0 ‹_›))) (by (first | (with_reducible assumption) | (with_reducible exact triangle_prB ‹_›) | (with_reducible exact triangle_prB0 ‹_›))) (by (first | (with_reducible assumption) | (with_reducible exact triangle_prB ‹_›) | (with_reducible exact triangle_prB0 ‹_›))) | exact and_two (by (first | (with_reducible assumption) | (with_reducible exact triangle_prB ‹_›) | (with_reducible exact triangle_prB0 ‹_›))) rfl | rfl) ?_ | refine ite_opt (fun _ => ?_) (fun _ => ?_) | rfl)
def run_i_ThreeCircumcentres : List PV → Option (Bool × List TR)
  | [.v (.int .i64 p), .v (.agg ⟨[.int .i64 a0, .int .i64 a1]⟩), .v (.agg ⟨[.int .i64 b0, .int .i64 b1]⟩), .v (.agg ⟨[.int .i64 c0, .int .i64 c1]⟩)] => some (true, enc_l30_2_i (i_ThreeCircumcentres p (a0, a1) (b0, b1) (c0, c1)))
  | _ => none
theorem sound_i_ThreeCircumcentres : Sound Try.prog 29 run_i_ThreeCircumcentres := by
  refine sound_of de_l30_2_i SO_i_ThreeCircumcentres (by kernel_rfl) Try.func29 Try.ntmps29 rfl (by kernel_rfl) ?_
  intro W pvs avs rs hargs hrun
  unfold run_i_ThreeCircumcentres at hrun
  split at hrun
  · simp only [Option.some.injEq, Prod.mk.injEq] at hrun
    obtain ⟨hp, rfl⟩ := hrun
    rename_i p a0 a1 b0 b1 c0 c1
    exact ⟨_, _, _, hargs, rfl, (eq_i_ThreeCircumcentres p (a0, a1) (b0, b1) (c0, c1)).trans (tot_i_ThreeCircumcentres p (a0, a1) (b0, b1) (c0, c1))⟩
  · cases hrun

def S_s_ThreeCircumcentres : Sums := ⟨tblS [(83, run_s_l04Code), (86, run_s_l04Circumcentre)], tblM []⟩
theorem SO_s_ThreeCircumcentres : SumsOK Try.prog S_s_ThreeCircumcentres := ⟨tblS_ok ⟨⟨Try.call83, sound_s_l04Code⟩, ⟨Try.call86, sound_s_l04Circumcentre⟩, True.intro⟩, tblM_ok True.intro⟩
def Fo_s_ThreeCircumcentres (p : Int) (a : Int × Int) (b : Int × Int) (c : Int × Int) : Option ((Nat × List Int) × Int) :=
  (if ((s_l04Code p 0 a b c) != 0) = true then some ((0, []), (s_l04Code p 0 a b c)) else (if (prB p) = true then (if (prB p) = true then (if (prB p) = true then some ((3, [(s_l04Circumcentre p 0 a b c).1, (s_l04Circumcentre p 0 a b c).2, (s_l04Circumcentre p 1 a b c).1, (s_l04Circumcentre p 1 a b c).2, (s_l04Circumcentre p 2 a b c).1, (s_l04Circumcentre p 2 a b c).2]), 0) else none) else none) else none))
theorem eq_s_ThreeCircumcentres (p : Int) (a : Int × Int) (b : Int × Int) (c : Int × Int) : execT Try.prog S_s_ThreeCircumcentres 30 36 (fun _ => 1000000) dec_l30_2_i [.v (.int .i64 p), .v (.agg ⟨[.int .i64 a.1, .int .i64 a.2]⟩), .v (.agg ⟨[.int .i64 b.1, .int .i64 b.2]⟩), .v (.agg ⟨[.int .i64 c.1, .int .i64 c.2]⟩)] = Fo_s_ThreeCircumcentres p a b c := by
  kernel_rfl
def s_ThreeCircumcentres (p : Int) (a : Int × Int) (b : Int × Int) (c : Int × Int) : (Nat × List Int) × Int :=
  (if ((s_l04Code p 0 a b c) != 0) = true then ((0, []), (s_l04Code p 0 a b c)) else ((3, [(s_l04Circumcentre p 0 a b c).1, (s_l04Circumcentre p 0 a b c).2, (s_l04Circumcentre p 1 a b c).1, (s_l04Circumcentre p 1 a b c).2, (s_l04Circumcentre p 2 a b c).1, (s_l04Circumcentre p 2 a b c).2]), 0))
theorem tot_s_ThreeCircumcentres (p : Int) (a : Int × Int) (b : Int × Int) (c : Int × Int) : Fo_s_ThreeCircumcentres p a b c = some (s_ThreeCircumcentres p a b c) := by
  unfold Fo_s_ThreeCircumcentres s_ThreeCircumcentres
  (try simp only [wI_eq])
  repeat' (first | with_reducible rfl | refine chk_opt (by first | with_reducible rfl | exact Bool.true_or _ | (with_reducible exact l04Code_prB ‹_›) | (with_reducible exact l04Code_prB0 ‹_›) | exact mk_ok (by (first | (with_reducible assumption) | (with_reducible exact l04Code_prB ‹_›) | (with_reducible exact l04Code_prB0 ‹_›))) | exact and_all (by (first | (with_reducible assumption) | (with_reducible exact l04Code_prB ‹_›) | (with_reducible exact l04Code_prB0 ‹_›))) (fun _ => rfl) | exact and_all (by (first | (with_reducible assumption) | (with_reducible exact l04Code_prB ‹_›) | (with_reducible exact l04Code_prB0 ‹_›))) (fun _ => by (first | (with_reducible assumption) | (with_reducible exact l04Code_prB ‹_›) | (with_reducible exact l04Code_prB0 ‹_›))) | exact and3 (by (first | (with_reducible assumption) | (with_reducible exact l04Code_prB ‹_›) | (with_reducible exact l04Code_prB0 ‹_›))) (by (first | (with_reducible assumption) | (with_reducible exact l04Code_prB ‹_›) | (with_reducible exact l04Code_prB0 ‹_›))) (by (first | (with_reducible assumption) | (with_reducible exact l04Code_prB ‹_›) | (with_reducible exact l04Code_prB0 ‹_›))) | exact and_two (by (first | (with_reducible assumption) | (with_reducible exact l04Code_prB ‹_›) | (with_reducible exact l04Code_prB0 ‹_›))) rfl | rfl) ?_ | refine ite_opt (fun _ => ?_) (fun _ => ?_) | rfl)
def run_s_ThreeCircumcentres : List PV → Option (Bool × List TR)
  | [.v (.int .i64 p), .v (.agg ⟨[.int .i64 a0, .int .i64 a1]⟩), .v (.agg ⟨[.int .i64 b0, .int .i64 b1]⟩), .v (.agg ⟨[.int .i64 c0, .int .i64 c1]⟩)] => some (true, enc_l30_2_i (s_ThreeCircumcentres p (a0, a1) (b0, b1) (c0, c1)))
  | _ => none
theorem sound_s_ThreeCircumcentres : Sound Try.prog 30 run_s_ThreeCircumcentres := by
  refine sound_of de_l30_2_i SO_s_ThreeCircumcentres (by kernel_rfl) Try.func30 Try.ntmps30 rfl (by kernel_rfl) ?_
  intro W pvs avs rs hargs hrun
  unfold run_s_ThreeCircumcentres at hrun
  split at hrun
  · simp only [Option.some.injEq, Prod.mk.injEq] at hrun
    obtain ⟨hp, rfl⟩ := hrun
    rename_i p a0 a1 b0 b1 c0 c1
    exact ⟨_, _, _, hargs, rfl, (eq_s_ThreeCircumcentres p (a0, a1) (b0, b1) (c0, c1)).trans (tot_s_ThreeCircumcentres p (a0, a1) (b0, b1) (c0, c1))⟩
  · cases hrun

def S_i_EulerLineOf : Sums := ⟨tblS [(81, run_i_triangle), (128, run_i_orthocentre), (85, run_i_circumcentre), (132, run_i_lineThrough)], tblM []⟩
theorem SO_i_EulerLineOf : SumsOK Try.prog S_i_EulerLineOf := ⟨tblS_ok ⟨⟨Try.call81, sound_i_triangle⟩, ⟨Try.call128, sound_i_orthocentre⟩, ⟨Try.call85, sound_i_circumcentre⟩, ⟨Try.call132, sound_i_lineThrough⟩, True.intro⟩, tblM_ok True.intro⟩
def Fo_i_EulerLineOf (p : Int) (colour : Int) (a : Int × Int) (b : Int × Int) (c : Int × Int) : Option ((Int × Int × Int) × Int) :=
  (if ((i_triangle p colour a b c) != 0) = true then some ((0, 0, 0), (i_triangle p colour a b c)) else (if (prB p) = true then (if (prB p) = true then (if ((i_orthocentre p colour a b c) == (i_circumcentre p colour a b c)) = true then some ((0, 0, 0), 5) else (if (prB p) = true then some ((i_lineThrough p (i_orthocentre p colour a b c) (i_circumcentre p colour a b c)), 0) else none)) else none) else none))
theorem eq_i_EulerLineOf (p : Int) (colour : Int) (a : Int × Int) (b : Int × Int) (c : Int × Int) : execT Try.prog S_i_EulerLineOf 87 45 (fun _ => 1000000) dec_a3_i [.v (.int .i64 p), .v (.int .i64 colour), .v (.agg ⟨[.int .i64 a.1, .int .i64 a.2]⟩), .v (.agg ⟨[.int .i64 b.1, .int .i64 b.2]⟩), .v (.agg ⟨[.int .i64 c.1, .int .i64 c.2]⟩)] = Fo_i_EulerLineOf p colour a b c := by
  kernel_rfl
def i_EulerLineOf (p : Int) (colour : Int) (a : Int × Int) (b : Int × Int) (c : Int × Int) : (Int × Int × Int) × Int :=
  (if ((i_triangle p colour a b c) != 0) = true then ((0, 0, 0), (i_triangle p colour a b c)) else (if ((i_orthocentre p colour a b c) == (i_circumcentre p colour a b c)) = true then ((0, 0, 0), 5) else ((i_lineThrough p (i_orthocentre p colour a b c) (i_circumcentre p colour a b c)), 0)))
theorem tot_i_EulerLineOf (p : Int) (colour : Int) (a : Int × Int) (b : Int × Int) (c : Int × Int) : Fo_i_EulerLineOf p colour a b c = some (i_EulerLineOf p colour a b c) := by
  unfold Fo_i_EulerLineOf i_EulerLineOf
  (try simp only [wI_eq])
  repeat' (first | with_reducible rfl | refine chk_opt (by first | with_reducible rfl | exact Bool.true_or _ | (with_reducible exact triangle_prB ‹_›) | (with_reducible exact triangle_prB0 ‹_›) | exact mk_ok (by (first | (with_reducible assumption) | (with_reducible exact triangle_prB ‹_›) | (with_reducible exact triangle_prB0 ‹_›))) | exact and_all (by (first | (with_reducible assumption) | (with_reducible exact triangle_prB ‹_›) | (with_reducible exact triangle_prB0 ‹_›))) (fun _ => rfl) | exact and_all (by (first | (with_reducible assumption) | (with_reducible exact triangle_prB ‹_›) | (with_reducible exact triangle_prB0 ‹_›))) (fun _ => by (first | (with_reducible assumption) | (with_reducible exact triangle_prB ‹_›) | (with_reducible exact triangle_prB0 ‹_›))) | exact and3 (by (first | (with_reducible assumption) | (with_reducible exact triangle_prB ‹_›) | (with_reducible exact triangle_prB0 ‹_›))) (by (first | (with_reducible assumption) | (with_reducible exact triangle_prB ‹_›) | (with_reducible exact triangle_prB0 ‹_›))) (by (first | (with_reducible assumption) | (with_reducible exact triangle_prB ‹_›) | (with_reducible exact triangle_prB0 ‹_›))) | exact and_two (by (first | (with_reducible assumption) | (with_reducible exact triangle_prB ‹_›) | (with_reducible exact triangle_prB0 ‹_›))) rfl | rfl) ?_ | refine ite_opt (fun _ => ?_) (fun _ => ?_) | rfl)
def run_i_EulerLineOf : List PV → Option (Bool × List TR)
  | [.v (.int .i64 p), .v (.int .i64 colour), .v (.agg ⟨[.int .i64 a0, .int .i64 a1]⟩), .v (.agg ⟨[.int .i64 b0, .int .i64 b1]⟩), .v (.agg ⟨[.int .i64 c0, .int .i64 c1]⟩)] => some (true, enc_a3_i (i_EulerLineOf p colour (a0, a1) (b0, b1) (c0, c1)))
  | _ => none
theorem sound_i_EulerLineOf : Sound Try.prog 87 run_i_EulerLineOf := by
  refine sound_of de_a3_i SO_i_EulerLineOf (by kernel_rfl) Try.func87 Try.ntmps87 rfl (by kernel_rfl) ?_
  intro W pvs avs rs hargs hrun
  unfold run_i_EulerLineOf at hrun
  split at hrun
  · simp only [Option.some.injEq, Prod.mk.injEq] at hrun
    obtain ⟨hp, rfl⟩ := hrun
    rename_i p colour a0 a1 b0 b1 c0 c1
    exact ⟨_, _, _, hargs, rfl, (eq_i_EulerLineOf p colour (a0, a1) (b0, b1) (c0, c1)).trans (tot_i_EulerLineOf p colour (a0, a1) (b0, b1) (c0, c1))⟩
  · cases hrun

def S_i_ThreeEulerLines : Sums := ⟨tblS [(87, run_i_EulerLineOf)], tblM []⟩
theorem SO_i_ThreeEulerLines : SumsOK Try.prog S_i_ThreeEulerLines := ⟨tblS_ok ⟨⟨Try.call87, sound_i_EulerLineOf⟩, True.intro⟩, tblM_ok True.intro⟩
def Fo_i_ThreeEulerLines (p : Int) (a : Int × Int) (b : Int × Int) (c : Int × Int) : Option ((Nat × List Int) × Int) :=
  (if (((i_EulerLineOf p 0 a b c).2) != 0) = true then some ((0, []), (i_EulerLineOf p 0 a b c).2) else (if (((i_EulerLineOf p 1 a b c).2) != 0) = true then some ((0, []), (i_EulerLineOf p 1 a b c).2) else (if (((i_EulerLineOf p 2 a b c).2) != 0) = true then some ((0, []), (i_EulerLineOf p 2 a b c).2) else some ((3, [((i_EulerLineOf p 0 a b c).1).1, ((i_EulerLineOf p 0 a b c).1).2.1, ((i_EulerLineOf p 0 a b c).1).2.2, ((i_EulerLineOf p 1 a b c).1).1, ((i_EulerLineOf p 1 a b c).1).2.1, ((i_EulerLineOf p 1 a b c).1).2.2, ((i_EulerLineOf p 2 a b c).1).1, ((i_EulerLineOf p 2 a b c).1).2.1, ((i_EulerLineOf p 2 a b c).1).2.2]), 0))))
theorem eq_i_ThreeEulerLines (p : Int) (a : Int × Int) (b : Int × Int) (c : Int × Int) : execT Try.prog S_i_ThreeEulerLines 31 36 (fun _ => 1000000) dec_l32_3_i [.v (.int .i64 p), .v (.agg ⟨[.int .i64 a.1, .int .i64 a.2]⟩), .v (.agg ⟨[.int .i64 b.1, .int .i64 b.2]⟩), .v (.agg ⟨[.int .i64 c.1, .int .i64 c.2]⟩)] = Fo_i_ThreeEulerLines p a b c := by
  kernel_rfl
def i_ThreeEulerLines (p : Int) (a : Int × Int) (b : Int × Int) (c : Int × Int) : (Nat × List Int) × Int :=
  (if (((i_EulerLineOf p 0 a b c).2) != 0) = true then ((0, []), (i_EulerLineOf p 0 a b c).2) else (if (((i_EulerLineOf p 1 a b c).2) != 0) = true then ((0, []), (i_EulerLineOf p 1 a b c).2) else (if (((i_EulerLineOf p 2 a b c).2) != 0) = true then ((0, []), (i_EulerLineOf p 2 a b c).2) else ((3, [((i_EulerLineOf p 0 a b c).1).1, ((i_EulerLineOf p 0 a b c).1).2.1, ((i_EulerLineOf p 0 a b c).1).2.2, ((i_EulerLineOf p 1 a b c).1).1, ((i_EulerLineOf p 1 a b c).1).2.1, ((i_EulerLineOf p 1 a b c).1).2.2, ((i_EulerLineOf p 2 a b c).1).1, ((i_EulerLineOf p 2 a b c).1).2.1, ((i_EulerLineOf p 2 a b c).1).2.2]), 0))))
theorem tot_i_ThreeEulerLines (p : Int) (a : Int × Int) (b : Int × Int) (c : Int × Int) : Fo_i_ThreeEulerLines p a b c = some (i_ThreeEulerLines p a b c) := by
  unfold Fo_i_ThreeEulerLines i_ThreeEulerLines
  (try simp only [wI_eq])
  repeat' (first | with_reducible rfl | refine ite_opt (fun _ => ?_) (fun _ => ?_) | rfl)
def run_i_ThreeEulerLines : List PV → Option (Bool × List TR)
  | [.v (.int .i64 p), .v (.agg ⟨[.int .i64 a0, .int .i64 a1]⟩), .v (.agg ⟨[.int .i64 b0, .int .i64 b1]⟩), .v (.agg ⟨[.int .i64 c0, .int .i64 c1]⟩)] => some (true, enc_l32_3_i (i_ThreeEulerLines p (a0, a1) (b0, b1) (c0, c1)))
  | _ => none
theorem sound_i_ThreeEulerLines : Sound Try.prog 31 run_i_ThreeEulerLines := by
  refine sound_of de_l32_3_i SO_i_ThreeEulerLines (by kernel_rfl) Try.func31 Try.ntmps31 rfl (by kernel_rfl) ?_
  intro W pvs avs rs hargs hrun
  unfold run_i_ThreeEulerLines at hrun
  split at hrun
  · simp only [Option.some.injEq, Prod.mk.injEq] at hrun
    obtain ⟨hp, rfl⟩ := hrun
    rename_i p a0 a1 b0 b1 c0 c1
    exact ⟨_, _, _, hargs, rfl, (eq_i_ThreeEulerLines p (a0, a1) (b0, b1) (c0, c1)).trans (tot_i_ThreeEulerLines p (a0, a1) (b0, b1) (c0, c1))⟩
  · cases hrun

def S_s_ThreeEulerLines : Sums := ⟨tblS [(83, run_s_l04Code), (88, run_s_l04Orthocentre), (86, run_s_l04Circumcentre), (89, run_s_l01Through)], tblM []⟩
theorem SO_s_ThreeEulerLines : SumsOK Try.prog S_s_ThreeEulerLines := ⟨tblS_ok ⟨⟨Try.call83, sound_s_l04Code⟩, ⟨Try.call88, sound_s_l04Orthocentre⟩, ⟨Try.call86, sound_s_l04Circumcentre⟩, ⟨Try.call89, sound_s_l01Through⟩, True.intro⟩, tblM_ok True.intro⟩
def Fo_s_ThreeEulerLines (p : Int) (a : Int × Int) (b : Int × Int) (c : Int × Int) : Option ((Nat × List Int) × Int) :=
  (if ((s_l04Code p 0 a b c) != 0) = true then some ((0, []), (s_l04Code p 0 a b c)) else (if (prB p) = true then (if (prB p) = true then (if ((s_l04Orthocentre p 0 a b c) == (s_l04Circumcentre p 0 a b c)) = true then some ((0, []), 5) else (if (prB p) = true then (if (prB p) = true then (if (prB p) = true then (if ((s_l04Orthocentre p 1 a b c) == (s_l04Circumcentre p 1 a b c)) = true then some ((0, []), 5) else (if (prB p) = true then (if (prB p) = true then (if (prB p) = true then (if ((s_l04Orthocentre p 2 a b c) == (s_l04Circumcentre p 2 a b c)) = true then some ((0, []), 5) else (if (prB p) = true then some ((3, [(s_l01Through p (s_l04Orthocentre p 0 a b c) (s_l04Circumcentre p 0 a b c)).1, (s_l01Through p (s_l04Orthocentre p 0 a b c) (s_l04Circumcentre p 0 a b c)).2.1, (s_l01Through p (s_l04Orthocentre p 0 a b c) (s_l04Circumcentre p 0 a b c)).2.2, (s_l01Through p (s_l04Orthocentre p 1 a b c) (s_l04Circumcentre p 1 a b c)).1, (s_l01Through p (s_l04Orthocentre p 1 a b c) (s_l04Circumcentre p 1 a b c)).2.1, (s_l01Through p (s_l04Orthocentre p 1 a b c) (s_l04Circumcentre p 1 a b c)).2.2, (s_l01Through p (s_l04Orthocentre p 2 a b c) (s_l04Circumcentre p 2 a b c)).1, (s_l01Through p (s_l04Orthocentre p 2 a b c) (s_l04Circumcentre p 2 a b c)).2.1, (s_l01Through p (s_l04Orthocentre p 2 a b c) (s_l04Circumcentre p 2 a b c)).2.2]), 0) else none)) else none) else none) else none)) else none) else none) else none)) else none) else none))
theorem eq_s_ThreeEulerLines (p : Int) (a : Int × Int) (b : Int × Int) (c : Int × Int) : execT Try.prog S_s_ThreeEulerLines 32 51 (fun _ => 1000000) dec_l32_3_i [.v (.int .i64 p), .v (.agg ⟨[.int .i64 a.1, .int .i64 a.2]⟩), .v (.agg ⟨[.int .i64 b.1, .int .i64 b.2]⟩), .v (.agg ⟨[.int .i64 c.1, .int .i64 c.2]⟩)] = Fo_s_ThreeEulerLines p a b c := by
  kernel_rfl
def s_ThreeEulerLines (p : Int) (a : Int × Int) (b : Int × Int) (c : Int × Int) : (Nat × List Int) × Int :=
  (if ((s_l04Code p 0 a b c) != 0) = true then ((0, []), (s_l04Code p 0 a b c)) else (if ((s_l04Orthocentre p 0 a b c) == (s_l04Circumcentre p 0 a b c)) = true then ((0, []), 5) else (if ((s_l04Orthocentre p 1 a b c) == (s_l04Circumcentre p 1 a b c)) = true then ((0, []), 5) else (if ((s_l04Orthocentre p 2 a b c) == (s_l04Circumcentre p 2 a b c)) = true then ((0, []), 5) else ((3, [(s_l01Through p (s_l04Orthocentre p 0 a b c) (s_l04Circumcentre p 0 a b c)).1, (s_l01Through p (s_l04Orthocentre p 0 a b c) (s_l04Circumcentre p 0 a b c)).2.1, (s_l01Through p (s_l04Orthocentre p 0 a b c) (s_l04Circumcentre p 0 a b c)).2.2, (s_l01Through p (s_l04Orthocentre p 1 a b c) (s_l04Circumcentre p 1 a b c)).1, (s_l01Through p (s_l04Orthocentre p 1 a b c) (s_l04Circumcentre p 1 a b c)).2.1, (s_l01Through p (s_l04Orthocentre p 1 a b c) (s_l04Circumcentre p 1 a b c)).2.2, (s_l01Through p (s_l04Orthocentre p 2 a b c) (s_l04Circumcentre p 2 a b c)).1, (s_l01Through p (s_l04Orthocentre p 2 a b c) (s_l04Circumcentre p 2 a b c)).2.1, (s_l01Through p (s_l04Orthocentre p 2 a b c) (s_l04Circumcentre p 2 a b c)).2.2]), 0)))))
theorem tot_s_ThreeEulerLines (p : Int) (a : Int × Int) (b : Int × Int) (c : Int × Int) : Fo_s_ThreeEulerLines p a b c = some (s_ThreeEulerLines p a b c) := by
  unfold Fo_s_ThreeEulerLines s_ThreeEulerLines
  (try simp only [wI_eq])
  repeat' (first | with_reducible rfl | refine chk_opt (by first | with_reducible rfl | exact Bool.true_or _ | (with_reducible exact l04Code_prB ‹_›) | (with_reducible exact l04Code_prB0 ‹_›) | exact mk_ok (by (first | (with_reducible assumption) | (with_reducible exact l04Code_prB ‹_›) | (with_reducible exact l04Code_prB0 ‹_›))) | exact and_all (by (first | (with_reducible assumption) | (with_reducible exact l04Code_prB ‹_›) | (with_reducible exact l04Code_prB0 ‹_›))) (fun _ => rfl) | exact and_all (by (first | (with_reducible assumption) | (with_reducible exact l04Code_prB ‹_›) | (with_reducible exact l04Code_prB0 ‹_›))) (fun _ => by (first | (with_reducible assumption) | (with_reducible exact l04Code_prB ‹_›) | (with_reducible exact l04Code_prB0 ‹_›))) | exact and3 (by (first | (with_reducible assumption) | (with_reducible exact l04Code_prB ‹_›) | (with_reducible exact l04Code_prB0 ‹_›))) (by (first | (with_reducible assumption) | (with_reducible exact l04Code_prB ‹_›) | (with_reducible exact l04Code_prB0 ‹_›))) (by (first | (with_reducible assumption) | (with_reducible exact l04Code_prB ‹_›) | (with_reducible exact l04Code_prB0 ‹_›))) | exact and_two (by (first | (with_reducible assumption) | (with_reducible exact l04Code_prB ‹_›) | (with_reducible exact l04Code_prB0 ‹_›))) rfl | rfl) ?_ | refine ite_opt (fun _ => ?_) (fun _ => ?_) | rfl)
def run_s_ThreeEulerLines : List PV → Option (Bool × List TR)
  | [.v (.int .i64 p), .v (.agg ⟨[.int .i64 a0, .int .i64 a1]⟩), .v (.agg ⟨[.int .i64 b0, .int .i64 b1]⟩), .v (.agg ⟨[.int .i64 c0, .int .i64 c1]⟩)] => some (true, enc_l32_3_i (s_ThreeEulerLines p (a0, a1) (b0, b1) (c0, c1)))
  | _ => none
theorem sound_s_ThreeEulerLines : Sound Try.prog 32 run_s_ThreeEulerLines := by
  refine sound_of de_l32_3_i SO_s_ThreeEulerLines (by kernel_rfl) Try.func32 Try.ntmps32 rfl (by kernel_rfl) ?_
  intro W pvs avs rs hargs hrun
  unfold run_s_ThreeEulerLines at hrun
  split at hrun
  · simp only [Option.some.injEq, Prod.mk.injEq] at hrun
    obtain ⟨hp, rfl⟩ := hrun
    rename_i p a0 a1 b0 b1 c0 c1
    exact ⟨_, _, _, hargs, rfl, (eq_s_ThreeEulerLines p (a0, a1) (b0, b1) (c0, c1)).trans (tot_s_ThreeEulerLines p (a0, a1) (b0, b1) (c0, c1))⟩
  · cases hrun

def S_i_OmegaDouble : Sums := ⟨tblS [(81, run_i_triangle), (82, run_i_omegaPoints), (90, run_i_area)], tblM []⟩
theorem SO_i_OmegaDouble : SumsOK Try.prog S_i_OmegaDouble := ⟨tblS_ok ⟨⟨Try.call81, sound_i_triangle⟩, ⟨Try.call82, sound_i_omegaPoints⟩, ⟨Try.call90, sound_i_area⟩, True.intro⟩, tblM_ok True.intro⟩
def Fo_i_OmegaDouble (p : Int) (a : Int × Int) (b : Int × Int) (c : Int × Int) : Option (Int × Int) :=
  (if ((i_triangle p 0 a b c) != 0) = true then some (0, (i_triangle p 0 a b c)) else (if (prB p) = true then (if (decide (0 ≤ 0) && decide (0 < (((i_omegaPoints p a b c).1 : Nat) : Int))) = true then (if (Nat.ble (2) (((i_omegaPoints p a b c).2).length)) = true then (if (decide (0 ≤ 1) && decide (1 < (((i_omegaPoints p a b c).1 : Nat) : Int))) = true then (if (Nat.ble (4) (((i_omegaPoints p a b c).2).length)) = true then (if (decide (0 ≤ 2) && decide (2 < (((i_omegaPoints p a b c).1 : Nat) : Int))) = true then (if (Nat.ble (6) (((i_omegaPoints p a b c).2).length)) = true then (if (prB p) = true then some ((i_area p (((i_omegaPoints p a b c).2).getD 0 0, ((i_omegaPoints p a b c).2).getD 1 0) (((i_omegaPoints p a b c).2).getD 2 0, ((i_omegaPoints p a b c).2).getD 3 0) (((i_omegaPoints p a b c).2).getD 4 0, ((i_omegaPoints p a b c).2).getD 5 0)), 0) else none) else none) else none) else none) else none) else none) else none) else none))
theorem eq_i_OmegaDouble (p : Int) (a : Int × Int) (b : Int × Int) (c : Int × Int) : execT Try.prog S_i_OmegaDouble 34 36 (fun _ => 1000000) dec_i_i [.v (.int .i64 p), .v (.agg ⟨[.int .i64 a.1, .int .i64 a.2]⟩), .v (.agg ⟨[.int .i64 b.1, .int .i64 b.2]⟩), .v (.agg ⟨[.int .i64 c.1, .int .i64 c.2]⟩)] = Fo_i_OmegaDouble p a b c := by
  kernel_rfl
def i_OmegaDouble (p : Int) (a : Int × Int) (b : Int × Int) (c : Int × Int) : Int × Int :=
  (if ((i_triangle p 0 a b c) != 0) = true then (0, (i_triangle p 0 a b c)) else ((i_area p (((i_omegaPoints p a b c).2).getD 0 0, ((i_omegaPoints p a b c).2).getD 1 0) (((i_omegaPoints p a b c).2).getD 2 0, ((i_omegaPoints p a b c).2).getD 3 0) (((i_omegaPoints p a b c).2).getD 4 0, ((i_omegaPoints p a b c).2).getD 5 0)), 0))
theorem tot_i_OmegaDouble (p : Int) (a : Int × Int) (b : Int × Int) (c : Int × Int) : Fo_i_OmegaDouble p a b c = some (i_OmegaDouble p a b c) := by
  unfold Fo_i_OmegaDouble i_OmegaDouble
  (try simp only [wI_eq])
  repeat' (first | with_reducible rfl | refine chk_opt (by first | with_reducible rfl | exact Bool.true_or _ | (with_reducible exact triangle_prB ‹_›) | (with_reducible exact triangle_prB0 ‹_›) | exact mk_ok (by (first | (with_reducible assumption) | (with_reducible exact triangle_prB ‹_›) | (with_reducible exact triangle_prB0 ‹_›))) | exact and_all (by (first | (with_reducible assumption) | (with_reducible exact triangle_prB ‹_›) | (with_reducible exact triangle_prB0 ‹_›))) (fun _ => rfl) | exact and_all (by (first | (with_reducible assumption) | (with_reducible exact triangle_prB ‹_›) | (with_reducible exact triangle_prB0 ‹_›))) (fun _ => by (first | (with_reducible assumption) | (with_reducible exact triangle_prB ‹_›) | (with_reducible exact triangle_prB0 ‹_›))) | exact and3 (by (first | (with_reducible assumption) | (with_reducible exact triangle_prB ‹_›) | (with_reducible exact triangle_prB0 ‹_›))) (by (first | (with_reducible assumption) | (with_reducible exact triangle_prB ‹_›) | (with_reducible exact triangle_prB0 ‹_›))) (by (first | (with_reducible assumption) | (with_reducible exact triangle_prB ‹_›) | (with_reducible exact triangle_prB0 ‹_›))) | exact and_two (by (first | (with_reducible assumption) | (with_reducible exact triangle_prB ‹_›) | (with_reducible exact triangle_prB0 ‹_›))) rfl | rfl) ?_ | refine ite_opt (fun _ => ?_) (fun _ => ?_) | rfl)
def run_i_OmegaDouble : List PV → Option (Bool × List TR)
  | [.v (.int .i64 p), .v (.agg ⟨[.int .i64 a0, .int .i64 a1]⟩), .v (.agg ⟨[.int .i64 b0, .int .i64 b1]⟩), .v (.agg ⟨[.int .i64 c0, .int .i64 c1]⟩)] => some (true, enc_i_i (i_OmegaDouble p (a0, a1) (b0, b1) (c0, c1)))
  | _ => none
theorem sound_i_OmegaDouble : Sound Try.prog 34 run_i_OmegaDouble := by
  refine sound_of de_i_i SO_i_OmegaDouble (by kernel_rfl) Try.func34 Try.ntmps34 rfl (by kernel_rfl) ?_
  intro W pvs avs rs hargs hrun
  unfold run_i_OmegaDouble at hrun
  split at hrun
  · simp only [Option.some.injEq, Prod.mk.injEq] at hrun
    obtain ⟨hp, rfl⟩ := hrun
    rename_i p a0 a1 b0 b1 c0 c1
    exact ⟨_, _, _, hargs, rfl, (eq_i_OmegaDouble p (a0, a1) (b0, b1) (c0, c1)).trans (tot_i_OmegaDouble p (a0, a1) (b0, b1) (c0, c1))⟩
  · cases hrun

def S_s_OmegaDouble : Sums := ⟨tblS [(83, run_s_l04Code), (84, run_s_l10Omega), (91, run_s_l01Area)], tblM []⟩
theorem SO_s_OmegaDouble : SumsOK Try.prog S_s_OmegaDouble := ⟨tblS_ok ⟨⟨Try.call83, sound_s_l04Code⟩, ⟨Try.call84, sound_s_l10Omega⟩, ⟨Try.call91, sound_s_l01Area⟩, True.intro⟩, tblM_ok True.intro⟩
def Fo_s_OmegaDouble (p : Int) (a : Int × Int) (b : Int × Int) (c : Int × Int) : Option (Int × Int) :=
  (if ((s_l04Code p 0 a b c) != 0) = true then some (0, (s_l04Code p 0 a b c)) else (if (prB p) = true then (if (decide (0 ≤ 0) && decide (0 < (((s_l10Omega p a b c).1 : Nat) : Int))) = true then (if (Nat.ble (2) (((s_l10Omega p a b c).2).length)) = true then (if (decide (0 ≤ 1) && decide (1 < (((s_l10Omega p a b c).1 : Nat) : Int))) = true then (if (Nat.ble (4) (((s_l10Omega p a b c).2).length)) = true then (if (decide (0 ≤ 2) && decide (2 < (((s_l10Omega p a b c).1 : Nat) : Int))) = true then (if (Nat.ble (6) (((s_l10Omega p a b c).2).length)) = true then (if (prB p) = true then some ((s_l01Area p (((s_l10Omega p a b c).2).getD 0 0, ((s_l10Omega p a b c).2).getD 1 0) (((s_l10Omega p a b c).2).getD 2 0, ((s_l10Omega p a b c).2).getD 3 0) (((s_l10Omega p a b c).2).getD 4 0, ((s_l10Omega p a b c).2).getD 5 0)), 0) else none) else none) else none) else none) else none) else none) else none) else none))
theorem eq_s_OmegaDouble (p : Int) (a : Int × Int) (b : Int × Int) (c : Int × Int) : execT Try.prog S_s_OmegaDouble 35 36 (fun _ => 1000000) dec_i_i [.v (.int .i64 p), .v (.agg ⟨[.int .i64 a.1, .int .i64 a.2]⟩), .v (.agg ⟨[.int .i64 b.1, .int .i64 b.2]⟩), .v (.agg ⟨[.int .i64 c.1, .int .i64 c.2]⟩)] = Fo_s_OmegaDouble p a b c := by
  kernel_rfl
def s_OmegaDouble (p : Int) (a : Int × Int) (b : Int × Int) (c : Int × Int) : Int × Int :=
  (if ((s_l04Code p 0 a b c) != 0) = true then (0, (s_l04Code p 0 a b c)) else ((s_l01Area p (((s_l10Omega p a b c).2).getD 0 0, ((s_l10Omega p a b c).2).getD 1 0) (((s_l10Omega p a b c).2).getD 2 0, ((s_l10Omega p a b c).2).getD 3 0) (((s_l10Omega p a b c).2).getD 4 0, ((s_l10Omega p a b c).2).getD 5 0)), 0))
theorem tot_s_OmegaDouble (p : Int) (a : Int × Int) (b : Int × Int) (c : Int × Int) : Fo_s_OmegaDouble p a b c = some (s_OmegaDouble p a b c) := by
  unfold Fo_s_OmegaDouble s_OmegaDouble
  (try simp only [wI_eq])
  repeat' (first | with_reducible rfl | refine chk_opt (by first | with_reducible rfl | exact Bool.true_or _ | (with_reducible exact l04Code_prB ‹_›) | (with_reducible exact l04Code_prB0 ‹_›) | exact mk_ok (by (first | (with_reducible assumption) | (with_reducible exact l04Code_prB ‹_›) | (with_reducible exact l04Code_prB0 ‹_›))) | exact and_all (by (first | (with_reducible assumption) | (with_reducible exact l04Code_prB ‹_›) | (with_reducible exact l04Code_prB0 ‹_›))) (fun _ => rfl) | exact and_all (by (first | (with_reducible assumption) | (with_reducible exact l04Code_prB ‹_›) | (with_reducible exact l04Code_prB0 ‹_›))) (fun _ => by (first | (with_reducible assumption) | (with_reducible exact l04Code_prB ‹_›) | (with_reducible exact l04Code_prB0 ‹_›))) | exact and3 (by (first | (with_reducible assumption) | (with_reducible exact l04Code_prB ‹_›) | (with_reducible exact l04Code_prB0 ‹_›))) (by (first | (with_reducible assumption) | (with_reducible exact l04Code_prB ‹_›) | (with_reducible exact l04Code_prB0 ‹_›))) (by (first | (with_reducible assumption) | (with_reducible exact l04Code_prB ‹_›) | (with_reducible exact l04Code_prB0 ‹_›))) | exact and_two (by (first | (with_reducible assumption) | (with_reducible exact l04Code_prB ‹_›) | (with_reducible exact l04Code_prB0 ‹_›))) rfl | rfl) ?_ | refine ite_opt (fun _ => ?_) (fun _ => ?_) | rfl)
def run_s_OmegaDouble : List PV → Option (Bool × List TR)
  | [.v (.int .i64 p), .v (.agg ⟨[.int .i64 a0, .int .i64 a1]⟩), .v (.agg ⟨[.int .i64 b0, .int .i64 b1]⟩), .v (.agg ⟨[.int .i64 c0, .int .i64 c1]⟩)] => some (true, enc_i_i (s_OmegaDouble p (a0, a1) (b0, b1) (c0, c1)))
  | _ => none
theorem sound_s_OmegaDouble : Sound Try.prog 35 run_s_OmegaDouble := by
  refine sound_of de_i_i SO_s_OmegaDouble (by kernel_rfl) Try.func35 Try.ntmps35 rfl (by kernel_rfl) ?_
  intro W pvs avs rs hargs hrun
  unfold run_s_OmegaDouble at hrun
  split at hrun
  · simp only [Option.some.injEq, Prod.mk.injEq] at hrun
    obtain ⟨hp, rfl⟩ := hrun
    rename_i p a0 a1 b0 b1 c0 c1
    exact ⟨_, _, _, hargs, rfl, (eq_s_OmegaDouble p (a0, a1) (b0, b1) (c0, c1)).trans (tot_s_OmegaDouble p (a0, a1) (b0, b1) (c0, c1))⟩
  · cases hrun

def S_i_ThreeQuadrances_c1 : Sums := ⟨tblS [(63, run_i_arePoints)], tblM []⟩
theorem SO_i_ThreeQuadrances_c1 : SumsOK Try.prog S_i_ThreeQuadrances_c1 := ⟨tblS_ok ⟨⟨Try.call63, sound_i_arePoints⟩, True.intro⟩, tblM_ok True.intro⟩
def Fo_i_ThreeQuadrances_c1 (c0 : Int) (c1 : Int × Int) (c2 : Int × Int) : Option (Bool) :=
  some (i_arePoints c0 [c1, c2])
theorem eq_i_ThreeQuadrances_c1 (c0 : Int) (c1 : Int × Int) (c2 : Int × Int) : execT Try.prog S_i_ThreeQuadrances_c1 93 9 (fun _ => 1000000) dec_b [.p [.int .i64 c0], .p [.int .i64 c1.1, .int .i64 c1.2], .p [.int .i64 c2.1, .int .i64 c2.2]] = Fo_i_ThreeQuadrances_c1 c0 c1 c2 := by
  kernel_rfl
def i_ThreeQuadrances_c1 (c0 : Int) (c1 : Int × Int) (c2 : Int × Int) : Bool :=
  (i_arePoints c0 [c1, c2])
theorem tot_i_ThreeQuadrances_c1 (c0 : Int) (c1 : Int × Int) (c2 : Int × Int) : Fo_i_ThreeQuadrances_c1 c0 c1 c2 = some (i_ThreeQuadrances_c1 c0 c1 c2) := by
  unfold Fo_i_ThreeQuadrances_c1 i_ThreeQuadrances_c1
  (try simp only [wI_eq])
  repeat' (first | with_reducible rfl | refine ite_opt (fun _ => ?_) (fun _ => ?_) | rfl)
def run_i_ThreeQuadrances_c1 : List PV → Option (Bool × List TR)
  | [.p [.int .i64 c0], .p [.int .i64 c10, .int .i64 c11], .p [.int .i64 c20, .int .i64 c21]] => some (true, enc_b (i_ThreeQuadrances_c1 c0 (c10, c11) (c20, c21)))
  | _ => none
theorem sound_i_ThreeQuadrances_c1 : Sound Try.prog 93 run_i_ThreeQuadrances_c1 := by
  refine sound_of de_b SO_i_ThreeQuadrances_c1 (by kernel_rfl) Try.func93 Try.ntmps93 rfl (by kernel_rfl) ?_
  intro W pvs avs rs hargs hrun
  unfold run_i_ThreeQuadrances_c1 at hrun
  split at hrun
  · simp only [Option.some.injEq, Prod.mk.injEq] at hrun
    obtain ⟨hp, rfl⟩ := hrun
    rename_i c0 c10 c11 c20 c21
    exact ⟨_, _, _, hargs, rfl, (eq_i_ThreeQuadrances_c1 c0 (c10, c11) (c20, c21)).trans (tot_i_ThreeQuadrances_c1 c0 (c10, c11) (c20, c21))⟩
  · cases hrun

def S_i_ThreeQuadrances : Sums := ⟨tblS [(53, run_i_asked), (93, run_i_ThreeQuadrances_c1), (72, run_i_quadrance)], tblM []⟩
theorem SO_i_ThreeQuadrances : SumsOK Try.prog S_i_ThreeQuadrances := ⟨tblS_ok ⟨⟨Try.call53, sound_i_asked⟩, ⟨Try.call93, sound_i_ThreeQuadrances_c1⟩, ⟨Try.call72, sound_i_quadrance⟩, True.intro⟩, tblM_ok True.intro⟩
def Fo_i_ThreeQuadrances (p : Int) (a : Int × Int) (b : Int × Int) : Option ((Nat × List Int) × Int) :=
  (if ((true) || !(i_IsField p)) = true then (if ((i_asked p (true) (i_ThreeQuadrances_c1 p a b)) != 0) = true then some ((0, []), (i_asked p (true) (i_ThreeQuadrances_c1 p a b))) else (if (prB p) = true then (if (prB p) = true then (if (prB p) = true then some ((3, [(i_quadrance p 0 a b), (i_quadrance p 1 a b), (i_quadrance p 2 a b)]), 0) else none) else none) else none)) else none)
theorem eq_i_ThreeQuadrances (p : Int) (a : Int × Int) (b : Int × Int) : execT Try.prog S_i_ThreeQuadrances 37 28 (fun _ => 1000000) dec_l2_1_i [.v (.int .i64 p), .v (.agg ⟨[.int .i64 a.1, .int .i64 a.2]⟩), .v (.agg ⟨[.int .i64 b.1, .int .i64 b.2]⟩)] = Fo_i_ThreeQuadrances p a b := by
  kernel_rfl
def i_ThreeQuadrances (p : Int) (a : Int × Int) (b : Int × Int) : (Nat × List Int) × Int :=
  (if ((i_asked p (true) (i_ThreeQuadrances_c1 p a b)) != 0) = true then ((0, []), (i_asked p (true) (i_ThreeQuadrances_c1 p a b))) else ((3, [(i_quadrance p 0 a b), (i_quadrance p 1 a b), (i_quadrance p 2 a b)]), 0))
theorem tot_i_ThreeQuadrances (p : Int) (a : Int × Int) (b : Int × Int) : Fo_i_ThreeQuadrances p a b = some (i_ThreeQuadrances p a b) := by
  unfold Fo_i_ThreeQuadrances i_ThreeQuadrances
  (try simp only [wI_eq])
  repeat' (first | with_reducible rfl | refine chk_opt (by first | with_reducible rfl | exact Bool.true_or _ | (with_reducible exact asked_prB ‹_›) | (with_reducible exact asked_prB0 ‹_›) | exact mk_ok (by (first | (with_reducible assumption) | (with_reducible exact asked_prB ‹_›) | (with_reducible exact asked_prB0 ‹_›))) | exact and_all (by (first | (with_reducible assumption) | (with_reducible exact asked_prB ‹_›) | (with_reducible exact asked_prB0 ‹_›))) (fun _ => rfl) | exact and_all (by (first | (with_reducible assumption) | (with_reducible exact asked_prB ‹_›) | (with_reducible exact asked_prB0 ‹_›))) (fun _ => by (first | (with_reducible assumption) | (with_reducible exact asked_prB ‹_›) | (with_reducible exact asked_prB0 ‹_›))) | exact and3 (by (first | (with_reducible assumption) | (with_reducible exact asked_prB ‹_›) | (with_reducible exact asked_prB0 ‹_›))) (by (first | (with_reducible assumption) | (with_reducible exact asked_prB ‹_›) | (with_reducible exact asked_prB0 ‹_›))) (by (first | (with_reducible assumption) | (with_reducible exact asked_prB ‹_›) | (with_reducible exact asked_prB0 ‹_›))) | exact and_two (by (first | (with_reducible assumption) | (with_reducible exact asked_prB ‹_›) | (with_reducible exact asked_prB0 ‹_›))) rfl | rfl) ?_ | refine ite_opt (fun _ => ?_) (fun _ => ?_) | rfl)
def run_i_ThreeQuadrances : List PV → Option (Bool × List TR)
  | [.v (.int .i64 p), .v (.agg ⟨[.int .i64 a0, .int .i64 a1]⟩), .v (.agg ⟨[.int .i64 b0, .int .i64 b1]⟩)] => some (true, enc_l2_1_i (i_ThreeQuadrances p (a0, a1) (b0, b1)))
  | _ => none
theorem sound_i_ThreeQuadrances : Sound Try.prog 37 run_i_ThreeQuadrances := by
  refine sound_of de_l2_1_i SO_i_ThreeQuadrances (by kernel_rfl) Try.func37 Try.ntmps37 rfl (by kernel_rfl) ?_
  intro W pvs avs rs hargs hrun
  unfold run_i_ThreeQuadrances at hrun
  split at hrun
  · simp only [Option.some.injEq, Prod.mk.injEq] at hrun
    obtain ⟨hp, rfl⟩ := hrun
    rename_i p a0 a1 b0 b1
    exact ⟨_, _, _, hargs, rfl, (eq_i_ThreeQuadrances p (a0, a1) (b0, b1)).trans (tot_i_ThreeQuadrances p (a0, a1) (b0, b1))⟩
  · cases hrun

def S_s_ThreeQuadrances : Sums := ⟨tblS [(66, run_s_l01Code), (73, run_s_l02Quadrance)], tblM []⟩
theorem SO_s_ThreeQuadrances : SumsOK Try.prog S_s_ThreeQuadrances := ⟨tblS_ok ⟨⟨Try.call66, sound_s_l01Code⟩, ⟨Try.call73, sound_s_l02Quadrance⟩, True.intro⟩, tblM_ok True.intro⟩
def Fo_s_ThreeQuadrances (p : Int) (a : Int × Int) (b : Int × Int) : Option ((Nat × List Int) × Int) :=
  (if ((s_l01Code p [a, b]) != 0) = true then some ((0, []), (s_l01Code p [a, b])) else (if (prB p) = true then (if (prB p) = true then (if (prB p) = true then some ((3, [(s_l02Quadrance p 0 a b), (s_l02Quadrance p 1 a b), (s_l02Quadrance p 2 a b)]), 0) else none) else none) else none))
theorem eq_s_ThreeQuadrances (p : Int) (a : Int × Int) (b : Int × Int) : execT Try.prog S_s_ThreeQuadrances 38 33 (fun _ => 1000000) dec_l2_1_i [.v (.int .i64 p), .v (.agg ⟨[.int .i64 a.1, .int .i64 a.2]⟩), .v (.agg ⟨[.int .i64 b.1, .int .i64 b.2]⟩)] = Fo_s_ThreeQuadrances p a b := by
  kernel_rfl
def s_ThreeQuadrances (p : Int) (a : Int × Int) (b : Int × Int) : (Nat × List Int) × Int :=
  (if ((s_l01Code p [a, b]) != 0) = true then ((0, []), (s_l01Code p [a, b])) else ((3, [(s_l02Quadrance p 0 a b), (s_l02Quadrance p 1 a b), (s_l02Quadrance p 2 a b)]), 0))
theorem tot_s_ThreeQuadrances (p : Int) (a : Int × Int) (b : Int × Int) : Fo_s_ThreeQuadrances p a b = some (s_ThreeQuadrances p a b) := by
  unfold Fo_s_ThreeQuadrances s_ThreeQuadrances
  (try simp only [wI_eq])
  repeat' (first | with_reducible rfl | refine chk_opt (by first | with_reducible rfl | exact Bool.true_or _ | (with_reducible exact l01Code_prB ‹_›) | (with_reducible exact l01Code_prB0 ‹_›) | exact mk_ok (by (first | (with_reducible assumption) | (with_reducible exact l01Code_prB ‹_›) | (with_reducible exact l01Code_prB0 ‹_›))) | exact and_all (by (first | (with_reducible assumption) | (with_reducible exact l01Code_prB ‹_›) | (with_reducible exact l01Code_prB0 ‹_›))) (fun _ => rfl) | exact and_all (by (first | (with_reducible assumption) | (with_reducible exact l01Code_prB ‹_›) | (with_reducible exact l01Code_prB0 ‹_›))) (fun _ => by (first | (with_reducible assumption) | (with_reducible exact l01Code_prB ‹_›) | (with_reducible exact l01Code_prB0 ‹_›))) | exact and3 (by (first | (with_reducible assumption) | (with_reducible exact l01Code_prB ‹_›) | (with_reducible exact l01Code_prB0 ‹_›))) (by (first | (with_reducible assumption) | (with_reducible exact l01Code_prB ‹_›) | (with_reducible exact l01Code_prB0 ‹_›))) (by (first | (with_reducible assumption) | (with_reducible exact l01Code_prB ‹_›) | (with_reducible exact l01Code_prB0 ‹_›))) | exact and_two (by (first | (with_reducible assumption) | (with_reducible exact l01Code_prB ‹_›) | (with_reducible exact l01Code_prB0 ‹_›))) rfl | rfl) ?_ | refine ite_opt (fun _ => ?_) (fun _ => ?_) | rfl)
def run_s_ThreeQuadrances : List PV → Option (Bool × List TR)
  | [.v (.int .i64 p), .v (.agg ⟨[.int .i64 a0, .int .i64 a1]⟩), .v (.agg ⟨[.int .i64 b0, .int .i64 b1]⟩)] => some (true, enc_l2_1_i (s_ThreeQuadrances p (a0, a1) (b0, b1)))
  | _ => none
theorem sound_s_ThreeQuadrances : Sound Try.prog 38 run_s_ThreeQuadrances := by
  refine sound_of de_l2_1_i SO_s_ThreeQuadrances (by kernel_rfl) Try.func38 Try.ntmps38 rfl (by kernel_rfl) ?_
  intro W pvs avs rs hargs hrun
  unfold run_s_ThreeQuadrances at hrun
  split at hrun
  · simp only [Option.some.injEq, Prod.mk.injEq] at hrun
    obtain ⟨hp, rfl⟩ := hrun
    rename_i p a0 a1 b0 b1
    exact ⟨_, _, _, hargs, rfl, (eq_s_ThreeQuadrances p (a0, a1) (b0, b1)).trans (tot_s_ThreeQuadrances p (a0, a1) (b0, b1))⟩
  · cases hrun

def S_i_MidpointOf_c1 : Sums := ⟨tblS [(63, run_i_arePoints)], tblM []⟩
theorem SO_i_MidpointOf_c1 : SumsOK Try.prog S_i_MidpointOf_c1 := ⟨tblS_ok ⟨⟨Try.call63, sound_i_arePoints⟩, True.intro⟩, tblM_ok True.intro⟩
def Fo_i_MidpointOf_c1 (c0 : Int) (c1 : Int × Int) (c2 : Int × Int) : Option (Bool) :=
  some (i_arePoints c0 [c1, c2])
theorem eq_i_MidpointOf_c1 (c0 : Int) (c1 : Int × Int) (c2 : Int × Int) : execT Try.prog S_i_MidpointOf_c1 94 9 (fun _ => 1000000) dec_b [.p [.int .i64 c0], .p [.int .i64 c1.1, .int .i64 c1.2], .p [.int .i64 c2.1, .int .i64 c2.2]] = Fo_i_MidpointOf_c1 c0 c1 c2 := by
  kernel_rfl
def i_MidpointOf_c1 (c0 : Int) (c1 : Int × Int) (c2 : Int × Int) : Bool :=
  (i_arePoints c0 [c1, c2])
theorem tot_i_MidpointOf_c1 (c0 : Int) (c1 : Int × Int) (c2 : Int × Int) : Fo_i_MidpointOf_c1 c0 c1 c2 = some (i_MidpointOf_c1 c0 c1 c2) := by
  unfold Fo_i_MidpointOf_c1 i_MidpointOf_c1
  (try simp only [wI_eq])
  repeat' (first | with_reducible rfl | refine ite_opt (fun _ => ?_) (fun _ => ?_) | rfl)
def run_i_MidpointOf_c1 : List PV → Option (Bool × List TR)
  | [.p [.int .i64 c0], .p [.int .i64 c10, .int .i64 c11], .p [.int .i64 c20, .int .i64 c21]] => some (true, enc_b (i_MidpointOf_c1 c0 (c10, c11) (c20, c21)))
  | _ => none
theorem sound_i_MidpointOf_c1 : Sound Try.prog 94 run_i_MidpointOf_c1 := by
  refine sound_of de_b SO_i_MidpointOf_c1 (by kernel_rfl) Try.func94 Try.ntmps94 rfl (by kernel_rfl) ?_
  intro W pvs avs rs hargs hrun
  unfold run_i_MidpointOf_c1 at hrun
  split at hrun
  · simp only [Option.some.injEq, Prod.mk.injEq] at hrun
    obtain ⟨hp, rfl⟩ := hrun
    rename_i c0 c10 c11 c20 c21
    exact ⟨_, _, _, hargs, rfl, (eq_i_MidpointOf_c1 c0 (c10, c11) (c20, c21)).trans (tot_i_MidpointOf_c1 c0 (c10, c11) (c20, c21))⟩
  · cases hrun

def S_i_combination : Sums := ⟨tblS [(135, run_i_rest)], tblM []⟩
theorem SO_i_combination : SumsOK Try.prog S_i_combination := ⟨tblS_ok ⟨⟨Try.call135, sound_i_rest⟩, True.intro⟩, tblM_ok True.intro⟩
def Fo_i_combination (p : Int) (a : Int × Int) (b : Int × Int) (t : Int) : Option (Int × Int) :=
  (if (prB p) = true then (if (prB p) = true then some ((i_rest p (wI (a.1 + (wI (t * (wI (b.1 - a.1))))))), (i_rest p (wI (a.2 + (wI (t * (wI (b.2 - a.2)))))))) else none) else none)
theorem eq_i_combination (p : Int) (a : Int × Int) (b : Int × Int) (t : Int) : execT Try.prog S_i_combination 136 34 (fun _ => 1000000) dec_a2 [.v (.int .i64 p), .v (.agg ⟨[.int .i64 a.1, .int .i64 a.2]⟩), .v (.agg ⟨[.int .i64 b.1, .int .i64 b.2]⟩), .v (.int .i64 t)] = Fo_i_combination p a b t := by
  kernel_rfl
def i_combination (p : Int) (a : Int × Int) (b : Int × Int) (t : Int) : Int × Int :=
  ((i_rest p (wrap64 (a.1 + (wrap64 (t * (wrap64 (b.1 - a.1))))))), (i_rest p (wrap64 (a.2 + (wrap64 (t * (wrap64 (b.2 - a.2))))))))
theorem tot_i_combination (p : Int) (a : Int × Int) (b : Int × Int) (t : Int) (hp : (prB p) = true) : Fo_i_combination p a b t = some (i_combination p a b t) := by
  try have h0 := prB_ne hp
  unfold Fo_i_combination i_combination
  (try simp only [wI_eq])
  repeat' (first | with_reducible rfl | with_reducible refine chk_opt hp ?_ | with_reducible refine chk_opt h0 ?_ | refine chk_opt (and_all hp fun _ => hp) ?_ | refine chk_opt (and_all hp fun _ => rfl) ?_ | refine ite_opt (fun _ => ?_) (fun _ => ?_) | rfl)
def run_i_combination : List PV → Option (Bool × List TR)
  | [.v (.int .i64 p), .v (.agg ⟨[.int .i64 a0, .int .i64 a1]⟩), .v (.agg ⟨[.int .i64 b0, .int .i64 b1]⟩), .v (.int .i64 t)] => some (prB p, enc_a2 (i_combination p (a0, a1) (b0, b1) t))
  | _ => none
theorem sound_i_combination : Sound Try.prog 136 run_i_combination := by
  refine sound_of de_a2 SO_i_combination (by kernel_rfl) Try.func136 Try.ntmps136 rfl (by kernel_rfl) ?_
  intro W pvs avs rs hargs hrun
  unfold run_i_combination at hrun
  split at hrun
  · simp only [Option.some.injEq, Prod.mk.injEq] at hrun
    obtain ⟨hp, rfl⟩ := hrun
    rename_i p a0 a1 b0 b1 t
    exact ⟨_, _, _, hargs, rfl, (eq_i_combination p (a0, a1) (b0, b1) t).trans (tot_i_combination p (a0, a1) (b0, b1) t hp)⟩
  · cases hrun

def S_i_midpoint : Sums := ⟨tblS [(137, run_i_inverse), (136, run_i_combination)], tblM []⟩
theorem SO_i_midpoint : SumsOK Try.prog S_i_midpoint := ⟨tblS_ok ⟨⟨Try.call137, sound_i_inverse⟩, ⟨Try.call136, sound_i_combination⟩, True.intro⟩, tblM_ok True.intro⟩
def Fo_i_midpoint (p : Int) (a : Int × Int) (b : Int × Int) : Option (Int × Int) :=
  (if (prB p) = true then (if (prB p) = true then some (i_combination p a b (i_inverse p 2)) else none) else none)
theorem eq_i_midpoint (p : Int) (a : Int × Int) (b : Int × Int) : execT Try.prog S_i_midpoint 95 13 (fun _ => 1000000) dec_a2 [.v (.int .i64 p), .v (.agg ⟨[.int .i64 a.1, .int .i64 a.2]⟩), .v (.agg ⟨[.int .i64 b.1, .int .i64 b.2]⟩)] = Fo_i_midpoint p a b := by
  kernel_rfl
def i_midpoint (p : Int) (a : Int × Int) (b : Int × Int) : Int × Int :=
  (i_combination p a b (i_inverse p 2))
theorem tot_i_midpoint (p : Int) (a : Int × Int) (b : Int × Int) (hp : (prB p) = true) : Fo_i_midpoint p a b = some (i_midpoint p a b) := by
  try have h0 := prB_ne hp
  unfold Fo_i_midpoint i_midpoint
  (try simp only [wI_eq])
  repeat' (first | with_reducible rfl | with_reducible refine chk_opt hp ?_ | with_reducible refine chk_opt h0 ?_ | refine chk_opt (and_all hp fun _ => hp) ?_ | refine chk_opt (and_all hp fun _ => rfl) ?_ | refine ite_opt (fun _ => ?_) (fun _ => ?_) | rfl)
def run_i_midpoint : List PV → Option (Bool × List TR)
  | [.v (.int .i64 p), .v (.agg ⟨[.int .i64 a0, .int .i64 a1]⟩), .v (.agg ⟨[.int .i64 b0, .int .i64 b1]⟩)] => some (prB p, enc_a2 (i_midpoint p (a0, a1) (b0, b1)))
  | _ => none
theorem sound_i_midpoint : Sound Try.prog 95 run_i_midpoint := by
  refine sound_of de_a2 SO_i_midpoint (by kernel_rfl) Try.func95 Try.ntmps95 rfl (by kernel_rfl) ?_
  intro W pvs avs rs hargs hrun
  unfold run_i_midpoint at hrun
  split at hrun
  · simp only [Option.some.injEq, Prod.mk.injEq] at hrun
    obtain ⟨hp, rfl⟩ := hrun
    rename_i p a0 a1 b0 b1
    exact ⟨_, _, _, hargs, rfl, (eq_i_midpoint p (a0, a1) (b0, b1)).trans (tot_i_midpoint p (a0, a1) (b0, b1) hp)⟩
  · cases hrun

def S_i_MidpointOf : Sums := ⟨tblS [(53, run_i_asked), (94, run_i_MidpointOf_c1), (95, run_i_midpoint)], tblM []⟩
theorem SO_i_MidpointOf : SumsOK Try.prog S_i_MidpointOf := ⟨tblS_ok ⟨⟨Try.call53, sound_i_asked⟩, ⟨Try.call94, sound_i_MidpointOf_c1⟩, ⟨Try.call95, sound_i_midpoint⟩, True.intro⟩, tblM_ok True.intro⟩
def Fo_i_MidpointOf (p : Int) (a : Int × Int) (b : Int × Int) : Option ((Int × Int) × Int) :=
  (if ((true) || !(i_IsField p)) = true then (if ((i_asked p (true) (i_MidpointOf_c1 p a b)) != 0) = true then some ((0, 0), (i_asked p (true) (i_MidpointOf_c1 p a b))) else (if (prB p) = true then some ((i_midpoint p a b), 0) else none)) else none)
theorem eq_i_MidpointOf (p : Int) (a : Int × Int) (b : Int × Int) : execT Try.prog S_i_MidpointOf 39 20 (fun _ => 1000000) dec_a2_i [.v (.int .i64 p), .v (.agg ⟨[.int .i64 a.1, .int .i64 a.2]⟩), .v (.agg ⟨[.int .i64 b.1, .int .i64 b.2]⟩)] = Fo_i_MidpointOf p a b := by
  kernel_rfl
def i_MidpointOf (p : Int) (a : Int × Int) (b : Int × Int) : (Int × Int) × Int :=
  (if ((i_asked p (true) (i_MidpointOf_c1 p a b)) != 0) = true then ((0, 0), (i_asked p (true) (i_MidpointOf_c1 p a b))) else ((i_midpoint p a b), 0))
theorem tot_i_MidpointOf (p : Int) (a : Int × Int) (b : Int × Int) : Fo_i_MidpointOf p a b = some (i_MidpointOf p a b) := by
  unfold Fo_i_MidpointOf i_MidpointOf
  (try simp only [wI_eq])
  repeat' (first | with_reducible rfl | refine chk_opt (by first | with_reducible rfl | exact Bool.true_or _ | (with_reducible exact asked_prB ‹_›) | (with_reducible exact asked_prB0 ‹_›) | exact mk_ok (by (first | (with_reducible assumption) | (with_reducible exact asked_prB ‹_›) | (with_reducible exact asked_prB0 ‹_›))) | exact and_all (by (first | (with_reducible assumption) | (with_reducible exact asked_prB ‹_›) | (with_reducible exact asked_prB0 ‹_›))) (fun _ => rfl) | exact and_all (by (first | (with_reducible assumption) | (with_reducible exact asked_prB ‹_›) | (with_reducible exact asked_prB0 ‹_›))) (fun _ => by (first | (with_reducible assumption) | (with_reducible exact asked_prB ‹_›) | (with_reducible exact asked_prB0 ‹_›))) | exact and3 (by (first | (with_reducible assumption) | (with_reducible exact asked_prB ‹_›) | (with_reducible exact asked_prB0 ‹_›))) (by (first | (with_reducible assumption) | (with_reducible exact asked_prB ‹_›) | (with_reducible exact asked_prB0 ‹_›))) (by (first | (with_reducible assumption) | (with_reducible exact asked_prB ‹_›) | (with_reducible exact asked_prB0 ‹_›))) | exact and_two (by (first | (with_reducible assumption) | (with_reducible exact asked_prB ‹_›) | (with_reducible exact asked_prB0 ‹_›))) rfl | rfl) ?_ | refine ite_opt (fun _ => ?_) (fun _ => ?_) | rfl)
def run_i_MidpointOf : List PV → Option (Bool × List TR)
  | [.v (.int .i64 p), .v (.agg ⟨[.int .i64 a0, .int .i64 a1]⟩), .v (.agg ⟨[.int .i64 b0, .int .i64 b1]⟩)] => some (true, enc_a2_i (i_MidpointOf p (a0, a1) (b0, b1)))
  | _ => none
theorem sound_i_MidpointOf : Sound Try.prog 39 run_i_MidpointOf := by
  refine sound_of de_a2_i SO_i_MidpointOf (by kernel_rfl) Try.func39 Try.ntmps39 rfl (by kernel_rfl) ?_
  intro W pvs avs rs hargs hrun
  unfold run_i_MidpointOf at hrun
  split at hrun
  · simp only [Option.some.injEq, Prod.mk.injEq] at hrun
    obtain ⟨hp, rfl⟩ := hrun
    rename_i p a0 a1 b0 b1
    exact ⟨_, _, _, hargs, rfl, (eq_i_MidpointOf p (a0, a1) (b0, b1)).trans (tot_i_MidpointOf p (a0, a1) (b0, b1))⟩
  · cases hrun

def S_i_CentroidOf : Sums := ⟨tblS [(81, run_i_triangle), (96, run_i_divide)], tblM []⟩
theorem SO_i_CentroidOf : SumsOK Try.prog S_i_CentroidOf := ⟨tblS_ok ⟨⟨Try.call81, sound_i_triangle⟩, ⟨Try.call96, sound_i_divide⟩, True.intro⟩, tblM_ok True.intro⟩
def Fo_i_CentroidOf (p : Int) (a : Int × Int) (b : Int × Int) (c : Int × Int) : Option ((Int × Int) × Int) :=
  (if ((i_triangle p 0 a b c) != 0) = true then some ((0, 0), (i_triangle p 0 a b c)) else (if (p == 3) = true then some ((0, 0), 5) else (if (prB p) = true then (if (prB p) = true then some (((i_divide p (wI ((wI (a.1 + b.1)) + c.1)) 3), (i_divide p (wI ((wI (a.2 + b.2)) + c.2)) 3)), 0) else none) else none)))
theorem eq_i_CentroidOf (p : Int) (a : Int × Int) (b : Int × Int) (c : Int × Int) : execT Try.prog S_i_CentroidOf 40 44 (fun _ => 1000000) dec_a2_i [.v (.int .i64 p), .v (.agg ⟨[.int .i64 a.1, .int .i64 a.2]⟩), .v (.agg ⟨[.int .i64 b.1, .int .i64 b.2]⟩), .v (.agg ⟨[.int .i64 c.1, .int .i64 c.2]⟩)] = Fo_i_CentroidOf p a b c := by
  kernel_rfl
def i_CentroidOf (p : Int) (a : Int × Int) (b : Int × Int) (c : Int × Int) : (Int × Int) × Int :=
  (if ((i_triangle p 0 a b c) != 0) = true then ((0, 0), (i_triangle p 0 a b c)) else (if (p == 3) = true then ((0, 0), 5) else (((i_divide p (wrap64 ((wrap64 (a.1 + b.1)) + c.1)) 3), (i_divide p (wrap64 ((wrap64 (a.2 + b.2)) + c.2)) 3)), 0)))
theorem tot_i_CentroidOf (p : Int) (a : Int × Int) (b : Int × Int) (c : Int × Int) : Fo_i_CentroidOf p a b c = some (i_CentroidOf p a b c) := by
  unfold Fo_i_CentroidOf i_CentroidOf
  (try simp only [wI_eq])
  repeat' (first | with_reducible rfl | refine chk_opt (by first | with_reducible rfl | exact Bool.true_or _ | (with_reducible exact triangle_prB ‹_›) | (with_reducible exact triangle_prB0 ‹_›) | exact mk_ok (by (first | (with_reducible assumption) | (with_reducible exact triangle_prB ‹_›) | (with_reducible exact triangle_prB0 ‹_›))) | exact and_all (by (first | (with_reducible assumption) | (with_reducible exact triangle_prB ‹_›) | (with_reducible exact triangle_prB0 ‹_›))) (fun _ => rfl) | exact and_all (by (first | (with_reducible assumption) | (with_reducible exact triangle_prB ‹_›) | (with_reducible exact triangle_prB0 ‹_›))) (fun _ => by (first | (with_reducible assumption) | (with_reducible exact triangle_prB ‹_›) | (with_reducible exact triangle_prB0 ‹_›))) | exact and3 (by (first | (with_reducible assumption) | (with_reducible exact triangle_prB ‹_›) | (with_reducible exact triangle_prB0 ‹_›))) (by (first | (with_reducible assumption) | (with_reducible exact triangle_prB ‹_›) | (with_reducible exact triangle_prB0 ‹_›))) (by (first | (with_reducible assumption) | (with_reducible exact triangle_prB ‹_›) | (with_reducible exact triangle_prB0 ‹_›))) | exact and_two (by (first | (with_reducible assumption) | (with_reducible exact triangle_prB ‹_›) | (with_reducible exact triangle_prB0 ‹_›))) rfl | rfl) ?_ | refine ite_opt (fun _ => ?_) (fun _ => ?_) | rfl)
def run_i_CentroidOf : List PV → Option (Bool × List TR)
  | [.v (.int .i64 p), .v (.agg ⟨[.int .i64 a0, .int .i64 a1]⟩), .v (.agg ⟨[.int .i64 b0, .int .i64 b1]⟩), .v (.agg ⟨[.int .i64 c0, .int .i64 c1]⟩)] => some (true, enc_a2_i (i_CentroidOf p (a0, a1) (b0, b1) (c0, c1)))
  | _ => none
theorem sound_i_CentroidOf : Sound Try.prog 40 run_i_CentroidOf := by
  refine sound_of de_a2_i SO_i_CentroidOf (by kernel_rfl) Try.func40 Try.ntmps40 rfl (by kernel_rfl) ?_
  intro W pvs avs rs hargs hrun
  unfold run_i_CentroidOf at hrun
  split at hrun
  · simp only [Option.some.injEq, Prod.mk.injEq] at hrun
    obtain ⟨hp, rfl⟩ := hrun
    rename_i p a0 a1 b0 b1 c0 c1
    exact ⟨_, _, _, hargs, rfl, (eq_i_CentroidOf p (a0, a1) (b0, b1) (c0, c1)).trans (tot_i_CentroidOf p (a0, a1) (b0, b1) (c0, c1))⟩
  · cases hrun

def S_i_IsOnLine_c1 : Sums := ⟨tblS [(98, run_i_isPoint), (55, run_i_isLine)], tblM []⟩
theorem SO_i_IsOnLine_c1 : SumsOK Try.prog S_i_IsOnLine_c1 := ⟨tblS_ok ⟨⟨Try.call98, sound_i_isPoint⟩, ⟨Try.call55, sound_i_isLine⟩, True.intro⟩, tblM_ok True.intro⟩
def Fo_i_IsOnLine_c1 (c0 : Int) (c1 : Int × Int) (c2 : Int × Int × Int) : Option (Bool) :=
  (if (i_isPoint c0 c1) = true then some (i_isLine c0 c2) else some false)
theorem eq_i_IsOnLine_c1 (c0 : Int) (c1 : Int × Int) (c2 : Int × Int × Int) : execT Try.prog S_i_IsOnLine_c1 97 12 (fun _ => 1000000) dec_b [.p [.int .i64 c0], .p [.int .i64 c1.1, .int .i64 c1.2], .p [.int .i64 c2.1, .int .i64 c2.2.1, .int .i64 c2.2.2]] = Fo_i_IsOnLine_c1 c0 c1 c2 := by
  kernel_rfl
def i_IsOnLine_c1 (c0 : Int) (c1 : Int × Int) (c2 : Int × Int × Int) : Bool :=
  (if (i_isPoint c0 c1) = true then (i_isLine c0 c2) else false)
theorem tot_i_IsOnLine_c1 (c0 : Int) (c1 : Int × Int) (c2 : Int × Int × Int) : Fo_i_IsOnLine_c1 c0 c1 c2 = some (i_IsOnLine_c1 c0 c1 c2) := by
  unfold Fo_i_IsOnLine_c1 i_IsOnLine_c1
  (try simp only [wI_eq])
  repeat' (first | with_reducible rfl | refine ite_opt (fun _ => ?_) (fun _ => ?_) | rfl)
def run_i_IsOnLine_c1 : List PV → Option (Bool × List TR)
  | [.p [.int .i64 c0], .p [.int .i64 c10, .int .i64 c11], .p [.int .i64 c20, .int .i64 c21, .int .i64 c22]] => some (true, enc_b (i_IsOnLine_c1 c0 (c10, c11) (c20, c21, c22)))
  | _ => none
theorem sound_i_IsOnLine_c1 : Sound Try.prog 97 run_i_IsOnLine_c1 := by
  refine sound_of de_b SO_i_IsOnLine_c1 (by kernel_rfl) Try.func97 Try.ntmps97 rfl (by kernel_rfl) ?_
  intro W pvs avs rs hargs hrun
  unfold run_i_IsOnLine_c1 at hrun
  split at hrun
  · simp only [Option.some.injEq, Prod.mk.injEq] at hrun
    obtain ⟨hp, rfl⟩ := hrun
    rename_i c0 c10 c11 c20 c21 c22
    exact ⟨_, _, _, hargs, rfl, (eq_i_IsOnLine_c1 c0 (c10, c11) (c20, c21, c22)).trans (tot_i_IsOnLine_c1 c0 (c10, c11) (c20, c21, c22))⟩
  · cases hrun

def S_i_isOn : Sums := ⟨tblS [], tblM []⟩
theorem SO_i_isOn : SumsOK Try.prog S_i_isOn := ⟨tblS_ok True.intro, tblM_ok True.intro⟩
def Fo_i_isOn (p : Int) (a : Int × Int) (l : Int × Int × Int) : Option (Bool) :=
  (if (!(p == 0)) = true then some (((wI ((wI ((wI (l.1 * a.1)) + (wI (l.2.1 * a.2)))) + l.2.2)).tmod p) == 0) else none)
theorem eq_i_isOn (p : Int) (a : Int × Int) (l : Int × Int × Int) : execT Try.prog S_i_isOn 99 24 (fun _ => 1000000) dec_b [.v (.int .i64 p), .v (.agg ⟨[.int .i64 a.1, .int .i64 a.2]⟩), .v (.agg ⟨[.int .i64 l.1, .int .i64 l.2.1, .int .i64 l.2.2]⟩)] = Fo_i_isOn p a l := by
  kernel_rfl
def i_isOn (p : Int) (a : Int × Int) (l : Int × Int × Int) : Bool :=
  ((wrap64 ((wrap64 ((wrap64 (l.1 * a.1)) + (wrap64 (l.2.1 * a.2)))) + l.2.2)).tmod p) == 0
theorem tot_i_isOn (p : Int) (a : Int × Int) (l : Int × Int × Int) (hp : (prB p) = true) : Fo_i_isOn p a l = some (i_isOn p a l) := by
  try have h0 := prB_ne hp
  unfold Fo_i_isOn i_isOn
  (try simp only [wI_eq])
  repeat' (first | with_reducible rfl | with_reducible refine chk_opt hp ?_ | with_reducible refine chk_opt h0 ?_ | refine chk_opt (and_all hp fun _ => hp) ?_ | refine chk_opt (and_all hp fun _ => rfl) ?_ | refine ite_opt (fun _ => ?_) (fun _ => ?_) | rfl)
def run_i_isOn : List PV → Option (Bool × List TR)
  | [.v (.int .i64 p), .v (.agg ⟨[.int .i64 a0, .int .i64 a1]⟩), .v (.agg ⟨[.int .i64 l0, .int .i64 l1, .int .i64 l2]⟩)] => some (prB p, enc_b (i_isOn p (a0, a1) (l0, l1, l2)))
  | _ => none
theorem sound_i_isOn : Sound Try.prog 99 run_i_isOn := by
  refine sound_of de_b SO_i_isOn (by kernel_rfl) Try.func99 Try.ntmps99 rfl (by kernel_rfl) ?_
  intro W pvs avs rs hargs hrun
  unfold run_i_isOn at hrun
  split at hrun
  · simp only [Option.some.injEq, Prod.mk.injEq] at hrun
    obtain ⟨hp, rfl⟩ := hrun
    rename_i p a0 a1 l0 l1 l2
    exact ⟨_, _, _, hargs, rfl, (eq_i_isOn p (a0, a1) (l0, l1, l2)).trans (tot_i_isOn p (a0, a1) (l0, l1, l2) hp)⟩
  · cases hrun

def S_i_IsOnLine : Sums := ⟨tblS [(53, run_i_asked), (97, run_i_IsOnLine_c1), (99, run_i_isOn)], tblM []⟩
theorem SO_i_IsOnLine : SumsOK Try.prog S_i_IsOnLine := ⟨tblS_ok ⟨⟨Try.call53, sound_i_asked⟩, ⟨Try.call97, sound_i_IsOnLine_c1⟩, ⟨Try.call99, sound_i_isOn⟩, True.intro⟩, tblM_ok True.intro⟩
def Fo_i_IsOnLine (p : Int) (a : Int × Int) (l : Int × Int × Int) : Option (Bool × Int) :=
  (if ((true) || !(i_IsField p)) = true then (if ((i_asked p (true) (i_IsOnLine_c1 p a l)) != 0) = true then some (false, (i_asked p (true) (i_IsOnLine_c1 p a l))) else (if (prB p) = true then some ((i_isOn p a l), 0) else none)) else none)
theorem eq_i_IsOnLine (p : Int) (a : Int × Int) (l : Int × Int × Int) : execT Try.prog S_i_IsOnLine 41 19 (fun _ => 1000000) dec_b_i [.v (.int .i64 p), .v (.agg ⟨[.int .i64 a.1, .int .i64 a.2]⟩), .v (.agg ⟨[.int .i64 l.1, .int .i64 l.2.1, .int .i64 l.2.2]⟩)] = Fo_i_IsOnLine p a l := by
  kernel_rfl
def i_IsOnLine (p : Int) (a : Int × Int) (l : Int × Int × Int) : Bool × Int :=
  (if ((i_asked p (true) (i_IsOnLine_c1 p a l)) != 0) = true then (false, (i_asked p (true) (i_IsOnLine_c1 p a l))) else ((i_isOn p a l), 0))
theorem tot_i_IsOnLine (p : Int) (a : Int × Int) (l : Int × Int × Int) : Fo_i_IsOnLine p a l = some (i_IsOnLine p a l) := by
  unfold Fo_i_IsOnLine i_IsOnLine
  (try simp only [wI_eq])
  repeat' (first | with_reducible rfl | refine chk_opt (by first | with_reducible rfl | exact Bool.true_or _ | (with_reducible exact asked_prB ‹_›) | (with_reducible exact asked_prB0 ‹_›) | exact mk_ok (by (first | (with_reducible assumption) | (with_reducible exact asked_prB ‹_›) | (with_reducible exact asked_prB0 ‹_›))) | exact and_all (by (first | (with_reducible assumption) | (with_reducible exact asked_prB ‹_›) | (with_reducible exact asked_prB0 ‹_›))) (fun _ => rfl) | exact and_all (by (first | (with_reducible assumption) | (with_reducible exact asked_prB ‹_›) | (with_reducible exact asked_prB0 ‹_›))) (fun _ => by (first | (with_reducible assumption) | (with_reducible exact asked_prB ‹_›) | (with_reducible exact asked_prB0 ‹_›))) | exact and3 (by (first | (with_reducible assumption) | (with_reducible exact asked_prB ‹_›) | (with_reducible exact asked_prB0 ‹_›))) (by (first | (with_reducible assumption) | (with_reducible exact asked_prB ‹_›) | (with_reducible exact asked_prB0 ‹_›))) (by (first | (with_reducible assumption) | (with_reducible exact asked_prB ‹_›) | (with_reducible exact asked_prB0 ‹_›))) | exact and_two (by (first | (with_reducible assumption) | (with_reducible exact asked_prB ‹_›) | (with_reducible exact asked_prB0 ‹_›))) rfl | rfl) ?_ | refine ite_opt (fun _ => ?_) (fun _ => ?_) | rfl)
def run_i_IsOnLine : List PV → Option (Bool × List TR)
  | [.v (.int .i64 p), .v (.agg ⟨[.int .i64 a0, .int .i64 a1]⟩), .v (.agg ⟨[.int .i64 l0, .int .i64 l1, .int .i64 l2]⟩)] => some (true, enc_b_i (i_IsOnLine p (a0, a1) (l0, l1, l2)))
  | _ => none
theorem sound_i_IsOnLine : Sound Try.prog 41 run_i_IsOnLine := by
  refine sound_of de_b_i SO_i_IsOnLine (by kernel_rfl) Try.func41 Try.ntmps41 rfl (by kernel_rfl) ?_
  intro W pvs avs rs hargs hrun
  unfold run_i_IsOnLine at hrun
  split at hrun
  · simp only [Option.some.injEq, Prod.mk.injEq] at hrun
    obtain ⟨hp, rfl⟩ := hrun
    rename_i p a0 a1 l0 l1 l2
    exact ⟨_, _, _, hargs, rfl, (eq_i_IsOnLine p (a0, a1) (l0, l1, l2)).trans (tot_i_IsOnLine p (a0, a1) (l0, l1, l2))⟩
  · cases hrun


end

end Go.Proofs.Ytpopgdmnajngjaa
