import Derived.Test.YtpffcfiojjgnlaaFa
import Derived.Test.YtpffcfiojjgnlaaProg
set_option linter.unusedSimpArgs false
set_option linter.unusedVariables false
namespace Go.Proofs.Ytpffcfiojjgnlaa
open Go.RowKit
noncomputable section
def S_s_l02Through : Sums := ⟨tblS [(62, run_s_l01Mod), (112, run_s_l01Normal)], tblM []⟩
theorem SO_s_l02Through : SumsOK Try.prog S_s_l02Through := ⟨tblS_ok ⟨⟨Try.call62, sound_s_l01Mod⟩, ⟨Try.call112, sound_s_l01Normal⟩, True.intro⟩, tblM_ok True.intro⟩
def Fo_s_l02Through (p : Int) (colour : Int) (d : Int × Int) (a : Int × Int) : Option (Int × Int × Int) :=
  (if (colour == 1) = true then (if (prB p) = true then (if (prB p) = true then (if (prB p) = true then some (s_l01Normal p d.1 (s_l01Mod (wI (0 - d.2)) p) (s_l01Mod (wI (0 - (wI ((wI (d.1 * a.1)) + (wI ((s_l01Mod (wI (0 - d.2)) p) * a.2)))))) p)) else none) else none) else none) else (if (colour == 2) = true then (if (prB p) = true then (if (prB p) = true then some (s_l01Normal p d.2 d.1 (s_l01Mod (wI (0 - (wI ((wI (d.2 * a.1)) + (wI (d.1 * a.2)))))) p)) else none) else none) else (if (prB p) = true then (if (prB p) = true then some (s_l01Normal p d.1 d.2 (s_l01Mod (wI (0 - (wI ((wI (d.1 * a.1)) + (wI (d.2 * a.2)))))) p)) else none) else none)))
theorem eq_s_l02Through (p : Int) (colour : Int) (d : Int × Int) (a : Int × Int) : execT Try.prog S_s_l02Through 109 44 (fun _ => 1000000) dec_a3 [.v (.int .i64 p), .v (.int .i64 colour), .v (.agg ⟨[.int .i64 d.1, .int .i64 d.2]⟩), .v (.agg ⟨[.int .i64 a.1, .int .i64 a.2]⟩)] = Fo_s_l02Through p colour d a := by
  kernel_rfl
def s_l02Through (p : Int) (colour : Int) (d : Int × Int) (a : Int × Int) : Int × Int × Int :=
  (if (colour == 1) = true then (s_l01Normal p d.1 (s_l01Mod (wrap64 (0 - d.2)) p) (s_l01Mod (wrap64 (0 - (wrap64 ((wrap64 (d.1 * a.1)) + (wrap64 ((s_l01Mod (wrap64 (0 - d.2)) p) * a.2)))))) p)) else (if (colour == 2) = true then (s_l01Normal p d.2 d.1 (s_l01Mod (wrap64 (0 - (wrap64 ((wrap64 (d.2 * a.1)) + (wrap64 (d.1 * a.2)))))) p)) else (s_l01Normal p d.1 d.2 (s_l01Mod (wrap64 (0 - (wrap64 ((wrap64 (d.1 * a.1)) + (wrap64 (d.2 * a.2)))))) p))))
theorem tot_s_l02Through (p : Int) (colour : Int) (d : Int × Int) (a : Int × Int) (hp : (prB p) = true) : Fo_s_l02Through p colour d a = some (s_l02Through p colour d a) := by
  try have h0 := prB_ne hp
  unfold Fo_s_l02Through s_l02Through
  (try simp only [wI_eq])
  repeat' (first | with_reducible rfl | with_reducible refine chk_opt hp ?_ | with_reducible refine chk_opt h0 ?_ | refine chk_opt (and_all hp fun _ => hp) ?_ | refine chk_opt (and_all hp fun _ => rfl) ?_ | refine ite_opt (fun _ => ?_) (fun _ => ?_) | rfl)
def run_s_l02Through : List PV → Option (Bool × List TR)
  | [.v (.int .i64 p), .v (.int .i64 colour), .v (.agg ⟨[.int .i64 d0, .int .i64 d1]⟩), .v (.agg ⟨[.int .i64 a0, .int .i64 a1]⟩)] => some (prB p, enc_a3 (s_l02Through p colour (d0, d1) (a0, a1)))
  | _ => none
theorem sound_s_l02Through : Sound Try.prog 109 run_s_l02Through := by
  refine sound_of de_a3 SO_s_l02Through (by kernel_rfl) Try.func109 Try.ntmps109 rfl (by kernel_rfl) ?_
  intro W pvs avs rs hargs hrun
  unfold run_s_l02Through at hrun
  split at hrun
  · simp only [Option.some.injEq, Prod.mk.injEq] at hrun
    obtain ⟨hp, rfl⟩ := hrun
    rename_i p colour d0 d1 a0 a1
    exact ⟨_, _, _, hargs, rfl, (eq_s_l02Through p colour (d0, d1) (a0, a1)).trans (tot_s_l02Through p colour (d0, d1) (a0, a1) hp)⟩
  · cases hrun

def S_s_l04Altitude : Sums := ⟨tblS [(110, run_s_l01Minus), (109, run_s_l02Through)], tblM []⟩
theorem SO_s_l04Altitude : SumsOK Try.prog S_s_l04Altitude := ⟨tblS_ok ⟨⟨Try.call110, sound_s_l01Minus⟩, ⟨Try.call109, sound_s_l02Through⟩, True.intro⟩, tblM_ok True.intro⟩
def Fo_s_l04Altitude (p : Int) (colour : Int) (a : Int × Int) (b : Int × Int) (c : Int × Int) : Option (Int × Int × Int) :=
  (if (prB p) = true then (if (prB p) = true then some (s_l02Through p colour (s_l01Minus p b c) a) else none) else none)
theorem eq_s_l04Altitude (p : Int) (colour : Int) (a : Int × Int) (b : Int × Int) (c : Int × Int) : execT Try.prog S_s_l04Altitude 108 19 (fun _ => 1000000) dec_a3 [.v (.int .i64 p), .v (.int .i64 colour), .v (.agg ⟨[.int .i64 a.1, .int .i64 a.2]⟩), .v (.agg ⟨[.int .i64 b.1, .int .i64 b.2]⟩), .v (.agg ⟨[.int .i64 c.1, .int .i64 c.2]⟩)] = Fo_s_l04Altitude p colour a b c := by
  kernel_rfl
def s_l04Altitude (p : Int) (colour : Int) (a : Int × Int) (b : Int × Int) (c : Int × Int) : Int × Int × Int :=
  (s_l02Through p colour (s_l01Minus p b c) a)
theorem tot_s_l04Altitude (p : Int) (colour : Int) (a : Int × Int) (b : Int × Int) (c : Int × Int) (hp : (prB p) = true) : Fo_s_l04Altitude p colour a b c = some (s_l04Altitude p colour a b c) := by
  try have h0 := prB_ne hp
  unfold Fo_s_l04Altitude s_l04Altitude
  (try simp only [wI_eq])
  repeat' (first | with_reducible rfl | with_reducible refine chk_opt hp ?_ | with_reducible refine chk_opt h0 ?_ | refine chk_opt (and_all hp fun _ => hp) ?_ | refine chk_opt (and_all hp fun _ => rfl) ?_ | refine ite_opt (fun _ => ?_) (fun _ => ?_) | rfl)
def run_s_l04Altitude : List PV → Option (Bool × List TR)
  | [.v (.int .i64 p), .v (.int .i64 colour), .v (.agg ⟨[.int .i64 a0, .int .i64 a1]⟩), .v (.agg ⟨[.int .i64 b0, .int .i64 b1]⟩), .v (.agg ⟨[.int .i64 c0, .int .i64 c1]⟩)] => some (prB p, enc_a3 (s_l04Altitude p colour (a0, a1) (b0, b1) (c0, c1)))
  | _ => none
theorem sound_s_l04Altitude : Sound Try.prog 108 run_s_l04Altitude := by
  refine sound_of de_a3 SO_s_l04Altitude (by kernel_rfl) Try.func108 Try.ntmps108 rfl (by kernel_rfl) ?_
  intro W pvs avs rs hargs hrun
  unfold run_s_l04Altitude at hrun
  split at hrun
  · simp only [Option.some.injEq, Prod.mk.injEq] at hrun
    obtain ⟨hp, rfl⟩ := hrun
    rename_i p colour a0 a1 b0 b1 c0 c1
    exact ⟨_, _, _, hargs, rfl, (eq_s_l04Altitude p colour (a0, a1) (b0, b1) (c0, c1)).trans (tot_s_l04Altitude p colour (a0, a1) (b0, b1) (c0, c1) hp)⟩
  · cases hrun

def S_s_l01Area : Sums := ⟨tblS [(62, run_s_l01Mod)], tblM []⟩
theorem SO_s_l01Area : SumsOK Try.prog S_s_l01Area := ⟨tblS_ok ⟨⟨Try.call62, sound_s_l01Mod⟩, True.intro⟩, tblM_ok True.intro⟩
def Fo_s_l01Area (p : Int) (a : Int × Int) (b : Int × Int) (c : Int × Int) : Option (Int) :=
  (if (prB p) = true then some (s_l01Mod (wI ((wI ((wI (b.1 - a.1)) * (wI (c.2 - a.2)))) - (wI ((wI (b.2 - a.2)) * (wI (c.1 - a.1)))))) p) else none)
theorem eq_s_l01Area (p : Int) (a : Int × Int) (b : Int × Int) (c : Int × Int) : execT Try.prog S_s_l01Area 61 34 (fun _ => 1000000) dec_i [.v (.int .i64 p), .v (.agg ⟨[.int .i64 a.1, .int .i64 a.2]⟩), .v (.agg ⟨[.int .i64 b.1, .int .i64 b.2]⟩), .v (.agg ⟨[.int .i64 c.1, .int .i64 c.2]⟩)] = Fo_s_l01Area p a b c := by
  kernel_rfl
def s_l01Area (p : Int) (a : Int × Int) (b : Int × Int) (c : Int × Int) : Int :=
  (s_l01Mod (wrap64 ((wrap64 ((wrap64 (b.1 - a.1)) * (wrap64 (c.2 - a.2)))) - (wrap64 ((wrap64 (b.2 - a.2)) * (wrap64 (c.1 - a.1)))))) p)
theorem tot_s_l01Area (p : Int) (a : Int × Int) (b : Int × Int) (c : Int × Int) (hp : (prB p) = true) : Fo_s_l01Area p a b c = some (s_l01Area p a b c) := by
  try have h0 := prB_ne hp
  unfold Fo_s_l01Area s_l01Area
  (try simp only [wI_eq])
  repeat' (first | with_reducible rfl | with_reducible refine chk_opt hp ?_ | with_reducible refine chk_opt h0 ?_ | refine chk_opt (and_all hp fun _ => hp) ?_ | refine chk_opt (and_all hp fun _ => rfl) ?_ | refine ite_opt (fun _ => ?_) (fun _ => ?_) | rfl)
def run_s_l01Area : List PV → Option (Bool × List TR)
  | [.v (.int .i64 p), .v (.agg ⟨[.int .i64 a0, .int .i64 a1]⟩), .v (.agg ⟨[.int .i64 b0, .int .i64 b1]⟩), .v (.agg ⟨[.int .i64 c0, .int .i64 c1]⟩)] => some (prB p, enc_i (s_l01Area p (a0, a1) (b0, b1) (c0, c1)))
  | _ => none
theorem sound_s_l01Area : Sound Try.prog 61 run_s_l01Area := by
  refine sound_of de_i SO_s_l01Area (by kernel_rfl) Try.func61 Try.ntmps61 rfl (by kernel_rfl) ?_
  intro W pvs avs rs hargs hrun
  unfold run_s_l01Area at hrun
  split at hrun
  · simp only [Option.some.injEq, Prod.mk.injEq] at hrun
    obtain ⟨hp, rfl⟩ := hrun
    rename_i p a0 a1 b0 b1 c0 c1
    exact ⟨_, _, _, hargs, rfl, (eq_s_l01Area p (a0, a1) (b0, b1) (c0, c1)).trans (tot_s_l01Area p (a0, a1) (b0, b1) (c0, c1) hp)⟩
  · cases hrun

def S_s_l04Code : Sums := ⟨tblS [(59, run_s_l02Code), (61, run_s_l01Area)], tblM []⟩
theorem SO_s_l04Code : SumsOK Try.prog S_s_l04Code := ⟨tblS_ok ⟨⟨Try.call59, sound_s_l02Code⟩, ⟨Try.call61, sound_s_l01Area⟩, True.intro⟩, tblM_ok True.intro⟩
def Fo_s_l04Code (p : Int) (colour : Int) (a : Int × Int) (b : Int × Int) (c : Int × Int) : Option (Int) :=
  (if ((s_l02Code p colour 3 [a.1, a.2, b.1, b.2, c.1, c.2]) == 0) = true then (if (prB p) = true then (if ((s_l01Area p a b c) == 0) = true then some 5 else some (s_l02Code p colour 3 [a.1, a.2, b.1, b.2, c.1, c.2])) else none) else some (s_l02Code p colour 3 [a.1, a.2, b.1, b.2, c.1, c.2]))
theorem eq_s_l04Code (p : Int) (colour : Int) (a : Int × Int) (b : Int × Int) (c : Int × Int) : execT Try.prog S_s_l04Code 40 30 (fun _ => 1000000) dec_i [.v (.int .i64 p), .v (.int .i64 colour), .v (.agg ⟨[.int .i64 a.1, .int .i64 a.2]⟩), .v (.agg ⟨[.int .i64 b.1, .int .i64 b.2]⟩), .v (.agg ⟨[.int .i64 c.1, .int .i64 c.2]⟩)] = Fo_s_l04Code p colour a b c := by
  kernel_rfl
def s_l04Code (p : Int) (colour : Int) (a : Int × Int) (b : Int × Int) (c : Int × Int) : Int :=
  (if ((s_l02Code p colour 3 [a.1, a.2, b.1, b.2, c.1, c.2]) == 0) = true then (if ((s_l01Area p a b c) == 0) = true then 5 else (s_l02Code p colour 3 [a.1, a.2, b.1, b.2, c.1, c.2])) else (s_l02Code p colour 3 [a.1, a.2, b.1, b.2, c.1, c.2]))
theorem tot_s_l04Code (p : Int) (colour : Int) (a : Int × Int) (b : Int × Int) (c : Int × Int) : Fo_s_l04Code p colour a b c = some (s_l04Code p colour a b c) := by
  unfold Fo_s_l04Code s_l04Code
  (try simp only [wI_eq])
  repeat' (first | with_reducible rfl | refine chk_opt (by first | with_reducible rfl | exact Bool.true_or _ | (with_reducible exact l02Code_prB ‹_›) | (with_reducible exact l02Code_prB0 ‹_›) | exact mk_ok (by (first | (with_reducible assumption) | (with_reducible exact l02Code_prB ‹_›) | (with_reducible exact l02Code_prB0 ‹_›))) | exact and_all (by (first | (with_reducible assumption) | (with_reducible exact l02Code_prB ‹_›) | (with_reducible exact l02Code_prB0 ‹_›))) (fun _ => rfl) | exact and_all (by (first | (with_reducible assumption) | (with_reducible exact l02Code_prB ‹_›) | (with_reducible exact l02Code_prB0 ‹_›))) (fun _ => by (first | (with_reducible assumption) | (with_reducible exact l02Code_prB ‹_›) | (with_reducible exact l02Code_prB0 ‹_›))) | exact and3 (by (first | (with_reducible assumption) | (with_reducible exact l02Code_prB ‹_›) | (with_reducible exact l02Code_prB0 ‹_›))) (by (first | (with_reducible assumption) | (with_reducible exact l02Code_prB ‹_›) | (with_reducible exact l02Code_prB0 ‹_›))) (by (first | (with_reducible assumption) | (with_reducible exact l02Code_prB ‹_›) | (with_reducible exact l02Code_prB0 ‹_›))) | exact and_two (by (first | (with_reducible assumption) | (with_reducible exact l02Code_prB ‹_›) | (with_reducible exact l02Code_prB0 ‹_›))) rfl | rfl) ?_ | refine ite_opt (fun _ => ?_) (fun _ => ?_) | rfl)
def run_s_l04Code : List PV → Option (Bool × List TR)
  | [.v (.int .i64 p), .v (.int .i64 colour), .v (.agg ⟨[.int .i64 a0, .int .i64 a1]⟩), .v (.agg ⟨[.int .i64 b0, .int .i64 b1]⟩), .v (.agg ⟨[.int .i64 c0, .int .i64 c1]⟩)] => some (true, enc_i (s_l04Code p colour (a0, a1) (b0, b1) (c0, c1)))
  | _ => none
theorem sound_s_l04Code : Sound Try.prog 40 run_s_l04Code := by
  refine sound_of de_i SO_s_l04Code (by kernel_rfl) Try.func40 Try.ntmps40 rfl (by kernel_rfl) ?_
  intro W pvs avs rs hargs hrun
  unfold run_s_l04Code at hrun
  split at hrun
  · simp only [Option.some.injEq, Prod.mk.injEq] at hrun
    obtain ⟨hp, rfl⟩ := hrun
    rename_i p colour a0 a1 b0 b1 c0 c1
    exact ⟨_, _, _, hargs, rfl, (eq_s_l04Code p colour (a0, a1) (b0, b1) (c0, c1)).trans (tot_s_l04Code p colour (a0, a1) (b0, b1) (c0, c1))⟩
  · cases hrun

theorem l04Code_prB {p : Int} {k : Int} {a b c : P2} (h : ¬ (s_l04Code p k a b c != 0) = true) : prB p = true := by
  refine Pr_prB (i_IsField_ok ?_)
  have h : s_l04Code p k a b c = 0 := by simpa using h
  cases hf : i_IsField p
  · simp [s_l04Code, s_l02Code, s_l01Code, s_l01Field, hf] at h
  · rfl
theorem l04Code_prB0 {p : Int} {k : Int} {a b c : P2} (h : (s_l04Code p k a b c == 0) = true) : prB p = true := l04Code_prB (by simpa using h)
def S_s_l01Meet : Sums := ⟨tblS [(62, run_s_l01Mod), (60, run_s_l01Inverse)], tblM []⟩
theorem SO_s_l01Meet : SumsOK Try.prog S_s_l01Meet := ⟨tblS_ok ⟨⟨Try.call62, sound_s_l01Mod⟩, ⟨Try.call60, sound_s_l01Inverse⟩, True.intro⟩, tblM_ok True.intro⟩
def Fo_s_l01Meet (p : Int) (l : Int × Int × Int) (m : Int × Int × Int) : Option ((Int × Int) × Bool) :=
  (if (prB p) = true then (if ((s_l01Mod (wI ((wI (l.1 * m.2.1)) - (wI (l.2.1 * m.1)))) p) == 0) = true then some ((0, 0), false) else (if (prB p) = true then (if (!(p == 0)) = true then (if (prB p) = true then (if (!(p == 0)) = true then (if (prB p) = true then some (((s_l01Mod (wI (((wI ((wI (l.2.1 * m.2.2)) - (wI (m.2.1 * l.2.2)))).tmod p) * (s_l01Inverse (s_l01Mod (wI ((wI (l.1 * m.2.1)) - (wI (l.2.1 * m.1)))) p) p))) p), (s_l01Mod (wI (((wI ((wI (m.1 * l.2.2)) - (wI (l.1 * m.2.2)))).tmod p) * (s_l01Inverse (s_l01Mod (wI ((wI (l.1 * m.2.1)) - (wI (l.2.1 * m.1)))) p) p))) p)), true) else none) else none) else none) else none) else none)) else none)
theorem eq_s_l01Meet (p : Int) (l : Int × Int × Int) (m : Int × Int × Int) : execT Try.prog S_s_l01Meet 98 64 (fun _ => 1000000) dec_a2_b [.v (.int .i64 p), .v (.agg ⟨[.int .i64 l.1, .int .i64 l.2.1, .int .i64 l.2.2]⟩), .v (.agg ⟨[.int .i64 m.1, .int .i64 m.2.1, .int .i64 m.2.2]⟩)] = Fo_s_l01Meet p l m := by
  kernel_rfl
def s_l01Meet (p : Int) (l : Int × Int × Int) (m : Int × Int × Int) : (Int × Int) × Bool :=
  (if ((s_l01Mod (wrap64 ((wrap64 (l.1 * m.2.1)) - (wrap64 (l.2.1 * m.1)))) p) == 0) = true then ((0, 0), false) else (((s_l01Mod (wrap64 (((wrap64 ((wrap64 (l.2.1 * m.2.2)) - (wrap64 (m.2.1 * l.2.2)))).tmod p) * (s_l01Inverse (s_l01Mod (wrap64 ((wrap64 (l.1 * m.2.1)) - (wrap64 (l.2.1 * m.1)))) p) p))) p), (s_l01Mod (wrap64 (((wrap64 ((wrap64 (m.1 * l.2.2)) - (wrap64 (l.1 * m.2.2)))).tmod p) * (s_l01Inverse (s_l01Mod (wrap64 ((wrap64 (l.1 * m.2.1)) - (wrap64 (l.2.1 * m.1)))) p) p))) p)), true))
theorem tot_s_l01Meet (p : Int) (l : Int × Int × Int) (m : Int × Int × Int) (hp : (prB p) = true) : Fo_s_l01Meet p l m = some (s_l01Meet p l m) := by
  try have h0 := prB_ne hp
  unfold Fo_s_l01Meet s_l01Meet
  (try simp only [wI_eq])
  repeat' (first | with_reducible rfl | with_reducible refine chk_opt hp ?_ | with_reducible refine chk_opt h0 ?_ | refine chk_opt (and_all hp fun _ => hp) ?_ | refine chk_opt (and_all hp fun _ => rfl) ?_ | refine ite_opt (fun _ => ?_) (fun _ => ?_) | rfl)
def run_s_l01Meet : List PV → Option (Bool × List TR)
  | [.v (.int .i64 p), .v (.agg ⟨[.int .i64 l0, .int .i64 l1, .int .i64 l2]⟩), .v (.agg ⟨[.int .i64 m0, .int .i64 m1, .int .i64 m2]⟩)] => some (prB p, enc_a2_b (s_l01Meet p (l0, l1, l2) (m0, m1, m2)))
  | _ => none
theorem sound_s_l01Meet : Sound Try.prog 98 run_s_l01Meet := by
  refine sound_of de_a2_b SO_s_l01Meet (by kernel_rfl) Try.func98 Try.ntmps98 rfl (by kernel_rfl) ?_
  intro W pvs avs rs hargs hrun
  unfold run_s_l01Meet at hrun
  split at hrun
  · simp only [Option.some.injEq, Prod.mk.injEq] at hrun
    obtain ⟨hp, rfl⟩ := hrun
    rename_i p l0 l1 l2 m0 m1 m2
    exact ⟨_, _, _, hargs, rfl, (eq_s_l01Meet p (l0, l1, l2) (m0, m1, m2)).trans (tot_s_l01Meet p (l0, l1, l2) (m0, m1, m2) hp)⟩
  · cases hrun

def S_s_l01Plus : Sums := ⟨tblS [(62, run_s_l01Mod)], tblM []⟩
theorem SO_s_l01Plus : SumsOK Try.prog S_s_l01Plus := ⟨tblS_ok ⟨⟨Try.call62, sound_s_l01Mod⟩, True.intro⟩, tblM_ok True.intro⟩
def Fo_s_l01Plus (p : Int) (a : Int × Int) (b : Int × Int) : Option (Int × Int) :=
  (if (prB p) = true then (if (prB p) = true then some ((s_l01Mod (wI (a.1 + b.1)) p), (s_l01Mod (wI (a.2 + b.2)) p)) else none) else none)
theorem eq_s_l01Plus (p : Int) (a : Int × Int) (b : Int × Int) : execT Try.prog S_s_l01Plus 136 22 (fun _ => 1000000) dec_a2 [.v (.int .i64 p), .v (.agg ⟨[.int .i64 a.1, .int .i64 a.2]⟩), .v (.agg ⟨[.int .i64 b.1, .int .i64 b.2]⟩)] = Fo_s_l01Plus p a b := by
  kernel_rfl
def s_l01Plus (p : Int) (a : Int × Int) (b : Int × Int) : Int × Int :=
  ((s_l01Mod (wrap64 (a.1 + b.1)) p), (s_l01Mod (wrap64 (a.2 + b.2)) p))
theorem tot_s_l01Plus (p : Int) (a : Int × Int) (b : Int × Int) (hp : (prB p) = true) : Fo_s_l01Plus p a b = some (s_l01Plus p a b) := by
  try have h0 := prB_ne hp
  unfold Fo_s_l01Plus s_l01Plus
  (try simp only [wI_eq])
  repeat' (first | with_reducible rfl | with_reducible refine chk_opt hp ?_ | with_reducible refine chk_opt h0 ?_ | refine chk_opt (and_all hp fun _ => hp) ?_ | refine chk_opt (and_all hp fun _ => rfl) ?_ | refine ite_opt (fun _ => ?_) (fun _ => ?_) | rfl)
def run_s_l01Plus : List PV → Option (Bool × List TR)
  | [.v (.int .i64 p), .v (.agg ⟨[.int .i64 a0, .int .i64 a1]⟩), .v (.agg ⟨[.int .i64 b0, .int .i64 b1]⟩)] => some (prB p, enc_a2 (s_l01Plus p (a0, a1) (b0, b1)))
  | _ => none
theorem sound_s_l01Plus : Sound Try.prog 136 run_s_l01Plus := by
  refine sound_of de_a2 SO_s_l01Plus (by kernel_rfl) Try.func136 Try.ntmps136 rfl (by kernel_rfl) ?_
  intro W pvs avs rs hargs hrun
  unfold run_s_l01Plus at hrun
  split at hrun
  · simp only [Option.some.injEq, Prod.mk.injEq] at hrun
    obtain ⟨hp, rfl⟩ := hrun
    rename_i p a0 a1 b0 b1
    exact ⟨_, _, _, hargs, rfl, (eq_s_l01Plus p (a0, a1) (b0, b1)).trans (tot_s_l01Plus p (a0, a1) (b0, b1) hp)⟩
  · cases hrun

def S_s_l01Times : Sums := ⟨tblS [(62, run_s_l01Mod)], tblM []⟩
theorem SO_s_l01Times : SumsOK Try.prog S_s_l01Times := ⟨tblS_ok ⟨⟨Try.call62, sound_s_l01Mod⟩, True.intro⟩, tblM_ok True.intro⟩
def Fo_s_l01Times (p : Int) (t : Int) (a : Int × Int) : Option (Int × Int) :=
  (if (prB p) = true then (if (prB p) = true then some ((s_l01Mod (wI (t * a.1)) p), (s_l01Mod (wI (t * a.2)) p)) else none) else none)
theorem eq_s_l01Times (p : Int) (t : Int) (a : Int × Int) : execT Try.prog S_s_l01Times 135 20 (fun _ => 1000000) dec_a2 [.v (.int .i64 p), .v (.int .i64 t), .v (.agg ⟨[.int .i64 a.1, .int .i64 a.2]⟩)] = Fo_s_l01Times p t a := by
  kernel_rfl
def s_l01Times (p : Int) (t : Int) (a : Int × Int) : Int × Int :=
  ((s_l01Mod (wrap64 (t * a.1)) p), (s_l01Mod (wrap64 (t * a.2)) p))
theorem tot_s_l01Times (p : Int) (t : Int) (a : Int × Int) (hp : (prB p) = true) : Fo_s_l01Times p t a = some (s_l01Times p t a) := by
  try have h0 := prB_ne hp
  unfold Fo_s_l01Times s_l01Times
  (try simp only [wI_eq])
  repeat' (first | with_reducible rfl | with_reducible refine chk_opt hp ?_ | with_reducible refine chk_opt h0 ?_ | refine chk_opt (and_all hp fun _ => hp) ?_ | refine chk_opt (and_all hp fun _ => rfl) ?_ | refine ite_opt (fun _ => ?_) (fun _ => ?_) | rfl)
def run_s_l01Times : List PV → Option (Bool × List TR)
  | [.v (.int .i64 p), .v (.int .i64 t), .v (.agg ⟨[.int .i64 a0, .int .i64 a1]⟩)] => some (prB p, enc_a2 (s_l01Times p t (a0, a1)))
  | _ => none
theorem sound_s_l01Times : Sound Try.prog 135 run_s_l01Times := by
  refine sound_of de_a2 SO_s_l01Times (by kernel_rfl) Try.func135 Try.ntmps135 rfl (by kernel_rfl) ?_
  intro W pvs avs rs hargs hrun
  unfold run_s_l01Times at hrun
  split at hrun
  · simp only [Option.some.injEq, Prod.mk.injEq] at hrun
    obtain ⟨hp, rfl⟩ := hrun
    rename_i p t a0 a1
    exact ⟨_, _, _, hargs, rfl, (eq_s_l01Times p t (a0, a1)).trans (tot_s_l01Times p t (a0, a1) hp)⟩
  · cases hrun

def S_s_l01Middle : Sums := ⟨tblS [(136, run_s_l01Plus), (135, run_s_l01Times)], tblM []⟩
theorem SO_s_l01Middle : SumsOK Try.prog S_s_l01Middle := ⟨tblS_ok ⟨⟨Try.call136, sound_s_l01Plus⟩, ⟨Try.call135, sound_s_l01Times⟩, True.intro⟩, tblM_ok True.intro⟩
def Fo_s_l01Middle (p : Int) (a : Int × Int) (b : Int × Int) : Option (Int × Int) :=
  (if (prB p) = true then (if (prB p) = true then some (s_l01Times p (wI ((wI (p + 1)).tdiv 2)) (s_l01Plus p a b)) else none) else none)
theorem eq_s_l01Middle (p : Int) (a : Int × Int) (b : Int × Int) : execT Try.prog S_s_l01Middle 111 16 (fun _ => 1000000) dec_a2 [.v (.int .i64 p), .v (.agg ⟨[.int .i64 a.1, .int .i64 a.2]⟩), .v (.agg ⟨[.int .i64 b.1, .int .i64 b.2]⟩)] = Fo_s_l01Middle p a b := by
  kernel_rfl
def s_l01Middle (p : Int) (a : Int × Int) (b : Int × Int) : Int × Int :=
  (s_l01Times p (wrap64 ((wrap64 (p + 1)).tdiv 2)) (s_l01Plus p a b))
theorem tot_s_l01Middle (p : Int) (a : Int × Int) (b : Int × Int) (hp : (prB p) = true) : Fo_s_l01Middle p a b = some (s_l01Middle p a b) := by
  try have h0 := prB_ne hp
  unfold Fo_s_l01Middle s_l01Middle
  (try simp only [wI_eq])
  repeat' (first | with_reducible rfl | with_reducible refine chk_opt hp ?_ | with_reducible refine chk_opt h0 ?_ | refine chk_opt (and_all hp fun _ => hp) ?_ | refine chk_opt (and_all hp fun _ => rfl) ?_ | refine ite_opt (fun _ => ?_) (fun _ => ?_) | rfl)
def run_s_l01Middle : List PV → Option (Bool × List TR)
  | [.v (.int .i64 p), .v (.agg ⟨[.int .i64 a0, .int .i64 a1]⟩), .v (.agg ⟨[.int .i64 b0, .int .i64 b1]⟩)] => some (prB p, enc_a2 (s_l01Middle p (a0, a1) (b0, b1)))
  | _ => none
theorem sound_s_l01Middle : Sound Try.prog 111 run_s_l01Middle := by
  refine sound_of de_a2 SO_s_l01Middle (by kernel_rfl) Try.func111 Try.ntmps111 rfl (by kernel_rfl) ?_
  intro W pvs avs rs hargs hrun
  unfold run_s_l01Middle at hrun
  split at hrun
  · simp only [Option.some.injEq, Prod.mk.injEq] at hrun
    obtain ⟨hp, rfl⟩ := hrun
    rename_i p a0 a1 b0 b1
    exact ⟨_, _, _, hargs, rfl, (eq_s_l01Middle p (a0, a1) (b0, b1)).trans (tot_s_l01Middle p (a0, a1) (b0, b1) hp)⟩
  · cases hrun

def S_s_l02Foot : Sums := ⟨tblS [(114, run_s_l02Direction), (109, run_s_l02Through), (98, run_s_l01Meet)], tblM []⟩
theorem SO_s_l02Foot : SumsOK Try.prog S_s_l02Foot := ⟨tblS_ok ⟨⟨Try.call114, sound_s_l02Direction⟩, ⟨Try.call109, sound_s_l02Through⟩, ⟨Try.call98, sound_s_l01Meet⟩, True.intro⟩, tblM_ok True.intro⟩
def Fo_s_l02Foot (p : Int) (colour : Int) (a : Int × Int) (l : Int × Int × Int) : Option ((Int × Int) × Bool) :=
  (if (prB p) = true then (if (prB p) = true then (if (prB p) = true then some (((s_l01Meet p l (s_l02Through p colour (s_l02Direction p l) a)).1), (s_l01Meet p l (s_l02Through p colour (s_l02Direction p l) a)).2) else none) else none) else none)
theorem eq_s_l02Foot (p : Int) (colour : Int) (a : Int × Int) (l : Int × Int × Int) : execT Try.prog S_s_l02Foot 46 22 (fun _ => 1000000) dec_a2_b [.v (.int .i64 p), .v (.int .i64 colour), .v (.agg ⟨[.int .i64 a.1, .int .i64 a.2]⟩), .v (.agg ⟨[.int .i64 l.1, .int .i64 l.2.1, .int .i64 l.2.2]⟩)] = Fo_s_l02Foot p colour a l := by
  kernel_rfl
def s_l02Foot (p : Int) (colour : Int) (a : Int × Int) (l : Int × Int × Int) : (Int × Int) × Bool :=
  (((s_l01Meet p l (s_l02Through p colour (s_l02Direction p l) a)).1), (s_l01Meet p l (s_l02Through p colour (s_l02Direction p l) a)).2)
theorem tot_s_l02Foot (p : Int) (colour : Int) (a : Int × Int) (l : Int × Int × Int) (hp : (prB p) = true) : Fo_s_l02Foot p colour a l = some (s_l02Foot p colour a l) := by
  try have h0 := prB_ne hp
  unfold Fo_s_l02Foot s_l02Foot
  (try simp only [wI_eq])
  repeat' (first | with_reducible rfl | with_reducible refine chk_opt hp ?_ | with_reducible refine chk_opt h0 ?_ | refine chk_opt (and_all hp fun _ => hp) ?_ | refine chk_opt (and_all hp fun _ => rfl) ?_ | refine ite_opt (fun _ => ?_) (fun _ => ?_) | rfl)
def run_s_l02Foot : List PV → Option (Bool × List TR)
  | [.v (.int .i64 p), .v (.int .i64 colour), .v (.agg ⟨[.int .i64 a0, .int .i64 a1]⟩), .v (.agg ⟨[.int .i64 l0, .int .i64 l1, .int .i64 l2]⟩)] => some (prB p, enc_a2_b (s_l02Foot p colour (a0, a1) (l0, l1, l2)))
  | _ => none
theorem sound_s_l02Foot : Sound Try.prog 46 run_s_l02Foot := by
  refine sound_of de_a2_b SO_s_l02Foot (by kernel_rfl) Try.func46 Try.ntmps46 rfl (by kernel_rfl) ?_
  intro W pvs avs rs hargs hrun
  unfold run_s_l02Foot at hrun
  split at hrun
  · simp only [Option.some.injEq, Prod.mk.injEq] at hrun
    obtain ⟨hp, rfl⟩ := hrun
    rename_i p colour a0 a1 l0 l1 l2
    exact ⟨_, _, _, hargs, rfl, (eq_s_l02Foot p colour (a0, a1) (l0, l1, l2)).trans (tot_s_l02Foot p colour (a0, a1) (l0, l1, l2) hp)⟩
  · cases hrun

def S_s_l04Orthocentre : Sums := ⟨tblS [(108, run_s_l04Altitude), (98, run_s_l01Meet)], tblM []⟩
theorem SO_s_l04Orthocentre : SumsOK Try.prog S_s_l04Orthocentre := ⟨tblS_ok ⟨⟨Try.call108, sound_s_l04Altitude⟩, ⟨Try.call98, sound_s_l01Meet⟩, True.intro⟩, tblM_ok True.intro⟩
def Fo_s_l04Orthocentre (p : Int) (colour : Int) (a : Int × Int) (b : Int × Int) (c : Int × Int) : Option (Int × Int) :=
  (if (prB p) = true then (if (prB p) = true then (if (prB p) = true then some ((s_l01Meet p (s_l04Altitude p colour a b c) (s_l04Altitude p colour b a c)).1) else none) else none) else none)
theorem eq_s_l04Orthocentre (p : Int) (colour : Int) (a : Int × Int) (b : Int × Int) (c : Int × Int) : execT Try.prog S_s_l04Orthocentre 41 31 (fun _ => 1000000) dec_a2 [.v (.int .i64 p), .v (.int .i64 colour), .v (.agg ⟨[.int .i64 a.1, .int .i64 a.2]⟩), .v (.agg ⟨[.int .i64 b.1, .int .i64 b.2]⟩), .v (.agg ⟨[.int .i64 c.1, .int .i64 c.2]⟩)] = Fo_s_l04Orthocentre p colour a b c := by
  kernel_rfl
def s_l04Orthocentre (p : Int) (colour : Int) (a : Int × Int) (b : Int × Int) (c : Int × Int) : Int × Int :=
  ((s_l01Meet p (s_l04Altitude p colour a b c) (s_l04Altitude p colour b a c)).1)
theorem tot_s_l04Orthocentre (p : Int) (colour : Int) (a : Int × Int) (b : Int × Int) (c : Int × Int) (hp : (prB p) = true) : Fo_s_l04Orthocentre p colour a b c = some (s_l04Orthocentre p colour a b c) := by
  try have h0 := prB_ne hp
  unfold Fo_s_l04Orthocentre s_l04Orthocentre
  (try simp only [wI_eq])
  repeat' (first | with_reducible rfl | with_reducible refine chk_opt hp ?_ | with_reducible refine chk_opt h0 ?_ | refine chk_opt (and_all hp fun _ => hp) ?_ | refine chk_opt (and_all hp fun _ => rfl) ?_ | refine ite_opt (fun _ => ?_) (fun _ => ?_) | rfl)
def run_s_l04Orthocentre : List PV → Option (Bool × List TR)
  | [.v (.int .i64 p), .v (.int .i64 colour), .v (.agg ⟨[.int .i64 a0, .int .i64 a1]⟩), .v (.agg ⟨[.int .i64 b0, .int .i64 b1]⟩), .v (.agg ⟨[.int .i64 c0, .int .i64 c1]⟩)] => some (prB p, enc_a2 (s_l04Orthocentre p colour (a0, a1) (b0, b1) (c0, c1)))
  | _ => none
theorem sound_s_l04Orthocentre : Sound Try.prog 41 run_s_l04Orthocentre := by
  refine sound_of de_a2 SO_s_l04Orthocentre (by kernel_rfl) Try.func41 Try.ntmps41 rfl (by kernel_rfl) ?_
  intro W pvs avs rs hargs hrun
  unfold run_s_l04Orthocentre at hrun
  split at hrun
  · simp only [Option.some.injEq, Prod.mk.injEq] at hrun
    obtain ⟨hp, rfl⟩ := hrun
    rename_i p colour a0 a1 b0 b1 c0 c1
    exact ⟨_, _, _, hargs, rfl, (eq_s_l04Orthocentre p colour (a0, a1) (b0, b1) (c0, c1)).trans (tot_s_l04Orthocentre p colour (a0, a1) (b0, b1) (c0, c1) hp)⟩
  · cases hrun

def S_s_l04Circumcentre : Sums := ⟨tblS [(110, run_s_l01Minus), (111, run_s_l01Middle), (109, run_s_l02Through), (98, run_s_l01Meet)], tblM []⟩
theorem SO_s_l04Circumcentre : SumsOK Try.prog S_s_l04Circumcentre := ⟨tblS_ok ⟨⟨Try.call110, sound_s_l01Minus⟩, ⟨Try.call111, sound_s_l01Middle⟩, ⟨Try.call109, sound_s_l02Through⟩, ⟨Try.call98, sound_s_l01Meet⟩, True.intro⟩, tblM_ok True.intro⟩
def Fo_s_l04Circumcentre (p : Int) (colour : Int) (a : Int × Int) (b : Int × Int) (c : Int × Int) : Option (Int × Int) :=
  (if (prB p) = true then (if (prB p) = true then (if (prB p) = true then (if (prB p) = true then (if (prB p) = true then (if (prB p) = true then (if (prB p) = true then some ((s_l01Meet p (s_l02Through p colour (s_l01Minus p a b) (s_l01Middle p a b)) (s_l02Through p colour (s_l01Minus p a c) (s_l01Middle p a c))).1) else none) else none) else none) else none) else none) else none) else none)
theorem eq_s_l04Circumcentre (p : Int) (colour : Int) (a : Int × Int) (b : Int × Int) (c : Int × Int) : execT Try.prog S_s_l04Circumcentre 42 45 (fun _ => 1000000) dec_a2 [.v (.int .i64 p), .v (.int .i64 colour), .v (.agg ⟨[.int .i64 a.1, .int .i64 a.2]⟩), .v (.agg ⟨[.int .i64 b.1, .int .i64 b.2]⟩), .v (.agg ⟨[.int .i64 c.1, .int .i64 c.2]⟩)] = Fo_s_l04Circumcentre p colour a b c := by
  kernel_rfl
def s_l04Circumcentre (p : Int) (colour : Int) (a : Int × Int) (b : Int × Int) (c : Int × Int) : Int × Int :=
  ((s_l01Meet p (s_l02Through p colour (s_l01Minus p a b) (s_l01Middle p a b)) (s_l02Through p colour (s_l01Minus p a c) (s_l01Middle p a c))).1)
theorem tot_s_l04Circumcentre (p : Int) (colour : Int) (a : Int × Int) (b : Int × Int) (c : Int × Int) (hp : (prB p) = true) : Fo_s_l04Circumcentre p colour a b c = some (s_l04Circumcentre p colour a b c) := by
  try have h0 := prB_ne hp
  unfold Fo_s_l04Circumcentre s_l04Circumcentre
  (try simp only [wI_eq])
  repeat' (first | with_reducible rfl | with_reducible refine chk_opt hp ?_ | with_reducible refine chk_opt h0 ?_ | refine chk_opt (and_all hp fun _ => hp) ?_ | refine chk_opt (and_all hp fun _ => rfl) ?_ | refine ite_opt (fun _ => ?_) (fun _ => ?_) | rfl)
def run_s_l04Circumcentre : List PV → Option (Bool × List TR)
  | [.v (.int .i64 p), .v (.int .i64 colour), .v (.agg ⟨[.int .i64 a0, .int .i64 a1]⟩), .v (.agg ⟨[.int .i64 b0, .int .i64 b1]⟩), .v (.agg ⟨[.int .i64 c0, .int .i64 c1]⟩)] => some (prB p, enc_a2 (s_l04Circumcentre p colour (a0, a1) (b0, b1) (c0, c1)))
  | _ => none
theorem sound_s_l04Circumcentre : Sound Try.prog 42 run_s_l04Circumcentre := by
  refine sound_of de_a2 SO_s_l04Circumcentre (by kernel_rfl) Try.func42 Try.ntmps42 rfl (by kernel_rfl) ?_
  intro W pvs avs rs hargs hrun
  unfold run_s_l04Circumcentre at hrun
  split at hrun
  · simp only [Option.some.injEq, Prod.mk.injEq] at hrun
    obtain ⟨hp, rfl⟩ := hrun
    rename_i p colour a0 a1 b0 b1 c0 c1
    exact ⟨_, _, _, hargs, rfl, (eq_s_l04Circumcentre p colour (a0, a1) (b0, b1) (c0, c1)).trans (tot_s_l04Circumcentre p colour (a0, a1) (b0, b1) (c0, c1) hp)⟩
  · cases hrun

def S_s_l01Through : Sums := ⟨tblS [(112, run_s_l01Normal)], tblM []⟩
theorem SO_s_l01Through : SumsOK Try.prog S_s_l01Through := ⟨tblS_ok ⟨⟨Try.call112, sound_s_l01Normal⟩, True.intro⟩, tblM_ok True.intro⟩
def Fo_s_l01Through (p : Int) (a : Int × Int) (b : Int × Int) : Option (Int × Int × Int) :=
  (if (prB p) = true then some (s_l01Normal p (wI (a.2 - b.2)) (wI (b.1 - a.1)) (wI ((wI (a.1 * b.2)) - (wI (b.1 * a.2))))) else none)
theorem eq_s_l01Through (p : Int) (a : Int × Int) (b : Int × Int) : execT Try.prog S_s_l01Through 43 30 (fun _ => 1000000) dec_a3 [.v (.int .i64 p), .v (.agg ⟨[.int .i64 a.1, .int .i64 a.2]⟩), .v (.agg ⟨[.int .i64 b.1, .int .i64 b.2]⟩)] = Fo_s_l01Through p a b := by
  kernel_rfl
def s_l01Through (p : Int) (a : Int × Int) (b : Int × Int) : Int × Int × Int :=
  (s_l01Normal p (wrap64 (a.2 - b.2)) (wrap64 (b.1 - a.1)) (wrap64 ((wrap64 (a.1 * b.2)) - (wrap64 (b.1 * a.2)))))
theorem tot_s_l01Through (p : Int) (a : Int × Int) (b : Int × Int) (hp : (prB p) = true) : Fo_s_l01Through p a b = some (s_l01Through p a b) := by
  try have h0 := prB_ne hp
  unfold Fo_s_l01Through s_l01Through
  (try simp only [wI_eq])
  repeat' (first | with_reducible rfl | with_reducible refine chk_opt hp ?_ | with_reducible refine chk_opt h0 ?_ | refine chk_opt (and_all hp fun _ => hp) ?_ | refine chk_opt (and_all hp fun _ => rfl) ?_ | refine ite_opt (fun _ => ?_) (fun _ => ?_) | rfl)
def run_s_l01Through : List PV → Option (Bool × List TR)
  | [.v (.int .i64 p), .v (.agg ⟨[.int .i64 a0, .int .i64 a1]⟩), .v (.agg ⟨[.int .i64 b0, .int .i64 b1]⟩)] => some (prB p, enc_a3 (s_l01Through p (a0, a1) (b0, b1)))
  | _ => none
theorem sound_s_l01Through : Sound Try.prog 43 run_s_l01Through := by
  refine sound_of de_a3 SO_s_l01Through (by kernel_rfl) Try.func43 Try.ntmps43 rfl (by kernel_rfl) ?_
  intro W pvs avs rs hargs hrun
  unfold run_s_l01Through at hrun
  split at hrun
  · simp only [Option.some.injEq, Prod.mk.injEq] at hrun
    obtain ⟨hp, rfl⟩ := hrun
    rename_i p a0 a1 b0 b1
    exact ⟨_, _, _, hargs, rfl, (eq_s_l01Through p (a0, a1) (b0, b1)).trans (tot_s_l01Through p (a0, a1) (b0, b1) hp)⟩
  · cases hrun


end

end Go.Proofs.Ytpffcfiojjgnlaa
