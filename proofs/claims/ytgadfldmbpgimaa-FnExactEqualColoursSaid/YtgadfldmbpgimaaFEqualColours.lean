import Derived.Test.YtgadfldmbpgimaaFa
import Derived.Test.YtgadfldmbpgimaaProg
set_option linter.unusedSimpArgs false
set_option linter.unusedVariables false
namespace Go.Proofs.Ytgadfldmbpgimaa
open Go.RowKit
def dec_l2_1_i : List TR → Option ((Nat × List Int) × Int)
  | [.s 2 1 n0 (.ints x0), .v (.int .i64 x1)] => some ((n0, x0), x1)
  | _ => none
def enc_l2_1_i : (Nat × List Int) × Int → List TR
  | ((n0, x0), x1) => [.s 2 1 n0 (.ints x0), .v (.int .i64 x1)]
theorem de_l2_1_i (rs : List TR) (x : (Nat × List Int) × Int) (h : dec_l2_1_i rs = some x) : rs = enc_l2_1_i x := by
  unfold dec_l2_1_i at h
  split at h
  · simp only [Option.some.injEq] at h
    subst h
    rfl
  · cases h
def dec_l2_1 : List TR → Option (Nat × List Int)
  | [.s 2 1 n0 (.ints x0)] => some (n0, x0)
  | _ => none
def enc_l2_1 : Nat × List Int → List TR
  | (n0, x0) => [.s 2 1 n0 (.ints x0)]
theorem de_l2_1 (rs : List TR) (x : Nat × List Int) (h : dec_l2_1 rs = some x) : rs = enc_l2_1 x := by
  unfold dec_l2_1 at h
  split at h
  · simp only [Option.some.injEq] at h
    subst h
    rfl
  · cases h
def clo_a2_b (k : (Int × Int) → Bool) (h : (Int × Int) → Bool) : List Value → Option (Bool × Value)
  | [.agg ⟨[.int .i64 a0_0, .int .i64 a0_1]⟩] => some (k (a0_0, a0_1), .bool (h (a0_0, a0_1)))
  | _ => none
theorem clo_a2_b_ok (g : List Value → Option (Bool × Value)) : ∀ args r, clo_a2_b (fun a0 => okV (g [.agg ⟨[.int .i64 a0.1, .int .i64 a0.2]⟩])) (fun a0 => boolV (g [.agg ⟨[.int .i64 a0.1, .int .i64 a0.2]⟩])) args = some (true, r) → g args = some (true, r) := by
  intro args r h
  unfold clo_a2_b at h
  split at h
  · simp only [Option.some.injEq, Prod.mk.injEq] at h
    obtain ⟨h1, rfl⟩ := h
    exact okV_some h1
  · cases h
def clo_i_b (k : Int → Bool) (h : Int → Bool) : List Value → Option (Bool × Value)
  | [.int .i64 a0] => some (k a0, .bool (h a0))
  | _ => none
theorem clo_i_b_ok (g : List Value → Option (Bool × Value)) : ∀ args r, clo_i_b (fun a0 => okV (g [.int .i64 a0])) (fun a0 => boolV (g [.int .i64 a0])) args = some (true, r) → g args = some (true, r) := by
  intro args r h
  unfold clo_i_b at h
  split at h
  · simp only [Option.some.injEq, Prod.mk.injEq] at h
    obtain ⟨h1, rfl⟩ := h
    exact okV_some h1
  · cases h
def S_i_EqualColours_c1 : Sums := ⟨tblS [(52, run_i_arePoints)], tblM []⟩
theorem SO_i_EqualColours_c1 : SumsOK Try.prog S_i_EqualColours_c1 := ⟨tblS_ok ⟨⟨Try.call52, sound_i_arePoints⟩, True.intro⟩, tblM_ok True.intro⟩
def Fo_i_EqualColours_c1 (c0 : Int) (c1 : Int × Int) (c2 : Int × Int) (c3 : Int × Int) : Option (Bool) :=
  some (i_arePoints c0 [c1, c2, c3])
theorem eq_i_EqualColours_c1 (c0 : Int) (c1 : Int × Int) (c2 : Int × Int) (c3 : Int × Int) : execT Try.prog S_i_EqualColours_c1 66 11 1000000 dec_b [.p [.int .i64 c0], .p [.int .i64 c1.1, .int .i64 c1.2], .p [.int .i64 c2.1, .int .i64 c2.2], .p [.int .i64 c3.1, .int .i64 c3.2]] = Fo_i_EqualColours_c1 c0 c1 c2 c3 := by
  kernel_rfl
def i_EqualColours_c1 (c0 : Int) (c1 : Int × Int) (c2 : Int × Int) (c3 : Int × Int) : Bool :=
  (i_arePoints c0 [c1, c2, c3])
theorem tot_i_EqualColours_c1 (c0 : Int) (c1 : Int × Int) (c2 : Int × Int) (c3 : Int × Int) : Fo_i_EqualColours_c1 c0 c1 c2 c3 = some (i_EqualColours_c1 c0 c1 c2 c3) := by
  unfold Fo_i_EqualColours_c1 i_EqualColours_c1
  (try simp only [wI_eq])
  repeat' (first | with_reducible rfl | refine ite_opt (fun _ => ?_) (fun _ => ?_) | rfl)
def run_i_EqualColours_c1 : List PV → Option (Bool × List TR)
  | [.p [.int .i64 c0], .p [.int .i64 c10, .int .i64 c11], .p [.int .i64 c20, .int .i64 c21], .p [.int .i64 c30, .int .i64 c31]] => some (true, enc_b (i_EqualColours_c1 c0 (c10, c11) (c20, c21) (c30, c31)))
  | _ => none
theorem sound_i_EqualColours_c1 : Sound Try.prog 66 run_i_EqualColours_c1 := by
  refine sound_of de_b SO_i_EqualColours_c1 (by kernel_rfl) Try.func66 Try.ntmps66 rfl (by kernel_rfl) ?_
  intro W pvs avs rs hargs hrun
  unfold run_i_EqualColours_c1 at hrun
  split at hrun
  · simp only [Option.some.injEq, Prod.mk.injEq] at hrun
    obtain ⟨hp, rfl⟩ := hrun
    rename_i c0 c10 c11 c20 c21 c30 c31
    exact ⟨_, _, _, hargs, rfl, (eq_i_EqualColours_c1 c0 (c10, c11) (c20, c21) (c30, c31)).trans (tot_i_EqualColours_c1 c0 (c10, c11) (c20, c21) (c30, c31))⟩
  · cases hrun

def S_i_EqualColours_c2 : Sums := ⟨tblS [(53, run_i_quadrance)], tblM []⟩
theorem SO_i_EqualColours_c2 : SumsOK Try.prog S_i_EqualColours_c2 := ⟨tblS_ok ⟨⟨Try.call53, sound_i_quadrance⟩, True.intro⟩, tblM_ok True.intro⟩
def Fo_i_EqualColours_c2 (colour : Int) (c0 : Int) (c1 : Int × Int) (c2 : Int × Int) (c3 : Int × Int) : Option (Bool) :=
  (if (prB c0) = true then (if (prB c0) = true then some ((i_quadrance c0 colour c1 c2) == (i_quadrance c0 colour c1 c3)) else none) else none)
theorem eq_i_EqualColours_c2 (colour : Int) (c0 : Int) (c1 : Int × Int) (c2 : Int × Int) (c3 : Int × Int) : execT Try.prog S_i_EqualColours_c2 67 18 1000000 dec_b [.v (.int .i64 colour), .p [.int .i64 c0], .p [.int .i64 c1.1, .int .i64 c1.2], .p [.int .i64 c2.1, .int .i64 c2.2], .p [.int .i64 c3.1, .int .i64 c3.2]] = Fo_i_EqualColours_c2 colour c0 c1 c2 c3 := by
  kernel_rfl
def i_EqualColours_c2 (colour : Int) (c0 : Int) (c1 : Int × Int) (c2 : Int × Int) (c3 : Int × Int) : Bool :=
  (i_quadrance c0 colour c1 c2) == (i_quadrance c0 colour c1 c3)
theorem tot_i_EqualColours_c2 (colour : Int) (c0 : Int) (c1 : Int × Int) (c2 : Int × Int) (c3 : Int × Int) (hp : (prB c0) = true) : Fo_i_EqualColours_c2 colour c0 c1 c2 c3 = some (i_EqualColours_c2 colour c0 c1 c2 c3) := by
  try have h0 := prB_ne hp
  unfold Fo_i_EqualColours_c2 i_EqualColours_c2
  (try simp only [wI_eq])
  repeat' (first | with_reducible rfl | with_reducible refine chk_opt hp ?_ | with_reducible refine chk_opt h0 ?_ | refine chk_opt (and_all hp fun _ => hp) ?_ | refine chk_opt (and_all hp fun _ => rfl) ?_ | refine ite_opt (fun _ => ?_) (fun _ => ?_) | rfl)
def run_i_EqualColours_c2 : List PV → Option (Bool × List TR)
  | [.v (.int .i64 colour), .p [.int .i64 c0], .p [.int .i64 c10, .int .i64 c11], .p [.int .i64 c20, .int .i64 c21], .p [.int .i64 c30, .int .i64 c31]] => some (prB c0, enc_b (i_EqualColours_c2 colour c0 (c10, c11) (c20, c21) (c30, c31)))
  | _ => none
theorem sound_i_EqualColours_c2 : Sound Try.prog 67 run_i_EqualColours_c2 := by
  refine sound_of de_b SO_i_EqualColours_c2 (by kernel_rfl) Try.func67 Try.ntmps67 rfl (by kernel_rfl) ?_
  intro W pvs avs rs hargs hrun
  unfold run_i_EqualColours_c2 at hrun
  split at hrun
  · simp only [Option.some.injEq, Prod.mk.injEq] at hrun
    obtain ⟨hp, rfl⟩ := hrun
    rename_i colour c0 c10 c11 c20 c21 c30 c31
    exact ⟨_, _, _, hargs, rfl, (eq_i_EqualColours_c2 colour c0 (c10, c11) (c20, c21) (c30, c31)).trans (tot_i_EqualColours_c2 colour c0 (c10, c11) (c20, c21) (c30, c31) hp)⟩
  · cases hrun

def S_i_coloursWith : Sums := ⟨tblS [], tblM []⟩
theorem SO_i_coloursWith : SumsOK Try.prog S_i_coloursWith := ⟨tblS_ok True.intro, tblM_ok True.intro⟩
def Fo_i_coloursWith (holdsk : Int → Bool) (holdsh : Int → Bool) : Option (Nat × List Int) :=
  (if (holdsk 0) = true then (if (holdsh 0) = true then (if (holdsk 1) = true then (if (holdsh 1) = true then (if (holdsk 2) = true then (if (holdsh 2) = true then some (3, [0, 1, 2]) else some (2, [0, 1])) else none) else (if (holdsk 2) = true then (if (holdsh 2) = true then some (2, [0, 2]) else some (1, [0])) else none)) else none) else (if (holdsk 1) = true then (if (holdsh 1) = true then (if (holdsk 2) = true then (if (holdsh 2) = true then some (2, [1, 2]) else some (1, [1])) else none) else (if (holdsk 2) = true then (if (holdsh 2) = true then some (1, [2]) else some (0, [])) else none)) else none)) else none)
theorem eq_i_coloursWith (holdsk : Int → Bool) (holdsh : Int → Bool) : execT Try.prog S_i_coloursWith 57 18 1000000 dec_l2_1 [.f (clo_i_b holdsk holdsh)] = Fo_i_coloursWith holdsk holdsh := by
  kernel_rfl
def i_coloursWith (holdsk : Int → Bool) (holdsh : Int → Bool) : Nat × List Int :=
  (if (holdsh 0) = true then (if (holdsh 1) = true then (if (holdsh 2) = true then (3, [0, 1, 2]) else (2, [0, 1])) else (if (holdsh 2) = true then (2, [0, 2]) else (1, [0]))) else (if (holdsh 1) = true then (if (holdsh 2) = true then (2, [1, 2]) else (1, [1])) else (if (holdsh 2) = true then (1, [2]) else (0, []))))
theorem tot_i_coloursWith (holdsk : Int → Bool) (holdsh : Int → Bool) (hp : (holdsk 0 && holdsk 1 && holdsk 2) = true) : Fo_i_coloursWith holdsk holdsh = some (i_coloursWith holdsk holdsh) := by
  simp only [Bool.and_eq_true] at hp
  obtain ⟨⟨h0, h1⟩, h2⟩ := hp
  unfold Fo_i_coloursWith i_coloursWith
  simp only [h0, h1, h2, if_true]
  repeat' split
  all_goals rfl
def run_i_coloursWith : List PV → Option (Bool × List TR)
  | [.f holdsg] => some ((fun a0 => okV (holdsg [.int .i64 a0])) 0 && (fun a0 => okV (holdsg [.int .i64 a0])) 1 && (fun a0 => okV (holdsg [.int .i64 a0])) 2, enc_l2_1 (i_coloursWith (fun a0 => okV (holdsg [.int .i64 a0])) (fun a0 => boolV (holdsg [.int .i64 a0]))))
  | _ => none
theorem sound_i_coloursWith : Sound Try.prog 57 run_i_coloursWith := by
  refine sound_of de_l2_1 SO_i_coloursWith (by kernel_rfl) Try.func57 Try.ntmps57 rfl (by kernel_rfl) ?_
  intro W pvs avs rs hargs hrun
  unfold run_i_coloursWith at hrun
  split at hrun
  · simp only [Option.some.injEq, Prod.mk.injEq] at hrun
    obtain ⟨hp, rfl⟩ := hrun
    rename_i holdsg
    have hargs := All2.replace (l1 := []) hargs (y := .f (clo_i_b _ _)) fun b hb => fn_weaken hb (clo_i_b_ok _)
    exact ⟨_, _, _, hargs, rfl, (eq_i_coloursWith (fun a0 => okV (holdsg [.int .i64 a0])) (fun a0 => boolV (holdsg [.int .i64 a0]))).trans (tot_i_coloursWith (fun a0 => okV (holdsg [.int .i64 a0])) (fun a0 => boolV (holdsg [.int .i64 a0])) hp)⟩
  · cases hrun

def S_i_EqualColours : Sums := ⟨tblS [(50, run_i_asked), (66, run_i_EqualColours_c1), (57, run_i_coloursWith), (67, run_i_EqualColours_c2)], tblM []⟩
theorem SO_i_EqualColours : SumsOK Try.prog S_i_EqualColours := ⟨tblS_ok ⟨⟨Try.call50, sound_i_asked⟩, ⟨Try.call66, sound_i_EqualColours_c1⟩, ⟨Try.call57, sound_i_coloursWith⟩, ⟨Try.call67, sound_i_EqualColours_c2⟩, True.intro⟩, tblM_ok True.intro⟩
def Fo_i_EqualColours (p : Int) (a : Int × Int) (b : Int × Int) (c : Int × Int) : Option ((Nat × List Int) × Int) :=
  (if ((true) || !(i_IsField p)) = true then (if ((i_asked p (true) (i_EqualColours_c1 p a b c)) != 0) = true then some ((0, []), (i_asked p (true) (i_EqualColours_c1 p a b c))) else (if ((fun a0 => prB p) 0 && (fun a0 => prB p) 1 && (fun a0 => prB p) 2) = true then some (((i_coloursWith (fun a0 => prB p) (fun a0 => i_EqualColours_c2 a0 p a b c)).1, (i_coloursWith (fun a0 => prB p) (fun a0 => i_EqualColours_c2 a0 p a b c)).2), 0) else none)) else none)
theorem eq_i_EqualColours (p : Int) (a : Int × Int) (b : Int × Int) (c : Int × Int) : execT Try.prog S_i_EqualColours 27 19 1000000 dec_l2_1_i [.v (.int .i64 p), .v (.agg ⟨[.int .i64 a.1, .int .i64 a.2]⟩), .v (.agg ⟨[.int .i64 b.1, .int .i64 b.2]⟩), .v (.agg ⟨[.int .i64 c.1, .int .i64 c.2]⟩)] = Fo_i_EqualColours p a b c := by
  kernel_rfl
def i_EqualColours (p : Int) (a : Int × Int) (b : Int × Int) (c : Int × Int) : (Nat × List Int) × Int :=
  (if ((i_asked p (true) (i_EqualColours_c1 p a b c)) != 0) = true then ((0, []), (i_asked p (true) (i_EqualColours_c1 p a b c))) else (((i_coloursWith (fun a0 => prB p) (fun a0 => i_EqualColours_c2 a0 p a b c)).1, (i_coloursWith (fun a0 => prB p) (fun a0 => i_EqualColours_c2 a0 p a b c)).2), 0))
theorem tot_i_EqualColours (p : Int) (a : Int × Int) (b : Int × Int) (c : Int × Int) : Fo_i_EqualColours p a b c = some (i_EqualColours p a b c) := by
  unfold Fo_i_EqualColours i_EqualColours
  (try simp only [wI_eq])
  repeat' (first | with_reducible rfl | refine chk_opt (by first | with_reducible rfl | exact Bool.true_or _ | (with_reducible exact asked_prB ‹_›) | (with_reducible exact l09Code_prB ‹_›) | (with_reducible exact l01Code_prB ‹_›) | (with_reducible exact l01Numbers_prB ‹_›) | (with_reducible exact l01Lines_prB ‹_›) | (with_reducible exact asked_prB0 ‹_›) | (with_reducible exact l09Code_prB0 ‹_›) | (with_reducible exact l01Code_prB0 ‹_›) | (with_reducible exact l01Numbers_prB0 ‹_›) | (with_reducible exact l01Lines_prB0 ‹_›) | (with_reducible exact field_prB ‹_›) | (with_reducible exact field_prB0 ‹_›) | (with_reducible exact l08Code_prB ‹_›) | (with_reducible exact l08Code_prB0 ‹_›) | (with_reducible exact l08Given_prB ‹_›) | (with_reducible exact l08Given_prB0 ‹_›) | (with_reducible exact l02Code_prB ‹_›) | (with_reducible exact l02Code_prB0 ‹_›) | (with_reducible exact l04Code_prB ‹_›) | (with_reducible exact l04Code_prB0 ‹_›) | (with_reducible exact triangle_prB ‹_›) | (with_reducible exact triangle_prB0 ‹_›) | (with_reducible exact l01Both_prB ‹_›) | (with_reducible exact l01Both_prB0 ‹_›) | (with_reducible exact sfield_prB0 ‹_›) | exact mk_ok (by (first | (with_reducible assumption) | (with_reducible exact asked_prB ‹_›) | (with_reducible exact l09Code_prB ‹_›) | (with_reducible exact l01Code_prB ‹_›) | (with_reducible exact l01Numbers_prB ‹_›) | (with_reducible exact l01Lines_prB ‹_›) | (with_reducible exact asked_prB0 ‹_›) | (with_reducible exact l09Code_prB0 ‹_›) | (with_reducible exact l01Code_prB0 ‹_›) | (with_reducible exact l01Numbers_prB0 ‹_›) | (with_reducible exact l01Lines_prB0 ‹_›) | (with_reducible exact field_prB ‹_›) | (with_reducible exact field_prB0 ‹_›) | (with_reducible exact l08Code_prB ‹_›) | (with_reducible exact l08Code_prB0 ‹_›) | (with_reducible exact l08Given_prB ‹_›) | (with_reducible exact l08Given_prB0 ‹_›) | (with_reducible exact l02Code_prB ‹_›) | (with_reducible exact l02Code_prB0 ‹_›) | (with_reducible exact l04Code_prB ‹_›) | (with_reducible exact l04Code_prB0 ‹_›) | (with_reducible exact triangle_prB ‹_›) | (with_reducible exact triangle_prB0 ‹_›) | (with_reducible exact l01Both_prB ‹_›) | (with_reducible exact l01Both_prB0 ‹_›) | (with_reducible exact sfield_prB0 ‹_›))) | exact and_all (by (first | (with_reducible assumption) | (with_reducible exact asked_prB ‹_›) | (with_reducible exact l09Code_prB ‹_›) | (with_reducible exact l01Code_prB ‹_›) | (with_reducible exact l01Numbers_prB ‹_›) | (with_reducible exact l01Lines_prB ‹_›) | (with_reducible exact asked_prB0 ‹_›) | (with_reducible exact l09Code_prB0 ‹_›) | (with_reducible exact l01Code_prB0 ‹_›) | (with_reducible exact l01Numbers_prB0 ‹_›) | (with_reducible exact l01Lines_prB0 ‹_›) | (with_reducible exact field_prB ‹_›) | (with_reducible exact field_prB0 ‹_›) | (with_reducible exact l08Code_prB ‹_›) | (with_reducible exact l08Code_prB0 ‹_›) | (with_reducible exact l08Given_prB ‹_›) | (with_reducible exact l08Given_prB0 ‹_›) | (with_reducible exact l02Code_prB ‹_›) | (with_reducible exact l02Code_prB0 ‹_›) | (with_reducible exact l04Code_prB ‹_›) | (with_reducible exact l04Code_prB0 ‹_›) | (with_reducible exact triangle_prB ‹_›) | (with_reducible exact triangle_prB0 ‹_›) | (with_reducible exact l01Both_prB ‹_›) | (with_reducible exact l01Both_prB0 ‹_›) | (with_reducible exact sfield_prB0 ‹_›))) (fun _ => rfl) | exact and_all (by (first | (with_reducible assumption) | (with_reducible exact asked_prB ‹_›) | (with_reducible exact l09Code_prB ‹_›) | (with_reducible exact l01Code_prB ‹_›) | (with_reducible exact l01Numbers_prB ‹_›) | (with_reducible exact l01Lines_prB ‹_›) | (with_reducible exact asked_prB0 ‹_›) | (with_reducible exact l09Code_prB0 ‹_›) | (with_reducible exact l01Code_prB0 ‹_›) | (with_reducible exact l01Numbers_prB0 ‹_›) | (with_reducible exact l01Lines_prB0 ‹_›) | (with_reducible exact field_prB ‹_›) | (with_reducible exact field_prB0 ‹_›) | (with_reducible exact l08Code_prB ‹_›) | (with_reducible exact l08Code_prB0 ‹_›) | (with_reducible exact l08Given_prB ‹_›) | (with_reducible exact l08Given_prB0 ‹_›) | (with_reducible exact l02Code_prB ‹_›) | (with_reducible exact l02Code_prB0 ‹_›) | (with_reducible exact l04Code_prB ‹_›) | (with_reducible exact l04Code_prB0 ‹_›) | (with_reducible exact triangle_prB ‹_›) | (with_reducible exact triangle_prB0 ‹_›) | (with_reducible exact l01Both_prB ‹_›) | (with_reducible exact l01Both_prB0 ‹_›) | (with_reducible exact sfield_prB0 ‹_›))) (fun _ => by (first | (with_reducible assumption) | (with_reducible exact asked_prB ‹_›) | (with_reducible exact l09Code_prB ‹_›) | (with_reducible exact l01Code_prB ‹_›) | (with_reducible exact l01Numbers_prB ‹_›) | (with_reducible exact l01Lines_prB ‹_›) | (with_reducible exact asked_prB0 ‹_›) | (with_reducible exact l09Code_prB0 ‹_›) | (with_reducible exact l01Code_prB0 ‹_›) | (with_reducible exact l01Numbers_prB0 ‹_›) | (with_reducible exact l01Lines_prB0 ‹_›) | (with_reducible exact field_prB ‹_›) | (with_reducible exact field_prB0 ‹_›) | (with_reducible exact l08Code_prB ‹_›) | (with_reducible exact l08Code_prB0 ‹_›) | (with_reducible exact l08Given_prB ‹_›) | (with_reducible exact l08Given_prB0 ‹_›) | (with_reducible exact l02Code_prB ‹_›) | (with_reducible exact l02Code_prB0 ‹_›) | (with_reducible exact l04Code_prB ‹_›) | (with_reducible exact l04Code_prB0 ‹_›) | (with_reducible exact triangle_prB ‹_›) | (with_reducible exact triangle_prB0 ‹_›) | (with_reducible exact l01Both_prB ‹_›) | (with_reducible exact l01Both_prB0 ‹_›) | (with_reducible exact sfield_prB0 ‹_›))) | exact and3 (by (first | (with_reducible assumption) | (with_reducible exact asked_prB ‹_›) | (with_reducible exact l09Code_prB ‹_›) | (with_reducible exact l01Code_prB ‹_›) | (with_reducible exact l01Numbers_prB ‹_›) | (with_reducible exact l01Lines_prB ‹_›) | (with_reducible exact asked_prB0 ‹_›) | (with_reducible exact l09Code_prB0 ‹_›) | (with_reducible exact l01Code_prB0 ‹_›) | (with_reducible exact l01Numbers_prB0 ‹_›) | (with_reducible exact l01Lines_prB0 ‹_›) | (with_reducible exact field_prB ‹_›) | (with_reducible exact field_prB0 ‹_›) | (with_reducible exact l08Code_prB ‹_›) | (with_reducible exact l08Code_prB0 ‹_›) | (with_reducible exact l08Given_prB ‹_›) | (with_reducible exact l08Given_prB0 ‹_›) | (with_reducible exact l02Code_prB ‹_›) | (with_reducible exact l02Code_prB0 ‹_›) | (with_reducible exact l04Code_prB ‹_›) | (with_reducible exact l04Code_prB0 ‹_›) | (with_reducible exact triangle_prB ‹_›) | (with_reducible exact triangle_prB0 ‹_›) | (with_reducible exact l01Both_prB ‹_›) | (with_reducible exact l01Both_prB0 ‹_›) | (with_reducible exact sfield_prB0 ‹_›))) (by (first | (with_reducible assumption) | (with_reducible exact asked_prB ‹_›) | (with_reducible exact l09Code_prB ‹_›) | (with_reducible exact l01Code_prB ‹_›) | (with_reducible exact l01Numbers_prB ‹_›) | (with_reducible exact l01Lines_prB ‹_›) | (with_reducible exact asked_prB0 ‹_›) | (with_reducible exact l09Code_prB0 ‹_›) | (with_reducible exact l01Code_prB0 ‹_›) | (with_reducible exact l01Numbers_prB0 ‹_›) | (with_reducible exact l01Lines_prB0 ‹_›) | (with_reducible exact field_prB ‹_›) | (with_reducible exact field_prB0 ‹_›) | (with_reducible exact l08Code_prB ‹_›) | (with_reducible exact l08Code_prB0 ‹_›) | (with_reducible exact l08Given_prB ‹_›) | (with_reducible exact l08Given_prB0 ‹_›) | (with_reducible exact l02Code_prB ‹_›) | (with_reducible exact l02Code_prB0 ‹_›) | (with_reducible exact l04Code_prB ‹_›) | (with_reducible exact l04Code_prB0 ‹_›) | (with_reducible exact triangle_prB ‹_›) | (with_reducible exact triangle_prB0 ‹_›) | (with_reducible exact l01Both_prB ‹_›) | (with_reducible exact l01Both_prB0 ‹_›) | (with_reducible exact sfield_prB0 ‹_›))) (by (first | (with_reducible assumption) | (with_reducible exact asked_prB ‹_›) | (with_reducible exact l09Code_prB ‹_›) | (with_reducible exact l01Code_prB ‹_›) | (with_reducible exact l01Numbers_prB ‹_›) | (with_reducible exact l01Lines_prB ‹_›) | (with_reducible exact asked_prB0 ‹_›) | (with_reducible exact l09Code_prB0 ‹_›) | (with_reducible exact l01Code_prB0 ‹_›) | (with_reducible exact l01Numbers_prB0 ‹_›) | (with_reducible exact l01Lines_prB0 ‹_›) | (with_reducible exact field_prB ‹_›) | (with_reducible exact field_prB0 ‹_›) | (with_reducible exact l08Code_prB ‹_›) | (with_reducible exact l08Code_prB0 ‹_›) | (with_reducible exact l08Given_prB ‹_›) | (with_reducible exact l08Given_prB0 ‹_›) | (with_reducible exact l02Code_prB ‹_›) | (with_reducible exact l02Code_prB0 ‹_›) | (with_reducible exact l04Code_prB ‹_›) | (with_reducible exact l04Code_prB0 ‹_›) | (with_reducible exact triangle_prB ‹_›) | (with_reducible exact triangle_prB0 ‹_›) | (with_reducible exact l01Both_prB ‹_›) | (with_reducible exact l01Both_prB0 ‹_›) | (with_reducible exact sfield_prB0 ‹_›))) | rfl) ?_ | refine ite_opt (fun _ => ?_) (fun _ => ?_) | rfl)
def run_i_EqualColours : List PV → Option (Bool × List TR)
  | [.v (.int .i64 p), .v (.agg ⟨[.int .i64 a0, .int .i64 a1]⟩), .v (.agg ⟨[.int .i64 b0, .int .i64 b1]⟩), .v (.agg ⟨[.int .i64 c0, .int .i64 c1]⟩)] => some (true, enc_l2_1_i (i_EqualColours p (a0, a1) (b0, b1) (c0, c1)))
  | _ => none
theorem sound_i_EqualColours : Sound Try.prog 27 run_i_EqualColours := by
  refine sound_of de_l2_1_i SO_i_EqualColours (by kernel_rfl) Try.func27 Try.ntmps27 rfl (by kernel_rfl) ?_
  intro W pvs avs rs hargs hrun
  unfold run_i_EqualColours at hrun
  split at hrun
  · simp only [Option.some.injEq, Prod.mk.injEq] at hrun
    obtain ⟨hp, rfl⟩ := hrun
    rename_i p a0 a1 b0 b1 c0 c1
    exact ⟨_, _, _, hargs, rfl, (eq_i_EqualColours p (a0, a1) (b0, b1) (c0, c1)).trans (tot_i_EqualColours p (a0, a1) (b0, b1) (c0, c1))⟩
  · cases hrun

def S_s_EqualColours : Sums := ⟨tblS [(48, run_s_l01Code), (49, run_s_l02Quadrance)], tblM []⟩
theorem SO_s_EqualColours : SumsOK Try.prog S_s_EqualColours := ⟨tblS_ok ⟨⟨Try.call48, sound_s_l01Code⟩, ⟨Try.call49, sound_s_l02Quadrance⟩, True.intro⟩, tblM_ok True.intro⟩
def Fo_s_EqualColours (p : Int) (a : Int × Int) (b : Int × Int) (c : Int × Int) : Option ((Nat × List Int) × Int) :=
  (if ((s_l01Code p [a, b, c]) != 0) = true then some ((0, []), (s_l01Code p [a, b, c])) else (if (prB p) = true then (if (prB p) = true then (if ((s_l02Quadrance p 0 a b) == (s_l02Quadrance p 0 a c)) = true then (if (prB p) = true then (if (prB p) = true then (if ((s_l02Quadrance p 1 a b) == (s_l02Quadrance p 1 a c)) = true then (if (prB p) = true then (if (prB p) = true then (if ((s_l02Quadrance p 2 a b) == (s_l02Quadrance p 2 a c)) = true then some ((3, [0, 1, 2]), 0) else some ((2, [0, 1]), 0)) else none) else none) else (if (prB p) = true then (if (prB p) = true then (if ((s_l02Quadrance p 2 a b) == (s_l02Quadrance p 2 a c)) = true then some ((2, [0, 2]), 0) else some ((1, [0]), 0)) else none) else none)) else none) else none) else (if (prB p) = true then (if (prB p) = true then (if ((s_l02Quadrance p 1 a b) == (s_l02Quadrance p 1 a c)) = true then (if (prB p) = true then (if (prB p) = true then (if ((s_l02Quadrance p 2 a b) == (s_l02Quadrance p 2 a c)) = true then some ((2, [1, 2]), 0) else some ((1, [1]), 0)) else none) else none) else (if (prB p) = true then (if (prB p) = true then (if ((s_l02Quadrance p 2 a b) == (s_l02Quadrance p 2 a c)) = true then some ((1, [2]), 0) else some ((0, []), 0)) else none) else none)) else none) else none)) else none) else none))
theorem eq_s_EqualColours (p : Int) (a : Int × Int) (b : Int × Int) (c : Int × Int) : execT Try.prog S_s_EqualColours 26 43 1000000 dec_l2_1_i [.v (.int .i64 p), .v (.agg ⟨[.int .i64 a.1, .int .i64 a.2]⟩), .v (.agg ⟨[.int .i64 b.1, .int .i64 b.2]⟩), .v (.agg ⟨[.int .i64 c.1, .int .i64 c.2]⟩)] = Fo_s_EqualColours p a b c := by
  kernel_rfl
def s_EqualColours (p : Int) (a : Int × Int) (b : Int × Int) (c : Int × Int) : (Nat × List Int) × Int :=
  (if ((s_l01Code p [a, b, c]) != 0) = true then ((0, []), (s_l01Code p [a, b, c])) else (if ((s_l02Quadrance p 0 a b) == (s_l02Quadrance p 0 a c)) = true then (if ((s_l02Quadrance p 1 a b) == (s_l02Quadrance p 1 a c)) = true then (if ((s_l02Quadrance p 2 a b) == (s_l02Quadrance p 2 a c)) = true then ((3, [0, 1, 2]), 0) else ((2, [0, 1]), 0)) else (if ((s_l02Quadrance p 2 a b) == (s_l02Quadrance p 2 a c)) = true then ((2, [0, 2]), 0) else ((1, [0]), 0))) else (if ((s_l02Quadrance p 1 a b) == (s_l02Quadrance p 1 a c)) = true then (if ((s_l02Quadrance p 2 a b) == (s_l02Quadrance p 2 a c)) = true then ((2, [1, 2]), 0) else ((1, [1]), 0)) else (if ((s_l02Quadrance p 2 a b) == (s_l02Quadrance p 2 a c)) = true then ((1, [2]), 0) else ((0, []), 0)))))
theorem tot_s_EqualColours (p : Int) (a : Int × Int) (b : Int × Int) (c : Int × Int) : Fo_s_EqualColours p a b c = some (s_EqualColours p a b c) := by
  unfold Fo_s_EqualColours s_EqualColours
  (try simp only [wI_eq])
  repeat' (first | with_reducible rfl | refine chk_opt (by first | with_reducible rfl | exact Bool.true_or _ | (with_reducible exact asked_prB ‹_›) | (with_reducible exact l09Code_prB ‹_›) | (with_reducible exact l01Code_prB ‹_›) | (with_reducible exact l01Numbers_prB ‹_›) | (with_reducible exact l01Lines_prB ‹_›) | (with_reducible exact asked_prB0 ‹_›) | (with_reducible exact l09Code_prB0 ‹_›) | (with_reducible exact l01Code_prB0 ‹_›) | (with_reducible exact l01Numbers_prB0 ‹_›) | (with_reducible exact l01Lines_prB0 ‹_›) | (with_reducible exact field_prB ‹_›) | (with_reducible exact field_prB0 ‹_›) | (with_reducible exact l08Code_prB ‹_›) | (with_reducible exact l08Code_prB0 ‹_›) | (with_reducible exact l08Given_prB ‹_›) | (with_reducible exact l08Given_prB0 ‹_›) | (with_reducible exact l02Code_prB ‹_›) | (with_reducible exact l02Code_prB0 ‹_›) | (with_reducible exact l04Code_prB ‹_›) | (with_reducible exact l04Code_prB0 ‹_›) | (with_reducible exact triangle_prB ‹_›) | (with_reducible exact triangle_prB0 ‹_›) | (with_reducible exact l01Both_prB ‹_›) | (with_reducible exact l01Both_prB0 ‹_›) | (with_reducible exact sfield_prB0 ‹_›) | exact mk_ok (by (first | (with_reducible assumption) | (with_reducible exact asked_prB ‹_›) | (with_reducible exact l09Code_prB ‹_›) | (with_reducible exact l01Code_prB ‹_›) | (with_reducible exact l01Numbers_prB ‹_›) | (with_reducible exact l01Lines_prB ‹_›) | (with_reducible exact asked_prB0 ‹_›) | (with_reducible exact l09Code_prB0 ‹_›) | (with_reducible exact l01Code_prB0 ‹_›) | (with_reducible exact l01Numbers_prB0 ‹_›) | (with_reducible exact l01Lines_prB0 ‹_›) | (with_reducible exact field_prB ‹_›) | (with_reducible exact field_prB0 ‹_›) | (with_reducible exact l08Code_prB ‹_›) | (with_reducible exact l08Code_prB0 ‹_›) | (with_reducible exact l08Given_prB ‹_›) | (with_reducible exact l08Given_prB0 ‹_›) | (with_reducible exact l02Code_prB ‹_›) | (with_reducible exact l02Code_prB0 ‹_›) | (with_reducible exact l04Code_prB ‹_›) | (with_reducible exact l04Code_prB0 ‹_›) | (with_reducible exact triangle_prB ‹_›) | (with_reducible exact triangle_prB0 ‹_›) | (with_reducible exact l01Both_prB ‹_›) | (with_reducible exact l01Both_prB0 ‹_›) | (with_reducible exact sfield_prB0 ‹_›))) | exact and_all (by (first | (with_reducible assumption) | (with_reducible exact asked_prB ‹_›) | (with_reducible exact l09Code_prB ‹_›) | (with_reducible exact l01Code_prB ‹_›) | (with_reducible exact l01Numbers_prB ‹_›) | (with_reducible exact l01Lines_prB ‹_›) | (with_reducible exact asked_prB0 ‹_›) | (with_reducible exact l09Code_prB0 ‹_›) | (with_reducible exact l01Code_prB0 ‹_›) | (with_reducible exact l01Numbers_prB0 ‹_›) | (with_reducible exact l01Lines_prB0 ‹_›) | (with_reducible exact field_prB ‹_›) | (with_reducible exact field_prB0 ‹_›) | (with_reducible exact l08Code_prB ‹_›) | (with_reducible exact l08Code_prB0 ‹_›) | (with_reducible exact l08Given_prB ‹_›) | (with_reducible exact l08Given_prB0 ‹_›) | (with_reducible exact l02Code_prB ‹_›) | (with_reducible exact l02Code_prB0 ‹_›) | (with_reducible exact l04Code_prB ‹_›) | (with_reducible exact l04Code_prB0 ‹_›) | (with_reducible exact triangle_prB ‹_›) | (with_reducible exact triangle_prB0 ‹_›) | (with_reducible exact l01Both_prB ‹_›) | (with_reducible exact l01Both_prB0 ‹_›) | (with_reducible exact sfield_prB0 ‹_›))) (fun _ => rfl) | exact and_all (by (first | (with_reducible assumption) | (with_reducible exact asked_prB ‹_›) | (with_reducible exact l09Code_prB ‹_›) | (with_reducible exact l01Code_prB ‹_›) | (with_reducible exact l01Numbers_prB ‹_›) | (with_reducible exact l01Lines_prB ‹_›) | (with_reducible exact asked_prB0 ‹_›) | (with_reducible exact l09Code_prB0 ‹_›) | (with_reducible exact l01Code_prB0 ‹_›) | (with_reducible exact l01Numbers_prB0 ‹_›) | (with_reducible exact l01Lines_prB0 ‹_›) | (with_reducible exact field_prB ‹_›) | (with_reducible exact field_prB0 ‹_›) | (with_reducible exact l08Code_prB ‹_›) | (with_reducible exact l08Code_prB0 ‹_›) | (with_reducible exact l08Given_prB ‹_›) | (with_reducible exact l08Given_prB0 ‹_›) | (with_reducible exact l02Code_prB ‹_›) | (with_reducible exact l02Code_prB0 ‹_›) | (with_reducible exact l04Code_prB ‹_›) | (with_reducible exact l04Code_prB0 ‹_›) | (with_reducible exact triangle_prB ‹_›) | (with_reducible exact triangle_prB0 ‹_›) | (with_reducible exact l01Both_prB ‹_›) | (with_reducible exact l01Both_prB0 ‹_›) | (with_reducible exact sfield_prB0 ‹_›))) (fun _ => by (first | (with_reducible assumption) | (with_reducible exact asked_prB ‹_›) | (with_reducible exact l09Code_prB ‹_›) | (with_reducible exact l01Code_prB ‹_›) | (with_reducible exact l01Numbers_prB ‹_›) | (with_reducible exact l01Lines_prB ‹_›) | (with_reducible exact asked_prB0 ‹_›) | (with_reducible exact l09Code_prB0 ‹_›) | (with_reducible exact l01Code_prB0 ‹_›) | (with_reducible exact l01Numbers_prB0 ‹_›) | (with_reducible exact l01Lines_prB0 ‹_›) | (with_reducible exact field_prB ‹_›) | (with_reducible exact field_prB0 ‹_›) | (with_reducible exact l08Code_prB ‹_›) | (with_reducible exact l08Code_prB0 ‹_›) | (with_reducible exact l08Given_prB ‹_›) | (with_reducible exact l08Given_prB0 ‹_›) | (with_reducible exact l02Code_prB ‹_›) | (with_reducible exact l02Code_prB0 ‹_›) | (with_reducible exact l04Code_prB ‹_›) | (with_reducible exact l04Code_prB0 ‹_›) | (with_reducible exact triangle_prB ‹_›) | (with_reducible exact triangle_prB0 ‹_›) | (with_reducible exact l01Both_prB ‹_›) | (with_reducible exact l01Both_prB0 ‹_›) | (with_reducible exact sfield_prB0 ‹_›))) | exact and3 (by (first | (with_reducible assumption) | (with_reducible exact asked_prB ‹_›) | (with_reducible exact l09Code_prB ‹_›) | (with_reducible exact l01Code_prB ‹_›) | (with_reducible exact l01Numbers_prB ‹_›) | (with_reducible exact l01Lines_prB ‹_›) | (with_reducible exact asked_prB0 ‹_›) | (with_reducible exact l09Code_prB0 ‹_›) | (with_reducible exact l01Code_prB0 ‹_›) | (with_reducible exact l01Numbers_prB0 ‹_›) | (with_reducible exact l01Lines_prB0 ‹_›) | (with_reducible exact field_prB ‹_›) | (with_reducible exact field_prB0 ‹_›) | (with_reducible exact l08Code_prB ‹_›) | (with_reducible exact l08Code_prB0 ‹_›) | (with_reducible exact l08Given_prB ‹_›) | (with_reducible exact l08Given_prB0 ‹_›) | (with_reducible exact l02Code_prB ‹_›) | (with_reducible exact l02Code_prB0 ‹_›) | (with_reducible exact l04Code_prB ‹_›) | (with_reducible exact l04Code_prB0 ‹_›) | (with_reducible exact triangle_prB ‹_›) | (with_reducible exact triangle_prB0 ‹_›) | (with_reducible exact l01Both_prB ‹_›) | (with_reducible exact l01Both_prB0 ‹_›) | (with_reducible exact sfield_prB0 ‹_›))) (by (first | (with_reducible assumption) | (with_reducible exact asked_prB ‹_›) | (with_reducible exact l09Code_prB ‹_›) | (with_reducible exact l01Code_prB ‹_›) | (with_reducible exact l01Numbers_prB ‹_›) | (with_reducible exact l01Lines_prB ‹_›) | (with_reducible exact asked_prB0 ‹_›) | (with_reducible exact l09Code_prB0 ‹_›) | (with_reducible exact l01Code_prB0 ‹_›) | (with_reducible exact l01Numbers_prB0 ‹_›) | (with_reducible exact l01Lines_prB0 ‹_›) | (with_reducible exact field_prB ‹_›) | (with_reducible exact field_prB0 ‹_›) | (with_reducible exact l08Code_prB ‹_›) | (with_reducible exact l08Code_prB0 ‹_›) | (with_reducible exact l08Given_prB ‹_›) | (with_reducible exact l08Given_prB0 ‹_›) | (with_reducible exact l02Code_prB ‹_›) | (with_reducible exact l02Code_prB0 ‹_›) | (with_reducible exact l04Code_prB ‹_›) | (with_reducible exact l04Code_prB0 ‹_›) | (with_reducible exact triangle_prB ‹_›) | (with_reducible exact triangle_prB0 ‹_›) | (with_reducible exact l01Both_prB ‹_›) | (with_reducible exact l01Both_prB0 ‹_›) | (with_reducible exact sfield_prB0 ‹_›))) (by (first | (with_reducible assumption) | (with_reducible exact asked_prB ‹_›) | (with_reducible exact l09Code_prB ‹_›) | (with_reducible exact l01Code_prB ‹_›) | (with_reducible exact l01Numbers_prB ‹_›) | (with_reducible exact l01Lines_prB ‹_›) | (with_reducible exact asked_prB0 ‹_›) | (with_reducible exact l09Code_prB0 ‹_›) | (with_reducible exact l01Code_prB0 ‹_›) | (with_reducible exact l01Numbers_prB0 ‹_›) | (with_reducible exact l01Lines_prB0 ‹_›) | (with_reducible exact field_prB ‹_›) | (with_reducible exact field_prB0 ‹_›) | (with_reducible exact l08Code_prB ‹_›) | (with_reducible exact l08Code_prB0 ‹_›) | (with_reducible exact l08Given_prB ‹_›) | (with_reducible exact l08Given_prB0 ‹_›) | (with_reducible exact l02Code_prB ‹_›) | (with_reducible exact l02Code_prB0 ‹_›) | (with_reducible exact l04Code_prB ‹_›) | (with_reducible exact l04Code_prB0 ‹_›) | (with_reducible exact triangle_prB ‹_›) | (with_reducible exact triangle_prB0 ‹_›) | (with_reducible exact l01Both_prB ‹_›) | (with_reducible exact l01Both_prB0 ‹_›) | (with_reducible exact sfield_prB0 ‹_›))) | rfl) ?_ | refine ite_opt (fun _ => ?_) (fun _ => ?_) | rfl)
def run_s_EqualColours : List PV → Option (Bool × List TR)
  | [.v (.int .i64 p), .v (.agg ⟨[.int .i64 a0, .int .i64 a1]⟩), .v (.agg ⟨[.int .i64 b0, .int .i64 b1]⟩), .v (.agg ⟨[.int .i64 c0, .int .i64 c1]⟩)] => some (true, enc_l2_1_i (s_EqualColours p (a0, a1) (b0, b1) (c0, c1)))
  | _ => none
theorem sound_s_EqualColours : Sound Try.prog 26 run_s_EqualColours := by
  refine sound_of de_l2_1_i SO_s_EqualColours (by kernel_rfl) Try.func26 Try.ntmps26 rfl (by kernel_rfl) ?_
  intro W pvs avs rs hargs hrun
  unfold run_s_EqualColours at hrun
  split at hrun
  · simp only [Option.some.injEq, Prod.mk.injEq] at hrun
    obtain ⟨hp, rfl⟩ := hrun
    rename_i p a0 a1 b0 b1 c0 c1
    exact ⟨_, _, _, hargs, rfl, (eq_s_EqualColours p (a0, a1) (b0, b1) (c0, c1)).trans (tot_s_EqualColours p (a0, a1) (b0, b1) (c0, c1))⟩
  · cases hrun


end Go.Proofs.Ytgadfldmbpgimaa
