import Derived.Test.YtnijajjdldijpaaHz
import Derived.Test.YtnijajjdldijpaaProg
set_option linter.unusedSimpArgs false
set_option linter.unusedVariables false
namespace Go.Proofs.Ytnijajjdldijpaa
open Go.RowKit
noncomputable section
def S_i_rest : Sums := ⟨tblS [], tblM []⟩
theorem SO_i_rest : SumsOK Try.prog S_i_rest := ⟨tblS_ok True.intro, tblM_ok True.intro⟩
def Fo_i_rest (p : Int) (x : Int) : Option (Int) :=
  (if (!(p == 0)) = true then (if (!(p == 0)) = true then some ((wI ((x.tmod p) + p)).tmod p) else none) else none)
theorem eq_i_rest (p : Int) (x : Int) : execT Try.prog S_i_rest 93 12 (fun _ => 1000000) dec_i [.v (.int .i64 p), .v (.int .i64 x)] = Fo_i_rest p x := by
  kernel_rfl
def i_rest (p x : Int) : Int := x % p
theorem tot_i_rest (p : Int) (x : Int) (hp : (prB p) = true) : Fo_i_rest p x = some (i_rest p x) := by
  have h0 := prB_ne hp
  unfold Fo_i_rest i_rest
  simp only [h0, if_true, wI_eq]
  rw [rest_raw hp]
def run_i_rest : List PV → Option (Bool × List TR)
  | [.v (.int .i64 p), .v (.int .i64 x)] => some (prB p, enc_i (i_rest p x))
  | _ => none
theorem sound_i_rest : Sound Try.prog 93 run_i_rest := by
  refine sound_of de_i SO_i_rest (by kernel_rfl) Try.func93 Try.ntmps93 rfl (by kernel_rfl) ?_
  intro W pvs avs rs hargs hrun
  unfold run_i_rest at hrun
  split at hrun
  · simp only [Option.some.injEq, Prod.mk.injEq] at hrun
    obtain ⟨hp, rfl⟩ := hrun
    rename_i p x
    exact ⟨_, _, _, hargs, rfl, (eq_i_rest p x).trans (tot_i_rest p x hp)⟩
  · cases hrun

def S_i_placeProduct : Sums := ⟨tblS [(93, run_i_rest)], tblM []⟩
theorem SO_i_placeProduct : SumsOK Try.prog S_i_placeProduct := ⟨tblS_ok ⟨⟨Try.call93, sound_i_rest⟩, True.intro⟩, tblM_ok True.intro⟩
def Fo_i_placeProduct (p : Int) (a : Int × Int × Int) (b : Int × Int × Int) : Option (Int) :=
  (if (prB p) = true then some (i_rest p (wI ((wI ((wI (a.1 * b.1)) + (wI (a.2.1 * b.2.1)))) - (wI (a.2.2 * b.2.2))))) else none)
theorem eq_i_placeProduct (p : Int) (a : Int × Int × Int) (b : Int × Int × Int) : execT Try.prog S_i_placeProduct 53 26 (fun _ => 1000000) dec_i [.v (.int .i64 p), .v (.agg ⟨[.int .i64 a.1, .int .i64 a.2.1, .int .i64 a.2.2]⟩), .v (.agg ⟨[.int .i64 b.1, .int .i64 b.2.1, .int .i64 b.2.2]⟩)] = Fo_i_placeProduct p a b := by
  kernel_rfl
def i_placeProduct (p : Int) (a : Int × Int × Int) (b : Int × Int × Int) : Int :=
  (i_rest p (wrap64 ((wrap64 ((wrap64 (a.1 * b.1)) + (wrap64 (a.2.1 * b.2.1)))) - (wrap64 (a.2.2 * b.2.2)))))
theorem tot_i_placeProduct (p : Int) (a : Int × Int × Int) (b : Int × Int × Int) (hp : (prB p) = true) : Fo_i_placeProduct p a b = some (i_placeProduct p a b) := by
  try have h0 := prB_ne hp
  unfold Fo_i_placeProduct i_placeProduct
  (try simp only [wI_eq])
  repeat' (first | with_reducible rfl | with_reducible refine chk_opt hp ?_ | with_reducible refine chk_opt h0 ?_ | refine chk_opt (and_all hp fun _ => hp) ?_ | refine chk_opt (and_all hp fun _ => rfl) ?_ | refine ite_opt (fun _ => ?_) (fun _ => ?_) | rfl)
def run_i_placeProduct : List PV → Option (Bool × List TR)
  | [.v (.int .i64 p), .v (.agg ⟨[.int .i64 a0, .int .i64 a1, .int .i64 a2]⟩), .v (.agg ⟨[.int .i64 b0, .int .i64 b1, .int .i64 b2]⟩)] => some (prB p, enc_i (i_placeProduct p (a0, a1, a2) (b0, b1, b2)))
  | _ => none
theorem sound_i_placeProduct : Sound Try.prog 53 run_i_placeProduct := by
  refine sound_of de_i SO_i_placeProduct (by kernel_rfl) Try.func53 Try.ntmps53 rfl (by kernel_rfl) ?_
  intro W pvs avs rs hargs hrun
  unfold run_i_placeProduct at hrun
  split at hrun
  · simp only [Option.some.injEq, Prod.mk.injEq] at hrun
    obtain ⟨hp, rfl⟩ := hrun
    rename_i p a0 a1 a2 b0 b1 b2
    exact ⟨_, _, _, hargs, rfl, (eq_i_placeProduct p (a0, a1, a2) (b0, b1, b2)).trans (tot_i_placeProduct p (a0, a1, a2) (b0, b1, b2) hp)⟩
  · cases hrun

def S_i_inverse : Sums := ⟨tblS [], tblM []⟩
theorem SO_i_inverse : SumsOK Try.prog S_i_inverse := ⟨tblS_ok True.intro, tblM_ok True.intro⟩
def T_i_inverse_0 (p : Int) (a : Int) (x : Int) : Tab := ⟨[.val (.int .i64 p), .val (.int .i64 a), .junk, .junk, .val (.int .i64 0), .val (.int .i64 x), .junk, .junk, .junk, .junk, .junk, .junk, .junk, .junk, .junk, .junk, .junk, .junk], []⟩
def X_i_inverse_0 (P : Program) (fu : Nat) (p : Int) (a : Int) (f : Nat) (x : Int) : Option (Int) := loopK (exec P S_i_inverse 18 (fun _ => fu + 100) (Code.sub [1, 0, 1, 0, 0] (bodyF P 102))) f (T_i_inverse_0 p a x) (kBlock 0 (kSeq (fun s => exec P S_i_inverse 18 (fun _ => fu + 100) (Code.sub [1, 1] (bodyF P 102)) s (finT P 102 dec_i)) (finT P 102 dec_i)))
def B_i_inverse_0 (p : Int) (a : Int) (rec0 : Int → Option (Int)) (x : Int) : Option (Int) :=
  (if (decide (x < p)) = true then (if (!(p == 0)) = true then (if (((wI (a * x)).tmod p) == 1) = true then some x else rec0 (wI (x + 1))) else none) else some 0)
def L_i_inverse_0 (fu : Nat) (p : Int) (a : Int) : Nat → Int → Option (Int)
  | 0, _ => none
  | f + 1, x => B_i_inverse_0 p a (L_i_inverse_0 fu p a f) x
theorem loop_i_inverse_0 (fu : Nat) (p : Int) (a : Int) : ∀ (f : Nat) (x : Int), X_i_inverse_0 Try.prog fu p a f x = L_i_inverse_0 fu p a f x := by
  intro f
  induction f with
  | zero => intros; rfl
  | succ f ih =>
    intro x
    have h1 : X_i_inverse_0 Try.prog fu p a (f + 1) x = B_i_inverse_0 p a (X_i_inverse_0 Try.prog fu p a f) x := by kernel_rfl
    have h2 : X_i_inverse_0 Try.prog fu p a f = L_i_inverse_0 fu p a f := by funext x; exact ih x
    rw [h1, h2]
    rfl
def G_i_inverse (p : Int) (a : Int) (lo0 : Int → Option (Int)) : Option (Int) :=
  lo0 1
def Fo_i_inverse (fu : Nat) (p : Int) (a : Int) : Option (Int) := G_i_inverse p a (L_i_inverse_0 fu p a (fu + 100))
theorem eqg_i_inverse (fu : Nat) (p : Int) (a : Int) : execT Try.prog S_i_inverse 102 18 (fun _ => fu + 100) dec_i [.v (.int .i64 p), .v (.int .i64 a)] = G_i_inverse p a (L_i_inverse_0 fu p a (fu + 100)) := by
  have h1 : execT Try.prog S_i_inverse 102 18 (fun _ => fu + 100) dec_i [.v (.int .i64 p), .v (.int .i64 a)] = G_i_inverse p a (X_i_inverse_0 Try.prog fu p a (fu + 100)) := by kernel_rfl
  have c0 : X_i_inverse_0 Try.prog fu p a (fu + 100) = L_i_inverse_0 fu p a (fu + 100) := by funext x; exact loop_i_inverse_0 fu p a (fu + 100) x
  rw [h1, c0]
theorem eq_i_inverse (fu : Nat) (p : Int) (a : Int) : execT Try.prog S_i_inverse 102 18 (fun _ => fu + 100) dec_i [.v (.int .i64 p), .v (.int .i64 a)] = Fo_i_inverse fu p a := eqg_i_inverse fu p a
def invLoop (p a : Int) : Nat → Int → Int
  | 0, _ => 0
  | k + 1, x => if ((wrap64 (a * x)).tmod p == 1) = true then x else invLoop p a k (x + 1)
def i_inverse (p a : Int) : Int := invLoop p a (p - 1).toNat 1
theorem inv_walk (fu : Nat) (p a : Int) (hp : prB p = true) : ∀ (k f : Nat) (j : Int), 1 ≤ j → j ≤ p → (p - j).toNat = k → k < f → L_i_inverse_0 fu p a f j = some (invLoop p a k j)
  | k, 0, j, _, _, _, h => absurd h (Nat.not_lt_zero k)
  | 0, f + 1, j, h1, h2, hk, _ => by
    show B_i_inverse_0 p a _ j = _
    unfold B_i_inverse_0
    rw [if_neg (by simp; omega)]; rfl
  | k + 1, f + 1, j, h1, h2, hk, hf => by
    show B_i_inverse_0 p a (L_i_inverse_0 fu p a f) j = _
    unfold B_i_inverse_0
    rw [if_pos (by simp; omega), if_pos (prB_ne hp), wI_eq, wI_eq]
    show _ = some (if ((wrap64 (a * j)).tmod p == 1) = true then j else invLoop p a k (j + 1))
    refine ite_opt (fun _ => rfl) fun _ => ?_
    have h31 := (prB_Pr hp).2
    rw [show wrap64 (j + 1) = j + 1 from by unfold wrap64; omega]
    exact inv_walk fu p a hp k f (j + 1) (by omega) (by omega) (by omega) (by omega)
theorem tot_i_inverse (p : Int) (a : Int) (hp : (prB p) = true) : Fo_i_inverse 40 p a = some (i_inverse p a) := by
  obtain ⟨h1, h2⟩ := prB_Pr hp
  exact inv_walk 40 p a hp _ _ 1 (by omega) (by omega) rfl (by omega)
def run_i_inverse : List PV → Option (Bool × List TR)
  | [.v (.int .i64 p), .v (.int .i64 a)] => some (prB p, enc_i (i_inverse p a))
  | _ => none
theorem sound_i_inverse : Sound Try.prog 102 run_i_inverse := by
  refine sound_of de_i SO_i_inverse (by kernel_rfl) Try.func102 Try.ntmps102 rfl (by kernel_rfl) ?_
  intro W pvs avs rs hargs hrun
  unfold run_i_inverse at hrun
  split at hrun
  · simp only [Option.some.injEq, Prod.mk.injEq] at hrun
    obtain ⟨hp, rfl⟩ := hrun
    rename_i p a
    exact ⟨_, _, _, hargs, rfl, (eq_i_inverse _ p a).trans (tot_i_inverse p a hp)⟩
  · cases hrun

def S_i_divide : Sums := ⟨tblS [(102, run_i_inverse), (93, run_i_rest)], tblM []⟩
theorem SO_i_divide : SumsOK Try.prog S_i_divide := ⟨tblS_ok ⟨⟨Try.call102, sound_i_inverse⟩, ⟨Try.call93, sound_i_rest⟩, True.intro⟩, tblM_ok True.intro⟩
def Fo_i_divide (p : Int) (a : Int) (b : Int) : Option (Int) :=
  (if (prB p) = true then (if (prB p) = true then some (i_rest p (wI (a * (i_inverse p b)))) else none) else none)
theorem eq_i_divide (p : Int) (a : Int) (b : Int) : execT Try.prog S_i_divide 99 14 (fun _ => 1000000) dec_i [.v (.int .i64 p), .v (.int .i64 a), .v (.int .i64 b)] = Fo_i_divide p a b := by
  kernel_rfl
def i_divide (p : Int) (a : Int) (b : Int) : Int :=
  (i_rest p (wrap64 (a * (i_inverse p b))))
theorem tot_i_divide (p : Int) (a : Int) (b : Int) (hp : (prB p) = true) : Fo_i_divide p a b = some (i_divide p a b) := by
  try have h0 := prB_ne hp
  unfold Fo_i_divide i_divide
  (try simp only [wI_eq])
  repeat' (first | with_reducible rfl | with_reducible refine chk_opt hp ?_ | with_reducible refine chk_opt h0 ?_ | refine chk_opt (and_all hp fun _ => hp) ?_ | refine chk_opt (and_all hp fun _ => rfl) ?_ | refine ite_opt (fun _ => ?_) (fun _ => ?_) | rfl)
def run_i_divide : List PV → Option (Bool × List TR)
  | [.v (.int .i64 p), .v (.int .i64 a), .v (.int .i64 b)] => some (prB p, enc_i (i_divide p a b))
  | _ => none
theorem sound_i_divide : Sound Try.prog 99 run_i_divide := by
  refine sound_of de_i SO_i_divide (by kernel_rfl) Try.func99 Try.ntmps99 rfl (by kernel_rfl) ?_
  intro W pvs avs rs hargs hrun
  unfold run_i_divide at hrun
  split at hrun
  · simp only [Option.some.injEq, Prod.mk.injEq] at hrun
    obtain ⟨hp, rfl⟩ := hrun
    rename_i p a b
    exact ⟨_, _, _, hargs, rfl, (eq_i_divide p a b).trans (tot_i_divide p a b hp)⟩
  · cases hrun

def S_i_placeQuadrance : Sums := ⟨tblS [(53, run_i_placeProduct), (93, run_i_rest), (99, run_i_divide)], tblM []⟩
theorem SO_i_placeQuadrance : SumsOK Try.prog S_i_placeQuadrance := ⟨tblS_ok ⟨⟨Try.call53, sound_i_placeProduct⟩, ⟨Try.call93, sound_i_rest⟩, ⟨Try.call99, sound_i_divide⟩, True.intro⟩, tblM_ok True.intro⟩
def Fo_i_placeQuadrance (p : Int) (a : Int × Int × Int) (b : Int × Int × Int) : Option (Int) :=
  (if (prB p) = true then (if (prB p) = true then (if (prB p) = true then (if (prB p) = true then (if (prB p) = true then (if (prB p) = true then some (i_rest p (wI (1 - (i_divide p (wI ((i_placeProduct p a b) * (i_placeProduct p a b))) (i_rest p (wI ((i_placeProduct p a a) * (i_placeProduct p b b)))))))) else none) else none) else none) else none) else none) else none)
theorem eq_i_placeQuadrance (p : Int) (a : Int × Int × Int) (b : Int × Int × Int) : execT Try.prog S_i_placeQuadrance 80 31 (fun _ => 1000000) dec_i [.v (.int .i64 p), .v (.agg ⟨[.int .i64 a.1, .int .i64 a.2.1, .int .i64 a.2.2]⟩), .v (.agg ⟨[.int .i64 b.1, .int .i64 b.2.1, .int .i64 b.2.2]⟩)] = Fo_i_placeQuadrance p a b := by
  kernel_rfl
def i_placeQuadrance (p : Int) (a : Int × Int × Int) (b : Int × Int × Int) : Int :=
  (i_rest p (wrap64 (1 - (i_divide p (wrap64 ((i_placeProduct p a b) * (i_placeProduct p a b))) (i_rest p (wrap64 ((i_placeProduct p a a) * (i_placeProduct p b b))))))))
theorem tot_i_placeQuadrance (p : Int) (a : Int × Int × Int) (b : Int × Int × Int) (hp : (prB p) = true) : Fo_i_placeQuadrance p a b = some (i_placeQuadrance p a b) := by
  try have h0 := prB_ne hp
  unfold Fo_i_placeQuadrance i_placeQuadrance
  (try simp only [wI_eq])
  repeat' (first | with_reducible rfl | with_reducible refine chk_opt hp ?_ | with_reducible refine chk_opt h0 ?_ | refine chk_opt (and_all hp fun _ => hp) ?_ | refine chk_opt (and_all hp fun _ => rfl) ?_ | refine ite_opt (fun _ => ?_) (fun _ => ?_) | rfl)
def run_i_placeQuadrance : List PV → Option (Bool × List TR)
  | [.v (.int .i64 p), .v (.agg ⟨[.int .i64 a0, .int .i64 a1, .int .i64 a2]⟩), .v (.agg ⟨[.int .i64 b0, .int .i64 b1, .int .i64 b2]⟩)] => some (prB p, enc_i (i_placeQuadrance p (a0, a1, a2) (b0, b1, b2)))
  | _ => none
theorem sound_i_placeQuadrance : Sound Try.prog 80 run_i_placeQuadrance := by
  refine sound_of de_i SO_i_placeQuadrance (by kernel_rfl) Try.func80 Try.ntmps80 rfl (by kernel_rfl) ?_
  intro W pvs avs rs hargs hrun
  unfold run_i_placeQuadrance at hrun
  split at hrun
  · simp only [Option.some.injEq, Prod.mk.injEq] at hrun
    obtain ⟨hp, rfl⟩ := hrun
    rename_i p a0 a1 a2 b0 b1 b2
    exact ⟨_, _, _, hargs, rfl, (eq_i_placeQuadrance p (a0, a1, a2) (b0, b1, b2)).trans (tot_i_placeQuadrance p (a0, a1, a2) (b0, b1, b2) hp)⟩
  · cases hrun

theorem iquad_b {p : Int} (hp : prB p = true) (a b : P3) : 0 ≤ i_placeQuadrance p a b ∧ i_placeQuadrance p a b < p := by
  obtain ⟨h1, h2⟩ := prB_Pr hp
  unfold i_placeQuadrance i_rest
  exact ⟨Int.emod_nonneg _ (by omega), Int.emod_lt_of_pos _ (by omega)⟩
def S_s_l01Mod : Sums := ⟨tblS [], tblM []⟩
theorem SO_s_l01Mod : SumsOK Try.prog S_s_l01Mod := ⟨tblS_ok True.intro, tblM_ok True.intro⟩
def Fo_s_l01Mod (x : Int) (p : Int) : Option (Int) :=
  (if (!(p == 0)) = true then (if (!(p == 0)) = true then some ((wI ((x.tmod p) + p)).tmod p) else none) else none)
theorem eq_s_l01Mod (x : Int) (p : Int) : execT Try.prog S_s_l01Mod 96 12 (fun _ => 1000000) dec_i [.v (.int .i64 x), .v (.int .i64 p)] = Fo_s_l01Mod x p := by
  kernel_rfl
def s_l01Mod (x p : Int) : Int := x % p
theorem tot_s_l01Mod (x : Int) (p : Int) (hp : (prB p) = true) : Fo_s_l01Mod x p = some (s_l01Mod x p) := by
  have h0 := prB_ne hp
  unfold Fo_s_l01Mod s_l01Mod
  simp only [h0, if_true, wI_eq]
  rw [rest_raw hp]
def run_s_l01Mod : List PV → Option (Bool × List TR)
  | [.v (.int .i64 x), .v (.int .i64 p)] => some (prB p, enc_i (s_l01Mod x p))
  | _ => none
theorem sound_s_l01Mod : Sound Try.prog 96 run_s_l01Mod := by
  refine sound_of de_i SO_s_l01Mod (by kernel_rfl) Try.func96 Try.ntmps96 rfl (by kernel_rfl) ?_
  intro W pvs avs rs hargs hrun
  unfold run_s_l01Mod at hrun
  split at hrun
  · simp only [Option.some.injEq, Prod.mk.injEq] at hrun
    obtain ⟨hp, rfl⟩ := hrun
    rename_i x p
    exact ⟨_, _, _, hargs, rfl, (eq_s_l01Mod x p).trans (tot_s_l01Mod x p hp)⟩
  · cases hrun

def S_s_l09Product : Sums := ⟨tblS [(96, run_s_l01Mod)], tblM []⟩
theorem SO_s_l09Product : SumsOK Try.prog S_s_l09Product := ⟨tblS_ok ⟨⟨Try.call96, sound_s_l01Mod⟩, True.intro⟩, tblM_ok True.intro⟩
def Fo_s_l09Product (p : Int) (a : Int × Int × Int) (b : Int × Int × Int) : Option (Int) :=
  (if (prB p) = true then some (s_l01Mod (wI ((wI ((wI (a.1 * b.1)) + (wI (a.2.1 * b.2.1)))) - (wI (a.2.2 * b.2.2)))) p) else none)
theorem eq_s_l09Product (p : Int) (a : Int × Int × Int) (b : Int × Int × Int) : execT Try.prog S_s_l09Product 54 26 (fun _ => 1000000) dec_i [.v (.int .i64 p), .v (.agg ⟨[.int .i64 a.1, .int .i64 a.2.1, .int .i64 a.2.2]⟩), .v (.agg ⟨[.int .i64 b.1, .int .i64 b.2.1, .int .i64 b.2.2]⟩)] = Fo_s_l09Product p a b := by
  kernel_rfl
def s_l09Product (p : Int) (a : Int × Int × Int) (b : Int × Int × Int) : Int :=
  (s_l01Mod (wrap64 ((wrap64 ((wrap64 (a.1 * b.1)) + (wrap64 (a.2.1 * b.2.1)))) - (wrap64 (a.2.2 * b.2.2)))) p)
theorem tot_s_l09Product (p : Int) (a : Int × Int × Int) (b : Int × Int × Int) (hp : (prB p) = true) : Fo_s_l09Product p a b = some (s_l09Product p a b) := by
  try have h0 := prB_ne hp
  unfold Fo_s_l09Product s_l09Product
  (try simp only [wI_eq])
  repeat' (first | with_reducible rfl | with_reducible refine chk_opt hp ?_ | with_reducible refine chk_opt h0 ?_ | refine chk_opt (and_all hp fun _ => hp) ?_ | refine chk_opt (and_all hp fun _ => rfl) ?_ | refine ite_opt (fun _ => ?_) (fun _ => ?_) | rfl)
def run_s_l09Product : List PV → Option (Bool × List TR)
  | [.v (.int .i64 p), .v (.agg ⟨[.int .i64 a0, .int .i64 a1, .int .i64 a2]⟩), .v (.agg ⟨[.int .i64 b0, .int .i64 b1, .int .i64 b2]⟩)] => some (prB p, enc_i (s_l09Product p (a0, a1, a2) (b0, b1, b2)))
  | _ => none
theorem sound_s_l09Product : Sound Try.prog 54 run_s_l09Product := by
  refine sound_of de_i SO_s_l09Product (by kernel_rfl) Try.func54 Try.ntmps54 rfl (by kernel_rfl) ?_
  intro W pvs avs rs hargs hrun
  unfold run_s_l09Product at hrun
  split at hrun
  · simp only [Option.some.injEq, Prod.mk.injEq] at hrun
    obtain ⟨hp, rfl⟩ := hrun
    rename_i p a0 a1 a2 b0 b1 b2
    exact ⟨_, _, _, hargs, rfl, (eq_s_l09Product p (a0, a1, a2) (b0, b1, b2)).trans (tot_s_l09Product p (a0, a1, a2) (b0, b1, b2) hp)⟩
  · cases hrun

def S_s_l01Inverse : Sums := ⟨tblS [(96, run_s_l01Mod)], tblM []⟩
theorem SO_s_l01Inverse : SumsOK Try.prog S_s_l01Inverse := ⟨tblS_ok ⟨⟨Try.call96, sound_s_l01Mod⟩, True.intro⟩, tblM_ok True.intro⟩
def T_s_l01Inverse_0 (a : Int) (p : Int) (out : Int) (base : Int) (k : Int) : Tab := ⟨[.val (.int .i64 a), .val (.int .i64 p), .junk, .junk, .val (.int .i64 0), .val (.int .i64 out), .val (.int .i64 base), .val (.int .i64 k), .val (.int .i64 a), .val (.int .i64 p), .val (.int .i64 (s_l01Mod a p)), .val (.int .i64 p), .val (.int .i64 (wI (p - 2))), .junk, .junk, .junk, .junk, .junk, .junk, .junk, .junk, .junk, .junk, .junk, .junk, .junk, .junk, .junk, .junk, .junk, .junk], []⟩
def X_s_l01Inverse_0 (P : Program) (fu : Nat) (a : Int) (p : Int) (f : Nat) (out : Int) (base : Int) (k : Int) : Option (Int) := loopK (exec P S_s_l01Inverse 31 (fun _ => fu + 100) (Code.sub [1, 1, 0, 1, 0, 0] (bodyF P 101))) f (T_s_l01Inverse_0 a p out base k) (kBlock 0 (kSeq (fun s => exec P S_s_l01Inverse 31 (fun _ => fu + 100) (Code.sub [1, 1, 1] (bodyF P 101)) s (finT P 101 dec_i)) (finT P 101 dec_i)))
def B_s_l01Inverse_0 (a : Int) (p : Int) (rec0 : Int → Int → Int → Option (Int)) (out : Int) (base : Int) (k : Int) : Option (Int) :=
  (if (decide (k > 0)) = true then (if ((k.tmod 2) == 1) = true then (if (!(p == 0)) = true then (if (!(p == 0)) = true then rec0 ((wI (out * base)).tmod p) ((wI (base * base)).tmod p) (wI (k.tdiv 2)) else none) else none) else (if (!(p == 0)) = true then rec0 out ((wI (base * base)).tmod p) (wI (k.tdiv 2)) else none)) else some out)
def L_s_l01Inverse_0 (fu : Nat) (a : Int) (p : Int) : Nat → Int → Int → Int → Option (Int)
  | 0, _, _, _ => none
  | f + 1, out, base, k => B_s_l01Inverse_0 a p (L_s_l01Inverse_0 fu a p f) out base k
theorem loop_s_l01Inverse_0 (fu : Nat) (a : Int) (p : Int) : ∀ (f : Nat) (out : Int) (base : Int) (k : Int), X_s_l01Inverse_0 Try.prog fu a p f out base k = L_s_l01Inverse_0 fu a p f out base k := by
  intro f
  induction f with
  | zero => intros; rfl
  | succ f ih =>
    intro out base k
    have h1 : X_s_l01Inverse_0 Try.prog fu a p (f + 1) out base k = B_s_l01Inverse_0 a p (X_s_l01Inverse_0 Try.prog fu a p f) out base k := by kernel_rfl
    have h2 : X_s_l01Inverse_0 Try.prog fu a p f = L_s_l01Inverse_0 fu a p f := by funext out base k; exact ih out base k
    rw [h1, h2]
    rfl
def G_s_l01Inverse (a : Int) (p : Int) (lo0 : Int → Int → Int → Option (Int)) : Option (Int) :=
  (if (prB p) = true then lo0 1 (s_l01Mod a p) (wI (p - 2)) else none)
def Fo_s_l01Inverse (fu : Nat) (a : Int) (p : Int) : Option (Int) := G_s_l01Inverse a p (L_s_l01Inverse_0 fu a p (fu + 100))
theorem eqg_s_l01Inverse (fu : Nat) (a : Int) (p : Int) : execT Try.prog S_s_l01Inverse 101 31 (fun _ => fu + 100) dec_i [.v (.int .i64 a), .v (.int .i64 p)] = G_s_l01Inverse a p (L_s_l01Inverse_0 fu a p (fu + 100)) := by
  have h1 : execT Try.prog S_s_l01Inverse 101 31 (fun _ => fu + 100) dec_i [.v (.int .i64 a), .v (.int .i64 p)] = G_s_l01Inverse a p (X_s_l01Inverse_0 Try.prog fu a p (fu + 100)) := by kernel_rfl
  have c0 : X_s_l01Inverse_0 Try.prog fu a p (fu + 100) = L_s_l01Inverse_0 fu a p (fu + 100) := by funext out base k; exact loop_s_l01Inverse_0 fu a p (fu + 100) out base k
  rw [h1, c0]
theorem eq_s_l01Inverse (fu : Nat) (a : Int) (p : Int) : execT Try.prog S_s_l01Inverse 101 31 (fun _ => fu + 100) dec_i [.v (.int .i64 a), .v (.int .i64 p)] = Fo_s_l01Inverse fu a p := eqg_s_l01Inverse fu a p
def powLoop (p : Int) : Nat → Int → Int → Int → Int
  | 0, _, out, _ => out
  | f + 1, k, out, base => if decide (0 < k) = true then powLoop p f (k / 2) (if (k % 2 == 1) = true then (wrap64 (out * base)).tmod p else out) ((wrap64 (base * base)).tmod p) else out
def s_l01Inverse (a p : Int) : Int := powLoop p 5 (p - 2) 1 (s_l01Mod a p)
theorem powLoop_zero (p : Int) (f : Nat) (k out base : Int) (h : ¬ 0 < k) : powLoop p f k out base = out := by
  cases f
  · rfl
  · show (if decide (0 < k) = true then _ else out) = out
    rw [if_neg (by simpa using h)]
theorem pow_walk (fu : Nat) (a p : Int) (hp : prB p = true) : ∀ (f F : Nat) (k out base : Int), k < 2 ^ f → k ≤ 31 → f < F → L_s_l01Inverse_0 fu a p F out base k = some (powLoop p f k out base)
  | f, 0, k, _, _, _, _, h => absurd h (Nat.not_lt_zero f)
  | f, F + 1, k, out, base, h1, h31, hF => by
    show B_s_l01Inverse_0 a p (L_s_l01Inverse_0 fu a p F) out base k = _
    unfold B_s_l01Inverse_0
    by_cases hk : 0 < k
    · obtain ⟨f, rfl⟩ : ∃ g, f = g + 1 := ⟨f - 1, by rcases f with _ | f <;> omega⟩
      have h0 := prB_ne hp
      rw [if_pos (by simp; omega)]
      have e1 : k.tmod 2 = k % 2 := Int.tmod_eq_emod_of_nonneg (by omega)
      have e2 : k.tdiv 2 = k / 2 := Int.tdiv_eq_ediv_of_nonneg (by omega)
      have e3 : wrap64 (k / 2) = k / 2 := by unfold wrap64; omega
      have hh : k / 2 < 2 ^ f := by rw [Int.pow_succ] at h1; omega
      simp only [h0, if_true, wI_eq, e1, e2, e3]
      show _ = some (if decide (0 < k) = true then powLoop p f (k / 2) (if (k % 2 == 1) = true then (wrap64 (out * base)).tmod p else out) ((wrap64 (base * base)).tmod p) else out)
      have hk' : decide (0 < k) = true := by simpa using hk
      rw [hk']
      cases h2 : (k % 2 == 1)
      · exact pow_walk fu a p hp f F (k / 2) _ _ hh (by omega) (by omega)
      · exact pow_walk fu a p hp f F (k / 2) _ _ hh (by omega) (by omega)
    · rw [if_neg (by simp; omega), powLoop_zero p f k out base hk]
theorem tot_s_l01Inverse (a : Int) (p : Int) (hp : (prB p) = true) : Fo_s_l01Inverse 40 a p = some (s_l01Inverse a p) := by
  obtain ⟨h1, h2⟩ := prB_Pr hp
  unfold Fo_s_l01Inverse G_s_l01Inverse
  rw [if_pos hp, wI_eq, show wrap64 (p - 2) = p - 2 from by unfold wrap64; omega]
  exact pow_walk 40 a p hp 5 _ (p - 2) _ _ (by omega) (by omega) (by omega)
def run_s_l01Inverse : List PV → Option (Bool × List TR)
  | [.v (.int .i64 a), .v (.int .i64 p)] => some (prB p, enc_i (s_l01Inverse a p))
  | _ => none
theorem sound_s_l01Inverse : Sound Try.prog 101 run_s_l01Inverse := by
  refine sound_of de_i SO_s_l01Inverse (by kernel_rfl) Try.func101 Try.ntmps101 rfl (by kernel_rfl) ?_
  intro W pvs avs rs hargs hrun
  unfold run_s_l01Inverse at hrun
  split at hrun
  · simp only [Option.some.injEq, Prod.mk.injEq] at hrun
    obtain ⟨hp, rfl⟩ := hrun
    rename_i a p
    exact ⟨_, _, _, hargs, rfl, (eq_s_l01Inverse _ a p).trans (tot_s_l01Inverse a p hp)⟩
  · cases hrun

def S_s_l09Quadrance : Sums := ⟨tblS [(54, run_s_l09Product), (101, run_s_l01Inverse), (96, run_s_l01Mod)], tblM []⟩
theorem SO_s_l09Quadrance : SumsOK Try.prog S_s_l09Quadrance := ⟨tblS_ok ⟨⟨Try.call54, sound_s_l09Product⟩, ⟨Try.call101, sound_s_l01Inverse⟩, ⟨Try.call96, sound_s_l01Mod⟩, True.intro⟩, tblM_ok True.intro⟩
def Fo_s_l09Quadrance (p : Int) (a : Int × Int × Int) (b : Int × Int × Int) : Option (Int) :=
  (if (prB p) = true then (if (!(p == 0)) = true then (if (prB p) = true then (if (prB p) = true then (if (prB p) = true then (if (prB p) = true then some (s_l01Mod (wI (1 - (wI (((wI ((s_l09Product p a b) * (s_l09Product p a b))).tmod p) * (s_l01Inverse (wI ((s_l09Product p a a) * (s_l09Product p b b))) p))))) p) else none) else none) else none) else none) else none) else none)
theorem eq_s_l09Quadrance (p : Int) (a : Int × Int × Int) (b : Int × Int × Int) : execT Try.prog S_s_l09Quadrance 81 32 (fun _ => 1000000) dec_i [.v (.int .i64 p), .v (.agg ⟨[.int .i64 a.1, .int .i64 a.2.1, .int .i64 a.2.2]⟩), .v (.agg ⟨[.int .i64 b.1, .int .i64 b.2.1, .int .i64 b.2.2]⟩)] = Fo_s_l09Quadrance p a b := by
  kernel_rfl
def s_l09Quadrance (p : Int) (a : Int × Int × Int) (b : Int × Int × Int) : Int :=
  (s_l01Mod (wrap64 (1 - (wrap64 (((wrap64 ((s_l09Product p a b) * (s_l09Product p a b))).tmod p) * (s_l01Inverse (wrap64 ((s_l09Product p a a) * (s_l09Product p b b))) p))))) p)
theorem tot_s_l09Quadrance (p : Int) (a : Int × Int × Int) (b : Int × Int × Int) (hp : (prB p) = true) : Fo_s_l09Quadrance p a b = some (s_l09Quadrance p a b) := by
  try have h0 := prB_ne hp
  unfold Fo_s_l09Quadrance s_l09Quadrance
  (try simp only [wI_eq])
  repeat' (first | with_reducible rfl | with_reducible refine chk_opt hp ?_ | with_reducible refine chk_opt h0 ?_ | refine chk_opt (and_all hp fun _ => hp) ?_ | refine chk_opt (and_all hp fun _ => rfl) ?_ | refine ite_opt (fun _ => ?_) (fun _ => ?_) | rfl)
def run_s_l09Quadrance : List PV → Option (Bool × List TR)
  | [.v (.int .i64 p), .v (.agg ⟨[.int .i64 a0, .int .i64 a1, .int .i64 a2]⟩), .v (.agg ⟨[.int .i64 b0, .int .i64 b1, .int .i64 b2]⟩)] => some (prB p, enc_i (s_l09Quadrance p (a0, a1, a2) (b0, b1, b2)))
  | _ => none
theorem sound_s_l09Quadrance : Sound Try.prog 81 run_s_l09Quadrance := by
  refine sound_of de_i SO_s_l09Quadrance (by kernel_rfl) Try.func81 Try.ntmps81 rfl (by kernel_rfl) ?_
  intro W pvs avs rs hargs hrun
  unfold run_s_l09Quadrance at hrun
  split at hrun
  · simp only [Option.some.injEq, Prod.mk.injEq] at hrun
    obtain ⟨hp, rfl⟩ := hrun
    rename_i p a0 a1 a2 b0 b1 b2
    exact ⟨_, _, _, hargs, rfl, (eq_s_l09Quadrance p (a0, a1, a2) (b0, b1, b2)).trans (tot_s_l09Quadrance p (a0, a1, a2) (b0, b1, b2) hp)⟩
  · cases hrun

theorem squad_b {p : Int} (hp : prB p = true) (a b : P3) : 0 ≤ s_l09Quadrance p a b ∧ s_l09Quadrance p a b < p := by
  obtain ⟨h1, h2⟩ := prB_Pr hp
  unfold s_l09Quadrance s_l01Mod
  exact ⟨Int.emod_nonneg _ (by omega), Int.emod_lt_of_pos _ (by omega)⟩
def S_i_IsField : Sums := ⟨tblS [], tblM []⟩
theorem SO_i_IsField : SumsOK Try.prog S_i_IsField := ⟨tblS_ok True.intro, tblM_ok True.intro⟩
def Fo_i_IsField (p : Int) : Option (Bool) :=
  (if (p == 3) = true then (if (p == 3) = true then some true else some false) else (if (p == 5) = true then (if (p == 5) = true then some true else some false) else (if (p == 7) = true then (if (p == 7) = true then some true else some false) else (if (p == 11) = true then (if (p == 11) = true then some true else some false) else (if (p == 13) = true then (if (p == 13) = true then some true else some false) else (if (p == 17) = true then (if (p == 17) = true then some true else some false) else (if (p == 19) = true then (if (p == 19) = true then some true else some false) else (if (p == 23) = true then (if (p == 23) = true then some true else some false) else (if (p == 29) = true then (if (p == 29) = true then some true else some false) else (if (p == 31) = true then some true else some false))))))))))
theorem eq_i_IsField (p : Int) : execT Try.prog S_i_IsField 66 15 (fun _ => 1000000) dec_b [.v (.int .i64 p)] = Fo_i_IsField p := by
  kernel_rfl
def i_IsField (p : Int) : Bool :=
  (if (p == 3) = true then (if (p == 3) = true then true else false) else (if (p == 5) = true then (if (p == 5) = true then true else false) else (if (p == 7) = true then (if (p == 7) = true then true else false) else (if (p == 11) = true then (if (p == 11) = true then true else false) else (if (p == 13) = true then (if (p == 13) = true then true else false) else (if (p == 17) = true then (if (p == 17) = true then true else false) else (if (p == 19) = true then (if (p == 19) = true then true else false) else (if (p == 23) = true then (if (p == 23) = true then true else false) else (if (p == 29) = true then (if (p == 29) = true then true else false) else (if (p == 31) = true then true else false))))))))))
theorem tot_i_IsField (p : Int) : Fo_i_IsField p = some (i_IsField p) := by
  unfold Fo_i_IsField i_IsField
  (try simp only [wI_eq])
  repeat' (first | with_reducible rfl | refine ite_opt (fun _ => ?_) (fun _ => ?_) | rfl)
def run_i_IsField : List PV → Option (Bool × List TR)
  | [.v (.int .i64 p)] => some (true, enc_b (i_IsField p))
  | _ => none
theorem sound_i_IsField : Sound Try.prog 66 run_i_IsField := by
  refine sound_of de_b SO_i_IsField (by kernel_rfl) Try.func66 Try.ntmps66 rfl (by kernel_rfl) ?_
  intro W pvs avs rs hargs hrun
  unfold run_i_IsField at hrun
  split at hrun
  · simp only [Option.some.injEq, Prod.mk.injEq] at hrun
    obtain ⟨hp, rfl⟩ := hrun
    rename_i p
    exact ⟨_, _, _, hargs, rfl, (eq_i_IsField p).trans (tot_i_IsField p)⟩
  · cases hrun

def S_i_asked : Sums := ⟨tblS [(66, run_i_IsField)], tblM []⟩
theorem SO_i_asked : SumsOK Try.prog S_i_asked := ⟨tblS_ok ⟨⟨Try.call66, sound_i_IsField⟩, True.intro⟩, tblM_ok True.intro⟩
def Fo_i_asked (p : Int) (rightk : Bool) (righth : Bool) : Option (Int) :=
  (if (!(i_IsField p)) = true then some 1 else (if (rightk) = true then (if (!righth) = true then some 2 else some 0) else none))
theorem eq_i_asked (p : Int) (rightk : Bool) (righth : Bool) : execT Try.prog S_i_asked 46 11 (fun _ => 1000000) dec_i [.v (.int .i64 p), .f (clo__b rightk righth)] = Fo_i_asked p rightk righth := by
  kernel_rfl
def i_asked (p : Int) (rightk righth : Bool) : Int := if i_IsField p = true then (if righth = true then 0 else 2) else 1
theorem asked_zero {p : Int} {k b : Bool} (h : i_asked p k b = 0) : i_IsField p = true ∧ b = true := by
  unfold i_asked at h
  cases h1 : i_IsField p <;> cases h2 : b <;> simp [h1, h2] at h ⊢
theorem i_IsField_ok {p : Int} (h : i_IsField p = true) : Pr p := by
  unfold Pr; simp [i_IsField] at h; omega
theorem asked_prB {p : Int} {k b : Bool} (h : ¬ (i_asked p k b != 0) = true) : prB p = true := Pr_prB (i_IsField_ok (asked_zero (by simpa using h)).1)
theorem asked_prB0 {p : Int} {k b : Bool} (h : (i_asked p k b == 0) = true) : prB p = true := asked_prB (by simpa using h)
theorem field_prB {p : Int} (h : i_IsField p = true) : prB p = true := Pr_prB (i_IsField_ok h)
theorem field_prB0 {p : Int} (h : ¬ (!(i_IsField p)) = true) : prB p = true := field_prB (by simpa using h)
theorem tot_i_asked (p : Int) (rightk : Bool) (righth : Bool) (hp : (rightk || !(i_IsField p)) = true) : Fo_i_asked p rightk righth = some (i_asked p rightk righth) := by
  unfold Fo_i_asked i_asked
  cases h : i_IsField p <;> cases rightk <;> cases righth <;> simp_all
def run_i_asked : List PV → Option (Bool × List TR)
  | [.v (.int .i64 p), .f rightg] => some ((okV (rightg [])) || !(i_IsField p), enc_i (i_asked p (okV (rightg [])) (boolV (rightg []))))
  | _ => none
theorem sound_i_asked : Sound Try.prog 46 run_i_asked := by
  refine sound_of de_i SO_i_asked (by kernel_rfl) Try.func46 Try.ntmps46 rfl (by kernel_rfl) ?_
  intro W pvs avs rs hargs hrun
  unfold run_i_asked at hrun
  split at hrun
  · simp only [Option.some.injEq, Prod.mk.injEq] at hrun
    obtain ⟨hp, rfl⟩ := hrun
    rename_i p rightg
    have hargs := All2.replace (l1 := [_]) hargs (y := .f (clo__b _ _)) fun b hb => fn_weaken hb (clo__b_ok _)
    exact ⟨_, _, _, hargs, rfl, (eq_i_asked p (okV (rightg [])) (boolV (rightg []))).trans (tot_i_asked p (okV (rightg [])) (boolV (rightg [])) hp)⟩
  · cases hrun

def S_s_l01In : Sums := ⟨tblS [], tblM []⟩
theorem SO_s_l01In : SumsOK Try.prog S_s_l01In := ⟨tblS_ok True.intro, tblM_ok True.intro⟩
def Fo_s_l01In (n_ : Int) (low : Int) (high : Int) : Option (Bool) :=
  (if (decide (n_ ≥ low)) = true then some (decide (n_ ≤ high)) else some false)
theorem eq_s_l01In (n_ : Int) (low : Int) (high : Int) : execT Try.prog S_s_l01In 100 15 (fun _ => 1000000) dec_b [.v (.int .i64 n_), .v (.int .i64 low), .v (.int .i64 high)] = Fo_s_l01In n_ low high := by
  kernel_rfl
def s_l01In (n_ : Int) (low : Int) (high : Int) : Bool :=
  (if (decide (n_ ≥ low)) = true then decide (n_ ≤ high) else false)
theorem tot_s_l01In (n_ : Int) (low : Int) (high : Int) : Fo_s_l01In n_ low high = some (s_l01In n_ low high) := by
  unfold Fo_s_l01In s_l01In
  (try simp only [wI_eq])
  repeat' (first | with_reducible rfl | refine ite_opt (fun _ => ?_) (fun _ => ?_) | rfl)
def run_s_l01In : List PV → Option (Bool × List TR)
  | [.v (.int .i64 n_), .v (.int .i64 low), .v (.int .i64 high)] => some (true, enc_b (s_l01In n_ low high))
  | _ => none
theorem sound_s_l01In : Sound Try.prog 100 run_s_l01In := by
  refine sound_of de_b SO_s_l01In (by kernel_rfl) Try.func100 Try.ntmps100 rfl (by kernel_rfl) ?_
  intro W pvs avs rs hargs hrun
  unfold run_s_l01In at hrun
  split at hrun
  · simp only [Option.some.injEq, Prod.mk.injEq] at hrun
    obtain ⟨hp, rfl⟩ := hrun
    rename_i n_ low high
    exact ⟨_, _, _, hargs, rfl, (eq_s_l01In n_ low high).trans (tot_s_l01In n_ low high)⟩
  · cases hrun

def S_s_l01Field : Sums := ⟨tblS [(100, run_s_l01In)], tblM []⟩
theorem SO_s_l01Field : SumsOK Try.prog S_s_l01Field := ⟨tblS_ok ⟨⟨Try.call100, sound_s_l01In⟩, True.intro⟩, tblM_ok True.intro⟩
def T_s_l01Field_0 (p : Int) (d : Int) : Tab := ⟨[.val (.int .i64 p), .junk, .val (.bool false), .val (.int .i64 d), .val (.int .i64 p), .val (.bool (s_l01In p 3 31)), .val (.bool (!(s_l01In p 3 31))), .junk, .junk, .junk, .junk, .junk, .junk, .junk, .junk, .junk, .junk, .junk], []⟩
def X_s_l01Field_0 (P : Program) (fu : Nat) (p : Int) (f : Nat) (d : Int) : Option (Bool) := loopK (exec P S_s_l01Field 18 (fun _ => fu + 100) (Code.sub [1, 1, 0, 1, 0, 0] (bodyF P 94))) f (T_s_l01Field_0 p d) (kBlock 0 (kSeq (fun s => exec P S_s_l01Field 18 (fun _ => fu + 100) (Code.sub [1, 1, 1] (bodyF P 94)) s (finT P 94 dec_b)) (finT P 94 dec_b)))
def B_s_l01Field_0 (p : Int) (rec0 : Int → Option (Bool)) (d : Int) : Option (Bool) :=
  (if (decide ((wI (d * d)) ≤ p)) = true then (if (!(d == 0)) = true then (if ((p.tmod d) == 0) = true then some false else rec0 (wI (d + 1))) else none) else some true)
def L_s_l01Field_0 (fu : Nat) (p : Int) : Nat → Int → Option (Bool)
  | 0, _ => none
  | f + 1, d => B_s_l01Field_0 p (L_s_l01Field_0 fu p f) d
theorem loop_s_l01Field_0 (fu : Nat) (p : Int) : ∀ (f : Nat) (d : Int), X_s_l01Field_0 Try.prog fu p f d = L_s_l01Field_0 fu p f d := by
  intro f
  induction f with
  | zero => intros; rfl
  | succ f ih =>
    intro d
    have h1 : X_s_l01Field_0 Try.prog fu p (f + 1) d = B_s_l01Field_0 p (X_s_l01Field_0 Try.prog fu p f) d := by kernel_rfl
    have h2 : X_s_l01Field_0 Try.prog fu p f = L_s_l01Field_0 fu p f := by funext d; exact ih d
    rw [h1, h2]
    rfl
def G_s_l01Field (p : Int) (lo0 : Int → Option (Bool)) : Option (Bool) :=
  (if (!(s_l01In p 3 31)) = true then some false else lo0 2)
def Fo_s_l01Field (fu : Nat) (p : Int) : Option (Bool) := G_s_l01Field p (L_s_l01Field_0 fu p (fu + 100))
theorem eqg_s_l01Field (fu : Nat) (p : Int) : execT Try.prog S_s_l01Field 94 18 (fun _ => fu + 100) dec_b [.v (.int .i64 p)] = G_s_l01Field p (L_s_l01Field_0 fu p (fu + 100)) := by
  have h1 : execT Try.prog S_s_l01Field 94 18 (fun _ => fu + 100) dec_b [.v (.int .i64 p)] = G_s_l01Field p (X_s_l01Field_0 Try.prog fu p (fu + 100)) := by kernel_rfl
  have c0 : X_s_l01Field_0 Try.prog fu p (fu + 100) = L_s_l01Field_0 fu p (fu + 100) := by funext d; exact loop_s_l01Field_0 fu p (fu + 100) d
  rw [h1, c0]
theorem eq_s_l01Field (fu : Nat) (p : Int) : execT Try.prog S_s_l01Field 94 18 (fun _ => fu + 100) dec_b [.v (.int .i64 p)] = Fo_s_l01Field fu p := eqg_s_l01Field fu p
def s_l01Field (p : Int) : Bool := i_IsField p
theorem range29 {p : Int} (h3 : 3 ≤ p) (h31 : p ≤ 31) : p = 3 ∨ p = 4 ∨ p = 5 ∨ p = 6 ∨ p = 7 ∨ p = 8 ∨ p = 9 ∨ p = 10 ∨ p = 11 ∨ p = 12 ∨ p = 13 ∨ p = 14 ∨ p = 15 ∨ p = 16 ∨ p = 17 ∨ p = 18 ∨ p = 19 ∨ p = 20 ∨ p = 21 ∨ p = 22 ∨ p = 23 ∨ p = 24 ∨ p = 25 ∨ p = 26 ∨ p = 27 ∨ p = 28 ∨ p = 29 ∨ p = 30 ∨ p = 31 := by omega
theorem tot_s_l01Field (p : Int) : Fo_s_l01Field 40 p = some (s_l01Field p) := by
  by_cases hr : 3 ≤ p ∧ p ≤ 31
  · obtain ⟨h3, h31⟩ := hr
    obtain rfl | rfl | rfl | rfl | rfl | rfl | rfl | rfl | rfl | rfl | rfl | rfl | rfl | rfl | rfl | rfl | rfl | rfl | rfl | rfl | rfl | rfl | rfl | rfl | rfl | rfl | rfl | rfl | rfl := range29 h3 h31
    all_goals kernel_rfl
  · have hin : s_l01In p 3 31 = false := by simp [s_l01In]; omega
    unfold Fo_s_l01Field G_s_l01Field
    rw [hin]
    show some false = some (i_IsField p)
    congr 1
    symm
    simp [i_IsField]; omega
def run_s_l01Field : List PV → Option (Bool × List TR)
  | [.v (.int .i64 p)] => some (true, enc_b (s_l01Field p))
  | _ => none
theorem sound_s_l01Field : Sound Try.prog 94 run_s_l01Field := by
  refine sound_of de_b SO_s_l01Field (by kernel_rfl) Try.func94 Try.ntmps94 rfl (by kernel_rfl) ?_
  intro W pvs avs rs hargs hrun
  unfold run_s_l01Field at hrun
  split at hrun
  · simp only [Option.some.injEq, Prod.mk.injEq] at hrun
    obtain ⟨hp, rfl⟩ := hrun
    rename_i p
    exact ⟨_, _, _, hargs, rfl, (eq_s_l01Field _ p).trans (tot_s_l01Field p)⟩
  · cases hrun

theorem sfield_prB0 {p : Int} (h : ¬ (!(s_l01Field p)) = true) : prB p = true := field_prB0 h
def S_s_l09Is : Sums := ⟨tblS [(100, run_s_l01In)], tblM []⟩
theorem SO_s_l09Is : SumsOK Try.prog S_s_l09Is := ⟨tblS_ok ⟨⟨Try.call100, sound_s_l01In⟩, True.intro⟩, tblM_ok True.intro⟩
def Fo_s_l09Is (p : Int) (a : Int × Int × Int) : Option (Bool) :=
  (if (!(s_l01In a.1 0 (wI (p - 1)))) = true then some false else (if (!(s_l01In a.2.1 0 (wI (p - 1)))) = true then some false else (if (a.1 == 0) = true then (if (!(s_l01In a.2.2 0 (wI (p - 1)))) = true then some false else (if (a.2.1 == 0) = true then some (a.2.2 == 1) else some (a.2.1 == 1))) else (if (!(s_l01In a.2.2 0 (wI (p - 1)))) = true then some false else (if (a.1 == 0) = true then some (a.2.2 == 1) else some (a.1 == 1))))))
theorem eq_s_l09Is (p : Int) (a : Int × Int × Int) : execT Try.prog S_s_l09Is 95 25 (fun _ => 1000000) dec_b [.v (.int .i64 p), .v (.agg ⟨[.int .i64 a.1, .int .i64 a.2.1, .int .i64 a.2.2]⟩)] = Fo_s_l09Is p a := by
  kernel_rfl
def s_l09Is (p : Int) (a : Int × Int × Int) : Bool :=
  (if (!(s_l01In a.1 0 (wrap64 (p - 1)))) = true then false else (if (!(s_l01In a.2.1 0 (wrap64 (p - 1)))) = true then false else (if (a.1 == 0) = true then (if (!(s_l01In a.2.2 0 (wrap64 (p - 1)))) = true then false else (if (a.2.1 == 0) = true then a.2.2 == 1 else a.2.1 == 1)) else (if (!(s_l01In a.2.2 0 (wrap64 (p - 1)))) = true then false else (if (a.1 == 0) = true then a.2.2 == 1 else a.1 == 1)))))
theorem tot_s_l09Is (p : Int) (a : Int × Int × Int) : Fo_s_l09Is p a = some (s_l09Is p a) := by
  unfold Fo_s_l09Is s_l09Is
  (try simp only [wI_eq])
  repeat' (first | with_reducible rfl | refine ite_opt (fun _ => ?_) (fun _ => ?_) | rfl)
def run_s_l09Is : List PV → Option (Bool × List TR)
  | [.v (.int .i64 p), .v (.agg ⟨[.int .i64 a0, .int .i64 a1, .int .i64 a2]⟩)] => some (true, enc_b (s_l09Is p (a0, a1, a2)))
  | _ => none
theorem sound_s_l09Is : Sound Try.prog 95 run_s_l09Is := by
  refine sound_of de_b SO_s_l09Is (by kernel_rfl) Try.func95 Try.ntmps95 rfl (by kernel_rfl) ?_
  intro W pvs avs rs hargs hrun
  unfold run_s_l09Is at hrun
  split at hrun
  · simp only [Option.some.injEq, Prod.mk.injEq] at hrun
    obtain ⟨hp, rfl⟩ := hrun
    rename_i p a0 a1 a2
    exact ⟨_, _, _, hargs, rfl, (eq_s_l09Is p (a0, a1, a2)).trans (tot_s_l09Is p (a0, a1, a2))⟩
  · cases hrun

def S_s_l09Code : Sums := ⟨tblS [(94, run_s_l01Field), (95, run_s_l09Is)], tblM []⟩
theorem SO_s_l09Code : SumsOK Try.prog S_s_l09Code := ⟨tblS_ok ⟨⟨Try.call94, sound_s_l01Field⟩, ⟨Try.call95, sound_s_l09Is⟩, True.intro⟩, tblM_ok True.intro⟩
def T_s_l09Code_0 (p : Int) (listn : Nat) (listl : List Int) (i : Int) : Tab := ⟨[.val (.int .i64 p), .row 4, .junk, .junk, .val (.int .i64 0), .val (.int .i64 i), .val (.int .i64 p), .val (.bool (s_l01Field p)), .val (.bool (!(s_l01Field p))), .junk, .junk, .junk, .junk, .junk, .junk, .junk, .junk, .junk, .junk, .junk, .junk, .junk], [(4, .ros listn (.ints listl))]⟩
def X_s_l09Code_0 (P : Program) (fu : Nat) (p : Int) (listn : Nat) (listl : List Int) (f : Nat) (i : Int) : Option (Int) := loopK (exec P S_s_l09Code 22 (fun _ => fu + 100) (Code.sub [1, 1, 0, 1, 0, 0] (bodyF P 50))) f (T_s_l09Code_0 p listn listl i) (kBlock 0 (kSeq (fun s => exec P S_s_l09Code 22 (fun _ => fu + 100) (Code.sub [1, 1, 1] (bodyF P 50)) s (finT P 50 dec_i)) (finT P 50 dec_i)))
def B_s_l09Code_0 (p : Int) (listn : Nat) (listl : List Int) (rec0 : Int → Option (Int)) (i : Int) : Option (Int) :=
  (if (decide (i < ((listn : Nat) : Int))) = true then (if (decide (0 ≤ i) && decide (i < ((listn : Nat) : Int))) = true then (if (Nat.ble (i.toNat * 3 + 3) listl.length) = true then (if (!(s_l09Is p (listl.getD (i.toNat * 3 + 0) 0, listl.getD (i.toNat * 3 + 1) 0, listl.getD (i.toNat * 3 + 2) 0))) = true then some 2 else rec0 (wI (i + 1))) else none) else none) else some 0)
def L_s_l09Code_0 (fu : Nat) (p : Int) (listn : Nat) (listl : List Int) : Nat → Int → Option (Int)
  | 0, _ => none
  | f + 1, i => B_s_l09Code_0 p listn listl (L_s_l09Code_0 fu p listn listl f) i
theorem loop_s_l09Code_0 (fu : Nat) (p : Int) (listn : Nat) (listl : List Int) : ∀ (f : Nat) (i : Int), X_s_l09Code_0 Try.prog fu p listn listl f i = L_s_l09Code_0 fu p listn listl f i := by
  intro f
  induction f with
  | zero => intros; rfl
  | succ f ih =>
    intro i
    have h1 : X_s_l09Code_0 Try.prog fu p listn listl (f + 1) i = B_s_l09Code_0 p listn listl (X_s_l09Code_0 Try.prog fu p listn listl f) i := by kernel_rfl
    have h2 : X_s_l09Code_0 Try.prog fu p listn listl f = L_s_l09Code_0 fu p listn listl f := by funext i; exact ih i
    rw [h1, h2]
    rfl
def G_s_l09Code (p : Int) (listn : Nat) (listl : List Int) (lo0 : Int → Option (Int)) : Option (Int) :=
  (if (!(s_l01Field p)) = true then some 1 else lo0 0)
def Fo_s_l09Code (fu : Nat) (p : Int) (listn : Nat) (listl : List Int) : Option (Int) := G_s_l09Code p listn listl (L_s_l09Code_0 fu p listn listl (fu + 100))
theorem eqg_s_l09Code (fu : Nat) (p : Int) (listn : Nat) (listl : List Int) : execT Try.prog S_s_l09Code 50 22 (fun _ => fu + 100) dec_i [.v (.int .i64 p), .s listn (.ints listl)] = G_s_l09Code p listn listl (L_s_l09Code_0 fu p listn listl (fu + 100)) := by
  have h1 : execT Try.prog S_s_l09Code 50 22 (fun _ => fu + 100) dec_i [.v (.int .i64 p), .s listn (.ints listl)] = G_s_l09Code p listn listl (X_s_l09Code_0 Try.prog fu p listn listl (fu + 100)) := by kernel_rfl
  have c0 : X_s_l09Code_0 Try.prog fu p listn listl (fu + 100) = L_s_l09Code_0 fu p listn listl (fu + 100) := by funext i; exact loop_s_l09Code_0 fu p listn listl (fu + 100) i
  rw [h1, c0]
theorem eq_s_l09Code (fu : Nat) (p : Int) (listn : Nat) (listl : List Int) : execT Try.prog S_s_l09Code 50 22 (fun _ => fu + 100) dec_i [.v (.int .i64 p), .s listn (.ints listl)] = Fo_s_l09Code fu p listn listl := eqg_s_l09Code fu p listn listl
def s_l09Code (p : Int) (l : List P3) : Int := if s_l01Field p = true then (if l.all (fun x => s_l09Is p x) = true then 0 else 2) else 1
theorem l09Code_prB {p : Int} {l : List P3} (h : ¬ (s_l09Code p l != 0) = true) : prB p = true := by
  refine Pr_prB (i_IsField_ok ?_)
  have h : s_l09Code p l = 0 := by simpa using h
  cases hf : i_IsField p
  · simp [s_l09Code, s_l01Field, hf] at h
  · rfl
theorem l09Code_prB0 {p : Int} {l : List P3} (h : (s_l09Code p l == 0) = true) : prB p = true := l09Code_prB (by simpa using h)
theorem tot_s_l09Code (p : Int) (listn : Nat) (listl : List Int) (hp : (lenB listn 3 listl) = true) : Fo_s_l09Code listn p listn listl = some (s_l09Code p (rows3 listn listl)) := by
  obtain ⟨hl, hn⟩ := lenB_ok hp
  have key : ∀ F, listn < F → (L_s_l09Code_0 listn p listn listl) F 0 = some (if (List.range listn).all (fun k => (fun x => s_l09Is p x) (listl.getD (k * 3) 0, listl.getD (k * 3 + 1) 0, listl.getD (k * 3 + 2) 0)) = true then 0 else 2) := by
    intro F hF
    refine scan hF (fun f k hk => ?_) fun f => ?_
    · show B_s_l09Code_0 p listn listl ((L_s_l09Code_0 listn p listn listl) f) (k : Int) = _
      unfold B_s_l09Code_0
      rw [if_pos (by simpa using hk), if_pos (by simpa using hk), if_pos (leb (by rw [hl, Int.toNat_natCast]; omega)), wrap_add1 hk (by omega)]
      first | rfl | (rw [wI_eq]; rfl)
    · show B_s_l09Code_0 p listn listl ((L_s_l09Code_0 listn p listn listl) f) ((listn : Nat) : Int) = _
      unfold B_s_l09Code_0
      rw [if_neg (by simp)]
  unfold Fo_s_l09Code G_s_l09Code
  show _ = some (if s_l01Field p = true then (if ((rows3 listn listl)).all (fun x => s_l09Is p x) = true then 0 else 2) else 1)
  cases hf : s_l01Field p
  · rfl
  · rw [key _ (by omega), all_rows3 listn listl]
    rfl
def run_s_l09Code : List PV → Option (Bool × List TR)
  | [.v (.int .i64 p), .s listn (.ints listl)] => some (lenB listn 3 listl, enc_i (s_l09Code p (rows3 listn listl)))
  | _ => none
theorem sound_s_l09Code : Sound Try.prog 50 run_s_l09Code := by
  refine sound_of de_i SO_s_l09Code (by kernel_rfl) Try.func50 Try.ntmps50 rfl (by kernel_rfl) ?_
  intro W pvs avs rs hargs hrun
  unfold run_s_l09Code at hrun
  split at hrun
  · simp only [Option.some.injEq, Prod.mk.injEq] at hrun
    obtain ⟨hp, rfl⟩ := hrun
    rename_i p listn listl
    exact ⟨_, _, _, hargs, rfl, (eq_s_l09Code _ p listn listl).trans (tot_s_l09Code p listn listl hp)⟩
  · cases hrun

def S_i_isNumber : Sums := ⟨tblS [], tblM []⟩
theorem SO_i_isNumber : SumsOK Try.prog S_i_isNumber := ⟨tblS_ok True.intro, tblM_ok True.intro⟩
def Fo_i_isNumber (p : Int) (x : Int) : Option (Bool) :=
  (if (decide (x ≥ 0)) = true then some (decide (x < p)) else some false)
theorem eq_i_isNumber (p : Int) (x : Int) : execT Try.prog S_i_isNumber 98 12 (fun _ => 1000000) dec_b [.v (.int .i64 p), .v (.int .i64 x)] = Fo_i_isNumber p x := by
  kernel_rfl
def i_isNumber (p : Int) (x : Int) : Bool :=
  (if (decide (x ≥ 0)) = true then decide (x < p) else false)
theorem tot_i_isNumber (p : Int) (x : Int) : Fo_i_isNumber p x = some (i_isNumber p x) := by
  unfold Fo_i_isNumber i_isNumber
  (try simp only [wI_eq])
  repeat' (first | with_reducible rfl | refine ite_opt (fun _ => ?_) (fun _ => ?_) | rfl)
def run_i_isNumber : List PV → Option (Bool × List TR)
  | [.v (.int .i64 p), .v (.int .i64 x)] => some (true, enc_b (i_isNumber p x))
  | _ => none
theorem sound_i_isNumber : Sound Try.prog 98 run_i_isNumber := by
  refine sound_of de_b SO_i_isNumber (by kernel_rfl) Try.func98 Try.ntmps98 rfl (by kernel_rfl) ?_
  intro W pvs avs rs hargs hrun
  unfold run_i_isNumber at hrun
  split at hrun
  · simp only [Option.some.injEq, Prod.mk.injEq] at hrun
    obtain ⟨hp, rfl⟩ := hrun
    rename_i p x
    exact ⟨_, _, _, hargs, rfl, (eq_i_isNumber p x).trans (tot_i_isNumber p x)⟩
  · cases hrun

def S_i_areNumbers : Sums := ⟨tblS [(98, run_i_isNumber)], tblM []⟩
theorem SO_i_areNumbers : SumsOK Try.prog S_i_areNumbers := ⟨tblS_ok ⟨⟨Try.call98, sound_i_isNumber⟩, True.intro⟩, tblM_ok True.intro⟩
def T_i_areNumbers_0 (p : Int) (listn : Nat) (listl : List Int) (t9 : Int) : Tab := ⟨[.val (.int .i64 p), .row 4, .junk, .junk, .val (.bool false), .junk, .junk, .row 4, .val (.int .i64 ((listn : Nat) : Int)), .val (.int .i64 t9), .junk, .junk, .junk, .junk, .junk, .junk, .junk, .junk], [(4, .ros listn (.ints listl))]⟩
def X_i_areNumbers_0 (P : Program) (fu : Nat) (p : Int) (listn : Nat) (listl : List Int) (f : Nat) (t9 : Int) : Option (Bool) := loopK (exec P S_i_areNumbers 18 (fun _ => fu + 100) (Code.sub [1, 0, 1, 0, 0] (bodyF P 75))) f (T_i_areNumbers_0 p listn listl t9) (kBlock 0 (kSeq (fun s => exec P S_i_areNumbers 18 (fun _ => fu + 100) (Code.sub [1, 1] (bodyF P 75)) s (finT P 75 dec_b)) (finT P 75 dec_b)))
def B_i_areNumbers_0 (p : Int) (listn : Nat) (listl : List Int) (rec0 : Int → Option (Bool)) (t9 : Int) : Option (Bool) :=
  (if (decide (t9 < ((listn : Nat) : Int))) = true then (if (decide (0 ≤ t9) && decide (t9 < ((listn : Nat) : Int))) = true then (if (Nat.ble (t9.toNat * 1 + 1) listl.length) = true then (if (!(i_isNumber p (listl.getD (t9.toNat * 1) 0))) = true then some false else rec0 (wI (t9 + 1))) else none) else none) else some true)
def L_i_areNumbers_0 (fu : Nat) (p : Int) (listn : Nat) (listl : List Int) : Nat → Int → Option (Bool)
  | 0, _ => none
  | f + 1, t9 => B_i_areNumbers_0 p listn listl (L_i_areNumbers_0 fu p listn listl f) t9
theorem loop_i_areNumbers_0 (fu : Nat) (p : Int) (listn : Nat) (listl : List Int) : ∀ (f : Nat) (t9 : Int), X_i_areNumbers_0 Try.prog fu p listn listl f t9 = L_i_areNumbers_0 fu p listn listl f t9 := by
  intro f
  induction f with
  | zero => intros; rfl
  | succ f ih =>
    intro t9
    have h1 : X_i_areNumbers_0 Try.prog fu p listn listl (f + 1) t9 = B_i_areNumbers_0 p listn listl (X_i_areNumbers_0 Try.prog fu p listn listl f) t9 := by kernel_rfl
    have h2 : X_i_areNumbers_0 Try.prog fu p listn listl f = L_i_areNumbers_0 fu p listn listl f := by funext t9; exact ih t9
    rw [h1, h2]
    rfl
def G_i_areNumbers (p : Int) (listn : Nat) (listl : List Int) (lo0 : Int → Option (Bool)) : Option (Bool) :=
  lo0 0
def Fo_i_areNumbers (fu : Nat) (p : Int) (listn : Nat) (listl : List Int) : Option (Bool) := G_i_areNumbers p listn listl (L_i_areNumbers_0 fu p listn listl (fu + 100))
theorem eqg_i_areNumbers (fu : Nat) (p : Int) (listn : Nat) (listl : List Int) : execT Try.prog S_i_areNumbers 75 18 (fun _ => fu + 100) dec_b [.v (.int .i64 p), .s listn (.ints listl)] = G_i_areNumbers p listn listl (L_i_areNumbers_0 fu p listn listl (fu + 100)) := by
  have h1 : execT Try.prog S_i_areNumbers 75 18 (fun _ => fu + 100) dec_b [.v (.int .i64 p), .s listn (.ints listl)] = G_i_areNumbers p listn listl (X_i_areNumbers_0 Try.prog fu p listn listl (fu + 100)) := by kernel_rfl
  have c0 : X_i_areNumbers_0 Try.prog fu p listn listl (fu + 100) = L_i_areNumbers_0 fu p listn listl (fu + 100) := by funext t9; exact loop_i_areNumbers_0 fu p listn listl (fu + 100) t9
  rw [h1, c0]
theorem eq_i_areNumbers (fu : Nat) (p : Int) (listn : Nat) (listl : List Int) : execT Try.prog S_i_areNumbers 75 18 (fun _ => fu + 100) dec_b [.v (.int .i64 p), .s listn (.ints listl)] = Fo_i_areNumbers fu p listn listl := eqg_i_areNumbers fu p listn listl
def i_areNumbers (p : Int) (l : List Int) : Bool := l.all (fun x => i_isNumber p x)
theorem tot_i_areNumbers (p : Int) (listn : Nat) (listl : List Int) (hp : (lenB listn 1 listl) = true) : Fo_i_areNumbers listn p listn listl = some (i_areNumbers p listl) := by
  obtain ⟨hl, hn⟩ := lenB_ok hp
  have key : ∀ F, listn < F → (L_i_areNumbers_0 listn p listn listl) F 0 = some (if (List.range listn).all (fun k => (fun x => i_isNumber p x) (listl.getD (k * 1) 0)) = true then true else false) := by
    intro F hF
    refine scan hF (fun f k hk => ?_) fun f => ?_
    · show B_i_areNumbers_0 p listn listl ((L_i_areNumbers_0 listn p listn listl) f) (k : Int) = _
      unfold B_i_areNumbers_0
      rw [if_pos (by simpa using hk), if_pos (by simpa using hk), if_pos (leb (by rw [hl, Int.toNat_natCast]; omega)), wrap_add1 hk (by omega)]
      first | rfl | (rw [wI_eq]; rfl)
    · show B_i_areNumbers_0 p listn listl ((L_i_areNumbers_0 listn p listn listl) f) ((listn : Nat) : Int) = _
      unfold B_i_areNumbers_0
      rw [if_neg (by simp)]
  unfold Fo_i_areNumbers G_i_areNumbers
  rw [key _ (by omega)]
  show _ = some ((listl).all (fun x => i_isNumber p x))
  rw [all_rows1 listn listl (by omega)]
  cases (List.range listn).all (fun k => (fun x => i_isNumber p x) (listl.getD (k * 1) 0)) <;> rfl
def run_i_areNumbers : List PV → Option (Bool × List TR)
  | [.v (.int .i64 p), .s listn (.ints listl)] => some (lenB listn 1 listl, enc_b (i_areNumbers p listl))
  | _ => none
theorem sound_i_areNumbers : Sound Try.prog 75 run_i_areNumbers := by
  refine sound_of de_b SO_i_areNumbers (by kernel_rfl) Try.func75 Try.ntmps75 rfl (by kernel_rfl) ?_
  intro W pvs avs rs hargs hrun
  unfold run_i_areNumbers at hrun
  split at hrun
  · simp only [Option.some.injEq, Prod.mk.injEq] at hrun
    obtain ⟨hp, rfl⟩ := hrun
    rename_i p listn listl
    exact ⟨_, _, _, hargs, rfl, (eq_i_areNumbers _ p listn listl).trans (tot_i_areNumbers p listn listl hp)⟩
  · cases hrun

def S_i_isPlace : Sums := ⟨tblS [(75, run_i_areNumbers)], tblM []⟩
theorem SO_i_isPlace : SumsOK Try.prog S_i_isPlace := ⟨tblS_ok ⟨⟨Try.call75, sound_i_areNumbers⟩, True.intro⟩, tblM_ok True.intro⟩
def Fo_i_isPlace (p : Int) (a : Int × Int × Int) : Option (Bool) :=
  (if (!(i_areNumbers p [a.1, a.2.1, a.2.2])) = true then some false else (if (a.1 != 0) = true then some (a.1 == 1) else (if (a.2.1 != 0) = true then some (a.2.1 == 1) else (if (a.2.2 != 0) = true then some (a.2.2 == 1) else some false))))
theorem eq_i_isPlace (p : Int) (a : Int × Int × Int) : execT Try.prog S_i_isPlace 56 20 (fun _ => 1000000) dec_b [.v (.int .i64 p), .v (.agg ⟨[.int .i64 a.1, .int .i64 a.2.1, .int .i64 a.2.2]⟩)] = Fo_i_isPlace p a := by
  kernel_rfl
def i_isPlace (p : Int) (a : Int × Int × Int) : Bool :=
  (if (!(i_areNumbers p [a.1, a.2.1, a.2.2])) = true then false else (if (a.1 != 0) = true then a.1 == 1 else (if (a.2.1 != 0) = true then a.2.1 == 1 else (if (a.2.2 != 0) = true then a.2.2 == 1 else false))))
theorem tot_i_isPlace (p : Int) (a : Int × Int × Int) : Fo_i_isPlace p a = some (i_isPlace p a) := by
  unfold Fo_i_isPlace i_isPlace
  (try simp only [wI_eq])
  repeat' (first | with_reducible rfl | refine ite_opt (fun _ => ?_) (fun _ => ?_) | rfl)
def run_i_isPlace : List PV → Option (Bool × List TR)
  | [.v (.int .i64 p), .v (.agg ⟨[.int .i64 a0, .int .i64 a1, .int .i64 a2]⟩)] => some (true, enc_b (i_isPlace p (a0, a1, a2)))
  | _ => none
theorem sound_i_isPlace : Sound Try.prog 56 run_i_isPlace := by
  refine sound_of de_b SO_i_isPlace (by kernel_rfl) Try.func56 Try.ntmps56 rfl (by kernel_rfl) ?_
  intro W pvs avs rs hargs hrun
  unfold run_i_isPlace at hrun
  split at hrun
  · simp only [Option.some.injEq, Prod.mk.injEq] at hrun
    obtain ⟨hp, rfl⟩ := hrun
    rename_i p a0 a1 a2
    exact ⟨_, _, _, hargs, rfl, (eq_i_isPlace p (a0, a1, a2)).trans (tot_i_isPlace p (a0, a1, a2))⟩
  · cases hrun

def S_i_isNullPlace : Sums := ⟨tblS [(53, run_i_placeProduct)], tblM []⟩
theorem SO_i_isNullPlace : SumsOK Try.prog S_i_isNullPlace := ⟨tblS_ok ⟨⟨Try.call53, sound_i_placeProduct⟩, True.intro⟩, tblM_ok True.intro⟩
def Fo_i_isNullPlace (p : Int) (a : Int × Int × Int) : Option (Bool) :=
  (if (prB p) = true then some ((i_placeProduct p a a) == 0) else none)
theorem eq_i_isNullPlace (p : Int) (a : Int × Int × Int) : execT Try.prog S_i_isNullPlace 61 10 (fun _ => 1000000) dec_b [.v (.int .i64 p), .v (.agg ⟨[.int .i64 a.1, .int .i64 a.2.1, .int .i64 a.2.2]⟩)] = Fo_i_isNullPlace p a := by
  kernel_rfl
def i_isNullPlace (p : Int) (a : Int × Int × Int) : Bool :=
  (i_placeProduct p a a) == 0
theorem tot_i_isNullPlace (p : Int) (a : Int × Int × Int) (hp : (prB p) = true) : Fo_i_isNullPlace p a = some (i_isNullPlace p a) := by
  try have h0 := prB_ne hp
  unfold Fo_i_isNullPlace i_isNullPlace
  (try simp only [wI_eq])
  repeat' (first | with_reducible rfl | with_reducible refine chk_opt hp ?_ | with_reducible refine chk_opt h0 ?_ | refine chk_opt (and_all hp fun _ => hp) ?_ | refine chk_opt (and_all hp fun _ => rfl) ?_ | refine ite_opt (fun _ => ?_) (fun _ => ?_) | rfl)
def run_i_isNullPlace : List PV → Option (Bool × List TR)
  | [.v (.int .i64 p), .v (.agg ⟨[.int .i64 a0, .int .i64 a1, .int .i64 a2]⟩)] => some (prB p, enc_b (i_isNullPlace p (a0, a1, a2)))
  | _ => none
theorem sound_i_isNullPlace : Sound Try.prog 61 run_i_isNullPlace := by
  refine sound_of de_b SO_i_isNullPlace (by kernel_rfl) Try.func61 Try.ntmps61 rfl (by kernel_rfl) ?_
  intro W pvs avs rs hargs hrun
  unfold run_i_isNullPlace at hrun
  split at hrun
  · simp only [Option.some.injEq, Prod.mk.injEq] at hrun
    obtain ⟨hp, rfl⟩ := hrun
    rename_i p a0 a1 a2
    exact ⟨_, _, _, hargs, rfl, (eq_i_isNullPlace p (a0, a1, a2)).trans (tot_i_isNullPlace p (a0, a1, a2) hp)⟩
  · cases hrun

def S_s_l09Null : Sums := ⟨tblS [(54, run_s_l09Product)], tblM []⟩
theorem SO_s_l09Null : SumsOK Try.prog S_s_l09Null := ⟨tblS_ok ⟨⟨Try.call54, sound_s_l09Product⟩, True.intro⟩, tblM_ok True.intro⟩
def Fo_s_l09Null (p : Int) (a : Int × Int × Int) : Option (Bool) :=
  (if (prB p) = true then some ((s_l09Product p a a) == 0) else none)
theorem eq_s_l09Null (p : Int) (a : Int × Int × Int) : execT Try.prog S_s_l09Null 70 10 (fun _ => 1000000) dec_b [.v (.int .i64 p), .v (.agg ⟨[.int .i64 a.1, .int .i64 a.2.1, .int .i64 a.2.2]⟩)] = Fo_s_l09Null p a := by
  kernel_rfl
def s_l09Null (p : Int) (a : Int × Int × Int) : Bool :=
  (s_l09Product p a a) == 0
theorem tot_s_l09Null (p : Int) (a : Int × Int × Int) (hp : (prB p) = true) : Fo_s_l09Null p a = some (s_l09Null p a) := by
  try have h0 := prB_ne hp
  unfold Fo_s_l09Null s_l09Null
  (try simp only [wI_eq])
  repeat' (first | with_reducible rfl | with_reducible refine chk_opt hp ?_ | with_reducible refine chk_opt h0 ?_ | refine chk_opt (and_all hp fun _ => hp) ?_ | refine chk_opt (and_all hp fun _ => rfl) ?_ | refine ite_opt (fun _ => ?_) (fun _ => ?_) | rfl)
def run_s_l09Null : List PV → Option (Bool × List TR)
  | [.v (.int .i64 p), .v (.agg ⟨[.int .i64 a0, .int .i64 a1, .int .i64 a2]⟩)] => some (prB p, enc_b (s_l09Null p (a0, a1, a2)))
  | _ => none
theorem sound_s_l09Null : Sound Try.prog 70 run_s_l09Null := by
  refine sound_of de_b SO_s_l09Null (by kernel_rfl) Try.func70 Try.ntmps70 rfl (by kernel_rfl) ?_
  intro W pvs avs rs hargs hrun
  unfold run_s_l09Null at hrun
  split at hrun
  · simp only [Option.some.injEq, Prod.mk.injEq] at hrun
    obtain ⟨hp, rfl⟩ := hrun
    rename_i p a0 a1 a2
    exact ⟨_, _, _, hargs, rfl, (eq_s_l09Null p (a0, a1, a2)).trans (tot_s_l09Null p (a0, a1, a2) hp)⟩
  · cases hrun

def S_i_makePlace : Sums := ⟨tblS [(99, run_i_divide)], tblM []⟩
theorem SO_i_makePlace : SumsOK Try.prog S_i_makePlace := ⟨tblS_ok ⟨⟨Try.call99, sound_i_divide⟩, True.intro⟩, tblM_ok True.intro⟩
def Fo_i_makePlace (p : Int) (list : Int × Int × Int) : Option (Int × Int × Int) :=
  (if (list.1 != 0) = true then (if (prB p) = true then (if (prB p) = true then (if (prB p) = true then some ((i_divide p list.1 list.1), (i_divide p list.2.1 list.1), (i_divide p list.2.2 list.1)) else none) else none) else none) else (if (list.2.1 != 0) = true then (if (prB p) = true then (if (prB p) = true then (if (prB p) = true then some ((i_divide p list.1 list.2.1), (i_divide p list.2.1 list.2.1), (i_divide p list.2.2 list.2.1)) else none) else none) else none) else (if (list.2.2 != 0) = true then (if (prB p) = true then (if (prB p) = true then (if (prB p) = true then some ((i_divide p list.1 list.2.2), (i_divide p list.2.1 list.2.2), (i_divide p list.2.2 list.2.2)) else none) else none) else none) else some (0, 0, 0))))
theorem eq_i_makePlace (p : Int) (list : Int × Int × Int) : execT Try.prog S_i_makePlace 76 31 (fun _ => 1000000) dec_a3 [.v (.int .i64 p), .v (.agg ⟨[.int .i64 list.1, .int .i64 list.2.1, .int .i64 list.2.2]⟩)] = Fo_i_makePlace p list := by
  kernel_rfl
def i_makePlace (p : Int) (list : Int × Int × Int) : Int × Int × Int :=
  (if (list.1 != 0) = true then ((i_divide p list.1 list.1), (i_divide p list.2.1 list.1), (i_divide p list.2.2 list.1)) else (if (list.2.1 != 0) = true then ((i_divide p list.1 list.2.1), (i_divide p list.2.1 list.2.1), (i_divide p list.2.2 list.2.1)) else (if (list.2.2 != 0) = true then ((i_divide p list.1 list.2.2), (i_divide p list.2.1 list.2.2), (i_divide p list.2.2 list.2.2)) else (0, 0, 0))))
theorem tot_i_makePlace (p : Int) (list : Int × Int × Int) (hp : (prB p) = true) : Fo_i_makePlace p list = some (i_makePlace p list) := by
  try have h0 := prB_ne hp
  unfold Fo_i_makePlace i_makePlace
  (try simp only [wI_eq])
  repeat' (first | with_reducible rfl | with_reducible refine chk_opt hp ?_ | with_reducible refine chk_opt h0 ?_ | refine chk_opt (and_all hp fun _ => hp) ?_ | refine chk_opt (and_all hp fun _ => rfl) ?_ | refine ite_opt (fun _ => ?_) (fun _ => ?_) | rfl)
def run_i_makePlace : List PV → Option (Bool × List TR)
  | [.v (.int .i64 p), .v (.agg ⟨[.int .i64 list0, .int .i64 list1, .int .i64 list2]⟩)] => some (prB p, enc_a3 (i_makePlace p (list0, list1, list2)))
  | _ => none
theorem sound_i_makePlace : Sound Try.prog 76 run_i_makePlace := by
  refine sound_of de_a3 SO_i_makePlace (by kernel_rfl) Try.func76 Try.ntmps76 rfl (by kernel_rfl) ?_
  intro W pvs avs rs hargs hrun
  unfold run_i_makePlace at hrun
  split at hrun
  · simp only [Option.some.injEq, Prod.mk.injEq] at hrun
    obtain ⟨hp, rfl⟩ := hrun
    rename_i p list0 list1 list2
    exact ⟨_, _, _, hargs, rfl, (eq_i_makePlace p (list0, list1, list2)).trans (tot_i_makePlace p (list0, list1, list2) hp)⟩
  · cases hrun

def S_i_join : Sums := ⟨tblS [(93, run_i_rest), (76, run_i_makePlace)], tblM []⟩
theorem SO_i_join : SumsOK Try.prog S_i_join := ⟨tblS_ok ⟨⟨Try.call93, sound_i_rest⟩, ⟨Try.call76, sound_i_makePlace⟩, True.intro⟩, tblM_ok True.intro⟩
def Fo_i_join (p : Int) (a : Int × Int × Int) (b : Int × Int × Int) : Option (Int × Int × Int) :=
  (if (prB p) = true then (if (prB p) = true then (if (prB p) = true then (if (prB p) = true then some (i_makePlace p ((i_rest p (wI ((wI (a.2.1 * b.2.2)) - (wI (a.2.2 * b.2.1))))), (i_rest p (wI ((wI (a.2.2 * b.1)) - (wI (a.1 * b.2.2))))), (i_rest p (wI ((wI (a.2.1 * b.1)) - (wI (a.1 * b.2.1))))))) else none) else none) else none) else none)
theorem eq_i_join (p : Int) (a : Int × Int × Int) (b : Int × Int × Int) : execT Try.prog S_i_join 49 49 (fun _ => 1000000) dec_a3 [.v (.int .i64 p), .v (.agg ⟨[.int .i64 a.1, .int .i64 a.2.1, .int .i64 a.2.2]⟩), .v (.agg ⟨[.int .i64 b.1, .int .i64 b.2.1, .int .i64 b.2.2]⟩)] = Fo_i_join p a b := by
  kernel_rfl
def i_join (p : Int) (a : Int × Int × Int) (b : Int × Int × Int) : Int × Int × Int :=
  (i_makePlace p ((i_rest p (wrap64 ((wrap64 (a.2.1 * b.2.2)) - (wrap64 (a.2.2 * b.2.1))))), (i_rest p (wrap64 ((wrap64 (a.2.2 * b.1)) - (wrap64 (a.1 * b.2.2))))), (i_rest p (wrap64 ((wrap64 (a.2.1 * b.1)) - (wrap64 (a.1 * b.2.1)))))))
theorem tot_i_join (p : Int) (a : Int × Int × Int) (b : Int × Int × Int) (hp : (prB p) = true) : Fo_i_join p a b = some (i_join p a b) := by
  try have h0 := prB_ne hp
  unfold Fo_i_join i_join
  (try simp only [wI_eq])
  repeat' (first | with_reducible rfl | with_reducible refine chk_opt hp ?_ | with_reducible refine chk_opt h0 ?_ | refine chk_opt (and_all hp fun _ => hp) ?_ | refine chk_opt (and_all hp fun _ => rfl) ?_ | refine ite_opt (fun _ => ?_) (fun _ => ?_) | rfl)
def run_i_join : List PV → Option (Bool × List TR)
  | [.v (.int .i64 p), .v (.agg ⟨[.int .i64 a0, .int .i64 a1, .int .i64 a2]⟩), .v (.agg ⟨[.int .i64 b0, .int .i64 b1, .int .i64 b2]⟩)] => some (prB p, enc_a3 (i_join p (a0, a1, a2) (b0, b1, b2)))
  | _ => none
theorem sound_i_join : Sound Try.prog 49 run_i_join := by
  refine sound_of de_a3 SO_i_join (by kernel_rfl) Try.func49 Try.ntmps49 rfl (by kernel_rfl) ?_
  intro W pvs avs rs hargs hrun
  unfold run_i_join at hrun
  split at hrun
  · simp only [Option.some.injEq, Prod.mk.injEq] at hrun
    obtain ⟨hp, rfl⟩ := hrun
    rename_i p a0 a1 a2 b0 b1 b2
    exact ⟨_, _, _, hargs, rfl, (eq_i_join p (a0, a1, a2) (b0, b1, b2)).trans (tot_i_join p (a0, a1, a2) (b0, b1, b2) hp)⟩
  · cases hrun

def S_s_l09Made : Sums := ⟨tblS [(96, run_s_l01Mod), (101, run_s_l01Inverse)], tblM []⟩
theorem SO_s_l09Made : SumsOK Try.prog S_s_l09Made := ⟨tblS_ok ⟨⟨Try.call96, sound_s_l01Mod⟩, ⟨Try.call101, sound_s_l01Inverse⟩, True.intro⟩, tblM_ok True.intro⟩
def Fo_s_l09Made (p : Int) (x : Int) (y : Int) (z : Int) : Option (Int × Int × Int) :=
  (if (prB p) = true then (if (prB p) = true then (if (prB p) = true then (if ((s_l01Mod x p) == 0) = true then (if ((s_l01Mod y p) == 0) = true then (if (prB p) = true then (if (!(p == 0)) = true then (if (!(p == 0)) = true then (if (!(p == 0)) = true then some ((wI ((s_l01Mod x p) * (s_l01Inverse (s_l01Mod z p) p))).tmod p, (wI ((s_l01Mod y p) * (s_l01Inverse (s_l01Mod z p) p))).tmod p, (wI ((s_l01Mod z p) * (s_l01Inverse (s_l01Mod z p) p))).tmod p) else none) else none) else none) else none) else (if (prB p) = true then (if (!(p == 0)) = true then (if (!(p == 0)) = true then (if (!(p == 0)) = true then some ((wI ((s_l01Mod x p) * (s_l01Inverse (s_l01Mod y p) p))).tmod p, (wI ((s_l01Mod y p) * (s_l01Inverse (s_l01Mod y p) p))).tmod p, (wI ((s_l01Mod z p) * (s_l01Inverse (s_l01Mod y p) p))).tmod p) else none) else none) else none) else none)) else (if ((s_l01Mod x p) == 0) = true then (if (prB p) = true then (if (!(p == 0)) = true then (if (!(p == 0)) = true then (if (!(p == 0)) = true then some ((wI ((s_l01Mod x p) * (s_l01Inverse (s_l01Mod z p) p))).tmod p, (wI ((s_l01Mod y p) * (s_l01Inverse (s_l01Mod z p) p))).tmod p, (wI ((s_l01Mod z p) * (s_l01Inverse (s_l01Mod z p) p))).tmod p) else none) else none) else none) else none) else (if (prB p) = true then (if (!(p == 0)) = true then (if (!(p == 0)) = true then (if (!(p == 0)) = true then some ((wI ((s_l01Mod x p) * (s_l01Inverse (s_l01Mod x p) p))).tmod p, (wI ((s_l01Mod y p) * (s_l01Inverse (s_l01Mod x p) p))).tmod p, (wI ((s_l01Mod z p) * (s_l01Inverse (s_l01Mod x p) p))).tmod p) else none) else none) else none) else none))) else none) else none) else none)
theorem eq_s_l09Made (p : Int) (x : Int) (y : Int) (z : Int) : execT Try.prog S_s_l09Made 78 54 (fun _ => 1000000) dec_a3 [.v (.int .i64 p), .v (.int .i64 x), .v (.int .i64 y), .v (.int .i64 z)] = Fo_s_l09Made p x y z := by
  kernel_rfl
def s_l09Made (p : Int) (x : Int) (y : Int) (z : Int) : Int × Int × Int :=
  (if ((s_l01Mod x p) == 0) = true then (if ((s_l01Mod y p) == 0) = true then ((wrap64 ((s_l01Mod x p) * (s_l01Inverse (s_l01Mod z p) p))).tmod p, (wrap64 ((s_l01Mod y p) * (s_l01Inverse (s_l01Mod z p) p))).tmod p, (wrap64 ((s_l01Mod z p) * (s_l01Inverse (s_l01Mod z p) p))).tmod p) else ((wrap64 ((s_l01Mod x p) * (s_l01Inverse (s_l01Mod y p) p))).tmod p, (wrap64 ((s_l01Mod y p) * (s_l01Inverse (s_l01Mod y p) p))).tmod p, (wrap64 ((s_l01Mod z p) * (s_l01Inverse (s_l01Mod y p) p))).tmod p)) else (if ((s_l01Mod x p) == 0) = true then ((wrap64 ((s_l01Mod x p) * (s_l01Inverse (s_l01Mod z p) p))).tmod p, (wrap64 ((s_l01Mod y p) * (s_l01Inverse (s_l01Mod z p) p))).tmod p, (wrap64 ((s_l01Mod z p) * (s_l01Inverse (s_l01Mod z p) p))).tmod p) else ((wrap64 ((s_l01Mod x p) * (s_l01Inverse (s_l01Mod x p) p))).tmod p, (wrap64 ((s_l01Mod y p) * (s_l01Inverse (s_l01Mod x p) p))).tmod p, (wrap64 ((s_l01Mod z p) * (s_l01Inverse (s_l01Mod x p) p))).tmod p)))
theorem tot_s_l09Made (p : Int) (x : Int) (y : Int) (z : Int) (hp : (prB p) = true) : Fo_s_l09Made p x y z = some (s_l09Made p x y z) := by
  try have h0 := prB_ne hp
  unfold Fo_s_l09Made s_l09Made
  (try simp only [wI_eq])
  repeat' (first | with_reducible rfl | with_reducible refine chk_opt hp ?_ | with_reducible refine chk_opt h0 ?_ | refine chk_opt (and_all hp fun _ => hp) ?_ | refine chk_opt (and_all hp fun _ => rfl) ?_ | refine ite_opt (fun _ => ?_) (fun _ => ?_) | rfl)
def run_s_l09Made : List PV → Option (Bool × List TR)
  | [.v (.int .i64 p), .v (.int .i64 x), .v (.int .i64 y), .v (.int .i64 z)] => some (prB p, enc_a3 (s_l09Made p x y z))
  | _ => none
theorem sound_s_l09Made : Sound Try.prog 78 run_s_l09Made := by
  refine sound_of de_a3 SO_s_l09Made (by kernel_rfl) Try.func78 Try.ntmps78 rfl (by kernel_rfl) ?_
  intro W pvs avs rs hargs hrun
  unfold run_s_l09Made at hrun
  split at hrun
  · simp only [Option.some.injEq, Prod.mk.injEq] at hrun
    obtain ⟨hp, rfl⟩ := hrun
    rename_i p x y z
    exact ⟨_, _, _, hargs, rfl, (eq_s_l09Made p x y z).trans (tot_s_l09Made p x y z hp)⟩
  · cases hrun

def S_s_l09Join : Sums := ⟨tblS [(78, run_s_l09Made)], tblM []⟩
theorem SO_s_l09Join : SumsOK Try.prog S_s_l09Join := ⟨tblS_ok ⟨⟨Try.call78, sound_s_l09Made⟩, True.intro⟩, tblM_ok True.intro⟩
def Fo_s_l09Join (p : Int) (a : Int × Int × Int) (b : Int × Int × Int) : Option (Int × Int × Int) :=
  (if (prB p) = true then some (s_l09Made p (wI ((wI (a.2.1 * b.2.2)) - (wI (a.2.2 * b.2.1)))) (wI ((wI (a.2.2 * b.1)) - (wI (a.1 * b.2.2)))) (wI ((wI (a.2.1 * b.1)) - (wI (a.1 * b.2.1))))) else none)
theorem eq_s_l09Join (p : Int) (a : Int × Int × Int) (b : Int × Int × Int) : execT Try.prog S_s_l09Join 51 42 (fun _ => 1000000) dec_a3 [.v (.int .i64 p), .v (.agg ⟨[.int .i64 a.1, .int .i64 a.2.1, .int .i64 a.2.2]⟩), .v (.agg ⟨[.int .i64 b.1, .int .i64 b.2.1, .int .i64 b.2.2]⟩)] = Fo_s_l09Join p a b := by
  kernel_rfl
def s_l09Join (p : Int) (a : Int × Int × Int) (b : Int × Int × Int) : Int × Int × Int :=
  (s_l09Made p (wrap64 ((wrap64 (a.2.1 * b.2.2)) - (wrap64 (a.2.2 * b.2.1)))) (wrap64 ((wrap64 (a.2.2 * b.1)) - (wrap64 (a.1 * b.2.2)))) (wrap64 ((wrap64 (a.2.1 * b.1)) - (wrap64 (a.1 * b.2.1)))))
theorem tot_s_l09Join (p : Int) (a : Int × Int × Int) (b : Int × Int × Int) (hp : (prB p) = true) : Fo_s_l09Join p a b = some (s_l09Join p a b) := by
  try have h0 := prB_ne hp
  unfold Fo_s_l09Join s_l09Join
  (try simp only [wI_eq])
  repeat' (first | with_reducible rfl | with_reducible refine chk_opt hp ?_ | with_reducible refine chk_opt h0 ?_ | refine chk_opt (and_all hp fun _ => hp) ?_ | refine chk_opt (and_all hp fun _ => rfl) ?_ | refine ite_opt (fun _ => ?_) (fun _ => ?_) | rfl)
def run_s_l09Join : List PV → Option (Bool × List TR)
  | [.v (.int .i64 p), .v (.agg ⟨[.int .i64 a0, .int .i64 a1, .int .i64 a2]⟩), .v (.agg ⟨[.int .i64 b0, .int .i64 b1, .int .i64 b2]⟩)] => some (prB p, enc_a3 (s_l09Join p (a0, a1, a2) (b0, b1, b2)))
  | _ => none
theorem sound_s_l09Join : Sound Try.prog 51 run_s_l09Join := by
  refine sound_of de_a3 SO_s_l09Join (by kernel_rfl) Try.func51 Try.ntmps51 rfl (by kernel_rfl) ?_
  intro W pvs avs rs hargs hrun
  unfold run_s_l09Join at hrun
  split at hrun
  · simp only [Option.some.injEq, Prod.mk.injEq] at hrun
    obtain ⟨hp, rfl⟩ := hrun
    rename_i p a0 a1 a2 b0 b1 b2
    exact ⟨_, _, _, hargs, rfl, (eq_s_l09Join p (a0, a1, a2) (b0, b1, b2)).trans (tot_s_l09Join p (a0, a1, a2) (b0, b1, b2) hp)⟩
  · cases hrun

def S_i_threeBy : Sums := ⟨tblS [(93, run_i_rest)], tblM []⟩
theorem SO_i_threeBy : SumsOK Try.prog S_i_threeBy := ⟨tblS_ok ⟨⟨Try.call93, sound_i_rest⟩, True.intro⟩, tblM_ok True.intro⟩
def Fo_i_threeBy (p : Int) (a : Int × Int × Int) (b : Int × Int × Int) (c : Int × Int × Int) : Option (Int) :=
  (if (prB p) = true then (if (prB p) = true then (if (prB p) = true then (if (prB p) = true then some (i_rest p (wI ((wI ((wI (a.1 * (i_rest p (wI ((wI (b.2.1 * c.2.2)) - (wI (b.2.2 * c.2.1))))))) + (wI (a.2.1 * (i_rest p (wI ((wI (b.2.2 * c.1)) - (wI (b.1 * c.2.2))))))))) + (wI (a.2.2 * (i_rest p (wI ((wI (b.1 * c.2.1)) - (wI (b.2.1 * c.1)))))))))) else none) else none) else none) else none)
theorem eq_i_threeBy (p : Int) (a : Int × Int × Int) (b : Int × Int × Int) (c : Int × Int × Int) : execT Try.prog S_i_threeBy 59 67 (fun _ => 1000000) dec_i [.v (.int .i64 p), .v (.agg ⟨[.int .i64 a.1, .int .i64 a.2.1, .int .i64 a.2.2]⟩), .v (.agg ⟨[.int .i64 b.1, .int .i64 b.2.1, .int .i64 b.2.2]⟩), .v (.agg ⟨[.int .i64 c.1, .int .i64 c.2.1, .int .i64 c.2.2]⟩)] = Fo_i_threeBy p a b c := by
  kernel_rfl
def i_threeBy (p : Int) (a : Int × Int × Int) (b : Int × Int × Int) (c : Int × Int × Int) : Int :=
  (i_rest p (wrap64 ((wrap64 ((wrap64 (a.1 * (i_rest p (wrap64 ((wrap64 (b.2.1 * c.2.2)) - (wrap64 (b.2.2 * c.2.1))))))) + (wrap64 (a.2.1 * (i_rest p (wrap64 ((wrap64 (b.2.2 * c.1)) - (wrap64 (b.1 * c.2.2))))))))) + (wrap64 (a.2.2 * (i_rest p (wrap64 ((wrap64 (b.1 * c.2.1)) - (wrap64 (b.2.1 * c.1))))))))))
theorem tot_i_threeBy (p : Int) (a : Int × Int × Int) (b : Int × Int × Int) (c : Int × Int × Int) (hp : (prB p) = true) : Fo_i_threeBy p a b c = some (i_threeBy p a b c) := by
  try have h0 := prB_ne hp
  unfold Fo_i_threeBy i_threeBy
  (try simp only [wI_eq])
  repeat' (first | with_reducible rfl | with_reducible refine chk_opt hp ?_ | with_reducible refine chk_opt h0 ?_ | refine chk_opt (and_all hp fun _ => hp) ?_ | refine chk_opt (and_all hp fun _ => rfl) ?_ | refine ite_opt (fun _ => ?_) (fun _ => ?_) | rfl)
def run_i_threeBy : List PV → Option (Bool × List TR)
  | [.v (.int .i64 p), .v (.agg ⟨[.int .i64 a0, .int .i64 a1, .int .i64 a2]⟩), .v (.agg ⟨[.int .i64 b0, .int .i64 b1, .int .i64 b2]⟩), .v (.agg ⟨[.int .i64 c0, .int .i64 c1, .int .i64 c2]⟩)] => some (prB p, enc_i (i_threeBy p (a0, a1, a2) (b0, b1, b2) (c0, c1, c2)))
  | _ => none
theorem sound_i_threeBy : Sound Try.prog 59 run_i_threeBy := by
  refine sound_of de_i SO_i_threeBy (by kernel_rfl) Try.func59 Try.ntmps59 rfl (by kernel_rfl) ?_
  intro W pvs avs rs hargs hrun
  unfold run_i_threeBy at hrun
  split at hrun
  · simp only [Option.some.injEq, Prod.mk.injEq] at hrun
    obtain ⟨hp, rfl⟩ := hrun
    rename_i p a0 a1 a2 b0 b1 b2 c0 c1 c2
    exact ⟨_, _, _, hargs, rfl, (eq_i_threeBy p (a0, a1, a2) (b0, b1, b2) (c0, c1, c2)).trans (tot_i_threeBy p (a0, a1, a2) (b0, b1, b2) (c0, c1, c2) hp)⟩
  · cases hrun

def S_s_l09All : Sums := ⟨tblS [], tblM []⟩
theorem SO_s_l09All : SumsOK Try.prog S_s_l09All := ⟨tblS_ok True.intro, tblM_ok True.intro⟩
def T_s_l09All_0 (p : Int) (l8 : List Int) (m8 : Nat) (z : Int) : Tab := ⟨[.val (.int .i64 p), .junk, .val (.slice none 0 0), .row 32, .val (.int .i64 z), .junk, .junk, .val (.agg ⟨[.int .i64 0, .int .i64 0, .int .i64 1]⟩), .junk, .junk, .junk, .junk, .junk, .junk, .junk, .junk, .junk, .junk, .junk, .junk, .junk, .junk, .junk, .junk, .junk, .junk, .junk, .junk, .junk, .junk, .junk, .junk, .junk, .junk, .junk, .junk], [(32, .row 25 3 m8 (.ints l8))]⟩
def T_s_l09All_3 (p : Int) (l8 : List Int) (m8 : Nat) (z : Int) (l8' : List Int) (m8' : Nat) (y : Int) : Tab := ⟨[.val (.int .i64 p), .junk, .val (.slice none 0 0), .row 32, .val (.int .i64 z), .val (.int .i64 y), .junk, .val (.agg ⟨[.int .i64 0, .int .i64 0, .int .i64 1]⟩), .junk, .val (.int .i64 z), .val (.int .i64 p), .val (.bool (decide (z < p))), .junk, .junk, .junk, .junk, .junk, .junk, .junk, .junk, .junk, .junk, .junk, .junk, .junk, .junk, .junk, .junk, .junk, .junk, .junk, .junk, .junk, .junk, .junk, .junk], [(32, .row 25 3 m8' (.ints l8'))]⟩
def T_s_l09All_4 (p : Int) (l8 : List Int) (m8 : Nat) (z : Int) (l8' : List Int) (m8' : Nat) (y : Int) (l8'' : List Int) (m8'' : Nat) (z' : Int) : Tab := ⟨[.val (.int .i64 p), .junk, .val (.slice none 0 0), .row 32, .val (.int .i64 z), .val (.int .i64 y), .val (.int .i64 z'), .val (.agg ⟨[.int .i64 0, .int .i64 0, .int .i64 1]⟩), .junk, .val (.int .i64 z), .val (.int .i64 p), .val (.bool (decide (z < p))), .junk, .junk, .junk, .junk, .junk, .junk, .junk, .val (.int .i64 y), .val (.int .i64 p), .val (.bool (decide (y < p))), .junk, .junk, .junk, .junk, .junk, .junk, .junk, .junk, .junk, .junk, .junk, .junk, .junk, .junk], [(32, .row 25 3 m8'' (.ints l8''))]⟩
def X_s_l09All_4 (P : Program) (fu : Nat) (p : Int) (l8 : List Int) (m8 : Nat) (z : Int) (l8' : List Int) (m8' : Nat) (y : Int) (rc0 : Tab → Option (Nat × List Int)) (rc3 : Tab → Option (Nat × List Int)) (f : Nat) (l8'' : List Int) (m8'' : Nat) (z' : Int) : Option (Nat × List Int) := loopK (exec P S_s_l09All 36 (fun _ => fu + 100) (Code.sub [1, 1, 1, 0, 1, 0, 0, 1, 0, 0, 1, 0, 0] (bodyF P 69))) f (T_s_l09All_4 p l8 m8 z l8' m8' y l8'' m8'' z') (kBlock 4 (kBlock 3 (kSeq (fun s => exec P S_s_l09All 36 (fun _ => fu + 100) (Code.sub [1, 1, 1, 0, 1, 0, 0, 1, 1] (bodyF P 69)) s (kLoop rc3 (T_s_l09All_3 p l8 m8 z l8' m8' y) (kBlock 2 (kSeq (fun s => exec P S_s_l09All 36 (fun _ => fu + 100) (Code.sub [1, 1, 1, 1] (bodyF P 69)) s (finT P 69 dec_l25_3)) (finT P 69 dec_l25_3))))) (kLoop rc3 (T_s_l09All_3 p l8 m8 z l8' m8' y) (kBlock 2 (kSeq (fun s => exec P S_s_l09All 36 (fun _ => fu + 100) (Code.sub [1, 1, 1, 1] (bodyF P 69)) s (finT P 69 dec_l25_3)) (finT P 69 dec_l25_3)))))))
def B_s_l09All_4 (p : Int) (l8 : List Int) (m8 : Nat) (z : Int) (l8' : List Int) (m8' : Nat) (y : Int) (rec0 : (List Int) → Nat → Int → Option (Nat × List Int)) (rec3 : (List Int) → Nat → Int → Option (Nat × List Int)) (rec4 : (List Int) → Nat → Int → Option (Nat × List Int)) (l8'' : List Int) (m8'' : Nat) (z' : Int) : Option (Nat × List Int) :=
  (if (decide (z' < p)) = true then (if (Nat.ble 1 1 && Nat.ble (m8'' + 1) 1000000 && Nat.beq 3 (3)) = true then rec4 (l8'' ++ [1, y, z']) (m8'' + 1) (wI (z' + 1)) else none) else rec3 l8'' m8'' (wI (y + 1)))
def L_s_l09All_4 (fu : Nat) (p : Int) (l8 : List Int) (m8 : Nat) (z : Int) (l8' : List Int) (m8' : Nat) (y : Int) (rec0 : (List Int) → Nat → Int → Option (Nat × List Int)) (rec3 : (List Int) → Nat → Int → Option (Nat × List Int)) : Nat → (List Int) → Nat → Int → Option (Nat × List Int)
  | 0, _, _, _ => none
  | f + 1, l8'', m8'', z' => B_s_l09All_4 p l8 m8 z l8' m8' y rec0 rec3 (L_s_l09All_4 fu p l8 m8 z l8' m8' y rec0 rec3 f) l8'' m8'' z'
theorem loop_s_l09All_4 (fu : Nat) (p : Int) (l8 : List Int) (m8 : Nat) (z : Int) (l8' : List Int) (m8' : Nat) (y : Int) (rc0 : Tab → Option (Nat × List Int)) (rc3 : Tab → Option (Nat × List Int)) : ∀ (f : Nat) (l8'' : List Int) (m8'' : Nat) (z' : Int), X_s_l09All_4 Try.prog fu p l8 m8 z l8' m8' y rc0 rc3 f l8'' m8'' z' = L_s_l09All_4 fu p l8 m8 z l8' m8' y (fun l8 m8 z => rc0 (T_s_l09All_0 p l8 m8 z)) (fun l8' m8' y => rc3 (T_s_l09All_3 p l8 m8 z l8' m8' y)) f l8'' m8'' z' := by
  intro f
  induction f with
  | zero => intros; rfl
  | succ f ih =>
    intro l8'' m8'' z'
    have h1 : X_s_l09All_4 Try.prog fu p l8 m8 z l8' m8' y rc0 rc3 (f + 1) l8'' m8'' z' = B_s_l09All_4 p l8 m8 z l8' m8' y (fun l8 m8 z => rc0 (T_s_l09All_0 p l8 m8 z)) (fun l8' m8' y => rc3 (T_s_l09All_3 p l8 m8 z l8' m8' y)) (X_s_l09All_4 Try.prog fu p l8 m8 z l8' m8' y rc0 rc3 f) l8'' m8'' z' := by kernel_rfl
    have h2 : X_s_l09All_4 Try.prog fu p l8 m8 z l8' m8' y rc0 rc3 f = L_s_l09All_4 fu p l8 m8 z l8' m8' y (fun l8 m8 z => rc0 (T_s_l09All_0 p l8 m8 z)) (fun l8' m8' y => rc3 (T_s_l09All_3 p l8 m8 z l8' m8' y)) f := by funext l8'' m8'' z'; exact ih l8'' m8'' z'
    rw [h1, h2]
    rfl
def X_s_l09All_3 (P : Program) (fu : Nat) (p : Int) (l8 : List Int) (m8 : Nat) (z : Int) (rc0 : Tab → Option (Nat × List Int)) (f : Nat) (l8' : List Int) (m8' : Nat) (y : Int) : Option (Nat × List Int) := loopK (exec P S_s_l09All 36 (fun _ => fu + 100) (Code.sub [1, 1, 1, 0, 1, 0, 0] (bodyF P 69))) f (T_s_l09All_3 p l8 m8 z l8' m8' y) (kBlock 2 (kSeq (fun s => exec P S_s_l09All 36 (fun _ => fu + 100) (Code.sub [1, 1, 1, 1] (bodyF P 69)) s (finT P 69 dec_l25_3)) (finT P 69 dec_l25_3)))
def B_s_l09All_3 (p : Int) (l8 : List Int) (m8 : Nat) (z : Int) (rec0 : (List Int) → Nat → Int → Option (Nat × List Int)) (lo4 : (List Int) → Nat → Int → Option (Nat × List Int)) (rec3 : (List Int) → Nat → Int → Option (Nat × List Int)) (l8' : List Int) (m8' : Nat) (y : Int) : Option (Nat × List Int) :=
  (if (decide (y < p)) = true then lo4 l8' m8' 0 else some (m8', l8'))
def L_s_l09All_3 (fu : Nat) (p : Int) (l8 : List Int) (m8 : Nat) (z : Int) (rec0 : (List Int) → Nat → Int → Option (Nat × List Int)) : Nat → (List Int) → Nat → Int → Option (Nat × List Int)
  | 0, _, _, _ => none
  | f + 1, l8', m8', y => B_s_l09All_3 p l8 m8 z rec0 (L_s_l09All_4 fu p l8 m8 z l8' m8' y rec0 (L_s_l09All_3 fu p l8 m8 z rec0 f) (fu + 100)) (L_s_l09All_3 fu p l8 m8 z rec0 f) l8' m8' y
theorem loop_s_l09All_3 (fu : Nat) (p : Int) (l8 : List Int) (m8 : Nat) (z : Int) (rc0 : Tab → Option (Nat × List Int)) : ∀ (f : Nat) (l8' : List Int) (m8' : Nat) (y : Int), X_s_l09All_3 Try.prog fu p l8 m8 z rc0 f l8' m8' y = L_s_l09All_3 fu p l8 m8 z (fun l8 m8 z => rc0 (T_s_l09All_0 p l8 m8 z)) f l8' m8' y := by
  intro f
  induction f with
  | zero => intros; rfl
  | succ f ih =>
    intro l8' m8' y
    have h1 : X_s_l09All_3 Try.prog fu p l8 m8 z rc0 (f + 1) l8' m8' y = B_s_l09All_3 p l8 m8 z (fun l8 m8 z => rc0 (T_s_l09All_0 p l8 m8 z)) (X_s_l09All_4 Try.prog fu p l8 m8 z l8' m8' y rc0 (fun t => loopK (exec Try.prog S_s_l09All 36 (fun _ => fu + 100) (Code.sub [1, 1, 1, 0, 1, 0, 0] (bodyF Try.prog 69))) f t (kBlock 2 (kSeq (fun s => exec Try.prog S_s_l09All 36 (fun _ => fu + 100) (Code.sub [1, 1, 1, 1] (bodyF Try.prog 69)) s (finT Try.prog 69 dec_l25_3)) (finT Try.prog 69 dec_l25_3)))) (fu + 100)) (X_s_l09All_3 Try.prog fu p l8 m8 z rc0 f) l8' m8' y := by kernel_rfl
    have h2 : X_s_l09All_3 Try.prog fu p l8 m8 z rc0 f = L_s_l09All_3 fu p l8 m8 z (fun l8 m8 z => rc0 (T_s_l09All_0 p l8 m8 z)) f := by funext l8' m8' y; exact ih l8' m8' y
    have c4 : (X_s_l09All_4 Try.prog fu p l8 m8 z l8' m8' y rc0 (fun t => loopK (exec Try.prog S_s_l09All 36 (fun _ => fu + 100) (Code.sub [1, 1, 1, 0, 1, 0, 0] (bodyF Try.prog 69))) f t (kBlock 2 (kSeq (fun s => exec Try.prog S_s_l09All 36 (fun _ => fu + 100) (Code.sub [1, 1, 1, 1] (bodyF Try.prog 69)) s (finT Try.prog 69 dec_l25_3)) (finT Try.prog 69 dec_l25_3)))) (fu + 100)) = L_s_l09All_4 fu p l8 m8 z l8' m8' y (fun l8 m8 z => rc0 (T_s_l09All_0 p l8 m8 z)) (X_s_l09All_3 Try.prog fu p l8 m8 z rc0 f) (fu + 100) := by funext l8'' m8'' z'; exact loop_s_l09All_4 fu p l8 m8 z l8' m8' y rc0 (fun t => loopK (exec Try.prog S_s_l09All 36 (fun _ => fu + 100) (Code.sub [1, 1, 1, 0, 1, 0, 0] (bodyF Try.prog 69))) f t (kBlock 2 (kSeq (fun s => exec Try.prog S_s_l09All 36 (fun _ => fu + 100) (Code.sub [1, 1, 1, 1] (bodyF Try.prog 69)) s (finT Try.prog 69 dec_l25_3)) (finT Try.prog 69 dec_l25_3)))) (fu + 100) l8'' m8'' z'
    rw [h1, c4, h2]
    rfl
def X_s_l09All_0 (P : Program) (fu : Nat) (p : Int) (f : Nat) (l8 : List Int) (m8 : Nat) (z : Int) : Option (Nat × List Int) := loopK (exec P S_s_l09All 36 (fun _ => fu + 100) (Code.sub [1, 1, 0, 1, 0, 0] (bodyF P 69))) f (T_s_l09All_0 p l8 m8 z) (kBlock 0 (kSeq (fun s => exec P S_s_l09All 36 (fun _ => fu + 100) (Code.sub [1, 1, 1] (bodyF P 69)) s (finT P 69 dec_l25_3)) (finT P 69 dec_l25_3)))
def B_s_l09All_0 (p : Int) (lo3 : (List Int) → Nat → Int → Option (Nat × List Int)) (rec0 : (List Int) → Nat → Int → Option (Nat × List Int)) (l8 : List Int) (m8 : Nat) (z : Int) : Option (Nat × List Int) :=
  (if (decide (z < p)) = true then (if (Nat.ble 1 1 && Nat.ble (m8 + 1) 1000000 && Nat.beq 3 (3)) = true then rec0 (l8 ++ [0, 1, z]) (m8 + 1) (wI (z + 1)) else none) else lo3 l8 m8 0)
def L_s_l09All_0 (fu : Nat) (p : Int) : Nat → (List Int) → Nat → Int → Option (Nat × List Int)
  | 0, _, _, _ => none
  | f + 1, l8, m8, z => B_s_l09All_0 p (L_s_l09All_3 fu p l8 m8 z (L_s_l09All_0 fu p f) (fu + 100)) (L_s_l09All_0 fu p f) l8 m8 z
theorem loop_s_l09All_0 (fu : Nat) (p : Int) : ∀ (f : Nat) (l8 : List Int) (m8 : Nat) (z : Int), X_s_l09All_0 Try.prog fu p f l8 m8 z = L_s_l09All_0 fu p f l8 m8 z := by
  intro f
  induction f with
  | zero => intros; rfl
  | succ f ih =>
    intro l8 m8 z
    have h1 : X_s_l09All_0 Try.prog fu p (f + 1) l8 m8 z = B_s_l09All_0 p (X_s_l09All_3 Try.prog fu p l8 m8 z (fun t => loopK (exec Try.prog S_s_l09All 36 (fun _ => fu + 100) (Code.sub [1, 1, 0, 1, 0, 0] (bodyF Try.prog 69))) f t (kBlock 0 (kSeq (fun s => exec Try.prog S_s_l09All 36 (fun _ => fu + 100) (Code.sub [1, 1, 1] (bodyF Try.prog 69)) s (finT Try.prog 69 dec_l25_3)) (finT Try.prog 69 dec_l25_3)))) (fu + 100)) (X_s_l09All_0 Try.prog fu p f) l8 m8 z := by kernel_rfl
    have h2 : X_s_l09All_0 Try.prog fu p f = L_s_l09All_0 fu p f := by funext l8 m8 z; exact ih l8 m8 z
    have c3 : (X_s_l09All_3 Try.prog fu p l8 m8 z (fun t => loopK (exec Try.prog S_s_l09All 36 (fun _ => fu + 100) (Code.sub [1, 1, 0, 1, 0, 0] (bodyF Try.prog 69))) f t (kBlock 0 (kSeq (fun s => exec Try.prog S_s_l09All 36 (fun _ => fu + 100) (Code.sub [1, 1, 1] (bodyF Try.prog 69)) s (finT Try.prog 69 dec_l25_3)) (finT Try.prog 69 dec_l25_3)))) (fu + 100)) = L_s_l09All_3 fu p l8 m8 z (X_s_l09All_0 Try.prog fu p f) (fu + 100) := by funext l8' m8' y; exact loop_s_l09All_3 fu p l8 m8 z (fun t => loopK (exec Try.prog S_s_l09All 36 (fun _ => fu + 100) (Code.sub [1, 1, 0, 1, 0, 0] (bodyF Try.prog 69))) f t (kBlock 0 (kSeq (fun s => exec Try.prog S_s_l09All 36 (fun _ => fu + 100) (Code.sub [1, 1, 1] (bodyF Try.prog 69)) s (finT Try.prog 69 dec_l25_3)) (finT Try.prog 69 dec_l25_3)))) (fu + 100) l8' m8' y
    rw [h1, c3, h2]
    rfl
def G_s_l09All (p : Int) (lo0 : (List Int) → Nat → Int → Option (Nat × List Int)) : Option (Nat × List Int) :=
  lo0 [0, 0, 1] 1 0
def Fo_s_l09All (fu : Nat) (p : Int) : Option (Nat × List Int) := G_s_l09All p (L_s_l09All_0 fu p (fu + 100))
theorem eqg_s_l09All (fu : Nat) (p : Int) : execT Try.prog S_s_l09All 69 36 (fun _ => fu + 100) dec_l25_3 [.v (.int .i64 p)] = G_s_l09All p (L_s_l09All_0 fu p (fu + 100)) := by
  have h1 : execT Try.prog S_s_l09All 69 36 (fun _ => fu + 100) dec_l25_3 [.v (.int .i64 p)] = G_s_l09All p (X_s_l09All_0 Try.prog fu p (fu + 100)) := by kernel_rfl
  have c0 : X_s_l09All_0 Try.prog fu p (fu + 100) = L_s_l09All_0 fu p (fu + 100) := by funext l8 m8 z; exact loop_s_l09All_0 fu p (fu + 100) l8 m8 z
  rw [h1, c0]
theorem eq_s_l09All (fu : Nat) (p : Int) : execT Try.prog S_s_l09All 69 36 (fun _ => fu + 100) dec_l25_3 [.v (.int .i64 p)] = Fo_s_l09All fu p := eqg_s_l09All fu p
def s_l09All (p : Int) : Nat × List Int := ((places p).length, flat3 (places p))
theorem lo4_s_l09All {p : Int} (hp : prB p = true) (fu : Nat) (l8 : List Int) (m8 : Nat) (z : Int) (l8' : List Int) (m8' : Nat) (y : Int) (rec0 rec3 : List Int → Nat → Int → Option (Nat × List Int)) {F m : Nat} {l : List Int} (hF : p.toNat < F) (hm : m ≤ 100000) :
    L_s_l09All_4 fu p l8 m8 z l8' m8' y rec0 rec3 F l m 0 = rec3 (l ++ flat3 ((List.range p.toNat).map fun z : Nat => (1, y, (z : Int)))) (m + p.toNat) (wI (y + 1)) := by
  obtain ⟨h1, h0, hpn⟩ := prB_nat hp
  exact gather (flat := flat3) flat3_app rfl (L := fun f l m i => L_s_l09All_4 fu p l8 m8 z l8' m8' y rec0 rec3 f l m i) (n := p.toNat) (b := 1) (M := 100000) (fun z : Nat => [(1, y, (z : Int))]) (K := rec3 (l ++ flat3 ((List.range p.toNat).map fun z : Nat => (1, y, (z : Int)))) (m + p.toNat) (wI (y + 1))) (l := l) (m := m) (F := F) (by intro k hk; first | (split <;> simp) | simp_all)
    (fun f k l m hk hm => by
      show B_s_l09All_4 p l8 m8 z l8' m8' y rec0 rec3 (L_s_l09All_4 fu p l8 m8 z l8' m8' y rec0 rec3 f) l m (k : Int) = _
      unfold B_s_l09All_4
      rw [if_pos (cndp hk), if_pos (by simp; omega), wrap_add1 hk (by omega)]
      rfl)
    (fun f hm => by
      show B_s_l09All_4 p l8 m8 z l8' m8' y rec0 rec3 (L_s_l09All_4 fu p l8 m8 z l8' m8' y rec0 rec3 f) (l ++ flat3 ((List.range p.toNat).flatMap (fun z : Nat => [(1, y, (z : Int))]))) (m + ((List.range p.toNat).flatMap (fun z : Nat => [(1, y, (z : Int))])).length) ((p.toNat : Nat) : Int) = _
      unfold B_s_l09All_4
      rw [if_neg (by simp; omega), flatMap_one]
      simp) hF hm
theorem lo3_s_l09All {p : Int} (hp : prB p = true) (fu : Nat) (l8 : List Int) (m8 : Nat) (z : Int) (rec0 : List Int → Nat → Int → Option (Nat × List Int)) {F m : Nat} {l : List Int} (hF : p.toNat < F) (hm : m ≤ 1000)  :
    L_s_l09All_3 fu p l8 m8 z rec0 F l m 0 = some (m + ((List.range p.toNat).flatMap fun y : Nat => (List.range p.toNat).map fun z : Nat => ((1 : Int), (y : Int), (z : Int))).length, l ++ flat3 ((List.range p.toNat).flatMap fun y : Nat => (List.range p.toNat).map fun z : Nat => ((1 : Int), (y : Int), (z : Int)))) := by
  obtain ⟨h1, h0, hpn⟩ := prB_nat hp
  exact gather (flat := flat3) flat3_app rfl (L := fun f l m i => L_s_l09All_3 fu p l8 m8 z rec0 f l m i) (n := p.toNat) (b := 31) (M := 1000) (fun y : Nat => (List.range p.toNat).map fun z : Nat => (1, (y : Int), (z : Int))) (K := some (m + ((List.range p.toNat).flatMap fun y : Nat => (List.range p.toNat).map fun z : Nat => ((1 : Int), (y : Int), (z : Int))).length, l ++ flat3 ((List.range p.toNat).flatMap fun y : Nat => (List.range p.toNat).map fun z : Nat => ((1 : Int), (y : Int), (z : Int))))) (l := l) (m := m) (F := F) (by intro k hk; first | (split <;> simp) | simp_all)
    (fun f k l m hk hm => by
      show B_s_l09All_3 p l8 m8 z rec0 (L_s_l09All_4 fu p l8 m8 z l m (k : Int) rec0 (L_s_l09All_3 fu p l8 m8 z rec0 f) (fu + 100)) (L_s_l09All_3 fu p l8 m8 z rec0 f) l m (k : Int) = _
      unfold B_s_l09All_3
      rw [if_pos (cndp hk), lo4_s_l09All hp fu _ _ _ _ _ _ _ _ (by omega) (by omega), wrap_add1 hk (by omega)]
      simp)
    (fun f hm => by
      show B_s_l09All_3 p l8 m8 z rec0 (L_s_l09All_4 fu p l8 m8 z (l ++ flat3 ((List.range p.toNat).flatMap (fun y : Nat => (List.range p.toNat).map fun z : Nat => (1, (y : Int), (z : Int))))) (m + ((List.range p.toNat).flatMap (fun y : Nat => (List.range p.toNat).map fun z : Nat => (1, (y : Int), (z : Int)))).length) ((p.toNat : Nat) : Int) rec0 (L_s_l09All_3 fu p l8 m8 z rec0 f) (fu + 100)) (L_s_l09All_3 fu p l8 m8 z rec0 f) (l ++ flat3 ((List.range p.toNat).flatMap (fun y : Nat => (List.range p.toNat).map fun z : Nat => (1, (y : Int), (z : Int))))) (m + ((List.range p.toNat).flatMap (fun y : Nat => (List.range p.toNat).map fun z : Nat => (1, (y : Int), (z : Int)))).length) ((p.toNat : Nat) : Int) = _
      unfold B_s_l09All_3
      rw [if_neg (by simp; omega)]) hF hm

theorem tot_s_l09All (p : Int) (hp : (prB p) = true) : Fo_s_l09All 1000000 p = some (s_l09All p) := by
  obtain ⟨h1, h0, hpn⟩ := prB_nat hp
  have hl : [0, 0, 1] ++ flat3 ((List.range p.toNat).map fun z : Nat => ((0 : Int), (1 : Int), (z : Int))) ++ flat3 ((List.range p.toNat).flatMap fun y : Nat => (List.range p.toNat).map fun z : Nat => ((1 : Int), (y : Int), (z : Int))) = flat3 (places p) := by
    unfold places
    show _ = flat3 ([(0, 0, 1)] ++ (_ ++ _))
    rw [flat3_app, flat3_app, List.append_assoc]
    rfl
  have hmm : 1 + ((List.range p.toNat).map fun z : Nat => ((0 : Int), (1 : Int), (z : Int))).length + ((List.range p.toNat).flatMap fun y : Nat => (List.range p.toNat).map fun z : Nat => ((1 : Int), (y : Int), (z : Int))).length = (places p).length := by
    unfold places
    rw [List.length_cons, List.length_append]
    omega
  unfold Fo_s_l09All G_s_l09All
  exact gather (flat := flat3) flat3_app rfl (L := fun f l m i => L_s_l09All_0 1000000 p f l m i) (n := p.toNat) (b := 1) (M := 1) (fun z : Nat => [(0, 1, (z : Int))]) (K := some ((places p).length, flat3 (places p))) (l := [0, 0, 1]) (m := 1) (F := (1000000 + 100)) (by intro k hk; first | (split <;> simp) | simp_all)
    (fun f k l m hk hm => by
      show B_s_l09All_0 p (L_s_l09All_3 1000000 p l m (k : Int) (L_s_l09All_0 1000000 p f) (1000000 + 100)) (L_s_l09All_0 1000000 p f) l m (k : Int) = _
      unfold B_s_l09All_0
      rw [if_pos (cndp hk), if_pos (by simp; omega), wrap_add1 hk (by omega)]
      rfl)
    (fun f hm => by
      show B_s_l09All_0 p (L_s_l09All_3 1000000 p ([0, 0, 1] ++ flat3 ((List.range p.toNat).flatMap (fun z : Nat => [(0, 1, (z : Int))]))) (1 + ((List.range p.toNat).flatMap (fun z : Nat => [(0, 1, (z : Int))])).length) ((p.toNat : Nat) : Int) (L_s_l09All_0 1000000 p f) (1000000 + 100)) (L_s_l09All_0 1000000 p f) ([0, 0, 1] ++ flat3 ((List.range p.toNat).flatMap (fun z : Nat => [(0, 1, (z : Int))]))) (1 + ((List.range p.toNat).flatMap (fun z : Nat => [(0, 1, (z : Int))])).length) ((p.toNat : Nat) : Int) = _
      unfold B_s_l09All_0
      simp only [flatMap_one]
      rw [if_neg (by simp; omega), lo3_s_l09All hp _ _ _ _ _ (by omega) (by simp; omega)]
      rw [hl, hmm]) (by omega) (Nat.le_refl _)
def run_s_l09All : List PV → Option (Bool × List TR)
  | [.v (.int .i64 p)] => some (prB p, enc_l25_3 (s_l09All p))
  | _ => none
theorem sound_s_l09All : Sound Try.prog 69 run_s_l09All := by
  refine sound_of de_l25_3 SO_s_l09All (by kernel_rfl) Try.func69 Try.ntmps69 rfl (by kernel_rfl) ?_
  intro W pvs avs rs hargs hrun
  unfold run_s_l09All at hrun
  split at hrun
  · simp only [Option.some.injEq, Prod.mk.injEq] at hrun
    obtain ⟨hp, rfl⟩ := hrun
    rename_i p
    exact ⟨_, _, _, hargs, rfl, (eq_s_l09All _ p).trans (tot_s_l09All p hp)⟩
  · cases hrun

def S_s_l09On : Sums := ⟨tblS [(69, run_s_l09All), (54, run_s_l09Product)], tblM []⟩
theorem SO_s_l09On : SumsOK Try.prog S_s_l09On := ⟨tblS_ok ⟨⟨Try.call69, sound_s_l09All⟩, ⟨Try.call54, sound_s_l09Product⟩, True.intro⟩, tblM_ok True.intro⟩
def T_s_l09On_0 (p : Int) (pole : Int × Int × Int) (l10 : List Int) (m10 : Nat) (i : Int) : Tab := ⟨[.val (.int .i64 p), .val (.agg ⟨[.int .i64 pole.1, .int .i64 pole.2.1, .int .i64 pole.2.2]⟩), .junk, .ptr 12 0, .val (.slice none 0 0), .row 36, .row 40, .val (.int .i64 i), .val (.int .i64 p), .row 36, .junk, .junk, .junk, .junk, .junk, .junk, .junk, .junk, .junk, .junk, .junk, .junk, .junk, .junk, .junk, .junk, .junk, .junk, .junk, .junk, .junk, .junk, .junk], [(12, .box 25 [.val (.int .i64 pole.1), .val (.int .i64 pole.2.1), .val (.int .i64 pole.2.2)]), (36, .row 25 3 ((s_l09All p).1) (.ints ((s_l09All p).2))), (40, .row 25 3 m10 (.ints l10))]⟩
def X_s_l09On_0 (P : Program) (fu : Nat) (p : Int) (pole : Int × Int × Int) (f : Nat) (l10 : List Int) (m10 : Nat) (i : Int) : Option (Nat × List Int) := loopK (exec P S_s_l09On 33 (fun _ => fu + 100) (Code.sub [1, 1, 0, 1, 0, 0] (bodyF P 71))) f (T_s_l09On_0 p pole l10 m10 i) (kBlock 0 (kSeq (fun s => exec P S_s_l09On 33 (fun _ => fu + 100) (Code.sub [1, 1, 1] (bodyF P 71)) s (finT P 71 dec_l25_3)) (finT P 71 dec_l25_3)))
def B_s_l09On_0 (p : Int) (pole : Int × Int × Int) (rec0 : (List Int) → Nat → Int → Option (Nat × List Int)) (l10 : List Int) (m10 : Nat) (i : Int) : Option (Nat × List Int) :=
  (if (decide (i < (((s_l09All p).1 : Nat) : Int))) = true then (if (decide (0 ≤ i) && decide (i < (((s_l09All p).1 : Nat) : Int))) = true then (if (Nat.ble (i.toNat * 3 + 3) (((s_l09All p).2).length)) = true then (if (prB p) = true then (if ((s_l09Product p (((s_l09All p).2).getD (i.toNat * 3 + 0) 0, ((s_l09All p).2).getD (i.toNat * 3 + 1) 0, ((s_l09All p).2).getD (i.toNat * 3 + 2) 0) pole) == 0) = true then (if (decide (0 ≤ i) && decide (i < (((s_l09All p).1 : Nat) : Int))) = true then (if (Nat.ble (i.toNat * 3 + 3) (((s_l09All p).2).length)) = true then (if (Nat.ble 1 1 && Nat.ble (m10 + 1) 1000000 && Nat.beq 3 (3)) = true then rec0 (l10 ++ [((s_l09All p).2).getD (i.toNat * 3 + 0) 0, ((s_l09All p).2).getD (i.toNat * 3 + 1) 0, ((s_l09All p).2).getD (i.toNat * 3 + 2) 0]) (m10 + 1) (wI (i + 1)) else none) else none) else none) else rec0 l10 m10 (wI (i + 1))) else none) else none) else none) else some (m10, l10))
def L_s_l09On_0 (fu : Nat) (p : Int) (pole : Int × Int × Int) : Nat → (List Int) → Nat → Int → Option (Nat × List Int)
  | 0, _, _, _ => none
  | f + 1, l10, m10, i => B_s_l09On_0 p pole (L_s_l09On_0 fu p pole f) l10 m10 i
theorem loop_s_l09On_0 (fu : Nat) (p : Int) (pole : Int × Int × Int) : ∀ (f : Nat) (l10 : List Int) (m10 : Nat) (i : Int), X_s_l09On_0 Try.prog fu p pole f l10 m10 i = L_s_l09On_0 fu p pole f l10 m10 i := by
  intro f
  induction f with
  | zero => intros; rfl
  | succ f ih =>
    intro l10 m10 i
    have h1 : X_s_l09On_0 Try.prog fu p pole (f + 1) l10 m10 i = B_s_l09On_0 p pole (X_s_l09On_0 Try.prog fu p pole f) l10 m10 i := by kernel_rfl
    have h2 : X_s_l09On_0 Try.prog fu p pole f = L_s_l09On_0 fu p pole f := by funext l10 m10 i; exact ih l10 m10 i
    rw [h1, h2]
    rfl
def G_s_l09On (p : Int) (pole : Int × Int × Int) (lo0 : (List Int) → Nat → Int → Option (Nat × List Int)) : Option (Nat × List Int) :=
  (if (prB p) = true then lo0 [] 0 0 else none)
def Fo_s_l09On (fu : Nat) (p : Int) (pole : Int × Int × Int) : Option (Nat × List Int) := G_s_l09On p pole (L_s_l09On_0 fu p pole (fu + 100))
theorem eqg_s_l09On (fu : Nat) (p : Int) (pole : Int × Int × Int) : execT Try.prog S_s_l09On 71 33 (fun _ => fu + 100) dec_l25_3 [.v (.int .i64 p), .v (.agg ⟨[.int .i64 pole.1, .int .i64 pole.2.1, .int .i64 pole.2.2]⟩)] = G_s_l09On p pole (L_s_l09On_0 fu p pole (fu + 100)) := by
  have h1 : execT Try.prog S_s_l09On 71 33 (fun _ => fu + 100) dec_l25_3 [.v (.int .i64 p), .v (.agg ⟨[.int .i64 pole.1, .int .i64 pole.2.1, .int .i64 pole.2.2]⟩)] = G_s_l09On p pole (X_s_l09On_0 Try.prog fu p pole (fu + 100)) := by kernel_rfl
  have c0 : X_s_l09On_0 Try.prog fu p pole (fu + 100) = L_s_l09On_0 fu p pole (fu + 100) := by funext l10 m10 i; exact loop_s_l09On_0 fu p pole (fu + 100) l10 m10 i
  rw [h1, c0]
theorem eq_s_l09On (fu : Nat) (p : Int) (pole : Int × Int × Int) : execT Try.prog S_s_l09On 71 33 (fun _ => fu + 100) dec_l25_3 [.v (.int .i64 p), .v (.agg ⟨[.int .i64 pole.1, .int .i64 pole.2.1, .int .i64 pole.2.2]⟩)] = Fo_s_l09On fu p pole := eqg_s_l09On fu p pole
def s_l09On (p : Int) (pole : P3) : Nat × List Int := (((places p).filter fun zz => (s_l09Product p zz pole == 0)).length, flat3 ((places p).filter fun zz => (s_l09Product p zz pole == 0)))
theorem lo0_s_l09On (p : Int) (pole : P3) (hp : prB p = true) {F : Nat} (hF : 993 < F) : L_s_l09On_0 1000000 p pole F [] 0 0 = some (((places p).filter fun zz => (s_l09Product p zz pole == 0)).length, flat3 ((places p).filter fun zz => (s_l09Product p zz pole == 0))) := by
  have hlen : (places p).length ≤ 993 := places_len hp
  exact gather (flat := flat3) flat3_app rfl (L := fun f l m i => L_s_l09On_0 1000000 p pole f l m i) (n := (places p).length) (b := 1) (M := 0) (fun k => if (s_l09Product p (R3 (flat3 (places p)) k) pole == 0) = true then [R3 (flat3 (places p)) k] else []) (K := (some (((places p).filter fun zz => (s_l09Product p zz pole == 0)).length, flat3 ((places p).filter fun zz => (s_l09Product p zz pole == 0))))) (l := []) (m := 0) (F := F) (by intro k hk; first | (split <;> simp) | simp_all)
    (fun f k l m hk hm => by
      show B_s_l09On_0 p pole (L_s_l09On_0 1000000 p pole f) l m (k : Int) = _
      unfold B_s_l09On_0
      have x0 : prB p = true := hp
      have e0 : decide (0 ≤ (k : Int)) = true := by simp
      have e1 := cnd hk
      have e3 : (k : Int).toNat = k := Int.toNat_natCast k
      have e4 := row3_ok (flat3_len _) hk
      have e5 : Nat.ble 1 1 = true := rfl
      have e6 : Nat.ble (m + 1) 1000000 = true := leb (by omega)
      rw [show s_l09All p = ((places p).length, flat3 (places p)) from rfl]
      simp only [e0, e1, e3, e4, e5, e6, beq33, x0, Bool.and_true, Bool.true_and, if_true, wrap_add1 hk (by omega)]
      have hq0 : ((s_l09Product p ((flat3 (places p)).getD (k * 3 + 0) 0, (flat3 (places p)).getD (k * 3 + 1) 0, (flat3 (places p)).getD (k * 3 + 2) 0) pole == 0)) = ((s_l09Product p (R3 (flat3 (places p)) k) pole == 0)) := rfl
      try rw [hq0]
      generalize ((s_l09Product p (R3 (flat3 (places p)) k) pole == 0)) = c0
      cases c0 <;> first
        | rfl
        | (simp only [Bool.false_eq_true, Bool.false_and, Bool.and_false, Bool.true_and, if_false, if_true]
           rw [show flat3 [] = [] from rfl, List.append_nil]
           rfl))
    (fun f hm => by
      show B_s_l09On_0 p pole (L_s_l09On_0 1000000 p pole f) ([] ++ flat3 ((List.range (places p).length).flatMap (fun k => if (s_l09Product p (R3 (flat3 (places p)) k) pole == 0) = true then [R3 (flat3 (places p)) k] else []))) (0 + ((List.range (places p).length).flatMap (fun k => if (s_l09Product p (R3 (flat3 (places p)) k) pole == 0) = true then [R3 (flat3 (places p)) k] else [])).length) (((places p).length : Nat) : Int) = _
      unfold B_s_l09On_0
      have hkp : ((List.range ((places p).length)).flatMap fun k => if (s_l09Product p (R3 (flat3 (places p)) k) pole == 0) = true then [R3 (flat3 (places p)) k] else []) = (rows3 ((places p).length) (flat3 (places p))).filter (fun zz => (s_l09Product p zz pole == 0)) := keep3 ((places p).length) (flat3 (places p)) (fun zz => (s_l09Product p zz pole == 0))
      rw [show s_l09All p = ((places p).length, flat3 (places p)) from rfl]
      rw [if_neg (by simp), hkp, rows3_flat3]
      simp) (by omega) (Nat.le_refl _)

theorem tot_s_l09On (p : Int) (pole : Int × Int × Int) (hp : (prB p) = true) : Fo_s_l09On 1000000 p pole = some (s_l09On p pole) := by
  unfold Fo_s_l09On G_s_l09On
  rw [if_pos hp]
  exact lo0_s_l09On p pole hp (by omega)
def run_s_l09On : List PV → Option (Bool × List TR)
  | [.v (.int .i64 p), .v (.agg ⟨[.int .i64 pole0, .int .i64 pole1, .int .i64 pole2]⟩)] => some (prB p, enc_l25_3 (s_l09On p (pole0, pole1, pole2)))
  | _ => none
theorem sound_s_l09On : Sound Try.prog 71 run_s_l09On := by
  refine sound_of de_l25_3 SO_s_l09On (by kernel_rfl) Try.func71 Try.ntmps71 rfl (by kernel_rfl) ?_
  intro W pvs avs rs hargs hrun
  unfold run_s_l09On at hrun
  split at hrun
  · simp only [Option.some.injEq, Prod.mk.injEq] at hrun
    obtain ⟨hp, rfl⟩ := hrun
    rename_i p pole0 pole1 pole2
    exact ⟨_, _, _, hargs, rfl, (eq_s_l09On _ p (pole0, pole1, pole2)).trans (tot_s_l09On p (pole0, pole1, pole2) hp)⟩
  · cases hrun

def S_i_placesOn_c1 : Sums := ⟨tblS [(53, run_i_placeProduct)], tblM []⟩
theorem SO_i_placesOn_c1 : SumsOK Try.prog S_i_placesOn_c1 := ⟨tblS_ok ⟨⟨Try.call53, sound_i_placeProduct⟩, True.intro⟩, tblM_ok True.intro⟩
def Fo_i_placesOn_c1 (a : Int × Int × Int) (c0 : Int) (c1 : Int × Int × Int) : Option (Bool) :=
  (if (prB c0) = true then some ((i_placeProduct c0 a c1) == 0) else none)
theorem eq_i_placesOn_c1 (a : Int × Int × Int) (c0 : Int) (c1 : Int × Int × Int) : execT Try.prog S_i_placesOn_c1 97 10 (fun _ => 1000000) dec_b [.v (.agg ⟨[.int .i64 a.1, .int .i64 a.2.1, .int .i64 a.2.2]⟩), .p [.int .i64 c0], .p [.int .i64 c1.1, .int .i64 c1.2.1, .int .i64 c1.2.2]] = Fo_i_placesOn_c1 a c0 c1 := by
  kernel_rfl
def i_placesOn_c1 (a : Int × Int × Int) (c0 : Int) (c1 : Int × Int × Int) : Bool :=
  (i_placeProduct c0 a c1) == 0
theorem tot_i_placesOn_c1 (a : Int × Int × Int) (c0 : Int) (c1 : Int × Int × Int) (hp : (prB c0) = true) : Fo_i_placesOn_c1 a c0 c1 = some (i_placesOn_c1 a c0 c1) := by
  try have h0 := prB_ne hp
  unfold Fo_i_placesOn_c1 i_placesOn_c1
  (try simp only [wI_eq])
  repeat' (first | with_reducible rfl | with_reducible refine chk_opt hp ?_ | with_reducible refine chk_opt h0 ?_ | refine chk_opt (and_all hp fun _ => hp) ?_ | refine chk_opt (and_all hp fun _ => rfl) ?_ | refine ite_opt (fun _ => ?_) (fun _ => ?_) | rfl)
def run_i_placesOn_c1 : List PV → Option (Bool × List TR)
  | [.v (.agg ⟨[.int .i64 a0, .int .i64 a1, .int .i64 a2]⟩), .p [.int .i64 c0], .p [.int .i64 c10, .int .i64 c11, .int .i64 c12]] => some (prB c0, enc_b (i_placesOn_c1 (a0, a1, a2) c0 (c10, c11, c12)))
  | _ => none
theorem sound_i_placesOn_c1 : Sound Try.prog 97 run_i_placesOn_c1 := by
  refine sound_of de_b SO_i_placesOn_c1 (by kernel_rfl) Try.func97 Try.ntmps97 rfl (by kernel_rfl) ?_
  intro W pvs avs rs hargs hrun
  unfold run_i_placesOn_c1 at hrun
  split at hrun
  · simp only [Option.some.injEq, Prod.mk.injEq] at hrun
    obtain ⟨hp, rfl⟩ := hrun
    rename_i a0 a1 a2 c0 c10 c11 c12
    exact ⟨_, _, _, hargs, rfl, (eq_i_placesOn_c1 (a0, a1, a2) c0 (c10, c11, c12)).trans (tot_i_placesOn_c1 (a0, a1, a2) c0 (c10, c11, c12) hp)⟩
  · cases hrun

def S_i_placesWith : Sums := ⟨tblS [], tblM []⟩
theorem SO_i_placesWith : SumsOK Try.prog S_i_placesWith := ⟨tblS_ok True.intro, tblM_ok True.intro⟩
def T_i_placesWith_0 (p : Int) (holdsk : (Int × Int × Int) → Bool) (holdsh : (Int × Int × Int) → Bool) (l13 : List Int) (m13 : Nat) (z : Int) : Tab := ⟨[.val (.int .i64 p), .fn (clo_a3_b holdsk holdsh), .junk, .junk, .val (.slice none 0 0), .row 52, .val (.int .i64 z), .junk, .junk, .junk, .junk, .junk, .val (.agg ⟨[.int .i64 0, .int .i64 0, .int .i64 1]⟩), .junk, .junk, .junk, .junk, .junk, .junk, .junk, .junk, .junk, .junk, .junk, .junk, .junk, .junk, .junk, .junk, .junk, .junk, .junk, .junk, .junk, .junk, .junk, .junk, .junk, .junk, .junk, .junk, .junk, .junk, .junk, .junk, .junk, .junk, .junk, .junk, .junk, .junk, .junk, .junk, .junk, .junk, .junk], [(52, .row 25 3 m13 (.ints l13))]⟩
def T_i_placesWith_3 (p : Int) (holdsk : (Int × Int × Int) → Bool) (holdsh : (Int × Int × Int) → Bool) (l13 : List Int) (m13 : Nat) (z : Int) (l13' : List Int) (m13' : Nat) (y : Int) : Tab := ⟨[.val (.int .i64 p), .fn (clo_a3_b holdsk holdsh), .junk, .junk, .val (.slice none 0 0), .row 52, .val (.int .i64 z), .val (.int .i64 y), .junk, .junk, .junk, .junk, .val (.agg ⟨[.int .i64 0, .int .i64 0, .int .i64 1]⟩), .junk, .val (.int .i64 z), .val (.int .i64 p), .val (.bool (decide (z < p))), .junk, .junk, .junk, .junk, .junk, .junk, .junk, .junk, .junk, .junk, .junk, .junk, .junk, .junk, .junk, .junk, .junk, .junk, .junk, .junk, .junk, .junk, .junk, .junk, .junk, .junk, .junk, .junk, .junk, .junk, .junk, .junk, .junk, .junk, .junk, .junk, .junk, .junk, .junk], [(52, .row 25 3 m13' (.ints l13'))]⟩
def T_i_placesWith_4 (p : Int) (holdsk : (Int × Int × Int) → Bool) (holdsh : (Int × Int × Int) → Bool) (l13 : List Int) (m13 : Nat) (z : Int) (l13' : List Int) (m13' : Nat) (y : Int) (l13'' : List Int) (m13'' : Nat) (z' : Int) : Tab := ⟨[.val (.int .i64 p), .fn (clo_a3_b holdsk holdsh), .junk, .junk, .val (.slice none 0 0), .row 52, .val (.int .i64 z), .val (.int .i64 y), .val (.int .i64 z'), .junk, .junk, .junk, .val (.agg ⟨[.int .i64 0, .int .i64 0, .int .i64 1]⟩), .junk, .val (.int .i64 z), .val (.int .i64 p), .val (.bool (decide (z < p))), .junk, .junk, .junk, .junk, .junk, .junk, .junk, .val (.int .i64 y), .val (.int .i64 p), .val (.bool (decide (y < p))), .junk, .junk, .junk, .junk, .junk, .junk, .junk, .junk, .junk, .junk, .junk, .junk, .junk, .junk, .junk, .junk, .junk, .junk, .junk, .junk, .junk, .junk, .junk, .junk, .junk, .junk, .junk, .junk, .junk], [(52, .row 25 3 m13'' (.ints l13''))]⟩
def T_i_placesWith_5 (p : Int) (holdsk : (Int × Int × Int) → Bool) (holdsh : (Int × Int × Int) → Bool) (l13 : List Int) (m13 : Nat) (z : Int) (l13' : List Int) (m13' : Nat) (y : Int) (l40 : List Int) (m40 : Nat) (t43 : Int) : Tab := ⟨[.val (.int .i64 p), .fn (clo_a3_b holdsk holdsh), .junk, .junk, .val (.slice none 0 0), .row 52, .val (.int .i64 z), .val (.int .i64 y), .junk, .row 160, .junk, .junk, .val (.agg ⟨[.int .i64 0, .int .i64 0, .int .i64 1]⟩), .junk, .val (.int .i64 z), .val (.int .i64 p), .val (.bool (decide (z < p))), .junk, .junk, .junk, .junk, .junk, .junk, .junk, .val (.int .i64 y), .val (.int .i64 p), .val (.bool (decide (y < p))), .junk, .junk, .junk, .junk, .junk, .junk, .junk, .junk, .junk, .junk, .junk, .junk, .junk, .junk, .row 52, .val (.int .i64 ((m13' : Nat) : Int)), .val (.int .i64 t43), .junk, .junk, .junk, .junk, .junk, .junk, .junk, .junk, .junk, .junk, .junk, .junk], [(52, .row 25 3 m13' (.ints l13')), (160, .row 25 3 m40 (.ints l40))]⟩
def X_i_placesWith_4 (P : Program) (fu : Nat) (p : Int) (holdsk : (Int × Int × Int) → Bool) (holdsh : (Int × Int × Int) → Bool) (l13 : List Int) (m13 : Nat) (z : Int) (l13' : List Int) (m13' : Nat) (y : Int) (rc0 : Tab → Option (Nat × List Int)) (rc3 : Tab → Option (Nat × List Int)) (f : Nat) (l13'' : List Int) (m13'' : Nat) (z' : Int) : Option (Nat × List Int) := loopK (exec P S_i_placesWith 56 (fun _ => fu + 100) (Code.sub [1, 1, 1, 0, 1, 0, 0, 1, 0, 0, 1, 0, 0] (bodyF P 67))) f (T_i_placesWith_4 p holdsk holdsh l13 m13 z l13' m13' y l13'' m13'' z') (kBlock 4 (kBlock 3 (kSeq (fun s => exec P S_i_placesWith 56 (fun _ => fu + 100) (Code.sub [1, 1, 1, 0, 1, 0, 0, 1, 1] (bodyF P 67)) s (kLoop rc3 (T_i_placesWith_3 p holdsk holdsh l13 m13 z l13' m13' y) (kBlock 2 (kSeq (fun s => exec P S_i_placesWith 56 (fun _ => fu + 100) (Code.sub [1, 1, 1, 1] (bodyF P 67)) s (finT P 67 dec_l25_3)) (finT P 67 dec_l25_3))))) (kLoop rc3 (T_i_placesWith_3 p holdsk holdsh l13 m13 z l13' m13' y) (kBlock 2 (kSeq (fun s => exec P S_i_placesWith 56 (fun _ => fu + 100) (Code.sub [1, 1, 1, 1] (bodyF P 67)) s (finT P 67 dec_l25_3)) (finT P 67 dec_l25_3)))))))
def B_i_placesWith_4 (p : Int) (holdsk : (Int × Int × Int) → Bool) (holdsh : (Int × Int × Int) → Bool) (l13 : List Int) (m13 : Nat) (z : Int) (l13' : List Int) (m13' : Nat) (y : Int) (rec0 : (List Int) → Nat → Int → Option (Nat × List Int)) (rec3 : (List Int) → Nat → Int → Option (Nat × List Int)) (rec4 : (List Int) → Nat → Int → Option (Nat × List Int)) (l13'' : List Int) (m13'' : Nat) (z' : Int) : Option (Nat × List Int) :=
  (if (decide (z' < p)) = true then (if (Nat.ble 1 1 && Nat.ble (m13'' + 1) 1000000 && Nat.beq 3 (3)) = true then rec4 (l13'' ++ [1, y, z']) (m13'' + 1) (wI (z' + 1)) else none) else rec3 l13'' m13'' (wI (y + 1)))
def L_i_placesWith_4 (fu : Nat) (p : Int) (holdsk : (Int × Int × Int) → Bool) (holdsh : (Int × Int × Int) → Bool) (l13 : List Int) (m13 : Nat) (z : Int) (l13' : List Int) (m13' : Nat) (y : Int) (rec0 : (List Int) → Nat → Int → Option (Nat × List Int)) (rec3 : (List Int) → Nat → Int → Option (Nat × List Int)) : Nat → (List Int) → Nat → Int → Option (Nat × List Int)
  | 0, _, _, _ => none
  | f + 1, l13'', m13'', z' => B_i_placesWith_4 p holdsk holdsh l13 m13 z l13' m13' y rec0 rec3 (L_i_placesWith_4 fu p holdsk holdsh l13 m13 z l13' m13' y rec0 rec3 f) l13'' m13'' z'
theorem loop_i_placesWith_4 (fu : Nat) (p : Int) (holdsk : (Int × Int × Int) → Bool) (holdsh : (Int × Int × Int) → Bool) (l13 : List Int) (m13 : Nat) (z : Int) (l13' : List Int) (m13' : Nat) (y : Int) (rc0 : Tab → Option (Nat × List Int)) (rc3 : Tab → Option (Nat × List Int)) : ∀ (f : Nat) (l13'' : List Int) (m13'' : Nat) (z' : Int), X_i_placesWith_4 Try.prog fu p holdsk holdsh l13 m13 z l13' m13' y rc0 rc3 f l13'' m13'' z' = L_i_placesWith_4 fu p holdsk holdsh l13 m13 z l13' m13' y (fun l13 m13 z => rc0 (T_i_placesWith_0 p holdsk holdsh l13 m13 z)) (fun l13' m13' y => rc3 (T_i_placesWith_3 p holdsk holdsh l13 m13 z l13' m13' y)) f l13'' m13'' z' := by
  intro f
  induction f with
  | zero => intros; rfl
  | succ f ih =>
    intro l13'' m13'' z'
    have h1 : X_i_placesWith_4 Try.prog fu p holdsk holdsh l13 m13 z l13' m13' y rc0 rc3 (f + 1) l13'' m13'' z' = B_i_placesWith_4 p holdsk holdsh l13 m13 z l13' m13' y (fun l13 m13 z => rc0 (T_i_placesWith_0 p holdsk holdsh l13 m13 z)) (fun l13' m13' y => rc3 (T_i_placesWith_3 p holdsk holdsh l13 m13 z l13' m13' y)) (X_i_placesWith_4 Try.prog fu p holdsk holdsh l13 m13 z l13' m13' y rc0 rc3 f) l13'' m13'' z' := by kernel_rfl
    have h2 : X_i_placesWith_4 Try.prog fu p holdsk holdsh l13 m13 z l13' m13' y rc0 rc3 f = L_i_placesWith_4 fu p holdsk holdsh l13 m13 z l13' m13' y (fun l13 m13 z => rc0 (T_i_placesWith_0 p holdsk holdsh l13 m13 z)) (fun l13' m13' y => rc3 (T_i_placesWith_3 p holdsk holdsh l13 m13 z l13' m13' y)) f := by funext l13'' m13'' z'; exact ih l13'' m13'' z'
    rw [h1, h2]
    rfl
def X_i_placesWith_5 (P : Program) (fu : Nat) (p : Int) (holdsk : (Int × Int × Int) → Bool) (holdsh : (Int × Int × Int) → Bool) (l13 : List Int) (m13 : Nat) (z : Int) (l13' : List Int) (m13' : Nat) (y : Int) (rc0 : Tab → Option (Nat × List Int)) (rc3 : Tab → Option (Nat × List Int)) (f : Nat) (l40 : List Int) (m40 : Nat) (t43 : Int) : Option (Nat × List Int) := loopK (exec P S_i_placesWith 56 (fun _ => fu + 100) (Code.sub [1, 1, 1, 1, 1, 0, 1, 0, 0] (bodyF P 67))) f (T_i_placesWith_5 p holdsk holdsh l13 m13 z l13' m13' y l40 m40 t43) (kBlock 6 (kSeq (fun s => exec P S_i_placesWith 56 (fun _ => fu + 100) (Code.sub [1, 1, 1, 1, 1, 1] (bodyF P 67)) s (finT P 67 dec_l25_3)) (finT P 67 dec_l25_3)))
def B_i_placesWith_5 (p : Int) (holdsk : (Int × Int × Int) → Bool) (holdsh : (Int × Int × Int) → Bool) (l13 : List Int) (m13 : Nat) (z : Int) (l13' : List Int) (m13' : Nat) (y : Int) (rec0 : (List Int) → Nat → Int → Option (Nat × List Int)) (rec3 : (List Int) → Nat → Int → Option (Nat × List Int)) (rec5 : (List Int) → Nat → Int → Option (Nat × List Int)) (l40 : List Int) (m40 : Nat) (t43 : Int) : Option (Nat × List Int) :=
  (if (decide (t43 < ((m13' : Nat) : Int))) = true then (if (decide (0 ≤ t43) && decide (t43 < ((m13' : Nat) : Int))) = true then (if (Nat.ble (t43.toNat * 3 + 3) l13'.length) = true then (if (holdsk (l13'.getD (t43.toNat * 3 + 0) 0, l13'.getD (t43.toNat * 3 + 1) 0, l13'.getD (t43.toNat * 3 + 2) 0)) = true then (if (holdsh (l13'.getD (t43.toNat * 3 + 0) 0, l13'.getD (t43.toNat * 3 + 1) 0, l13'.getD (t43.toNat * 3 + 2) 0)) = true then (if (Nat.ble 1 1 && Nat.ble (m40 + 1) 1000000 && Nat.beq 3 (3)) = true then rec5 (l40 ++ [l13'.getD (t43.toNat * 3 + 0) 0, l13'.getD (t43.toNat * 3 + 1) 0, l13'.getD (t43.toNat * 3 + 2) 0]) (m40 + 1) (wI (t43 + 1)) else none) else rec5 l40 m40 (wI (t43 + 1))) else none) else none) else none) else some (m40, l40))
def L_i_placesWith_5 (fu : Nat) (p : Int) (holdsk : (Int × Int × Int) → Bool) (holdsh : (Int × Int × Int) → Bool) (l13 : List Int) (m13 : Nat) (z : Int) (l13' : List Int) (m13' : Nat) (y : Int) (rec0 : (List Int) → Nat → Int → Option (Nat × List Int)) (rec3 : (List Int) → Nat → Int → Option (Nat × List Int)) : Nat → (List Int) → Nat → Int → Option (Nat × List Int)
  | 0, _, _, _ => none
  | f + 1, l40, m40, t43 => B_i_placesWith_5 p holdsk holdsh l13 m13 z l13' m13' y rec0 rec3 (L_i_placesWith_5 fu p holdsk holdsh l13 m13 z l13' m13' y rec0 rec3 f) l40 m40 t43
theorem loop_i_placesWith_5 (fu : Nat) (p : Int) (holdsk : (Int × Int × Int) → Bool) (holdsh : (Int × Int × Int) → Bool) (l13 : List Int) (m13 : Nat) (z : Int) (l13' : List Int) (m13' : Nat) (y : Int) (rc0 : Tab → Option (Nat × List Int)) (rc3 : Tab → Option (Nat × List Int)) : ∀ (f : Nat) (l40 : List Int) (m40 : Nat) (t43 : Int), X_i_placesWith_5 Try.prog fu p holdsk holdsh l13 m13 z l13' m13' y rc0 rc3 f l40 m40 t43 = L_i_placesWith_5 fu p holdsk holdsh l13 m13 z l13' m13' y (fun l13 m13 z => rc0 (T_i_placesWith_0 p holdsk holdsh l13 m13 z)) (fun l13' m13' y => rc3 (T_i_placesWith_3 p holdsk holdsh l13 m13 z l13' m13' y)) f l40 m40 t43 := by
  intro f
  induction f with
  | zero => intros; rfl
  | succ f ih =>
    intro l40 m40 t43
    have h1 : X_i_placesWith_5 Try.prog fu p holdsk holdsh l13 m13 z l13' m13' y rc0 rc3 (f + 1) l40 m40 t43 = B_i_placesWith_5 p holdsk holdsh l13 m13 z l13' m13' y (fun l13 m13 z => rc0 (T_i_placesWith_0 p holdsk holdsh l13 m13 z)) (fun l13' m13' y => rc3 (T_i_placesWith_3 p holdsk holdsh l13 m13 z l13' m13' y)) (X_i_placesWith_5 Try.prog fu p holdsk holdsh l13 m13 z l13' m13' y rc0 rc3 f) l40 m40 t43 := by kernel_rfl
    have h2 : X_i_placesWith_5 Try.prog fu p holdsk holdsh l13 m13 z l13' m13' y rc0 rc3 f = L_i_placesWith_5 fu p holdsk holdsh l13 m13 z l13' m13' y (fun l13 m13 z => rc0 (T_i_placesWith_0 p holdsk holdsh l13 m13 z)) (fun l13' m13' y => rc3 (T_i_placesWith_3 p holdsk holdsh l13 m13 z l13' m13' y)) f := by funext l40 m40 t43; exact ih l40 m40 t43
    rw [h1, h2]
    rfl
def X_i_placesWith_3 (P : Program) (fu : Nat) (p : Int) (holdsk : (Int × Int × Int) → Bool) (holdsh : (Int × Int × Int) → Bool) (l13 : List Int) (m13 : Nat) (z : Int) (rc0 : Tab → Option (Nat × List Int)) (f : Nat) (l13' : List Int) (m13' : Nat) (y : Int) : Option (Nat × List Int) := loopK (exec P S_i_placesWith 56 (fun _ => fu + 100) (Code.sub [1, 1, 1, 0, 1, 0, 0] (bodyF P 67))) f (T_i_placesWith_3 p holdsk holdsh l13 m13 z l13' m13' y) (kBlock 2 (kSeq (fun s => exec P S_i_placesWith 56 (fun _ => fu + 100) (Code.sub [1, 1, 1, 1] (bodyF P 67)) s (finT P 67 dec_l25_3)) (finT P 67 dec_l25_3)))
def B_i_placesWith_3 (p : Int) (holdsk : (Int × Int × Int) → Bool) (holdsh : (Int × Int × Int) → Bool) (l13 : List Int) (m13 : Nat) (z : Int) (rec0 : (List Int) → Nat → Int → Option (Nat × List Int)) (lo4 : (List Int) → Nat → Int → Option (Nat × List Int)) (lo5 : (List Int) → Nat → Int → Option (Nat × List Int)) (rec3 : (List Int) → Nat → Int → Option (Nat × List Int)) (l13' : List Int) (m13' : Nat) (y : Int) : Option (Nat × List Int) :=
  (if (decide (y < p)) = true then lo4 l13' m13' 0 else lo5 [] 0 0)
def L_i_placesWith_3 (fu : Nat) (p : Int) (holdsk : (Int × Int × Int) → Bool) (holdsh : (Int × Int × Int) → Bool) (l13 : List Int) (m13 : Nat) (z : Int) (rec0 : (List Int) → Nat → Int → Option (Nat × List Int)) : Nat → (List Int) → Nat → Int → Option (Nat × List Int)
  | 0, _, _, _ => none
  | f + 1, l13', m13', y => B_i_placesWith_3 p holdsk holdsh l13 m13 z rec0 (L_i_placesWith_4 fu p holdsk holdsh l13 m13 z l13' m13' y rec0 (L_i_placesWith_3 fu p holdsk holdsh l13 m13 z rec0 f) (fu + 100)) (L_i_placesWith_5 fu p holdsk holdsh l13 m13 z l13' m13' y rec0 (L_i_placesWith_3 fu p holdsk holdsh l13 m13 z rec0 f) (fu + 100)) (L_i_placesWith_3 fu p holdsk holdsh l13 m13 z rec0 f) l13' m13' y
theorem loop_i_placesWith_3 (fu : Nat) (p : Int) (holdsk : (Int × Int × Int) → Bool) (holdsh : (Int × Int × Int) → Bool) (l13 : List Int) (m13 : Nat) (z : Int) (rc0 : Tab → Option (Nat × List Int)) : ∀ (f : Nat) (l13' : List Int) (m13' : Nat) (y : Int), X_i_placesWith_3 Try.prog fu p holdsk holdsh l13 m13 z rc0 f l13' m13' y = L_i_placesWith_3 fu p holdsk holdsh l13 m13 z (fun l13 m13 z => rc0 (T_i_placesWith_0 p holdsk holdsh l13 m13 z)) f l13' m13' y := by
  intro f
  induction f with
  | zero => intros; rfl
  | succ f ih =>
    intro l13' m13' y
    have h1 : X_i_placesWith_3 Try.prog fu p holdsk holdsh l13 m13 z rc0 (f + 1) l13' m13' y = B_i_placesWith_3 p holdsk holdsh l13 m13 z (fun l13 m13 z => rc0 (T_i_placesWith_0 p holdsk holdsh l13 m13 z)) (X_i_placesWith_4 Try.prog fu p holdsk holdsh l13 m13 z l13' m13' y rc0 (fun t => loopK (exec Try.prog S_i_placesWith 56 (fun _ => fu + 100) (Code.sub [1, 1, 1, 0, 1, 0, 0] (bodyF Try.prog 67))) f t (kBlock 2 (kSeq (fun s => exec Try.prog S_i_placesWith 56 (fun _ => fu + 100) (Code.sub [1, 1, 1, 1] (bodyF Try.prog 67)) s (finT Try.prog 67 dec_l25_3)) (finT Try.prog 67 dec_l25_3)))) (fu + 100)) (X_i_placesWith_5 Try.prog fu p holdsk holdsh l13 m13 z l13' m13' y rc0 (fun t => loopK (exec Try.prog S_i_placesWith 56 (fun _ => fu + 100) (Code.sub [1, 1, 1, 0, 1, 0, 0] (bodyF Try.prog 67))) f t (kBlock 2 (kSeq (fun s => exec Try.prog S_i_placesWith 56 (fun _ => fu + 100) (Code.sub [1, 1, 1, 1] (bodyF Try.prog 67)) s (finT Try.prog 67 dec_l25_3)) (finT Try.prog 67 dec_l25_3)))) (fu + 100)) (X_i_placesWith_3 Try.prog fu p holdsk holdsh l13 m13 z rc0 f) l13' m13' y := by kernel_rfl
    have h2 : X_i_placesWith_3 Try.prog fu p holdsk holdsh l13 m13 z rc0 f = L_i_placesWith_3 fu p holdsk holdsh l13 m13 z (fun l13 m13 z => rc0 (T_i_placesWith_0 p holdsk holdsh l13 m13 z)) f := by funext l13' m13' y; exact ih l13' m13' y
    have c4 : (X_i_placesWith_4 Try.prog fu p holdsk holdsh l13 m13 z l13' m13' y rc0 (fun t => loopK (exec Try.prog S_i_placesWith 56 (fun _ => fu + 100) (Code.sub [1, 1, 1, 0, 1, 0, 0] (bodyF Try.prog 67))) f t (kBlock 2 (kSeq (fun s => exec Try.prog S_i_placesWith 56 (fun _ => fu + 100) (Code.sub [1, 1, 1, 1] (bodyF Try.prog 67)) s (finT Try.prog 67 dec_l25_3)) (finT Try.prog 67 dec_l25_3)))) (fu + 100)) = L_i_placesWith_4 fu p holdsk holdsh l13 m13 z l13' m13' y (fun l13 m13 z => rc0 (T_i_placesWith_0 p holdsk holdsh l13 m13 z)) (X_i_placesWith_3 Try.prog fu p holdsk holdsh l13 m13 z rc0 f) (fu + 100) := by funext l13'' m13'' z'; exact loop_i_placesWith_4 fu p holdsk holdsh l13 m13 z l13' m13' y rc0 (fun t => loopK (exec Try.prog S_i_placesWith 56 (fun _ => fu + 100) (Code.sub [1, 1, 1, 0, 1, 0, 0] (bodyF Try.prog 67))) f t (kBlock 2 (kSeq (fun s => exec Try.prog S_i_placesWith 56 (fun _ => fu + 100) (Code.sub [1, 1, 1, 1] (bodyF Try.prog 67)) s (finT Try.prog 67 dec_l25_3)) (finT Try.prog 67 dec_l25_3)))) (fu + 100) l13'' m13'' z'
    have c5 : (X_i_placesWith_5 Try.prog fu p holdsk holdsh l13 m13 z l13' m13' y rc0 (fun t => loopK (exec Try.prog S_i_placesWith 56 (fun _ => fu + 100) (Code.sub [1, 1, 1, 0, 1, 0, 0] (bodyF Try.prog 67))) f t (kBlock 2 (kSeq (fun s => exec Try.prog S_i_placesWith 56 (fun _ => fu + 100) (Code.sub [1, 1, 1, 1] (bodyF Try.prog 67)) s (finT Try.prog 67 dec_l25_3)) (finT Try.prog 67 dec_l25_3)))) (fu + 100)) = L_i_placesWith_5 fu p holdsk holdsh l13 m13 z l13' m13' y (fun l13 m13 z => rc0 (T_i_placesWith_0 p holdsk holdsh l13 m13 z)) (X_i_placesWith_3 Try.prog fu p holdsk holdsh l13 m13 z rc0 f) (fu + 100) := by funext l40 m40 t43; exact loop_i_placesWith_5 fu p holdsk holdsh l13 m13 z l13' m13' y rc0 (fun t => loopK (exec Try.prog S_i_placesWith 56 (fun _ => fu + 100) (Code.sub [1, 1, 1, 0, 1, 0, 0] (bodyF Try.prog 67))) f t (kBlock 2 (kSeq (fun s => exec Try.prog S_i_placesWith 56 (fun _ => fu + 100) (Code.sub [1, 1, 1, 1] (bodyF Try.prog 67)) s (finT Try.prog 67 dec_l25_3)) (finT Try.prog 67 dec_l25_3)))) (fu + 100) l40 m40 t43
    rw [h1, c4, c5, h2]
    rfl
def X_i_placesWith_0 (P : Program) (fu : Nat) (p : Int) (holdsk : (Int × Int × Int) → Bool) (holdsh : (Int × Int × Int) → Bool) (f : Nat) (l13 : List Int) (m13 : Nat) (z : Int) : Option (Nat × List Int) := loopK (exec P S_i_placesWith 56 (fun _ => fu + 100) (Code.sub [1, 1, 0, 1, 0, 0] (bodyF P 67))) f (T_i_placesWith_0 p holdsk holdsh l13 m13 z) (kBlock 0 (kSeq (fun s => exec P S_i_placesWith 56 (fun _ => fu + 100) (Code.sub [1, 1, 1] (bodyF P 67)) s (finT P 67 dec_l25_3)) (finT P 67 dec_l25_3)))
def B_i_placesWith_0 (p : Int) (holdsk : (Int × Int × Int) → Bool) (holdsh : (Int × Int × Int) → Bool) (lo3 : (List Int) → Nat → Int → Option (Nat × List Int)) (rec0 : (List Int) → Nat → Int → Option (Nat × List Int)) (l13 : List Int) (m13 : Nat) (z : Int) : Option (Nat × List Int) :=
  (if (decide (z < p)) = true then (if (Nat.ble 1 1 && Nat.ble (m13 + 1) 1000000 && Nat.beq 3 (3)) = true then rec0 (l13 ++ [0, 1, z]) (m13 + 1) (wI (z + 1)) else none) else lo3 l13 m13 0)
def L_i_placesWith_0 (fu : Nat) (p : Int) (holdsk : (Int × Int × Int) → Bool) (holdsh : (Int × Int × Int) → Bool) : Nat → (List Int) → Nat → Int → Option (Nat × List Int)
  | 0, _, _, _ => none
  | f + 1, l13, m13, z => B_i_placesWith_0 p holdsk holdsh (L_i_placesWith_3 fu p holdsk holdsh l13 m13 z (L_i_placesWith_0 fu p holdsk holdsh f) (fu + 100)) (L_i_placesWith_0 fu p holdsk holdsh f) l13 m13 z
theorem loop_i_placesWith_0 (fu : Nat) (p : Int) (holdsk : (Int × Int × Int) → Bool) (holdsh : (Int × Int × Int) → Bool) : ∀ (f : Nat) (l13 : List Int) (m13 : Nat) (z : Int), X_i_placesWith_0 Try.prog fu p holdsk holdsh f l13 m13 z = L_i_placesWith_0 fu p holdsk holdsh f l13 m13 z := by
  intro f
  induction f with
  | zero => intros; rfl
  | succ f ih =>
    intro l13 m13 z
    have h1 : X_i_placesWith_0 Try.prog fu p holdsk holdsh (f + 1) l13 m13 z = B_i_placesWith_0 p holdsk holdsh (X_i_placesWith_3 Try.prog fu p holdsk holdsh l13 m13 z (fun t => loopK (exec Try.prog S_i_placesWith 56 (fun _ => fu + 100) (Code.sub [1, 1, 0, 1, 0, 0] (bodyF Try.prog 67))) f t (kBlock 0 (kSeq (fun s => exec Try.prog S_i_placesWith 56 (fun _ => fu + 100) (Code.sub [1, 1, 1] (bodyF Try.prog 67)) s (finT Try.prog 67 dec_l25_3)) (finT Try.prog 67 dec_l25_3)))) (fu + 100)) (X_i_placesWith_0 Try.prog fu p holdsk holdsh f) l13 m13 z := by kernel_rfl
    have h2 : X_i_placesWith_0 Try.prog fu p holdsk holdsh f = L_i_placesWith_0 fu p holdsk holdsh f := by funext l13 m13 z; exact ih l13 m13 z
    have c3 : (X_i_placesWith_3 Try.prog fu p holdsk holdsh l13 m13 z (fun t => loopK (exec Try.prog S_i_placesWith 56 (fun _ => fu + 100) (Code.sub [1, 1, 0, 1, 0, 0] (bodyF Try.prog 67))) f t (kBlock 0 (kSeq (fun s => exec Try.prog S_i_placesWith 56 (fun _ => fu + 100) (Code.sub [1, 1, 1] (bodyF Try.prog 67)) s (finT Try.prog 67 dec_l25_3)) (finT Try.prog 67 dec_l25_3)))) (fu + 100)) = L_i_placesWith_3 fu p holdsk holdsh l13 m13 z (X_i_placesWith_0 Try.prog fu p holdsk holdsh f) (fu + 100) := by funext l13' m13' y; exact loop_i_placesWith_3 fu p holdsk holdsh l13 m13 z (fun t => loopK (exec Try.prog S_i_placesWith 56 (fun _ => fu + 100) (Code.sub [1, 1, 0, 1, 0, 0] (bodyF Try.prog 67))) f t (kBlock 0 (kSeq (fun s => exec Try.prog S_i_placesWith 56 (fun _ => fu + 100) (Code.sub [1, 1, 1] (bodyF Try.prog 67)) s (finT Try.prog 67 dec_l25_3)) (finT Try.prog 67 dec_l25_3)))) (fu + 100) l13' m13' y
    rw [h1, c3, h2]
    rfl
def G_i_placesWith (p : Int) (holdsk : (Int × Int × Int) → Bool) (holdsh : (Int × Int × Int) → Bool) (lo0 : (List Int) → Nat → Int → Option (Nat × List Int)) : Option (Nat × List Int) :=
  lo0 [0, 0, 1] 1 0
def Fo_i_placesWith (fu : Nat) (p : Int) (holdsk : (Int × Int × Int) → Bool) (holdsh : (Int × Int × Int) → Bool) : Option (Nat × List Int) := G_i_placesWith p holdsk holdsh (L_i_placesWith_0 fu p holdsk holdsh (fu + 100))
theorem eqg_i_placesWith (fu : Nat) (p : Int) (holdsk : (Int × Int × Int) → Bool) (holdsh : (Int × Int × Int) → Bool) : execT Try.prog S_i_placesWith 67 56 (fun _ => fu + 100) dec_l25_3 [.v (.int .i64 p), .f (clo_a3_b holdsk holdsh)] = G_i_placesWith p holdsk holdsh (L_i_placesWith_0 fu p holdsk holdsh (fu + 100)) := by
  have h1 : execT Try.prog S_i_placesWith 67 56 (fun _ => fu + 100) dec_l25_3 [.v (.int .i64 p), .f (clo_a3_b holdsk holdsh)] = G_i_placesWith p holdsk holdsh (X_i_placesWith_0 Try.prog fu p holdsk holdsh (fu + 100)) := by kernel_rfl
  have c0 : X_i_placesWith_0 Try.prog fu p holdsk holdsh (fu + 100) = L_i_placesWith_0 fu p holdsk holdsh (fu + 100) := by funext l13 m13 z; exact loop_i_placesWith_0 fu p holdsk holdsh (fu + 100) l13 m13 z
  rw [h1, c0]
theorem eq_i_placesWith (fu : Nat) (p : Int) (holdsk : (Int × Int × Int) → Bool) (holdsh : (Int × Int × Int) → Bool) : execT Try.prog S_i_placesWith 67 56 (fun _ => fu + 100) dec_l25_3 [.v (.int .i64 p), .f (clo_a3_b holdsk holdsh)] = Fo_i_placesWith fu p holdsk holdsh := eqg_i_placesWith fu p holdsk holdsh
def i_placesWith (p : Int) (holdsk holdsh : P3 → Bool) : Nat × List Int := (((places p).filter holdsh).length, flat3 ((places p).filter holdsh))
theorem lo5_i_placesWith {p : Int} {holdsk holdsh : P3 → Bool} (fu : Nat) (l13 : List Int) (m13 : Nat) (z : Int) (l13' : List Int) (m13' : Nat) (y : Int) (rec0 rec3 : List Int → Nat → Int → Option (Nat × List Int)) {F : Nat} (hF : m13' < F) (hl : l13'.length = 3 * m13') (hm : m13' ≤ 10000) (hk : ∀ k, k < m13' → holdsk (R3 l13' k) = true) :
    L_i_placesWith_5 fu p holdsk holdsh l13 m13 z l13' m13' y rec0 rec3 F [] 0 0 = some (((rows3 m13' l13').filter holdsh).length, flat3 ((rows3 m13' l13').filter holdsh)) := by
  have key := hk
  exact gather (flat := flat3) flat3_app rfl (L := fun f l m i => L_i_placesWith_5 fu p holdsk holdsh l13 m13 z l13' m13' y rec0 rec3 f l m i) (n := m13') (b := 1) (M := 0) (fun k => if holdsh (R3 l13' k) = true then [R3 l13' k] else []) (K := (some (((rows3 m13' l13').filter holdsh).length, flat3 ((rows3 m13' l13').filter holdsh)))) (l := []) (m := 0) (F := F) (by intro k hk; first | (split <;> simp) | simp_all)
    (fun f k l m hk hm => by
      show B_i_placesWith_5 p holdsk holdsh l13 m13 z l13' m13' y rec0 rec3 (L_i_placesWith_5 fu p holdsk holdsh l13 m13 z l13' m13' y rec0 rec3 f) l m (k : Int) = _
      unfold B_i_placesWith_5
      have x0 : holdsk (l13'.getD (k * 3 + 0) 0, l13'.getD (k * 3 + 1) 0, l13'.getD (k * 3 + 2) 0) = true := key k hk
      have e0 : decide (0 ≤ (k : Int)) = true := by simp
      have e1 := cnd hk
      have e3 : (k : Int).toNat = k := Int.toNat_natCast k
      have e4 := row3_ok hl hk
      have e5 : Nat.ble 1 1 = true := rfl
      have e6 : Nat.ble (m + 1) 1000000 = true := leb (by omega)
      simp only [e0, e1, e3, e4, e5, e6, beq33, x0, Bool.and_true, Bool.true_and, if_true, wrap_add1 hk (by omega)]
      have hq0 : (holdsh (l13'.getD (k * 3 + 0) 0, l13'.getD (k * 3 + 1) 0, l13'.getD (k * 3 + 2) 0)) = (holdsh (R3 l13' k)) := rfl
      try rw [hq0]
      generalize (holdsh (R3 l13' k)) = c0
      cases c0 <;> first
        | rfl
        | (simp only [Bool.false_eq_true, Bool.false_and, Bool.and_false, Bool.true_and, if_false, if_true]
           rw [show flat3 [] = [] from rfl, List.append_nil]
           rfl))
    (fun f hm => by
      show B_i_placesWith_5 p holdsk holdsh l13 m13 z l13' m13' y rec0 rec3 (L_i_placesWith_5 fu p holdsk holdsh l13 m13 z l13' m13' y rec0 rec3 f) ([] ++ flat3 ((List.range m13').flatMap (fun k => if holdsh (R3 l13' k) = true then [R3 l13' k] else []))) (0 + ((List.range m13').flatMap (fun k => if holdsh (R3 l13' k) = true then [R3 l13' k] else [])).length) ((m13' : Nat) : Int) = _
      unfold B_i_placesWith_5
      have hkp : ((List.range (m13')).flatMap fun k => if holdsh (R3 l13' k) = true then [R3 l13' k] else []) = (rows3 (m13') l13').filter (fun zz => holdsh zz) := keep3 (m13') l13' (fun zz => holdsh zz)
      rw [if_neg (by simp), hkp]
      simp) hF (Nat.le_refl _)
theorem lo4_i_placesWith {p : Int} (hp : prB p = true) {holdsk holdsh : P3 → Bool} (fu : Nat) (l13 : List Int) (m13 : Nat) (z : Int) (l13' : List Int) (m13' : Nat) (y : Int) (rec0 rec3 : List Int → Nat → Int → Option (Nat × List Int)) {F m : Nat} {l : List Int} (hF : p.toNat < F) (hm : m ≤ 100000) :
    L_i_placesWith_4 fu p holdsk holdsh l13 m13 z l13' m13' y rec0 rec3 F l m 0 = rec3 (l ++ flat3 ((List.range p.toNat).map fun z : Nat => (1, y, (z : Int)))) (m + p.toNat) (wI (y + 1)) := by
  obtain ⟨h1, h0, hpn⟩ := prB_nat hp
  exact gather (flat := flat3) flat3_app rfl (L := fun f l m i => L_i_placesWith_4 fu p holdsk holdsh l13 m13 z l13' m13' y rec0 rec3 f l m i) (n := p.toNat) (b := 1) (M := 100000) (fun z : Nat => [(1, y, (z : Int))]) (K := rec3 (l ++ flat3 ((List.range p.toNat).map fun z : Nat => (1, y, (z : Int)))) (m + p.toNat) (wI (y + 1))) (l := l) (m := m) (F := F) (by intro k hk; first | (split <;> simp) | simp_all)
    (fun f k l m hk hm => by
      show B_i_placesWith_4 p holdsk holdsh l13 m13 z l13' m13' y rec0 rec3 (L_i_placesWith_4 fu p holdsk holdsh l13 m13 z l13' m13' y rec0 rec3 f) l m (k : Int) = _
      unfold B_i_placesWith_4
      rw [if_pos (cndp hk), if_pos (by simp; omega), wrap_add1 hk (by omega)]
      rfl)
    (fun f hm => by
      show B_i_placesWith_4 p holdsk holdsh l13 m13 z l13' m13' y rec0 rec3 (L_i_placesWith_4 fu p holdsk holdsh l13 m13 z l13' m13' y rec0 rec3 f) (l ++ flat3 ((List.range p.toNat).flatMap (fun z : Nat => [(1, y, (z : Int))]))) (m + ((List.range p.toNat).flatMap (fun z : Nat => [(1, y, (z : Int))])).length) ((p.toNat : Nat) : Int) = _
      unfold B_i_placesWith_4
      rw [if_neg (by simp; omega), flatMap_one]
      simp) hF hm
theorem lo3_i_placesWith {p : Int} (hp : prB p = true) {holdsk holdsh : P3 → Bool} (fu : Nat) (l13 : List Int) (m13 : Nat) (z : Int) (rec0 : List Int → Nat → Int → Option (Nat × List Int)) {F m : Nat} {l : List Int} (hF : p.toNat < F) (hm : m ≤ 1000) (r : Option (Nat × List Int))  (ht : ∀  (y : Int) (rec3 : List Int → Nat → Int → Option (Nat × List Int)), L_i_placesWith_5 fu p holdsk holdsh l13 m13 z (l ++ flat3 ((List.range p.toNat).flatMap fun y : Nat => (List.range p.toNat).map fun z : Nat => ((1 : Int), (y : Int), (z : Int)))) (m + ((List.range p.toNat).flatMap fun y : Nat => (List.range p.toNat).map fun z : Nat => ((1 : Int), (y : Int), (z : Int))).length) y rec0 rec3 (fu + 100) [] 0 0 = r) :
    L_i_placesWith_3 fu p holdsk holdsh l13 m13 z rec0 F l m 0 = r := by
  obtain ⟨h1, h0, hpn⟩ := prB_nat hp
  exact gather (flat := flat3) flat3_app rfl (L := fun f l m i => L_i_placesWith_3 fu p holdsk holdsh l13 m13 z rec0 f l m i) (n := p.toNat) (b := 31) (M := 1000) (fun y : Nat => (List.range p.toNat).map fun z : Nat => (1, (y : Int), (z : Int))) (K := r) (l := l) (m := m) (F := F) (by intro k hk; first | (split <;> simp) | simp_all)
    (fun f k l m hk hm => by
      show B_i_placesWith_3 p holdsk holdsh l13 m13 z rec0 (L_i_placesWith_4 fu p holdsk holdsh l13 m13 z l m (k : Int) rec0 (L_i_placesWith_3 fu p holdsk holdsh l13 m13 z rec0 f) (fu + 100)) (L_i_placesWith_5 fu p holdsk holdsh l13 m13 z l m (k : Int) rec0 (L_i_placesWith_3 fu p holdsk holdsh l13 m13 z rec0 f) (fu + 100)) (L_i_placesWith_3 fu p holdsk holdsh l13 m13 z rec0 f) l m (k : Int) = _
      unfold B_i_placesWith_3
      rw [if_pos (cndp hk), lo4_i_placesWith hp fu _ _ _ _ _ _ _ _ (by omega) (by omega), wrap_add1 hk (by omega)]
      simp)
    (fun f hm => by
      show B_i_placesWith_3 p holdsk holdsh l13 m13 z rec0 (L_i_placesWith_4 fu p holdsk holdsh l13 m13 z (l ++ flat3 ((List.range p.toNat).flatMap (fun y : Nat => (List.range p.toNat).map fun z : Nat => (1, (y : Int), (z : Int))))) (m + ((List.range p.toNat).flatMap (fun y : Nat => (List.range p.toNat).map fun z : Nat => (1, (y : Int), (z : Int)))).length) ((p.toNat : Nat) : Int) rec0 (L_i_placesWith_3 fu p holdsk holdsh l13 m13 z rec0 f) (fu + 100)) (L_i_placesWith_5 fu p holdsk holdsh l13 m13 z (l ++ flat3 ((List.range p.toNat).flatMap (fun y : Nat => (List.range p.toNat).map fun z : Nat => (1, (y : Int), (z : Int))))) (m + ((List.range p.toNat).flatMap (fun y : Nat => (List.range p.toNat).map fun z : Nat => (1, (y : Int), (z : Int)))).length) ((p.toNat : Nat) : Int) rec0 (L_i_placesWith_3 fu p holdsk holdsh l13 m13 z rec0 f) (fu + 100)) (L_i_placesWith_3 fu p holdsk holdsh l13 m13 z rec0 f) (l ++ flat3 ((List.range p.toNat).flatMap (fun y : Nat => (List.range p.toNat).map fun z : Nat => (1, (y : Int), (z : Int))))) (m + ((List.range p.toNat).flatMap (fun y : Nat => (List.range p.toNat).map fun z : Nat => (1, (y : Int), (z : Int)))).length) ((p.toNat : Nat) : Int) = _
      unfold B_i_placesWith_3
      rw [if_neg (by simp; omega)]
      exact ht _ _) hF hm

theorem tot_i_placesWith (p : Int) (holdsk : (Int × Int × Int) → Bool) (holdsh : (Int × Int × Int) → Bool) (hp : (prB p && (places p).all holdsk) = true) : Fo_i_placesWith 1000000 p holdsk holdsh = some (i_placesWith p holdsk holdsh) := by
  have hp0 := hp
  simp only [Bool.and_eq_true] at hp
  obtain ⟨hp, hall⟩ := hp
  have hlen := places_len hp
  have hrow : ∀ k, k < (places p).length → holdsk (R3 (flat3 (places p)) k) = true := by
    intro k hk
    rw [R3_flat, List.getD_eq_getElem?_getD, List.getElem?_eq_getElem hk]
    exact List.all_eq_true.1 hall _ (List.getElem_mem hk)
  obtain ⟨h1, h0, hpn⟩ := prB_nat hp
  have hl : [0, 0, 1] ++ flat3 ((List.range p.toNat).map fun z : Nat => ((0 : Int), (1 : Int), (z : Int))) ++ flat3 ((List.range p.toNat).flatMap fun y : Nat => (List.range p.toNat).map fun z : Nat => ((1 : Int), (y : Int), (z : Int))) = flat3 (places p) := by
    unfold places
    show _ = flat3 ([(0, 0, 1)] ++ (_ ++ _))
    rw [flat3_app, flat3_app, List.append_assoc]
    rfl
  have hmm : 1 + ((List.range p.toNat).map fun z : Nat => ((0 : Int), (1 : Int), (z : Int))).length + ((List.range p.toNat).flatMap fun y : Nat => (List.range p.toNat).map fun z : Nat => ((1 : Int), (y : Int), (z : Int))).length = (places p).length := by
    unfold places
    rw [List.length_cons, List.length_append]
    omega
  unfold Fo_i_placesWith G_i_placesWith
  exact gather (flat := flat3) flat3_app rfl (L := fun f l m i => L_i_placesWith_0 1000000 p holdsk holdsh f l m i) (n := p.toNat) (b := 1) (M := 1) (fun z : Nat => [(0, 1, (z : Int))]) (K := (some (((places p).filter holdsh).length, flat3 ((places p).filter holdsh)))) (l := [0, 0, 1]) (m := 1) (F := (1000000 + 100)) (by intro k hk; first | (split <;> simp) | simp_all)
    (fun f k l m hk hm => by
      show B_i_placesWith_0 p holdsk holdsh (L_i_placesWith_3 1000000 p holdsk holdsh l m (k : Int) (L_i_placesWith_0 1000000 p holdsk holdsh f) (1000000 + 100)) (L_i_placesWith_0 1000000 p holdsk holdsh f) l m (k : Int) = _
      unfold B_i_placesWith_0
      rw [if_pos (cndp hk), if_pos (by simp; omega), wrap_add1 hk (by omega)]
      rfl)
    (fun f hm => by
      show B_i_placesWith_0 p holdsk holdsh (L_i_placesWith_3 1000000 p holdsk holdsh ([0, 0, 1] ++ flat3 ((List.range p.toNat).flatMap (fun z : Nat => [(0, 1, (z : Int))]))) (1 + ((List.range p.toNat).flatMap (fun z : Nat => [(0, 1, (z : Int))])).length) ((p.toNat : Nat) : Int) (L_i_placesWith_0 1000000 p holdsk holdsh f) (1000000 + 100)) (L_i_placesWith_0 1000000 p holdsk holdsh f) ([0, 0, 1] ++ flat3 ((List.range p.toNat).flatMap (fun z : Nat => [(0, 1, (z : Int))]))) (1 + ((List.range p.toNat).flatMap (fun z : Nat => [(0, 1, (z : Int))])).length) ((p.toNat : Nat) : Int) = _
      unfold B_i_placesWith_0
      simp only [flatMap_one]
      rw [if_neg (by simp; omega), lo3_i_placesWith hp _ _ _ _ _ (by omega) (by simp; omega) (r := (some (((places p).filter holdsh).length, flat3 ((places p).filter holdsh)))) (fun y rec3 => by rw [hl, hmm]; exact by rw [lo5_i_placesWith _ _ _ _ _ _ _ _ _ (by omega) (flat3_len _) (by omega) hrow, rows3_flat3])]) (by omega) (Nat.le_refl _)
def run_i_placesWith : List PV → Option (Bool × List TR)
  | [.v (.int .i64 p), .f holdsg] => some (prB p && (places p).all (fun a0 => okV (holdsg [.agg ⟨[.int .i64 a0.1, .int .i64 a0.2.1, .int .i64 a0.2.2]⟩])), enc_l25_3 (i_placesWith p (fun a0 => okV (holdsg [.agg ⟨[.int .i64 a0.1, .int .i64 a0.2.1, .int .i64 a0.2.2]⟩])) (fun a0 => boolV (holdsg [.agg ⟨[.int .i64 a0.1, .int .i64 a0.2.1, .int .i64 a0.2.2]⟩]))))
  | _ => none
theorem sound_i_placesWith : Sound Try.prog 67 run_i_placesWith := by
  refine sound_of de_l25_3 SO_i_placesWith (by kernel_rfl) Try.func67 Try.ntmps67 rfl (by kernel_rfl) ?_
  intro W pvs avs rs hargs hrun
  unfold run_i_placesWith at hrun
  split at hrun
  · simp only [Option.some.injEq, Prod.mk.injEq] at hrun
    obtain ⟨hp, rfl⟩ := hrun
    rename_i p holdsg
    have hargs := All2.replace (l1 := [_]) hargs (y := .f (clo_a3_b _ _)) fun b hb => fn_weaken hb (clo_a3_b_ok _)
    exact ⟨_, _, _, hargs, rfl, (eq_i_placesWith _ p (fun a0 => okV (holdsg [.agg ⟨[.int .i64 a0.1, .int .i64 a0.2.1, .int .i64 a0.2.2]⟩])) (fun a0 => boolV (holdsg [.agg ⟨[.int .i64 a0.1, .int .i64 a0.2.1, .int .i64 a0.2.2]⟩]))).trans (tot_i_placesWith p (fun a0 => okV (holdsg [.agg ⟨[.int .i64 a0.1, .int .i64 a0.2.1, .int .i64 a0.2.2]⟩])) (fun a0 => boolV (holdsg [.agg ⟨[.int .i64 a0.1, .int .i64 a0.2.1, .int .i64 a0.2.2]⟩])) hp)⟩
  · cases hrun

def S_i_placesOn : Sums := ⟨tblS [(67, run_i_placesWith), (97, run_i_placesOn_c1)], tblM []⟩
theorem SO_i_placesOn : SumsOK Try.prog S_i_placesOn := ⟨tblS_ok ⟨⟨Try.call67, sound_i_placesWith⟩, ⟨Try.call97, sound_i_placesOn_c1⟩, True.intro⟩, tblM_ok True.intro⟩
def Fo_i_placesOn (p : Int) (pole : Int × Int × Int) : Option (Nat × List Int) :=
  (if (prB p && (places p).all (fun a0 => prB p)) = true then some ((i_placesWith p (fun a0 => prB p) (fun a0 => i_placesOn_c1 a0 p pole)).1, (i_placesWith p (fun a0 => prB p) (fun a0 => i_placesOn_c1 a0 p pole)).2) else none)
theorem eq_i_placesOn (p : Int) (pole : Int × Int × Int) : execT Try.prog S_i_placesOn 57 8 (fun _ => 1000000) dec_l25_3 [.v (.int .i64 p), .v (.agg ⟨[.int .i64 pole.1, .int .i64 pole.2.1, .int .i64 pole.2.2]⟩)] = Fo_i_placesOn p pole := by
  kernel_rfl
def i_placesOn (p : Int) (pole : Int × Int × Int) : Nat × List Int :=
  ((i_placesWith p (fun a0 => prB p) (fun a0 => i_placesOn_c1 a0 p pole)).1, (i_placesWith p (fun a0 => prB p) (fun a0 => i_placesOn_c1 a0 p pole)).2)
theorem tot_i_placesOn (p : Int) (pole : Int × Int × Int) (hp : (prB p) = true) : Fo_i_placesOn p pole = some (i_placesOn p pole) := by
  try have h0 := prB_ne hp
  unfold Fo_i_placesOn i_placesOn
  (try simp only [wI_eq])
  repeat' (first | with_reducible rfl | with_reducible refine chk_opt hp ?_ | with_reducible refine chk_opt h0 ?_ | refine chk_opt (and_all hp fun _ => hp) ?_ | refine chk_opt (and_all hp fun _ => rfl) ?_ | refine ite_opt (fun _ => ?_) (fun _ => ?_) | rfl)
def run_i_placesOn : List PV → Option (Bool × List TR)
  | [.v (.int .i64 p), .v (.agg ⟨[.int .i64 pole0, .int .i64 pole1, .int .i64 pole2]⟩)] => some (prB p, enc_l25_3 (i_placesOn p (pole0, pole1, pole2)))
  | _ => none
theorem sound_i_placesOn : Sound Try.prog 57 run_i_placesOn := by
  refine sound_of de_l25_3 SO_i_placesOn (by kernel_rfl) Try.func57 Try.ntmps57 rfl (by kernel_rfl) ?_
  intro W pvs avs rs hargs hrun
  unfold run_i_placesOn at hrun
  split at hrun
  · simp only [Option.some.injEq, Prod.mk.injEq] at hrun
    obtain ⟨hp, rfl⟩ := hrun
    rename_i p pole0 pole1 pole2
    exact ⟨_, _, _, hargs, rfl, (eq_i_placesOn p (pole0, pole1, pole2)).trans (tot_i_placesOn p (pole0, pole1, pole2) hp)⟩
  · cases hrun

def S_i_arePlaces : Sums := ⟨tblS [(56, run_i_isPlace)], tblM []⟩
theorem SO_i_arePlaces : SumsOK Try.prog S_i_arePlaces := ⟨tblS_ok ⟨⟨Try.call56, sound_i_isPlace⟩, True.intro⟩, tblM_ok True.intro⟩
def T_i_arePlaces_0 (p : Int) (listn : Nat) (listl : List Int) (t9 : Int) : Tab := ⟨[.val (.int .i64 p), .row 4, .junk, .junk, .val (.bool false), .junk, .junk, .row 4, .val (.int .i64 ((listn : Nat) : Int)), .val (.int .i64 t9), .junk, .junk, .junk, .junk, .junk, .junk, .junk, .junk], [(4, .ros listn (.ints listl))]⟩
def X_i_arePlaces_0 (P : Program) (fu : Nat) (p : Int) (listn : Nat) (listl : List Int) (f : Nat) (t9 : Int) : Option (Bool) := loopK (exec P S_i_arePlaces 18 (fun _ => fu + 100) (Code.sub [1, 0, 1, 0, 0] (bodyF P 48))) f (T_i_arePlaces_0 p listn listl t9) (kBlock 0 (kSeq (fun s => exec P S_i_arePlaces 18 (fun _ => fu + 100) (Code.sub [1, 1] (bodyF P 48)) s (finT P 48 dec_b)) (finT P 48 dec_b)))
def B_i_arePlaces_0 (p : Int) (listn : Nat) (listl : List Int) (rec0 : Int → Option (Bool)) (t9 : Int) : Option (Bool) :=
  (if (decide (t9 < ((listn : Nat) : Int))) = true then (if (decide (0 ≤ t9) && decide (t9 < ((listn : Nat) : Int))) = true then (if (Nat.ble (t9.toNat * 3 + 3) listl.length) = true then (if (!(i_isPlace p (listl.getD (t9.toNat * 3 + 0) 0, listl.getD (t9.toNat * 3 + 1) 0, listl.getD (t9.toNat * 3 + 2) 0))) = true then some false else rec0 (wI (t9 + 1))) else none) else none) else some true)
def L_i_arePlaces_0 (fu : Nat) (p : Int) (listn : Nat) (listl : List Int) : Nat → Int → Option (Bool)
  | 0, _ => none
  | f + 1, t9 => B_i_arePlaces_0 p listn listl (L_i_arePlaces_0 fu p listn listl f) t9
theorem loop_i_arePlaces_0 (fu : Nat) (p : Int) (listn : Nat) (listl : List Int) : ∀ (f : Nat) (t9 : Int), X_i_arePlaces_0 Try.prog fu p listn listl f t9 = L_i_arePlaces_0 fu p listn listl f t9 := by
  intro f
  induction f with
  | zero => intros; rfl
  | succ f ih =>
    intro t9
    have h1 : X_i_arePlaces_0 Try.prog fu p listn listl (f + 1) t9 = B_i_arePlaces_0 p listn listl (X_i_arePlaces_0 Try.prog fu p listn listl f) t9 := by kernel_rfl
    have h2 : X_i_arePlaces_0 Try.prog fu p listn listl f = L_i_arePlaces_0 fu p listn listl f := by funext t9; exact ih t9
    rw [h1, h2]
    rfl
def G_i_arePlaces (p : Int) (listn : Nat) (listl : List Int) (lo0 : Int → Option (Bool)) : Option (Bool) :=
  lo0 0
def Fo_i_arePlaces (fu : Nat) (p : Int) (listn : Nat) (listl : List Int) : Option (Bool) := G_i_arePlaces p listn listl (L_i_arePlaces_0 fu p listn listl (fu + 100))
theorem eqg_i_arePlaces (fu : Nat) (p : Int) (listn : Nat) (listl : List Int) : execT Try.prog S_i_arePlaces 48 18 (fun _ => fu + 100) dec_b [.v (.int .i64 p), .s listn (.ints listl)] = G_i_arePlaces p listn listl (L_i_arePlaces_0 fu p listn listl (fu + 100)) := by
  have h1 : execT Try.prog S_i_arePlaces 48 18 (fun _ => fu + 100) dec_b [.v (.int .i64 p), .s listn (.ints listl)] = G_i_arePlaces p listn listl (X_i_arePlaces_0 Try.prog fu p listn listl (fu + 100)) := by kernel_rfl
  have c0 : X_i_arePlaces_0 Try.prog fu p listn listl (fu + 100) = L_i_arePlaces_0 fu p listn listl (fu + 100) := by funext t9; exact loop_i_arePlaces_0 fu p listn listl (fu + 100) t9
  rw [h1, c0]
theorem eq_i_arePlaces (fu : Nat) (p : Int) (listn : Nat) (listl : List Int) : execT Try.prog S_i_arePlaces 48 18 (fun _ => fu + 100) dec_b [.v (.int .i64 p), .s listn (.ints listl)] = Fo_i_arePlaces fu p listn listl := eqg_i_arePlaces fu p listn listl
def i_arePlaces (p : Int) (l : List P3) : Bool := l.all (fun x => i_isPlace p x)
theorem tot_i_arePlaces (p : Int) (listn : Nat) (listl : List Int) (hp : (lenB listn 3 listl) = true) : Fo_i_arePlaces listn p listn listl = some (i_arePlaces p (rows3 listn listl)) := by
  obtain ⟨hl, hn⟩ := lenB_ok hp
  have key : ∀ F, listn < F → (L_i_arePlaces_0 listn p listn listl) F 0 = some (if (List.range listn).all (fun k => (fun x => i_isPlace p x) (listl.getD (k * 3) 0, listl.getD (k * 3 + 1) 0, listl.getD (k * 3 + 2) 0)) = true then true else false) := by
    intro F hF
    refine scan hF (fun f k hk => ?_) fun f => ?_
    · show B_i_arePlaces_0 p listn listl ((L_i_arePlaces_0 listn p listn listl) f) (k : Int) = _
      unfold B_i_arePlaces_0
      rw [if_pos (by simpa using hk), if_pos (by simpa using hk), if_pos (leb (by rw [hl, Int.toNat_natCast]; omega)), wrap_add1 hk (by omega)]
      first | rfl | (rw [wI_eq]; rfl)
    · show B_i_arePlaces_0 p listn listl ((L_i_arePlaces_0 listn p listn listl) f) ((listn : Nat) : Int) = _
      unfold B_i_arePlaces_0
      rw [if_neg (by simp)]
  unfold Fo_i_arePlaces G_i_arePlaces
  rw [key _ (by omega)]
  show _ = some (((rows3 listn listl)).all (fun x => i_isPlace p x))
  rw [all_rows3 listn listl]
  cases (List.range listn).all (fun k => (fun x => i_isPlace p x) (listl.getD (k * 3) 0, listl.getD (k * 3 + 1) 0, listl.getD (k * 3 + 2) 0)) <;> rfl
def run_i_arePlaces : List PV → Option (Bool × List TR)
  | [.v (.int .i64 p), .s listn (.ints listl)] => some (lenB listn 3 listl, enc_b (i_arePlaces p (rows3 listn listl)))
  | _ => none
theorem sound_i_arePlaces : Sound Try.prog 48 run_i_arePlaces := by
  refine sound_of de_b SO_i_arePlaces (by kernel_rfl) Try.func48 Try.ntmps48 rfl (by kernel_rfl) ?_
  intro W pvs avs rs hargs hrun
  unfold run_i_arePlaces at hrun
  split at hrun
  · simp only [Option.some.injEq, Prod.mk.injEq] at hrun
    obtain ⟨hp, rfl⟩ := hrun
    rename_i p listn listl
    exact ⟨_, _, _, hargs, rfl, (eq_i_arePlaces _ p listn listl).trans (tot_i_arePlaces p listn listl hp)⟩
  · cases hrun


end

end Go.Proofs.Ytnijajjdldijpaa
