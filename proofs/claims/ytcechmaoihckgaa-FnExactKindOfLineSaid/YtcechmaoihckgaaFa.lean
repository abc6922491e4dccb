import Derived.Test.YtcechmaoihckgaaDl
import Derived.Test.YtcechmaoihckgaaProg
set_option linter.unusedSimpArgs false
set_option linter.unusedVariables false
namespace Go.Proofs.Ytcechmaoihckgaa
open Go.RowKit
def dec_i : List TR → Option (Int)
  | [.v (.int .i64 x0)] => some x0
  | _ => none
def enc_i : Int → List TR
  | x0 => [.v (.int .i64 x0)]
theorem de_i (rs : List TR) (x : Int) (h : dec_i rs = some x) : rs = enc_i x := by
  unfold dec_i at h
  split at h
  · simp only [Option.some.injEq] at h
    subst h
    rfl
  · cases h
def S_i_rest : Sums := ⟨tblS [], tblM []⟩
theorem SO_i_rest : SumsOK Try.prog S_i_rest := ⟨tblS_ok True.intro, tblM_ok True.intro⟩
def Fo_i_rest (p : Int) (x : Int) : Option (Int) :=
  (if (!(p == 0)) = true then (if (!(p == 0)) = true then some ((wI ((x.tmod p) + p)).tmod p) else none) else none)
theorem eq_i_rest (p : Int) (x : Int) : execT Try.prog S_i_rest 105 12 1000000 dec_i [.v (.int .i64 p), .v (.int .i64 x)] = Fo_i_rest p x := by
  kernel_rfl
def i_rest (p x : Int) : Int := x % p
theorem tot_i_rest (p : Int) (x : Int) (hp : (prB p) = true) : Fo_i_rest p x = some (i_rest p x) := by
  have h0 := prB_ne hp
  unfold Fo_i_rest i_rest
  simp only [h0, if_true, wI_eq]
  rw [rest_raw hp]
def run_i_rest : List PV → Option (Bool × List TR)
  | [.v (.int .i64 p), .v (.int .i64 x)] => some (prB p, enc_i (i_rest p x))
  | _ => none
theorem sound_i_rest : Sound Try.prog 105 run_i_rest := by
  refine sound_of de_i SO_i_rest (by kernel_rfl) Try.func105 Try.ntmps105 rfl (by kernel_rfl) ?_
  intro W pvs avs rs hargs hrun
  unfold run_i_rest at hrun
  split at hrun
  · simp only [Option.some.injEq, Prod.mk.injEq] at hrun
    obtain ⟨hp, rfl⟩ := hrun
    rename_i p x
    exact ⟨_, _, _, hargs, rfl, (eq_i_rest p x).trans (tot_i_rest p x hp)⟩
  · cases hrun

def S_i_inverse : Sums := ⟨tblS [], tblM []⟩
theorem SO_i_inverse : SumsOK Try.prog S_i_inverse := ⟨tblS_ok True.intro, tblM_ok True.intro⟩
def T_i_inverse_0 (p : Int) (a : Int) (x : Int) : Tab := ⟨[.val (.int .i64 p), .val (.int .i64 a), .junk, .junk, .val (.int .i64 0), .val (.int .i64 x), .junk, .junk, .junk, .junk, .junk, .junk, .junk, .junk, .junk, .junk, .junk, .junk], []⟩
def X_i_inverse_0 (P : Program) (fu : Nat) (p : Int) (a : Int) (f : Nat) (x : Int) : Option (Int) := loopK (exec P S_i_inverse 18 fu (Code.sub [1, 0, 1, 0, 0] (bodyF P 116))) f (T_i_inverse_0 p a x) (kBlock 0 (kSeq (fun s => exec P S_i_inverse 18 fu (Code.sub [1, 1] (bodyF P 116)) s (finT P 116 dec_i)) (finT P 116 dec_i)))
def B_i_inverse_0 (p : Int) (a : Int) (rec0 : Int → Option (Int)) (x : Int) : Option (Int) :=
  (if (decide (x < p)) = true then (if (!(p == 0)) = true then (if (((wI (a * x)).tmod p) == 1) = true then some x else rec0 (wI (x + 1))) else none) else some 0)
def L_i_inverse_0 (fu : Nat) (p : Int) (a : Int) : Nat → Int → Option (Int)
  | 0, _ => none
  | f + 1, x => B_i_inverse_0 p a (L_i_inverse_0 fu p a f) x
theorem loop_i_inverse_0 (fu : Nat) (p : Int) (a : Int) : ∀ (f : Nat) (x : Int), X_i_inverse_0 Try.prog fu p a f x = L_i_inverse_0 fu p a f x := by
  intro f
  induction f with
  | zero => intros; rfl
  | succ f ih =>
    intro x
    have h1 : X_i_inverse_0 Try.prog fu p a (f + 1) x = B_i_inverse_0 p a (X_i_inverse_0 Try.prog fu p a f) x := by kernel_rfl
    have h2 : X_i_inverse_0 Try.prog fu p a f = L_i_inverse_0 fu p a f := by funext x; exact ih x
    rw [h1, h2]
    rfl
def G_i_inverse (p : Int) (a : Int) (lo0 : Int → Option (Int)) : Option (Int) :=
  lo0 1
def Fo_i_inverse (fu : Nat) (p : Int) (a : Int) : Option (Int) := G_i_inverse p a (L_i_inverse_0 fu p a (fu + 100))
theorem eqg_i_inverse (fu : Nat) (p : Int) (a : Int) : execT Try.prog S_i_inverse 116 18 fu dec_i [.v (.int .i64 p), .v (.int .i64 a)] = G_i_inverse p a (L_i_inverse_0 fu p a (fu + 100)) := by
  have h1 : execT Try.prog S_i_inverse 116 18 fu dec_i [.v (.int .i64 p), .v (.int .i64 a)] = G_i_inverse p a (X_i_inverse_0 Try.prog fu p a (fu + 100)) := by kernel_rfl
  have c0 : X_i_inverse_0 Try.prog fu p a (fu + 100) = L_i_inverse_0 fu p a (fu + 100) := by funext x; exact loop_i_inverse_0 fu p a (fu + 100) x
  rw [h1, c0]
theorem eq_i_inverse (fu : Nat) (p : Int) (a : Int) : execT Try.prog S_i_inverse 116 18 fu dec_i [.v (.int .i64 p), .v (.int .i64 a)] = Fo_i_inverse fu p a := eqg_i_inverse fu p a
def invLoop (p a : Int) : Nat → Int → Int
  | 0, _ => 0
  | k + 1, x => if ((wrap64 (a * x)).tmod p == 1) = true then x else invLoop p a k (x + 1)
def i_inverse (p a : Int) : Int := invLoop p a (p - 1).toNat 1
theorem inv_walk (fu : Nat) (p a : Int) (hp : prB p = true) : ∀ (k f : Nat) (j : Int), 1 ≤ j → j ≤ p → (p - j).toNat = k → k < f → L_i_inverse_0 fu p a f j = some (invLoop p a k j)
  | k, 0, j, _, _, _, h => absurd h (Nat.not_lt_zero k)
  | 0, f + 1, j, h1, h2, hk, _ => by
    show B_i_inverse_0 p a _ j = _
    unfold B_i_inverse_0
    rw [if_neg (by simp; omega)]; rfl
  | k + 1, f + 1, j, h1, h2, hk, hf => by
    show B_i_inverse_0 p a (L_i_inverse_0 fu p a f) j = _
    unfold B_i_inverse_0
    rw [if_pos (by simp; omega), if_pos (prB_ne hp), wI_eq, wI_eq]
    show _ = some (if ((wrap64 (a * j)).tmod p == 1) = true then j else invLoop p a k (j + 1))
    refine ite_opt (fun _ => rfl) fun _ => ?_
    have h31 := (prB_Pr hp).2
    rw [show wrap64 (j + 1) = j + 1 from by unfold wrap64; omega]
    exact inv_walk fu p a hp k f (j + 1) (by omega) (by omega) (by omega) (by omega)
theorem tot_i_inverse (p : Int) (a : Int) (hp : (prB p) = true) : Fo_i_inverse 40 p a = some (i_inverse p a) := by
  obtain ⟨h1, h2⟩ := prB_Pr hp
  exact inv_walk 40 p a hp _ _ 1 (by omega) (by omega) rfl (by omega)
def run_i_inverse : List PV → Option (Bool × List TR)
  | [.v (.int .i64 p), .v (.int .i64 a)] => some (prB p, enc_i (i_inverse p a))
  | _ => none
theorem sound_i_inverse : Sound Try.prog 116 run_i_inverse := by
  refine sound_of de_i SO_i_inverse (by kernel_rfl) Try.func116 Try.ntmps116 rfl (by kernel_rfl) ?_
  intro W pvs avs rs hargs hrun
  unfold run_i_inverse at hrun
  split at hrun
  · simp only [Option.some.injEq, Prod.mk.injEq] at hrun
    obtain ⟨hp, rfl⟩ := hrun
    rename_i p a
    exact ⟨_, _, _, hargs, rfl, (eq_i_inverse _ p a).trans (tot_i_inverse p a hp)⟩
  · cases hrun

def S_i_divide : Sums := ⟨tblS [(116, run_i_inverse), (105, run_i_rest)], tblM []⟩
theorem SO_i_divide : SumsOK Try.prog S_i_divide := ⟨tblS_ok ⟨⟨Try.call116, sound_i_inverse⟩, ⟨Try.call105, sound_i_rest⟩, True.intro⟩, tblM_ok True.intro⟩
def Fo_i_divide (p : Int) (a : Int) (b : Int) : Option (Int) :=
  (if (prB p) = true then (if (prB p) = true then some (i_rest p (wI (a * (i_inverse p b)))) else none) else none)
theorem eq_i_divide (p : Int) (a : Int) (b : Int) : execT Try.prog S_i_divide 109 14 1000000 dec_i [.v (.int .i64 p), .v (.int .i64 a), .v (.int .i64 b)] = Fo_i_divide p a b := by
  kernel_rfl
def i_divide (p : Int) (a : Int) (b : Int) : Int :=
  (i_rest p (wrap64 (a * (i_inverse p b))))
theorem tot_i_divide (p : Int) (a : Int) (b : Int) (hp : (prB p) = true) : Fo_i_divide p a b = some (i_divide p a b) := by
  have h0 := prB_ne hp
  unfold Fo_i_divide i_divide
  (try simp only [wI_eq])
  repeat' (first | with_reducible rfl | with_reducible refine chk_opt hp ?_ | with_reducible refine chk_opt h0 ?_ | refine chk_opt (and_all hp fun _ => hp) ?_ | refine chk_opt (and_all hp fun _ => rfl) ?_ | refine ite_opt (fun _ => ?_) (fun _ => ?_) | rfl)
def run_i_divide : List PV → Option (Bool × List TR)
  | [.v (.int .i64 p), .v (.int .i64 a), .v (.int .i64 b)] => some (prB p, enc_i (i_divide p a b))
  | _ => none
theorem sound_i_divide : Sound Try.prog 109 run_i_divide := by
  refine sound_of de_i SO_i_divide (by kernel_rfl) Try.func109 Try.ntmps109 rfl (by kernel_rfl) ?_
  intro W pvs avs rs hargs hrun
  unfold run_i_divide at hrun
  split at hrun
  · simp only [Option.some.injEq, Prod.mk.injEq] at hrun
    obtain ⟨hp, rfl⟩ := hrun
    rename_i p a b
    exact ⟨_, _, _, hargs, rfl, (eq_i_divide p a b).trans (tot_i_divide p a b hp)⟩
  · cases hrun

def dec_a3 : List TR → Option (Int × Int × Int)
  | [.v (.agg ⟨[.int .i64 x0_0, .int .i64 x0_1, .int .i64 x0_2]⟩)] => some (x0_0, x0_1, x0_2)
  | _ => none
def enc_a3 : Int × Int × Int → List TR
  | (x0_0, x0_1, x0_2) => [.v (.agg ⟨[.int .i64 x0_0, .int .i64 x0_1, .int .i64 x0_2]⟩)]
theorem de_a3 (rs : List TR) (x : Int × Int × Int) (h : dec_a3 rs = some x) : rs = enc_a3 x := by
  unfold dec_a3 at h
  split at h
  · simp only [Option.some.injEq] at h
    subst h
    rfl
  · cases h
def S_i_makePlace : Sums := ⟨tblS [(109, run_i_divide)], tblM []⟩
theorem SO_i_makePlace : SumsOK Try.prog S_i_makePlace := ⟨tblS_ok ⟨⟨Try.call109, sound_i_divide⟩, True.intro⟩, tblM_ok True.intro⟩
def Fo_i_makePlace (p : Int) (list : Int × Int × Int) : Option (Int × Int × Int) :=
  (if (list.1 != 0) = true then (if (prB p) = true then (if (prB p) = true then (if (prB p) = true then some ((i_divide p list.1 list.1), (i_divide p list.2.1 list.1), (i_divide p list.2.2 list.1)) else none) else none) else none) else (if (list.2.1 != 0) = true then (if (prB p) = true then (if (prB p) = true then (if (prB p) = true then some ((i_divide p list.1 list.2.1), (i_divide p list.2.1 list.2.1), (i_divide p list.2.2 list.2.1)) else none) else none) else none) else (if (list.2.2 != 0) = true then (if (prB p) = true then (if (prB p) = true then (if (prB p) = true then some ((i_divide p list.1 list.2.2), (i_divide p list.2.1 list.2.2), (i_divide p list.2.2 list.2.2)) else none) else none) else none) else some (0, 0, 0))))
theorem eq_i_makePlace (p : Int) (list : Int × Int × Int) : execT Try.prog S_i_makePlace 72 31 1000000 dec_a3 [.v (.int .i64 p), .v (.agg ⟨[.int .i64 list.1, .int .i64 list.2.1, .int .i64 list.2.2]⟩)] = Fo_i_makePlace p list := by
  kernel_rfl
def i_makePlace (p : Int) (list : Int × Int × Int) : Int × Int × Int :=
  (if (list.1 != 0) = true then ((i_divide p list.1 list.1), (i_divide p list.2.1 list.1), (i_divide p list.2.2 list.1)) else (if (list.2.1 != 0) = true then ((i_divide p list.1 list.2.1), (i_divide p list.2.1 list.2.1), (i_divide p list.2.2 list.2.1)) else (if (list.2.2 != 0) = true then ((i_divide p list.1 list.2.2), (i_divide p list.2.1 list.2.2), (i_divide p list.2.2 list.2.2)) else (0, 0, 0))))
theorem tot_i_makePlace (p : Int) (list : Int × Int × Int) (hp : (prB p) = true) : Fo_i_makePlace p list = some (i_makePlace p list) := by
  have h0 := prB_ne hp
  unfold Fo_i_makePlace i_makePlace
  (try simp only [wI_eq])
  repeat' (first | with_reducible rfl | with_reducible refine chk_opt hp ?_ | with_reducible refine chk_opt h0 ?_ | refine chk_opt (and_all hp fun _ => hp) ?_ | refine chk_opt (and_all hp fun _ => rfl) ?_ | refine ite_opt (fun _ => ?_) (fun _ => ?_) | rfl)
def run_i_makePlace : List PV → Option (Bool × List TR)
  | [.v (.int .i64 p), .v (.agg ⟨[.int .i64 list0, .int .i64 list1, .int .i64 list2]⟩)] => some (prB p, enc_a3 (i_makePlace p (list0, list1, list2)))
  | _ => none
theorem sound_i_makePlace : Sound Try.prog 72 run_i_makePlace := by
  refine sound_of de_a3 SO_i_makePlace (by kernel_rfl) Try.func72 Try.ntmps72 rfl (by kernel_rfl) ?_
  intro W pvs avs rs hargs hrun
  unfold run_i_makePlace at hrun
  split at hrun
  · simp only [Option.some.injEq, Prod.mk.injEq] at hrun
    obtain ⟨hp, rfl⟩ := hrun
    rename_i p list0 list1 list2
    exact ⟨_, _, _, hargs, rfl, (eq_i_makePlace p (list0, list1, list2)).trans (tot_i_makePlace p (list0, list1, list2) hp)⟩
  · cases hrun

def S_i_join : Sums := ⟨tblS [(105, run_i_rest), (72, run_i_makePlace)], tblM []⟩
theorem SO_i_join : SumsOK Try.prog S_i_join := ⟨tblS_ok ⟨⟨Try.call105, sound_i_rest⟩, ⟨Try.call72, sound_i_makePlace⟩, True.intro⟩, tblM_ok True.intro⟩
def Fo_i_join (p : Int) (a : Int × Int × Int) (b : Int × Int × Int) : Option (Int × Int × Int) :=
  (if (prB p) = true then (if (prB p) = true then (if (prB p) = true then (if (prB p) = true then some (i_makePlace p ((i_rest p (wI ((wI (a.2.1 * b.2.2)) - (wI (a.2.2 * b.2.1))))), (i_rest p (wI ((wI (a.2.2 * b.1)) - (wI (a.1 * b.2.2))))), (i_rest p (wI ((wI (a.2.1 * b.1)) - (wI (a.1 * b.2.1))))))) else none) else none) else none) else none)
theorem eq_i_join (p : Int) (a : Int × Int × Int) (b : Int × Int × Int) : execT Try.prog S_i_join 87 49 1000000 dec_a3 [.v (.int .i64 p), .v (.agg ⟨[.int .i64 a.1, .int .i64 a.2.1, .int .i64 a.2.2]⟩), .v (.agg ⟨[.int .i64 b.1, .int .i64 b.2.1, .int .i64 b.2.2]⟩)] = Fo_i_join p a b := by
  kernel_rfl
def i_join (p : Int) (a : Int × Int × Int) (b : Int × Int × Int) : Int × Int × Int :=
  (i_makePlace p ((i_rest p (wrap64 ((wrap64 (a.2.1 * b.2.2)) - (wrap64 (a.2.2 * b.2.1))))), (i_rest p (wrap64 ((wrap64 (a.2.2 * b.1)) - (wrap64 (a.1 * b.2.2))))), (i_rest p (wrap64 ((wrap64 (a.2.1 * b.1)) - (wrap64 (a.1 * b.2.1)))))))
theorem tot_i_join (p : Int) (a : Int × Int × Int) (b : Int × Int × Int) (hp : (prB p) = true) : Fo_i_join p a b = some (i_join p a b) := by
  have h0 := prB_ne hp
  unfold Fo_i_join i_join
  (try simp only [wI_eq])
  repeat' (first | with_reducible rfl | with_reducible refine chk_opt hp ?_ | with_reducible refine chk_opt h0 ?_ | refine chk_opt (and_all hp fun _ => hp) ?_ | refine chk_opt (and_all hp fun _ => rfl) ?_ | refine ite_opt (fun _ => ?_) (fun _ => ?_) | rfl)
def run_i_join : List PV → Option (Bool × List TR)
  | [.v (.int .i64 p), .v (.agg ⟨[.int .i64 a0, .int .i64 a1, .int .i64 a2]⟩), .v (.agg ⟨[.int .i64 b0, .int .i64 b1, .int .i64 b2]⟩)] => some (prB p, enc_a3 (i_join p (a0, a1, a2) (b0, b1, b2)))
  | _ => none
theorem sound_i_join : Sound Try.prog 87 run_i_join := by
  refine sound_of de_a3 SO_i_join (by kernel_rfl) Try.func87 Try.ntmps87 rfl (by kernel_rfl) ?_
  intro W pvs avs rs hargs hrun
  unfold run_i_join at hrun
  split at hrun
  · simp only [Option.some.injEq, Prod.mk.injEq] at hrun
    obtain ⟨hp, rfl⟩ := hrun
    rename_i p a0 a1 a2 b0 b1 b2
    exact ⟨_, _, _, hargs, rfl, (eq_i_join p (a0, a1, a2) (b0, b1, b2)).trans (tot_i_join p (a0, a1, a2) (b0, b1, b2) hp)⟩
  · cases hrun

def S_s_l01Mod : Sums := ⟨tblS [], tblM []⟩
theorem SO_s_l01Mod : SumsOK Try.prog S_s_l01Mod := ⟨tblS_ok True.intro, tblM_ok True.intro⟩
def Fo_s_l01Mod (x : Int) (p : Int) : Option (Int) :=
  (if (!(p == 0)) = true then (if (!(p == 0)) = true then some ((wI ((x.tmod p) + p)).tmod p) else none) else none)
theorem eq_s_l01Mod (x : Int) (p : Int) : execT Try.prog S_s_l01Mod 104 12 1000000 dec_i [.v (.int .i64 x), .v (.int .i64 p)] = Fo_s_l01Mod x p := by
  kernel_rfl
def s_l01Mod (x p : Int) : Int := x % p
theorem tot_s_l01Mod (x : Int) (p : Int) (hp : (prB p) = true) : Fo_s_l01Mod x p = some (s_l01Mod x p) := by
  have h0 := prB_ne hp
  unfold Fo_s_l01Mod s_l01Mod
  simp only [h0, if_true, wI_eq]
  rw [rest_raw hp]
def run_s_l01Mod : List PV → Option (Bool × List TR)
  | [.v (.int .i64 x), .v (.int .i64 p)] => some (prB p, enc_i (s_l01Mod x p))
  | _ => none
theorem sound_s_l01Mod : Sound Try.prog 104 run_s_l01Mod := by
  refine sound_of de_i SO_s_l01Mod (by kernel_rfl) Try.func104 Try.ntmps104 rfl (by kernel_rfl) ?_
  intro W pvs avs rs hargs hrun
  unfold run_s_l01Mod at hrun
  split at hrun
  · simp only [Option.some.injEq, Prod.mk.injEq] at hrun
    obtain ⟨hp, rfl⟩ := hrun
    rename_i x p
    exact ⟨_, _, _, hargs, rfl, (eq_s_l01Mod x p).trans (tot_s_l01Mod x p hp)⟩
  · cases hrun

def S_s_l01Inverse : Sums := ⟨tblS [(104, run_s_l01Mod)], tblM []⟩
theorem SO_s_l01Inverse : SumsOK Try.prog S_s_l01Inverse := ⟨tblS_ok ⟨⟨Try.call104, sound_s_l01Mod⟩, True.intro⟩, tblM_ok True.intro⟩
def T_s_l01Inverse_0 (a : Int) (p : Int) (out : Int) (base : Int) (k : Int) : Tab := ⟨[.val (.int .i64 a), .val (.int .i64 p), .junk, .junk, .val (.int .i64 0), .val (.int .i64 out), .val (.int .i64 base), .val (.int .i64 k), .val (.int .i64 a), .val (.int .i64 p), .val (.int .i64 (s_l01Mod a p)), .val (.int .i64 p), .val (.int .i64 (wI (p - 2))), .junk, .junk, .junk, .junk, .junk, .junk, .junk, .junk, .junk, .junk, .junk, .junk, .junk, .junk, .junk, .junk, .junk, .junk], []⟩
def X_s_l01Inverse_0 (P : Program) (fu : Nat) (a : Int) (p : Int) (f : Nat) (out : Int) (base : Int) (k : Int) : Option (Int) := loopK (exec P S_s_l01Inverse 31 fu (Code.sub [1, 1, 0, 1, 0, 0] (bodyF P 107))) f (T_s_l01Inverse_0 a p out base k) (kBlock 0 (kSeq (fun s => exec P S_s_l01Inverse 31 fu (Code.sub [1, 1, 1] (bodyF P 107)) s (finT P 107 dec_i)) (finT P 107 dec_i)))
def B_s_l01Inverse_0 (a : Int) (p : Int) (rec0 : Int → Int → Int → Option (Int)) (out : Int) (base : Int) (k : Int) : Option (Int) :=
  (if (decide (k > 0)) = true then (if ((k.tmod 2) == 1) = true then (if (!(p == 0)) = true then (if (!(p == 0)) = true then rec0 ((wI (out * base)).tmod p) ((wI (base * base)).tmod p) (wI (k.tdiv 2)) else none) else none) else (if (!(p == 0)) = true then rec0 out ((wI (base * base)).tmod p) (wI (k.tdiv 2)) else none)) else some out)
def L_s_l01Inverse_0 (fu : Nat) (a : Int) (p : Int) : Nat → Int → Int → Int → Option (Int)
  | 0, _, _, _ => none
  | f + 1, out, base, k => B_s_l01Inverse_0 a p (L_s_l01Inverse_0 fu a p f) out base k
theorem loop_s_l01Inverse_0 (fu : Nat) (a : Int) (p : Int) : ∀ (f : Nat) (out : Int) (base : Int) (k : Int), X_s_l01Inverse_0 Try.prog fu a p f out base k = L_s_l01Inverse_0 fu a p f out base k := by
  intro f
  induction f with
  | zero => intros; rfl
  | succ f ih =>
    intro out base k
    have h1 : X_s_l01Inverse_0 Try.prog fu a p (f + 1) out base k = B_s_l01Inverse_0 a p (X_s_l01Inverse_0 Try.prog fu a p f) out base k := by kernel_rfl
    have h2 : X_s_l01Inverse_0 Try.prog fu a p f = L_s_l01Inverse_0 fu a p f := by funext out base k; exact ih out base k
    rw [h1, h2]
    rfl
def G_s_l01Inverse (a : Int) (p : Int) (lo0 : Int → Int → Int → Option (Int)) : Option (Int) :=
  (if (prB p) = true then lo0 1 (s_l01Mod a p) (wI (p - 2)) else none)
def Fo_s_l01Inverse (fu : Nat) (a : Int) (p : Int) : Option (Int) := G_s_l01Inverse a p (L_s_l01Inverse_0 fu a p (fu + 100))
theorem eqg_s_l01Inverse (fu : Nat) (a : Int) (p : Int) : execT Try.prog S_s_l01Inverse 107 31 fu dec_i [.v (.int .i64 a), .v (.int .i64 p)] = G_s_l01Inverse a p (L_s_l01Inverse_0 fu a p (fu + 100)) := by
  have h1 : execT Try.prog S_s_l01Inverse 107 31 fu dec_i [.v (.int .i64 a), .v (.int .i64 p)] = G_s_l01Inverse a p (X_s_l01Inverse_0 Try.prog fu a p (fu + 100)) := by kernel_rfl
  have c0 : X_s_l01Inverse_0 Try.prog fu a p (fu + 100) = L_s_l01Inverse_0 fu a p (fu + 100) := by funext out base k; exact loop_s_l01Inverse_0 fu a p (fu + 100) out base k
  rw [h1, c0]
theorem eq_s_l01Inverse (fu : Nat) (a : Int) (p : Int) : execT Try.prog S_s_l01Inverse 107 31 fu dec_i [.v (.int .i64 a), .v (.int .i64 p)] = Fo_s_l01Inverse fu a p := eqg_s_l01Inverse fu a p
def powLoop (p : Int) : Nat → Int → Int → Int → Int
  | 0, _, out, _ => out
  | f + 1, k, out, base => if decide (0 < k) = true then powLoop p f (k / 2) (if (k % 2 == 1) = true then (wrap64 (out * base)).tmod p else out) ((wrap64 (base * base)).tmod p) else out
def s_l01Inverse (a p : Int) : Int := powLoop p 5 (p - 2) 1 (s_l01Mod a p)
theorem powLoop_zero (p : Int) (f : Nat) (k out base : Int) (h : ¬ 0 < k) : powLoop p f k out base = out := by
  cases f
  · rfl
  · show (if decide (0 < k) = true then _ else out) = out
    rw [if_neg (by simpa using h)]
theorem pow_walk (fu : Nat) (a p : Int) (hp : prB p = true) : ∀ (f F : Nat) (k out base : Int), k < 2 ^ f → k ≤ 31 → f < F → L_s_l01Inverse_0 fu a p F out base k = some (powLoop p f k out base)
  | f, 0, k, _, _, _, _, h => absurd h (Nat.not_lt_zero f)
  | f, F + 1, k, out, base, h1, h31, hF => by
    show B_s_l01Inverse_0 a p (L_s_l01Inverse_0 fu a p F) out base k = _
    unfold B_s_l01Inverse_0
    by_cases hk : 0 < k
    · obtain ⟨f, rfl⟩ : ∃ g, f = g + 1 := ⟨f - 1, by rcases f with _ | f <;> omega⟩
      have h0 := prB_ne hp
      rw [if_pos (by simp; omega)]
      have e1 : k.tmod 2 = k % 2 := Int.tmod_eq_emod_of_nonneg (by omega)
      have e2 : k.tdiv 2 = k / 2 := Int.tdiv_eq_ediv_of_nonneg (by omega)
      have e3 : wrap64 (k / 2) = k / 2 := by unfold wrap64; omega
      have hh : k / 2 < 2 ^ f := by rw [Int.pow_succ] at h1; omega
      simp only [h0, if_true, wI_eq, e1, e2, e3]
      show _ = some (if decide (0 < k) = true then powLoop p f (k / 2) (if (k % 2 == 1) = true then (wrap64 (out * base)).tmod p else out) ((wrap64 (base * base)).tmod p) else out)
      have hk' : decide (0 < k) = true := by simpa using hk
      rw [hk']
      cases h2 : (k % 2 == 1)
      · exact pow_walk fu a p hp f F (k / 2) _ _ hh (by omega) (by omega)
      · exact pow_walk fu a p hp f F (k / 2) _ _ hh (by omega) (by omega)
    · rw [if_neg (by simp; omega), powLoop_zero p f k out base hk]
theorem tot_s_l01Inverse (a : Int) (p : Int) (hp : (prB p) = true) : Fo_s_l01Inverse 40 a p = some (s_l01Inverse a p) := by
  obtain ⟨h1, h2⟩ := prB_Pr hp
  unfold Fo_s_l01Inverse G_s_l01Inverse
  rw [if_pos hp, wI_eq, show wrap64 (p - 2) = p - 2 from by unfold wrap64; omega]
  exact pow_walk 40 a p hp 5 _ (p - 2) _ _ (by omega) (by omega) (by omega)
def run_s_l01Inverse : List PV → Option (Bool × List TR)
  | [.v (.int .i64 a), .v (.int .i64 p)] => some (prB p, enc_i (s_l01Inverse a p))
  | _ => none
theorem sound_s_l01Inverse : Sound Try.prog 107 run_s_l01Inverse := by
  refine sound_of de_i SO_s_l01Inverse (by kernel_rfl) Try.func107 Try.ntmps107 rfl (by kernel_rfl) ?_
  intro W pvs avs rs hargs hrun
  unfold run_s_l01Inverse at hrun
  split at hrun
  · simp only [Option.some.injEq, Prod.mk.injEq] at hrun
    obtain ⟨hp, rfl⟩ := hrun
    rename_i a p
    exact ⟨_, _, _, hargs, rfl, (eq_s_l01Inverse _ a p).trans (tot_s_l01Inverse a p hp)⟩
  · cases hrun

def S_s_l09Made : Sums := ⟨tblS [(104, run_s_l01Mod), (107, run_s_l01Inverse)], tblM []⟩
theorem SO_s_l09Made : SumsOK Try.prog S_s_l09Made := ⟨tblS_ok ⟨⟨Try.call104, sound_s_l01Mod⟩, ⟨Try.call107, sound_s_l01Inverse⟩, True.intro⟩, tblM_ok True.intro⟩
def Fo_s_l09Made (p : Int) (x : Int) (y : Int) (z : Int) : Option (Int × Int × Int) :=
  (if (prB p) = true then (if (prB p) = true then (if (prB p) = true then (if ((s_l01Mod x p) == 0) = true then (if ((s_l01Mod y p) == 0) = true then (if (prB p) = true then (if (!(p == 0)) = true then (if (!(p == 0)) = true then (if (!(p == 0)) = true then some ((wI ((s_l01Mod x p) * (s_l01Inverse (s_l01Mod z p) p))).tmod p, (wI ((s_l01Mod y p) * (s_l01Inverse (s_l01Mod z p) p))).tmod p, (wI ((s_l01Mod z p) * (s_l01Inverse (s_l01Mod z p) p))).tmod p) else none) else none) else none) else none) else (if (prB p) = true then (if (!(p == 0)) = true then (if (!(p == 0)) = true then (if (!(p == 0)) = true then some ((wI ((s_l01Mod x p) * (s_l01Inverse (s_l01Mod y p) p))).tmod p, (wI ((s_l01Mod y p) * (s_l01Inverse (s_l01Mod y p) p))).tmod p, (wI ((s_l01Mod z p) * (s_l01Inverse (s_l01Mod y p) p))).tmod p) else none) else none) else none) else none)) else (if ((s_l01Mod x p) == 0) = true then (if (prB p) = true then (if (!(p == 0)) = true then (if (!(p == 0)) = true then (if (!(p == 0)) = true then some ((wI ((s_l01Mod x p) * (s_l01Inverse (s_l01Mod z p) p))).tmod p, (wI ((s_l01Mod y p) * (s_l01Inverse (s_l01Mod z p) p))).tmod p, (wI ((s_l01Mod z p) * (s_l01Inverse (s_l01Mod z p) p))).tmod p) else none) else none) else none) else none) else (if (prB p) = true then (if (!(p == 0)) = true then (if (!(p == 0)) = true then (if (!(p == 0)) = true then some ((wI ((s_l01Mod x p) * (s_l01Inverse (s_l01Mod x p) p))).tmod p, (wI ((s_l01Mod y p) * (s_l01Inverse (s_l01Mod x p) p))).tmod p, (wI ((s_l01Mod z p) * (s_l01Inverse (s_l01Mod x p) p))).tmod p) else none) else none) else none) else none))) else none) else none) else none)
theorem eq_s_l09Made (p : Int) (x : Int) (y : Int) (z : Int) : execT Try.prog S_s_l09Made 69 54 1000000 dec_a3 [.v (.int .i64 p), .v (.int .i64 x), .v (.int .i64 y), .v (.int .i64 z)] = Fo_s_l09Made p x y z := by
  kernel_rfl
def s_l09Made (p : Int) (x : Int) (y : Int) (z : Int) : Int × Int × Int :=
  (if ((s_l01Mod x p) == 0) = true then (if ((s_l01Mod y p) == 0) = true then ((wrap64 ((s_l01Mod x p) * (s_l01Inverse (s_l01Mod z p) p))).tmod p, (wrap64 ((s_l01Mod y p) * (s_l01Inverse (s_l01Mod z p) p))).tmod p, (wrap64 ((s_l01Mod z p) * (s_l01Inverse (s_l01Mod z p) p))).tmod p) else ((wrap64 ((s_l01Mod x p) * (s_l01Inverse (s_l01Mod y p) p))).tmod p, (wrap64 ((s_l01Mod y p) * (s_l01Inverse (s_l01Mod y p) p))).tmod p, (wrap64 ((s_l01Mod z p) * (s_l01Inverse (s_l01Mod y p) p))).tmod p)) else (if ((s_l01Mod x p) == 0) = true then ((wrap64 ((s_l01Mod x p) * (s_l01Inverse (s_l01Mod z p) p))).tmod p, (wrap64 ((s_l01Mod y p) * (s_l01Inverse (s_l01Mod z p) p))).tmod p, (wrap64 ((s_l01Mod z p) * (s_l01Inverse (s_l01Mod z p) p))).tmod p) else ((wrap64 ((s_l01Mod x p) * (s_l01Inverse (s_l01Mod x p) p))).tmod p, (wrap64 ((s_l01Mod y p) * (s_l01Inverse (s_l01Mod x p) p))).tmod p, (wrap64 ((s_l01Mod z p) * (s_l01Inverse (s_l01Mod x p) p))).tmod p)))
theorem tot_s_l09Made (p : Int) (x : Int) (y : Int) (z : Int) (hp : (prB p) = true) : Fo_s_l09Made p x y z = some (s_l09Made p x y z) := by
  have h0 := prB_ne hp
  unfold Fo_s_l09Made s_l09Made
  (try simp only [wI_eq])
  repeat' (first | with_reducible rfl | with_reducible refine chk_opt hp ?_ | with_reducible refine chk_opt h0 ?_ | refine chk_opt (and_all hp fun _ => hp) ?_ | refine chk_opt (and_all hp fun _ => rfl) ?_ | refine ite_opt (fun _ => ?_) (fun _ => ?_) | rfl)
def run_s_l09Made : List PV → Option (Bool × List TR)
  | [.v (.int .i64 p), .v (.int .i64 x), .v (.int .i64 y), .v (.int .i64 z)] => some (prB p, enc_a3 (s_l09Made p x y z))
  | _ => none
theorem sound_s_l09Made : Sound Try.prog 69 run_s_l09Made := by
  refine sound_of de_a3 SO_s_l09Made (by kernel_rfl) Try.func69 Try.ntmps69 rfl (by kernel_rfl) ?_
  intro W pvs avs rs hargs hrun
  unfold run_s_l09Made at hrun
  split at hrun
  · simp only [Option.some.injEq, Prod.mk.injEq] at hrun
    obtain ⟨hp, rfl⟩ := hrun
    rename_i p x y z
    exact ⟨_, _, _, hargs, rfl, (eq_s_l09Made p x y z).trans (tot_s_l09Made p x y z hp)⟩
  · cases hrun

def S_s_l09Join : Sums := ⟨tblS [(69, run_s_l09Made)], tblM []⟩
theorem SO_s_l09Join : SumsOK Try.prog S_s_l09Join := ⟨tblS_ok ⟨⟨Try.call69, sound_s_l09Made⟩, True.intro⟩, tblM_ok True.intro⟩
def Fo_s_l09Join (p : Int) (a : Int × Int × Int) (b : Int × Int × Int) : Option (Int × Int × Int) :=
  (if (prB p) = true then some (s_l09Made p (wI ((wI (a.2.1 * b.2.2)) - (wI (a.2.2 * b.2.1)))) (wI ((wI (a.2.2 * b.1)) - (wI (a.1 * b.2.2)))) (wI ((wI (a.2.1 * b.1)) - (wI (a.1 * b.2.1))))) else none)
theorem eq_s_l09Join (p : Int) (a : Int × Int × Int) (b : Int × Int × Int) : execT Try.prog S_s_l09Join 73 42 1000000 dec_a3 [.v (.int .i64 p), .v (.agg ⟨[.int .i64 a.1, .int .i64 a.2.1, .int .i64 a.2.2]⟩), .v (.agg ⟨[.int .i64 b.1, .int .i64 b.2.1, .int .i64 b.2.2]⟩)] = Fo_s_l09Join p a b := by
  kernel_rfl
def s_l09Join (p : Int) (a : Int × Int × Int) (b : Int × Int × Int) : Int × Int × Int :=
  (s_l09Made p (wrap64 ((wrap64 (a.2.1 * b.2.2)) - (wrap64 (a.2.2 * b.2.1)))) (wrap64 ((wrap64 (a.2.2 * b.1)) - (wrap64 (a.1 * b.2.2)))) (wrap64 ((wrap64 (a.2.1 * b.1)) - (wrap64 (a.1 * b.2.1)))))
theorem tot_s_l09Join (p : Int) (a : Int × Int × Int) (b : Int × Int × Int) (hp : (prB p) = true) : Fo_s_l09Join p a b = some (s_l09Join p a b) := by
  have h0 := prB_ne hp
  unfold Fo_s_l09Join s_l09Join
  (try simp only [wI_eq])
  repeat' (first | with_reducible rfl | with_reducible refine chk_opt hp ?_ | with_reducible refine chk_opt h0 ?_ | refine chk_opt (and_all hp fun _ => hp) ?_ | refine chk_opt (and_all hp fun _ => rfl) ?_ | refine ite_opt (fun _ => ?_) (fun _ => ?_) | rfl)
def run_s_l09Join : List PV → Option (Bool × List TR)
  | [.v (.int .i64 p), .v (.agg ⟨[.int .i64 a0, .int .i64 a1, .int .i64 a2]⟩), .v (.agg ⟨[.int .i64 b0, .int .i64 b1, .int .i64 b2]⟩)] => some (prB p, enc_a3 (s_l09Join p (a0, a1, a2) (b0, b1, b2)))
  | _ => none
theorem sound_s_l09Join : Sound Try.prog 73 run_s_l09Join := by
  refine sound_of de_a3 SO_s_l09Join (by kernel_rfl) Try.func73 Try.ntmps73 rfl (by kernel_rfl) ?_
  intro W pvs avs rs hargs hrun
  unfold run_s_l09Join at hrun
  split at hrun
  · simp only [Option.some.injEq, Prod.mk.injEq] at hrun
    obtain ⟨hp, rfl⟩ := hrun
    rename_i p a0 a1 a2 b0 b1 b2
    exact ⟨_, _, _, hargs, rfl, (eq_s_l09Join p (a0, a1, a2) (b0, b1, b2)).trans (tot_s_l09Join p (a0, a1, a2) (b0, b1, b2) hp)⟩
  · cases hrun

def dec_b : List TR → Option (Bool)
  | [.v (.bool x0)] => some x0
  | _ => none
def enc_b : Bool → List TR
  | x0 => [.v (.bool x0)]
theorem de_b (rs : List TR) (x : Bool) (h : dec_b rs = some x) : rs = enc_b x := by
  unfold dec_b at h
  split at h
  · simp only [Option.some.injEq] at h
    subst h
    rfl
  · cases h
def S_i_isNumber : Sums := ⟨tblS [], tblM []⟩
theorem SO_i_isNumber : SumsOK Try.prog S_i_isNumber := ⟨tblS_ok True.intro, tblM_ok True.intro⟩
def Fo_i_isNumber (p : Int) (x : Int) : Option (Bool) :=
  (if (decide (x ≥ 0)) = true then some (decide (x < p)) else some false)
theorem eq_i_isNumber (p : Int) (x : Int) : execT Try.prog S_i_isNumber 108 12 1000000 dec_b [.v (.int .i64 p), .v (.int .i64 x)] = Fo_i_isNumber p x := by
  kernel_rfl
def i_isNumber (p : Int) (x : Int) : Bool :=
  (if (decide (x ≥ 0)) = true then decide (x < p) else false)
theorem tot_i_isNumber (p : Int) (x : Int) : Fo_i_isNumber p x = some (i_isNumber p x) := by
  unfold Fo_i_isNumber i_isNumber
  (try simp only [wI_eq])
  repeat' (first | with_reducible rfl | refine ite_opt (fun _ => ?_) (fun _ => ?_) | rfl)
def run_i_isNumber : List PV → Option (Bool × List TR)
  | [.v (.int .i64 p), .v (.int .i64 x)] => some (true, enc_b (i_isNumber p x))
  | _ => none
theorem sound_i_isNumber : Sound Try.prog 108 run_i_isNumber := by
  refine sound_of de_b SO_i_isNumber (by kernel_rfl) Try.func108 Try.ntmps108 rfl (by kernel_rfl) ?_
  intro W pvs avs rs hargs hrun
  unfold run_i_isNumber at hrun
  split at hrun
  · simp only [Option.some.injEq, Prod.mk.injEq] at hrun
    obtain ⟨hp, rfl⟩ := hrun
    rename_i p x
    exact ⟨_, _, _, hargs, rfl, (eq_i_isNumber p x).trans (tot_i_isNumber p x)⟩
  · cases hrun

def S_i_areNumbers : Sums := ⟨tblS [(108, run_i_isNumber)], tblM []⟩
theorem SO_i_areNumbers : SumsOK Try.prog S_i_areNumbers := ⟨tblS_ok ⟨⟨Try.call108, sound_i_isNumber⟩, True.intro⟩, tblM_ok True.intro⟩
def T_i_areNumbers_0 (p : Int) (listn : Nat) (listl : List Int) (t9 : Int) : Tab := ⟨[.val (.int .i64 p), .row 4, .junk, .junk, .val (.bool false), .junk, .junk, .row 4, .val (.int .i64 ((listn : Nat) : Int)), .val (.int .i64 t9), .junk, .junk, .junk, .junk, .junk, .junk, .junk, .junk], [(4, .ros listn (.ints listl))]⟩
def X_i_areNumbers_0 (P : Program) (fu : Nat) (p : Int) (listn : Nat) (listl : List Int) (f : Nat) (t9 : Int) : Option (Bool) := loopK (exec P S_i_areNumbers 18 fu (Code.sub [1, 0, 1, 0, 0] (bodyF P 71))) f (T_i_areNumbers_0 p listn listl t9) (kBlock 0 (kSeq (fun s => exec P S_i_areNumbers 18 fu (Code.sub [1, 1] (bodyF P 71)) s (finT P 71 dec_b)) (finT P 71 dec_b)))
def B_i_areNumbers_0 (p : Int) (listn : Nat) (listl : List Int) (rec0 : Int → Option (Bool)) (t9 : Int) : Option (Bool) :=
  (if (decide (t9 < ((listn : Nat) : Int))) = true then (if (decide (0 ≤ t9) && decide (t9 < ((listn : Nat) : Int))) = true then (if (Nat.ble (t9.toNat * 1 + 1) listl.length) = true then (if (!(i_isNumber p (listl.getD (t9.toNat * 1) 0))) = true then some false else rec0 (wI (t9 + 1))) else none) else none) else some true)
def L_i_areNumbers_0 (fu : Nat) (p : Int) (listn : Nat) (listl : List Int) : Nat → Int → Option (Bool)
  | 0, _ => none
  | f + 1, t9 => B_i_areNumbers_0 p listn listl (L_i_areNumbers_0 fu p listn listl f) t9
theorem loop_i_areNumbers_0 (fu : Nat) (p : Int) (listn : Nat) (listl : List Int) : ∀ (f : Nat) (t9 : Int), X_i_areNumbers_0 Try.prog fu p listn listl f t9 = L_i_areNumbers_0 fu p listn listl f t9 := by
  intro f
  induction f with
  | zero => intros; rfl
  | succ f ih =>
    intro t9
    have h1 : X_i_areNumbers_0 Try.prog fu p listn listl (f + 1) t9 = B_i_areNumbers_0 p listn listl (X_i_areNumbers_0 Try.prog fu p listn listl f) t9 := by kernel_rfl
    have h2 : X_i_areNumbers_0 Try.prog fu p listn listl f = L_i_areNumbers_0 fu p listn listl f := by funext t9; exact ih t9
    rw [h1, h2]
    rfl
def G_i_areNumbers (p : Int) (listn : Nat) (listl : List Int) (lo0 : Int → Option (Bool)) : Option (Bool) :=
  lo0 0
def Fo_i_areNumbers (fu : Nat) (p : Int) (listn : Nat) (listl : List Int) : Option (Bool) := G_i_areNumbers p listn listl (L_i_areNumbers_0 fu p listn listl (fu + 100))
theorem eqg_i_areNumbers (fu : Nat) (p : Int) (listn : Nat) (listl : List Int) : execT Try.prog S_i_areNumbers 71 18 fu dec_b [.v (.int .i64 p), .s listn (.ints listl)] = G_i_areNumbers p listn listl (L_i_areNumbers_0 fu p listn listl (fu + 100)) := by
  have h1 : execT Try.prog S_i_areNumbers 71 18 fu dec_b [.v (.int .i64 p), .s listn (.ints listl)] = G_i_areNumbers p listn listl (X_i_areNumbers_0 Try.prog fu p listn listl (fu + 100)) := by kernel_rfl
  have c0 : X_i_areNumbers_0 Try.prog fu p listn listl (fu + 100) = L_i_areNumbers_0 fu p listn listl (fu + 100) := by funext t9; exact loop_i_areNumbers_0 fu p listn listl (fu + 100) t9
  rw [h1, c0]
theorem eq_i_areNumbers (fu : Nat) (p : Int) (listn : Nat) (listl : List Int) : execT Try.prog S_i_areNumbers 71 18 fu dec_b [.v (.int .i64 p), .s listn (.ints listl)] = Fo_i_areNumbers fu p listn listl := eqg_i_areNumbers fu p listn listl
def i_areNumbers (p : Int) (l : List Int) : Bool := l.all (fun x => i_isNumber p x)
theorem tot_i_areNumbers (p : Int) (listn : Nat) (listl : List Int) (hp : (lenB listn 1 listl) = true) : Fo_i_areNumbers listn p listn listl = some (i_areNumbers p listl) := by
  obtain ⟨hl, hn⟩ := lenB_ok hp
  have key : ∀ F, listn < F → (L_i_areNumbers_0 listn p listn listl) F 0 = some (if (List.range listn).all (fun k => (fun x => i_isNumber p x) (listl.getD (k * 1) 0)) = true then true else false) := by
    intro F hF
    refine scan hF (fun f k hk => ?_) fun f => ?_
    · show B_i_areNumbers_0 p listn listl ((L_i_areNumbers_0 listn p listn listl) f) (k : Int) = _
      unfold B_i_areNumbers_0
      rw [if_pos (by simpa using hk), if_pos (by simpa using hk), if_pos (leb (by rw [hl, Int.toNat_natCast]; omega)), wrap_add1 hk (by omega)]
      first | rfl | (rw [wI_eq]; rfl)
    · show B_i_areNumbers_0 p listn listl ((L_i_areNumbers_0 listn p listn listl) f) ((listn : Nat) : Int) = _
      unfold B_i_areNumbers_0
      rw [if_neg (by simp)]
  unfold Fo_i_areNumbers G_i_areNumbers
  rw [key _ (by omega)]
  show _ = some ((listl).all (fun x => i_isNumber p x))
  rw [all_rows1 listn listl (by omega)]
  cases (List.range listn).all (fun k => (fun x => i_isNumber p x) (listl.getD (k * 1) 0)) <;> rfl
def run_i_areNumbers : List PV → Option (Bool × List TR)
  | [.v (.int .i64 p), .s listn (.ints listl)] => some (lenB listn 1 listl, enc_b (i_areNumbers p listl))
  | _ => none
theorem sound_i_areNumbers : Sound Try.prog 71 run_i_areNumbers := by
  refine sound_of de_b SO_i_areNumbers (by kernel_rfl) Try.func71 Try.ntmps71 rfl (by kernel_rfl) ?_
  intro W pvs avs rs hargs hrun
  unfold run_i_areNumbers at hrun
  split at hrun
  · simp only [Option.some.injEq, Prod.mk.injEq] at hrun
    obtain ⟨hp, rfl⟩ := hrun
    rename_i p listn listl
    exact ⟨_, _, _, hargs, rfl, (eq_i_areNumbers _ p listn listl).trans (tot_i_areNumbers p listn listl hp)⟩
  · cases hrun

def S_i_isPlace : Sums := ⟨tblS [(71, run_i_areNumbers)], tblM []⟩
theorem SO_i_isPlace : SumsOK Try.prog S_i_isPlace := ⟨tblS_ok ⟨⟨Try.call71, sound_i_areNumbers⟩, True.intro⟩, tblM_ok True.intro⟩
def Fo_i_isPlace (p : Int) (a : Int × Int × Int) : Option (Bool) :=
  (if (!(i_areNumbers p [a.1, a.2.1, a.2.2])) = true then some false else (if (a.1 != 0) = true then some (a.1 == 1) else (if (a.2.1 != 0) = true then some (a.2.1 == 1) else (if (a.2.2 != 0) = true then some (a.2.2 == 1) else some false))))
theorem eq_i_isPlace (p : Int) (a : Int × Int × Int) : execT Try.prog S_i_isPlace 62 20 1000000 dec_b [.v (.int .i64 p), .v (.agg ⟨[.int .i64 a.1, .int .i64 a.2.1, .int .i64 a.2.2]⟩)] = Fo_i_isPlace p a := by
  kernel_rfl
def i_isPlace (p : Int) (a : Int × Int × Int) : Bool :=
  (if (!(i_areNumbers p [a.1, a.2.1, a.2.2])) = true then false else (if (a.1 != 0) = true then a.1 == 1 else (if (a.2.1 != 0) = true then a.2.1 == 1 else (if (a.2.2 != 0) = true then a.2.2 == 1 else false))))
theorem tot_i_isPlace (p : Int) (a : Int × Int × Int) : Fo_i_isPlace p a = some (i_isPlace p a) := by
  unfold Fo_i_isPlace i_isPlace
  (try simp only [wI_eq])
  repeat' (first | with_reducible rfl | refine ite_opt (fun _ => ?_) (fun _ => ?_) | rfl)
def run_i_isPlace : List PV → Option (Bool × List TR)
  | [.v (.int .i64 p), .v (.agg ⟨[.int .i64 a0, .int .i64 a1, .int .i64 a2]⟩)] => some (true, enc_b (i_isPlace p (a0, a1, a2)))
  | _ => none
theorem sound_i_isPlace : Sound Try.prog 62 run_i_isPlace := by
  refine sound_of de_b SO_i_isPlace (by kernel_rfl) Try.func62 Try.ntmps62 rfl (by kernel_rfl) ?_
  intro W pvs avs rs hargs hrun
  unfold run_i_isPlace at hrun
  split at hrun
  · simp only [Option.some.injEq, Prod.mk.injEq] at hrun
    obtain ⟨hp, rfl⟩ := hrun
    rename_i p a0 a1 a2
    exact ⟨_, _, _, hargs, rfl, (eq_i_isPlace p (a0, a1, a2)).trans (tot_i_isPlace p (a0, a1, a2))⟩
  · cases hrun

def S_i_arePlaces : Sums := ⟨tblS [(62, run_i_isPlace)], tblM []⟩
theorem SO_i_arePlaces : SumsOK Try.prog S_i_arePlaces := ⟨tblS_ok ⟨⟨Try.call62, sound_i_isPlace⟩, True.intro⟩, tblM_ok True.intro⟩
def T_i_arePlaces_0 (p : Int) (listn : Nat) (listl : List Int) (t9 : Int) : Tab := ⟨[.val (.int .i64 p), .row 4, .junk, .junk, .val (.bool false), .junk, .junk, .row 4, .val (.int .i64 ((listn : Nat) : Int)), .val (.int .i64 t9), .junk, .junk, .junk, .junk, .junk, .junk, .junk, .junk], [(4, .ros listn (.ints listl))]⟩
def X_i_arePlaces_0 (P : Program) (fu : Nat) (p : Int) (listn : Nat) (listl : List Int) (f : Nat) (t9 : Int) : Option (Bool) := loopK (exec P S_i_arePlaces 18 fu (Code.sub [1, 0, 1, 0, 0] (bodyF P 66))) f (T_i_arePlaces_0 p listn listl t9) (kBlock 0 (kSeq (fun s => exec P S_i_arePlaces 18 fu (Code.sub [1, 1] (bodyF P 66)) s (finT P 66 dec_b)) (finT P 66 dec_b)))
def B_i_arePlaces_0 (p : Int) (listn : Nat) (listl : List Int) (rec0 : Int → Option (Bool)) (t9 : Int) : Option (Bool) :=
  (if (decide (t9 < ((listn : Nat) : Int))) = true then (if (decide (0 ≤ t9) && decide (t9 < ((listn : Nat) : Int))) = true then (if (Nat.ble (t9.toNat * 3 + 3) listl.length) = true then (if (!(i_isPlace p (listl.getD (t9.toNat * 3 + 0) 0, listl.getD (t9.toNat * 3 + 1) 0, listl.getD (t9.toNat * 3 + 2) 0))) = true then some false else rec0 (wI (t9 + 1))) else none) else none) else some true)
def L_i_arePlaces_0 (fu : Nat) (p : Int) (listn : Nat) (listl : List Int) : Nat → Int → Option (Bool)
  | 0, _ => none
  | f + 1, t9 => B_i_arePlaces_0 p listn listl (L_i_arePlaces_0 fu p listn listl f) t9
theorem loop_i_arePlaces_0 (fu : Nat) (p : Int) (listn : Nat) (listl : List Int) : ∀ (f : Nat) (t9 : Int), X_i_arePlaces_0 Try.prog fu p listn listl f t9 = L_i_arePlaces_0 fu p listn listl f t9 := by
  intro f
  induction f with
  | zero => intros; rfl
  | succ f ih =>
    intro t9
    have h1 : X_i_arePlaces_0 Try.prog fu p listn listl (f + 1) t9 = B_i_arePlaces_0 p listn listl (X_i_arePlaces_0 Try.prog fu p listn listl f) t9 := by kernel_rfl
    have h2 : X_i_arePlaces_0 Try.prog fu p listn listl f = L_i_arePlaces_0 fu p listn listl f := by funext t9; exact ih t9
    rw [h1, h2]
    rfl
def G_i_arePlaces (p : Int) (listn : Nat) (listl : List Int) (lo0 : Int → Option (Bool)) : Option (Bool) :=
  lo0 0
def Fo_i_arePlaces (fu : Nat) (p : Int) (listn : Nat) (listl : List Int) : Option (Bool) := G_i_arePlaces p listn listl (L_i_arePlaces_0 fu p listn listl (fu + 100))
theorem eqg_i_arePlaces (fu : Nat) (p : Int) (listn : Nat) (listl : List Int) : execT Try.prog S_i_arePlaces 66 18 fu dec_b [.v (.int .i64 p), .s listn (.ints listl)] = G_i_arePlaces p listn listl (L_i_arePlaces_0 fu p listn listl (fu + 100)) := by
  have h1 : execT Try.prog S_i_arePlaces 66 18 fu dec_b [.v (.int .i64 p), .s listn (.ints listl)] = G_i_arePlaces p listn listl (X_i_arePlaces_0 Try.prog fu p listn listl (fu + 100)) := by kernel_rfl
  have c0 : X_i_arePlaces_0 Try.prog fu p listn listl (fu + 100) = L_i_arePlaces_0 fu p listn listl (fu + 100) := by funext t9; exact loop_i_arePlaces_0 fu p listn listl (fu + 100) t9
  rw [h1, c0]
theorem eq_i_arePlaces (fu : Nat) (p : Int) (listn : Nat) (listl : List Int) : execT Try.prog S_i_arePlaces 66 18 fu dec_b [.v (.int .i64 p), .s listn (.ints listl)] = Fo_i_arePlaces fu p listn listl := eqg_i_arePlaces fu p listn listl
def i_arePlaces (p : Int) (l : List P3) : Bool := l.all (fun x => i_isPlace p x)
theorem tot_i_arePlaces (p : Int) (listn : Nat) (listl : List Int) (hp : (lenB listn 3 listl) = true) : Fo_i_arePlaces listn p listn listl = some (i_arePlaces p (rows3 listn listl)) := by
  obtain ⟨hl, hn⟩ := lenB_ok hp
  have key : ∀ F, listn < F → (L_i_arePlaces_0 listn p listn listl) F 0 = some (if (List.range listn).all (fun k => (fun x => i_isPlace p x) (listl.getD (k * 3) 0, listl.getD (k * 3 + 1) 0, listl.getD (k * 3 + 2) 0)) = true then true else false) := by
    intro F hF
    refine scan hF (fun f k hk => ?_) fun f => ?_
    · show B_i_arePlaces_0 p listn listl ((L_i_arePlaces_0 listn p listn listl) f) (k : Int) = _
      unfold B_i_arePlaces_0
      rw [if_pos (by simpa using hk), if_pos (by simpa using hk), if_pos (leb (by rw [hl, Int.toNat_natCast]; omega)), wrap_add1 hk (by omega)]
      first | rfl | (rw [wI_eq]; rfl)
    · show B_i_arePlaces_0 p listn listl ((L_i_arePlaces_0 listn p listn listl) f) ((listn : Nat) : Int) = _
      unfold B_i_arePlaces_0
      rw [if_neg (by simp)]
  unfold Fo_i_arePlaces G_i_arePlaces
  rw [key _ (by omega)]
  show _ = some (((rows3 listn listl)).all (fun x => i_isPlace p x))
  rw [all_rows3 listn listl]
  cases (List.range listn).all (fun k => (fun x => i_isPlace p x) (listl.getD (k * 3) 0, listl.getD (k * 3 + 1) 0, listl.getD (k * 3 + 2) 0)) <;> rfl
def run_i_arePlaces : List PV → Option (Bool × List TR)
  | [.v (.int .i64 p), .s listn (.ints listl)] => some (lenB listn 3 listl, enc_b (i_arePlaces p (rows3 listn listl)))
  | _ => none
theorem sound_i_arePlaces : Sound Try.prog 66 run_i_arePlaces := by
  refine sound_of de_b SO_i_arePlaces (by kernel_rfl) Try.func66 Try.ntmps66 rfl (by kernel_rfl) ?_
  intro W pvs avs rs hargs hrun
  unfold run_i_arePlaces at hrun
  split at hrun
  · simp only [Option.some.injEq, Prod.mk.injEq] at hrun
    obtain ⟨hp, rfl⟩ := hrun
    rename_i p listn listl
    exact ⟨_, _, _, hargs, rfl, (eq_i_arePlaces _ p listn listl).trans (tot_i_arePlaces p listn listl hp)⟩
  · cases hrun

def S_s_l01In : Sums := ⟨tblS [], tblM []⟩
theorem SO_s_l01In : SumsOK Try.prog S_s_l01In := ⟨tblS_ok True.intro, tblM_ok True.intro⟩
def Fo_s_l01In (n_ : Int) (low : Int) (high : Int) : Option (Bool) :=
  (if (decide (n_ ≥ low)) = true then some (decide (n_ ≤ high)) else some false)
theorem eq_s_l01In (n_ : Int) (low : Int) (high : Int) : execT Try.prog S_s_l01In 106 15 1000000 dec_b [.v (.int .i64 n_), .v (.int .i64 low), .v (.int .i64 high)] = Fo_s_l01In n_ low high := by
  kernel_rfl
def s_l01In (n_ : Int) (low : Int) (high : Int) : Bool :=
  (if (decide (n_ ≥ low)) = true then decide (n_ ≤ high) else false)
theorem tot_s_l01In (n_ : Int) (low : Int) (high : Int) : Fo_s_l01In n_ low high = some (s_l01In n_ low high) := by
  unfold Fo_s_l01In s_l01In
  (try simp only [wI_eq])
  repeat' (first | with_reducible rfl | refine ite_opt (fun _ => ?_) (fun _ => ?_) | rfl)
def run_s_l01In : List PV → Option (Bool × List TR)
  | [.v (.int .i64 n_), .v (.int .i64 low), .v (.int .i64 high)] => some (true, enc_b (s_l01In n_ low high))
  | _ => none
theorem sound_s_l01In : Sound Try.prog 106 run_s_l01In := by
  refine sound_of de_b SO_s_l01In (by kernel_rfl) Try.func106 Try.ntmps106 rfl (by kernel_rfl) ?_
  intro W pvs avs rs hargs hrun
  unfold run_s_l01In at hrun
  split at hrun
  · simp only [Option.some.injEq, Prod.mk.injEq] at hrun
    obtain ⟨hp, rfl⟩ := hrun
    rename_i n_ low high
    exact ⟨_, _, _, hargs, rfl, (eq_s_l01In n_ low high).trans (tot_s_l01In n_ low high)⟩
  · cases hrun

def S_i_IsField : Sums := ⟨tblS [], tblM []⟩
theorem SO_i_IsField : SumsOK Try.prog S_i_IsField := ⟨tblS_ok True.intro, tblM_ok True.intro⟩
def Fo_i_IsField (p : Int) : Option (Bool) :=
  (if (p == 3) = true then (if (p == 3) = true then some true else some false) else (if (p == 5) = true then (if (p == 5) = true then some true else some false) else (if (p == 7) = true then (if (p == 7) = true then some true else some false) else (if (p == 11) = true then (if (p == 11) = true then some true else some false) else (if (p == 13) = true then (if (p == 13) = true then some true else some false) else (if (p == 17) = true then (if (p == 17) = true then some true else some false) else (if (p == 19) = true then (if (p == 19) = true then some true else some false) else (if (p == 23) = true then (if (p == 23) = true then some true else some false) else (if (p == 29) = true then (if (p == 29) = true then some true else some false) else (if (p == 31) = true then some true else some false))))))))))
theorem eq_i_IsField (p : Int) : execT Try.prog S_i_IsField 77 15 1000000 dec_b [.v (.int .i64 p)] = Fo_i_IsField p := by
  kernel_rfl
def i_IsField (p : Int) : Bool :=
  (if (p == 3) = true then (if (p == 3) = true then true else false) else (if (p == 5) = true then (if (p == 5) = true then true else false) else (if (p == 7) = true then (if (p == 7) = true then true else false) else (if (p == 11) = true then (if (p == 11) = true then true else false) else (if (p == 13) = true then (if (p == 13) = true then true else false) else (if (p == 17) = true then (if (p == 17) = true then true else false) else (if (p == 19) = true then (if (p == 19) = true then true else false) else (if (p == 23) = true then (if (p == 23) = true then true else false) else (if (p == 29) = true then (if (p == 29) = true then true else false) else (if (p == 31) = true then true else false))))))))))
theorem tot_i_IsField (p : Int) : Fo_i_IsField p = some (i_IsField p) := by
  unfold Fo_i_IsField i_IsField
  (try simp only [wI_eq])
  repeat' (first | with_reducible rfl | refine ite_opt (fun _ => ?_) (fun _ => ?_) | rfl)
def run_i_IsField : List PV → Option (Bool × List TR)
  | [.v (.int .i64 p)] => some (true, enc_b (i_IsField p))
  | _ => none
theorem sound_i_IsField : Sound Try.prog 77 run_i_IsField := by
  refine sound_of de_b SO_i_IsField (by kernel_rfl) Try.func77 Try.ntmps77 rfl (by kernel_rfl) ?_
  intro W pvs avs rs hargs hrun
  unfold run_i_IsField at hrun
  split at hrun
  · simp only [Option.some.injEq, Prod.mk.injEq] at hrun
    obtain ⟨hp, rfl⟩ := hrun
    rename_i p
    exact ⟨_, _, _, hargs, rfl, (eq_i_IsField p).trans (tot_i_IsField p)⟩
  · cases hrun

def S_s_l01Field : Sums := ⟨tblS [(106, run_s_l01In)], tblM []⟩
theorem SO_s_l01Field : SumsOK Try.prog S_s_l01Field := ⟨tblS_ok ⟨⟨Try.call106, sound_s_l01In⟩, True.intro⟩, tblM_ok True.intro⟩
def T_s_l01Field_0 (p : Int) (d : Int) : Tab := ⟨[.val (.int .i64 p), .junk, .val (.bool false), .val (.int .i64 d), .val (.int .i64 p), .val (.bool (s_l01In p 3 31)), .val (.bool (!(s_l01In p 3 31))), .junk, .junk, .junk, .junk, .junk, .junk, .junk, .junk, .junk, .junk, .junk], []⟩
def X_s_l01Field_0 (P : Program) (fu : Nat) (p : Int) (f : Nat) (d : Int) : Option (Bool) := loopK (exec P S_s_l01Field 18 fu (Code.sub [1, 1, 0, 1, 0, 0] (bodyF P 102))) f (T_s_l01Field_0 p d) (kBlock 0 (kSeq (fun s => exec P S_s_l01Field 18 fu (Code.sub [1, 1, 1] (bodyF P 102)) s (finT P 102 dec_b)) (finT P 102 dec_b)))
def B_s_l01Field_0 (p : Int) (rec0 : Int → Option (Bool)) (d : Int) : Option (Bool) :=
  (if (decide ((wI (d * d)) ≤ p)) = true then (if (!(d == 0)) = true then (if ((p.tmod d) == 0) = true then some false else rec0 (wI (d + 1))) else none) else some true)
def L_s_l01Field_0 (fu : Nat) (p : Int) : Nat → Int → Option (Bool)
  | 0, _ => none
  | f + 1, d => B_s_l01Field_0 p (L_s_l01Field_0 fu p f) d
theorem loop_s_l01Field_0 (fu : Nat) (p : Int) : ∀ (f : Nat) (d : Int), X_s_l01Field_0 Try.prog fu p f d = L_s_l01Field_0 fu p f d := by
  intro f
  induction f with
  | zero => intros; rfl
  | succ f ih =>
    intro d
    have h1 : X_s_l01Field_0 Try.prog fu p (f + 1) d = B_s_l01Field_0 p (X_s_l01Field_0 Try.prog fu p f) d := by kernel_rfl
    have h2 : X_s_l01Field_0 Try.prog fu p f = L_s_l01Field_0 fu p f := by funext d; exact ih d
    rw [h1, h2]
    rfl
def G_s_l01Field (p : Int) (lo0 : Int → Option (Bool)) : Option (Bool) :=
  (if (!(s_l01In p 3 31)) = true then some false else lo0 2)
def Fo_s_l01Field (fu : Nat) (p : Int) : Option (Bool) := G_s_l01Field p (L_s_l01Field_0 fu p (fu + 100))
theorem eqg_s_l01Field (fu : Nat) (p : Int) : execT Try.prog S_s_l01Field 102 18 fu dec_b [.v (.int .i64 p)] = G_s_l01Field p (L_s_l01Field_0 fu p (fu + 100)) := by
  have h1 : execT Try.prog S_s_l01Field 102 18 fu dec_b [.v (.int .i64 p)] = G_s_l01Field p (X_s_l01Field_0 Try.prog fu p (fu + 100)) := by kernel_rfl
  have c0 : X_s_l01Field_0 Try.prog fu p (fu + 100) = L_s_l01Field_0 fu p (fu + 100) := by funext d; exact loop_s_l01Field_0 fu p (fu + 100) d
  rw [h1, c0]
theorem eq_s_l01Field (fu : Nat) (p : Int) : execT Try.prog S_s_l01Field 102 18 fu dec_b [.v (.int .i64 p)] = Fo_s_l01Field fu p := eqg_s_l01Field fu p
def s_l01Field (p : Int) : Bool := i_IsField p
theorem range29 {p : Int} (h3 : 3 ≤ p) (h31 : p ≤ 31) : p = 3 ∨ p = 4 ∨ p = 5 ∨ p = 6 ∨ p = 7 ∨ p = 8 ∨ p = 9 ∨ p = 10 ∨ p = 11 ∨ p = 12 ∨ p = 13 ∨ p = 14 ∨ p = 15 ∨ p = 16 ∨ p = 17 ∨ p = 18 ∨ p = 19 ∨ p = 20 ∨ p = 21 ∨ p = 22 ∨ p = 23 ∨ p = 24 ∨ p = 25 ∨ p = 26 ∨ p = 27 ∨ p = 28 ∨ p = 29 ∨ p = 30 ∨ p = 31 := by omega
theorem tot_s_l01Field (p : Int) : Fo_s_l01Field 40 p = some (s_l01Field p) := by
  by_cases hr : 3 ≤ p ∧ p ≤ 31
  · obtain ⟨h3, h31⟩ := hr
    obtain rfl | rfl | rfl | rfl | rfl | rfl | rfl | rfl | rfl | rfl | rfl | rfl | rfl | rfl | rfl | rfl | rfl | rfl | rfl | rfl | rfl | rfl | rfl | rfl | rfl | rfl | rfl | rfl | rfl := range29 h3 h31
    all_goals kernel_rfl
  · have hin : s_l01In p 3 31 = false := by simp [s_l01In]; omega
    unfold Fo_s_l01Field G_s_l01Field
    rw [hin]
    show some false = some (i_IsField p)
    congr 1
    symm
    simp [i_IsField]; omega
def run_s_l01Field : List PV → Option (Bool × List TR)
  | [.v (.int .i64 p)] => some (true, enc_b (s_l01Field p))
  | _ => none
theorem sound_s_l01Field : Sound Try.prog 102 run_s_l01Field := by
  refine sound_of de_b SO_s_l01Field (by kernel_rfl) Try.func102 Try.ntmps102 rfl (by kernel_rfl) ?_
  intro W pvs avs rs hargs hrun
  unfold run_s_l01Field at hrun
  split at hrun
  · simp only [Option.some.injEq, Prod.mk.injEq] at hrun
    obtain ⟨hp, rfl⟩ := hrun
    rename_i p
    exact ⟨_, _, _, hargs, rfl, (eq_s_l01Field _ p).trans (tot_s_l01Field p)⟩
  · cases hrun

def S_s_l09Is : Sums := ⟨tblS [(106, run_s_l01In)], tblM []⟩
theorem SO_s_l09Is : SumsOK Try.prog S_s_l09Is := ⟨tblS_ok ⟨⟨Try.call106, sound_s_l01In⟩, True.intro⟩, tblM_ok True.intro⟩
def Fo_s_l09Is (p : Int) (a : Int × Int × Int) : Option (Bool) :=
  (if (!(s_l01In a.1 0 (wI (p - 1)))) = true then some false else (if (!(s_l01In a.2.1 0 (wI (p - 1)))) = true then some false else (if (a.1 == 0) = true then (if (!(s_l01In a.2.2 0 (wI (p - 1)))) = true then some false else (if (a.2.1 == 0) = true then some (a.2.2 == 1) else some (a.2.1 == 1))) else (if (!(s_l01In a.2.2 0 (wI (p - 1)))) = true then some false else (if (a.1 == 0) = true then some (a.2.2 == 1) else some (a.1 == 1))))))
theorem eq_s_l09Is (p : Int) (a : Int × Int × Int) : execT Try.prog S_s_l09Is 103 25 1000000 dec_b [.v (.int .i64 p), .v (.agg ⟨[.int .i64 a.1, .int .i64 a.2.1, .int .i64 a.2.2]⟩)] = Fo_s_l09Is p a := by
  kernel_rfl
def s_l09Is (p : Int) (a : Int × Int × Int) : Bool :=
  (if (!(s_l01In a.1 0 (wrap64 (p - 1)))) = true then false else (if (!(s_l01In a.2.1 0 (wrap64 (p - 1)))) = true then false else (if (a.1 == 0) = true then (if (!(s_l01In a.2.2 0 (wrap64 (p - 1)))) = true then false else (if (a.2.1 == 0) = true then a.2.2 == 1 else a.2.1 == 1)) else (if (!(s_l01In a.2.2 0 (wrap64 (p - 1)))) = true then false else (if (a.1 == 0) = true then a.2.2 == 1 else a.1 == 1)))))
theorem tot_s_l09Is (p : Int) (a : Int × Int × Int) : Fo_s_l09Is p a = some (s_l09Is p a) := by
  unfold Fo_s_l09Is s_l09Is
  (try simp only [wI_eq])
  repeat' (first | with_reducible rfl | refine ite_opt (fun _ => ?_) (fun _ => ?_) | rfl)
def run_s_l09Is : List PV → Option (Bool × List TR)
  | [.v (.int .i64 p), .v (.agg ⟨[.int .i64 a0, .int .i64 a1, .int .i64 a2]⟩)] => some (true, enc_b (s_l09Is p (a0, a1, a2)))
  | _ => none
theorem sound_s_l09Is : Sound Try.prog 103 run_s_l09Is := by
  refine sound_of de_b SO_s_l09Is (by kernel_rfl) Try.func103 Try.ntmps103 rfl (by kernel_rfl) ?_
  intro W pvs avs rs hargs hrun
  unfold run_s_l09Is at hrun
  split at hrun
  · simp only [Option.some.injEq, Prod.mk.injEq] at hrun
    obtain ⟨hp, rfl⟩ := hrun
    rename_i p a0 a1 a2
    exact ⟨_, _, _, hargs, rfl, (eq_s_l09Is p (a0, a1, a2)).trans (tot_s_l09Is p (a0, a1, a2))⟩
  · cases hrun

def clo__b (k : Bool) (h : Bool) : List Value → Option (Bool × Value)
  | [] => some (k, .bool (h))
  | _ => none
theorem clo__b_ok (g : List Value → Option (Bool × Value)) : ∀ args r, clo__b (okV (g [])) (boolV (g [])) args = some (true, r) → g args = some (true, r) := by
  intro args r h
  unfold clo__b at h
  split at h
  · simp only [Option.some.injEq, Prod.mk.injEq] at h
    obtain ⟨h1, rfl⟩ := h
    exact okV_some h1
  · cases h
def S_i_asked : Sums := ⟨tblS [(77, run_i_IsField)], tblM []⟩
theorem SO_i_asked : SumsOK Try.prog S_i_asked := ⟨tblS_ok ⟨⟨Try.call77, sound_i_IsField⟩, True.intro⟩, tblM_ok True.intro⟩
def Fo_i_asked (p : Int) (rightk : Bool) (righth : Bool) : Option (Int) :=
  (if (!(i_IsField p)) = true then some 1 else (if (rightk) = true then (if (!righth) = true then some 2 else some 0) else none))
theorem eq_i_asked (p : Int) (rightk : Bool) (righth : Bool) : execT Try.prog S_i_asked 60 11 1000000 dec_i [.v (.int .i64 p), .f (clo__b rightk righth)] = Fo_i_asked p rightk righth := by
  kernel_rfl
def i_asked (p : Int) (rightk righth : Bool) : Int := if i_IsField p = true then (if righth = true then 0 else 2) else 1
theorem asked_zero {p : Int} {k b : Bool} (h : i_asked p k b = 0) : i_IsField p = true ∧ b = true := by
  unfold i_asked at h
  cases h1 : i_IsField p <;> cases h2 : b <;> simp [h1, h2] at h ⊢
theorem i_IsField_ok {p : Int} (h : i_IsField p = true) : Pr p := by
  unfold Pr; simp [i_IsField] at h; omega
theorem asked_prB {p : Int} {k b : Bool} (h : ¬ (i_asked p k b != 0) = true) : prB p = true := Pr_prB (i_IsField_ok (asked_zero (by simpa using h)).1)
theorem asked_prB0 {p : Int} {k b : Bool} (h : (i_asked p k b == 0) = true) : prB p = true := asked_prB (by simpa using h)
theorem field_prB {p : Int} (h : i_IsField p = true) : prB p = true := Pr_prB (i_IsField_ok h)
theorem field_prB0 {p : Int} (h : ¬ (!(i_IsField p)) = true) : prB p = true := field_prB (by simpa using h)
theorem tot_i_asked (p : Int) (rightk : Bool) (righth : Bool) (hp : (rightk || !(i_IsField p)) = true) : Fo_i_asked p rightk righth = some (i_asked p rightk righth) := by
  unfold Fo_i_asked i_asked
  cases h : i_IsField p <;> cases rightk <;> cases righth <;> simp_all
def run_i_asked : List PV → Option (Bool × List TR)
  | [.v (.int .i64 p), .f rightg] => some ((okV (rightg [])) || !(i_IsField p), enc_i (i_asked p (okV (rightg [])) (boolV (rightg []))))
  | _ => none
theorem sound_i_asked : Sound Try.prog 60 run_i_asked := by
  refine sound_of de_i SO_i_asked (by kernel_rfl) Try.func60 Try.ntmps60 rfl (by kernel_rfl) ?_
  intro W pvs avs rs hargs hrun
  unfold run_i_asked at hrun
  split at hrun
  · simp only [Option.some.injEq, Prod.mk.injEq] at hrun
    obtain ⟨hp, rfl⟩ := hrun
    rename_i p rightg
    have hargs := All2.replace (l1 := [_]) hargs (y := .f (clo__b _ _)) fun b hb => fn_weaken hb (clo__b_ok _)
    exact ⟨_, _, _, hargs, rfl, (eq_i_asked p (okV (rightg [])) (boolV (rightg []))).trans (tot_i_asked p (okV (rightg [])) (boolV (rightg [])) hp)⟩
  · cases hrun

def S_s_l09Code : Sums := ⟨tblS [(102, run_s_l01Field), (103, run_s_l09Is)], tblM []⟩
theorem SO_s_l09Code : SumsOK Try.prog S_s_l09Code := ⟨tblS_ok ⟨⟨Try.call102, sound_s_l01Field⟩, ⟨Try.call103, sound_s_l09Is⟩, True.intro⟩, tblM_ok True.intro⟩
def T_s_l09Code_0 (p : Int) (listn : Nat) (listl : List Int) (i : Int) : Tab := ⟨[.val (.int .i64 p), .row 4, .junk, .junk, .val (.int .i64 0), .val (.int .i64 i), .val (.int .i64 p), .val (.bool (s_l01Field p)), .val (.bool (!(s_l01Field p))), .junk, .junk, .junk, .junk, .junk, .junk, .junk, .junk, .junk, .junk, .junk, .junk, .junk], [(4, .ros listn (.ints listl))]⟩
def X_s_l09Code_0 (P : Program) (fu : Nat) (p : Int) (listn : Nat) (listl : List Int) (f : Nat) (i : Int) : Option (Int) := loopK (exec P S_s_l09Code 22 fu (Code.sub [1, 1, 0, 1, 0, 0] (bodyF P 58))) f (T_s_l09Code_0 p listn listl i) (kBlock 0 (kSeq (fun s => exec P S_s_l09Code 22 fu (Code.sub [1, 1, 1] (bodyF P 58)) s (finT P 58 dec_i)) (finT P 58 dec_i)))
def B_s_l09Code_0 (p : Int) (listn : Nat) (listl : List Int) (rec0 : Int → Option (Int)) (i : Int) : Option (Int) :=
  (if (decide (i < ((listn : Nat) : Int))) = true then (if (decide (0 ≤ i) && decide (i < ((listn : Nat) : Int))) = true then (if (Nat.ble (i.toNat * 3 + 3) listl.length) = true then (if (!(s_l09Is p (listl.getD (i.toNat * 3 + 0) 0, listl.getD (i.toNat * 3 + 1) 0, listl.getD (i.toNat * 3 + 2) 0))) = true then some 2 else rec0 (wI (i + 1))) else none) else none) else some 0)
def L_s_l09Code_0 (fu : Nat) (p : Int) (listn : Nat) (listl : List Int) : Nat → Int → Option (Int)
  | 0, _ => none
  | f + 1, i => B_s_l09Code_0 p listn listl (L_s_l09Code_0 fu p listn listl f) i
theorem loop_s_l09Code_0 (fu : Nat) (p : Int) (listn : Nat) (listl : List Int) : ∀ (f : Nat) (i : Int), X_s_l09Code_0 Try.prog fu p listn listl f i = L_s_l09Code_0 fu p listn listl f i := by
  intro f
  induction f with
  | zero => intros; rfl
  | succ f ih =>
    intro i
    have h1 : X_s_l09Code_0 Try.prog fu p listn listl (f + 1) i = B_s_l09Code_0 p listn listl (X_s_l09Code_0 Try.prog fu p listn listl f) i := by kernel_rfl
    have h2 : X_s_l09Code_0 Try.prog fu p listn listl f = L_s_l09Code_0 fu p listn listl f := by funext i; exact ih i
    rw [h1, h2]
    rfl
def G_s_l09Code (p : Int) (listn : Nat) (listl : List Int) (lo0 : Int → Option (Int)) : Option (Int) :=
  (if (!(s_l01Field p)) = true then some 1 else lo0 0)
def Fo_s_l09Code (fu : Nat) (p : Int) (listn : Nat) (listl : List Int) : Option (Int) := G_s_l09Code p listn listl (L_s_l09Code_0 fu p listn listl (fu + 100))
theorem eqg_s_l09Code (fu : Nat) (p : Int) (listn : Nat) (listl : List Int) : execT Try.prog S_s_l09Code 58 22 fu dec_i [.v (.int .i64 p), .s listn (.ints listl)] = G_s_l09Code p listn listl (L_s_l09Code_0 fu p listn listl (fu + 100)) := by
  have h1 : execT Try.prog S_s_l09Code 58 22 fu dec_i [.v (.int .i64 p), .s listn (.ints listl)] = G_s_l09Code p listn listl (X_s_l09Code_0 Try.prog fu p listn listl (fu + 100)) := by kernel_rfl
  have c0 : X_s_l09Code_0 Try.prog fu p listn listl (fu + 100) = L_s_l09Code_0 fu p listn listl (fu + 100) := by funext i; exact loop_s_l09Code_0 fu p listn listl (fu + 100) i
  rw [h1, c0]
theorem eq_s_l09Code (fu : Nat) (p : Int) (listn : Nat) (listl : List Int) : execT Try.prog S_s_l09Code 58 22 fu dec_i [.v (.int .i64 p), .s listn (.ints listl)] = Fo_s_l09Code fu p listn listl := eqg_s_l09Code fu p listn listl
def s_l09Code (p : Int) (l : List P3) : Int := if s_l01Field p = true then (if l.all (fun x => s_l09Is p x) = true then 0 else 2) else 1
theorem l09Code_prB {p : Int} {l : List P3} (h : ¬ (s_l09Code p l != 0) = true) : prB p = true := by
  refine Pr_prB (i_IsField_ok ?_)
  have h : s_l09Code p l = 0 := by simpa using h
  cases hf : i_IsField p
  · simp [s_l09Code, s_l01Field, hf] at h
  · rfl
theorem l09Code_prB0 {p : Int} {l : List P3} (h : (s_l09Code p l == 0) = true) : prB p = true := l09Code_prB (by simpa using h)
theorem tot_s_l09Code (p : Int) (listn : Nat) (listl : List Int) (hp : (lenB listn 3 listl) = true) : Fo_s_l09Code listn p listn listl = some (s_l09Code p (rows3 listn listl)) := by
  obtain ⟨hl, hn⟩ := lenB_ok hp
  have key : ∀ F, listn < F → (L_s_l09Code_0 listn p listn listl) F 0 = some (if (List.range listn).all (fun k => (fun x => s_l09Is p x) (listl.getD (k * 3) 0, listl.getD (k * 3 + 1) 0, listl.getD (k * 3 + 2) 0)) = true then 0 else 2) := by
    intro F hF
    refine scan hF (fun f k hk => ?_) fun f => ?_
    · show B_s_l09Code_0 p listn listl ((L_s_l09Code_0 listn p listn listl) f) (k : Int) = _
      unfold B_s_l09Code_0
      rw [if_pos (by simpa using hk), if_pos (by simpa using hk), if_pos (leb (by rw [hl, Int.toNat_natCast]; omega)), wrap_add1 hk (by omega)]
      first | rfl | (rw [wI_eq]; rfl)
    · show B_s_l09Code_0 p listn listl ((L_s_l09Code_0 listn p listn listl) f) ((listn : Nat) : Int) = _
      unfold B_s_l09Code_0
      rw [if_neg (by simp)]
  unfold Fo_s_l09Code G_s_l09Code
  show _ = some (if s_l01Field p = true then (if ((rows3 listn listl)).all (fun x => s_l09Is p x) = true then 0 else 2) else 1)
  cases hf : s_l01Field p
  · rfl
  · rw [key _ (by omega), all_rows3 listn listl]
    rfl
def run_s_l09Code : List PV → Option (Bool × List TR)
  | [.v (.int .i64 p), .s listn (.ints listl)] => some (lenB listn 3 listl, enc_i (s_l09Code p (rows3 listn listl)))
  | _ => none
theorem sound_s_l09Code : Sound Try.prog 58 run_s_l09Code := by
  refine sound_of de_i SO_s_l09Code (by kernel_rfl) Try.func58 Try.ntmps58 rfl (by kernel_rfl) ?_
  intro W pvs avs rs hargs hrun
  unfold run_s_l09Code at hrun
  split at hrun
  · simp only [Option.some.injEq, Prod.mk.injEq] at hrun
    obtain ⟨hp, rfl⟩ := hrun
    rename_i p listn listl
    exact ⟨_, _, _, hargs, rfl, (eq_s_l09Code _ p listn listl).trans (tot_s_l09Code p listn listl hp)⟩
  · cases hrun

def S_i_threeBy : Sums := ⟨tblS [(105, run_i_rest)], tblM []⟩
theorem SO_i_threeBy : SumsOK Try.prog S_i_threeBy := ⟨tblS_ok ⟨⟨Try.call105, sound_i_rest⟩, True.intro⟩, tblM_ok True.intro⟩
def Fo_i_threeBy (p : Int) (a : Int × Int × Int) (b : Int × Int × Int) (c : Int × Int × Int) : Option (Int) :=
  (if (prB p) = true then (if (prB p) = true then (if (prB p) = true then (if (prB p) = true then some (i_rest p (wI ((wI ((wI (a.1 * (i_rest p (wI ((wI (b.2.1 * c.2.2)) - (wI (b.2.2 * c.2.1))))))) + (wI (a.2.1 * (i_rest p (wI ((wI (b.2.2 * c.1)) - (wI (b.1 * c.2.2))))))))) + (wI (a.2.2 * (i_rest p (wI ((wI (b.1 * c.2.1)) - (wI (b.2.1 * c.1)))))))))) else none) else none) else none) else none)
theorem eq_i_threeBy (p : Int) (a : Int × Int × Int) (b : Int × Int × Int) (c : Int × Int × Int) : execT Try.prog S_i_threeBy 75 67 1000000 dec_i [.v (.int .i64 p), .v (.agg ⟨[.int .i64 a.1, .int .i64 a.2.1, .int .i64 a.2.2]⟩), .v (.agg ⟨[.int .i64 b.1, .int .i64 b.2.1, .int .i64 b.2.2]⟩), .v (.agg ⟨[.int .i64 c.1, .int .i64 c.2.1, .int .i64 c.2.2]⟩)] = Fo_i_threeBy p a b c := by
  kernel_rfl
def i_threeBy (p : Int) (a : Int × Int × Int) (b : Int × Int × Int) (c : Int × Int × Int) : Int :=
  (i_rest p (wrap64 ((wrap64 ((wrap64 (a.1 * (i_rest p (wrap64 ((wrap64 (b.2.1 * c.2.2)) - (wrap64 (b.2.2 * c.2.1))))))) + (wrap64 (a.2.1 * (i_rest p (wrap64 ((wrap64 (b.2.2 * c.1)) - (wrap64 (b.1 * c.2.2))))))))) + (wrap64 (a.2.2 * (i_rest p (wrap64 ((wrap64 (b.1 * c.2.1)) - (wrap64 (b.2.1 * c.1))))))))))
theorem tot_i_threeBy (p : Int) (a : Int × Int × Int) (b : Int × Int × Int) (c : Int × Int × Int) (hp : (prB p) = true) : Fo_i_threeBy p a b c = some (i_threeBy p a b c) := by
  have h0 := prB_ne hp
  unfold Fo_i_threeBy i_threeBy
  (try simp only [wI_eq])
  repeat' (first | with_reducible rfl | with_reducible refine chk_opt hp ?_ | with_reducible refine chk_opt h0 ?_ | refine chk_opt (and_all hp fun _ => hp) ?_ | refine chk_opt (and_all hp fun _ => rfl) ?_ | refine ite_opt (fun _ => ?_) (fun _ => ?_) | rfl)
def run_i_threeBy : List PV → Option (Bool × List TR)
  | [.v (.int .i64 p), .v (.agg ⟨[.int .i64 a0, .int .i64 a1, .int .i64 a2]⟩), .v (.agg ⟨[.int .i64 b0, .int .i64 b1, .int .i64 b2]⟩), .v (.agg ⟨[.int .i64 c0, .int .i64 c1, .int .i64 c2]⟩)] => some (prB p, enc_i (i_threeBy p (a0, a1, a2) (b0, b1, b2) (c0, c1, c2)))
  | _ => none
theorem sound_i_threeBy : Sound Try.prog 75 run_i_threeBy := by
  refine sound_of de_i SO_i_threeBy (by kernel_rfl) Try.func75 Try.ntmps75 rfl (by kernel_rfl) ?_
  intro W pvs avs rs hargs hrun
  unfold run_i_threeBy at hrun
  split at hrun
  · simp only [Option.some.injEq, Prod.mk.injEq] at hrun
    obtain ⟨hp, rfl⟩ := hrun
    rename_i p a0 a1 a2 b0 b1 b2 c0 c1 c2
    exact ⟨_, _, _, hargs, rfl, (eq_i_threeBy p (a0, a1, a2) (b0, b1, b2) (c0, c1, c2)).trans (tot_i_threeBy p (a0, a1, a2) (b0, b1, b2) (c0, c1, c2) hp)⟩
  · cases hrun

def S_i_placeProduct : Sums := ⟨tblS [(105, run_i_rest)], tblM []⟩
theorem SO_i_placeProduct : SumsOK Try.prog S_i_placeProduct := ⟨tblS_ok ⟨⟨Try.call105, sound_i_rest⟩, True.intro⟩, tblM_ok True.intro⟩
def Fo_i_placeProduct (p : Int) (a : Int × Int × Int) (b : Int × Int × Int) : Option (Int) :=
  (if (prB p) = true then some (i_rest p (wI ((wI ((wI (a.1 * b.1)) + (wI (a.2.1 * b.2.1)))) - (wI (a.2.2 * b.2.2))))) else none)
theorem eq_i_placeProduct (p : Int) (a : Int × Int × Int) (b : Int × Int × Int) : execT Try.prog S_i_placeProduct 67 26 1000000 dec_i [.v (.int .i64 p), .v (.agg ⟨[.int .i64 a.1, .int .i64 a.2.1, .int .i64 a.2.2]⟩), .v (.agg ⟨[.int .i64 b.1, .int .i64 b.2.1, .int .i64 b.2.2]⟩)] = Fo_i_placeProduct p a b := by
  kernel_rfl
def i_placeProduct (p : Int) (a : Int × Int × Int) (b : Int × Int × Int) : Int :=
  (i_rest p (wrap64 ((wrap64 ((wrap64 (a.1 * b.1)) + (wrap64 (a.2.1 * b.2.1)))) - (wrap64 (a.2.2 * b.2.2)))))
theorem tot_i_placeProduct (p : Int) (a : Int × Int × Int) (b : Int × Int × Int) (hp : (prB p) = true) : Fo_i_placeProduct p a b = some (i_placeProduct p a b) := by
  have h0 := prB_ne hp
  unfold Fo_i_placeProduct i_placeProduct
  (try simp only [wI_eq])
  repeat' (first | with_reducible rfl | with_reducible refine chk_opt hp ?_ | with_reducible refine chk_opt h0 ?_ | refine chk_opt (and_all hp fun _ => hp) ?_ | refine chk_opt (and_all hp fun _ => rfl) ?_ | refine ite_opt (fun _ => ?_) (fun _ => ?_) | rfl)
def run_i_placeProduct : List PV → Option (Bool × List TR)
  | [.v (.int .i64 p), .v (.agg ⟨[.int .i64 a0, .int .i64 a1, .int .i64 a2]⟩), .v (.agg ⟨[.int .i64 b0, .int .i64 b1, .int .i64 b2]⟩)] => some (prB p, enc_i (i_placeProduct p (a0, a1, a2) (b0, b1, b2)))
  | _ => none
theorem sound_i_placeProduct : Sound Try.prog 67 run_i_placeProduct := by
  refine sound_of de_i SO_i_placeProduct (by kernel_rfl) Try.func67 Try.ntmps67 rfl (by kernel_rfl) ?_
  intro W pvs avs rs hargs hrun
  unfold run_i_placeProduct at hrun
  split at hrun
  · simp only [Option.some.injEq, Prod.mk.injEq] at hrun
    obtain ⟨hp, rfl⟩ := hrun
    rename_i p a0 a1 a2 b0 b1 b2
    exact ⟨_, _, _, hargs, rfl, (eq_i_placeProduct p (a0, a1, a2) (b0, b1, b2)).trans (tot_i_placeProduct p (a0, a1, a2) (b0, b1, b2) hp)⟩
  · cases hrun

def S_i_placeQuadrance : Sums := ⟨tblS [(67, run_i_placeProduct), (105, run_i_rest), (109, run_i_divide)], tblM []⟩
theorem SO_i_placeQuadrance : SumsOK Try.prog S_i_placeQuadrance := ⟨tblS_ok ⟨⟨Try.call67, sound_i_placeProduct⟩, ⟨Try.call105, sound_i_rest⟩, ⟨Try.call109, sound_i_divide⟩, True.intro⟩, tblM_ok True.intro⟩
def Fo_i_placeQuadrance (p : Int) (a : Int × Int × Int) (b : Int × Int × Int) : Option (Int) :=
  (if (prB p) = true then (if (prB p) = true then (if (prB p) = true then (if (prB p) = true then (if (prB p) = true then (if (prB p) = true then some (i_rest p (wI (1 - (i_divide p (wI ((i_placeProduct p a b) * (i_placeProduct p a b))) (i_rest p (wI ((i_placeProduct p a a) * (i_placeProduct p b b)))))))) else none) else none) else none) else none) else none) else none)
theorem eq_i_placeQuadrance (p : Int) (a : Int × Int × Int) (b : Int × Int × Int) : execT Try.prog S_i_placeQuadrance 82 31 1000000 dec_i [.v (.int .i64 p), .v (.agg ⟨[.int .i64 a.1, .int .i64 a.2.1, .int .i64 a.2.2]⟩), .v (.agg ⟨[.int .i64 b.1, .int .i64 b.2.1, .int .i64 b.2.2]⟩)] = Fo_i_placeQuadrance p a b := by
  kernel_rfl
def i_placeQuadrance (p : Int) (a : Int × Int × Int) (b : Int × Int × Int) : Int :=
  (i_rest p (wrap64 (1 - (i_divide p (wrap64 ((i_placeProduct p a b) * (i_placeProduct p a b))) (i_rest p (wrap64 ((i_placeProduct p a a) * (i_placeProduct p b b))))))))
theorem tot_i_placeQuadrance (p : Int) (a : Int × Int × Int) (b : Int × Int × Int) (hp : (prB p) = true) : Fo_i_placeQuadrance p a b = some (i_placeQuadrance p a b) := by
  have h0 := prB_ne hp
  unfold Fo_i_placeQuadrance i_placeQuadrance
  (try simp only [wI_eq])
  repeat' (first | with_reducible rfl | with_reducible refine chk_opt hp ?_ | with_reducible refine chk_opt h0 ?_ | refine chk_opt (and_all hp fun _ => hp) ?_ | refine chk_opt (and_all hp fun _ => rfl) ?_ | refine ite_opt (fun _ => ?_) (fun _ => ?_) | rfl)
def run_i_placeQuadrance : List PV → Option (Bool × List TR)
  | [.v (.int .i64 p), .v (.agg ⟨[.int .i64 a0, .int .i64 a1, .int .i64 a2]⟩), .v (.agg ⟨[.int .i64 b0, .int .i64 b1, .int .i64 b2]⟩)] => some (prB p, enc_i (i_placeQuadrance p (a0, a1, a2) (b0, b1, b2)))
  | _ => none
theorem sound_i_placeQuadrance : Sound Try.prog 82 run_i_placeQuadrance := by
  refine sound_of de_i SO_i_placeQuadrance (by kernel_rfl) Try.func82 Try.ntmps82 rfl (by kernel_rfl) ?_
  intro W pvs avs rs hargs hrun
  unfold run_i_placeQuadrance at hrun
  split at hrun
  · simp only [Option.some.injEq, Prod.mk.injEq] at hrun
    obtain ⟨hp, rfl⟩ := hrun
    rename_i p a0 a1 a2 b0 b1 b2
    exact ⟨_, _, _, hargs, rfl, (eq_i_placeQuadrance p (a0, a1, a2) (b0, b1, b2)).trans (tot_i_placeQuadrance p (a0, a1, a2) (b0, b1, b2) hp)⟩
  · cases hrun

theorem iquad_b {p : Int} (hp : prB p = true) (a b : P3) : 0 ≤ i_placeQuadrance p a b ∧ i_placeQuadrance p a b < p := by
  obtain ⟨h1, h2⟩ := prB_Pr hp
  unfold i_placeQuadrance i_rest
  exact ⟨Int.emod_nonneg _ (by omega), Int.emod_lt_of_pos _ (by omega)⟩
def S_s_l09Product : Sums := ⟨tblS [(104, run_s_l01Mod)], tblM []⟩
theorem SO_s_l09Product : SumsOK Try.prog S_s_l09Product := ⟨tblS_ok ⟨⟨Try.call104, sound_s_l01Mod⟩, True.intro⟩, tblM_ok True.intro⟩
def Fo_s_l09Product (p : Int) (a : Int × Int × Int) (b : Int × Int × Int) : Option (Int) :=
  (if (prB p) = true then some (s_l01Mod (wI ((wI ((wI (a.1 * b.1)) + (wI (a.2.1 * b.2.1)))) - (wI (a.2.2 * b.2.2)))) p) else none)
theorem eq_s_l09Product (p : Int) (a : Int × Int × Int) (b : Int × Int × Int) : execT Try.prog S_s_l09Product 64 26 1000000 dec_i [.v (.int .i64 p), .v (.agg ⟨[.int .i64 a.1, .int .i64 a.2.1, .int .i64 a.2.2]⟩), .v (.agg ⟨[.int .i64 b.1, .int .i64 b.2.1, .int .i64 b.2.2]⟩)] = Fo_s_l09Product p a b := by
  kernel_rfl
def s_l09Product (p : Int) (a : Int × Int × Int) (b : Int × Int × Int) : Int :=
  (s_l01Mod (wrap64 ((wrap64 ((wrap64 (a.1 * b.1)) + (wrap64 (a.2.1 * b.2.1)))) - (wrap64 (a.2.2 * b.2.2)))) p)
theorem tot_s_l09Product (p : Int) (a : Int × Int × Int) (b : Int × Int × Int) (hp : (prB p) = true) : Fo_s_l09Product p a b = some (s_l09Product p a b) := by
  have h0 := prB_ne hp
  unfold Fo_s_l09Product s_l09Product
  (try simp only [wI_eq])
  repeat' (first | with_reducible rfl | with_reducible refine chk_opt hp ?_ | with_reducible refine chk_opt h0 ?_ | refine chk_opt (and_all hp fun _ => hp) ?_ | refine chk_opt (and_all hp fun _ => rfl) ?_ | refine ite_opt (fun _ => ?_) (fun _ => ?_) | rfl)
def run_s_l09Product : List PV → Option (Bool × List TR)
  | [.v (.int .i64 p), .v (.agg ⟨[.int .i64 a0, .int .i64 a1, .int .i64 a2]⟩), .v (.agg ⟨[.int .i64 b0, .int .i64 b1, .int .i64 b2]⟩)] => some (prB p, enc_i (s_l09Product p (a0, a1, a2) (b0, b1, b2)))
  | _ => none
theorem sound_s_l09Product : Sound Try.prog 64 run_s_l09Product := by
  refine sound_of de_i SO_s_l09Product (by kernel_rfl) Try.func64 Try.ntmps64 rfl (by kernel_rfl) ?_
  intro W pvs avs rs hargs hrun
  unfold run_s_l09Product at hrun
  split at hrun
  · simp only [Option.some.injEq, Prod.mk.injEq] at hrun
    obtain ⟨hp, rfl⟩ := hrun
    rename_i p a0 a1 a2 b0 b1 b2
    exact ⟨_, _, _, hargs, rfl, (eq_s_l09Product p (a0, a1, a2) (b0, b1, b2)).trans (tot_s_l09Product p (a0, a1, a2) (b0, b1, b2) hp)⟩
  · cases hrun

def S_s_l09Quadrance : Sums := ⟨tblS [(64, run_s_l09Product), (107, run_s_l01Inverse), (104, run_s_l01Mod)], tblM []⟩
theorem SO_s_l09Quadrance : SumsOK Try.prog S_s_l09Quadrance := ⟨tblS_ok ⟨⟨Try.call64, sound_s_l09Product⟩, ⟨Try.call107, sound_s_l01Inverse⟩, ⟨Try.call104, sound_s_l01Mod⟩, True.intro⟩, tblM_ok True.intro⟩
def Fo_s_l09Quadrance (p : Int) (a : Int × Int × Int) (b : Int × Int × Int) : Option (Int) :=
  (if (prB p) = true then (if (!(p == 0)) = true then (if (prB p) = true then (if (prB p) = true then (if (prB p) = true then (if (prB p) = true then some (s_l01Mod (wI (1 - (wI (((wI ((s_l09Product p a b) * (s_l09Product p a b))).tmod p) * (s_l01Inverse (wI ((s_l09Product p a a) * (s_l09Product p b b))) p))))) p) else none) else none) else none) else none) else none) else none)
theorem eq_s_l09Quadrance (p : Int) (a : Int × Int × Int) (b : Int × Int × Int) : execT Try.prog S_s_l09Quadrance 80 32 1000000 dec_i [.v (.int .i64 p), .v (.agg ⟨[.int .i64 a.1, .int .i64 a.2.1, .int .i64 a.2.2]⟩), .v (.agg ⟨[.int .i64 b.1, .int .i64 b.2.1, .int .i64 b.2.2]⟩)] = Fo_s_l09Quadrance p a b := by
  kernel_rfl
def s_l09Quadrance (p : Int) (a : Int × Int × Int) (b : Int × Int × Int) : Int :=
  (s_l01Mod (wrap64 (1 - (wrap64 (((wrap64 ((s_l09Product p a b) * (s_l09Product p a b))).tmod p) * (s_l01Inverse (wrap64 ((s_l09Product p a a) * (s_l09Product p b b))) p))))) p)
theorem tot_s_l09Quadrance (p : Int) (a : Int × Int × Int) (b : Int × Int × Int) (hp : (prB p) = true) : Fo_s_l09Quadrance p a b = some (s_l09Quadrance p a b) := by
  have h0 := prB_ne hp
  unfold Fo_s_l09Quadrance s_l09Quadrance
  (try simp only [wI_eq])
  repeat' (first | with_reducible rfl | with_reducible refine chk_opt hp ?_ | with_reducible refine chk_opt h0 ?_ | refine chk_opt (and_all hp fun _ => hp) ?_ | refine chk_opt (and_all hp fun _ => rfl) ?_ | refine ite_opt (fun _ => ?_) (fun _ => ?_) | rfl)
def run_s_l09Quadrance : List PV → Option (Bool × List TR)
  | [.v (.int .i64 p), .v (.agg ⟨[.int .i64 a0, .int .i64 a1, .int .i64 a2]⟩), .v (.agg ⟨[.int .i64 b0, .int .i64 b1, .int .i64 b2]⟩)] => some (prB p, enc_i (s_l09Quadrance p (a0, a1, a2) (b0, b1, b2)))
  | _ => none
theorem sound_s_l09Quadrance : Sound Try.prog 80 run_s_l09Quadrance := by
  refine sound_of de_i SO_s_l09Quadrance (by kernel_rfl) Try.func80 Try.ntmps80 rfl (by kernel_rfl) ?_
  intro W pvs avs rs hargs hrun
  unfold run_s_l09Quadrance at hrun
  split at hrun
  · simp only [Option.some.injEq, Prod.mk.injEq] at hrun
    obtain ⟨hp, rfl⟩ := hrun
    rename_i p a0 a1 a2 b0 b1 b2
    exact ⟨_, _, _, hargs, rfl, (eq_s_l09Quadrance p (a0, a1, a2) (b0, b1, b2)).trans (tot_s_l09Quadrance p (a0, a1, a2) (b0, b1, b2) hp)⟩
  · cases hrun

theorem squad_b {p : Int} (hp : prB p = true) (a b : P3) : 0 ≤ s_l09Quadrance p a b ∧ s_l09Quadrance p a b < p := by
  obtain ⟨h1, h2⟩ := prB_Pr hp
  unfold s_l09Quadrance s_l01Mod
  exact ⟨Int.emod_nonneg _ (by omega), Int.emod_lt_of_pos _ (by omega)⟩
def S_s_l01Numbers : Sums := ⟨tblS [(102, run_s_l01Field), (106, run_s_l01In)], tblM []⟩
theorem SO_s_l01Numbers : SumsOK Try.prog S_s_l01Numbers := ⟨tblS_ok ⟨⟨Try.call102, sound_s_l01Field⟩, ⟨Try.call106, sound_s_l01In⟩, True.intro⟩, tblM_ok True.intro⟩
def T_s_l01Numbers_0 (p : Int) (listn : Nat) (listl : List Int) (i : Int) : Tab := ⟨[.val (.int .i64 p), .row 4, .junk, .junk, .val (.int .i64 0), .val (.int .i64 i), .val (.int .i64 p), .val (.bool (s_l01Field p)), .val (.bool (!(s_l01Field p))), .junk, .junk, .junk, .junk, .junk, .junk, .junk, .junk, .junk, .junk, .junk, .junk, .junk, .junk], [(4, .ros listn (.ints listl))]⟩
def X_s_l01Numbers_0 (P : Program) (fu : Nat) (p : Int) (listn : Nat) (listl : List Int) (f : Nat) (i : Int) : Option (Int) := loopK (exec P S_s_l01Numbers 23 fu (Code.sub [1, 1, 0, 1, 0, 0] (bodyF P 68))) f (T_s_l01Numbers_0 p listn listl i) (kBlock 0 (kSeq (fun s => exec P S_s_l01Numbers 23 fu (Code.sub [1, 1, 1] (bodyF P 68)) s (finT P 68 dec_i)) (finT P 68 dec_i)))
def B_s_l01Numbers_0 (p : Int) (listn : Nat) (listl : List Int) (rec0 : Int → Option (Int)) (i : Int) : Option (Int) :=
  (if (decide (i < ((listn : Nat) : Int))) = true then (if (decide (0 ≤ i) && decide (i < ((listn : Nat) : Int))) = true then (if (Nat.ble (i.toNat * 1 + 1) listl.length) = true then (if (!(s_l01In (listl.getD (i.toNat * 1) 0) 0 (wI (p - 1)))) = true then some 2 else rec0 (wI (i + 1))) else none) else none) else some 0)
def L_s_l01Numbers_0 (fu : Nat) (p : Int) (listn : Nat) (listl : List Int) : Nat → Int → Option (Int)
  | 0, _ => none
  | f + 1, i => B_s_l01Numbers_0 p listn listl (L_s_l01Numbers_0 fu p listn listl f) i
theorem loop_s_l01Numbers_0 (fu : Nat) (p : Int) (listn : Nat) (listl : List Int) : ∀ (f : Nat) (i : Int), X_s_l01Numbers_0 Try.prog fu p listn listl f i = L_s_l01Numbers_0 fu p listn listl f i := by
  intro f
  induction f with
  | zero => intros; rfl
  | succ f ih =>
    intro i
    have h1 : X_s_l01Numbers_0 Try.prog fu p listn listl (f + 1) i = B_s_l01Numbers_0 p listn listl (X_s_l01Numbers_0 Try.prog fu p listn listl f) i := by kernel_rfl
    have h2 : X_s_l01Numbers_0 Try.prog fu p listn listl f = L_s_l01Numbers_0 fu p listn listl f := by funext i; exact ih i
    rw [h1, h2]
    rfl
def G_s_l01Numbers (p : Int) (listn : Nat) (listl : List Int) (lo0 : Int → Option (Int)) : Option (Int) :=
  (if (!(s_l01Field p)) = true then some 1 else lo0 0)
def Fo_s_l01Numbers (fu : Nat) (p : Int) (listn : Nat) (listl : List Int) : Option (Int) := G_s_l01Numbers p listn listl (L_s_l01Numbers_0 fu p listn listl (fu + 100))
theorem eqg_s_l01Numbers (fu : Nat) (p : Int) (listn : Nat) (listl : List Int) : execT Try.prog S_s_l01Numbers 68 23 fu dec_i [.v (.int .i64 p), .s listn (.ints listl)] = G_s_l01Numbers p listn listl (L_s_l01Numbers_0 fu p listn listl (fu + 100)) := by
  have h1 : execT Try.prog S_s_l01Numbers 68 23 fu dec_i [.v (.int .i64 p), .s listn (.ints listl)] = G_s_l01Numbers p listn listl (X_s_l01Numbers_0 Try.prog fu p listn listl (fu + 100)) := by kernel_rfl
  have c0 : X_s_l01Numbers_0 Try.prog fu p listn listl (fu + 100) = L_s_l01Numbers_0 fu p listn listl (fu + 100) := by funext i; exact loop_s_l01Numbers_0 fu p listn listl (fu + 100) i
  rw [h1, c0]
theorem eq_s_l01Numbers (fu : Nat) (p : Int) (listn : Nat) (listl : List Int) : execT Try.prog S_s_l01Numbers 68 23 fu dec_i [.v (.int .i64 p), .s listn (.ints listl)] = Fo_s_l01Numbers fu p listn listl := eqg_s_l01Numbers fu p listn listl
def s_l01Numbers (p : Int) (l : List Int) : Int := if s_l01Field p = true then (if l.all (fun x => s_l01In x 0 (wrap64 (p - 1))) = true then 0 else 2) else 1
theorem l01Numbers_prB {p : Int} {l : List Int} (h : ¬ (s_l01Numbers p l != 0) = true) : prB p = true := by
  refine Pr_prB (i_IsField_ok ?_)
  have h : s_l01Numbers p l = 0 := by simpa using h
  cases hf : i_IsField p
  · simp [s_l01Numbers, s_l01Field, hf] at h
  · rfl
theorem l01Numbers_prB0 {p : Int} {l : List Int} (h : (s_l01Numbers p l == 0) = true) : prB p = true := l01Numbers_prB (by simpa using h)
theorem tot_s_l01Numbers (p : Int) (listn : Nat) (listl : List Int) (hp : (lenB listn 1 listl) = true) : Fo_s_l01Numbers listn p listn listl = some (s_l01Numbers p listl) := by
  obtain ⟨hl, hn⟩ := lenB_ok hp
  have key : ∀ F, listn < F → (L_s_l01Numbers_0 listn p listn listl) F 0 = some (if (List.range listn).all (fun k => (fun x => s_l01In x 0 (wrap64 (p - 1))) (listl.getD (k * 1) 0)) = true then 0 else 2) := by
    intro F hF
    refine scan hF (fun f k hk => ?_) fun f => ?_
    · show B_s_l01Numbers_0 p listn listl ((L_s_l01Numbers_0 listn p listn listl) f) (k : Int) = _
      unfold B_s_l01Numbers_0
      rw [if_pos (by simpa using hk), if_pos (by simpa using hk), if_pos (leb (by rw [hl, Int.toNat_natCast]; omega)), wrap_add1 hk (by omega)]
      first | rfl | (rw [wI_eq]; rfl)
    · show B_s_l01Numbers_0 p listn listl ((L_s_l01Numbers_0 listn p listn listl) f) ((listn : Nat) : Int) = _
      unfold B_s_l01Numbers_0
      rw [if_neg (by simp)]
  unfold Fo_s_l01Numbers G_s_l01Numbers
  show _ = some (if s_l01Field p = true then (if (listl).all (fun x => s_l01In x 0 (wrap64 (p - 1))) = true then 0 else 2) else 1)
  cases hf : s_l01Field p
  · rfl
  · rw [key _ (by omega), all_rows1 listn listl (by omega)]
    rfl
def run_s_l01Numbers : List PV → Option (Bool × List TR)
  | [.v (.int .i64 p), .s listn (.ints listl)] => some (lenB listn 1 listl, enc_i (s_l01Numbers p listl))
  | _ => none
theorem sound_s_l01Numbers : Sound Try.prog 68 run_s_l01Numbers := by
  refine sound_of de_i SO_s_l01Numbers (by kernel_rfl) Try.func68 Try.ntmps68 rfl (by kernel_rfl) ?_
  intro W pvs avs rs hargs hrun
  unfold run_s_l01Numbers at hrun
  split at hrun
  · simp only [Option.some.injEq, Prod.mk.injEq] at hrun
    obtain ⟨hp, rfl⟩ := hrun
    rename_i p listn listl
    exact ⟨_, _, _, hargs, rfl, (eq_s_l01Numbers _ p listn listl).trans (tot_s_l01Numbers p listn listl hp)⟩
  · cases hrun

def S_l_toPlace : Sums := ⟨tblS [], tblM []⟩
theorem SO_l_toPlace : SumsOK Try.prog S_l_toPlace := ⟨tblS_ok True.intro, tblM_ok True.intro⟩
def Fo_l_toPlace (a : Int × Int × Int) : Option (Int × Int × Int) :=
  some a
theorem eq_l_toPlace (a : Int × Int × Int) : execT Try.prog S_l_toPlace 19 15 1000000 dec_a3 [.v (.agg ⟨[.int .i64 a.1, .int .i64 a.2.1, .int .i64 a.2.2]⟩)] = Fo_l_toPlace a := by
  kernel_rfl
def l_toPlace (a : Int × Int × Int) : Int × Int × Int :=
  a
theorem tot_l_toPlace (a : Int × Int × Int) : Fo_l_toPlace a = some (l_toPlace a) := by
  unfold Fo_l_toPlace l_toPlace
  (try simp only [wI_eq])
  repeat' (first | with_reducible rfl | refine ite_opt (fun _ => ?_) (fun _ => ?_) | rfl)
def run_l_toPlace : List PV → Option (Bool × List TR)
  | [.v (.agg ⟨[.int .i64 a0, .int .i64 a1, .int .i64 a2]⟩)] => some (true, enc_a3 (l_toPlace (a0, a1, a2)))
  | _ => none
theorem sound_l_toPlace : Sound Try.prog 19 run_l_toPlace := by
  refine sound_of de_a3 SO_l_toPlace (by kernel_rfl) Try.func19 Try.ntmps19 rfl (by kernel_rfl) ?_
  intro W pvs avs rs hargs hrun
  unfold run_l_toPlace at hrun
  split at hrun
  · simp only [Option.some.injEq, Prod.mk.injEq] at hrun
    obtain ⟨hp, rfl⟩ := hrun
    rename_i a0 a1 a2
    exact ⟨_, _, _, hargs, rfl, (eq_l_toPlace (a0, a1, a2)).trans (tot_l_toPlace (a0, a1, a2))⟩
  · cases hrun

def S_l_eqPlace : Sums := ⟨tblS [], tblM []⟩
theorem SO_l_eqPlace : SumsOK Try.prog S_l_eqPlace := ⟨tblS_ok True.intro, tblM_ok True.intro⟩
def Fo_l_eqPlace (a : Int × Int × Int) (b : Int × Int × Int) : Option (Bool) :=
  (if (a.1 != b.1) = true then some false else (if (a.2.1 != b.2.1) = true then some false else (if (a.2.2 != b.2.2) = true then some false else some true)))
theorem eq_l_eqPlace (a : Int × Int × Int) (b : Int × Int × Int) : execT Try.prog S_l_eqPlace 25 17 1000000 dec_b [.v (.agg ⟨[.int .i64 a.1, .int .i64 a.2.1, .int .i64 a.2.2]⟩), .v (.agg ⟨[.int .i64 b.1, .int .i64 b.2.1, .int .i64 b.2.2]⟩)] = Fo_l_eqPlace a b := by
  kernel_rfl
def l_eqPlace (a : Int × Int × Int) (b : Int × Int × Int) : Bool :=
  (if (a.1 != b.1) = true then false else (if (a.2.1 != b.2.1) = true then false else (if (a.2.2 != b.2.2) = true then false else true)))
theorem tot_l_eqPlace (a : Int × Int × Int) (b : Int × Int × Int) : Fo_l_eqPlace a b = some (l_eqPlace a b) := by
  unfold Fo_l_eqPlace l_eqPlace
  (try simp only [wI_eq])
  repeat' (first | with_reducible rfl | refine ite_opt (fun _ => ?_) (fun _ => ?_) | rfl)
def run_l_eqPlace : List PV → Option (Bool × List TR)
  | [.v (.agg ⟨[.int .i64 a0, .int .i64 a1, .int .i64 a2]⟩), .v (.agg ⟨[.int .i64 b0, .int .i64 b1, .int .i64 b2]⟩)] => some (true, enc_b (l_eqPlace (a0, a1, a2) (b0, b1, b2)))
  | _ => none
theorem sound_l_eqPlace : Sound Try.prog 25 run_l_eqPlace := by
  refine sound_of de_b SO_l_eqPlace (by kernel_rfl) Try.func25 Try.ntmps25 rfl (by kernel_rfl) ?_
  intro W pvs avs rs hargs hrun
  unfold run_l_eqPlace at hrun
  split at hrun
  · simp only [Option.some.injEq, Prod.mk.injEq] at hrun
    obtain ⟨hp, rfl⟩ := hrun
    rename_i a0 a1 a2 b0 b1 b2
    exact ⟨_, _, _, hargs, rfl, (eq_l_eqPlace (a0, a1, a2) (b0, b1, b2)).trans (tot_l_eqPlace (a0, a1, a2) (b0, b1, b2))⟩
  · cases hrun

def S_i_isColour : Sums := ⟨tblS [], tblM []⟩
theorem SO_i_isColour : SumsOK Try.prog S_i_isColour := ⟨tblS_ok True.intro, tblM_ok True.intro⟩
def Fo_i_isColour (colour : Int) : Option (Bool) :=
  (if (decide (colour ≥ 0)) = true then some (decide (colour ≤ 2)) else some false)
theorem eq_i_isColour (colour : Int) : execT Try.prog S_i_isColour 100 9 1000000 dec_b [.v (.int .i64 colour)] = Fo_i_isColour colour := by
  kernel_rfl
def i_isColour (colour : Int) : Bool :=
  (if (decide (colour ≥ 0)) = true then decide (colour ≤ 2) else false)
theorem tot_i_isColour (colour : Int) : Fo_i_isColour colour = some (i_isColour colour) := by
  unfold Fo_i_isColour i_isColour
  (try simp only [wI_eq])
  repeat' (first | with_reducible rfl | refine ite_opt (fun _ => ?_) (fun _ => ?_) | rfl)
def run_i_isColour : List PV → Option (Bool × List TR)
  | [.v (.int .i64 colour)] => some (true, enc_b (i_isColour colour))
  | _ => none
theorem sound_i_isColour : Sound Try.prog 100 run_i_isColour := by
  refine sound_of de_b SO_i_isColour (by kernel_rfl) Try.func100 Try.ntmps100 rfl (by kernel_rfl) ?_
  intro W pvs avs rs hargs hrun
  unfold run_i_isColour at hrun
  split at hrun
  · simp only [Option.some.injEq, Prod.mk.injEq] at hrun
    obtain ⟨hp, rfl⟩ := hrun
    rename_i colour
    exact ⟨_, _, _, hargs, rfl, (eq_i_isColour colour).trans (tot_i_isColour colour)⟩
  · cases hrun

def S_s_l02Colour : Sums := ⟨tblS [(106, run_s_l01In)], tblM []⟩
theorem SO_s_l02Colour : SumsOK Try.prog S_s_l02Colour := ⟨tblS_ok ⟨⟨Try.call106, sound_s_l01In⟩, True.intro⟩, tblM_ok True.intro⟩
def Fo_s_l02Colour (colour : Int) : Option (Bool) :=
  some (s_l01In colour 0 2)
theorem eq_s_l02Colour (colour : Int) : execT Try.prog S_s_l02Colour 113 5 1000000 dec_b [.v (.int .i64 colour)] = Fo_s_l02Colour colour := by
  kernel_rfl
def s_l02Colour (colour : Int) : Bool :=
  (s_l01In colour 0 2)
theorem tot_s_l02Colour (colour : Int) : Fo_s_l02Colour colour = some (s_l02Colour colour) := by
  unfold Fo_s_l02Colour s_l02Colour
  (try simp only [wI_eq])
  repeat' (first | with_reducible rfl | refine ite_opt (fun _ => ?_) (fun _ => ?_) | rfl)
def run_s_l02Colour : List PV → Option (Bool × List TR)
  | [.v (.int .i64 colour)] => some (true, enc_b (s_l02Colour colour))
  | _ => none
theorem sound_s_l02Colour : Sound Try.prog 113 run_s_l02Colour := by
  refine sound_of de_b SO_s_l02Colour (by kernel_rfl) Try.func113 Try.ntmps113 rfl (by kernel_rfl) ?_
  intro W pvs avs rs hargs hrun
  unfold run_s_l02Colour at hrun
  split at hrun
  · simp only [Option.some.injEq, Prod.mk.injEq] at hrun
    obtain ⟨hp, rfl⟩ := hrun
    rename_i colour
    exact ⟨_, _, _, hargs, rfl, (eq_s_l02Colour colour).trans (tot_s_l02Colour colour)⟩
  · cases hrun

def S_i_isNullPlace : Sums := ⟨tblS [(67, run_i_placeProduct)], tblM []⟩
theorem SO_i_isNullPlace : SumsOK Try.prog S_i_isNullPlace := ⟨tblS_ok ⟨⟨Try.call67, sound_i_placeProduct⟩, True.intro⟩, tblM_ok True.intro⟩
def Fo_i_isNullPlace (p : Int) (a : Int × Int × Int) : Option (Bool) :=
  (if (prB p) = true then some ((i_placeProduct p a a) == 0) else none)
theorem eq_i_isNullPlace (p : Int) (a : Int × Int × Int) : execT Try.prog S_i_isNullPlace 63 10 1000000 dec_b [.v (.int .i64 p), .v (.agg ⟨[.int .i64 a.1, .int .i64 a.2.1, .int .i64 a.2.2]⟩)] = Fo_i_isNullPlace p a := by
  kernel_rfl
def i_isNullPlace (p : Int) (a : Int × Int × Int) : Bool :=
  (i_placeProduct p a a) == 0
theorem tot_i_isNullPlace (p : Int) (a : Int × Int × Int) (hp : (prB p) = true) : Fo_i_isNullPlace p a = some (i_isNullPlace p a) := by
  have h0 := prB_ne hp
  unfold Fo_i_isNullPlace i_isNullPlace
  (try simp only [wI_eq])
  repeat' (first | with_reducible rfl | with_reducible refine chk_opt hp ?_ | with_reducible refine chk_opt h0 ?_ | refine chk_opt (and_all hp fun _ => hp) ?_ | refine chk_opt (and_all hp fun _ => rfl) ?_ | refine ite_opt (fun _ => ?_) (fun _ => ?_) | rfl)
def run_i_isNullPlace : List PV → Option (Bool × List TR)
  | [.v (.int .i64 p), .v (.agg ⟨[.int .i64 a0, .int .i64 a1, .int .i64 a2]⟩)] => some (prB p, enc_b (i_isNullPlace p (a0, a1, a2)))
  | _ => none
theorem sound_i_isNullPlace : Sound Try.prog 63 run_i_isNullPlace := by
  refine sound_of de_b SO_i_isNullPlace (by kernel_rfl) Try.func63 Try.ntmps63 rfl (by kernel_rfl) ?_
  intro W pvs avs rs hargs hrun
  unfold run_i_isNullPlace at hrun
  split at hrun
  · simp only [Option.some.injEq, Prod.mk.injEq] at hrun
    obtain ⟨hp, rfl⟩ := hrun
    rename_i p a0 a1 a2
    exact ⟨_, _, _, hargs, rfl, (eq_i_isNullPlace p (a0, a1, a2)).trans (tot_i_isNullPlace p (a0, a1, a2) hp)⟩
  · cases hrun

def S_s_l09Null : Sums := ⟨tblS [(64, run_s_l09Product)], tblM []⟩
theorem SO_s_l09Null : SumsOK Try.prog S_s_l09Null := ⟨tblS_ok ⟨⟨Try.call64, sound_s_l09Product⟩, True.intro⟩, tblM_ok True.intro⟩
def Fo_s_l09Null (p : Int) (a : Int × Int × Int) : Option (Bool) :=
  (if (prB p) = true then some ((s_l09Product p a a) == 0) else none)
theorem eq_s_l09Null (p : Int) (a : Int × Int × Int) : execT Try.prog S_s_l09Null 59 10 1000000 dec_b [.v (.int .i64 p), .v (.agg ⟨[.int .i64 a.1, .int .i64 a.2.1, .int .i64 a.2.2]⟩)] = Fo_s_l09Null p a := by
  kernel_rfl
def s_l09Null (p : Int) (a : Int × Int × Int) : Bool :=
  (s_l09Product p a a) == 0
theorem tot_s_l09Null (p : Int) (a : Int × Int × Int) (hp : (prB p) = true) : Fo_s_l09Null p a = some (s_l09Null p a) := by
  have h0 := prB_ne hp
  unfold Fo_s_l09Null s_l09Null
  (try simp only [wI_eq])
  repeat' (first | with_reducible rfl | with_reducible refine chk_opt hp ?_ | with_reducible refine chk_opt h0 ?_ | refine chk_opt (and_all hp fun _ => hp) ?_ | refine chk_opt (and_all hp fun _ => rfl) ?_ | refine ite_opt (fun _ => ?_) (fun _ => ?_) | rfl)
def run_s_l09Null : List PV → Option (Bool × List TR)
  | [.v (.int .i64 p), .v (.agg ⟨[.int .i64 a0, .int .i64 a1, .int .i64 a2]⟩)] => some (prB p, enc_b (s_l09Null p (a0, a1, a2)))
  | _ => none
theorem sound_s_l09Null : Sound Try.prog 59 run_s_l09Null := by
  refine sound_of de_b SO_s_l09Null (by kernel_rfl) Try.func59 Try.ntmps59 rfl (by kernel_rfl) ?_
  intro W pvs avs rs hargs hrun
  unfold run_s_l09Null at hrun
  split at hrun
  · simp only [Option.some.injEq, Prod.mk.injEq] at hrun
    obtain ⟨hp, rfl⟩ := hrun
    rename_i p a0 a1 a2
    exact ⟨_, _, _, hargs, rfl, (eq_s_l09Null p (a0, a1, a2)).trans (tot_s_l09Null p (a0, a1, a2) hp)⟩
  · cases hrun

def dec_Ml_i : Value × Cells → Option (Int × List Int)
  | (.int .i64 x, .ints l) => some (x, l)
  | _ => none
def enc_Ml_i : Int × List Int → Value × Cells
  | (x, l) => (.int .i64 x, .ints l)
theorem de_Ml_i (rs : Value × Cells) (x : Int × List Int) (h : dec_Ml_i rs = some x) : rs = enc_Ml_i x := by
  unfold dec_Ml_i at h
  split at h
  · simp only [Option.some.injEq] at h
    subst h
    rfl
  · cases h
def S_l_markInt64S : Sums := ⟨tblS [], tblM []⟩
theorem SO_l_markInt64S : SumsOK Try.prog S_l_markInt64S := ⟨tblS_ok True.intro, tblM_ok True.intro⟩
def T_l_markInt64S_0 (an : Nat) (al : List Int) (k : Int) (l0 : List Int) (k' : Int) (i : Int) : Tab := ⟨[.row 0, .val (.int .i64 k'), .junk, .junk, .val (.int .i64 0), .val (.int .i64 i), .junk, .junk, .junk, .junk, .junk, .junk, .junk, .junk, .junk, .junk, .junk, .junk, .junk], [(0, .row 2 1 an (.ints l0))]⟩
def X_l_markInt64S_0 (P : Program) (fu : Nat) (an : Nat) (al : List Int) (k : Int) (f : Nat) (l0 : List Int) (k' : Int) (i : Int) : Option (Int × List Int) := loopK (exec P S_l_markInt64S 19 fu (Code.sub [1, 0, 1, 0, 0] (bodyF P 42))) f (T_l_markInt64S_0 an al k l0 k' i) (kBlock 0 (kSeq (fun s => exec P S_l_markInt64S 19 fu (Code.sub [1, 1] (bodyF P 42)) s (finM P 42 2 1 dec_Ml_i)) (finM P 42 2 1 dec_Ml_i)))
def B_l_markInt64S_0 (an : Nat) (al : List Int) (k : Int) (rec0 : (List Int) → Int → Int → Option (Int × List Int)) (l0 : List Int) (k' : Int) (i : Int) : Option (Int × List Int) :=
  (if (decide (i < ((an : Nat) : Int))) = true then (if (decide (0 ≤ i) && decide (i < ((an : Nat) : Int))) = true then (if (Nat.ble (i.toNat * 1 + 1) l0.length) = true then rec0 (l0.set (i.toNat * 1 + 0) k') (wI (k' + 1)) (wI (i + 1)) else none) else none) else some (k', l0))
def L_l_markInt64S_0 (fu : Nat) (an : Nat) (al : List Int) (k : Int) : Nat → (List Int) → Int → Int → Option (Int × List Int)
  | 0, _, _, _ => none
  | f + 1, l0, k', i => B_l_markInt64S_0 an al k (L_l_markInt64S_0 fu an al k f) l0 k' i
theorem loop_l_markInt64S_0 (fu : Nat) (an : Nat) (al : List Int) (k : Int) : ∀ (f : Nat) (l0 : List Int) (k' : Int) (i : Int), X_l_markInt64S_0 Try.prog fu an al k f l0 k' i = L_l_markInt64S_0 fu an al k f l0 k' i := by
  intro f
  induction f with
  | zero => intros; rfl
  | succ f ih =>
    intro l0 k' i
    have h1 : X_l_markInt64S_0 Try.prog fu an al k (f + 1) l0 k' i = B_l_markInt64S_0 an al k (X_l_markInt64S_0 Try.prog fu an al k f) l0 k' i := by kernel_rfl
    have h2 : X_l_markInt64S_0 Try.prog fu an al k f = L_l_markInt64S_0 fu an al k f := by funext l0 k' i; exact ih l0 k' i
    rw [h1, h2]
    rfl
def G_l_markInt64S (an : Nat) (al : List Int) (k : Int) (lo0 : (List Int) → Int → Int → Option (Int × List Int)) : Option (Int × List Int) :=
  lo0 al k 0
def Fo_l_markInt64S (fu : Nat) (an : Nat) (al : List Int) (k : Int) : Option (Int × List Int) := G_l_markInt64S an al k (L_l_markInt64S_0 fu an al k (fu + 100))
theorem eqg_l_markInt64S (fu : Nat) (an : Nat) (al : List Int) (k : Int) : execM Try.prog S_l_markInt64S 42 19 fu dec_Ml_i 2 1 an (.ints al) [.int .i64 k] = G_l_markInt64S an al k (L_l_markInt64S_0 fu an al k (fu + 100)) := by
  have h1 : execM Try.prog S_l_markInt64S 42 19 fu dec_Ml_i 2 1 an (.ints al) [.int .i64 k] = G_l_markInt64S an al k (X_l_markInt64S_0 Try.prog fu an al k (fu + 100)) := by kernel_rfl
  have c0 : X_l_markInt64S_0 Try.prog fu an al k (fu + 100) = L_l_markInt64S_0 fu an al k (fu + 100) := by funext l0 k' i; exact loop_l_markInt64S_0 fu an al k (fu + 100) l0 k' i
  rw [h1, c0]
theorem eq_l_markInt64S (fu : Nat) (an : Nat) (al : List Int) (k : Int) : execM Try.prog S_l_markInt64S 42 19 fu dec_Ml_i 2 1 an (.ints al) [.int .i64 k] = Fo_l_markInt64S fu an al k := eqg_l_markInt64S fu an al k
def l_markInt64S (n : Nat) (l : List Int) (k : Int) : Int × List Int := (((1 * n : Nat) : Int) + 1, seq1 (1 * n))
theorem go_l_markInt64S (fu an : Nat) (al : List Int) (k : Int) (hn : an ≤ 100000000000) : ∀ (m j F : Nat) (l0 : List Int), j + m = an → m < F → l0.length = 1 * an → (∀ t : Nat, t < 1 * j → l0.getD t 0 = (t : Int) + 1) → L_l_markInt64S_0 fu an al k F l0 (((1 * j : Nat) : Int) + 1) (j : Int) = some (((1 * an : Nat) : Int) + 1, seq1 (1 * an))
  | m, j, 0, l0, _, h, _, _ => absurd h (Nat.not_lt_zero m)
  | 0, j, F + 1, l0, hj, _, hl, hp => by
    obtain rfl : j = an := by omega
    show B_l_markInt64S_0 j al k _ l0 _ (j : Int) = _
    unfold B_l_markInt64S_0
    rw [if_neg (by simp), seq1_of hl hp]
  | m + 1, j, F + 1, l0, hj, hF, hl, hp => by
    show B_l_markInt64S_0 an al k (L_l_markInt64S_0 fu an al k F) l0 _ (j : Int) = _
    unfold B_l_markInt64S_0
    have e1 : decide ((j : Int) < ((an : Nat) : Int)) = true := by simp; omega
    have e2 : (decide (0 ≤ (j : Int)) && decide ((j : Int) < ((an : Nat) : Int))) = true := by simp; omega
    have e3 : (j : Int).toNat = j := Int.toNat_natCast j
    rw [e3]
    rw [if_pos e1, if_pos e2, if_pos (leb (by rw [hl]; omega))]
    have a0 : wrap64 ((j : Int) + 1) = ((j + 1 : Nat) : Int) := by rw [wrapS (by omega)]; omega
    have a1 : wrap64 (((1 * j : Nat) : Int) + 1 + 1) = ((1 * j : Nat) : Int) + 2 := wrapS (by omega)
    have a9 : ((1 * j : Nat) : Int) + 1 + 1 = ((1 * (j + 1) : Nat) : Int) + 1 := by omega
    simp only [wI_eq, a0, a1]
    rw [show ((1 * j : Nat) : Int) + 2 = ((1 * (j + 1) : Nat) : Int) + 1 from by omega]
    refine go_l_markInt64S fu an al k hn m (j + 1) F _ (by omega) (by omega) (by simp only [List.length_set]; exact hl) fun t ht => ?_
    repeat rw [getD_set (by (try simp only [List.length_set]); rw [hl]; omega)]
    (repeat' split) <;> first | omega | exact hp t (by omega)
theorem tot_l_markInt64S (an : Nat) (al : List Int) (k : Int) (hp : (lenB an 1 al && (k == 1)) = true) : Fo_l_markInt64S an an al k = some (l_markInt64S an al k) := by
  simp only [Bool.and_eq_true, beq_iff_eq] at hp
  obtain ⟨h1, rfl⟩ := hp
  obtain ⟨hl, hn⟩ := lenB_ok h1
  have := go_l_markInt64S an an al 1 hn an 0 (an + 100) al (by omega) (by omega) hl (fun t ht => by omega)
  simpa [Fo_l_markInt64S, G_l_markInt64S, l_markInt64S] using this
def run_l_markInt64S : MRun
  | 2, 1, an, .ints al, [.int .i64 k] => some (lenB an 1 al && (k == 1), enc_Ml_i (l_markInt64S an al k))
  | _, _, _, _, _ => none
theorem sound_l_markInt64S : SoundM Try.prog 42 run_l_markInt64S := by
  refine soundM_of de_Ml_i SO_l_markInt64S (by kernel_rfl) Try.func42 Try.ntmps42 rfl (by kernel_rfl) ?_
  intro e sz an c vs r c' hrun
  unfold run_l_markInt64S at hrun
  split at hrun
  · simp only [Option.some.injEq, Prod.mk.injEq] at hrun
    obtain ⟨hp, hrun⟩ := hrun
    rename_i al k
    exact ⟨_, _, hrun.symm, (eq_l_markInt64S _ an al k).trans (tot_l_markInt64S an al k hp)⟩
  · cases hrun

def S_l_heldInt64S : Sums := ⟨tblS [], tblM []⟩
theorem SO_l_heldInt64S : SumsOK Try.prog S_l_heldInt64S := ⟨tblS_ok True.intro, tblM_ok True.intro⟩
def T_l_heldInt64S_0 (an : Nat) (al : List Int) (k : Int) (k' : Int) (i : Int) : Tab := ⟨[.row 0, .val (.int .i64 k'), .junk, .junk, .val (.int .i64 0), .val (.int .i64 i), .junk, .junk, .junk, .junk, .junk, .junk, .junk, .junk, .junk, .junk, .junk, .junk, .junk, .junk, .junk], [(0, .ros an (.ints al))]⟩
def X_l_heldInt64S_0 (P : Program) (fu : Nat) (an : Nat) (al : List Int) (k : Int) (f : Nat) (k' : Int) (i : Int) : Option (Int) := loopK (exec P S_l_heldInt64S 21 fu (Code.sub [1, 0, 1, 0, 0] (bodyF P 43))) f (T_l_heldInt64S_0 an al k k' i) (kBlock 0 (kSeq (fun s => exec P S_l_heldInt64S 21 fu (Code.sub [1, 1] (bodyF P 43)) s (finT P 43 dec_i)) (finT P 43 dec_i)))
def B_l_heldInt64S_0 (an : Nat) (al : List Int) (k : Int) (rec0 : Int → Int → Option (Int)) (k' : Int) (i : Int) : Option (Int) :=
  (if (decide (i < ((an : Nat) : Int))) = true then (if (decide (0 ≤ i) && decide (i < ((an : Nat) : Int))) = true then (if (Nat.ble (i.toNat * 1 + 1) al.length) = true then (if ((al.getD (i.toNat * 1) 0) != k') = true then some (-1) else rec0 (wI (k' + 1)) (wI (i + 1))) else none) else none) else some k')
def L_l_heldInt64S_0 (fu : Nat) (an : Nat) (al : List Int) (k : Int) : Nat → Int → Int → Option (Int)
  | 0, _, _ => none
  | f + 1, k', i => B_l_heldInt64S_0 an al k (L_l_heldInt64S_0 fu an al k f) k' i
theorem loop_l_heldInt64S_0 (fu : Nat) (an : Nat) (al : List Int) (k : Int) : ∀ (f : Nat) (k' : Int) (i : Int), X_l_heldInt64S_0 Try.prog fu an al k f k' i = L_l_heldInt64S_0 fu an al k f k' i := by
  intro f
  induction f with
  | zero => intros; rfl
  | succ f ih =>
    intro k' i
    have h1 : X_l_heldInt64S_0 Try.prog fu an al k (f + 1) k' i = B_l_heldInt64S_0 an al k (X_l_heldInt64S_0 Try.prog fu an al k f) k' i := by kernel_rfl
    have h2 : X_l_heldInt64S_0 Try.prog fu an al k f = L_l_heldInt64S_0 fu an al k f := by funext k' i; exact ih k' i
    rw [h1, h2]
    rfl
def G_l_heldInt64S (an : Nat) (al : List Int) (k : Int) (lo0 : Int → Int → Option (Int)) : Option (Int) :=
  lo0 k 0
def Fo_l_heldInt64S (fu : Nat) (an : Nat) (al : List Int) (k : Int) : Option (Int) := G_l_heldInt64S an al k (L_l_heldInt64S_0 fu an al k (fu + 100))
theorem eqg_l_heldInt64S (fu : Nat) (an : Nat) (al : List Int) (k : Int) : execT Try.prog S_l_heldInt64S 43 21 fu dec_i [.s an (.ints al), .v (.int .i64 k)] = G_l_heldInt64S an al k (L_l_heldInt64S_0 fu an al k (fu + 100)) := by
  have h1 : execT Try.prog S_l_heldInt64S 43 21 fu dec_i [.s an (.ints al), .v (.int .i64 k)] = G_l_heldInt64S an al k (X_l_heldInt64S_0 Try.prog fu an al k (fu + 100)) := by kernel_rfl
  have c0 : X_l_heldInt64S_0 Try.prog fu an al k (fu + 100) = L_l_heldInt64S_0 fu an al k (fu + 100) := by funext k' i; exact loop_l_heldInt64S_0 fu an al k (fu + 100) k' i
  rw [h1, c0]
theorem eq_l_heldInt64S (fu : Nat) (an : Nat) (al : List Int) (k : Int) : execT Try.prog S_l_heldInt64S 43 21 fu dec_i [.s an (.ints al), .v (.int .i64 k)] = Fo_l_heldInt64S fu an al k := eqg_l_heldInt64S fu an al k
def l_heldInt64S (n : Nat) (l : List Int) (k : Int) : Int := if (l == seq1 (1 * n)) = true then ((1 * n : Nat) : Int) + 1 else -1
theorem go_l_heldInt64S (fu an : Nat) (al : List Int) (k : Int) (hn : an ≤ 100000000000) (hl : al.length = 1 * an) : ∀ (m j F : Nat), j + m = an → m < F → (∀ t : Nat, t < 1 * j → al.getD t 0 = (t : Int) + 1) → L_l_heldInt64S_0 fu an al k F (((1 * j : Nat) : Int) + 1) (j : Int) = some (if (al == seq1 (1 * an)) = true then ((1 * an : Nat) : Int) + 1 else -1)
  | m, j, 0, _, h, _ => absurd h (Nat.not_lt_zero m)
  | 0, j, F + 1, hj, _, hp => by
    obtain rfl : j = an := by omega
    show B_l_heldInt64S_0 j al k _ _ (j : Int) = _
    unfold B_l_heldInt64S_0
    rw [if_neg (by simp), if_pos (by simpa using seq1_of hl hp)]
  | m + 1, j, F + 1, hj, hF, hp => by
    show B_l_heldInt64S_0 an al k (L_l_heldInt64S_0 fu an al k F) _ (j : Int) = _
    unfold B_l_heldInt64S_0
    have e1 : decide ((j : Int) < ((an : Nat) : Int)) = true := by simp; omega
    have e2 : (decide (0 ≤ (j : Int)) && decide ((j : Int) < ((an : Nat) : Int))) = true := by simp; omega
    have e3 : (j : Int).toNat = j := Int.toNat_natCast j
    have a0 : wrap64 ((j : Int) + 1) = ((j + 1 : Nat) : Int) := by rw [wrapS (by omega)]; omega
    have a1 : wrap64 (((1 * j : Nat) : Int) + 1 + 1) = ((1 * j : Nat) : Int) + 2 := wrapS (by omega)
    simp only [e3, wI_eq, a0, a1]
    rw [if_pos e1]
    rw [if_pos e2, if_pos (leb (by rw [hl]; omega))]
    by_cases c0 : al.getD (j * 1) 0 = ((1 * j : Nat) : Int) + 1
    rotate_left
    · rw [if_pos (by simpa using c0)]
      rw [if_neg]
      intro hh
      have hh : al = seq1 (1 * an) := by simpa using hh
      apply c0
      rw [hh, seq1_getD (by omega)]
      omega
    rw [if_neg (by simpa using c0)]
    rw [show ((1 * j : Nat) : Int) + 2 = ((1 * (j + 1) : Nat) : Int) + 1 from by omega]
    refine go_l_heldInt64S fu an al k hn hl m (j + 1) F (by omega) (by omega) fun t ht => ?_
    by_cases ht' : t < 1 * j
    · exact hp t ht'
    · obtain rfl : t = j * 1 := by omega
      rw [c0]; omega
theorem tot_l_heldInt64S (an : Nat) (al : List Int) (k : Int) (hp : (lenB an 1 al && (k == 1)) = true) : Fo_l_heldInt64S an an al k = some (l_heldInt64S an al k) := by
  simp only [Bool.and_eq_true, beq_iff_eq] at hp
  obtain ⟨h1, rfl⟩ := hp
  obtain ⟨hl, hn⟩ := lenB_ok h1
  have := go_l_heldInt64S an an al 1 hn hl an 0 (an + 100) (by omega) (by omega) (fun t ht => by omega)
  simpa [Fo_l_heldInt64S, G_l_heldInt64S, l_heldInt64S] using this
def run_l_heldInt64S : List PV → Option (Bool × List TR)
  | [.s an (.ints al), .v (.int .i64 k)] => some (lenB an 1 al && (k == 1), enc_i (l_heldInt64S an al k))
  | _ => none
theorem sound_l_heldInt64S : Sound Try.prog 43 run_l_heldInt64S := by
  refine sound_of de_i SO_l_heldInt64S (by kernel_rfl) Try.func43 Try.ntmps43 rfl (by kernel_rfl) ?_
  intro W pvs avs rs hargs hrun
  unfold run_l_heldInt64S at hrun
  split at hrun
  · simp only [Option.some.injEq, Prod.mk.injEq] at hrun
    obtain ⟨hp, rfl⟩ := hrun
    rename_i an al k
    exact ⟨_, _, _, hargs, rfl, (eq_l_heldInt64S _ an al k).trans (tot_l_heldInt64S an al k hp)⟩
  · cases hrun

def S_l_eqInt64S : Sums := ⟨tblS [], tblM []⟩
theorem SO_l_eqInt64S : SumsOK Try.prog S_l_eqInt64S := ⟨tblS_ok True.intro, tblM_ok True.intro⟩
def T_l_eqInt64S_0 (an : Nat) (al : List Int) (bn : Nat) (bl : List Int) (i : Int) : Tab := ⟨[.row 0, .row 4, .junk, .junk, .val (.bool false), .val (.int .i64 i), .row 0, .val (.int .i64 ((an : Nat) : Int)), .row 4, .val (.int .i64 ((bn : Nat) : Int)), .val (.bool (((an : Nat) : Int) != ((bn : Nat) : Int))), .junk, .junk, .junk, .junk, .junk, .junk, .junk, .junk, .junk, .junk, .junk, .junk, .junk, .junk, .junk], [(0, .ros an (.ints al)), (4, .ros bn (.ints bl))]⟩
def X_l_eqInt64S_0 (P : Program) (fu : Nat) (an : Nat) (al : List Int) (bn : Nat) (bl : List Int) (f : Nat) (i : Int) : Option (Bool) := loopK (exec P S_l_eqInt64S 26 fu (Code.sub [1, 1, 0, 1, 0, 0] (bodyF P 41))) f (T_l_eqInt64S_0 an al bn bl i) (kBlock 0 (kSeq (fun s => exec P S_l_eqInt64S 26 fu (Code.sub [1, 1, 1] (bodyF P 41)) s (finT P 41 dec_b)) (finT P 41 dec_b)))
def B_l_eqInt64S_0 (an : Nat) (al : List Int) (bn : Nat) (bl : List Int) (rec0 : Int → Option (Bool)) (i : Int) : Option (Bool) :=
  (if (decide (i < ((an : Nat) : Int))) = true then (if (decide (0 ≤ i) && decide (i < ((an : Nat) : Int))) = true then (if (Nat.ble (i.toNat * 1 + 1) al.length) = true then (if (decide (0 ≤ i) && decide (i < ((bn : Nat) : Int))) = true then (if (Nat.ble (i.toNat * 1 + 1) bl.length) = true then (if ((al.getD (i.toNat * 1) 0) != (bl.getD (i.toNat * 1) 0)) = true then some false else rec0 (wI (i + 1))) else none) else none) else none) else none) else some true)
def L_l_eqInt64S_0 (fu : Nat) (an : Nat) (al : List Int) (bn : Nat) (bl : List Int) : Nat → Int → Option (Bool)
  | 0, _ => none
  | f + 1, i => B_l_eqInt64S_0 an al bn bl (L_l_eqInt64S_0 fu an al bn bl f) i
theorem loop_l_eqInt64S_0 (fu : Nat) (an : Nat) (al : List Int) (bn : Nat) (bl : List Int) : ∀ (f : Nat) (i : Int), X_l_eqInt64S_0 Try.prog fu an al bn bl f i = L_l_eqInt64S_0 fu an al bn bl f i := by
  intro f
  induction f with
  | zero => intros; rfl
  | succ f ih =>
    intro i
    have h1 : X_l_eqInt64S_0 Try.prog fu an al bn bl (f + 1) i = B_l_eqInt64S_0 an al bn bl (X_l_eqInt64S_0 Try.prog fu an al bn bl f) i := by kernel_rfl
    have h2 : X_l_eqInt64S_0 Try.prog fu an al bn bl f = L_l_eqInt64S_0 fu an al bn bl f := by funext i; exact ih i
    rw [h1, h2]
    rfl
def G_l_eqInt64S (an : Nat) (al : List Int) (bn : Nat) (bl : List Int) (lo0 : Int → Option (Bool)) : Option (Bool) :=
  (if (((an : Nat) : Int) != ((bn : Nat) : Int)) = true then some false else lo0 0)
def Fo_l_eqInt64S (fu : Nat) (an : Nat) (al : List Int) (bn : Nat) (bl : List Int) : Option (Bool) := G_l_eqInt64S an al bn bl (L_l_eqInt64S_0 fu an al bn bl (fu + 100))
theorem eqg_l_eqInt64S (fu : Nat) (an : Nat) (al : List Int) (bn : Nat) (bl : List Int) : execT Try.prog S_l_eqInt64S 41 26 fu dec_b [.s an (.ints al), .s bn (.ints bl)] = G_l_eqInt64S an al bn bl (L_l_eqInt64S_0 fu an al bn bl (fu + 100)) := by
  have h1 : execT Try.prog S_l_eqInt64S 41 26 fu dec_b [.s an (.ints al), .s bn (.ints bl)] = G_l_eqInt64S an al bn bl (X_l_eqInt64S_0 Try.prog fu an al bn bl (fu + 100)) := by kernel_rfl
  have c0 : X_l_eqInt64S_0 Try.prog fu an al bn bl (fu + 100) = L_l_eqInt64S_0 fu an al bn bl (fu + 100) := by funext i; exact loop_l_eqInt64S_0 fu an al bn bl (fu + 100) i
  rw [h1, c0]
theorem eq_l_eqInt64S (fu : Nat) (an : Nat) (al : List Int) (bn : Nat) (bl : List Int) : execT Try.prog S_l_eqInt64S 41 26 fu dec_b [.s an (.ints al), .s bn (.ints bl)] = Fo_l_eqInt64S fu an al bn bl := eqg_l_eqInt64S fu an al bn bl
def l_eqInt64S (an : Nat) (al : List Int) (bn : Nat) (bl : List Int) : Bool := al == bl
theorem go_l_eqInt64S (fu an : Nat) (al : List Int) (bl : List Int) (hn : an ≤ 100000000000) (hl : al.length = 1 * an) (hm : bl.length = 1 * an) : ∀ (m j F : Nat), j + m = an → m < F → (∀ t : Nat, t < 1 * j → al.getD t 0 = bl.getD t 0) → L_l_eqInt64S_0 fu an al an bl F (j : Int) = some (al == bl)
  | m, j, 0, _, h, _ => absurd h (Nat.not_lt_zero m)
  | 0, j, F + 1, hj, _, hp => by
    obtain rfl : j = an := by omega
    show B_l_eqInt64S_0 j al j bl _ (j : Int) = _
    unfold B_l_eqInt64S_0
    have e : al = bl := list_of_getD (by omega) fun t ht => hp t (by omega)
    rw [if_neg (by simp), e]
    simp
  | m + 1, j, F + 1, hj, hF, hp => by
    show B_l_eqInt64S_0 an al an bl (L_l_eqInt64S_0 fu an al an bl F) (j : Int) = _
    unfold B_l_eqInt64S_0
    have e1 : decide ((j : Int) < ((an : Nat) : Int)) = true := by simp; omega
    have e2 : (decide (0 ≤ (j : Int)) && decide ((j : Int) < ((an : Nat) : Int))) = true := by simp; omega
    have e3 : (j : Int).toNat = j := Int.toNat_natCast j
    have a0 : wrap64 ((j : Int) + 1) = ((j + 1 : Nat) : Int) := by rw [wrapS (by omega)]; omega
    simp only [e3, wI_eq, a0]
    rw [if_pos e1, if_pos e2, if_pos (leb (by rw [hl]; omega)), if_pos e2, if_pos (leb (by rw [hm]; omega))]
    by_cases c : al.getD (j * 1) 0 = bl.getD (j * 1) 0
    rotate_left
    · rw [if_pos (by simpa using c)]
      congr 1
      symm
      rw [beq_eq_false_iff_ne]
      rintro rfl
      exact c rfl
    rw [if_neg (by simpa using c)]
    refine go_l_eqInt64S fu an al bl hn hl hm m (j + 1) F (by omega) (by omega) fun t ht => ?_
    by_cases ht' : t < 1 * j
    · exact hp t ht'
    · obtain rfl : t = j * 1 := by omega
      exact c
theorem tot_l_eqInt64S (an : Nat) (al : List Int) (bn : Nat) (bl : List Int) (hp : (lenB an 1 al && lenB bn 1 bl) = true) : Fo_l_eqInt64S an an al bn bl = some (l_eqInt64S an al bn bl) := by
  simp only [Bool.and_eq_true] at hp
  obtain ⟨hl, hn⟩ := lenB_ok hp.1
  obtain ⟨hm, _⟩ := lenB_ok hp.2
  unfold Fo_l_eqInt64S G_l_eqInt64S l_eqInt64S
  by_cases e : an = bn
  · subst e
    rw [if_neg (by simp)]
    exact go_l_eqInt64S an an al bl hn hl hm an 0 (an + 100) (by omega) (by omega) (fun t ht => by omega)
  · rw [if_pos (by simp; omega)]
    congr 1
    symm
    rw [beq_eq_false_iff_ne]
    rintro rfl
    omega
def run_l_eqInt64S : List PV → Option (Bool × List TR)
  | [.s an (.ints al), .s bn (.ints bl)] => some (lenB an 1 al && lenB bn 1 bl, enc_b (l_eqInt64S an al bn bl))
  | _ => none
theorem sound_l_eqInt64S : Sound Try.prog 41 run_l_eqInt64S := by
  refine sound_of de_b SO_l_eqInt64S (by kernel_rfl) Try.func41 Try.ntmps41 rfl (by kernel_rfl) ?_
  intro W pvs avs rs hargs hrun
  unfold run_l_eqInt64S at hrun
  split at hrun
  · simp only [Option.some.injEq, Prod.mk.injEq] at hrun
    obtain ⟨hp, rfl⟩ := hrun
    rename_i an al bn bl
    exact ⟨_, _, _, hargs, rfl, (eq_l_eqInt64S _ an al bn bl).trans (tot_l_eqInt64S an al bn bl hp)⟩
  · cases hrun

def S_l_markPlaceS : Sums := ⟨tblS [], tblM []⟩
theorem SO_l_markPlaceS : SumsOK Try.prog S_l_markPlaceS := ⟨tblS_ok True.intro, tblM_ok True.intro⟩
def T_l_markPlaceS_0 (an : Nat) (al : List Int) (k : Int) (l0 : List Int) (k' : Int) (i : Int) : Tab := ⟨[.row 0, .val (.int .i64 k'), .junk, .junk, .val (.int .i64 0), .val (.int .i64 i), .junk, .junk, .junk, .junk, .junk, .junk, .junk, .junk, .junk, .junk, .junk, .junk, .junk, .junk, .junk, .junk, .junk, .junk, .junk, .junk], [(0, .row 25 3 an (.ints l0))]⟩
def X_l_markPlaceS_0 (P : Program) (fu : Nat) (an : Nat) (al : List Int) (k : Int) (f : Nat) (l0 : List Int) (k' : Int) (i : Int) : Option (Int × List Int) := loopK (exec P S_l_markPlaceS 26 fu (Code.sub [1, 0, 1, 0, 0] (bodyF P 31))) f (T_l_markPlaceS_0 an al k l0 k' i) (kBlock 0 (kSeq (fun s => exec P S_l_markPlaceS 26 fu (Code.sub [1, 1] (bodyF P 31)) s (finM P 31 25 3 dec_Ml_i)) (finM P 31 25 3 dec_Ml_i)))
def B_l_markPlaceS_0 (an : Nat) (al : List Int) (k : Int) (rec0 : (List Int) → Int → Int → Option (Int × List Int)) (l0 : List Int) (k' : Int) (i : Int) : Option (Int × List Int) :=
  (if (decide (i < ((an : Nat) : Int))) = true then (if (decide (0 ≤ i) && decide (i < ((an : Nat) : Int))) = true then (if (Nat.ble (i.toNat * 3 + 0 + 1) l0.length) = true then (if (decide (0 ≤ i) && decide (i < ((an : Nat) : Int))) = true then (if (Nat.ble (i.toNat * 3 + 1 + 1) ((l0.set (i.toNat * 3 + 0 + 0) k').length)) = true then (if (decide (0 ≤ i) && decide (i < ((an : Nat) : Int))) = true then (if (Nat.ble (i.toNat * 3 + 2 + 1) (((l0.set (i.toNat * 3 + 0 + 0) k').set (i.toNat * 3 + 1 + 0) (wI (k' + 1))).length)) = true then rec0 (((l0.set (i.toNat * 3 + 0 + 0) k').set (i.toNat * 3 + 1 + 0) (wI (k' + 1))).set (i.toNat * 3 + 2 + 0) (wI ((wI (k' + 1)) + 1))) (wI ((wI ((wI (k' + 1)) + 1)) + 1)) (wI (i + 1)) else none) else none) else none) else none) else none) else none) else some (k', l0))
def L_l_markPlaceS_0 (fu : Nat) (an : Nat) (al : List Int) (k : Int) : Nat → (List Int) → Int → Int → Option (Int × List Int)
  | 0, _, _, _ => none
  | f + 1, l0, k', i => B_l_markPlaceS_0 an al k (L_l_markPlaceS_0 fu an al k f) l0 k' i
theorem loop_l_markPlaceS_0 (fu : Nat) (an : Nat) (al : List Int) (k : Int) : ∀ (f : Nat) (l0 : List Int) (k' : Int) (i : Int), X_l_markPlaceS_0 Try.prog fu an al k f l0 k' i = L_l_markPlaceS_0 fu an al k f l0 k' i := by
  intro f
  induction f with
  | zero => intros; rfl
  | succ f ih =>
    intro l0 k' i
    have h1 : X_l_markPlaceS_0 Try.prog fu an al k (f + 1) l0 k' i = B_l_markPlaceS_0 an al k (X_l_markPlaceS_0 Try.prog fu an al k f) l0 k' i := by kernel_rfl
    have h2 : X_l_markPlaceS_0 Try.prog fu an al k f = L_l_markPlaceS_0 fu an al k f := by funext l0 k' i; exact ih l0 k' i
    rw [h1, h2]
    rfl
def G_l_markPlaceS (an : Nat) (al : List Int) (k : Int) (lo0 : (List Int) → Int → Int → Option (Int × List Int)) : Option (Int × List Int) :=
  lo0 al k 0
def Fo_l_markPlaceS (fu : Nat) (an : Nat) (al : List Int) (k : Int) : Option (Int × List Int) := G_l_markPlaceS an al k (L_l_markPlaceS_0 fu an al k (fu + 100))
theorem eqg_l_markPlaceS (fu : Nat) (an : Nat) (al : List Int) (k : Int) : execM Try.prog S_l_markPlaceS 31 26 fu dec_Ml_i 25 3 an (.ints al) [.int .i64 k] = G_l_markPlaceS an al k (L_l_markPlaceS_0 fu an al k (fu + 100)) := by
  have h1 : execM Try.prog S_l_markPlaceS 31 26 fu dec_Ml_i 25 3 an (.ints al) [.int .i64 k] = G_l_markPlaceS an al k (X_l_markPlaceS_0 Try.prog fu an al k (fu + 100)) := by kernel_rfl
  have c0 : X_l_markPlaceS_0 Try.prog fu an al k (fu + 100) = L_l_markPlaceS_0 fu an al k (fu + 100) := by funext l0 k' i; exact loop_l_markPlaceS_0 fu an al k (fu + 100) l0 k' i
  rw [h1, c0]
theorem eq_l_markPlaceS (fu : Nat) (an : Nat) (al : List Int) (k : Int) : execM Try.prog S_l_markPlaceS 31 26 fu dec_Ml_i 25 3 an (.ints al) [.int .i64 k] = Fo_l_markPlaceS fu an al k := eqg_l_markPlaceS fu an al k
def l_markPlaceS (n : Nat) (l : List Int) (k : Int) : Int × List Int := (((3 * n : Nat) : Int) + 1, seq1 (3 * n))
theorem go_l_markPlaceS (fu an : Nat) (al : List Int) (k : Int) (hn : an ≤ 100000000000) : ∀ (m j F : Nat) (l0 : List Int), j + m = an → m < F → l0.length = 3 * an → (∀ t : Nat, t < 3 * j → l0.getD t 0 = (t : Int) + 1) → L_l_markPlaceS_0 fu an al k F l0 (((3 * j : Nat) : Int) + 1) (j : Int) = some (((3 * an : Nat) : Int) + 1, seq1 (3 * an))
  | m, j, 0, l0, _, h, _, _ => absurd h (Nat.not_lt_zero m)
  | 0, j, F + 1, l0, hj, _, hl, hp => by
    obtain rfl : j = an := by omega
    show B_l_markPlaceS_0 j al k _ l0 _ (j : Int) = _
    unfold B_l_markPlaceS_0
    rw [if_neg (by simp), seq1_of hl hp]
  | m + 1, j, F + 1, l0, hj, hF, hl, hp => by
    show B_l_markPlaceS_0 an al k (L_l_markPlaceS_0 fu an al k F) l0 _ (j : Int) = _
    unfold B_l_markPlaceS_0
    have e1 : decide ((j : Int) < ((an : Nat) : Int)) = true := by simp; omega
    have e2 : (decide (0 ≤ (j : Int)) && decide ((j : Int) < ((an : Nat) : Int))) = true := by simp; omega
    have e3 : (j : Int).toNat = j := Int.toNat_natCast j
    rw [e3]
    rw [if_pos e1, if_pos e2, if_pos (leb (by rw [hl]; omega)), if_pos e2, if_pos (leb (by simp only [List.length_set]; rw [hl]; omega)), if_pos e2, if_pos (leb (by simp only [List.length_set]; rw [hl]; omega))]
    have a0 : wrap64 ((j : Int) + 1) = ((j + 1 : Nat) : Int) := by rw [wrapS (by omega)]; omega
    have a1 : wrap64 (((3 * j : Nat) : Int) + 1 + 1) = ((3 * j : Nat) : Int) + 2 := wrapS (by omega)
    have a2 : wrap64 (((3 * j : Nat) : Int) + 2 + 1) = ((3 * j : Nat) : Int) + 3 := wrapS (by omega)
    have a3 : wrap64 (((3 * j : Nat) : Int) + 3 + 1) = ((3 * j : Nat) : Int) + 4 := wrapS (by omega)
    have a9 : ((3 * j : Nat) : Int) + 3 + 1 = ((3 * (j + 1) : Nat) : Int) + 1 := by omega
    simp only [wI_eq, a0, a1, a2, a3]
    rw [show ((3 * j : Nat) : Int) + 4 = ((3 * (j + 1) : Nat) : Int) + 1 from by omega]
    refine go_l_markPlaceS fu an al k hn m (j + 1) F _ (by omega) (by omega) (by simp only [List.length_set]; exact hl) fun t ht => ?_
    repeat rw [getD_set (by (try simp only [List.length_set]); rw [hl]; omega)]
    (repeat' split) <;> first | omega | exact hp t (by omega)
theorem tot_l_markPlaceS (an : Nat) (al : List Int) (k : Int) (hp : (lenB an 3 al && (k == 1)) = true) : Fo_l_markPlaceS an an al k = some (l_markPlaceS an al k) := by
  simp only [Bool.and_eq_true, beq_iff_eq] at hp
  obtain ⟨h1, rfl⟩ := hp
  obtain ⟨hl, hn⟩ := lenB_ok h1
  have := go_l_markPlaceS an an al 1 hn an 0 (an + 100) al (by omega) (by omega) hl (fun t ht => by omega)
  simpa [Fo_l_markPlaceS, G_l_markPlaceS, l_markPlaceS] using this
def run_l_markPlaceS : MRun
  | 25, 3, an, .ints al, [.int .i64 k] => some (lenB an 3 al && (k == 1), enc_Ml_i (l_markPlaceS an al k))
  | _, _, _, _, _ => none
theorem sound_l_markPlaceS : SoundM Try.prog 31 run_l_markPlaceS := by
  refine soundM_of de_Ml_i SO_l_markPlaceS (by kernel_rfl) Try.func31 Try.ntmps31 rfl (by kernel_rfl) ?_
  intro e sz an c vs r c' hrun
  unfold run_l_markPlaceS at hrun
  split at hrun
  · simp only [Option.some.injEq, Prod.mk.injEq] at hrun
    obtain ⟨hp, hrun⟩ := hrun
    rename_i al k
    exact ⟨_, _, hrun.symm, (eq_l_markPlaceS _ an al k).trans (tot_l_markPlaceS an al k hp)⟩
  · cases hrun

def S_l_heldPlaceS : Sums := ⟨tblS [], tblM []⟩
theorem SO_l_heldPlaceS : SumsOK Try.prog S_l_heldPlaceS := ⟨tblS_ok True.intro, tblM_ok True.intro⟩
def T_l_heldPlaceS_0 (an : Nat) (al : List Int) (k : Int) (k' : Int) (i : Int) : Tab := ⟨[.row 0, .val (.int .i64 k'), .junk, .junk, .val (.int .i64 0), .val (.int .i64 i), .junk, .junk, .junk, .junk, .junk, .junk, .junk, .junk, .junk, .junk, .junk, .junk, .junk, .junk, .junk, .junk, .junk, .junk, .junk, .junk, .junk, .junk], [(0, .ros an (.ints al))]⟩
def X_l_heldPlaceS_0 (P : Program) (fu : Nat) (an : Nat) (al : List Int) (k : Int) (f : Nat) (k' : Int) (i : Int) : Option (Int) := loopK (exec P S_l_heldPlaceS 28 fu (Code.sub [1, 0, 1, 0, 0] (bodyF P 32))) f (T_l_heldPlaceS_0 an al k k' i) (kBlock 0 (kSeq (fun s => exec P S_l_heldPlaceS 28 fu (Code.sub [1, 1] (bodyF P 32)) s (finT P 32 dec_i)) (finT P 32 dec_i)))
def B_l_heldPlaceS_0 (an : Nat) (al : List Int) (k : Int) (rec0 : Int → Int → Option (Int)) (k' : Int) (i : Int) : Option (Int) :=
  (if (decide (i < ((an : Nat) : Int))) = true then (if (decide (0 ≤ i) && decide (i < ((an : Nat) : Int))) = true then (if (Nat.ble (i.toNat * 3 + 0 + 1) al.length) = true then (if ((al.getD (i.toNat * 3 + 0) 0) != k') = true then some (-1) else (if (decide (0 ≤ i) && decide (i < ((an : Nat) : Int))) = true then (if (Nat.ble (i.toNat * 3 + 1 + 1) al.length) = true then (if ((al.getD (i.toNat * 3 + 1) 0) != (wI (k' + 1))) = true then some (-1) else (if (decide (0 ≤ i) && decide (i < ((an : Nat) : Int))) = true then (if (Nat.ble (i.toNat * 3 + 2 + 1) al.length) = true then (if ((al.getD (i.toNat * 3 + 2) 0) != (wI ((wI (k' + 1)) + 1))) = true then some (-1) else rec0 (wI ((wI ((wI (k' + 1)) + 1)) + 1)) (wI (i + 1))) else none) else none)) else none) else none)) else none) else none) else some k')
def L_l_heldPlaceS_0 (fu : Nat) (an : Nat) (al : List Int) (k : Int) : Nat → Int → Int → Option (Int)
  | 0, _, _ => none
  | f + 1, k', i => B_l_heldPlaceS_0 an al k (L_l_heldPlaceS_0 fu an al k f) k' i
theorem loop_l_heldPlaceS_0 (fu : Nat) (an : Nat) (al : List Int) (k : Int) : ∀ (f : Nat) (k' : Int) (i : Int), X_l_heldPlaceS_0 Try.prog fu an al k f k' i = L_l_heldPlaceS_0 fu an al k f k' i := by
  intro f
  induction f with
  | zero => intros; rfl
  | succ f ih =>
    intro k' i
    have h1 : X_l_heldPlaceS_0 Try.prog fu an al k (f + 1) k' i = B_l_heldPlaceS_0 an al k (X_l_heldPlaceS_0 Try.prog fu an al k f) k' i := by kernel_rfl
    have h2 : X_l_heldPlaceS_0 Try.prog fu an al k f = L_l_heldPlaceS_0 fu an al k f := by funext k' i; exact ih k' i
    rw [h1, h2]
    rfl
def G_l_heldPlaceS (an : Nat) (al : List Int) (k : Int) (lo0 : Int → Int → Option (Int)) : Option (Int) :=
  lo0 k 0
def Fo_l_heldPlaceS (fu : Nat) (an : Nat) (al : List Int) (k : Int) : Option (Int) := G_l_heldPlaceS an al k (L_l_heldPlaceS_0 fu an al k (fu + 100))
theorem eqg_l_heldPlaceS (fu : Nat) (an : Nat) (al : List Int) (k : Int) : execT Try.prog S_l_heldPlaceS 32 28 fu dec_i [.s an (.ints al), .v (.int .i64 k)] = G_l_heldPlaceS an al k (L_l_heldPlaceS_0 fu an al k (fu + 100)) := by
  have h1 : execT Try.prog S_l_heldPlaceS 32 28 fu dec_i [.s an (.ints al), .v (.int .i64 k)] = G_l_heldPlaceS an al k (X_l_heldPlaceS_0 Try.prog fu an al k (fu + 100)) := by kernel_rfl
  have c0 : X_l_heldPlaceS_0 Try.prog fu an al k (fu + 100) = L_l_heldPlaceS_0 fu an al k (fu + 100) := by funext k' i; exact loop_l_heldPlaceS_0 fu an al k (fu + 100) k' i
  rw [h1, c0]
theorem eq_l_heldPlaceS (fu : Nat) (an : Nat) (al : List Int) (k : Int) : execT Try.prog S_l_heldPlaceS 32 28 fu dec_i [.s an (.ints al), .v (.int .i64 k)] = Fo_l_heldPlaceS fu an al k := eqg_l_heldPlaceS fu an al k
def l_heldPlaceS (n : Nat) (l : List Int) (k : Int) : Int := if (l == seq1 (3 * n)) = true then ((3 * n : Nat) : Int) + 1 else -1
theorem go_l_heldPlaceS (fu an : Nat) (al : List Int) (k : Int) (hn : an ≤ 100000000000) (hl : al.length = 3 * an) : ∀ (m j F : Nat), j + m = an → m < F → (∀ t : Nat, t < 3 * j → al.getD t 0 = (t : Int) + 1) → L_l_heldPlaceS_0 fu an al k F (((3 * j : Nat) : Int) + 1) (j : Int) = some (if (al == seq1 (3 * an)) = true then ((3 * an : Nat) : Int) + 1 else -1)
  | m, j, 0, _, h, _ => absurd h (Nat.not_lt_zero m)
  | 0, j, F + 1, hj, _, hp => by
    obtain rfl : j = an := by omega
    show B_l_heldPlaceS_0 j al k _ _ (j : Int) = _
    unfold B_l_heldPlaceS_0
    rw [if_neg (by simp), if_pos (by simpa using seq1_of hl hp)]
  | m + 1, j, F + 1, hj, hF, hp => by
    show B_l_heldPlaceS_0 an al k (L_l_heldPlaceS_0 fu an al k F) _ (j : Int) = _
    unfold B_l_heldPlaceS_0
    have e1 : decide ((j : Int) < ((an : Nat) : Int)) = true := by simp; omega
    have e2 : (decide (0 ≤ (j : Int)) && decide ((j : Int) < ((an : Nat) : Int))) = true := by simp; omega
    have e3 : (j : Int).toNat = j := Int.toNat_natCast j
    have a0 : wrap64 ((j : Int) + 1) = ((j + 1 : Nat) : Int) := by rw [wrapS (by omega)]; omega
    have a1 : wrap64 (((3 * j : Nat) : Int) + 1 + 1) = ((3 * j : Nat) : Int) + 2 := wrapS (by omega)
    have a2 : wrap64 (((3 * j : Nat) : Int) + 2 + 1) = ((3 * j : Nat) : Int) + 3 := wrapS (by omega)
    have a3 : wrap64 (((3 * j : Nat) : Int) + 3 + 1) = ((3 * j : Nat) : Int) + 4 := wrapS (by omega)
    simp only [e3, wI_eq, a0, a1, a2, a3]
    rw [if_pos e1]
    rw [if_pos e2, if_pos (leb (by rw [hl]; omega))]
    by_cases c0 : al.getD (j * 3 + 0) 0 = ((3 * j : Nat) : Int) + 1
    rotate_left
    · rw [if_pos (by simpa using c0)]
      rw [if_neg]
      intro hh
      have hh : al = seq1 (3 * an) := by simpa using hh
      apply c0
      rw [hh, seq1_getD (by omega)]
      omega
    rw [if_neg (by simpa using c0)]
    rw [if_pos e2, if_pos (leb (by rw [hl]; omega))]
    by_cases c1 : al.getD (j * 3 + 1) 0 = ((3 * j : Nat) : Int) + 2
    rotate_left
    · rw [if_pos (by simpa using c1)]
      rw [if_neg]
      intro hh
      have hh : al = seq1 (3 * an) := by simpa using hh
      apply c1
      rw [hh, seq1_getD (by omega)]
      omega
    rw [if_neg (by simpa using c1)]
    rw [if_pos e2, if_pos (leb (by rw [hl]; omega))]
    by_cases c2 : al.getD (j * 3 + 2) 0 = ((3 * j : Nat) : Int) + 3
    rotate_left
    · rw [if_pos (by simpa using c2)]
      rw [if_neg]
      intro hh
      have hh : al = seq1 (3 * an) := by simpa using hh
      apply c2
      rw [hh, seq1_getD (by omega)]
      omega
    rw [if_neg (by simpa using c2)]
    rw [show ((3 * j : Nat) : Int) + 4 = ((3 * (j + 1) : Nat) : Int) + 1 from by omega]
    refine go_l_heldPlaceS fu an al k hn hl m (j + 1) F (by omega) (by omega) fun t ht => ?_
    by_cases ht' : t < 3 * j
    · exact hp t ht'
    · obtain rfl | rfl | rfl : t = j * 3 + 0 ∨ t = j * 3 + 1 ∨ t = j * 3 + 2 := by omega
      · rw [c0]; omega
      · rw [c1]; omega
      · rw [c2]; omega
theorem tot_l_heldPlaceS (an : Nat) (al : List Int) (k : Int) (hp : (lenB an 3 al && (k == 1)) = true) : Fo_l_heldPlaceS an an al k = some (l_heldPlaceS an al k) := by
  simp only [Bool.and_eq_true, beq_iff_eq] at hp
  obtain ⟨h1, rfl⟩ := hp
  obtain ⟨hl, hn⟩ := lenB_ok h1
  have := go_l_heldPlaceS an an al 1 hn hl an 0 (an + 100) (by omega) (by omega) (fun t ht => by omega)
  simpa [Fo_l_heldPlaceS, G_l_heldPlaceS, l_heldPlaceS] using this
def run_l_heldPlaceS : List PV → Option (Bool × List TR)
  | [.s an (.ints al), .v (.int .i64 k)] => some (lenB an 3 al && (k == 1), enc_i (l_heldPlaceS an al k))
  | _ => none
theorem sound_l_heldPlaceS : Sound Try.prog 32 run_l_heldPlaceS := by
  refine sound_of de_i SO_l_heldPlaceS (by kernel_rfl) Try.func32 Try.ntmps32 rfl (by kernel_rfl) ?_
  intro W pvs avs rs hargs hrun
  unfold run_l_heldPlaceS at hrun
  split at hrun
  · simp only [Option.some.injEq, Prod.mk.injEq] at hrun
    obtain ⟨hp, rfl⟩ := hrun
    rename_i an al k
    exact ⟨_, _, _, hargs, rfl, (eq_l_heldPlaceS _ an al k).trans (tot_l_heldPlaceS an al k hp)⟩
  · cases hrun

def S_l_eqPlaceS : Sums := ⟨tblS [(25, run_l_eqPlace)], tblM []⟩
theorem SO_l_eqPlaceS : SumsOK Try.prog S_l_eqPlaceS := ⟨tblS_ok ⟨⟨Try.call25, sound_l_eqPlace⟩, True.intro⟩, tblM_ok True.intro⟩
def T_l_eqPlaceS_0 (an : Nat) (al : List Int) (bn : Nat) (bl : List Int) (i : Int) : Tab := ⟨[.row 0, .row 4, .junk, .junk, .val (.bool false), .val (.int .i64 i), .row 0, .val (.int .i64 ((an : Nat) : Int)), .row 4, .val (.int .i64 ((bn : Nat) : Int)), .val (.bool (((an : Nat) : Int) != ((bn : Nat) : Int))), .junk, .junk, .junk, .junk, .junk, .junk, .junk, .junk, .junk, .junk, .junk, .junk, .junk, .junk, .junk, .junk], [(0, .ros an (.ints al)), (4, .ros bn (.ints bl))]⟩
def X_l_eqPlaceS_0 (P : Program) (fu : Nat) (an : Nat) (al : List Int) (bn : Nat) (bl : List Int) (f : Nat) (i : Int) : Option (Bool) := loopK (exec P S_l_eqPlaceS 27 fu (Code.sub [1, 1, 0, 1, 0, 0] (bodyF P 30))) f (T_l_eqPlaceS_0 an al bn bl i) (kBlock 0 (kSeq (fun s => exec P S_l_eqPlaceS 27 fu (Code.sub [1, 1, 1] (bodyF P 30)) s (finT P 30 dec_b)) (finT P 30 dec_b)))
def B_l_eqPlaceS_0 (an : Nat) (al : List Int) (bn : Nat) (bl : List Int) (rec0 : Int → Option (Bool)) (i : Int) : Option (Bool) :=
  (if (decide (i < ((an : Nat) : Int))) = true then (if (decide (0 ≤ i) && decide (i < ((an : Nat) : Int))) = true then (if (Nat.ble (i.toNat * 3 + 3) al.length) = true then (if (decide (0 ≤ i) && decide (i < ((bn : Nat) : Int))) = true then (if (Nat.ble (i.toNat * 3 + 3) bl.length) = true then (if (!(l_eqPlace (al.getD (i.toNat * 3 + 0) 0, al.getD (i.toNat * 3 + 1) 0, al.getD (i.toNat * 3 + 2) 0) (bl.getD (i.toNat * 3 + 0) 0, bl.getD (i.toNat * 3 + 1) 0, bl.getD (i.toNat * 3 + 2) 0))) = true then some false else rec0 (wI (i + 1))) else none) else none) else none) else none) else some true)
def L_l_eqPlaceS_0 (fu : Nat) (an : Nat) (al : List Int) (bn : Nat) (bl : List Int) : Nat → Int → Option (Bool)
  | 0, _ => none
  | f + 1, i => B_l_eqPlaceS_0 an al bn bl (L_l_eqPlaceS_0 fu an al bn bl f) i
theorem loop_l_eqPlaceS_0 (fu : Nat) (an : Nat) (al : List Int) (bn : Nat) (bl : List Int) : ∀ (f : Nat) (i : Int), X_l_eqPlaceS_0 Try.prog fu an al bn bl f i = L_l_eqPlaceS_0 fu an al bn bl f i := by
  intro f
  induction f with
  | zero => intros; rfl
  | succ f ih =>
    intro i
    have h1 : X_l_eqPlaceS_0 Try.prog fu an al bn bl (f + 1) i = B_l_eqPlaceS_0 an al bn bl (X_l_eqPlaceS_0 Try.prog fu an al bn bl f) i := by kernel_rfl
    have h2 : X_l_eqPlaceS_0 Try.prog fu an al bn bl f = L_l_eqPlaceS_0 fu an al bn bl f := by funext i; exact ih i
    rw [h1, h2]
    rfl
def G_l_eqPlaceS (an : Nat) (al : List Int) (bn : Nat) (bl : List Int) (lo0 : Int → Option (Bool)) : Option (Bool) :=
  (if (((an : Nat) : Int) != ((bn : Nat) : Int)) = true then some false else lo0 0)
def Fo_l_eqPlaceS (fu : Nat) (an : Nat) (al : List Int) (bn : Nat) (bl : List Int) : Option (Bool) := G_l_eqPlaceS an al bn bl (L_l_eqPlaceS_0 fu an al bn bl (fu + 100))
theorem eqg_l_eqPlaceS (fu : Nat) (an : Nat) (al : List Int) (bn : Nat) (bl : List Int) : execT Try.prog S_l_eqPlaceS 30 27 fu dec_b [.s an (.ints al), .s bn (.ints bl)] = G_l_eqPlaceS an al bn bl (L_l_eqPlaceS_0 fu an al bn bl (fu + 100)) := by
  have h1 : execT Try.prog S_l_eqPlaceS 30 27 fu dec_b [.s an (.ints al), .s bn (.ints bl)] = G_l_eqPlaceS an al bn bl (X_l_eqPlaceS_0 Try.prog fu an al bn bl (fu + 100)) := by kernel_rfl
  have c0 : X_l_eqPlaceS_0 Try.prog fu an al bn bl (fu + 100) = L_l_eqPlaceS_0 fu an al bn bl (fu + 100) := by funext i; exact loop_l_eqPlaceS_0 fu an al bn bl (fu + 100) i
  rw [h1, c0]
theorem eq_l_eqPlaceS (fu : Nat) (an : Nat) (al : List Int) (bn : Nat) (bl : List Int) : execT Try.prog S_l_eqPlaceS 30 27 fu dec_b [.s an (.ints al), .s bn (.ints bl)] = Fo_l_eqPlaceS fu an al bn bl := eqg_l_eqPlaceS fu an al bn bl
theorem l_eqPlace_eq (a b : P3) : l_eqPlace a b = (a == b) := by
  obtain ⟨a0, a1, a2⟩ := a
  obtain ⟨b0, b1, b2⟩ := b
  rw [Bool.eq_iff_iff]
  simp [l_eqPlace]
def l_eqPlaceS (an : Nat) (al : List Int) (bn : Nat) (bl : List Int) : Bool := al == bl
theorem go_l_eqPlaceS (fu an : Nat) (al : List Int) (bl : List Int) (hn : an ≤ 100000000000) (hl : al.length = 3 * an) (hm : bl.length = 3 * an) : ∀ (m j F : Nat), j + m = an → m < F → (∀ t : Nat, t < 3 * j → al.getD t 0 = bl.getD t 0) → L_l_eqPlaceS_0 fu an al an bl F (j : Int) = some (al == bl)
  | m, j, 0, _, h, _ => absurd h (Nat.not_lt_zero m)
  | 0, j, F + 1, hj, _, hp => by
    obtain rfl : j = an := by omega
    show B_l_eqPlaceS_0 j al j bl _ (j : Int) = _
    unfold B_l_eqPlaceS_0
    have e : al = bl := list_of_getD (by omega) fun t ht => hp t (by omega)
    rw [if_neg (by simp), e]
    simp
  | m + 1, j, F + 1, hj, hF, hp => by
    show B_l_eqPlaceS_0 an al an bl (L_l_eqPlaceS_0 fu an al an bl F) (j : Int) = _
    unfold B_l_eqPlaceS_0
    have e1 : decide ((j : Int) < ((an : Nat) : Int)) = true := by simp; omega
    have e2 : (decide (0 ≤ (j : Int)) && decide ((j : Int) < ((an : Nat) : Int))) = true := by simp; omega
    have e3 : (j : Int).toNat = j := Int.toNat_natCast j
    have a0 : wrap64 ((j : Int) + 1) = ((j + 1 : Nat) : Int) := by rw [wrapS (by omega)]; omega
    simp only [e3, wI_eq, a0]
    rw [if_pos e1, if_pos e2, if_pos (leb (by rw [hl]; omega)), if_pos e2, if_pos (leb (by rw [hm]; omega))]
    by_cases c : (al.getD (j * 3 + 0) 0, al.getD (j * 3 + 1) 0, al.getD (j * 3 + 2) 0) = (bl.getD (j * 3 + 0) 0, bl.getD (j * 3 + 1) 0, bl.getD (j * 3 + 2) 0)
    rotate_left
    · rw [if_pos (by rw [l_eqPlace_eq]; simpa using c)]
      congr 1
      symm
      rw [beq_eq_false_iff_ne]
      rintro rfl
      exact c rfl
    rw [if_neg (by rw [l_eqPlace_eq]; simpa using c)]
    refine go_l_eqPlaceS fu an al bl hn hl hm m (j + 1) F (by omega) (by omega) fun t ht => ?_
    by_cases ht' : t < 3 * j
    · exact hp t ht'
    · simp only [Prod.mk.injEq] at c
      obtain rfl | rfl | rfl : t = j * 3 + 0 ∨ t = j * 3 + 1 ∨ t = j * 3 + 2 := by omega
      · exact c.1
      · exact c.2.1
      · exact c.2.2
theorem tot_l_eqPlaceS (an : Nat) (al : List Int) (bn : Nat) (bl : List Int) (hp : (lenB an 3 al && lenB bn 3 bl) = true) : Fo_l_eqPlaceS an an al bn bl = some (l_eqPlaceS an al bn bl) := by
  simp only [Bool.and_eq_true] at hp
  obtain ⟨hl, hn⟩ := lenB_ok hp.1
  obtain ⟨hm, _⟩ := lenB_ok hp.2
  unfold Fo_l_eqPlaceS G_l_eqPlaceS l_eqPlaceS
  by_cases e : an = bn
  · subst e
    rw [if_neg (by simp)]
    exact go_l_eqPlaceS an an al bl hn hl hm an 0 (an + 100) (by omega) (by omega) (fun t ht => by omega)
  · rw [if_pos (by simp; omega)]
    congr 1
    symm
    rw [beq_eq_false_iff_ne]
    rintro rfl
    omega
def run_l_eqPlaceS : List PV → Option (Bool × List TR)
  | [.s an (.ints al), .s bn (.ints bl)] => some (lenB an 3 al && lenB bn 3 bl, enc_b (l_eqPlaceS an al bn bl))
  | _ => none
theorem sound_l_eqPlaceS : Sound Try.prog 30 run_l_eqPlaceS := by
  refine sound_of de_b SO_l_eqPlaceS (by kernel_rfl) Try.func30 Try.ntmps30 rfl (by kernel_rfl) ?_
  intro W pvs avs rs hargs hrun
  unfold run_l_eqPlaceS at hrun
  split at hrun
  · simp only [Option.some.injEq, Prod.mk.injEq] at hrun
    obtain ⟨hp, rfl⟩ := hrun
    rename_i an al bn bl
    exact ⟨_, _, _, hargs, rfl, (eq_l_eqPlaceS _ an al bn bl).trans (tot_l_eqPlaceS an al bn bl hp)⟩
  · cases hrun


end Go.Proofs.Ytcechmaoihckgaa
