import Derived.Test.YtjdpbaefonekmaaFa
import Derived.Test.YtjdpbaefonekmaaProg
set_option linter.unusedSimpArgs false
set_option linter.unusedVariables false
namespace Go.Proofs.Ytjdpbaefonekmaa
open Go.RowKit
noncomputable section
def S_i_OrderOfSpread_c1 : Sums := ⟨tblS [(29, run_i_isNumber)], tblM []⟩
theorem SO_i_OrderOfSpread_c1 : SumsOK Try.prog S_i_OrderOfSpread_c1 := ⟨tblS_ok ⟨⟨Try.call29, sound_i_isNumber⟩, True.intro⟩, tblM_ok True.intro⟩
def Fo_i_OrderOfSpread_c1 (c0 : Int) (c1 : Int) : Option (Bool) :=
  some (i_isNumber c0 c1)
theorem eq_i_OrderOfSpread_c1 (c0 : Int) (c1 : Int) : execT Try.prog S_i_OrderOfSpread_c1 28 6 (fun _ => 1000000) dec_b [.p [.int .i64 c0], .p [.int .i64 c1]] = Fo_i_OrderOfSpread_c1 c0 c1 := by
  kernel_rfl
def i_OrderOfSpread_c1 (c0 : Int) (c1 : Int) : Bool :=
  (i_isNumber c0 c1)
theorem tot_i_OrderOfSpread_c1 (c0 : Int) (c1 : Int) : Fo_i_OrderOfSpread_c1 c0 c1 = some (i_OrderOfSpread_c1 c0 c1) := by
  unfold Fo_i_OrderOfSpread_c1 i_OrderOfSpread_c1
  (try simp only [wI_eq])
  repeat' (first | with_reducible rfl | refine ite_opt (fun _ => ?_) (fun _ => ?_) | rfl)
def run_i_OrderOfSpread_c1 : List PV → Option (Bool × List TR)
  | [.p [.int .i64 c0], .p [.int .i64 c1]] => some (true, enc_b (i_OrderOfSpread_c1 c0 c1))
  | _ => none
theorem sound_i_OrderOfSpread_c1 : Sound Try.prog 28 run_i_OrderOfSpread_c1 := by
  refine sound_of de_b SO_i_OrderOfSpread_c1 (by kernel_rfl) Try.func28 Try.ntmps28 rfl (by kernel_rfl) ?_
  intro W pvs avs rs hargs hrun
  unfold run_i_OrderOfSpread_c1 at hrun
  split at hrun
  · simp only [Option.some.injEq, Prod.mk.injEq] at hrun
    obtain ⟨hp, rfl⟩ := hrun
    rename_i c0 c1
    exact ⟨_, _, _, hargs, rfl, (eq_i_OrderOfSpread_c1 c0 c1).trans (tot_i_OrderOfSpread_c1 c0 c1)⟩
  · cases hrun

def S_i_spreads : Sums := ⟨tblS [(58, run_i_rest)], tblM []⟩
theorem SO_i_spreads : SumsOK Try.prog S_i_spreads := ⟨tblS_ok ⟨⟨Try.call58, sound_i_rest⟩, True.intro⟩, tblM_ok True.intro⟩
def T_i_spreads_0 (p : Int) (n_ : Int) (s : Int) (l10 : List Int) (m10 : Nat) (k : Int) : Tab := ⟨[.val (.int .i64 p), .val (.int .i64 n_), .val (.int .i64 s), .junk, .junk, .junk, .val (.slice none 0 0), .row 40, .val (.int .i64 k), .val (.int .i64 s), .junk, .junk, .junk, .junk, .junk, .junk, .junk, .junk, .junk, .junk, .junk, .junk, .junk, .junk, .junk, .junk, .junk, .junk, .junk, .junk, .junk, .junk, .junk, .junk, .junk, .junk, .junk, .junk, .junk, .junk], [(40, .row 2 1 m10 (.ints l10))]⟩
def X_i_spreads_0 (P : Program) (fu : Nat) (p : Int) (n_ : Int) (s : Int) (f : Nat) (l10 : List Int) (m10 : Nat) (k : Int) : Option (Nat × List Int) := loopK (exec P S_i_spreads 40 (fun _ => fu + 100) (Code.sub [1, 1, 0, 1, 0, 0] (bodyF P 52))) f (T_i_spreads_0 p n_ s l10 m10 k) (kBlock 0 (kSeq (fun zs9 => exec P S_i_spreads 40 (fun _ => fu + 100) (Code.sub [1, 1, 1] (bodyF P 52)) zs9 (finT P 52 dec_l2_1)) (finT P 52 dec_l2_1)))
def B_i_spreads_0 (p : Int) (n_ : Int) (s : Int) (rec0 : (List Int) → Nat → Int → Option (Nat × List Int)) (l10 : List Int) (m10 : Nat) (k : Int) : Option (Nat × List Int) :=
  (if (decide (k < n_)) = true then (if (decide (0 ≤ k) && decide (k < ((m10 : Nat) : Int))) = true then (if (Nat.ble (k.toNat * 1 + 1) l10.length) = true then (if (decide (0 ≤ wI (k - 1)) && decide (wI (k - 1) < ((m10 : Nat) : Int))) = true then (if (Nat.ble (((wI (k - 1)).toNat) * 1 + 1) l10.length) = true then (if (prB p) = true then (if (Nat.ble 1 1 && Nat.ble (m10 + 1) 1000000 && Nat.beq 1 (1)) = true then rec0 (l10 ++ [(i_rest p (wI ((wI ((wI ((wI (2 * (wI (1 - (wI (2 * s)))))) * (l10.getD (k.toNat * 1) 0))) - (l10.getD (((wI (k - 1)).toNat) * 1) 0))) + (wI (2 * s)))))]) (m10 + 1) (wI (k + 1)) else none) else none) else none) else none) else none) else none) else some (m10, l10))
def L_i_spreads_0 (fu : Nat) (p : Int) (n_ : Int) (s : Int) : Nat → (List Int) → Nat → Int → Option (Nat × List Int)
  | 0, _, _, _ => none
  | f + 1, l10, m10, k => B_i_spreads_0 p n_ s (L_i_spreads_0 fu p n_ s f) l10 m10 k
theorem loop_i_spreads_0 (fu : Nat) (p : Int) (n_ : Int) (s : Int) : ∀ (f : Nat) (l10 : List Int) (m10 : Nat) (k : Int), X_i_spreads_0 Try.prog fu p n_ s f l10 m10 k = L_i_spreads_0 fu p n_ s f l10 m10 k := by
  intro f
  induction f with
  | zero => intros; rfl
  | succ f ih =>
    intro l10 m10 k
    have h1 : X_i_spreads_0 Try.prog fu p n_ s (f + 1) l10 m10 k = B_i_spreads_0 p n_ s (X_i_spreads_0 Try.prog fu p n_ s f) l10 m10 k := by kernel_rfl
    have h2 : X_i_spreads_0 Try.prog fu p n_ s f = L_i_spreads_0 fu p n_ s f := by funext l10 m10 k; exact ih l10 m10 k
    rw [h1, h2]
    rfl
def G_i_spreads (p : Int) (n_ : Int) (s : Int) (lo0 : (List Int) → Nat → Int → Option (Nat × List Int)) : Option (Nat × List Int) :=
  lo0 [0, s] 2 1
def Fo_i_spreads (fu : Nat) (p : Int) (n_ : Int) (s : Int) : Option (Nat × List Int) := G_i_spreads p n_ s (L_i_spreads_0 fu p n_ s (fu + 100))
theorem eqg_i_spreads (fu : Nat) (p : Int) (n_ : Int) (s : Int) : execT Try.prog S_i_spreads 52 40 (fun _ => fu + 100) dec_l2_1 [.v (.int .i64 p), .v (.int .i64 n_), .v (.int .i64 s)] = G_i_spreads p n_ s (L_i_spreads_0 fu p n_ s (fu + 100)) := by
  have h1 : execT Try.prog S_i_spreads 52 40 (fun _ => fu + 100) dec_l2_1 [.v (.int .i64 p), .v (.int .i64 n_), .v (.int .i64 s)] = G_i_spreads p n_ s (X_i_spreads_0 Try.prog fu p n_ s (fu + 100)) := by kernel_rfl
  have c0 : X_i_spreads_0 Try.prog fu p n_ s (fu + 100) = L_i_spreads_0 fu p n_ s (fu + 100) := by funext l10 m10 k; exact loop_i_spreads_0 fu p n_ s (fu + 100) l10 m10 k
  rw [h1, c0]
theorem eq_i_spreads (fu : Nat) (p : Int) (n_ : Int) (s : Int) : execT Try.prog S_i_spreads 52 40 (fun _ => fu + 100) dec_l2_1 [.v (.int .i64 p), .v (.int .i64 n_), .v (.int .i64 s)] = Fo_i_spreads fu p n_ s := eqg_i_spreads fu p n_ s
def i_spreads (p : Int) (n_ : Int) (s : Int) : Nat × List Int := (Fo_i_spreads 1000000 p n_ s).getD (0, [])
theorem tot_i_spreads (p : Int) (n_ : Int) (s : Int) (hp : ((Fo_i_spreads 1000000 p n_ s).isSome) = true) : Fo_i_spreads 1000000 p n_ s = some (i_spreads p n_ s) := of_isSome hp
def run_i_spreads : List PV → Option (Bool × List TR)
  | [.v (.int .i64 p), .v (.int .i64 n_), .v (.int .i64 s)] => some ((Fo_i_spreads 1000000 p n_ s).isSome, enc_l2_1 (i_spreads p n_ s))
  | _ => none
theorem sound_i_spreads : Sound Try.prog 52 run_i_spreads := by
  refine sound_of de_l2_1 SO_i_spreads (by kernel_rfl) Try.func52 Try.ntmps52 rfl (by kernel_rfl) ?_
  intro W pvs avs rs hargs hrun
  unfold run_i_spreads at hrun
  split at hrun
  · simp only [Option.some.injEq, Prod.mk.injEq] at hrun
    obtain ⟨hp, rfl⟩ := hrun
    rename_i p n_ s
    exact ⟨_, _, _, hargs, rfl, (eq_i_spreads _ p n_ s).trans (tot_i_spreads p n_ s hp)⟩
  · cases hrun

def S_i_orderOf : Sums := ⟨tblS [(52, run_i_spreads)], tblM []⟩
theorem SO_i_orderOf : SumsOK Try.prog S_i_orderOf := ⟨tblS_ok ⟨⟨Try.call52, sound_i_spreads⟩, True.intro⟩, tblM_ok True.intro⟩
def T_i_orderOf_0 (p : Int) (s : Int) (order : Int) (j_n : Int) : Tab := ⟨[.val (.int .i64 p), .val (.int .i64 s), .junk, .junk, .val (.int .i64 0), .val (.int .i64 0), .row 64, .val (.int .i64 order), .val (.int .i64 j_n), .val (.int .i64 p), .val (.int .i64 p), .val (.int .i64 (wI (2 * p))), .val (.int .i64 p), .val (.int .i64 (wI ((wI (2 * p)) * p))), .val (.int .i64 (wI ((wI ((wI (2 * p)) * p)) + 2))), .val (.int .i64 s), .row 64, .junk, .junk, .junk, .junk, .junk, .junk, .junk, .junk, .junk, .junk, .junk, .junk, .junk, .junk, .junk, .junk, .junk, .junk, .junk, .junk, .junk, .junk, .junk, .junk, .junk], [(64, .row 2 1 ((i_spreads p (wI ((wI ((wI (2 * p)) * p)) + 2)) s).1) (.ints ((i_spreads p (wI ((wI ((wI (2 * p)) * p)) + 2)) s).2)))]⟩
def X_i_orderOf_0 (P : Program) (fu : Nat) (p : Int) (s : Int) (f : Nat) (order : Int) (j_n : Int) : Option (Int × Int) := loopK (exec P S_i_orderOf 42 (fun _ => fu + 100) (Code.sub [1, 1, 1, 0, 1, 0, 0] (bodyF P 30))) f (T_i_orderOf_0 p s order j_n) (kBlock 0 (kSeq (fun zs9 => exec P S_i_orderOf 42 (fun _ => fu + 100) (Code.sub [1, 1, 1, 1] (bodyF P 30)) zs9 (finT P 30 dec_i_i)) (finT P 30 dec_i_i)))
def B_i_orderOf_0 (p : Int) (s : Int) (rec0 : Int → Int → Option (Int × Int)) (order : Int) (j_n : Int) : Option (Int × Int) :=
  (if (decide ((wI (j_n + 1)) < (((i_spreads p (wI ((wI ((wI (2 * p)) * p)) + 2)) s).1 : Nat) : Int))) = true then (if (decide (0 ≤ j_n) && decide (j_n < (((i_spreads p (wI ((wI ((wI (2 * p)) * p)) + 2)) s).1 : Nat) : Int))) = true then (if (Nat.ble (j_n.toNat * 1 + 1) (((i_spreads p (wI ((wI ((wI (2 * p)) * p)) + 2)) s).2).length)) = true then (if ((((i_spreads p (wI ((wI ((wI (2 * p)) * p)) + 2)) s).2).getD (j_n.toNat * 1) 0) != 0) = true then rec0 order (wI (j_n + 1)) else (if (order == 0) = true then (if (decide (0 ≤ wI (j_n + 1)) && decide (wI (j_n + 1) < (((i_spreads p (wI ((wI ((wI (2 * p)) * p)) + 2)) s).1 : Nat) : Int))) = true then (if (Nat.ble (((wI (j_n + 1)).toNat) * 1 + 1) (((i_spreads p (wI ((wI ((wI (2 * p)) * p)) + 2)) s).2).length)) = true then (if ((((i_spreads p (wI ((wI ((wI (2 * p)) * p)) + 2)) s).2).getD (((wI (j_n + 1)).toNat) * 1) 0) == s) = true then some (j_n, j_n) else rec0 j_n (wI (j_n + 1))) else none) else none) else (if (decide (0 ≤ wI (j_n + 1)) && decide (wI (j_n + 1) < (((i_spreads p (wI ((wI ((wI (2 * p)) * p)) + 2)) s).1 : Nat) : Int))) = true then (if (Nat.ble (((wI (j_n + 1)).toNat) * 1 + 1) (((i_spreads p (wI ((wI ((wI (2 * p)) * p)) + 2)) s).2).length)) = true then (if ((((i_spreads p (wI ((wI ((wI (2 * p)) * p)) + 2)) s).2).getD (((wI (j_n + 1)).toNat) * 1) 0) == s) = true then some (order, j_n) else rec0 order (wI (j_n + 1))) else none) else none))) else none) else none) else some (order, 0))
def L_i_orderOf_0 (fu : Nat) (p : Int) (s : Int) : Nat → Int → Int → Option (Int × Int)
  | 0, _, _ => none
  | f + 1, order, j_n => B_i_orderOf_0 p s (L_i_orderOf_0 fu p s f) order j_n
theorem loop_i_orderOf_0 (fu : Nat) (p : Int) (s : Int) : ∀ (f : Nat) (order : Int) (j_n : Int), X_i_orderOf_0 Try.prog fu p s f order j_n = L_i_orderOf_0 fu p s f order j_n := by
  intro f
  induction f with
  | zero => intros; rfl
  | succ f ih =>
    intro order j_n
    have h1 : X_i_orderOf_0 Try.prog fu p s (f + 1) order j_n = B_i_orderOf_0 p s (X_i_orderOf_0 Try.prog fu p s f) order j_n := by kernel_rfl
    have h2 : X_i_orderOf_0 Try.prog fu p s f = L_i_orderOf_0 fu p s f := by funext order j_n; exact ih order j_n
    rw [h1, h2]
    rfl
def G_i_orderOf (p : Int) (s : Int) (lo0 : Int → Int → Option (Int × Int)) : Option (Int × Int) :=
  (if ((Fo_i_spreads 1000000 p (wI ((wI ((wI (2 * p)) * p)) + 2)) s).isSome) = true then lo0 0 1 else none)
def Fo_i_orderOf (fu : Nat) (p : Int) (s : Int) : Option (Int × Int) := G_i_orderOf p s (L_i_orderOf_0 fu p s (fu + 100))
theorem eqg_i_orderOf (fu : Nat) (p : Int) (s : Int) : execT Try.prog S_i_orderOf 30 42 (fun _ => fu + 100) dec_i_i [.v (.int .i64 p), .v (.int .i64 s)] = G_i_orderOf p s (L_i_orderOf_0 fu p s (fu + 100)) := by
  have h1 : execT Try.prog S_i_orderOf 30 42 (fun _ => fu + 100) dec_i_i [.v (.int .i64 p), .v (.int .i64 s)] = G_i_orderOf p s (X_i_orderOf_0 Try.prog fu p s (fu + 100)) := by kernel_rfl
  have c0 : X_i_orderOf_0 Try.prog fu p s (fu + 100) = L_i_orderOf_0 fu p s (fu + 100) := by funext order j_n; exact loop_i_orderOf_0 fu p s (fu + 100) order j_n
  rw [h1, c0]
theorem eq_i_orderOf (fu : Nat) (p : Int) (s : Int) : execT Try.prog S_i_orderOf 30 42 (fun _ => fu + 100) dec_i_i [.v (.int .i64 p), .v (.int .i64 s)] = Fo_i_orderOf fu p s := eqg_i_orderOf fu p s
def i_orderOf (p : Int) (s : Int) : Int × Int := (Fo_i_orderOf 1000000 p s).getD (0, 0)
theorem tot_i_orderOf (p : Int) (s : Int) (hp : ((Fo_i_orderOf 1000000 p s).isSome) = true) : Fo_i_orderOf 1000000 p s = some (i_orderOf p s) := of_isSome hp
def run_i_orderOf : List PV → Option (Bool × List TR)
  | [.v (.int .i64 p), .v (.int .i64 s)] => some ((Fo_i_orderOf 1000000 p s).isSome, enc_i_i (i_orderOf p s))
  | _ => none
theorem sound_i_orderOf : Sound Try.prog 30 run_i_orderOf := by
  refine sound_of de_i_i SO_i_orderOf (by kernel_rfl) Try.func30 Try.ntmps30 rfl (by kernel_rfl) ?_
  intro W pvs avs rs hargs hrun
  unfold run_i_orderOf at hrun
  split at hrun
  · simp only [Option.some.injEq, Prod.mk.injEq] at hrun
    obtain ⟨hp, rfl⟩ := hrun
    rename_i p s
    exact ⟨_, _, _, hargs, rfl, (eq_i_orderOf _ p s).trans (tot_i_orderOf p s hp)⟩
  · cases hrun

def S_i_OrderOfSpread : Sums := ⟨tblS [(27, run_i_asked), (28, run_i_OrderOfSpread_c1), (30, run_i_orderOf)], tblM []⟩
theorem SO_i_OrderOfSpread : SumsOK Try.prog S_i_OrderOfSpread := ⟨tblS_ok ⟨⟨Try.call27, sound_i_asked⟩, ⟨Try.call28, sound_i_OrderOfSpread_c1⟩, ⟨Try.call30, sound_i_orderOf⟩, True.intro⟩, tblM_ok True.intro⟩
def Fo_i_OrderOfSpread (p : Int) (s : Int) : Option (Int × Int) :=
  (if ((true) || !(i_IsField p)) = true then (if ((i_asked p (true) (i_OrderOfSpread_c1 p s)) != 0) = true then some (0, (i_asked p (true) (i_OrderOfSpread_c1 p s))) else (if ((Fo_i_orderOf 1000000 p s).isSome) = true then some ((i_orderOf p s).1, 0) else none)) else none)
theorem eq_i_OrderOfSpread (p : Int) (s : Int) : execT Try.prog S_i_OrderOfSpread 6 22 (fun _ => 1000000) dec_i_i [.v (.int .i64 p), .v (.int .i64 s)] = Fo_i_OrderOfSpread p s := by
  kernel_rfl
def ok_i_OrderOfSpread : (Int) → (Int) → (Bool) := shut fun (p : Int) (s : Int) => (Fo_i_OrderOfSpread p s).isSome
def i_OrderOfSpread : (Int) → (Int) → (Int × Int) := shut fun (p : Int) (s : Int) => (Fo_i_OrderOfSpread p s).getD (0, 0)
theorem ok_i_OrderOfSpread_of {p : Int} {s : Int} {r : Int × Int} (e : Fo_i_OrderOfSpread p s = some r) : ok_i_OrderOfSpread p s = true := by
  unfold ok_i_OrderOfSpread
  rw [shut_eq, e]
  rfl
theorem i_OrderOfSpread_of {p : Int} {s : Int} {r : Int × Int} (e : Fo_i_OrderOfSpread p s = some r) : i_OrderOfSpread p s = r := by
  unfold i_OrderOfSpread
  rw [shut_eq, e]
  rfl
theorem tot_i_OrderOfSpread (p : Int) (s : Int) (hp : (ok_i_OrderOfSpread p s) = true) : Fo_i_OrderOfSpread p s = some (i_OrderOfSpread p s) := by
  unfold ok_i_OrderOfSpread at hp
  rw [shut_eq] at hp
  unfold i_OrderOfSpread
  rw [shut_eq]
  exact of_isSome hp
def run_i_OrderOfSpread : List PV → Option (Bool × List TR)
  | [.v (.int .i64 p), .v (.int .i64 s)] => some (ok_i_OrderOfSpread p s, enc_i_i (i_OrderOfSpread p s))
  | _ => none
theorem sound_i_OrderOfSpread : Sound Try.prog 6 run_i_OrderOfSpread := by
  refine sound_of de_i_i SO_i_OrderOfSpread (by kernel_rfl) Try.func6 Try.ntmps6 rfl (by kernel_rfl) ?_
  intro W pvs avs rs hargs hrun
  unfold run_i_OrderOfSpread at hrun
  split at hrun
  · simp only [Option.some.injEq, Prod.mk.injEq] at hrun
    obtain ⟨hp, rfl⟩ := hrun
    rename_i p s
    exact ⟨_, _, _, hargs, rfl, (eq_i_OrderOfSpread p s).trans (tot_i_OrderOfSpread p s hp)⟩
  · cases hrun

def S_i_PeriodOfSpread_c1 : Sums := ⟨tblS [(29, run_i_isNumber)], tblM []⟩
theorem SO_i_PeriodOfSpread_c1 : SumsOK Try.prog S_i_PeriodOfSpread_c1 := ⟨tblS_ok ⟨⟨Try.call29, sound_i_isNumber⟩, True.intro⟩, tblM_ok True.intro⟩
def Fo_i_PeriodOfSpread_c1 (c0 : Int) (c1 : Int) : Option (Bool) :=
  some (i_isNumber c0 c1)
theorem eq_i_PeriodOfSpread_c1 (c0 : Int) (c1 : Int) : execT Try.prog S_i_PeriodOfSpread_c1 33 6 (fun _ => 1000000) dec_b [.p [.int .i64 c0], .p [.int .i64 c1]] = Fo_i_PeriodOfSpread_c1 c0 c1 := by
  kernel_rfl
def i_PeriodOfSpread_c1 (c0 : Int) (c1 : Int) : Bool :=
  (i_isNumber c0 c1)
theorem tot_i_PeriodOfSpread_c1 (c0 : Int) (c1 : Int) : Fo_i_PeriodOfSpread_c1 c0 c1 = some (i_PeriodOfSpread_c1 c0 c1) := by
  unfold Fo_i_PeriodOfSpread_c1 i_PeriodOfSpread_c1
  (try simp only [wI_eq])
  repeat' (first | with_reducible rfl | refine ite_opt (fun _ => ?_) (fun _ => ?_) | rfl)
def run_i_PeriodOfSpread_c1 : List PV → Option (Bool × List TR)
  | [.p [.int .i64 c0], .p [.int .i64 c1]] => some (true, enc_b (i_PeriodOfSpread_c1 c0 c1))
  | _ => none
theorem sound_i_PeriodOfSpread_c1 : Sound Try.prog 33 run_i_PeriodOfSpread_c1 := by
  refine sound_of de_b SO_i_PeriodOfSpread_c1 (by kernel_rfl) Try.func33 Try.ntmps33 rfl (by kernel_rfl) ?_
  intro W pvs avs rs hargs hrun
  unfold run_i_PeriodOfSpread_c1 at hrun
  split at hrun
  · simp only [Option.some.injEq, Prod.mk.injEq] at hrun
    obtain ⟨hp, rfl⟩ := hrun
    rename_i c0 c1
    exact ⟨_, _, _, hargs, rfl, (eq_i_PeriodOfSpread_c1 c0 c1).trans (tot_i_PeriodOfSpread_c1 c0 c1)⟩
  · cases hrun

def S_i_PeriodOfSpread : Sums := ⟨tblS [(27, run_i_asked), (33, run_i_PeriodOfSpread_c1), (30, run_i_orderOf)], tblM []⟩
theorem SO_i_PeriodOfSpread : SumsOK Try.prog S_i_PeriodOfSpread := ⟨tblS_ok ⟨⟨Try.call27, sound_i_asked⟩, ⟨Try.call33, sound_i_PeriodOfSpread_c1⟩, ⟨Try.call30, sound_i_orderOf⟩, True.intro⟩, tblM_ok True.intro⟩
def Fo_i_PeriodOfSpread (p : Int) (s : Int) : Option (Int × Int) :=
  (if ((true) || !(i_IsField p)) = true then (if ((i_asked p (true) (i_PeriodOfSpread_c1 p s)) != 0) = true then some (0, (i_asked p (true) (i_PeriodOfSpread_c1 p s))) else (if ((Fo_i_orderOf 1000000 p s).isSome) = true then some ((i_orderOf p s).2, 0) else none)) else none)
theorem eq_i_PeriodOfSpread (p : Int) (s : Int) : execT Try.prog S_i_PeriodOfSpread 8 22 (fun _ => 1000000) dec_i_i [.v (.int .i64 p), .v (.int .i64 s)] = Fo_i_PeriodOfSpread p s := by
  kernel_rfl
def ok_i_PeriodOfSpread : (Int) → (Int) → (Bool) := shut fun (p : Int) (s : Int) => (Fo_i_PeriodOfSpread p s).isSome
def i_PeriodOfSpread : (Int) → (Int) → (Int × Int) := shut fun (p : Int) (s : Int) => (Fo_i_PeriodOfSpread p s).getD (0, 0)
theorem ok_i_PeriodOfSpread_of {p : Int} {s : Int} {r : Int × Int} (e : Fo_i_PeriodOfSpread p s = some r) : ok_i_PeriodOfSpread p s = true := by
  unfold ok_i_PeriodOfSpread
  rw [shut_eq, e]
  rfl
theorem i_PeriodOfSpread_of {p : Int} {s : Int} {r : Int × Int} (e : Fo_i_PeriodOfSpread p s = some r) : i_PeriodOfSpread p s = r := by
  unfold i_PeriodOfSpread
  rw [shut_eq, e]
  rfl
theorem tot_i_PeriodOfSpread (p : Int) (s : Int) (hp : (ok_i_PeriodOfSpread p s) = true) : Fo_i_PeriodOfSpread p s = some (i_PeriodOfSpread p s) := by
  unfold ok_i_PeriodOfSpread at hp
  rw [shut_eq] at hp
  unfold i_PeriodOfSpread
  rw [shut_eq]
  exact of_isSome hp
def run_i_PeriodOfSpread : List PV → Option (Bool × List TR)
  | [.v (.int .i64 p), .v (.int .i64 s)] => some (ok_i_PeriodOfSpread p s, enc_i_i (i_PeriodOfSpread p s))
  | _ => none
theorem sound_i_PeriodOfSpread : Sound Try.prog 8 run_i_PeriodOfSpread := by
  refine sound_of de_i_i SO_i_PeriodOfSpread (by kernel_rfl) Try.func8 Try.ntmps8 rfl (by kernel_rfl) ?_
  intro W pvs avs rs hargs hrun
  unfold run_i_PeriodOfSpread at hrun
  split at hrun
  · simp only [Option.some.injEq, Prod.mk.injEq] at hrun
    obtain ⟨hp, rfl⟩ := hrun
    rename_i p s
    exact ⟨_, _, _, hargs, rfl, (eq_i_PeriodOfSpread p s).trans (tot_i_PeriodOfSpread p s hp)⟩
  · cases hrun

def S_i_SpreadPolynomial_c1 : Sums := ⟨tblS [(29, run_i_isNumber), (39, run_i_isIndex)], tblM []⟩
theorem SO_i_SpreadPolynomial_c1 : SumsOK Try.prog S_i_SpreadPolynomial_c1 := ⟨tblS_ok ⟨⟨Try.call29, sound_i_isNumber⟩, ⟨Try.call39, sound_i_isIndex⟩, True.intro⟩, tblM_ok True.intro⟩
def Fo_i_SpreadPolynomial_c1 (c0 : Int) (c1 : Int) (c2 : Int) : Option (Bool) :=
  (if (i_isNumber c0 c1) = true then some (i_isIndex c2) else some false)
theorem eq_i_SpreadPolynomial_c1 (c0 : Int) (c1 : Int) (c2 : Int) : execT Try.prog S_i_SpreadPolynomial_c1 38 11 (fun _ => 1000000) dec_b [.p [.int .i64 c0], .p [.int .i64 c1], .p [.int .i64 c2]] = Fo_i_SpreadPolynomial_c1 c0 c1 c2 := by
  kernel_rfl
def i_SpreadPolynomial_c1 (c0 : Int) (c1 : Int) (c2 : Int) : Bool :=
  (if (i_isNumber c0 c1) = true then (i_isIndex c2) else false)
theorem tot_i_SpreadPolynomial_c1 (c0 : Int) (c1 : Int) (c2 : Int) : Fo_i_SpreadPolynomial_c1 c0 c1 c2 = some (i_SpreadPolynomial_c1 c0 c1 c2) := by
  unfold Fo_i_SpreadPolynomial_c1 i_SpreadPolynomial_c1
  (try simp only [wI_eq])
  repeat' (first | with_reducible rfl | refine ite_opt (fun _ => ?_) (fun _ => ?_) | rfl)
def run_i_SpreadPolynomial_c1 : List PV → Option (Bool × List TR)
  | [.p [.int .i64 c0], .p [.int .i64 c1], .p [.int .i64 c2]] => some (true, enc_b (i_SpreadPolynomial_c1 c0 c1 c2))
  | _ => none
theorem sound_i_SpreadPolynomial_c1 : Sound Try.prog 38 run_i_SpreadPolynomial_c1 := by
  refine sound_of de_b SO_i_SpreadPolynomial_c1 (by kernel_rfl) Try.func38 Try.ntmps38 rfl (by kernel_rfl) ?_
  intro W pvs avs rs hargs hrun
  unfold run_i_SpreadPolynomial_c1 at hrun
  split at hrun
  · simp only [Option.some.injEq, Prod.mk.injEq] at hrun
    obtain ⟨hp, rfl⟩ := hrun
    rename_i c0 c1 c2
    exact ⟨_, _, _, hargs, rfl, (eq_i_SpreadPolynomial_c1 c0 c1 c2).trans (tot_i_SpreadPolynomial_c1 c0 c1 c2)⟩
  · cases hrun

def S_i_spreadOf : Sums := ⟨tblS [(52, run_i_spreads)], tblM []⟩
theorem SO_i_spreadOf : SumsOK Try.prog S_i_spreadOf := ⟨tblS_ok ⟨⟨Try.call52, sound_i_spreads⟩, True.intro⟩, tblM_ok True.intro⟩
def Fo_i_spreadOf (p : Int) (n_ : Int) (s : Int) : Option (Int) :=
  (if ((Fo_i_spreads 1000000 p n_ s).isSome) = true then (if (decide (0 ≤ n_) && decide (n_ < (((i_spreads p n_ s).1 : Nat) : Int))) = true then (if (Nat.ble (n_.toNat * 1 + 1) (((i_spreads p n_ s).2).length)) = true then some (((i_spreads p n_ s).2).getD (n_.toNat * 1) 0) else none) else none) else none)
theorem eq_i_spreadOf (p : Int) (n_ : Int) (s : Int) : execT Try.prog S_i_spreadOf 40 14 (fun _ => 1000000) dec_i [.v (.int .i64 p), .v (.int .i64 n_), .v (.int .i64 s)] = Fo_i_spreadOf p n_ s := by
  kernel_rfl
def i_spreadOf (p : Int) (n_ : Int) (s : Int) : Int := (Fo_i_spreadOf p n_ s).getD 0
theorem tot_i_spreadOf (p : Int) (n_ : Int) (s : Int) (hp : ((Fo_i_spreadOf p n_ s).isSome) = true) : Fo_i_spreadOf p n_ s = some (i_spreadOf p n_ s) := of_isSome hp
def run_i_spreadOf : List PV → Option (Bool × List TR)
  | [.v (.int .i64 p), .v (.int .i64 n_), .v (.int .i64 s)] => some ((Fo_i_spreadOf p n_ s).isSome, enc_i (i_spreadOf p n_ s))
  | _ => none
theorem sound_i_spreadOf : Sound Try.prog 40 run_i_spreadOf := by
  refine sound_of de_i SO_i_spreadOf (by kernel_rfl) Try.func40 Try.ntmps40 rfl (by kernel_rfl) ?_
  intro W pvs avs rs hargs hrun
  unfold run_i_spreadOf at hrun
  split at hrun
  · simp only [Option.some.injEq, Prod.mk.injEq] at hrun
    obtain ⟨hp, rfl⟩ := hrun
    rename_i p n_ s
    exact ⟨_, _, _, hargs, rfl, (eq_i_spreadOf p n_ s).trans (tot_i_spreadOf p n_ s hp)⟩
  · cases hrun

def S_i_SpreadPolynomial : Sums := ⟨tblS [(27, run_i_asked), (38, run_i_SpreadPolynomial_c1), (40, run_i_spreadOf)], tblM []⟩
theorem SO_i_SpreadPolynomial : SumsOK Try.prog S_i_SpreadPolynomial := ⟨tblS_ok ⟨⟨Try.call27, sound_i_asked⟩, ⟨Try.call38, sound_i_SpreadPolynomial_c1⟩, ⟨Try.call40, sound_i_spreadOf⟩, True.intro⟩, tblM_ok True.intro⟩
def Fo_i_SpreadPolynomial (p : Int) (n_ : Int) (s : Int) : Option (Int × Int) :=
  (if ((true) || !(i_IsField p)) = true then (if ((i_asked p (true) (i_SpreadPolynomial_c1 p s n_)) != 0) = true then some (0, (i_asked p (true) (i_SpreadPolynomial_c1 p s n_))) else (if ((Fo_i_spreadOf p n_ s).isSome) = true then some ((i_spreadOf p n_ s), 0) else none)) else none)
theorem eq_i_SpreadPolynomial (p : Int) (n_ : Int) (s : Int) : execT Try.prog S_i_SpreadPolynomial 11 19 (fun _ => 1000000) dec_i_i [.v (.int .i64 p), .v (.int .i64 n_), .v (.int .i64 s)] = Fo_i_SpreadPolynomial p n_ s := by
  kernel_rfl
def ok_i_SpreadPolynomial : (Int) → (Int) → (Int) → (Bool) := shut fun (p : Int) (n_ : Int) (s : Int) => (Fo_i_SpreadPolynomial p n_ s).isSome
def i_SpreadPolynomial : (Int) → (Int) → (Int) → (Int × Int) := shut fun (p : Int) (n_ : Int) (s : Int) => (Fo_i_SpreadPolynomial p n_ s).getD (0, 0)
theorem ok_i_SpreadPolynomial_of {p : Int} {n_ : Int} {s : Int} {r : Int × Int} (e : Fo_i_SpreadPolynomial p n_ s = some r) : ok_i_SpreadPolynomial p n_ s = true := by
  unfold ok_i_SpreadPolynomial
  rw [shut_eq, e]
  rfl
theorem i_SpreadPolynomial_of {p : Int} {n_ : Int} {s : Int} {r : Int × Int} (e : Fo_i_SpreadPolynomial p n_ s = some r) : i_SpreadPolynomial p n_ s = r := by
  unfold i_SpreadPolynomial
  rw [shut_eq, e]
  rfl
theorem tot_i_SpreadPolynomial (p : Int) (n_ : Int) (s : Int) (hp : (ok_i_SpreadPolynomial p n_ s) = true) : Fo_i_SpreadPolynomial p n_ s = some (i_SpreadPolynomial p n_ s) := by
  unfold ok_i_SpreadPolynomial at hp
  rw [shut_eq] at hp
  unfold i_SpreadPolynomial
  rw [shut_eq]
  exact of_isSome hp
def run_i_SpreadPolynomial : List PV → Option (Bool × List TR)
  | [.v (.int .i64 p), .v (.int .i64 n_), .v (.int .i64 s)] => some (ok_i_SpreadPolynomial p n_ s, enc_i_i (i_SpreadPolynomial p n_ s))
  | _ => none
theorem sound_i_SpreadPolynomial : Sound Try.prog 11 run_i_SpreadPolynomial := by
  refine sound_of de_i_i SO_i_SpreadPolynomial (by kernel_rfl) Try.func11 Try.ntmps11 rfl (by kernel_rfl) ?_
  intro W pvs avs rs hargs hrun
  unfold run_i_SpreadPolynomial at hrun
  split at hrun
  · simp only [Option.some.injEq, Prod.mk.injEq] at hrun
    obtain ⟨hp, rfl⟩ := hrun
    rename_i p n_ s
    exact ⟨_, _, _, hargs, rfl, (eq_i_SpreadPolynomial p n_ s).trans (tot_i_SpreadPolynomial p n_ s hp)⟩
  · cases hrun

def S_i_SpreadsOfOrder_c1 : Sums := ⟨tblS [], tblM []⟩
theorem SO_i_SpreadsOfOrder_c1 : SumsOK Try.prog S_i_SpreadsOfOrder_c1 := ⟨tblS_ok True.intro, tblM_ok True.intro⟩
def Fo_i_SpreadsOfOrder_c1 (c0 : Int) : Option (Bool) :=
  (if (decide (c0 ≥ 1)) = true then some (decide (c0 ≤ 1000)) else some false)
theorem eq_i_SpreadsOfOrder_c1 (c0 : Int) : execT Try.prog S_i_SpreadsOfOrder_c1 35 8 (fun _ => 1000000) dec_b [.p [.int .i64 c0]] = Fo_i_SpreadsOfOrder_c1 c0 := by
  kernel_rfl
def i_SpreadsOfOrder_c1 (c0 : Int) : Bool :=
  (if (decide (c0 ≥ 1)) = true then decide (c0 ≤ 1000) else false)
theorem tot_i_SpreadsOfOrder_c1 (c0 : Int) : Fo_i_SpreadsOfOrder_c1 c0 = some (i_SpreadsOfOrder_c1 c0) := by
  unfold Fo_i_SpreadsOfOrder_c1 i_SpreadsOfOrder_c1
  (try simp only [wI_eq])
  repeat' (first | with_reducible rfl | refine ite_opt (fun _ => ?_) (fun _ => ?_) | rfl)
def run_i_SpreadsOfOrder_c1 : List PV → Option (Bool × List TR)
  | [.p [.int .i64 c0]] => some (true, enc_b (i_SpreadsOfOrder_c1 c0))
  | _ => none
theorem sound_i_SpreadsOfOrder_c1 : Sound Try.prog 35 run_i_SpreadsOfOrder_c1 := by
  refine sound_of de_b SO_i_SpreadsOfOrder_c1 (by kernel_rfl) Try.func35 Try.ntmps35 rfl (by kernel_rfl) ?_
  intro W pvs avs rs hargs hrun
  unfold run_i_SpreadsOfOrder_c1 at hrun
  split at hrun
  · simp only [Option.some.injEq, Prod.mk.injEq] at hrun
    obtain ⟨hp, rfl⟩ := hrun
    rename_i c0
    exact ⟨_, _, _, hargs, rfl, (eq_i_SpreadsOfOrder_c1 c0).trans (tot_i_SpreadsOfOrder_c1 c0)⟩
  · cases hrun

def S_i_SpreadsOfOrder_c2 : Sums := ⟨tblS [(30, run_i_orderOf)], tblM []⟩
theorem SO_i_SpreadsOfOrder_c2 : SumsOK Try.prog S_i_SpreadsOfOrder_c2 := ⟨tblS_ok ⟨⟨Try.call30, sound_i_orderOf⟩, True.intro⟩, tblM_ok True.intro⟩
def Fo_i_SpreadsOfOrder_c2 (s : Int) (c0 : Int) (c1 : Int) : Option (Bool) :=
  (if ((Fo_i_orderOf 1000000 c0 s).isSome) = true then some (((i_orderOf c0 s).1) == c1) else none)
theorem eq_i_SpreadsOfOrder_c2 (s : Int) (c0 : Int) (c1 : Int) : execT Try.prog S_i_SpreadsOfOrder_c2 37 16 (fun _ => 1000000) dec_b [.v (.int .i64 s), .p [.int .i64 c0], .p [.int .i64 c1]] = Fo_i_SpreadsOfOrder_c2 s c0 c1 := by
  kernel_rfl
def i_SpreadsOfOrder_c2 (s : Int) (c0 : Int) (c1 : Int) : Bool := (Fo_i_SpreadsOfOrder_c2 s c0 c1).getD false
theorem tot_i_SpreadsOfOrder_c2 (s : Int) (c0 : Int) (c1 : Int) (hp : ((Fo_i_SpreadsOfOrder_c2 s c0 c1).isSome) = true) : Fo_i_SpreadsOfOrder_c2 s c0 c1 = some (i_SpreadsOfOrder_c2 s c0 c1) := of_isSome hp
def run_i_SpreadsOfOrder_c2 : List PV → Option (Bool × List TR)
  | [.v (.int .i64 s), .p [.int .i64 c0], .p [.int .i64 c1]] => some ((Fo_i_SpreadsOfOrder_c2 s c0 c1).isSome, enc_b (i_SpreadsOfOrder_c2 s c0 c1))
  | _ => none
theorem sound_i_SpreadsOfOrder_c2 : Sound Try.prog 37 run_i_SpreadsOfOrder_c2 := by
  refine sound_of de_b SO_i_SpreadsOfOrder_c2 (by kernel_rfl) Try.func37 Try.ntmps37 rfl (by kernel_rfl) ?_
  intro W pvs avs rs hargs hrun
  unfold run_i_SpreadsOfOrder_c2 at hrun
  split at hrun
  · simp only [Option.some.injEq, Prod.mk.injEq] at hrun
    obtain ⟨hp, rfl⟩ := hrun
    rename_i s c0 c1
    exact ⟨_, _, _, hargs, rfl, (eq_i_SpreadsOfOrder_c2 s c0 c1).trans (tot_i_SpreadsOfOrder_c2 s c0 c1 hp)⟩
  · cases hrun

def S_i_numbersWith : Sums := ⟨tblS [], tblM []⟩
theorem SO_i_numbersWith : SumsOK Try.prog S_i_numbersWith := ⟨tblS_ok True.intro, tblM_ok True.intro⟩
def T_i_numbersWith_0 (p : Int) (holdsk : Int → Bool) (holdsh : Int → Bool) (l7 : List Int) (m7 : Nat) (j_n : Int) : Tab := ⟨[.val (.int .i64 p), .fn (clo_i_b holdsk holdsh), .junk, .junk, .val (.slice none 0 0), .row 28, .val (.int .i64 j_n), .junk, .junk, .junk, .junk, .junk, .junk, .junk, .junk, .junk, .junk, .junk, .junk, .junk, .junk], [(28, .row 2 1 m7 (.ints l7))]⟩
def X_i_numbersWith_0 (P : Program) (fu : Nat) (p : Int) (holdsk : Int → Bool) (holdsh : Int → Bool) (f : Nat) (l7 : List Int) (m7 : Nat) (j_n : Int) : Option (Nat × List Int) := loopK (exec P S_i_numbersWith 21 (fun _ => fu + 100) (Code.sub [1, 1, 0, 1, 0, 0] (bodyF P 36))) f (T_i_numbersWith_0 p holdsk holdsh l7 m7 j_n) (kBlock 0 (kSeq (fun zs9 => exec P S_i_numbersWith 21 (fun _ => fu + 100) (Code.sub [1, 1, 1] (bodyF P 36)) zs9 (finT P 36 dec_l2_1)) (finT P 36 dec_l2_1)))
def B_i_numbersWith_0 (p : Int) (holdsk : Int → Bool) (holdsh : Int → Bool) (rec0 : (List Int) → Nat → Int → Option (Nat × List Int)) (l7 : List Int) (m7 : Nat) (j_n : Int) : Option (Nat × List Int) :=
  (if (decide (j_n < p)) = true then (if (holdsk j_n) = true then (if (holdsh j_n) = true then (if (Nat.ble 1 1 && Nat.ble (m7 + 1) 1000000 && Nat.beq 1 (1)) = true then rec0 (l7 ++ [j_n]) (m7 + 1) (wI (j_n + 1)) else none) else rec0 l7 m7 (wI (j_n + 1))) else none) else some (m7, l7))
def L_i_numbersWith_0 (fu : Nat) (p : Int) (holdsk : Int → Bool) (holdsh : Int → Bool) : Nat → (List Int) → Nat → Int → Option (Nat × List Int)
  | 0, _, _, _ => none
  | f + 1, l7, m7, j_n => B_i_numbersWith_0 p holdsk holdsh (L_i_numbersWith_0 fu p holdsk holdsh f) l7 m7 j_n
theorem loop_i_numbersWith_0 (fu : Nat) (p : Int) (holdsk : Int → Bool) (holdsh : Int → Bool) : ∀ (f : Nat) (l7 : List Int) (m7 : Nat) (j_n : Int), X_i_numbersWith_0 Try.prog fu p holdsk holdsh f l7 m7 j_n = L_i_numbersWith_0 fu p holdsk holdsh f l7 m7 j_n := by
  intro f
  induction f with
  | zero => intros; rfl
  | succ f ih =>
    intro l7 m7 j_n
    have h1 : X_i_numbersWith_0 Try.prog fu p holdsk holdsh (f + 1) l7 m7 j_n = B_i_numbersWith_0 p holdsk holdsh (X_i_numbersWith_0 Try.prog fu p holdsk holdsh f) l7 m7 j_n := by kernel_rfl
    have h2 : X_i_numbersWith_0 Try.prog fu p holdsk holdsh f = L_i_numbersWith_0 fu p holdsk holdsh f := by funext l7 m7 j_n; exact ih l7 m7 j_n
    rw [h1, h2]
    rfl
def G_i_numbersWith (p : Int) (holdsk : Int → Bool) (holdsh : Int → Bool) (lo0 : (List Int) → Nat → Int → Option (Nat × List Int)) : Option (Nat × List Int) :=
  lo0 [] 0 0
def Fo_i_numbersWith (fu : Nat) (p : Int) (holdsk : Int → Bool) (holdsh : Int → Bool) : Option (Nat × List Int) := G_i_numbersWith p holdsk holdsh (L_i_numbersWith_0 fu p holdsk holdsh (fu + 100))
theorem eqg_i_numbersWith (fu : Nat) (p : Int) (holdsk : Int → Bool) (holdsh : Int → Bool) : execT Try.prog S_i_numbersWith 36 21 (fun _ => fu + 100) dec_l2_1 [.v (.int .i64 p), .f (clo_i_b holdsk holdsh)] = G_i_numbersWith p holdsk holdsh (L_i_numbersWith_0 fu p holdsk holdsh (fu + 100)) := by
  have h1 : execT Try.prog S_i_numbersWith 36 21 (fun _ => fu + 100) dec_l2_1 [.v (.int .i64 p), .f (clo_i_b holdsk holdsh)] = G_i_numbersWith p holdsk holdsh (X_i_numbersWith_0 Try.prog fu p holdsk holdsh (fu + 100)) := by kernel_rfl
  have c0 : X_i_numbersWith_0 Try.prog fu p holdsk holdsh (fu + 100) = L_i_numbersWith_0 fu p holdsk holdsh (fu + 100) := by funext l7 m7 j_n; exact loop_i_numbersWith_0 fu p holdsk holdsh (fu + 100) l7 m7 j_n
  rw [h1, c0]
theorem eq_i_numbersWith (fu : Nat) (p : Int) (holdsk : Int → Bool) (holdsh : Int → Bool) : execT Try.prog S_i_numbersWith 36 21 (fun _ => fu + 100) dec_l2_1 [.v (.int .i64 p), .f (clo_i_b holdsk holdsh)] = Fo_i_numbersWith fu p holdsk holdsh := eqg_i_numbersWith fu p holdsk holdsh
def i_numbersWith (p : Int) (holdsk : Int → Bool) (holdsh : Int → Bool) : Nat × List Int := (Fo_i_numbersWith 1000000 p holdsk holdsh).getD (0, [])
theorem tot_i_numbersWith (p : Int) (holdsk : Int → Bool) (holdsh : Int → Bool) (hp : ((Fo_i_numbersWith 1000000 p holdsk holdsh).isSome) = true) : Fo_i_numbersWith 1000000 p holdsk holdsh = some (i_numbersWith p holdsk holdsh) := of_isSome hp
def run_i_numbersWith : List PV → Option (Bool × List TR)
  | [.v (.int .i64 p), .f holdsg] => some ((Fo_i_numbersWith 1000000 p (fun a0 => okV (holdsg [.int .i64 a0])) (fun a0 => boolV (holdsg [.int .i64 a0]))).isSome, enc_l2_1 (i_numbersWith p (fun a0 => okV (holdsg [.int .i64 a0])) (fun a0 => boolV (holdsg [.int .i64 a0]))))
  | _ => none
theorem sound_i_numbersWith : Sound Try.prog 36 run_i_numbersWith := by
  refine sound_of de_l2_1 SO_i_numbersWith (by kernel_rfl) Try.func36 Try.ntmps36 rfl (by kernel_rfl) ?_
  intro W pvs avs rs hargs hrun
  unfold run_i_numbersWith at hrun
  split at hrun
  · simp only [Option.some.injEq, Prod.mk.injEq] at hrun
    obtain ⟨hp, rfl⟩ := hrun
    rename_i p holdsg
    have hargs := All2.replace (l1 := [_]) hargs (y := .f (clo_i_b _ _)) fun b hb => fn_weaken hb (clo_i_b_ok _)
    exact ⟨_, _, _, hargs, rfl, (eq_i_numbersWith _ p (fun a0 => okV (holdsg [.int .i64 a0])) (fun a0 => boolV (holdsg [.int .i64 a0]))).trans (tot_i_numbersWith p (fun a0 => okV (holdsg [.int .i64 a0])) (fun a0 => boolV (holdsg [.int .i64 a0])) hp)⟩
  · cases hrun

def S_i_SpreadsOfOrder : Sums := ⟨tblS [(27, run_i_asked), (35, run_i_SpreadsOfOrder_c1), (36, run_i_numbersWith), (37, run_i_SpreadsOfOrder_c2)], tblM []⟩
theorem SO_i_SpreadsOfOrder : SumsOK Try.prog S_i_SpreadsOfOrder := ⟨tblS_ok ⟨⟨Try.call27, sound_i_asked⟩, ⟨Try.call35, sound_i_SpreadsOfOrder_c1⟩, ⟨Try.call36, sound_i_numbersWith⟩, ⟨Try.call37, sound_i_SpreadsOfOrder_c2⟩, True.intro⟩, tblM_ok True.intro⟩
def Fo_i_SpreadsOfOrder (p : Int) (n_ : Int) : Option ((Nat × List Int) × Int) :=
  (if ((true) || !(i_IsField p)) = true then (if ((i_asked p (true) (i_SpreadsOfOrder_c1 n_)) != 0) = true then some ((0, []), (i_asked p (true) (i_SpreadsOfOrder_c1 n_))) else (if ((Fo_i_numbersWith 1000000 p (fun a0 => (Fo_i_SpreadsOfOrder_c2 a0 p n_).isSome) (fun a0 => i_SpreadsOfOrder_c2 a0 p n_)).isSome) = true then some (((i_numbersWith p (fun a0 => (Fo_i_SpreadsOfOrder_c2 a0 p n_).isSome) (fun a0 => i_SpreadsOfOrder_c2 a0 p n_)).1, (i_numbersWith p (fun a0 => (Fo_i_SpreadsOfOrder_c2 a0 p n_).isSome) (fun a0 => i_SpreadsOfOrder_c2 a0 p n_)).2), 0) else none)) else none)
theorem eq_i_SpreadsOfOrder (p : Int) (n_ : Int) : execT Try.prog S_i_SpreadsOfOrder 10 16 (fun _ => 1000000) dec_l2_1_i [.v (.int .i64 p), .v (.int .i64 n_)] = Fo_i_SpreadsOfOrder p n_ := by
  kernel_rfl
def ok_i_SpreadsOfOrder : (Int) → (Int) → (Bool) := shut fun (p : Int) (n_ : Int) => (Fo_i_SpreadsOfOrder p n_).isSome
def i_SpreadsOfOrder : (Int) → (Int) → ((Nat × List Int) × Int) := shut fun (p : Int) (n_ : Int) => (Fo_i_SpreadsOfOrder p n_).getD ((0, []), 0)
theorem ok_i_SpreadsOfOrder_of {p : Int} {n_ : Int} {r : (Nat × List Int) × Int} (e : Fo_i_SpreadsOfOrder p n_ = some r) : ok_i_SpreadsOfOrder p n_ = true := by
  unfold ok_i_SpreadsOfOrder
  rw [shut_eq, e]
  rfl
theorem i_SpreadsOfOrder_of {p : Int} {n_ : Int} {r : (Nat × List Int) × Int} (e : Fo_i_SpreadsOfOrder p n_ = some r) : i_SpreadsOfOrder p n_ = r := by
  unfold i_SpreadsOfOrder
  rw [shut_eq, e]
  rfl
theorem tot_i_SpreadsOfOrder (p : Int) (n_ : Int) (hp : (ok_i_SpreadsOfOrder p n_) = true) : Fo_i_SpreadsOfOrder p n_ = some (i_SpreadsOfOrder p n_) := by
  unfold ok_i_SpreadsOfOrder at hp
  rw [shut_eq] at hp
  unfold i_SpreadsOfOrder
  rw [shut_eq]
  exact of_isSome hp
def run_i_SpreadsOfOrder : List PV → Option (Bool × List TR)
  | [.v (.int .i64 p), .v (.int .i64 n_)] => some (ok_i_SpreadsOfOrder p n_, enc_l2_1_i (i_SpreadsOfOrder p n_))
  | _ => none
theorem sound_i_SpreadsOfOrder : Sound Try.prog 10 run_i_SpreadsOfOrder := by
  refine sound_of de_l2_1_i SO_i_SpreadsOfOrder (by kernel_rfl) Try.func10 Try.ntmps10 rfl (by kernel_rfl) ?_
  intro W pvs avs rs hargs hrun
  unfold run_i_SpreadsOfOrder at hrun
  split at hrun
  · simp only [Option.some.injEq, Prod.mk.injEq] at hrun
    obtain ⟨hp, rfl⟩ := hrun
    rename_i p n_
    exact ⟨_, _, _, hargs, rfl, (eq_i_SpreadsOfOrder p n_).trans (tot_i_SpreadsOfOrder p n_ hp)⟩
  · cases hrun

def S_i_WalkOf_c1 : Sums := ⟨tblS [(29, run_i_isNumber), (39, run_i_isIndex)], tblM []⟩
theorem SO_i_WalkOf_c1 : SumsOK Try.prog S_i_WalkOf_c1 := ⟨tblS_ok ⟨⟨Try.call29, sound_i_isNumber⟩, ⟨Try.call39, sound_i_isIndex⟩, True.intro⟩, tblM_ok True.intro⟩
def Fo_i_WalkOf_c1 (c0 : Int) (c1 : Int) (c2 : Int) (c3 : Int) : Option (Bool) :=
  (if (i_isNumber c0 c1) = true then (if (i_isIndex c2) = true then (if (decide (c3 ≥ 0)) = true then some (decide (c3 ≤ 100)) else some false) else some false) else some false)
theorem eq_i_WalkOf_c1 (c0 : Int) (c1 : Int) (c2 : Int) (c3 : Int) : execT Try.prog S_i_WalkOf_c1 49 20 (fun _ => 1000000) dec_b [.p [.int .i64 c0], .p [.int .i64 c1], .p [.int .i64 c2], .p [.int .i64 c3]] = Fo_i_WalkOf_c1 c0 c1 c2 c3 := by
  kernel_rfl
def i_WalkOf_c1 (c0 : Int) (c1 : Int) (c2 : Int) (c3 : Int) : Bool :=
  (if (i_isNumber c0 c1) = true then (if (i_isIndex c2) = true then (if (decide (c3 ≥ 0)) = true then decide (c3 ≤ 100) else false) else false) else false)
theorem tot_i_WalkOf_c1 (c0 : Int) (c1 : Int) (c2 : Int) (c3 : Int) : Fo_i_WalkOf_c1 c0 c1 c2 c3 = some (i_WalkOf_c1 c0 c1 c2 c3) := by
  unfold Fo_i_WalkOf_c1 i_WalkOf_c1
  (try simp only [wI_eq])
  repeat' (first | with_reducible rfl | refine ite_opt (fun _ => ?_) (fun _ => ?_) | rfl)
def run_i_WalkOf_c1 : List PV → Option (Bool × List TR)
  | [.p [.int .i64 c0], .p [.int .i64 c1], .p [.int .i64 c2], .p [.int .i64 c3]] => some (true, enc_b (i_WalkOf_c1 c0 c1 c2 c3))
  | _ => none
theorem sound_i_WalkOf_c1 : Sound Try.prog 49 run_i_WalkOf_c1 := by
  refine sound_of de_b SO_i_WalkOf_c1 (by kernel_rfl) Try.func49 Try.ntmps49 rfl (by kernel_rfl) ?_
  intro W pvs avs rs hargs hrun
  unfold run_i_WalkOf_c1 at hrun
  split at hrun
  · simp only [Option.some.injEq, Prod.mk.injEq] at hrun
    obtain ⟨hp, rfl⟩ := hrun
    rename_i c0 c1 c2 c3
    exact ⟨_, _, _, hargs, rfl, (eq_i_WalkOf_c1 c0 c1 c2 c3).trans (tot_i_WalkOf_c1 c0 c1 c2 c3)⟩
  · cases hrun

def S_i_valuesOf : Sums := ⟨tblS [(40, run_i_spreadOf)], tblM []⟩
theorem SO_i_valuesOf : SumsOK Try.prog S_i_valuesOf := ⟨tblS_ok ⟨⟨Try.call40, sound_i_spreadOf⟩, True.intro⟩, tblM_ok True.intro⟩
def T_i_valuesOf_0 (p : Int) (n_ : Int) (l7 : List Int) (m7 : Nat) (j_s : Int) : Tab := ⟨[.val (.int .i64 p), .val (.int .i64 n_), .junk, .junk, .val (.slice none 0 0), .row 28, .val (.int .i64 j_s), .junk, .junk, .junk, .junk, .junk, .junk, .junk, .junk, .junk, .junk, .junk, .junk, .junk, .junk], [(28, .row 2 1 m7 (.ints l7))]⟩
def X_i_valuesOf_0 (P : Program) (fu : Nat) (p : Int) (n_ : Int) (f : Nat) (l7 : List Int) (m7 : Nat) (j_s : Int) : Option (Nat × List Int) := loopK (exec P S_i_valuesOf 21 (fun _ => fu + 100) (Code.sub [1, 1, 0, 1, 0, 0] (bodyF P 57))) f (T_i_valuesOf_0 p n_ l7 m7 j_s) (kBlock 0 (kSeq (fun zs9 => exec P S_i_valuesOf 21 (fun _ => fu + 100) (Code.sub [1, 1, 1] (bodyF P 57)) zs9 (finT P 57 dec_l2_1)) (finT P 57 dec_l2_1)))
def B_i_valuesOf_0 (p : Int) (n_ : Int) (rec0 : (List Int) → Nat → Int → Option (Nat × List Int)) (l7 : List Int) (m7 : Nat) (j_s : Int) : Option (Nat × List Int) :=
  (if (decide (j_s < p)) = true then (if ((Fo_i_spreadOf p n_ j_s).isSome) = true then (if (Nat.ble 1 1 && Nat.ble (m7 + 1) 1000000 && Nat.beq 1 (1)) = true then rec0 (l7 ++ [(i_spreadOf p n_ j_s)]) (m7 + 1) (wI (j_s + 1)) else none) else none) else some (m7, l7))
def L_i_valuesOf_0 (fu : Nat) (p : Int) (n_ : Int) : Nat → (List Int) → Nat → Int → Option (Nat × List Int)
  | 0, _, _, _ => none
  | f + 1, l7, m7, j_s => B_i_valuesOf_0 p n_ (L_i_valuesOf_0 fu p n_ f) l7 m7 j_s
theorem loop_i_valuesOf_0 (fu : Nat) (p : Int) (n_ : Int) : ∀ (f : Nat) (l7 : List Int) (m7 : Nat) (j_s : Int), X_i_valuesOf_0 Try.prog fu p n_ f l7 m7 j_s = L_i_valuesOf_0 fu p n_ f l7 m7 j_s := by
  intro f
  induction f with
  | zero => intros; rfl
  | succ f ih =>
    intro l7 m7 j_s
    have h1 : X_i_valuesOf_0 Try.prog fu p n_ (f + 1) l7 m7 j_s = B_i_valuesOf_0 p n_ (X_i_valuesOf_0 Try.prog fu p n_ f) l7 m7 j_s := by kernel_rfl
    have h2 : X_i_valuesOf_0 Try.prog fu p n_ f = L_i_valuesOf_0 fu p n_ f := by funext l7 m7 j_s; exact ih l7 m7 j_s
    rw [h1, h2]
    rfl
def G_i_valuesOf (p : Int) (n_ : Int) (lo0 : (List Int) → Nat → Int → Option (Nat × List Int)) : Option (Nat × List Int) :=
  lo0 [] 0 0
def Fo_i_valuesOf (fu : Nat) (p : Int) (n_ : Int) : Option (Nat × List Int) := G_i_valuesOf p n_ (L_i_valuesOf_0 fu p n_ (fu + 100))
theorem eqg_i_valuesOf (fu : Nat) (p : Int) (n_ : Int) : execT Try.prog S_i_valuesOf 57 21 (fun _ => fu + 100) dec_l2_1 [.v (.int .i64 p), .v (.int .i64 n_)] = G_i_valuesOf p n_ (L_i_valuesOf_0 fu p n_ (fu + 100)) := by
  have h1 : execT Try.prog S_i_valuesOf 57 21 (fun _ => fu + 100) dec_l2_1 [.v (.int .i64 p), .v (.int .i64 n_)] = G_i_valuesOf p n_ (X_i_valuesOf_0 Try.prog fu p n_ (fu + 100)) := by kernel_rfl
  have c0 : X_i_valuesOf_0 Try.prog fu p n_ (fu + 100) = L_i_valuesOf_0 fu p n_ (fu + 100) := by funext l7 m7 j_s; exact loop_i_valuesOf_0 fu p n_ (fu + 100) l7 m7 j_s
  rw [h1, c0]
theorem eq_i_valuesOf (fu : Nat) (p : Int) (n_ : Int) : execT Try.prog S_i_valuesOf 57 21 (fun _ => fu + 100) dec_l2_1 [.v (.int .i64 p), .v (.int .i64 n_)] = Fo_i_valuesOf fu p n_ := eqg_i_valuesOf fu p n_
def i_valuesOf (p : Int) (n_ : Int) : Nat × List Int := (Fo_i_valuesOf 1000000 p n_).getD (0, [])
theorem tot_i_valuesOf (p : Int) (n_ : Int) (hp : ((Fo_i_valuesOf 1000000 p n_).isSome) = true) : Fo_i_valuesOf 1000000 p n_ = some (i_valuesOf p n_) := of_isSome hp
def run_i_valuesOf : List PV → Option (Bool × List TR)
  | [.v (.int .i64 p), .v (.int .i64 n_)] => some ((Fo_i_valuesOf 1000000 p n_).isSome, enc_l2_1 (i_valuesOf p n_))
  | _ => none
theorem sound_i_valuesOf : Sound Try.prog 57 run_i_valuesOf := by
  refine sound_of de_l2_1 SO_i_valuesOf (by kernel_rfl) Try.func57 Try.ntmps57 rfl (by kernel_rfl) ?_
  intro W pvs avs rs hargs hrun
  unfold run_i_valuesOf at hrun
  split at hrun
  · simp only [Option.some.injEq, Prod.mk.injEq] at hrun
    obtain ⟨hp, rfl⟩ := hrun
    rename_i p n_
    exact ⟨_, _, _, hargs, rfl, (eq_i_valuesOf _ p n_).trans (tot_i_valuesOf p n_ hp)⟩
  · cases hrun

def S_i_walk : Sums := ⟨tblS [(57, run_i_valuesOf)], tblM []⟩
theorem SO_i_walk : SumsOK Try.prog S_i_walk := ⟨tblS_ok ⟨⟨Try.call57, sound_i_valuesOf⟩, True.intro⟩, tblM_ok True.intro⟩
def T_i_walk_0 (p : Int) (n_ : Int) (s : Int) (k : Int) (l15 : List Int) (m15 : Nat) (j_s : Int) (k' : Int) : Tab := ⟨[.val (.int .i64 p), .val (.int .i64 n_), .val (.int .i64 j_s), .val (.int .i64 k'), .junk, .junk, .junk, .junk, .val (.slice none 0 0), .row 52, .row 60, .val (.int .i64 p), .val (.int .i64 n_), .row 52, .val (.int .i64 s), .junk, .junk, .junk, .junk, .junk, .junk, .junk, .junk, .junk, .junk, .junk, .junk, .junk, .junk], [(52, .row 2 1 ((i_valuesOf p n_).1) (.ints ((i_valuesOf p n_).2))), (60, .row 2 1 m15 (.ints l15))]⟩
def X_i_walk_0 (P : Program) (fu : Nat) (p : Int) (n_ : Int) (s : Int) (k : Int) (f : Nat) (l15 : List Int) (m15 : Nat) (j_s : Int) (k' : Int) : Option (Nat × List Int) := loopK (exec P S_i_walk 29 (fun _ => fu + 100) (Code.sub [1, 1, 1, 0, 0, 0] (bodyF P 47))) f (T_i_walk_0 p n_ s k l15 m15 j_s k') (kBlock 0 (kSeq (fun zs9 => exec P S_i_walk 29 (fun _ => fu + 100) (Code.sub [1, 1, 1, 1] (bodyF P 47)) zs9 (finT P 47 dec_l2_1)) (finT P 47 dec_l2_1)))
def B_i_walk_0 (p : Int) (n_ : Int) (s : Int) (k : Int) (rec0 : (List Int) → Nat → Int → Int → Option (Nat × List Int)) (l15 : List Int) (m15 : Nat) (j_s : Int) (k' : Int) : Option (Nat × List Int) :=
  (if (decide (k' > 0)) = true then (if (decide (0 ≤ j_s) && decide (j_s < (((i_valuesOf p n_).1 : Nat) : Int))) = true then (if (Nat.ble (j_s.toNat * 1 + 1) (((i_valuesOf p n_).2).length)) = true then (if (Nat.ble 1 1 && Nat.ble (m15 + 1) 1000000 && Nat.beq 1 (1)) = true then rec0 (l15 ++ [((i_valuesOf p n_).2).getD (j_s.toNat * 1) 0]) (m15 + 1) (((i_valuesOf p n_).2).getD (j_s.toNat * 1) 0) (wI (k' - 1)) else none) else none) else none) else some (m15, l15))
def L_i_walk_0 (fu : Nat) (p : Int) (n_ : Int) (s : Int) (k : Int) : Nat → (List Int) → Nat → Int → Int → Option (Nat × List Int)
  | 0, _, _, _, _ => none
  | f + 1, l15, m15, j_s, k' => B_i_walk_0 p n_ s k (L_i_walk_0 fu p n_ s k f) l15 m15 j_s k'
theorem loop_i_walk_0 (fu : Nat) (p : Int) (n_ : Int) (s : Int) (k : Int) : ∀ (f : Nat) (l15 : List Int) (m15 : Nat) (j_s : Int) (k' : Int), X_i_walk_0 Try.prog fu p n_ s k f l15 m15 j_s k' = L_i_walk_0 fu p n_ s k f l15 m15 j_s k' := by
  intro f
  induction f with
  | zero => intros; rfl
  | succ f ih =>
    intro l15 m15 j_s k'
    have h1 : X_i_walk_0 Try.prog fu p n_ s k (f + 1) l15 m15 j_s k' = B_i_walk_0 p n_ s k (X_i_walk_0 Try.prog fu p n_ s k f) l15 m15 j_s k' := by kernel_rfl
    have h2 : X_i_walk_0 Try.prog fu p n_ s k f = L_i_walk_0 fu p n_ s k f := by funext l15 m15 j_s k'; exact ih l15 m15 j_s k'
    rw [h1, h2]
    rfl
def G_i_walk (p : Int) (n_ : Int) (s : Int) (k : Int) (lo0 : (List Int) → Nat → Int → Int → Option (Nat × List Int)) : Option (Nat × List Int) :=
  (if ((Fo_i_valuesOf 1000000 p n_).isSome) = true then lo0 [s] 1 s k else none)
def Fo_i_walk (fu : Nat) (p : Int) (n_ : Int) (s : Int) (k : Int) : Option (Nat × List Int) := G_i_walk p n_ s k (L_i_walk_0 fu p n_ s k (fu + 100))
theorem eqg_i_walk (fu : Nat) (p : Int) (n_ : Int) (s : Int) (k : Int) : execT Try.prog S_i_walk 47 29 (fun _ => fu + 100) dec_l2_1 [.v (.int .i64 p), .v (.int .i64 n_), .v (.int .i64 s), .v (.int .i64 k)] = G_i_walk p n_ s k (L_i_walk_0 fu p n_ s k (fu + 100)) := by
  have h1 : execT Try.prog S_i_walk 47 29 (fun _ => fu + 100) dec_l2_1 [.v (.int .i64 p), .v (.int .i64 n_), .v (.int .i64 s), .v (.int .i64 k)] = G_i_walk p n_ s k (X_i_walk_0 Try.prog fu p n_ s k (fu + 100)) := by kernel_rfl
  have c0 : X_i_walk_0 Try.prog fu p n_ s k (fu + 100) = L_i_walk_0 fu p n_ s k (fu + 100) := by funext l15 m15 j_s k'; exact loop_i_walk_0 fu p n_ s k (fu + 100) l15 m15 j_s k'
  rw [h1, c0]
theorem eq_i_walk (fu : Nat) (p : Int) (n_ : Int) (s : Int) (k : Int) : execT Try.prog S_i_walk 47 29 (fun _ => fu + 100) dec_l2_1 [.v (.int .i64 p), .v (.int .i64 n_), .v (.int .i64 s), .v (.int .i64 k)] = Fo_i_walk fu p n_ s k := eqg_i_walk fu p n_ s k
def i_walk (p : Int) (n_ : Int) (s : Int) (k : Int) : Nat × List Int := (Fo_i_walk 1000000 p n_ s k).getD (0, [])
theorem tot_i_walk (p : Int) (n_ : Int) (s : Int) (k : Int) (hp : ((Fo_i_walk 1000000 p n_ s k).isSome) = true) : Fo_i_walk 1000000 p n_ s k = some (i_walk p n_ s k) := of_isSome hp
def run_i_walk : List PV → Option (Bool × List TR)
  | [.v (.int .i64 p), .v (.int .i64 n_), .v (.int .i64 s), .v (.int .i64 k)] => some ((Fo_i_walk 1000000 p n_ s k).isSome, enc_l2_1 (i_walk p n_ s k))
  | _ => none
theorem sound_i_walk : Sound Try.prog 47 run_i_walk := by
  refine sound_of de_l2_1 SO_i_walk (by kernel_rfl) Try.func47 Try.ntmps47 rfl (by kernel_rfl) ?_
  intro W pvs avs rs hargs hrun
  unfold run_i_walk at hrun
  split at hrun
  · simp only [Option.some.injEq, Prod.mk.injEq] at hrun
    obtain ⟨hp, rfl⟩ := hrun
    rename_i p n_ s k
    exact ⟨_, _, _, hargs, rfl, (eq_i_walk _ p n_ s k).trans (tot_i_walk p n_ s k hp)⟩
  · cases hrun

def S_i_WalkOf : Sums := ⟨tblS [(27, run_i_asked), (49, run_i_WalkOf_c1), (47, run_i_walk)], tblM []⟩
theorem SO_i_WalkOf : SumsOK Try.prog S_i_WalkOf := ⟨tblS_ok ⟨⟨Try.call27, sound_i_asked⟩, ⟨Try.call49, sound_i_WalkOf_c1⟩, ⟨Try.call47, sound_i_walk⟩, True.intro⟩, tblM_ok True.intro⟩
def Fo_i_WalkOf (p : Int) (n_ : Int) (s : Int) (k : Int) : Option ((Nat × List Int) × Int) :=
  (if ((true) || !(i_IsField p)) = true then (if ((i_asked p (true) (i_WalkOf_c1 p s n_ k)) != 0) = true then some ((0, []), (i_asked p (true) (i_WalkOf_c1 p s n_ k))) else (if ((Fo_i_walk 1000000 p n_ s k).isSome) = true then some (((i_walk p n_ s k).1, (i_walk p n_ s k).2), 0) else none)) else none)
theorem eq_i_WalkOf (p : Int) (n_ : Int) (s : Int) (k : Int) : execT Try.prog S_i_WalkOf 21 22 (fun _ => 1000000) dec_l2_1_i [.v (.int .i64 p), .v (.int .i64 n_), .v (.int .i64 s), .v (.int .i64 k)] = Fo_i_WalkOf p n_ s k := by
  kernel_rfl
def ok_i_WalkOf : (Int) → (Int) → (Int) → (Int) → (Bool) := shut fun (p : Int) (n_ : Int) (s : Int) (k : Int) => (Fo_i_WalkOf p n_ s k).isSome
def i_WalkOf : (Int) → (Int) → (Int) → (Int) → ((Nat × List Int) × Int) := shut fun (p : Int) (n_ : Int) (s : Int) (k : Int) => (Fo_i_WalkOf p n_ s k).getD ((0, []), 0)
theorem ok_i_WalkOf_of {p : Int} {n_ : Int} {s : Int} {k : Int} {r : (Nat × List Int) × Int} (e : Fo_i_WalkOf p n_ s k = some r) : ok_i_WalkOf p n_ s k = true := by
  unfold ok_i_WalkOf
  rw [shut_eq, e]
  rfl
theorem i_WalkOf_of {p : Int} {n_ : Int} {s : Int} {k : Int} {r : (Nat × List Int) × Int} (e : Fo_i_WalkOf p n_ s k = some r) : i_WalkOf p n_ s k = r := by
  unfold i_WalkOf
  rw [shut_eq, e]
  rfl
theorem tot_i_WalkOf (p : Int) (n_ : Int) (s : Int) (k : Int) (hp : (ok_i_WalkOf p n_ s k) = true) : Fo_i_WalkOf p n_ s k = some (i_WalkOf p n_ s k) := by
  unfold ok_i_WalkOf at hp
  rw [shut_eq] at hp
  unfold i_WalkOf
  rw [shut_eq]
  exact of_isSome hp
def run_i_WalkOf : List PV → Option (Bool × List TR)
  | [.v (.int .i64 p), .v (.int .i64 n_), .v (.int .i64 s), .v (.int .i64 k)] => some (ok_i_WalkOf p n_ s k, enc_l2_1_i (i_WalkOf p n_ s k))
  | _ => none
theorem sound_i_WalkOf : Sound Try.prog 21 run_i_WalkOf := by
  refine sound_of de_l2_1_i SO_i_WalkOf (by kernel_rfl) Try.func21 Try.ntmps21 rfl (by kernel_rfl) ?_
  intro W pvs avs rs hargs hrun
  unfold run_i_WalkOf at hrun
  split at hrun
  · simp only [Option.some.injEq, Prod.mk.injEq] at hrun
    obtain ⟨hp, rfl⟩ := hrun
    rename_i p n_ s k
    exact ⟨_, _, _, hargs, rfl, (eq_i_WalkOf p n_ s k).trans (tot_i_WalkOf p n_ s k hp)⟩
  · cases hrun

def S_i_WalkRound_c1 : Sums := ⟨tblS [(29, run_i_isNumber), (39, run_i_isIndex)], tblM []⟩
theorem SO_i_WalkRound_c1 : SumsOK Try.prog S_i_WalkRound_c1 := ⟨tblS_ok ⟨⟨Try.call29, sound_i_isNumber⟩, ⟨Try.call39, sound_i_isIndex⟩, True.intro⟩, tblM_ok True.intro⟩
def Fo_i_WalkRound_c1 (c0 : Int) (c1 : Int) (c2 : Int) : Option (Bool) :=
  (if (i_isNumber c0 c1) = true then some (i_isIndex c2) else some false)
theorem eq_i_WalkRound_c1 (c0 : Int) (c1 : Int) (c2 : Int) : execT Try.prog S_i_WalkRound_c1 46 11 (fun _ => 1000000) dec_b [.p [.int .i64 c0], .p [.int .i64 c1], .p [.int .i64 c2]] = Fo_i_WalkRound_c1 c0 c1 c2 := by
  kernel_rfl
def i_WalkRound_c1 (c0 : Int) (c1 : Int) (c2 : Int) : Bool :=
  (if (i_isNumber c0 c1) = true then (i_isIndex c2) else false)
theorem tot_i_WalkRound_c1 (c0 : Int) (c1 : Int) (c2 : Int) : Fo_i_WalkRound_c1 c0 c1 c2 = some (i_WalkRound_c1 c0 c1 c2) := by
  unfold Fo_i_WalkRound_c1 i_WalkRound_c1
  (try simp only [wI_eq])
  repeat' (first | with_reducible rfl | refine ite_opt (fun _ => ?_) (fun _ => ?_) | rfl)
def run_i_WalkRound_c1 : List PV → Option (Bool × List TR)
  | [.p [.int .i64 c0], .p [.int .i64 c1], .p [.int .i64 c2]] => some (true, enc_b (i_WalkRound_c1 c0 c1 c2))
  | _ => none
theorem sound_i_WalkRound_c1 : Sound Try.prog 46 run_i_WalkRound_c1 := by
  refine sound_of de_b SO_i_WalkRound_c1 (by kernel_rfl) Try.func46 Try.ntmps46 rfl (by kernel_rfl) ?_
  intro W pvs avs rs hargs hrun
  unfold run_i_WalkRound_c1 at hrun
  split at hrun
  · simp only [Option.some.injEq, Prod.mk.injEq] at hrun
    obtain ⟨hp, rfl⟩ := hrun
    rename_i c0 c1 c2
    exact ⟨_, _, _, hargs, rfl, (eq_i_WalkRound_c1 c0 c1 c2).trans (tot_i_WalkRound_c1 c0 c1 c2)⟩
  · cases hrun

def S_i_WalkRound : Sums := ⟨tblS [(27, run_i_asked), (46, run_i_WalkRound_c1), (47, run_i_walk)], tblM []⟩
theorem SO_i_WalkRound : SumsOK Try.prog S_i_WalkRound := ⟨tblS_ok ⟨⟨Try.call27, sound_i_asked⟩, ⟨Try.call46, sound_i_WalkRound_c1⟩, ⟨Try.call47, sound_i_walk⟩, True.intro⟩, tblM_ok True.intro⟩
def T_i_WalkRound_2 (p : Int) (n_ : Int) (s : Int) (t28 : Int) : Tab := ⟨[.val (.int .i64 p), .val (.int .i64 n_), .val (.int .i64 s), .ptr 12 0, .ptr 16 0, .ptr 20 0, .val (.int .i64 0), .val (.int .i64 0), .val (.int .i64 0), .val (.int .i64 (i_asked p (true) (i_WalkRound_c1 p s n_))), .row 100, .junk, .junk, .val (.int .i64 p), .clo 46 [12, 20, 16], .val (.int .i64 (i_asked p (true) (i_WalkRound_c1 p s n_))), .val (.int .i64 (i_asked p (true) (i_WalkRound_c1 p s n_))), .val (.bool ((i_asked p (true) (i_WalkRound_c1 p s n_)) != 0)), .junk, .val (.int .i64 p), .val (.int .i64 n_), .val (.int .i64 s), .val (.int .i64 p), .val (.int .i64 (wI (2 * p))), .val (.int .i64 (wI ((wI (2 * p)) + 2))), .row 100, .row 100, .val (.int .i64 (((i_walk p n_ s (wI ((wI (2 * p)) + 2))).1 : Nat) : Int)), .val (.int .i64 t28), .junk, .junk, .junk, .junk, .junk, .junk, .junk, .junk, .junk, .junk, .junk, .junk, .junk, .junk, .junk, .junk, .junk, .junk, .junk, .junk, .junk, .junk, .junk, .junk], [(12, .box 2 [.val (.int .i64 p)]), (16, .box 2 [.val (.int .i64 n_)]), (20, .box 2 [.val (.int .i64 s)]), (100, .row 2 1 ((i_walk p n_ s (wI ((wI (2 * p)) + 2))).1) (.ints ((i_walk p n_ s (wI ((wI (2 * p)) + 2))).2)))]⟩
def T_i_WalkRound_3 (p : Int) (n_ : Int) (s : Int) (t28 : Int) (k : Int) : Tab := ⟨[.val (.int .i64 p), .val (.int .i64 n_), .val (.int .i64 s), .ptr 12 0, .ptr 16 0, .ptr 20 0, .val (.int .i64 0), .val (.int .i64 0), .val (.int .i64 0), .val (.int .i64 (i_asked p (true) (i_WalkRound_c1 p s n_))), .row 100, .val (.int .i64 t28), .val (.int .i64 k), .val (.int .i64 p), .clo 46 [12, 20, 16], .val (.int .i64 (i_asked p (true) (i_WalkRound_c1 p s n_))), .val (.int .i64 (i_asked p (true) (i_WalkRound_c1 p s n_))), .val (.bool ((i_asked p (true) (i_WalkRound_c1 p s n_)) != 0)), .junk, .val (.int .i64 p), .val (.int .i64 n_), .val (.int .i64 s), .val (.int .i64 p), .val (.int .i64 (wI (2 * p))), .val (.int .i64 (wI ((wI (2 * p)) + 2))), .row 100, .row 100, .val (.int .i64 (((i_walk p n_ s (wI ((wI (2 * p)) + 2))).1 : Nat) : Int)), .val (.int .i64 t28), .val (.bool (decide (t28 < (((i_walk p n_ s (wI ((wI (2 * p)) + 2))).1 : Nat) : Int)))), .val (.int .i64 t28), .val (.int .i64 t28), .val (.int .i64 (wI (t28 + 1))), .junk, .junk, .junk, .junk, .junk, .junk, .junk, .junk, .junk, .junk, .junk, .junk, .junk, .junk, .junk, .junk, .junk, .junk, .junk, .junk], [(12, .box 2 [.val (.int .i64 p)]), (16, .box 2 [.val (.int .i64 n_)]), (20, .box 2 [.val (.int .i64 s)]), (100, .row 2 1 ((i_walk p n_ s (wI ((wI (2 * p)) + 2))).1) (.ints ((i_walk p n_ s (wI ((wI (2 * p)) + 2))).2)))]⟩
def X_i_WalkRound_3 (P : Program) (fu : Nat) (p : Int) (n_ : Int) (s : Int) (t28 : Int) (rc2 : Tab → Option (Int × Int × Int)) (f : Nat) (k : Int) : Option (Int × Int × Int) := loopK (exec P S_i_WalkRound 53 (fun _ => fu + 100) (Code.sub [1, 1, 1, 0, 1, 0, 0, 1, 1, 0, 0, 1, 1, 0, 0] (bodyF P 19))) f (T_i_WalkRound_3 p n_ s t28 k) (kBlock 2 (kBlock 1 (kSeq (fun zs9 => exec P S_i_WalkRound 53 (fun _ => fu + 100) (Code.sub [1, 1, 1, 0, 1, 0, 0, 1, 1, 1] (bodyF P 19)) zs9 (kLoop rc2 (T_i_WalkRound_2 p n_ s t28) (kBlock 0 (kSeq (fun zs9 => exec P S_i_WalkRound 53 (fun _ => fu + 100) (Code.sub [1, 1, 1, 1] (bodyF P 19)) zs9 (finT P 19 dec_i_i_i)) (finT P 19 dec_i_i_i))))) (kLoop rc2 (T_i_WalkRound_2 p n_ s t28) (kBlock 0 (kSeq (fun zs9 => exec P S_i_WalkRound 53 (fun _ => fu + 100) (Code.sub [1, 1, 1, 1] (bodyF P 19)) zs9 (finT P 19 dec_i_i_i)) (finT P 19 dec_i_i_i)))))))
def B_i_WalkRound_3 (p : Int) (n_ : Int) (s : Int) (t28 : Int) (rec2 : Int → Option (Int × Int × Int)) (rec3 : Int → Option (Int × Int × Int)) (k : Int) : Option (Int × Int × Int) :=
  (if (decide (k < (((i_walk p n_ s (wI ((wI (2 * p)) + 2))).1 : Nat) : Int))) = true then (if (decide (0 ≤ k) && decide (k < (((i_walk p n_ s (wI ((wI (2 * p)) + 2))).1 : Nat) : Int))) = true then (if (Nat.ble (k.toNat * 1 + 1) (((i_walk p n_ s (wI ((wI (2 * p)) + 2))).2).length)) = true then (if (decide (0 ≤ t28) && decide (t28 < (((i_walk p n_ s (wI ((wI (2 * p)) + 2))).1 : Nat) : Int))) = true then (if (Nat.ble (t28.toNat * 1 + 1) (((i_walk p n_ s (wI ((wI (2 * p)) + 2))).2).length)) = true then (if ((((i_walk p n_ s (wI ((wI (2 * p)) + 2))).2).getD (k.toNat * 1) 0) == (((i_walk p n_ s (wI ((wI (2 * p)) + 2))).2).getD (t28.toNat * 1) 0)) = true then some (t28, wI (k - t28), 0) else rec3 (wI (k + 1))) else none) else none) else none) else none) else rec2 (wI (t28 + 1)))
def L_i_WalkRound_3 (fu : Nat) (p : Int) (n_ : Int) (s : Int) (t28 : Int) (rec2 : Int → Option (Int × Int × Int)) : Nat → Int → Option (Int × Int × Int)
  | 0, _ => none
  | f + 1, k => B_i_WalkRound_3 p n_ s t28 rec2 (L_i_WalkRound_3 fu p n_ s t28 rec2 f) k
theorem loop_i_WalkRound_3 (fu : Nat) (p : Int) (n_ : Int) (s : Int) (t28 : Int) (rc2 : Tab → Option (Int × Int × Int)) : ∀ (f : Nat) (k : Int), X_i_WalkRound_3 Try.prog fu p n_ s t28 rc2 f k = L_i_WalkRound_3 fu p n_ s t28 (fun t28 => rc2 (T_i_WalkRound_2 p n_ s t28)) f k := by
  intro f
  induction f with
  | zero => intros; rfl
  | succ f ih =>
    intro k
    have h1 : X_i_WalkRound_3 Try.prog fu p n_ s t28 rc2 (f + 1) k = B_i_WalkRound_3 p n_ s t28 (fun t28 => rc2 (T_i_WalkRound_2 p n_ s t28)) (X_i_WalkRound_3 Try.prog fu p n_ s t28 rc2 f) k := by kernel_rfl
    have h2 : X_i_WalkRound_3 Try.prog fu p n_ s t28 rc2 f = L_i_WalkRound_3 fu p n_ s t28 (fun t28 => rc2 (T_i_WalkRound_2 p n_ s t28)) f := by funext k; exact ih k
    rw [h1, h2]
    rfl
def X_i_WalkRound_2 (P : Program) (fu : Nat) (p : Int) (n_ : Int) (s : Int) (f : Nat) (t28 : Int) : Option (Int × Int × Int) := loopK (exec P S_i_WalkRound 53 (fun _ => fu + 100) (Code.sub [1, 1, 1, 0, 1, 0, 0] (bodyF P 19))) f (T_i_WalkRound_2 p n_ s t28) (kBlock 0 (kSeq (fun zs9 => exec P S_i_WalkRound 53 (fun _ => fu + 100) (Code.sub [1, 1, 1, 1] (bodyF P 19)) zs9 (finT P 19 dec_i_i_i)) (finT P 19 dec_i_i_i)))
def B_i_WalkRound_2 (p : Int) (n_ : Int) (s : Int) (lo3 : Int → Option (Int × Int × Int)) (rec2 : Int → Option (Int × Int × Int)) (t28 : Int) : Option (Int × Int × Int) :=
  (if (decide (t28 < (((i_walk p n_ s (wI ((wI (2 * p)) + 2))).1 : Nat) : Int))) = true then lo3 (wI (t28 + 1)) else some (0, 0, 0))
def L_i_WalkRound_2 (fu : Nat) (p : Int) (n_ : Int) (s : Int) : Nat → Int → Option (Int × Int × Int)
  | 0, _ => none
  | f + 1, t28 => B_i_WalkRound_2 p n_ s (L_i_WalkRound_3 fu p n_ s t28 (L_i_WalkRound_2 fu p n_ s f) (fu + 100)) (L_i_WalkRound_2 fu p n_ s f) t28
theorem loop_i_WalkRound_2 (fu : Nat) (p : Int) (n_ : Int) (s : Int) : ∀ (f : Nat) (t28 : Int), X_i_WalkRound_2 Try.prog fu p n_ s f t28 = L_i_WalkRound_2 fu p n_ s f t28 := by
  intro f
  induction f with
  | zero => intros; rfl
  | succ f ih =>
    intro t28
    have h1 : X_i_WalkRound_2 Try.prog fu p n_ s (f + 1) t28 = B_i_WalkRound_2 p n_ s (X_i_WalkRound_3 Try.prog fu p n_ s t28 (fun t => loopK (exec Try.prog S_i_WalkRound 53 (fun _ => fu + 100) (Code.sub [1, 1, 1, 0, 1, 0, 0] (bodyF Try.prog 19))) f t (kBlock 0 (kSeq (fun zs9 => exec Try.prog S_i_WalkRound 53 (fun _ => fu + 100) (Code.sub [1, 1, 1, 1] (bodyF Try.prog 19)) zs9 (finT Try.prog 19 dec_i_i_i)) (finT Try.prog 19 dec_i_i_i)))) (fu + 100)) (X_i_WalkRound_2 Try.prog fu p n_ s f) t28 := by kernel_rfl
    have h2 : X_i_WalkRound_2 Try.prog fu p n_ s f = L_i_WalkRound_2 fu p n_ s f := by funext t28; exact ih t28
    have c3 : (X_i_WalkRound_3 Try.prog fu p n_ s t28 (fun t => loopK (exec Try.prog S_i_WalkRound 53 (fun _ => fu + 100) (Code.sub [1, 1, 1, 0, 1, 0, 0] (bodyF Try.prog 19))) f t (kBlock 0 (kSeq (fun zs9 => exec Try.prog S_i_WalkRound 53 (fun _ => fu + 100) (Code.sub [1, 1, 1, 1] (bodyF Try.prog 19)) zs9 (finT Try.prog 19 dec_i_i_i)) (finT Try.prog 19 dec_i_i_i)))) (fu + 100)) = L_i_WalkRound_3 fu p n_ s t28 (X_i_WalkRound_2 Try.prog fu p n_ s f) (fu + 100) := by funext k; exact loop_i_WalkRound_3 fu p n_ s t28 (fun t => loopK (exec Try.prog S_i_WalkRound 53 (fun _ => fu + 100) (Code.sub [1, 1, 1, 0, 1, 0, 0] (bodyF Try.prog 19))) f t (kBlock 0 (kSeq (fun zs9 => exec Try.prog S_i_WalkRound 53 (fun _ => fu + 100) (Code.sub [1, 1, 1, 1] (bodyF Try.prog 19)) zs9 (finT Try.prog 19 dec_i_i_i)) (finT Try.prog 19 dec_i_i_i)))) (fu + 100) k
    rw [h1, c3, h2]
    rfl
def G_i_WalkRound (p : Int) (n_ : Int) (s : Int) (lo2 : Int → Option (Int × Int × Int)) : Option (Int × Int × Int) :=
  (if ((true) || !(i_IsField p)) = true then (if ((i_asked p (true) (i_WalkRound_c1 p s n_)) != 0) = true then some (0, 0, (i_asked p (true) (i_WalkRound_c1 p s n_))) else (if ((Fo_i_walk 1000000 p n_ s (wI ((wI (2 * p)) + 2))).isSome) = true then lo2 0 else none)) else none)
def Fo_i_WalkRound (fu : Nat) (p : Int) (n_ : Int) (s : Int) : Option (Int × Int × Int) := G_i_WalkRound p n_ s (L_i_WalkRound_2 fu p n_ s (fu + 100))
theorem eqg_i_WalkRound (fu : Nat) (p : Int) (n_ : Int) (s : Int) : execT Try.prog S_i_WalkRound 19 53 (fun _ => fu + 100) dec_i_i_i [.v (.int .i64 p), .v (.int .i64 n_), .v (.int .i64 s)] = G_i_WalkRound p n_ s (L_i_WalkRound_2 fu p n_ s (fu + 100)) := by
  have h1 : execT Try.prog S_i_WalkRound 19 53 (fun _ => fu + 100) dec_i_i_i [.v (.int .i64 p), .v (.int .i64 n_), .v (.int .i64 s)] = G_i_WalkRound p n_ s (X_i_WalkRound_2 Try.prog fu p n_ s (fu + 100)) := by kernel_rfl
  have c2 : X_i_WalkRound_2 Try.prog fu p n_ s (fu + 100) = L_i_WalkRound_2 fu p n_ s (fu + 100) := by funext t28; exact loop_i_WalkRound_2 fu p n_ s (fu + 100) t28
  rw [h1, c2]
theorem eq_i_WalkRound (fu : Nat) (p : Int) (n_ : Int) (s : Int) : execT Try.prog S_i_WalkRound 19 53 (fun _ => fu + 100) dec_i_i_i [.v (.int .i64 p), .v (.int .i64 n_), .v (.int .i64 s)] = Fo_i_WalkRound fu p n_ s := eqg_i_WalkRound fu p n_ s
def ok_i_WalkRound : (Int) → (Int) → (Int) → (Bool) := shut fun (p : Int) (n_ : Int) (s : Int) => (Fo_i_WalkRound 1000000 p n_ s).isSome
def i_WalkRound : (Int) → (Int) → (Int) → (Int × Int × Int) := shut fun (p : Int) (n_ : Int) (s : Int) => (Fo_i_WalkRound 1000000 p n_ s).getD (0, 0, 0)
theorem ok_i_WalkRound_of {p : Int} {n_ : Int} {s : Int} {r : Int × Int × Int} (e : Fo_i_WalkRound 1000000 p n_ s = some r) : ok_i_WalkRound p n_ s = true := by
  unfold ok_i_WalkRound
  rw [shut_eq, e]
  rfl
theorem i_WalkRound_of {p : Int} {n_ : Int} {s : Int} {r : Int × Int × Int} (e : Fo_i_WalkRound 1000000 p n_ s = some r) : i_WalkRound p n_ s = r := by
  unfold i_WalkRound
  rw [shut_eq, e]
  rfl
theorem tot_i_WalkRound (p : Int) (n_ : Int) (s : Int) (hp : (ok_i_WalkRound p n_ s) = true) : Fo_i_WalkRound 1000000 p n_ s = some (i_WalkRound p n_ s) := by
  unfold ok_i_WalkRound at hp
  rw [shut_eq] at hp
  unfold i_WalkRound
  rw [shut_eq]
  exact of_isSome hp
def run_i_WalkRound : List PV → Option (Bool × List TR)
  | [.v (.int .i64 p), .v (.int .i64 n_), .v (.int .i64 s)] => some (ok_i_WalkRound p n_ s, enc_i_i_i (i_WalkRound p n_ s))
  | _ => none
theorem sound_i_WalkRound : Sound Try.prog 19 run_i_WalkRound := by
  refine sound_of de_i_i_i SO_i_WalkRound (by kernel_rfl) Try.func19 Try.ntmps19 rfl (by kernel_rfl) ?_
  intro W pvs avs rs hargs hrun
  unfold run_i_WalkRound at hrun
  split at hrun
  · simp only [Option.some.injEq, Prod.mk.injEq] at hrun
    obtain ⟨hp, rfl⟩ := hrun
    rename_i p n_ s
    exact ⟨_, _, _, hargs, rfl, (eq_i_WalkRound _ p n_ s).trans (tot_i_WalkRound p n_ s hp)⟩
  · cases hrun


end

end Go.Proofs.Ytjdpbaefonekmaa
