import Derived.Test.YtjdpbaefonekmaaFa
import Derived.Test.YtjdpbaefonekmaaProg
set_option linter.unusedSimpArgs false
set_option linter.unusedVariables false
namespace Go.Proofs.Ytjdpbaefonekmaa
open Go.RowKit
noncomputable section
def S_s_l05Value : Sums := ⟨tblS [(54, run_s_l01Mod)], tblM []⟩
theorem SO_s_l05Value : SumsOK Try.prog S_s_l05Value := ⟨tblS_ok ⟨⟨Try.call54, sound_s_l01Mod⟩, True.intro⟩, tblM_ok True.intro⟩
def T_s_l05Value_0 (p : Int) (n_ : Int) (s : Int) (j_n : Int) (a : Int) (b : Int) : Tab := ⟨[.val (.int .i64 p), .val (.int .i64 j_n), .val (.int .i64 s), .junk, .junk, .junk, .val (.int .i64 0), .val (.int .i64 a), .val (.int .i64 b), .junk, .val (.int .i64 s), .junk, .junk, .junk, .junk, .junk, .junk, .junk, .junk, .junk, .junk, .junk, .junk, .junk, .junk, .junk, .junk, .junk, .junk, .junk, .junk, .junk, .junk], []⟩
def X_s_l05Value_0 (P : Program) (fu : Nat) (p : Int) (n_ : Int) (s : Int) (f : Nat) (j_n : Int) (a : Int) (b : Int) : Option (Int) := loopK (exec P S_s_l05Value 33 (fun _ => fu + 100) (Code.sub [1, 1, 0, 0, 0] (bodyF P 34))) f (T_s_l05Value_0 p n_ s j_n a b) (kBlock 0 (kSeq (fun zs9 => exec P S_s_l05Value 33 (fun _ => fu + 100) (Code.sub [1, 1, 1] (bodyF P 34)) zs9 (finT P 34 dec_i)) (finT P 34 dec_i)))
def B_s_l05Value_0 (p : Int) (n_ : Int) (s : Int) (rec0 : Int → Int → Int → Option (Int)) (j_n : Int) (a : Int) (b : Int) : Option (Int) :=
  (if (decide (j_n > 0)) = true then (if (!(p == 0)) = true then (if (prB p) = true then rec0 (wI (j_n - 1)) b (s_l01Mod (wI ((wI ((wI (((wI (2 * (wI (1 - (wI (2 * s)))))).tmod p) * b)) - a)) + (wI (2 * s)))) p) else none) else none) else some a)
def L_s_l05Value_0 (fu : Nat) (p : Int) (n_ : Int) (s : Int) : Nat → Int → Int → Int → Option (Int)
  | 0, _, _, _ => none
  | f + 1, j_n, a, b => B_s_l05Value_0 p n_ s (L_s_l05Value_0 fu p n_ s f) j_n a b
theorem loop_s_l05Value_0 (fu : Nat) (p : Int) (n_ : Int) (s : Int) : ∀ (f : Nat) (j_n : Int) (a : Int) (b : Int), X_s_l05Value_0 Try.prog fu p n_ s f j_n a b = L_s_l05Value_0 fu p n_ s f j_n a b := by
  intro f
  induction f with
  | zero => intros; rfl
  | succ f ih =>
    intro j_n a b
    have h1 : X_s_l05Value_0 Try.prog fu p n_ s (f + 1) j_n a b = B_s_l05Value_0 p n_ s (X_s_l05Value_0 Try.prog fu p n_ s f) j_n a b := by kernel_rfl
    have h2 : X_s_l05Value_0 Try.prog fu p n_ s f = L_s_l05Value_0 fu p n_ s f := by funext j_n a b; exact ih j_n a b
    rw [h1, h2]
    rfl
def G_s_l05Value (p : Int) (n_ : Int) (s : Int) (lo0 : Int → Int → Int → Option (Int)) : Option (Int) :=
  lo0 n_ 0 s
def Fo_s_l05Value (fu : Nat) (p : Int) (n_ : Int) (s : Int) : Option (Int) := G_s_l05Value p n_ s (L_s_l05Value_0 fu p n_ s (fu + 100))
theorem eqg_s_l05Value (fu : Nat) (p : Int) (n_ : Int) (s : Int) : execT Try.prog S_s_l05Value 34 33 (fun _ => fu + 100) dec_i [.v (.int .i64 p), .v (.int .i64 n_), .v (.int .i64 s)] = G_s_l05Value p n_ s (L_s_l05Value_0 fu p n_ s (fu + 100)) := by
  have h1 : execT Try.prog S_s_l05Value 34 33 (fun _ => fu + 100) dec_i [.v (.int .i64 p), .v (.int .i64 n_), .v (.int .i64 s)] = G_s_l05Value p n_ s (X_s_l05Value_0 Try.prog fu p n_ s (fu + 100)) := by kernel_rfl
  have c0 : X_s_l05Value_0 Try.prog fu p n_ s (fu + 100) = L_s_l05Value_0 fu p n_ s (fu + 100) := by funext j_n a b; exact loop_s_l05Value_0 fu p n_ s (fu + 100) j_n a b
  rw [h1, c0]
theorem eq_s_l05Value (fu : Nat) (p : Int) (n_ : Int) (s : Int) : execT Try.prog S_s_l05Value 34 33 (fun _ => fu + 100) dec_i [.v (.int .i64 p), .v (.int .i64 n_), .v (.int .i64 s)] = Fo_s_l05Value fu p n_ s := eqg_s_l05Value fu p n_ s
def s_l05Value (p : Int) (n_ : Int) (s : Int) : Int := (Fo_s_l05Value 1000000 p n_ s).getD 0
theorem tot_s_l05Value (p : Int) (n_ : Int) (s : Int) (hp : ((Fo_s_l05Value 1000000 p n_ s).isSome) = true) : Fo_s_l05Value 1000000 p n_ s = some (s_l05Value p n_ s) := of_isSome hp
def run_s_l05Value : List PV → Option (Bool × List TR)
  | [.v (.int .i64 p), .v (.int .i64 n_), .v (.int .i64 s)] => some ((Fo_s_l05Value 1000000 p n_ s).isSome, enc_i (s_l05Value p n_ s))
  | _ => none
theorem sound_s_l05Value : Sound Try.prog 34 run_s_l05Value := by
  refine sound_of de_i SO_s_l05Value (by kernel_rfl) Try.func34 Try.ntmps34 rfl (by kernel_rfl) ?_
  intro W pvs avs rs hargs hrun
  unfold run_s_l05Value at hrun
  split at hrun
  · simp only [Option.some.injEq, Prod.mk.injEq] at hrun
    obtain ⟨hp, rfl⟩ := hrun
    rename_i p n_ s
    exact ⟨_, _, _, hargs, rfl, (eq_s_l05Value _ p n_ s).trans (tot_s_l05Value p n_ s hp)⟩
  · cases hrun

def S_s_l05Order : Sums := ⟨tblS [(34, run_s_l05Value)], tblM []⟩
theorem SO_s_l05Order : SumsOK Try.prog S_s_l05Order := ⟨tblS_ok ⟨⟨Try.call34, sound_s_l05Value⟩, True.intro⟩, tblM_ok True.intro⟩
def T_s_l05Order_0 (p : Int) (s : Int) (j_n : Int) : Tab := ⟨[.val (.int .i64 p), .val (.int .i64 s), .junk, .junk, .val (.int .i64 0), .val (.int .i64 j_n), .junk, .junk, .junk, .junk, .junk, .junk, .junk, .junk], []⟩
def X_s_l05Order_0 (P : Program) (fu : Nat) (p : Int) (s : Int) (f : Nat) (j_n : Int) : Option (Int) := loopK (exec P S_s_l05Order 14 (fun _ => fu + 100) (Code.sub [1, 1, 0, 0, 0] (bodyF P 32))) f (T_s_l05Order_0 p s j_n) (kBlock 0 (kSeq (fun zs9 => exec P S_s_l05Order 14 (fun _ => fu + 100) (Code.sub [1, 1, 1] (bodyF P 32)) zs9 (finT P 32 dec_i)) (finT P 32 dec_i)))
def B_s_l05Order_0 (p : Int) (s : Int) (rec0 : Int → Option (Int)) (j_n : Int) : Option (Int) :=
  (if ((Fo_s_l05Value 1000000 p j_n s).isSome) = true then (if ((s_l05Value p j_n s) != 0) = true then rec0 (wI (j_n + 1)) else some j_n) else none)
def L_s_l05Order_0 (fu : Nat) (p : Int) (s : Int) : Nat → Int → Option (Int)
  | 0, _ => none
  | f + 1, j_n => B_s_l05Order_0 p s (L_s_l05Order_0 fu p s f) j_n
theorem loop_s_l05Order_0 (fu : Nat) (p : Int) (s : Int) : ∀ (f : Nat) (j_n : Int), X_s_l05Order_0 Try.prog fu p s f j_n = L_s_l05Order_0 fu p s f j_n := by
  intro f
  induction f with
  | zero => intros; rfl
  | succ f ih =>
    intro j_n
    have h1 : X_s_l05Order_0 Try.prog fu p s (f + 1) j_n = B_s_l05Order_0 p s (X_s_l05Order_0 Try.prog fu p s f) j_n := by kernel_rfl
    have h2 : X_s_l05Order_0 Try.prog fu p s f = L_s_l05Order_0 fu p s f := by funext j_n; exact ih j_n
    rw [h1, h2]
    rfl
def G_s_l05Order (p : Int) (s : Int) (lo0 : Int → Option (Int)) : Option (Int) :=
  lo0 1
def Fo_s_l05Order (fu : Nat) (p : Int) (s : Int) : Option (Int) := G_s_l05Order p s (L_s_l05Order_0 fu p s (fu + 100))
theorem eqg_s_l05Order (fu : Nat) (p : Int) (s : Int) : execT Try.prog S_s_l05Order 32 14 (fun _ => fu + 100) dec_i [.v (.int .i64 p), .v (.int .i64 s)] = G_s_l05Order p s (L_s_l05Order_0 fu p s (fu + 100)) := by
  have h1 : execT Try.prog S_s_l05Order 32 14 (fun _ => fu + 100) dec_i [.v (.int .i64 p), .v (.int .i64 s)] = G_s_l05Order p s (X_s_l05Order_0 Try.prog fu p s (fu + 100)) := by kernel_rfl
  have c0 : X_s_l05Order_0 Try.prog fu p s (fu + 100) = L_s_l05Order_0 fu p s (fu + 100) := by funext j_n; exact loop_s_l05Order_0 fu p s (fu + 100) j_n
  rw [h1, c0]
theorem eq_s_l05Order (fu : Nat) (p : Int) (s : Int) : execT Try.prog S_s_l05Order 32 14 (fun _ => fu + 100) dec_i [.v (.int .i64 p), .v (.int .i64 s)] = Fo_s_l05Order fu p s := eqg_s_l05Order fu p s
def s_l05Order (p : Int) (s : Int) : Int := (Fo_s_l05Order 1000000 p s).getD 0
theorem tot_s_l05Order (p : Int) (s : Int) (hp : ((Fo_s_l05Order 1000000 p s).isSome) = true) : Fo_s_l05Order 1000000 p s = some (s_l05Order p s) := of_isSome hp
def run_s_l05Order : List PV → Option (Bool × List TR)
  | [.v (.int .i64 p), .v (.int .i64 s)] => some ((Fo_s_l05Order 1000000 p s).isSome, enc_i (s_l05Order p s))
  | _ => none
theorem sound_s_l05Order : Sound Try.prog 32 run_s_l05Order := by
  refine sound_of de_i SO_s_l05Order (by kernel_rfl) Try.func32 Try.ntmps32 rfl (by kernel_rfl) ?_
  intro W pvs avs rs hargs hrun
  unfold run_s_l05Order at hrun
  split at hrun
  · simp only [Option.some.injEq, Prod.mk.injEq] at hrun
    obtain ⟨hp, rfl⟩ := hrun
    rename_i p s
    exact ⟨_, _, _, hargs, rfl, (eq_s_l05Order _ p s).trans (tot_s_l05Order p s hp)⟩
  · cases hrun

def S_s_OrderOfSpread : Sums := ⟨tblS [(31, run_s_l01Numbers), (32, run_s_l05Order)], tblM []⟩
theorem SO_s_OrderOfSpread : SumsOK Try.prog S_s_OrderOfSpread := ⟨tblS_ok ⟨⟨Try.call31, sound_s_l01Numbers⟩, ⟨Try.call32, sound_s_l05Order⟩, True.intro⟩, tblM_ok True.intro⟩
def Fo_s_OrderOfSpread (p : Int) (s : Int) : Option (Int × Int) :=
  (if ((s_l01Numbers p [s]) != 0) = true then some (0, (s_l01Numbers p [s])) else (if ((Fo_s_l05Order 1000000 p s).isSome) = true then some ((s_l05Order p s), 0) else none))
theorem eq_s_OrderOfSpread (p : Int) (s : Int) : execT Try.prog S_s_OrderOfSpread 7 17 (fun _ => 1000000) dec_i_i [.v (.int .i64 p), .v (.int .i64 s)] = Fo_s_OrderOfSpread p s := by
  kernel_rfl
def ok_s_OrderOfSpread : (Int) → (Int) → (Bool) := shut fun (p : Int) (s : Int) => (Fo_s_OrderOfSpread p s).isSome
def s_OrderOfSpread : (Int) → (Int) → (Int × Int) := shut fun (p : Int) (s : Int) => (Fo_s_OrderOfSpread p s).getD (0, 0)
theorem ok_s_OrderOfSpread_of {p : Int} {s : Int} {r : Int × Int} (e : Fo_s_OrderOfSpread p s = some r) : ok_s_OrderOfSpread p s = true := by
  unfold ok_s_OrderOfSpread
  rw [shut_eq, e]
  rfl
theorem s_OrderOfSpread_of {p : Int} {s : Int} {r : Int × Int} (e : Fo_s_OrderOfSpread p s = some r) : s_OrderOfSpread p s = r := by
  unfold s_OrderOfSpread
  rw [shut_eq, e]
  rfl
theorem tot_s_OrderOfSpread (p : Int) (s : Int) (hp : (ok_s_OrderOfSpread p s) = true) : Fo_s_OrderOfSpread p s = some (s_OrderOfSpread p s) := by
  unfold ok_s_OrderOfSpread at hp
  rw [shut_eq] at hp
  unfold s_OrderOfSpread
  rw [shut_eq]
  exact of_isSome hp
def run_s_OrderOfSpread : List PV → Option (Bool × List TR)
  | [.v (.int .i64 p), .v (.int .i64 s)] => some (ok_s_OrderOfSpread p s, enc_i_i (s_OrderOfSpread p s))
  | _ => none
theorem sound_s_OrderOfSpread : Sound Try.prog 7 run_s_OrderOfSpread := by
  refine sound_of de_i_i SO_s_OrderOfSpread (by kernel_rfl) Try.func7 Try.ntmps7 rfl (by kernel_rfl) ?_
  intro W pvs avs rs hargs hrun
  unfold run_s_OrderOfSpread at hrun
  split at hrun
  · simp only [Option.some.injEq, Prod.mk.injEq] at hrun
    obtain ⟨hp, rfl⟩ := hrun
    rename_i p s
    exact ⟨_, _, _, hargs, rfl, (eq_s_OrderOfSpread p s).trans (tot_s_OrderOfSpread p s hp)⟩
  · cases hrun

def S_s_PeriodOfSpread : Sums := ⟨tblS [(31, run_s_l01Numbers), (34, run_s_l05Value)], tblM []⟩
theorem SO_s_PeriodOfSpread : SumsOK Try.prog S_s_PeriodOfSpread := ⟨tblS_ok ⟨⟨Try.call31, sound_s_l01Numbers⟩, ⟨Try.call34, sound_s_l05Value⟩, True.intro⟩, tblM_ok True.intro⟩
def T_s_PeriodOfSpread_0 (p : Int) (s : Int) (m : Int) : Tab := ⟨[.val (.int .i64 p), .val (.int .i64 s), .junk, .junk, .val (.int .i64 0), .val (.int .i64 0), .val (.int .i64 (s_l01Numbers p [s])), .val (.int .i64 m), .val (.int .i64 p), .val (.int .i64 s), .row 40, .val (.int .i64 (s_l01Numbers p [s])), .val (.int .i64 (s_l01Numbers p [s])), .val (.bool ((s_l01Numbers p [s]) != 0)), .junk, .junk, .junk, .junk, .junk, .junk, .junk, .junk, .junk, .junk, .junk, .junk, .junk, .junk, .junk, .junk, .junk, .junk], [(40, .row 2 1 1 (.ints [s]))]⟩
def X_s_PeriodOfSpread_0 (P : Program) (fu : Nat) (p : Int) (s : Int) (f : Nat) (m : Int) : Option (Int × Int) := loopK (exec P S_s_PeriodOfSpread 32 (fun _ => fu + 100) (Code.sub [1, 1, 1, 0, 0, 0] (bodyF P 9))) f (T_s_PeriodOfSpread_0 p s m) (kBlock 0 (kSeq (fun zs9 => exec P S_s_PeriodOfSpread 32 (fun _ => fu + 100) (Code.sub [1, 1, 1, 1] (bodyF P 9)) zs9 (finT P 9 dec_i_i)) (finT P 9 dec_i_i)))
def B_s_PeriodOfSpread_0 (p : Int) (s : Int) (rec0 : Int → Option (Int × Int)) (m : Int) : Option (Int × Int) :=
  (if ((Fo_s_l05Value 1000000 p m s).isSome) = true then (if ((s_l05Value p m s) != 0) = true then rec0 (wI (m + 1)) else (if ((Fo_s_l05Value 1000000 p (wI (m + 1)) s).isSome) = true then (if ((s_l05Value p (wI (m + 1)) s) != s) = true then rec0 (wI (m + 1)) else some (m, 0)) else none)) else none)
def L_s_PeriodOfSpread_0 (fu : Nat) (p : Int) (s : Int) : Nat → Int → Option (Int × Int)
  | 0, _ => none
  | f + 1, m => B_s_PeriodOfSpread_0 p s (L_s_PeriodOfSpread_0 fu p s f) m
theorem loop_s_PeriodOfSpread_0 (fu : Nat) (p : Int) (s : Int) : ∀ (f : Nat) (m : Int), X_s_PeriodOfSpread_0 Try.prog fu p s f m = L_s_PeriodOfSpread_0 fu p s f m := by
  intro f
  induction f with
  | zero => intros; rfl
  | succ f ih =>
    intro m
    have h1 : X_s_PeriodOfSpread_0 Try.prog fu p s (f + 1) m = B_s_PeriodOfSpread_0 p s (X_s_PeriodOfSpread_0 Try.prog fu p s f) m := by kernel_rfl
    have h2 : X_s_PeriodOfSpread_0 Try.prog fu p s f = L_s_PeriodOfSpread_0 fu p s f := by funext m; exact ih m
    rw [h1, h2]
    rfl
def G_s_PeriodOfSpread (p : Int) (s : Int) (lo0 : Int → Option (Int × Int)) : Option (Int × Int) :=
  (if ((s_l01Numbers p [s]) != 0) = true then some (0, (s_l01Numbers p [s])) else lo0 1)
def Fo_s_PeriodOfSpread (fu : Nat) (p : Int) (s : Int) : Option (Int × Int) := G_s_PeriodOfSpread p s (L_s_PeriodOfSpread_0 fu p s (fu + 100))
theorem eqg_s_PeriodOfSpread (fu : Nat) (p : Int) (s : Int) : execT Try.prog S_s_PeriodOfSpread 9 32 (fun _ => fu + 100) dec_i_i [.v (.int .i64 p), .v (.int .i64 s)] = G_s_PeriodOfSpread p s (L_s_PeriodOfSpread_0 fu p s (fu + 100)) := by
  have h1 : execT Try.prog S_s_PeriodOfSpread 9 32 (fun _ => fu + 100) dec_i_i [.v (.int .i64 p), .v (.int .i64 s)] = G_s_PeriodOfSpread p s (X_s_PeriodOfSpread_0 Try.prog fu p s (fu + 100)) := by kernel_rfl
  have c0 : X_s_PeriodOfSpread_0 Try.prog fu p s (fu + 100) = L_s_PeriodOfSpread_0 fu p s (fu + 100) := by funext m; exact loop_s_PeriodOfSpread_0 fu p s (fu + 100) m
  rw [h1, c0]
theorem eq_s_PeriodOfSpread (fu : Nat) (p : Int) (s : Int) : execT Try.prog S_s_PeriodOfSpread 9 32 (fun _ => fu + 100) dec_i_i [.v (.int .i64 p), .v (.int .i64 s)] = Fo_s_PeriodOfSpread fu p s := eqg_s_PeriodOfSpread fu p s
def ok_s_PeriodOfSpread : (Int) → (Int) → (Bool) := shut fun (p : Int) (s : Int) => (Fo_s_PeriodOfSpread 1000000 p s).isSome
def s_PeriodOfSpread : (Int) → (Int) → (Int × Int) := shut fun (p : Int) (s : Int) => (Fo_s_PeriodOfSpread 1000000 p s).getD (0, 0)
theorem ok_s_PeriodOfSpread_of {p : Int} {s : Int} {r : Int × Int} (e : Fo_s_PeriodOfSpread 1000000 p s = some r) : ok_s_PeriodOfSpread p s = true := by
  unfold ok_s_PeriodOfSpread
  rw [shut_eq, e]
  rfl
theorem s_PeriodOfSpread_of {p : Int} {s : Int} {r : Int × Int} (e : Fo_s_PeriodOfSpread 1000000 p s = some r) : s_PeriodOfSpread p s = r := by
  unfold s_PeriodOfSpread
  rw [shut_eq, e]
  rfl
theorem tot_s_PeriodOfSpread (p : Int) (s : Int) (hp : (ok_s_PeriodOfSpread p s) = true) : Fo_s_PeriodOfSpread 1000000 p s = some (s_PeriodOfSpread p s) := by
  unfold ok_s_PeriodOfSpread at hp
  rw [shut_eq] at hp
  unfold s_PeriodOfSpread
  rw [shut_eq]
  exact of_isSome hp
def run_s_PeriodOfSpread : List PV → Option (Bool × List TR)
  | [.v (.int .i64 p), .v (.int .i64 s)] => some (ok_s_PeriodOfSpread p s, enc_i_i (s_PeriodOfSpread p s))
  | _ => none
theorem sound_s_PeriodOfSpread : Sound Try.prog 9 run_s_PeriodOfSpread := by
  refine sound_of de_i_i SO_s_PeriodOfSpread (by kernel_rfl) Try.func9 Try.ntmps9 rfl (by kernel_rfl) ?_
  intro W pvs avs rs hargs hrun
  unfold run_s_PeriodOfSpread at hrun
  split at hrun
  · simp only [Option.some.injEq, Prod.mk.injEq] at hrun
    obtain ⟨hp, rfl⟩ := hrun
    rename_i p s
    exact ⟨_, _, _, hargs, rfl, (eq_s_PeriodOfSpread _ p s).trans (tot_s_PeriodOfSpread p s hp)⟩
  · cases hrun

def S_s_SpreadsOfOrder : Sums := ⟨tblS [(48, run_s_l05Code), (32, run_s_l05Order)], tblM []⟩
theorem SO_s_SpreadsOfOrder : SumsOK Try.prog S_s_SpreadsOfOrder := ⟨tblS_ok ⟨⟨Try.call48, sound_s_l05Code⟩, ⟨Try.call32, sound_s_l05Order⟩, True.intro⟩, tblM_ok True.intro⟩
def T_s_SpreadsOfOrder_0 (p : Int) (n_ : Int) (l21 : List Int) (m21 : Nat) (j_s : Int) : Tab := ⟨[.val (.int .i64 p), .val (.int .i64 n_), .junk, .junk, .val (.slice none 0 0), .val (.int .i64 0), .val (.int .i64 (s_l05Code p n_ 0 [])), .row 84, .val (.int .i64 j_s), .val (.int .i64 p), .val (.int .i64 n_), .val (.int .i64 (s_l05Code p n_ 0 [])), .val (.int .i64 (s_l05Code p n_ 0 [])), .val (.bool ((s_l05Code p n_ 0 []) == 0)), .val (.bool true), .val (.int .i64 n_), .val (.bool (decide (n_ < 1))), .val (.bool (decide (n_ < 1))), .val (.int .i64 (s_l05Code p n_ 0 [])), .val (.bool ((s_l05Code p n_ 0 []) != 0)), .junk, .junk, .junk, .junk, .junk, .junk, .junk, .junk, .junk, .junk, .junk, .junk, .junk, .junk, .junk, .junk, .junk], [(84, .row 2 1 m21 (.ints l21))]⟩
def T_s_SpreadsOfOrder_1 (p : Int) (n_ : Int) (l21 : List Int) (m21 : Nat) (j_s : Int) : Tab := ⟨[.val (.int .i64 p), .val (.int .i64 n_), .junk, .junk, .val (.slice none 0 0), .val (.int .i64 0), .val (.int .i64 (s_l05Code p n_ 0 [])), .row 84, .val (.int .i64 j_s), .val (.int .i64 p), .val (.int .i64 n_), .val (.int .i64 (s_l05Code p n_ 0 [])), .val (.int .i64 (s_l05Code p n_ 0 [])), .val (.bool ((s_l05Code p n_ 0 []) == 0)), .val (.bool false), .val (undef), .val (undef), .val (.bool false), .val (.int .i64 (s_l05Code p n_ 0 [])), .val (.bool ((s_l05Code p n_ 0 []) != 0)), .junk, .junk, .junk, .junk, .junk, .junk, .junk, .junk, .junk, .junk, .junk, .junk, .junk, .junk, .junk, .junk, .junk], [(84, .row 2 1 m21 (.ints l21))]⟩
def X_s_SpreadsOfOrder_0 (P : Program) (fu : Nat) (p : Int) (n_ : Int) (f : Nat) (l21 : List Int) (m21 : Nat) (j_s : Int) : Option ((Nat × List Int) × Int) := loopK (exec P S_s_SpreadsOfOrder 37 (fun _ => fu + 100) (Code.sub [1, 1, 1, 1, 1, 0, 1, 0, 0] (bodyF P 25))) f (T_s_SpreadsOfOrder_0 p n_ l21 m21 j_s) (kBlock 0 (kSeq (fun zs9 => exec P S_s_SpreadsOfOrder 37 (fun _ => fu + 100) (Code.sub [1, 1, 1, 1, 1, 1] (bodyF P 25)) zs9 (finT P 25 dec_l2_1_i)) (finT P 25 dec_l2_1_i)))
def B_s_SpreadsOfOrder_0 (p : Int) (n_ : Int) (rec0 : (List Int) → Nat → Int → Option ((Nat × List Int) × Int)) (l21 : List Int) (m21 : Nat) (j_s : Int) : Option ((Nat × List Int) × Int) :=
  (if (decide (j_s < p)) = true then (if ((Fo_s_l05Order 1000000 p j_s).isSome) = true then (if ((s_l05Order p j_s) == n_) = true then (if (Nat.ble 1 1 && Nat.ble (m21 + 1) 1000000 && Nat.beq 1 (1)) = true then rec0 (l21 ++ [j_s]) (m21 + 1) (wI (j_s + 1)) else none) else rec0 l21 m21 (wI (j_s + 1))) else none) else some ((m21, l21), 0))
def L_s_SpreadsOfOrder_0 (fu : Nat) (p : Int) (n_ : Int) : Nat → (List Int) → Nat → Int → Option ((Nat × List Int) × Int)
  | 0, _, _, _ => none
  | f + 1, l21, m21, j_s => B_s_SpreadsOfOrder_0 p n_ (L_s_SpreadsOfOrder_0 fu p n_ f) l21 m21 j_s
theorem loop_s_SpreadsOfOrder_0 (fu : Nat) (p : Int) (n_ : Int) : ∀ (f : Nat) (l21 : List Int) (m21 : Nat) (j_s : Int), X_s_SpreadsOfOrder_0 Try.prog fu p n_ f l21 m21 j_s = L_s_SpreadsOfOrder_0 fu p n_ f l21 m21 j_s := by
  intro f
  induction f with
  | zero => intros; rfl
  | succ f ih =>
    intro l21 m21 j_s
    have h1 : X_s_SpreadsOfOrder_0 Try.prog fu p n_ (f + 1) l21 m21 j_s = B_s_SpreadsOfOrder_0 p n_ (X_s_SpreadsOfOrder_0 Try.prog fu p n_ f) l21 m21 j_s := by kernel_rfl
    have h2 : X_s_SpreadsOfOrder_0 Try.prog fu p n_ f = L_s_SpreadsOfOrder_0 fu p n_ f := by funext l21 m21 j_s; exact ih l21 m21 j_s
    rw [h1, h2]
    rfl
def X_s_SpreadsOfOrder_1 (P : Program) (fu : Nat) (p : Int) (n_ : Int) (f : Nat) (l21 : List Int) (m21 : Nat) (j_s : Int) : Option ((Nat × List Int) × Int) := loopK (exec P S_s_SpreadsOfOrder 37 (fun _ => fu + 100) (Code.sub [1, 1, 1, 1, 1, 0, 1, 0, 0] (bodyF P 25))) f (T_s_SpreadsOfOrder_1 p n_ l21 m21 j_s) (kBlock 0 (kSeq (fun zs9 => exec P S_s_SpreadsOfOrder 37 (fun _ => fu + 100) (Code.sub [1, 1, 1, 1, 1, 1] (bodyF P 25)) zs9 (finT P 25 dec_l2_1_i)) (finT P 25 dec_l2_1_i)))
def B_s_SpreadsOfOrder_1 (p : Int) (n_ : Int) (rec1 : (List Int) → Nat → Int → Option ((Nat × List Int) × Int)) (l21 : List Int) (m21 : Nat) (j_s : Int) : Option ((Nat × List Int) × Int) :=
  (if (decide (j_s < p)) = true then (if ((Fo_s_l05Order 1000000 p j_s).isSome) = true then (if ((s_l05Order p j_s) == n_) = true then (if (Nat.ble 1 1 && Nat.ble (m21 + 1) 1000000 && Nat.beq 1 (1)) = true then rec1 (l21 ++ [j_s]) (m21 + 1) (wI (j_s + 1)) else none) else rec1 l21 m21 (wI (j_s + 1))) else none) else some ((m21, l21), 0))
def L_s_SpreadsOfOrder_1 (fu : Nat) (p : Int) (n_ : Int) : Nat → (List Int) → Nat → Int → Option ((Nat × List Int) × Int)
  | 0, _, _, _ => none
  | f + 1, l21, m21, j_s => B_s_SpreadsOfOrder_1 p n_ (L_s_SpreadsOfOrder_1 fu p n_ f) l21 m21 j_s
theorem loop_s_SpreadsOfOrder_1 (fu : Nat) (p : Int) (n_ : Int) : ∀ (f : Nat) (l21 : List Int) (m21 : Nat) (j_s : Int), X_s_SpreadsOfOrder_1 Try.prog fu p n_ f l21 m21 j_s = L_s_SpreadsOfOrder_1 fu p n_ f l21 m21 j_s := by
  intro f
  induction f with
  | zero => intros; rfl
  | succ f ih =>
    intro l21 m21 j_s
    have h1 : X_s_SpreadsOfOrder_1 Try.prog fu p n_ (f + 1) l21 m21 j_s = B_s_SpreadsOfOrder_1 p n_ (X_s_SpreadsOfOrder_1 Try.prog fu p n_ f) l21 m21 j_s := by kernel_rfl
    have h2 : X_s_SpreadsOfOrder_1 Try.prog fu p n_ f = L_s_SpreadsOfOrder_1 fu p n_ f := by funext l21 m21 j_s; exact ih l21 m21 j_s
    rw [h1, h2]
    rfl
theorem same_s_SpreadsOfOrder_1 : L_s_SpreadsOfOrder_1 = L_s_SpreadsOfOrder_0 := by kernel_rfl
def G_s_SpreadsOfOrder (p : Int) (n_ : Int) (lo0 : (List Int) → Nat → Int → Option ((Nat × List Int) × Int)) (lo1 : (List Int) → Nat → Int → Option ((Nat × List Int) × Int)) : Option ((Nat × List Int) × Int) :=
  (if ((s_l05Code p n_ 0 []) == 0) = true then (if (decide (n_ < 1)) = true then some ((0, []), 2) else (if ((s_l05Code p n_ 0 []) != 0) = true then some ((0, []), (s_l05Code p n_ 0 [])) else lo0 [] 0 0)) else (if ((s_l05Code p n_ 0 []) != 0) = true then some ((0, []), (s_l05Code p n_ 0 [])) else lo1 [] 0 0))
def Fo_s_SpreadsOfOrder (fu : Nat) (p : Int) (n_ : Int) : Option ((Nat × List Int) × Int) := G_s_SpreadsOfOrder p n_ (L_s_SpreadsOfOrder_0 fu p n_ (fu + 100)) (L_s_SpreadsOfOrder_1 fu p n_ (fu + 100))
theorem eqg_s_SpreadsOfOrder (fu : Nat) (p : Int) (n_ : Int) : execT Try.prog S_s_SpreadsOfOrder 25 37 (fun _ => fu + 100) dec_l2_1_i [.v (.int .i64 p), .v (.int .i64 n_)] = G_s_SpreadsOfOrder p n_ (L_s_SpreadsOfOrder_0 fu p n_ (fu + 100)) (L_s_SpreadsOfOrder_1 fu p n_ (fu + 100)) := by
  have h1 : execT Try.prog S_s_SpreadsOfOrder 25 37 (fun _ => fu + 100) dec_l2_1_i [.v (.int .i64 p), .v (.int .i64 n_)] = G_s_SpreadsOfOrder p n_ (X_s_SpreadsOfOrder_0 Try.prog fu p n_ (fu + 100)) (X_s_SpreadsOfOrder_1 Try.prog fu p n_ (fu + 100)) := by kernel_rfl
  have c0 : X_s_SpreadsOfOrder_0 Try.prog fu p n_ (fu + 100) = L_s_SpreadsOfOrder_0 fu p n_ (fu + 100) := by funext l21 m21 j_s; exact loop_s_SpreadsOfOrder_0 fu p n_ (fu + 100) l21 m21 j_s
  have c1 : X_s_SpreadsOfOrder_1 Try.prog fu p n_ (fu + 100) = L_s_SpreadsOfOrder_1 fu p n_ (fu + 100) := by funext l21 m21 j_s; exact loop_s_SpreadsOfOrder_1 fu p n_ (fu + 100) l21 m21 j_s
  rw [h1, c0, c1]
theorem eq_s_SpreadsOfOrder (fu : Nat) (p : Int) (n_ : Int) : execT Try.prog S_s_SpreadsOfOrder 25 37 (fun _ => fu + 100) dec_l2_1_i [.v (.int .i64 p), .v (.int .i64 n_)] = Fo_s_SpreadsOfOrder fu p n_ := eqg_s_SpreadsOfOrder fu p n_
def ok_s_SpreadsOfOrder : (Int) → (Int) → (Bool) := shut fun (p : Int) (n_ : Int) => (Fo_s_SpreadsOfOrder 1000000 p n_).isSome
def s_SpreadsOfOrder : (Int) → (Int) → ((Nat × List Int) × Int) := shut fun (p : Int) (n_ : Int) => (Fo_s_SpreadsOfOrder 1000000 p n_).getD ((0, []), 0)
theorem ok_s_SpreadsOfOrder_of {p : Int} {n_ : Int} {r : (Nat × List Int) × Int} (e : Fo_s_SpreadsOfOrder 1000000 p n_ = some r) : ok_s_SpreadsOfOrder p n_ = true := by
  unfold ok_s_SpreadsOfOrder
  rw [shut_eq, e]
  rfl
theorem s_SpreadsOfOrder_of {p : Int} {n_ : Int} {r : (Nat × List Int) × Int} (e : Fo_s_SpreadsOfOrder 1000000 p n_ = some r) : s_SpreadsOfOrder p n_ = r := by
  unfold s_SpreadsOfOrder
  rw [shut_eq, e]
  rfl
theorem tot_s_SpreadsOfOrder (p : Int) (n_ : Int) (hp : (ok_s_SpreadsOfOrder p n_) = true) : Fo_s_SpreadsOfOrder 1000000 p n_ = some (s_SpreadsOfOrder p n_) := by
  unfold ok_s_SpreadsOfOrder at hp
  rw [shut_eq] at hp
  unfold s_SpreadsOfOrder
  rw [shut_eq]
  exact of_isSome hp
def run_s_SpreadsOfOrder : List PV → Option (Bool × List TR)
  | [.v (.int .i64 p), .v (.int .i64 n_)] => some (ok_s_SpreadsOfOrder p n_, enc_l2_1_i (s_SpreadsOfOrder p n_))
  | _ => none
theorem sound_s_SpreadsOfOrder : Sound Try.prog 25 run_s_SpreadsOfOrder := by
  refine sound_of de_l2_1_i SO_s_SpreadsOfOrder (by kernel_rfl) Try.func25 Try.ntmps25 rfl (by kernel_rfl) ?_
  intro W pvs avs rs hargs hrun
  unfold run_s_SpreadsOfOrder at hrun
  split at hrun
  · simp only [Option.some.injEq, Prod.mk.injEq] at hrun
    obtain ⟨hp, rfl⟩ := hrun
    rename_i p n_
    exact ⟨_, _, _, hargs, rfl, (eq_s_SpreadsOfOrder _ p n_).trans (tot_s_SpreadsOfOrder p n_ hp)⟩
  · cases hrun

def S_s_WalkOf : Sums := ⟨tblS [(48, run_s_l05Code), (51, run_s_l01In), (34, run_s_l05Value)], tblM []⟩
theorem SO_s_WalkOf : SumsOK Try.prog S_s_WalkOf := ⟨tblS_ok ⟨⟨Try.call48, sound_s_l05Code⟩, ⟨Try.call51, sound_s_l01In⟩, ⟨Try.call34, sound_s_l05Value⟩, True.intro⟩, tblM_ok True.intro⟩
def T_s_WalkOf_0 (p : Int) (n_ : Int) (s : Int) (k : Int) (l28 : List Int) (m28 : Nat) (j_s : Int) (k' : Int) : Tab := ⟨[.val (.int .i64 p), .val (.int .i64 n_), .val (.int .i64 j_s), .val (.int .i64 k'), .junk, .junk, .junk, .junk, .val (.slice none 0 0), .val (.int .i64 0), .val (.int .i64 (s_l05Code p n_ 1 [s])), .row 112, .val (.int .i64 p), .val (.int .i64 n_), .val (.int .i64 s), .row 60, .val (.int .i64 (s_l05Code p n_ 1 [s])), .val (.int .i64 (s_l05Code p n_ 1 [s])), .val (.bool ((s_l05Code p n_ 1 [s]) == 0)), .val (.bool true), .val (.int .i64 k), .val (.bool (s_l01In k 0 100)), .val (.bool (!(s_l01In k 0 100))), .val (.bool (!(s_l01In k 0 100))), .val (.int .i64 (s_l05Code p n_ 1 [s])), .val (.bool ((s_l05Code p n_ 1 [s]) != 0)), .junk, .val (.int .i64 s), .junk, .junk, .junk, .junk, .junk, .junk, .junk, .junk, .junk, .junk, .junk, .junk, .junk, .junk], [(60, .row 2 1 1 (.ints [s])), (112, .row 2 1 m28 (.ints l28))]⟩
def T_s_WalkOf_1 (p : Int) (n_ : Int) (s : Int) (k : Int) (l28 : List Int) (m28 : Nat) (j_s : Int) (k' : Int) : Tab := ⟨[.val (.int .i64 p), .val (.int .i64 n_), .val (.int .i64 j_s), .val (.int .i64 k'), .junk, .junk, .junk, .junk, .val (.slice none 0 0), .val (.int .i64 0), .val (.int .i64 (s_l05Code p n_ 1 [s])), .row 112, .val (.int .i64 p), .val (.int .i64 n_), .val (.int .i64 s), .row 60, .val (.int .i64 (s_l05Code p n_ 1 [s])), .val (.int .i64 (s_l05Code p n_ 1 [s])), .val (.bool ((s_l05Code p n_ 1 [s]) == 0)), .val (.bool false), .val (undef), .val (undef), .val (undef), .val (.bool false), .val (.int .i64 (s_l05Code p n_ 1 [s])), .val (.bool ((s_l05Code p n_ 1 [s]) != 0)), .junk, .val (.int .i64 s), .junk, .junk, .junk, .junk, .junk, .junk, .junk, .junk, .junk, .junk, .junk, .junk, .junk, .junk], [(60, .row 2 1 1 (.ints [s])), (112, .row 2 1 m28 (.ints l28))]⟩
def X_s_WalkOf_0 (P : Program) (fu : Nat) (p : Int) (n_ : Int) (s : Int) (k : Int) (f : Nat) (l28 : List Int) (m28 : Nat) (j_s : Int) (k' : Int) : Option ((Nat × List Int) × Int) := loopK (exec P S_s_WalkOf 42 (fun _ => fu + 100) (Code.sub [1, 1, 1, 1, 1, 0, 0, 0] (bodyF P 23))) f (T_s_WalkOf_0 p n_ s k l28 m28 j_s k') (kBlock 0 (kSeq (fun zs9 => exec P S_s_WalkOf 42 (fun _ => fu + 100) (Code.sub [1, 1, 1, 1, 1, 1] (bodyF P 23)) zs9 (finT P 23 dec_l2_1_i)) (finT P 23 dec_l2_1_i)))
def B_s_WalkOf_0 (p : Int) (n_ : Int) (s : Int) (k : Int) (rec0 : (List Int) → Nat → Int → Int → Option ((Nat × List Int) × Int)) (l28 : List Int) (m28 : Nat) (j_s : Int) (k' : Int) : Option ((Nat × List Int) × Int) :=
  (if (decide (k' > 0)) = true then (if ((Fo_s_l05Value 1000000 p n_ j_s).isSome) = true then (if (Nat.ble 1 1 && Nat.ble (m28 + 1) 1000000 && Nat.beq 1 (1)) = true then rec0 (l28 ++ [(s_l05Value p n_ j_s)]) (m28 + 1) (s_l05Value p n_ j_s) (wI (k' - 1)) else none) else none) else some ((m28, l28), 0))
def L_s_WalkOf_0 (fu : Nat) (p : Int) (n_ : Int) (s : Int) (k : Int) : Nat → (List Int) → Nat → Int → Int → Option ((Nat × List Int) × Int)
  | 0, _, _, _, _ => none
  | f + 1, l28, m28, j_s, k' => B_s_WalkOf_0 p n_ s k (L_s_WalkOf_0 fu p n_ s k f) l28 m28 j_s k'
theorem loop_s_WalkOf_0 (fu : Nat) (p : Int) (n_ : Int) (s : Int) (k : Int) : ∀ (f : Nat) (l28 : List Int) (m28 : Nat) (j_s : Int) (k' : Int), X_s_WalkOf_0 Try.prog fu p n_ s k f l28 m28 j_s k' = L_s_WalkOf_0 fu p n_ s k f l28 m28 j_s k' := by
  intro f
  induction f with
  | zero => intros; rfl
  | succ f ih =>
    intro l28 m28 j_s k'
    have h1 : X_s_WalkOf_0 Try.prog fu p n_ s k (f + 1) l28 m28 j_s k' = B_s_WalkOf_0 p n_ s k (X_s_WalkOf_0 Try.prog fu p n_ s k f) l28 m28 j_s k' := by kernel_rfl
    have h2 : X_s_WalkOf_0 Try.prog fu p n_ s k f = L_s_WalkOf_0 fu p n_ s k f := by funext l28 m28 j_s k'; exact ih l28 m28 j_s k'
    rw [h1, h2]
    rfl
def X_s_WalkOf_1 (P : Program) (fu : Nat) (p : Int) (n_ : Int) (s : Int) (k : Int) (f : Nat) (l28 : List Int) (m28 : Nat) (j_s : Int) (k' : Int) : Option ((Nat × List Int) × Int) := loopK (exec P S_s_WalkOf 42 (fun _ => fu + 100) (Code.sub [1, 1, 1, 1, 1, 0, 0, 0] (bodyF P 23))) f (T_s_WalkOf_1 p n_ s k l28 m28 j_s k') (kBlock 0 (kSeq (fun zs9 => exec P S_s_WalkOf 42 (fun _ => fu + 100) (Code.sub [1, 1, 1, 1, 1, 1] (bodyF P 23)) zs9 (finT P 23 dec_l2_1_i)) (finT P 23 dec_l2_1_i)))
def B_s_WalkOf_1 (p : Int) (n_ : Int) (s : Int) (k : Int) (rec1 : (List Int) → Nat → Int → Int → Option ((Nat × List Int) × Int)) (l28 : List Int) (m28 : Nat) (j_s : Int) (k' : Int) : Option ((Nat × List Int) × Int) :=
  (if (decide (k' > 0)) = true then (if ((Fo_s_l05Value 1000000 p n_ j_s).isSome) = true then (if (Nat.ble 1 1 && Nat.ble (m28 + 1) 1000000 && Nat.beq 1 (1)) = true then rec1 (l28 ++ [(s_l05Value p n_ j_s)]) (m28 + 1) (s_l05Value p n_ j_s) (wI (k' - 1)) else none) else none) else some ((m28, l28), 0))
def L_s_WalkOf_1 (fu : Nat) (p : Int) (n_ : Int) (s : Int) (k : Int) : Nat → (List Int) → Nat → Int → Int → Option ((Nat × List Int) × Int)
  | 0, _, _, _, _ => none
  | f + 1, l28, m28, j_s, k' => B_s_WalkOf_1 p n_ s k (L_s_WalkOf_1 fu p n_ s k f) l28 m28 j_s k'
theorem loop_s_WalkOf_1 (fu : Nat) (p : Int) (n_ : Int) (s : Int) (k : Int) : ∀ (f : Nat) (l28 : List Int) (m28 : Nat) (j_s : Int) (k' : Int), X_s_WalkOf_1 Try.prog fu p n_ s k f l28 m28 j_s k' = L_s_WalkOf_1 fu p n_ s k f l28 m28 j_s k' := by
  intro f
  induction f with
  | zero => intros; rfl
  | succ f ih =>
    intro l28 m28 j_s k'
    have h1 : X_s_WalkOf_1 Try.prog fu p n_ s k (f + 1) l28 m28 j_s k' = B_s_WalkOf_1 p n_ s k (X_s_WalkOf_1 Try.prog fu p n_ s k f) l28 m28 j_s k' := by kernel_rfl
    have h2 : X_s_WalkOf_1 Try.prog fu p n_ s k f = L_s_WalkOf_1 fu p n_ s k f := by funext l28 m28 j_s k'; exact ih l28 m28 j_s k'
    rw [h1, h2]
    rfl
theorem same_s_WalkOf_1 : L_s_WalkOf_1 = L_s_WalkOf_0 := by kernel_rfl
def G_s_WalkOf (p : Int) (n_ : Int) (s : Int) (k : Int) (lo0 : (List Int) → Nat → Int → Int → Option ((Nat × List Int) × Int)) (lo1 : (List Int) → Nat → Int → Int → Option ((Nat × List Int) × Int)) : Option ((Nat × List Int) × Int) :=
  (if ((s_l05Code p n_ 1 [s]) == 0) = true then (if (!(s_l01In k 0 100)) = true then some ((0, []), 2) else (if ((s_l05Code p n_ 1 [s]) != 0) = true then some ((0, []), (s_l05Code p n_ 1 [s])) else lo0 [s] 1 s k)) else (if ((s_l05Code p n_ 1 [s]) != 0) = true then some ((0, []), (s_l05Code p n_ 1 [s])) else lo1 [s] 1 s k))
def Fo_s_WalkOf (fu : Nat) (p : Int) (n_ : Int) (s : Int) (k : Int) : Option ((Nat × List Int) × Int) := G_s_WalkOf p n_ s k (L_s_WalkOf_0 fu p n_ s k (fu + 100)) (L_s_WalkOf_1 fu p n_ s k (fu + 100))
theorem eqg_s_WalkOf (fu : Nat) (p : Int) (n_ : Int) (s : Int) (k : Int) : execT Try.prog S_s_WalkOf 23 42 (fun _ => fu + 100) dec_l2_1_i [.v (.int .i64 p), .v (.int .i64 n_), .v (.int .i64 s), .v (.int .i64 k)] = G_s_WalkOf p n_ s k (L_s_WalkOf_0 fu p n_ s k (fu + 100)) (L_s_WalkOf_1 fu p n_ s k (fu + 100)) := by
  have h1 : execT Try.prog S_s_WalkOf 23 42 (fun _ => fu + 100) dec_l2_1_i [.v (.int .i64 p), .v (.int .i64 n_), .v (.int .i64 s), .v (.int .i64 k)] = G_s_WalkOf p n_ s k (X_s_WalkOf_0 Try.prog fu p n_ s k (fu + 100)) (X_s_WalkOf_1 Try.prog fu p n_ s k (fu + 100)) := by kernel_rfl
  have c0 : X_s_WalkOf_0 Try.prog fu p n_ s k (fu + 100) = L_s_WalkOf_0 fu p n_ s k (fu + 100) := by funext l28 m28 j_s k'; exact loop_s_WalkOf_0 fu p n_ s k (fu + 100) l28 m28 j_s k'
  have c1 : X_s_WalkOf_1 Try.prog fu p n_ s k (fu + 100) = L_s_WalkOf_1 fu p n_ s k (fu + 100) := by funext l28 m28 j_s k'; exact loop_s_WalkOf_1 fu p n_ s k (fu + 100) l28 m28 j_s k'
  rw [h1, c0, c1]
theorem eq_s_WalkOf (fu : Nat) (p : Int) (n_ : Int) (s : Int) (k : Int) : execT Try.prog S_s_WalkOf 23 42 (fun _ => fu + 100) dec_l2_1_i [.v (.int .i64 p), .v (.int .i64 n_), .v (.int .i64 s), .v (.int .i64 k)] = Fo_s_WalkOf fu p n_ s k := eqg_s_WalkOf fu p n_ s k
def ok_s_WalkOf : (Int) → (Int) → (Int) → (Int) → (Bool) := shut fun (p : Int) (n_ : Int) (s : Int) (k : Int) => (Fo_s_WalkOf 1000000 p n_ s k).isSome
def s_WalkOf : (Int) → (Int) → (Int) → (Int) → ((Nat × List Int) × Int) := shut fun (p : Int) (n_ : Int) (s : Int) (k : Int) => (Fo_s_WalkOf 1000000 p n_ s k).getD ((0, []), 0)
theorem ok_s_WalkOf_of {p : Int} {n_ : Int} {s : Int} {k : Int} {r : (Nat × List Int) × Int} (e : Fo_s_WalkOf 1000000 p n_ s k = some r) : ok_s_WalkOf p n_ s k = true := by
  unfold ok_s_WalkOf
  rw [shut_eq, e]
  rfl
theorem s_WalkOf_of {p : Int} {n_ : Int} {s : Int} {k : Int} {r : (Nat × List Int) × Int} (e : Fo_s_WalkOf 1000000 p n_ s k = some r) : s_WalkOf p n_ s k = r := by
  unfold s_WalkOf
  rw [shut_eq, e]
  rfl
theorem tot_s_WalkOf (p : Int) (n_ : Int) (s : Int) (k : Int) (hp : (ok_s_WalkOf p n_ s k) = true) : Fo_s_WalkOf 1000000 p n_ s k = some (s_WalkOf p n_ s k) := by
  unfold ok_s_WalkOf at hp
  rw [shut_eq] at hp
  unfold s_WalkOf
  rw [shut_eq]
  exact of_isSome hp
def run_s_WalkOf : List PV → Option (Bool × List TR)
  | [.v (.int .i64 p), .v (.int .i64 n_), .v (.int .i64 s), .v (.int .i64 k)] => some (ok_s_WalkOf p n_ s k, enc_l2_1_i (s_WalkOf p n_ s k))
  | _ => none
theorem sound_s_WalkOf : Sound Try.prog 23 run_s_WalkOf := by
  refine sound_of de_l2_1_i SO_s_WalkOf (by kernel_rfl) Try.func23 Try.ntmps23 rfl (by kernel_rfl) ?_
  intro W pvs avs rs hargs hrun
  unfold run_s_WalkOf at hrun
  split at hrun
  · simp only [Option.some.injEq, Prod.mk.injEq] at hrun
    obtain ⟨hp, rfl⟩ := hrun
    rename_i p n_ s k
    exact ⟨_, _, _, hargs, rfl, (eq_s_WalkOf _ p n_ s k).trans (tot_s_WalkOf p n_ s k hp)⟩
  · cases hrun

def S_s_WalkRound : Sums := ⟨tblS [(48, run_s_l05Code), (34, run_s_l05Value)], tblM []⟩
theorem SO_s_WalkRound : SumsOK Try.prog S_s_WalkRound := ⟨tblS_ok ⟨⟨Try.call48, sound_s_l05Code⟩, ⟨Try.call34, sound_s_l05Value⟩, True.intro⟩, tblM_ok True.intro⟩
def T_s_WalkRound_0 (p : Int) (n_ : Int) (s : Int) (l22 : List Int) (t25 : Int) : Tab := ⟨[.val (.int .i64 p), .val (.int .i64 n_), .val (.int .i64 s), .junk, .junk, .junk, .val (.int .i64 0), .val (.int .i64 0), .val (.int .i64 0), .val (.int .i64 (s_l05Code p n_ 1 [s])), .row 88, .junk, .junk, .val (.int .i64 p), .val (.int .i64 n_), .val (.int .i64 s), .row 64, .val (.int .i64 (s_l05Code p n_ 1 [s])), .val (.int .i64 (s_l05Code p n_ 1 [s])), .val (.bool ((s_l05Code p n_ 1 [s]) != 0)), .junk, .val (.int .i64 p), .row 88, .row 88, .val (.int .i64 ((p.toNat : Nat) : Int)), .val (.int .i64 t25), .junk, .junk, .junk, .junk, .junk, .junk, .junk, .junk, .junk, .junk, .junk, .junk, .junk, .junk, .junk, .junk, .junk, .junk, .junk, .junk, .junk, .junk, .junk, .junk, .junk, .junk, .junk, .junk, .junk, .junk, .junk], [(64, .row 2 1 1 (.ints [s])), (88, .row 2 1 p.toNat (.ints l22))]⟩
def T_s_WalkRound_1 (p : Int) (n_ : Int) (s : Int) (l22 : List Int) (t25 : Int) (l22' : List Int) (step : Int) (j_s : Int) : Tab := ⟨[.val (.int .i64 p), .val (.int .i64 n_), .val (.int .i64 j_s), .junk, .junk, .junk, .val (.int .i64 0), .val (.int .i64 0), .val (.int .i64 0), .val (.int .i64 (s_l05Code p n_ 1 [s])), .row 88, .junk, .val (.int .i64 step), .val (.int .i64 p), .val (.int .i64 n_), .val (.int .i64 s), .row 64, .val (.int .i64 (s_l05Code p n_ 1 [s])), .val (.int .i64 (s_l05Code p n_ 1 [s])), .val (.bool ((s_l05Code p n_ 1 [s]) != 0)), .junk, .val (.int .i64 p), .row 88, .row 88, .val (.int .i64 ((p.toNat : Nat) : Int)), .val (.int .i64 t25), .val (.bool (decide (t25 < ((p.toNat : Nat) : Int)))), .junk, .junk, .junk, .junk, .junk, .junk, .junk, .junk, .junk, .junk, .junk, .junk, .junk, .junk, .junk, .junk, .junk, .junk, .junk, .junk, .junk, .junk, .junk, .junk, .junk, .junk, .junk, .junk, .junk, .junk], [(64, .row 2 1 1 (.ints [s])), (88, .row 2 1 p.toNat (.ints l22'))]⟩
def X_s_WalkRound_1 (P : Program) (fu : Nat) (p : Int) (n_ : Int) (s : Int) (l22 : List Int) (t25 : Int) (rc0 : Tab → Option (Int × Int × Int)) (f : Nat) (l22' : List Int) (step : Int) (j_s : Int) : Option (Int × Int × Int) := loopK (exec P S_s_WalkRound 57 (fun _ => fu + 100) (Code.sub [1, 1, 1, 1, 1, 0, 0, 0] (bodyF P 20))) f (T_s_WalkRound_1 p n_ s l22 t25 l22' step j_s) (kBlock 2 (kSeq (fun zs9 => exec P S_s_WalkRound 57 (fun _ => fu + 100) (Code.sub [1, 1, 1, 1, 1, 1] (bodyF P 20)) zs9 (finT P 20 dec_i_i_i)) (finT P 20 dec_i_i_i)))
def B_s_WalkRound_1 (p : Int) (n_ : Int) (s : Int) (l22 : List Int) (t25 : Int) (rec0 : (List Int) → Int → Option (Int × Int × Int)) (rec1 : (List Int) → Int → Int → Option (Int × Int × Int)) (l22' : List Int) (step : Int) (j_s : Int) : Option (Int × Int × Int) :=
  (if (decide (0 ≤ j_s) && decide (j_s < ((p.toNat : Nat) : Int))) = true then (if (Nat.ble (j_s.toNat * 1 + 1) l22'.length) = true then (if (decide ((l22'.getD (j_s.toNat * 1) 0) < 0)) = true then (if (decide (0 ≤ j_s) && decide (j_s < ((p.toNat : Nat) : Int))) = true then (if (Nat.ble (j_s.toNat * 1 + 1) l22'.length) = true then (if ((Fo_s_l05Value 1000000 p n_ j_s).isSome) = true then rec1 (l22'.set (j_s.toNat * 1 + 0) step) (wI (step + 1)) (s_l05Value p n_ j_s) else none) else none) else none) else (if (decide (0 ≤ j_s) && decide (j_s < ((p.toNat : Nat) : Int))) = true then (if (Nat.ble (j_s.toNat * 1 + 1) l22'.length) = true then (if (decide (0 ≤ j_s) && decide (j_s < ((p.toNat : Nat) : Int))) = true then (if (Nat.ble (j_s.toNat * 1 + 1) l22'.length) = true then some (l22'.getD (j_s.toNat * 1) 0, wI (step - (l22'.getD (j_s.toNat * 1) 0)), 0) else none) else none) else none) else none)) else none) else none)
def L_s_WalkRound_1 (fu : Nat) (p : Int) (n_ : Int) (s : Int) (l22 : List Int) (t25 : Int) (rec0 : (List Int) → Int → Option (Int × Int × Int)) : Nat → (List Int) → Int → Int → Option (Int × Int × Int)
  | 0, _, _, _ => none
  | f + 1, l22', step, j_s => B_s_WalkRound_1 p n_ s l22 t25 rec0 (L_s_WalkRound_1 fu p n_ s l22 t25 rec0 f) l22' step j_s
theorem loop_s_WalkRound_1 (fu : Nat) (p : Int) (n_ : Int) (s : Int) (l22 : List Int) (t25 : Int) (rc0 : Tab → Option (Int × Int × Int)) : ∀ (f : Nat) (l22' : List Int) (step : Int) (j_s : Int), X_s_WalkRound_1 Try.prog fu p n_ s l22 t25 rc0 f l22' step j_s = L_s_WalkRound_1 fu p n_ s l22 t25 (fun l22 t25 => rc0 (T_s_WalkRound_0 p n_ s l22 t25)) f l22' step j_s := by
  intro f
  induction f with
  | zero => intros; rfl
  | succ f ih =>
    intro l22' step j_s
    have h1 : X_s_WalkRound_1 Try.prog fu p n_ s l22 t25 rc0 (f + 1) l22' step j_s = B_s_WalkRound_1 p n_ s l22 t25 (fun l22 t25 => rc0 (T_s_WalkRound_0 p n_ s l22 t25)) (X_s_WalkRound_1 Try.prog fu p n_ s l22 t25 rc0 f) l22' step j_s := by kernel_rfl
    have h2 : X_s_WalkRound_1 Try.prog fu p n_ s l22 t25 rc0 f = L_s_WalkRound_1 fu p n_ s l22 t25 (fun l22 t25 => rc0 (T_s_WalkRound_0 p n_ s l22 t25)) f := by funext l22' step j_s; exact ih l22' step j_s
    rw [h1, h2]
    rfl
def X_s_WalkRound_0 (P : Program) (fu : Nat) (p : Int) (n_ : Int) (s : Int) (f : Nat) (l22 : List Int) (t25 : Int) : Option (Int × Int × Int) := loopK (exec P S_s_WalkRound 57 (fun _ => fu + 100) (Code.sub [1, 1, 1, 0, 1, 0, 0] (bodyF P 20))) f (T_s_WalkRound_0 p n_ s l22 t25) (kBlock 0 (kSeq (fun zs9 => exec P S_s_WalkRound 57 (fun _ => fu + 100) (Code.sub [1, 1, 1, 1] (bodyF P 20)) zs9 (finT P 20 dec_i_i_i)) (finT P 20 dec_i_i_i)))
def B_s_WalkRound_0 (p : Int) (n_ : Int) (s : Int) (lo1 : (List Int) → Int → Int → Option (Int × Int × Int)) (rec0 : (List Int) → Int → Option (Int × Int × Int)) (l22 : List Int) (t25 : Int) : Option (Int × Int × Int) :=
  (if (decide (t25 < ((p.toNat : Nat) : Int))) = true then (if (decide (0 ≤ t25) && decide (t25 < ((p.toNat : Nat) : Int))) = true then (if (Nat.ble (t25.toNat * 1 + 1) l22.length) = true then rec0 (l22.set (t25.toNat * 1 + 0) (-1)) (wI (t25 + 1)) else none) else none) else lo1 l22 0 s)
def L_s_WalkRound_0 (fu : Nat) (p : Int) (n_ : Int) (s : Int) : Nat → (List Int) → Int → Option (Int × Int × Int)
  | 0, _, _ => none
  | f + 1, l22, t25 => B_s_WalkRound_0 p n_ s (L_s_WalkRound_1 fu p n_ s l22 t25 (L_s_WalkRound_0 fu p n_ s f) (fu + 100)) (L_s_WalkRound_0 fu p n_ s f) l22 t25
theorem loop_s_WalkRound_0 (fu : Nat) (p : Int) (n_ : Int) (s : Int) : ∀ (f : Nat) (l22 : List Int) (t25 : Int), X_s_WalkRound_0 Try.prog fu p n_ s f l22 t25 = L_s_WalkRound_0 fu p n_ s f l22 t25 := by
  intro f
  induction f with
  | zero => intros; rfl
  | succ f ih =>
    intro l22 t25
    have h1 : X_s_WalkRound_0 Try.prog fu p n_ s (f + 1) l22 t25 = B_s_WalkRound_0 p n_ s (X_s_WalkRound_1 Try.prog fu p n_ s l22 t25 (fun t => loopK (exec Try.prog S_s_WalkRound 57 (fun _ => fu + 100) (Code.sub [1, 1, 1, 0, 1, 0, 0] (bodyF Try.prog 20))) f t (kBlock 0 (kSeq (fun zs9 => exec Try.prog S_s_WalkRound 57 (fun _ => fu + 100) (Code.sub [1, 1, 1, 1] (bodyF Try.prog 20)) zs9 (finT Try.prog 20 dec_i_i_i)) (finT Try.prog 20 dec_i_i_i)))) (fu + 100)) (X_s_WalkRound_0 Try.prog fu p n_ s f) l22 t25 := by kernel_rfl
    have h2 : X_s_WalkRound_0 Try.prog fu p n_ s f = L_s_WalkRound_0 fu p n_ s f := by funext l22 t25; exact ih l22 t25
    have c1 : (X_s_WalkRound_1 Try.prog fu p n_ s l22 t25 (fun t => loopK (exec Try.prog S_s_WalkRound 57 (fun _ => fu + 100) (Code.sub [1, 1, 1, 0, 1, 0, 0] (bodyF Try.prog 20))) f t (kBlock 0 (kSeq (fun zs9 => exec Try.prog S_s_WalkRound 57 (fun _ => fu + 100) (Code.sub [1, 1, 1, 1] (bodyF Try.prog 20)) zs9 (finT Try.prog 20 dec_i_i_i)) (finT Try.prog 20 dec_i_i_i)))) (fu + 100)) = L_s_WalkRound_1 fu p n_ s l22 t25 (X_s_WalkRound_0 Try.prog fu p n_ s f) (fu + 100) := by funext l22' step j_s; exact loop_s_WalkRound_1 fu p n_ s l22 t25 (fun t => loopK (exec Try.prog S_s_WalkRound 57 (fun _ => fu + 100) (Code.sub [1, 1, 1, 0, 1, 0, 0] (bodyF Try.prog 20))) f t (kBlock 0 (kSeq (fun zs9 => exec Try.prog S_s_WalkRound 57 (fun _ => fu + 100) (Code.sub [1, 1, 1, 1] (bodyF Try.prog 20)) zs9 (finT Try.prog 20 dec_i_i_i)) (finT Try.prog 20 dec_i_i_i)))) (fu + 100) l22' step j_s
    rw [h1, c1, h2]
    rfl
def G_s_WalkRound (p : Int) (n_ : Int) (s : Int) (lo0 : (List Int) → Int → Option (Int × Int × Int)) : Option (Int × Int × Int) :=
  (if ((s_l05Code p n_ 1 [s]) != 0) = true then some (0, 0, (s_l05Code p n_ 1 [s])) else (if (decide (0 ≤ p) && decide (p ≤ 2000000) && p == p) = true then lo0 (List.replicate p.toNat 0) 0 else none))
def Fo_s_WalkRound (fu : Nat) (p : Int) (n_ : Int) (s : Int) : Option (Int × Int × Int) := G_s_WalkRound p n_ s (L_s_WalkRound_0 fu p n_ s (fu + 100))
theorem eqg_s_WalkRound (fu : Nat) (p : Int) (n_ : Int) (s : Int) : execT Try.prog S_s_WalkRound 20 57 (fun _ => fu + 100) dec_i_i_i [.v (.int .i64 p), .v (.int .i64 n_), .v (.int .i64 s)] = G_s_WalkRound p n_ s (L_s_WalkRound_0 fu p n_ s (fu + 100)) := by
  have h1 : execT Try.prog S_s_WalkRound 20 57 (fun _ => fu + 100) dec_i_i_i [.v (.int .i64 p), .v (.int .i64 n_), .v (.int .i64 s)] = G_s_WalkRound p n_ s (X_s_WalkRound_0 Try.prog fu p n_ s (fu + 100)) := by kernel_rfl
  have c0 : X_s_WalkRound_0 Try.prog fu p n_ s (fu + 100) = L_s_WalkRound_0 fu p n_ s (fu + 100) := by funext l22 t25; exact loop_s_WalkRound_0 fu p n_ s (fu + 100) l22 t25
  rw [h1, c0]
theorem eq_s_WalkRound (fu : Nat) (p : Int) (n_ : Int) (s : Int) : execT Try.prog S_s_WalkRound 20 57 (fun _ => fu + 100) dec_i_i_i [.v (.int .i64 p), .v (.int .i64 n_), .v (.int .i64 s)] = Fo_s_WalkRound fu p n_ s := eqg_s_WalkRound fu p n_ s
def ok_s_WalkRound : (Int) → (Int) → (Int) → (Bool) := shut fun (p : Int) (n_ : Int) (s : Int) => (Fo_s_WalkRound 1000000 p n_ s).isSome
def s_WalkRound : (Int) → (Int) → (Int) → (Int × Int × Int) := shut fun (p : Int) (n_ : Int) (s : Int) => (Fo_s_WalkRound 1000000 p n_ s).getD (0, 0, 0)
theorem ok_s_WalkRound_of {p : Int} {n_ : Int} {s : Int} {r : Int × Int × Int} (e : Fo_s_WalkRound 1000000 p n_ s = some r) : ok_s_WalkRound p n_ s = true := by
  unfold ok_s_WalkRound
  rw [shut_eq, e]
  rfl
theorem s_WalkRound_of {p : Int} {n_ : Int} {s : Int} {r : Int × Int × Int} (e : Fo_s_WalkRound 1000000 p n_ s = some r) : s_WalkRound p n_ s = r := by
  unfold s_WalkRound
  rw [shut_eq, e]
  rfl
theorem tot_s_WalkRound (p : Int) (n_ : Int) (s : Int) (hp : (ok_s_WalkRound p n_ s) = true) : Fo_s_WalkRound 1000000 p n_ s = some (s_WalkRound p n_ s) := by
  unfold ok_s_WalkRound at hp
  rw [shut_eq] at hp
  unfold s_WalkRound
  rw [shut_eq]
  exact of_isSome hp
def run_s_WalkRound : List PV → Option (Bool × List TR)
  | [.v (.int .i64 p), .v (.int .i64 n_), .v (.int .i64 s)] => some (ok_s_WalkRound p n_ s, enc_i_i_i (s_WalkRound p n_ s))
  | _ => none
theorem sound_s_WalkRound : Sound Try.prog 20 run_s_WalkRound := by
  refine sound_of de_i_i_i SO_s_WalkRound (by kernel_rfl) Try.func20 Try.ntmps20 rfl (by kernel_rfl) ?_
  intro W pvs avs rs hargs hrun
  unfold run_s_WalkRound at hrun
  split at hrun
  · simp only [Option.some.injEq, Prod.mk.injEq] at hrun
    obtain ⟨hp, rfl⟩ := hrun
    rename_i p n_ s
    exact ⟨_, _, _, hargs, rfl, (eq_s_WalkRound _ p n_ s).trans (tot_s_WalkRound p n_ s hp)⟩
  · cases hrun


end

end Go.Proofs.Ytjdpbaefonekmaa
