import Derived.Test.YtoblkbpejfojjaaGreatDoorQp
import Derived.Test.YtoblkbpejfojjaaGreatDoorProg
set_option linter.unusedSimpArgs false
set_option linter.unusedVariables false
namespace Go.Proofs.YtoblkbpejfojjaaGreatDoor
open Go.RowKit
noncomputable section
def S_i_OrderOfMove : Sums := ⟨tblS [(47, run_i_moveAsked), (48, run_i_always), (49, run_i_then)], tblM []⟩
theorem SO_i_OrderOfMove : SumsOK Tryz.prog S_i_OrderOfMove := ⟨tblS_ok ⟨⟨Tryz.call47, sound_i_moveAsked⟩, ⟨Tryz.call48, sound_i_always⟩, ⟨Tryz.call49, sound_i_then⟩, True.intro⟩, tblM_ok True.intro⟩
def T_i_OrderOfMove_0 (p : Int) (colour : Int) (m : Int × Int × Int × Int × Int × Int) (v40_0 : Int) (v40_1 : Int) (v40_2 : Int) (v40_3 : Int) (v40_4 : Int) (v40_5 : Int) (k : Int) : Tab := ⟨[.val (.int .i64 p), .val (.int .i64 colour), .val (.agg ⟨[.int .i64 m.1, .int .i64 m.2.1, .int .i64 m.2.2.1, .int .i64 m.2.2.2.1, .int .i64 m.2.2.2.2.1, .int .i64 m.2.2.2.2.2]⟩), .junk, .junk, .ptr 20 0, .val (.int .i64 0), .val (.int .i64 0), .val (.int .i64 (i_moveAsked p colour m (true) (i_always))), .val (.int .i64 k), .ptr 40 0, .val (.int .i64 p), .val (.int .i64 colour), .val (.agg ⟨[.int .i64 m.1, .int .i64 m.2.1, .int .i64 m.2.2.1, .int .i64 m.2.2.2.1, .int .i64 m.2.2.2.2.1, .int .i64 m.2.2.2.2.2]⟩), .val (.int .i64 (i_moveAsked p colour m (true) (i_always))), .val (.int .i64 (i_moveAsked p colour m (true) (i_always))), .val (.bool ((i_moveAsked p colour m (true) (i_always)) != 0)), .junk, .val (.agg ⟨[.int .i64 m.1, .int .i64 m.2.1, .int .i64 m.2.2.1, .int .i64 m.2.2.2.1, .int .i64 m.2.2.2.2.1, .int .i64 m.2.2.2.2.2]⟩), .junk, .junk, .junk, .junk, .junk, .junk, .junk, .junk, .junk, .junk, .junk, .junk], [(20, .box 28 [.val (.int .i64 m.1), .val (.int .i64 m.2.1), .val (.int .i64 m.2.2.1), .val (.int .i64 m.2.2.2.1), .val (.int .i64 m.2.2.2.2.1), .val (.int .i64 m.2.2.2.2.2)]), (40, .box 28 [.val (.int .i64 v40_0), .val (.int .i64 v40_1), .val (.int .i64 v40_2), .val (.int .i64 v40_3), .val (.int .i64 v40_4), .val (.int .i64 v40_5)])]⟩
def X_i_OrderOfMove_0 (P : Program) (fu : Nat) (p : Int) (colour : Int) (m : Int × Int × Int × Int × Int × Int) (f : Nat) (v40_0 : Int) (v40_1 : Int) (v40_2 : Int) (v40_3 : Int) (v40_4 : Int) (v40_5 : Int) (k : Int) : Option (Int × Int) := loopK (exec P S_i_OrderOfMove 31 (fun _ => fu + 100) (Code.sub [1, 1, 1, 0, 1, 0, 0] (bodyF P 7))) f (T_i_OrderOfMove_0 p colour m v40_0 v40_1 v40_2 v40_3 v40_4 v40_5 k) (kBlock 0 (kSeq (fun zs9 => exec P S_i_OrderOfMove 31 (fun _ => fu + 100) (Code.sub [1, 1, 1, 1] (bodyF P 7)) zs9 (finT P 7 dec_i_i)) (finT P 7 dec_i_i)))
def B_i_OrderOfMove_0 (p : Int) (colour : Int) (m : Int × Int × Int × Int × Int × Int) (rec0 : Int → Int → Int → Int → Int → Int → Int → Option (Int × Int)) (v40_0 : Int) (v40_1 : Int) (v40_2 : Int) (v40_3 : Int) (v40_4 : Int) (v40_5 : Int) (k : Int) : Option (Int × Int) :=
  (if (!((v40_0, v40_1, v40_2, v40_3, v40_4, v40_5) == (1, 0, 0, 1, 0, 0))) = true then (if (prB p) = true then rec0 ((i_then p (v40_0, v40_1, v40_2, v40_3, v40_4, v40_5) m).1) ((i_then p (v40_0, v40_1, v40_2, v40_3, v40_4, v40_5) m).2.1) ((i_then p (v40_0, v40_1, v40_2, v40_3, v40_4, v40_5) m).2.2.1) ((i_then p (v40_0, v40_1, v40_2, v40_3, v40_4, v40_5) m).2.2.2.1) ((i_then p (v40_0, v40_1, v40_2, v40_3, v40_4, v40_5) m).2.2.2.2.1) ((i_then p (v40_0, v40_1, v40_2, v40_3, v40_4, v40_5) m).2.2.2.2.2) (wI (k + 1)) else none) else some (k, 0))
def L_i_OrderOfMove_0 (fu : Nat) (p : Int) (colour : Int) (m : Int × Int × Int × Int × Int × Int) : Nat → Int → Int → Int → Int → Int → Int → Int → Option (Int × Int)
  | 0, _, _, _, _, _, _, _ => none
  | f + 1, v40_0, v40_1, v40_2, v40_3, v40_4, v40_5, k => B_i_OrderOfMove_0 p colour m (L_i_OrderOfMove_0 fu p colour m f) v40_0 v40_1 v40_2 v40_3 v40_4 v40_5 k
theorem loop_i_OrderOfMove_0 (fu : Nat) (p : Int) (colour : Int) (m : Int × Int × Int × Int × Int × Int) : ∀ (f : Nat) (v40_0 : Int) (v40_1 : Int) (v40_2 : Int) (v40_3 : Int) (v40_4 : Int) (v40_5 : Int) (k : Int), X_i_OrderOfMove_0 Tryz.prog fu p colour m f v40_0 v40_1 v40_2 v40_3 v40_4 v40_5 k = L_i_OrderOfMove_0 fu p colour m f v40_0 v40_1 v40_2 v40_3 v40_4 v40_5 k := by
  intro f
  induction f with
  | zero => intros; rfl
  | succ f ih =>
    intro v40_0 v40_1 v40_2 v40_3 v40_4 v40_5 k
    have h1 : X_i_OrderOfMove_0 Tryz.prog fu p colour m (f + 1) v40_0 v40_1 v40_2 v40_3 v40_4 v40_5 k = B_i_OrderOfMove_0 p colour m (X_i_OrderOfMove_0 Tryz.prog fu p colour m f) v40_0 v40_1 v40_2 v40_3 v40_4 v40_5 k := by kernel_rfl
    have h2 : X_i_OrderOfMove_0 Tryz.prog fu p colour m f = L_i_OrderOfMove_0 fu p colour m f := by funext v40_0 v40_1 v40_2 v40_3 v40_4 v40_5 k; exact ih v40_0 v40_1 v40_2 v40_3 v40_4 v40_5 k
    rw [h1, h2]
    rfl
def G_i_OrderOfMove (p : Int) (colour : Int) (m : Int × Int × Int × Int × Int × Int) (lo0 : Int → Int → Int → Int → Int → Int → Int → Option (Int × Int)) : Option (Int × Int) :=
  (if ((i_moveAsked p colour m (true) (i_always)) != 0) = true then some (0, (i_moveAsked p colour m (true) (i_always))) else lo0 m.1 m.2.1 m.2.2.1 m.2.2.2.1 m.2.2.2.2.1 m.2.2.2.2.2 1)
def Fo_i_OrderOfMove (fu : Nat) (p : Int) (colour : Int) (m : Int × Int × Int × Int × Int × Int) : Option (Int × Int) := G_i_OrderOfMove p colour m (L_i_OrderOfMove_0 fu p colour m (fu + 100))
theorem eqg_i_OrderOfMove (fu : Nat) (p : Int) (colour : Int) (m : Int × Int × Int × Int × Int × Int) : execT Tryz.prog S_i_OrderOfMove 7 31 (fun _ => fu + 100) dec_i_i [.v (.int .i64 p), .v (.int .i64 colour), .v (.agg ⟨[.int .i64 m.1, .int .i64 m.2.1, .int .i64 m.2.2.1, .int .i64 m.2.2.2.1, .int .i64 m.2.2.2.2.1, .int .i64 m.2.2.2.2.2]⟩)] = G_i_OrderOfMove p colour m (L_i_OrderOfMove_0 fu p colour m (fu + 100)) := by
  have h1 : execT Tryz.prog S_i_OrderOfMove 7 31 (fun _ => fu + 100) dec_i_i [.v (.int .i64 p), .v (.int .i64 colour), .v (.agg ⟨[.int .i64 m.1, .int .i64 m.2.1, .int .i64 m.2.2.1, .int .i64 m.2.2.2.1, .int .i64 m.2.2.2.2.1, .int .i64 m.2.2.2.2.2]⟩)] = G_i_OrderOfMove p colour m (X_i_OrderOfMove_0 Tryz.prog fu p colour m (fu + 100)) := by kernel_rfl
  have c0 : X_i_OrderOfMove_0 Tryz.prog fu p colour m (fu + 100) = L_i_OrderOfMove_0 fu p colour m (fu + 100) := by funext v40_0 v40_1 v40_2 v40_3 v40_4 v40_5 k; exact loop_i_OrderOfMove_0 fu p colour m (fu + 100) v40_0 v40_1 v40_2 v40_3 v40_4 v40_5 k
  rw [h1, c0]
theorem eq_i_OrderOfMove (fu : Nat) (p : Int) (colour : Int) (m : Int × Int × Int × Int × Int × Int) : execT Tryz.prog S_i_OrderOfMove 7 31 (fun _ => fu + 100) dec_i_i [.v (.int .i64 p), .v (.int .i64 colour), .v (.agg ⟨[.int .i64 m.1, .int .i64 m.2.1, .int .i64 m.2.2.1, .int .i64 m.2.2.2.1, .int .i64 m.2.2.2.2.1, .int .i64 m.2.2.2.2.2]⟩)] = Fo_i_OrderOfMove fu p colour m := eqg_i_OrderOfMove fu p colour m
theorem iorder_go (fu : Nat) {p : Int} (c : Int) (m : P6) (hp : prB p = true) {N : Nat} (hN : itM p m N = oneM) (hl : ∀ k, k < N → itM p m k ≠ oneM) (hb : N < 100000) : ∀ d n F, n + d = N → d < F →
    L_i_OrderOfMove_0 fu p c m F (itM p m n).1 (itM p m n).2.1 (itM p m n).2.2.1 (itM p m n).2.2.2.1 (itM p m n).2.2.2.2.1 (itM p m n).2.2.2.2.2 ((n : Int) + 1) = some ((N : Int) + 1, 0)
  | d, n, 0, _, h => absurd h (Nat.not_lt_zero d)
  | 0, n, F + 1, e, _ => by
    obtain rfl : n = N := by omega
    show B_i_OrderOfMove_0 p c m (L_i_OrderOfMove_0 fu p c m F) _ _ _ _ _ _ _ = _
    rw [hN]
    rfl
  | d + 1, n, F + 1, e, hF => by
    have h := iorder_go fu c m hp hN hl hb d (n + 1) F (by omega) (by omega)
    have hne : (!(itM p m n == (1, 0, 0, 1, 0, 0))) = true := by
      have := hl n (by omega)
      unfold oneM at this
      simpa using this
    have hw : wI ((n : Int) + 1 + 1) = ((n + 1 : Nat) : Int) + 1 := by
      rw [wI_eq, w64 (by omega)]
      omega
    show (if (!(itM p m n == (1, 0, 0, 1, 0, 0))) = true then (if prB p = true then L_i_OrderOfMove_0 fu p c m F (i_then p (itM p m n) m).1 (i_then p (itM p m n) m).2.1 (i_then p (itM p m n) m).2.2.1 (i_then p (itM p m n) m).2.2.2.1 (i_then p (itM p m n) m).2.2.2.2.1 (i_then p (itM p m n) m).2.2.2.2.2 (wI ((n : Int) + 1 + 1)) else none) else some ((n : Int) + 1, 0)) = _
    rw [if_pos hne, if_pos hp, hw]
    exact h
theorem iorder_is {p c : Int} {m : P6} (hf : i_IsField p = true) (hz : i_moveAsked p c m true i_always = 0) {N : Nat} (hN : itM p m N = oneM) (hl : ∀ k, k < N → itM p m k ≠ oneM) (hb : N < 1000) :
    Fo_i_OrderOfMove 1000000 p c m = some ((N : Int) + 1, 0) := by
  have hp := Pr_prB (i_IsField_ok hf)
  unfold Fo_i_OrderOfMove G_i_OrderOfMove
  rw [hz, if_neg (by simp)]
  exact iorder_go 1000000 c m hp hN hl (by omega) N 0 (1000000 + 100) (by omega) (by omega)
theorem IOrder_ok (p c : Int) (m : P6) : ∃ r : Int × Int, Fo_i_OrderOfMove 1000000 p c m = some r := by
  by_cases hz : i_moveAsked p c m true i_always = 0
  · obtain ⟨hf, hc, hm, hk, _⟩ := move_ok hz
    obtain ⟨N0, hb, e⟩ := order_ex hf hc hm hk
    obtain ⟨N, h1, h2, h3⟩ := least_of (P := fun n => itM p m n = oneM) N0 e
    exact ⟨_, iorder_is hf hz h2 h3 (by omega)⟩
  · refine ⟨(0, i_moveAsked p c m true i_always), ?_⟩
    unfold Fo_i_OrderOfMove G_i_OrderOfMove
    rw [if_pos (bne_iff_ne.2 hz)]

def i_OrderOfMove : Int → Int → P6 → Int × Int := shut fun p c m => (Fo_i_OrderOfMove 1000000 p c m).getD (0, 0)
theorem i_OrderOfMove_of {p c : Int} {m : P6} {r : Int × Int} (e : Fo_i_OrderOfMove 1000000 p c m = some r) : i_OrderOfMove p c m = r := by
  unfold i_OrderOfMove
  rw [shut_eq, e]
  rfl
theorem tot_i_OrderOfMove (p : Int) (colour : Int) (m : Int × Int × Int × Int × Int × Int) : Fo_i_OrderOfMove 1000000 p colour m = some (i_OrderOfMove p colour m) := by
  obtain ⟨r, h⟩ := IOrder_ok p colour m
  rw [i_OrderOfMove_of h]
  exact h
def run_i_OrderOfMove : List PV → Option (Bool × List TR)
  | [.v (.int .i64 p), .v (.int .i64 colour), .v (.agg ⟨[.int .i64 m0, .int .i64 m1, .int .i64 m2, .int .i64 m3, .int .i64 m4, .int .i64 m5]⟩)] => some (true, enc_i_i (i_OrderOfMove p colour (m0, m1, m2, m3, m4, m5)))
  | _ => none
theorem sound_i_OrderOfMove : Sound Tryz.prog 7 run_i_OrderOfMove := by
  refine sound_of de_i_i SO_i_OrderOfMove (by kernel_rfl) Tryz.func7 Tryz.ntmps7 rfl (by kernel_rfl) ?_
  intro W pvs avs rs hargs hrun
  unfold run_i_OrderOfMove at hrun
  split at hrun
  · simp only [Option.some.injEq, Prod.mk.injEq] at hrun
    obtain ⟨hp, rfl⟩ := hrun
    rename_i p colour m0 m1 m2 m3 m4 m5
    exact ⟨_, _, _, hargs, rfl, (eq_i_OrderOfMove _ p colour (m0, m1, m2, m3, m4, m5)).trans (tot_i_OrderOfMove p colour (m0, m1, m2, m3, m4, m5))⟩
  · cases hrun

def S_s_OrderOfMove : Sums := ⟨tblS [(50, run_s_l07Code), (51, run_s_l07Times)], tblM []⟩
theorem SO_s_OrderOfMove : SumsOK Tryz.prog S_s_OrderOfMove := ⟨tblS_ok ⟨⟨Tryz.call50, sound_s_l07Code⟩, ⟨Tryz.call51, sound_s_l07Times⟩, True.intro⟩, tblM_ok True.intro⟩
def T_s_OrderOfMove_0 (p : Int) (colour : Int) (m : Int × Int × Int × Int × Int × Int) (v44_0 : Int) (v44_1 : Int) (v44_2 : Int) (v44_3 : Int) (v44_4 : Int) (v44_5 : Int) (k : Int) : Tab := ⟨[.val (.int .i64 p), .val (.int .i64 colour), .val (.agg ⟨[.int .i64 m.1, .int .i64 m.2.1, .int .i64 m.2.2.1, .int .i64 m.2.2.2.1, .int .i64 m.2.2.2.2.1, .int .i64 m.2.2.2.2.2]⟩), .junk, .junk, .ptr 20 0, .val (.int .i64 0), .val (.int .i64 0), .val (.int .i64 (s_l07Code p colour m)), .val (.int .i64 k), .ptr 40 0, .ptr 44 0, .val (.int .i64 p), .val (.int .i64 colour), .val (.agg ⟨[.int .i64 m.1, .int .i64 m.2.1, .int .i64 m.2.2.1, .int .i64 m.2.2.2.1, .int .i64 m.2.2.2.2.1, .int .i64 m.2.2.2.2.2]⟩), .val (.int .i64 (s_l07Code p colour m)), .val (.int .i64 (s_l07Code p colour m)), .val (.bool ((s_l07Code p colour m) != 0)), .junk, .val (.agg ⟨[.int .i64 1, .int .i64 0, .int .i64 0, .int .i64 1]⟩), .val (.agg ⟨[.int .i64 1, .int .i64 0, .int .i64 0, .int .i64 1, .int .i64 0, .int .i64 0]⟩), .val (.agg ⟨[.int .i64 m.1, .int .i64 m.2.1, .int .i64 m.2.2.1, .int .i64 m.2.2.2.1, .int .i64 m.2.2.2.2.1, .int .i64 m.2.2.2.2.2]⟩), .junk, .junk, .junk, .junk, .junk, .junk, .junk, .junk, .junk, .junk, .junk], [(20, .box 28 [.val (.int .i64 m.1), .val (.int .i64 m.2.1), .val (.int .i64 m.2.2.1), .val (.int .i64 m.2.2.2.1), .val (.int .i64 m.2.2.2.2.1), .val (.int .i64 m.2.2.2.2.2)]), (40, .box 28 [.val (.int .i64 1), .val (.int .i64 0), .val (.int .i64 0), .val (.int .i64 1), .val (.int .i64 0), .val (.int .i64 0)]), (44, .box 28 [.val (.int .i64 v44_0), .val (.int .i64 v44_1), .val (.int .i64 v44_2), .val (.int .i64 v44_3), .val (.int .i64 v44_4), .val (.int .i64 v44_5)])]⟩
def X_s_OrderOfMove_0 (P : Program) (fu : Nat) (p : Int) (colour : Int) (m : Int × Int × Int × Int × Int × Int) (f : Nat) (v44_0 : Int) (v44_1 : Int) (v44_2 : Int) (v44_3 : Int) (v44_4 : Int) (v44_5 : Int) (k : Int) : Option (Int × Int) := loopK (exec P S_s_OrderOfMove 33 (fun _ => fu + 100) (Code.sub [1, 1, 1, 0, 1, 0, 0] (bodyF P 8))) f (T_s_OrderOfMove_0 p colour m v44_0 v44_1 v44_2 v44_3 v44_4 v44_5 k) (kBlock 0 (kSeq (fun zs9 => exec P S_s_OrderOfMove 33 (fun _ => fu + 100) (Code.sub [1, 1, 1, 1] (bodyF P 8)) zs9 (finT P 8 dec_i_i)) (finT P 8 dec_i_i)))
def B_s_OrderOfMove_0 (p : Int) (colour : Int) (m : Int × Int × Int × Int × Int × Int) (rec0 : Int → Int → Int → Int → Int → Int → Int → Option (Int × Int)) (v44_0 : Int) (v44_1 : Int) (v44_2 : Int) (v44_3 : Int) (v44_4 : Int) (v44_5 : Int) (k : Int) : Option (Int × Int) :=
  (if (!((v44_0, v44_1, v44_2, v44_3, v44_4, v44_5) == (1, 0, 0, 1, 0, 0))) = true then (if (prB p) = true then rec0 ((s_l07Times p (v44_0, v44_1, v44_2, v44_3, v44_4, v44_5) m).1) ((s_l07Times p (v44_0, v44_1, v44_2, v44_3, v44_4, v44_5) m).2.1) ((s_l07Times p (v44_0, v44_1, v44_2, v44_3, v44_4, v44_5) m).2.2.1) ((s_l07Times p (v44_0, v44_1, v44_2, v44_3, v44_4, v44_5) m).2.2.2.1) ((s_l07Times p (v44_0, v44_1, v44_2, v44_3, v44_4, v44_5) m).2.2.2.2.1) ((s_l07Times p (v44_0, v44_1, v44_2, v44_3, v44_4, v44_5) m).2.2.2.2.2) (wI (k + 1)) else none) else some (k, 0))
def L_s_OrderOfMove_0 (fu : Nat) (p : Int) (colour : Int) (m : Int × Int × Int × Int × Int × Int) : Nat → Int → Int → Int → Int → Int → Int → Int → Option (Int × Int)
  | 0, _, _, _, _, _, _, _ => none
  | f + 1, v44_0, v44_1, v44_2, v44_3, v44_4, v44_5, k => B_s_OrderOfMove_0 p colour m (L_s_OrderOfMove_0 fu p colour m f) v44_0 v44_1 v44_2 v44_3 v44_4 v44_5 k
theorem loop_s_OrderOfMove_0 (fu : Nat) (p : Int) (colour : Int) (m : Int × Int × Int × Int × Int × Int) : ∀ (f : Nat) (v44_0 : Int) (v44_1 : Int) (v44_2 : Int) (v44_3 : Int) (v44_4 : Int) (v44_5 : Int) (k : Int), X_s_OrderOfMove_0 Tryz.prog fu p colour m f v44_0 v44_1 v44_2 v44_3 v44_4 v44_5 k = L_s_OrderOfMove_0 fu p colour m f v44_0 v44_1 v44_2 v44_3 v44_4 v44_5 k := by
  intro f
  induction f with
  | zero => intros; rfl
  | succ f ih =>
    intro v44_0 v44_1 v44_2 v44_3 v44_4 v44_5 k
    have h1 : X_s_OrderOfMove_0 Tryz.prog fu p colour m (f + 1) v44_0 v44_1 v44_2 v44_3 v44_4 v44_5 k = B_s_OrderOfMove_0 p colour m (X_s_OrderOfMove_0 Tryz.prog fu p colour m f) v44_0 v44_1 v44_2 v44_3 v44_4 v44_5 k := by kernel_rfl
    have h2 : X_s_OrderOfMove_0 Tryz.prog fu p colour m f = L_s_OrderOfMove_0 fu p colour m f := by funext v44_0 v44_1 v44_2 v44_3 v44_4 v44_5 k; exact ih v44_0 v44_1 v44_2 v44_3 v44_4 v44_5 k
    rw [h1, h2]
    rfl
def G_s_OrderOfMove (p : Int) (colour : Int) (m : Int × Int × Int × Int × Int × Int) (lo0 : Int → Int → Int → Int → Int → Int → Int → Option (Int × Int)) : Option (Int × Int) :=
  (if ((s_l07Code p colour m) != 0) = true then some (0, (s_l07Code p colour m)) else lo0 m.1 m.2.1 m.2.2.1 m.2.2.2.1 m.2.2.2.2.1 m.2.2.2.2.2 1)
def Fo_s_OrderOfMove (fu : Nat) (p : Int) (colour : Int) (m : Int × Int × Int × Int × Int × Int) : Option (Int × Int) := G_s_OrderOfMove p colour m (L_s_OrderOfMove_0 fu p colour m (fu + 100))
theorem eqg_s_OrderOfMove (fu : Nat) (p : Int) (colour : Int) (m : Int × Int × Int × Int × Int × Int) : execT Tryz.prog S_s_OrderOfMove 8 33 (fun _ => fu + 100) dec_i_i [.v (.int .i64 p), .v (.int .i64 colour), .v (.agg ⟨[.int .i64 m.1, .int .i64 m.2.1, .int .i64 m.2.2.1, .int .i64 m.2.2.2.1, .int .i64 m.2.2.2.2.1, .int .i64 m.2.2.2.2.2]⟩)] = G_s_OrderOfMove p colour m (L_s_OrderOfMove_0 fu p colour m (fu + 100)) := by
  have h1 : execT Tryz.prog S_s_OrderOfMove 8 33 (fun _ => fu + 100) dec_i_i [.v (.int .i64 p), .v (.int .i64 colour), .v (.agg ⟨[.int .i64 m.1, .int .i64 m.2.1, .int .i64 m.2.2.1, .int .i64 m.2.2.2.1, .int .i64 m.2.2.2.2.1, .int .i64 m.2.2.2.2.2]⟩)] = G_s_OrderOfMove p colour m (X_s_OrderOfMove_0 Tryz.prog fu p colour m (fu + 100)) := by kernel_rfl
  have c0 : X_s_OrderOfMove_0 Tryz.prog fu p colour m (fu + 100) = L_s_OrderOfMove_0 fu p colour m (fu + 100) := by funext v44_0 v44_1 v44_2 v44_3 v44_4 v44_5 k; exact loop_s_OrderOfMove_0 fu p colour m (fu + 100) v44_0 v44_1 v44_2 v44_3 v44_4 v44_5 k
  rw [h1, c0]
theorem eq_s_OrderOfMove (fu : Nat) (p : Int) (colour : Int) (m : Int × Int × Int × Int × Int × Int) : execT Tryz.prog S_s_OrderOfMove 8 33 (fun _ => fu + 100) dec_i_i [.v (.int .i64 p), .v (.int .i64 colour), .v (.agg ⟨[.int .i64 m.1, .int .i64 m.2.1, .int .i64 m.2.2.1, .int .i64 m.2.2.2.1, .int .i64 m.2.2.2.2.1, .int .i64 m.2.2.2.2.2]⟩)] = Fo_s_OrderOfMove fu p colour m := eqg_s_OrderOfMove fu p colour m
theorem sorder_go (fu : Nat) {p : Int} (c : Int) (m : P6) (hp : prB p = true) (ht : ∀ n, s_l07Times p (itM p m n) m = i_then p (itM p m n) m) {N : Nat} (hN : itM p m N = oneM) (hl : ∀ k, k < N → itM p m k ≠ oneM) (hb : N < 100000) : ∀ d n F, n + d = N → d < F →
    L_s_OrderOfMove_0 fu p c m F (itM p m n).1 (itM p m n).2.1 (itM p m n).2.2.1 (itM p m n).2.2.2.1 (itM p m n).2.2.2.2.1 (itM p m n).2.2.2.2.2 ((n : Int) + 1) = some ((N : Int) + 1, 0)
  | d, n, 0, _, h => absurd h (Nat.not_lt_zero d)
  | 0, n, F + 1, e, _ => by
    obtain rfl : n = N := by omega
    show B_s_OrderOfMove_0 p c m (L_s_OrderOfMove_0 fu p c m F) _ _ _ _ _ _ _ = _
    rw [hN]
    rfl
  | d + 1, n, F + 1, e, hF => by
    have h := sorder_go fu c m hp ht hN hl hb d (n + 1) F (by omega) (by omega)
    have hne : (!(itM p m n == (1, 0, 0, 1, 0, 0))) = true := by
      have := hl n (by omega)
      unfold oneM at this
      simpa using this
    have hw : wI ((n : Int) + 1 + 1) = ((n + 1 : Nat) : Int) + 1 := by
      rw [wI_eq, w64 (by omega)]
      omega
    show (if (!(itM p m n == (1, 0, 0, 1, 0, 0))) = true then (if prB p = true then L_s_OrderOfMove_0 fu p c m F (s_l07Times p (itM p m n) m).1 (s_l07Times p (itM p m n) m).2.1 (s_l07Times p (itM p m n) m).2.2.1 (s_l07Times p (itM p m n) m).2.2.2.1 (s_l07Times p (itM p m n) m).2.2.2.2.1 (s_l07Times p (itM p m n) m).2.2.2.2.2 (wI ((n : Int) + 1 + 1)) else none) else some ((n : Int) + 1, 0)) = _
    rw [if_pos hne, if_pos hp, hw, ht]
    exact h
theorem sorder_is {p c : Int} {m : P6} (hf : i_IsField p = true) (hm : i_isMap p m = true) (hz : i_moveAsked p c m true i_always = 0) {N : Nat} (hN : itM p m N = oneM) (hl : ∀ k, k < N → itM p m k ≠ oneM) (hb : N < 1000) :
    Fo_s_OrderOfMove 1000000 p c m = some ((N : Int) + 1, 0) := by
  obtain ⟨K, _, φ, H⟩ := hom_of hf
  have hp := Pr_prB (i_IsField_ok hf)
  unfold Fo_s_OrderOfMove G_s_OrderOfMove
  rw [code_same p c m, hz, if_neg (by simp)]
  exact sorder_go 1000000 c m hp (fun n => times_then H hf (it_map H hf hm n) hm) hN hl (by omega) N 0 (1000000 + 100) (by omega) (by omega)
theorem SOrder_ok (p c : Int) (m : P6) : ∃ r : Int × Int, Fo_s_OrderOfMove 1000000 p c m = some r := by
  by_cases hz : i_moveAsked p c m true i_always = 0
  · obtain ⟨hf, hc, hm, hk, _⟩ := move_ok hz
    obtain ⟨N0, hb, e⟩ := order_ex hf hc hm hk
    obtain ⟨N, h1, h2, h3⟩ := least_of (P := fun n => itM p m n = oneM) N0 e
    exact ⟨_, sorder_is hf hm hz h2 h3 (by omega)⟩
  · refine ⟨(0, i_moveAsked p c m true i_always), ?_⟩
    unfold Fo_s_OrderOfMove G_s_OrderOfMove
    rw [code_same, if_pos (bne_iff_ne.2 hz)]

def s_OrderOfMove : Int → Int → P6 → Int × Int := shut fun p c m => (Fo_s_OrderOfMove 1000000 p c m).getD (0, 0)
theorem s_OrderOfMove_of {p c : Int} {m : P6} {r : Int × Int} (e : Fo_s_OrderOfMove 1000000 p c m = some r) : s_OrderOfMove p c m = r := by
  unfold s_OrderOfMove
  rw [shut_eq, e]
  rfl
theorem tot_s_OrderOfMove (p : Int) (colour : Int) (m : Int × Int × Int × Int × Int × Int) : Fo_s_OrderOfMove 1000000 p colour m = some (s_OrderOfMove p colour m) := by
  obtain ⟨r, h⟩ := SOrder_ok p colour m
  rw [s_OrderOfMove_of h]
  exact h
def run_s_OrderOfMove : List PV → Option (Bool × List TR)
  | [.v (.int .i64 p), .v (.int .i64 colour), .v (.agg ⟨[.int .i64 m0, .int .i64 m1, .int .i64 m2, .int .i64 m3, .int .i64 m4, .int .i64 m5]⟩)] => some (true, enc_i_i (s_OrderOfMove p colour (m0, m1, m2, m3, m4, m5)))
  | _ => none
theorem sound_s_OrderOfMove : Sound Tryz.prog 8 run_s_OrderOfMove := by
  refine sound_of de_i_i SO_s_OrderOfMove (by kernel_rfl) Tryz.func8 Tryz.ntmps8 rfl (by kernel_rfl) ?_
  intro W pvs avs rs hargs hrun
  unfold run_s_OrderOfMove at hrun
  split at hrun
  · simp only [Option.some.injEq, Prod.mk.injEq] at hrun
    obtain ⟨hp, rfl⟩ := hrun
    rename_i p colour m0 m1 m2 m3 m4 m5
    exact ⟨_, _, _, hargs, rfl, (eq_s_OrderOfMove _ p colour (m0, m1, m2, m3, m4, m5)).trans (tot_s_OrderOfMove p colour (m0, m1, m2, m3, m4, m5))⟩
  · cases hrun


end

end Go.Proofs.YtoblkbpejfojjaaGreatDoor
