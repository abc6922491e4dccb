import Derived.Test.YtcechmaoihckgaaFa
import Derived.Test.YtcechmaoihckgaaProg
set_option linter.unusedSimpArgs false
set_option linter.unusedVariables false
namespace Go.Proofs.Ytcechmaoihckgaa
open Go.RowKit
def dec_a3_i : List TR → Option ((Int × Int × Int) × Int)
  | [.v (.agg ⟨[.int .i64 x0_0, .int .i64 x0_1, .int .i64 x0_2]⟩), .v (.int .i64 x1)] => some ((x0_0, x0_1, x0_2), x1)
  | _ => none
def enc_a3_i : (Int × Int × Int) × Int → List TR
  | ((x0_0, x0_1, x0_2), x1) => [.v (.agg ⟨[.int .i64 x0_0, .int .i64 x0_1, .int .i64 x0_2]⟩), .v (.int .i64 x1)]
theorem de_a3_i (rs : List TR) (x : (Int × Int × Int) × Int) (h : dec_a3_i rs = some x) : rs = enc_a3_i x := by
  unfold dec_a3_i at h
  split at h
  · simp only [Option.some.injEq] at h
    subst h
    rfl
  · cases h
def dec_i_i : List TR → Option (Int × Int)
  | [.v (.int .i64 x0), .v (.int .i64 x1)] => some (x0, x1)
  | _ => none
def enc_i_i : Int × Int → List TR
  | (x0, x1) => [.v (.int .i64 x0), .v (.int .i64 x1)]
theorem de_i_i (rs : List TR) (x : Int × Int) (h : dec_i_i rs = some x) : rs = enc_i_i x := by
  unfold dec_i_i at h
  split at h
  · simp only [Option.some.injEq] at h
    subst h
    rfl
  · cases h
def dec_l2_1_i : List TR → Option ((Nat × List Int) × Int)
  | [.s 2 1 n0 (.ints x0), .v (.int .i64 x1)] => some ((n0, x0), x1)
  | _ => none
def enc_l2_1_i : (Nat × List Int) × Int → List TR
  | ((n0, x0), x1) => [.s 2 1 n0 (.ints x0), .v (.int .i64 x1)]
theorem de_l2_1_i (rs : List TR) (x : (Nat × List Int) × Int) (h : dec_l2_1_i rs = some x) : rs = enc_l2_1_i x := by
  unfold dec_l2_1_i at h
  split at h
  · simp only [Option.some.injEq] at h
    subst h
    rfl
  · cases h
def dec_l25_3 : List TR → Option (Nat × List Int)
  | [.s 25 3 n0 (.ints x0)] => some (n0, x0)
  | _ => none
def enc_l25_3 : Nat × List Int → List TR
  | (n0, x0) => [.s 25 3 n0 (.ints x0)]
theorem de_l25_3 (rs : List TR) (x : Nat × List Int) (h : dec_l25_3 rs = some x) : rs = enc_l25_3 x := by
  unfold dec_l25_3 at h
  split at h
  · simp only [Option.some.injEq] at h
    subst h
    rfl
  · cases h
def dec_l25_3_i : List TR → Option ((Nat × List Int) × Int)
  | [.s 25 3 n0 (.ints x0), .v (.int .i64 x1)] => some ((n0, x0), x1)
  | _ => none
def enc_l25_3_i : (Nat × List Int) × Int → List TR
  | ((n0, x0), x1) => [.s 25 3 n0 (.ints x0), .v (.int .i64 x1)]
theorem de_l25_3_i (rs : List TR) (x : (Nat × List Int) × Int) (h : dec_l25_3_i rs = some x) : rs = enc_l25_3_i x := by
  unfold dec_l25_3_i at h
  split at h
  · simp only [Option.some.injEq] at h
    subst h
    rfl
  · cases h
def clo_a3_b (k : (Int × Int × Int) → Bool) (h : (Int × Int × Int) → Bool) : List Value → Option (Bool × Value)
  | [.agg ⟨[.int .i64 a0_0, .int .i64 a0_1, .int .i64 a0_2]⟩] => some (k (a0_0, a0_1, a0_2), .bool (h (a0_0, a0_1, a0_2)))
  | _ => none
theorem clo_a3_b_ok (g : List Value → Option (Bool × Value)) : ∀ args r, clo_a3_b (fun a0 => okV (g [.agg ⟨[.int .i64 a0.1, .int .i64 a0.2.1, .int .i64 a0.2.2]⟩])) (fun a0 => boolV (g [.agg ⟨[.int .i64 a0.1, .int .i64 a0.2.1, .int .i64 a0.2.2]⟩])) args = some (true, r) → g args = some (true, r) := by
  intro args r h
  unfold clo_a3_b at h
  split at h
  · simp only [Option.some.injEq, Prod.mk.injEq] at h
    obtain ⟨h1, rfl⟩ := h
    exact okV_some h1
  · cases h
def S_s_l09All : Sums := ⟨tblS [], tblM []⟩
theorem SO_s_l09All : SumsOK Try.prog S_s_l09All := ⟨tblS_ok True.intro, tblM_ok True.intro⟩
def T_s_l09All_0 (p : Int) (l8 : List Int) (m8 : Nat) (z : Int) : Tab := ⟨[.val (.int .i64 p), .junk, .val (.slice none 0 0), .row 32, .val (.int .i64 z), .junk, .junk, .val (.agg ⟨[.int .i64 0, .int .i64 0, .int .i64 1]⟩), .junk, .junk, .junk, .junk, .junk, .junk, .junk, .junk, .junk, .junk, .junk, .junk, .junk, .junk, .junk, .junk, .junk, .junk, .junk, .junk, .junk, .junk, .junk, .junk, .junk, .junk, .junk, .junk], [(32, .row 25 3 m8 (.ints l8))]⟩
def T_s_l09All_3 (p : Int) (l8 : List Int) (m8 : Nat) (z : Int) (l8' : List Int) (m8' : Nat) (y : Int) : Tab := ⟨[.val (.int .i64 p), .junk, .val (.slice none 0 0), .row 32, .val (.int .i64 z), .val (.int .i64 y), .junk, .val (.agg ⟨[.int .i64 0, .int .i64 0, .int .i64 1]⟩), .junk, .val (.int .i64 z), .val (.int .i64 p), .val (.bool (decide (z < p))), .junk, .junk, .junk, .junk, .junk, .junk, .junk, .junk, .junk, .junk, .junk, .junk, .junk, .junk, .junk, .junk, .junk, .junk, .junk, .junk, .junk, .junk, .junk, .junk], [(32, .row 25 3 m8' (.ints l8'))]⟩
def T_s_l09All_4 (p : Int) (l8 : List Int) (m8 : Nat) (z : Int) (l8' : List Int) (m8' : Nat) (y : Int) (l8'' : List Int) (m8'' : Nat) (z' : Int) : Tab := ⟨[.val (.int .i64 p), .junk, .val (.slice none 0 0), .row 32, .val (.int .i64 z), .val (.int .i64 y), .val (.int .i64 z'), .val (.agg ⟨[.int .i64 0, .int .i64 0, .int .i64 1]⟩), .junk, .val (.int .i64 z), .val (.int .i64 p), .val (.bool (decide (z < p))), .junk, .junk, .junk, .junk, .junk, .junk, .junk, .val (.int .i64 y), .val (.int .i64 p), .val (.bool (decide (y < p))), .junk, .junk, .junk, .junk, .junk, .junk, .junk, .junk, .junk, .junk, .junk, .junk, .junk, .junk], [(32, .row 25 3 m8'' (.ints l8''))]⟩
def X_s_l09All_4 (P : Program) (fu : Nat) (p : Int) (l8 : List Int) (m8 : Nat) (z : Int) (l8' : List Int) (m8' : Nat) (y : Int) (rc0 : Tab → Option (Nat × List Int)) (rc3 : Tab → Option (Nat × List Int)) (f : Nat) (l8'' : List Int) (m8'' : Nat) (z' : Int) : Option (Nat × List Int) := loopK (exec P S_s_l09All 36 fu (Code.sub [1, 1, 1, 0, 1, 0, 0, 1, 0, 0, 1, 0, 0] (bodyF P 76))) f (T_s_l09All_4 p l8 m8 z l8' m8' y l8'' m8'' z') (kBlock 4 (kBlock 3 (kSeq (fun s => exec P S_s_l09All 36 fu (Code.sub [1, 1, 1, 0, 1, 0, 0, 1, 1] (bodyF P 76)) s (kLoop rc3 (T_s_l09All_3 p l8 m8 z l8' m8' y) (kBlock 2 (kSeq (fun s => exec P S_s_l09All 36 fu (Code.sub [1, 1, 1, 1] (bodyF P 76)) s (finT P 76 dec_l25_3)) (finT P 76 dec_l25_3))))) (kLoop rc3 (T_s_l09All_3 p l8 m8 z l8' m8' y) (kBlock 2 (kSeq (fun s => exec P S_s_l09All 36 fu (Code.sub [1, 1, 1, 1] (bodyF P 76)) s (finT P 76 dec_l25_3)) (finT P 76 dec_l25_3)))))))
def B_s_l09All_4 (p : Int) (l8 : List Int) (m8 : Nat) (z : Int) (l8' : List Int) (m8' : Nat) (y : Int) (rec0 : (List Int) → Nat → Int → Option (Nat × List Int)) (rec3 : (List Int) → Nat → Int → Option (Nat × List Int)) (rec4 : (List Int) → Nat → Int → Option (Nat × List Int)) (l8'' : List Int) (m8'' : Nat) (z' : Int) : Option (Nat × List Int) :=
  (if (decide (z' < p)) = true then (if (Nat.ble 1 1 && Nat.ble (m8'' + 1) 1000000 && Nat.beq 3 (3)) = true then rec4 (l8'' ++ [1, y, z']) (m8'' + 1) (wI (z' + 1)) else none) else rec3 l8'' m8'' (wI (y + 1)))
def L_s_l09All_4 (fu : Nat) (p : Int) (l8 : List Int) (m8 : Nat) (z : Int) (l8' : List Int) (m8' : Nat) (y : Int) (rec0 : (List Int) → Nat → Int → Option (Nat × List Int)) (rec3 : (List Int) → Nat → Int → Option (Nat × List Int)) : Nat → (List Int) → Nat → Int → Option (Nat × List Int)
  | 0, _, _, _ => none
  | f + 1, l8'', m8'', z' => B_s_l09All_4 p l8 m8 z l8' m8' y rec0 rec3 (L_s_l09All_4 fu p l8 m8 z l8' m8' y rec0 rec3 f) l8'' m8'' z'
theorem loop_s_l09All_4 (fu : Nat) (p : Int) (l8 : List Int) (m8 : Nat) (z : Int) (l8' : List Int) (m8' : Nat) (y : Int) (rc0 : Tab → Option (Nat × List Int)) (rc3 : Tab → Option (Nat × List Int)) : ∀ (f : Nat) (l8'' : List Int) (m8'' : Nat) (z' : Int), X_s_l09All_4 Try.prog fu p l8 m8 z l8' m8' y rc0 rc3 f l8'' m8'' z' = L_s_l09All_4 fu p l8 m8 z l8' m8' y (fun l8 m8 z => rc0 (T_s_l09All_0 p l8 m8 z)) (fun l8' m8' y => rc3 (T_s_l09All_3 p l8 m8 z l8' m8' y)) f l8'' m8'' z' := by
  intro f
  induction f with
  | zero => intros; rfl
  | succ f ih =>
    intro l8'' m8'' z'
    have h1 : X_s_l09All_4 Try.prog fu p l8 m8 z l8' m8' y rc0 rc3 (f + 1) l8'' m8'' z' = B_s_l09All_4 p l8 m8 z l8' m8' y (fun l8 m8 z => rc0 (T_s_l09All_0 p l8 m8 z)) (fun l8' m8' y => rc3 (T_s_l09All_3 p l8 m8 z l8' m8' y)) (X_s_l09All_4 Try.prog fu p l8 m8 z l8' m8' y rc0 rc3 f) l8'' m8'' z' := by kernel_rfl
    have h2 : X_s_l09All_4 Try.prog fu p l8 m8 z l8' m8' y rc0 rc3 f = L_s_l09All_4 fu p l8 m8 z l8' m8' y (fun l8 m8 z => rc0 (T_s_l09All_0 p l8 m8 z)) (fun l8' m8' y => rc3 (T_s_l09All_3 p l8 m8 z l8' m8' y)) f := by funext l8'' m8'' z'; exact ih l8'' m8'' z'
    rw [h1, h2]
    rfl
def X_s_l09All_3 (P : Program) (fu : Nat) (p : Int) (l8 : List Int) (m8 : Nat) (z : Int) (rc0 : Tab → Option (Nat × List Int)) (f : Nat) (l8' : List Int) (m8' : Nat) (y : Int) : Option (Nat × List Int) := loopK (exec P S_s_l09All 36 fu (Code.sub [1, 1, 1, 0, 1, 0, 0] (bodyF P 76))) f (T_s_l09All_3 p l8 m8 z l8' m8' y) (kBlock 2 (kSeq (fun s => exec P S_s_l09All 36 fu (Code.sub [1, 1, 1, 1] (bodyF P 76)) s (finT P 76 dec_l25_3)) (finT P 76 dec_l25_3)))
def B_s_l09All_3 (p : Int) (l8 : List Int) (m8 : Nat) (z : Int) (rec0 : (List Int) → Nat → Int → Option (Nat × List Int)) (lo4 : (List Int) → Nat → Int → Option (Nat × List Int)) (rec3 : (List Int) → Nat → Int → Option (Nat × List Int)) (l8' : List Int) (m8' : Nat) (y : Int) : Option (Nat × List Int) :=
  (if (decide (y < p)) = true then lo4 l8' m8' 0 else some (m8', l8'))
def L_s_l09All_3 (fu : Nat) (p : Int) (l8 : List Int) (m8 : Nat) (z : Int) (rec0 : (List Int) → Nat → Int → Option (Nat × List Int)) : Nat → (List Int) → Nat → Int → Option (Nat × List Int)
  | 0, _, _, _ => none
  | f + 1, l8', m8', y => B_s_l09All_3 p l8 m8 z rec0 (L_s_l09All_4 fu p l8 m8 z l8' m8' y rec0 (L_s_l09All_3 fu p l8 m8 z rec0 f) (fu + 100)) (L_s_l09All_3 fu p l8 m8 z rec0 f) l8' m8' y
theorem loop_s_l09All_3 (fu : Nat) (p : Int) (l8 : List Int) (m8 : Nat) (z : Int) (rc0 : Tab → Option (Nat × List Int)) : ∀ (f : Nat) (l8' : List Int) (m8' : Nat) (y : Int), X_s_l09All_3 Try.prog fu p l8 m8 z rc0 f l8' m8' y = L_s_l09All_3 fu p l8 m8 z (fun l8 m8 z => rc0 (T_s_l09All_0 p l8 m8 z)) f l8' m8' y := by
  intro f
  induction f with
  | zero => intros; rfl
  | succ f ih =>
    intro l8' m8' y
    have h1 : X_s_l09All_3 Try.prog fu p l8 m8 z rc0 (f + 1) l8' m8' y = B_s_l09All_3 p l8 m8 z (fun l8 m8 z => rc0 (T_s_l09All_0 p l8 m8 z)) (X_s_l09All_4 Try.prog fu p l8 m8 z l8' m8' y rc0 (fun t => loopK (exec Try.prog S_s_l09All 36 fu (Code.sub [1, 1, 1, 0, 1, 0, 0] (bodyF Try.prog 76))) f t (kBlock 2 (kSeq (fun s => exec Try.prog S_s_l09All 36 fu (Code.sub [1, 1, 1, 1] (bodyF Try.prog 76)) s (finT Try.prog 76 dec_l25_3)) (finT Try.prog 76 dec_l25_3)))) (fu + 100)) (X_s_l09All_3 Try.prog fu p l8 m8 z rc0 f) l8' m8' y := by kernel_rfl
    have h2 : X_s_l09All_3 Try.prog fu p l8 m8 z rc0 f = L_s_l09All_3 fu p l8 m8 z (fun l8 m8 z => rc0 (T_s_l09All_0 p l8 m8 z)) f := by funext l8' m8' y; exact ih l8' m8' y
    have c4 : (X_s_l09All_4 Try.prog fu p l8 m8 z l8' m8' y rc0 (fun t => loopK (exec Try.prog S_s_l09All 36 fu (Code.sub [1, 1, 1, 0, 1, 0, 0] (bodyF Try.prog 76))) f t (kBlock 2 (kSeq (fun s => exec Try.prog S_s_l09All 36 fu (Code.sub [1, 1, 1, 1] (bodyF Try.prog 76)) s (finT Try.prog 76 dec_l25_3)) (finT Try.prog 76 dec_l25_3)))) (fu + 100)) = L_s_l09All_4 fu p l8 m8 z l8' m8' y (fun l8 m8 z => rc0 (T_s_l09All_0 p l8 m8 z)) (X_s_l09All_3 Try.prog fu p l8 m8 z rc0 f) (fu + 100) := by funext l8'' m8'' z'; exact loop_s_l09All_4 fu p l8 m8 z l8' m8' y rc0 (fun t => loopK (exec Try.prog S_s_l09All 36 fu (Code.sub [1, 1, 1, 0, 1, 0, 0] (bodyF Try.prog 76))) f t (kBlock 2 (kSeq (fun s => exec Try.prog S_s_l09All 36 fu (Code.sub [1, 1, 1, 1] (bodyF Try.prog 76)) s (finT Try.prog 76 dec_l25_3)) (finT Try.prog 76 dec_l25_3)))) (fu + 100) l8'' m8'' z'
    rw [h1, c4, h2]
    rfl
def X_s_l09All_0 (P : Program) (fu : Nat) (p : Int) (f : Nat) (l8 : List Int) (m8 : Nat) (z : Int) : Option (Nat × List Int) := loopK (exec P S_s_l09All 36 fu (Code.sub [1, 1, 0, 1, 0, 0] (bodyF P 76))) f (T_s_l09All_0 p l8 m8 z) (kBlock 0 (kSeq (fun s => exec P S_s_l09All 36 fu (Code.sub [1, 1, 1] (bodyF P 76)) s (finT P 76 dec_l25_3)) (finT P 76 dec_l25_3)))
def B_s_l09All_0 (p : Int) (lo3 : (List Int) → Nat → Int → Option (Nat × List Int)) (rec0 : (List Int) → Nat → Int → Option (Nat × List Int)) (l8 : List Int) (m8 : Nat) (z : Int) : Option (Nat × List Int) :=
  (if (decide (z < p)) = true then (if (Nat.ble 1 1 && Nat.ble (m8 + 1) 1000000 && Nat.beq 3 (3)) = true then rec0 (l8 ++ [0, 1, z]) (m8 + 1) (wI (z + 1)) else none) else lo3 l8 m8 0)
def L_s_l09All_0 (fu : Nat) (p : Int) : Nat → (List Int) → Nat → Int → Option (Nat × List Int)
  | 0, _, _, _ => none
  | f + 1, l8, m8, z => B_s_l09All_0 p (L_s_l09All_3 fu p l8 m8 z (L_s_l09All_0 fu p f) (fu + 100)) (L_s_l09All_0 fu p f) l8 m8 z
theorem loop_s_l09All_0 (fu : Nat) (p : Int) : ∀ (f : Nat) (l8 : List Int) (m8 : Nat) (z : Int), X_s_l09All_0 Try.prog fu p f l8 m8 z = L_s_l09All_0 fu p f l8 m8 z := by
  intro f
  induction f with
  | zero => intros; rfl
  | succ f ih =>
    intro l8 m8 z
    have h1 : X_s_l09All_0 Try.prog fu p (f + 1) l8 m8 z = B_s_l09All_0 p (X_s_l09All_3 Try.prog fu p l8 m8 z (fun t => loopK (exec Try.prog S_s_l09All 36 fu (Code.sub [1, 1, 0, 1, 0, 0] (bodyF Try.prog 76))) f t (kBlock 0 (kSeq (fun s => exec Try.prog S_s_l09All 36 fu (Code.sub [1, 1, 1] (bodyF Try.prog 76)) s (finT Try.prog 76 dec_l25_3)) (finT Try.prog 76 dec_l25_3)))) (fu + 100)) (X_s_l09All_0 Try.prog fu p f) l8 m8 z := by kernel_rfl
    have h2 : X_s_l09All_0 Try.prog fu p f = L_s_l09All_0 fu p f := by funext l8 m8 z; exact ih l8 m8 z
    have c3 : (X_s_l09All_3 Try.prog fu p l8 m8 z (fun t => loopK (exec Try.prog S_s_l09All 36 fu (Code.sub [1, 1, 0, 1, 0, 0] (bodyF Try.prog 76))) f t (kBlock 0 (kSeq (fun s => exec Try.prog S_s_l09All 36 fu (Code.sub [1, 1, 1] (bodyF Try.prog 76)) s (finT Try.prog 76 dec_l25_3)) (finT Try.prog 76 dec_l25_3)))) (fu + 100)) = L_s_l09All_3 fu p l8 m8 z (X_s_l09All_0 Try.prog fu p f) (fu + 100) := by funext l8' m8' y; exact loop_s_l09All_3 fu p l8 m8 z (fun t => loopK (exec Try.prog S_s_l09All 36 fu (Code.sub [1, 1, 0, 1, 0, 0] (bodyF Try.prog 76))) f t (kBlock 0 (kSeq (fun s => exec Try.prog S_s_l09All 36 fu (Code.sub [1, 1, 1] (bodyF Try.prog 76)) s (finT Try.prog 76 dec_l25_3)) (finT Try.prog 76 dec_l25_3)))) (fu + 100) l8' m8' y
    rw [h1, c3, h2]
    rfl
def G_s_l09All (p : Int) (lo0 : (List Int) → Nat → Int → Option (Nat × List Int)) : Option (Nat × List Int) :=
  lo0 [0, 0, 1] 1 0
def Fo_s_l09All (fu : Nat) (p : Int) : Option (Nat × List Int) := G_s_l09All p (L_s_l09All_0 fu p (fu + 100))
theorem eqg_s_l09All (fu : Nat) (p : Int) : execT Try.prog S_s_l09All 76 36 fu dec_l25_3 [.v (.int .i64 p)] = G_s_l09All p (L_s_l09All_0 fu p (fu + 100)) := by
  have h1 : execT Try.prog S_s_l09All 76 36 fu dec_l25_3 [.v (.int .i64 p)] = G_s_l09All p (X_s_l09All_0 Try.prog fu p (fu + 100)) := by kernel_rfl
  have c0 : X_s_l09All_0 Try.prog fu p (fu + 100) = L_s_l09All_0 fu p (fu + 100) := by funext l8 m8 z; exact loop_s_l09All_0 fu p (fu + 100) l8 m8 z
  rw [h1, c0]
theorem eq_s_l09All (fu : Nat) (p : Int) : execT Try.prog S_s_l09All 76 36 fu dec_l25_3 [.v (.int .i64 p)] = Fo_s_l09All fu p := eqg_s_l09All fu p
def s_l09All (p : Int) : Nat × List Int := ((places p).length, flat3 (places p))
theorem lo4_s_l09All {p : Int} (hp : prB p = true) (fu : Nat) (l8 : List Int) (m8 : Nat) (z : Int) (l8' : List Int) (m8' : Nat) (y : Int) (rec0 rec3 : List Int → Nat → Int → Option (Nat × List Int)) {F m : Nat} {l : List Int} (hF : p.toNat < F) (hm : m ≤ 100000) :
    L_s_l09All_4 fu p l8 m8 z l8' m8' y rec0 rec3 F l m 0 = rec3 (l ++ flat3 ((List.range p.toNat).map fun z : Nat => (1, y, (z : Int)))) (m + p.toNat) (wI (y + 1)) := by
  obtain ⟨h1, h0, hpn⟩ := prB_nat hp
  exact gather (flat := flat3) flat3_app rfl (L := fun f l m i => L_s_l09All_4 fu p l8 m8 z l8' m8' y rec0 rec3 f l m i) (n := p.toNat) (b := 1) (M := 100000) (fun z : Nat => [(1, y, (z : Int))]) (K := rec3 (l ++ flat3 ((List.range p.toNat).map fun z : Nat => (1, y, (z : Int)))) (m + p.toNat) (wI (y + 1))) (l := l) (m := m) (F := F) (by intro k hk; first | (split <;> simp) | simp_all)
    (fun f k l m hk hm => by
      show B_s_l09All_4 p l8 m8 z l8' m8' y rec0 rec3 (L_s_l09All_4 fu p l8 m8 z l8' m8' y rec0 rec3 f) l m (k : Int) = _
      unfold B_s_l09All_4
      rw [if_pos (cndp hk), if_pos (by simp; omega), wrap_add1 hk (by omega)]
      rfl)
    (fun f hm => by
      show B_s_l09All_4 p l8 m8 z l8' m8' y rec0 rec3 (L_s_l09All_4 fu p l8 m8 z l8' m8' y rec0 rec3 f) (l ++ flat3 ((List.range p.toNat).flatMap (fun z : Nat => [(1, y, (z : Int))]))) (m + ((List.range p.toNat).flatMap (fun z : Nat => [(1, y, (z : Int))])).length) ((p.toNat : Nat) : Int) = _
      unfold B_s_l09All_4
      rw [if_neg (by simp; omega), flatMap_one]
      simp) hF hm
theorem lo3_s_l09All {p : Int} (hp : prB p = true) (fu : Nat) (l8 : List Int) (m8 : Nat) (z : Int) (rec0 : List Int → Nat → Int → Option (Nat × List Int)) {F m : Nat} {l : List Int} (hF : p.toNat < F) (hm : m ≤ 1000)  :
    L_s_l09All_3 fu p l8 m8 z rec0 F l m 0 = some (m + ((List.range p.toNat).flatMap fun y : Nat => (List.range p.toNat).map fun z : Nat => ((1 : Int), (y : Int), (z : Int))).length, l ++ flat3 ((List.range p.toNat).flatMap fun y : Nat => (List.range p.toNat).map fun z : Nat => ((1 : Int), (y : Int), (z : Int)))) := by
  obtain ⟨h1, h0, hpn⟩ := prB_nat hp
  exact gather (flat := flat3) flat3_app rfl (L := fun f l m i => L_s_l09All_3 fu p l8 m8 z rec0 f l m i) (n := p.toNat) (b := 31) (M := 1000) (fun y : Nat => (List.range p.toNat).map fun z : Nat => (1, (y : Int), (z : Int))) (K := some (m + ((List.range p.toNat).flatMap fun y : Nat => (List.range p.toNat).map fun z : Nat => ((1 : Int), (y : Int), (z : Int))).length, l ++ flat3 ((List.range p.toNat).flatMap fun y : Nat => (List.range p.toNat).map fun z : Nat => ((1 : Int), (y : Int), (z : Int))))) (l := l) (m := m) (F := F) (by intro k hk; first | (split <;> simp) | simp_all)
    (fun f k l m hk hm => by
      show B_s_l09All_3 p l8 m8 z rec0 (L_s_l09All_4 fu p l8 m8 z l m (k : Int) rec0 (L_s_l09All_3 fu p l8 m8 z rec0 f) (fu + 100)) (L_s_l09All_3 fu p l8 m8 z rec0 f) l m (k : Int) = _
      unfold B_s_l09All_3
      rw [if_pos (cndp hk), lo4_s_l09All hp fu _ _ _ _ _ _ _ _ (by omega) (by omega), wrap_add1 hk (by omega)]
      simp)
    (fun f hm => by
      show B_s_l09All_3 p l8 m8 z rec0 (L_s_l09All_4 fu p l8 m8 z (l ++ flat3 ((List.range p.toNat).flatMap (fun y : Nat => (List.range p.toNat).map fun z : Nat => (1, (y : Int), (z : Int))))) (m + ((List.range p.toNat).flatMap (fun y : Nat => (List.range p.toNat).map fun z : Nat => (1, (y : Int), (z : Int)))).length) ((p.toNat : Nat) : Int) rec0 (L_s_l09All_3 fu p l8 m8 z rec0 f) (fu + 100)) (L_s_l09All_3 fu p l8 m8 z rec0 f) (l ++ flat3 ((List.range p.toNat).flatMap (fun y : Nat => (List.range p.toNat).map fun z : Nat => (1, (y : Int), (z : Int))))) (m + ((List.range p.toNat).flatMap (fun y : Nat => (List.range p.toNat).map fun z : Nat => (1, (y : Int), (z : Int)))).length) ((p.toNat : Nat) : Int) = _
      unfold B_s_l09All_3
      rw [if_neg (by simp; omega)]) hF hm

theorem tot_s_l09All (p : Int) (hp : (prB p) = true) : Fo_s_l09All 1000000 p = some (s_l09All p) := by
  obtain ⟨h1, h0, hpn⟩ := prB_nat hp
  have hl : [0, 0, 1] ++ flat3 ((List.range p.toNat).map fun z : Nat => ((0 : Int), (1 : Int), (z : Int))) ++ flat3 ((List.range p.toNat).flatMap fun y : Nat => (List.range p.toNat).map fun z : Nat => ((1 : Int), (y : Int), (z : Int))) = flat3 (places p) := by
    unfold places
    show _ = flat3 ([(0, 0, 1)] ++ (_ ++ _))
    rw [flat3_app, flat3_app, List.append_assoc]
    rfl
  have hmm : 1 + ((List.range p.toNat).map fun z : Nat => ((0 : Int), (1 : Int), (z : Int))).length + ((List.range p.toNat).flatMap fun y : Nat => (List.range p.toNat).map fun z : Nat => ((1 : Int), (y : Int), (z : Int))).length = (places p).length := by
    unfold places
    rw [List.length_cons, List.length_append]
    omega
  unfold Fo_s_l09All G_s_l09All
  exact gather (flat := flat3) flat3_app rfl (L := fun f l m i => L_s_l09All_0 1000000 p f l m i) (n := p.toNat) (b := 1) (M := 1) (fun z : Nat => [(0, 1, (z : Int))]) (K := some ((places p).length, flat3 (places p))) (l := [0, 0, 1]) (m := 1) (F := (1000000 + 100)) (by intro k hk; first | (split <;> simp) | simp_all)
    (fun f k l m hk hm => by
      show B_s_l09All_0 p (L_s_l09All_3 1000000 p l m (k : Int) (L_s_l09All_0 1000000 p f) (1000000 + 100)) (L_s_l09All_0 1000000 p f) l m (k : Int) = _
      unfold B_s_l09All_0
      rw [if_pos (cndp hk), if_pos (by simp; omega), wrap_add1 hk (by omega)]
      rfl)
    (fun f hm => by
      show B_s_l09All_0 p (L_s_l09All_3 1000000 p ([0, 0, 1] ++ flat3 ((List.range p.toNat).flatMap (fun z : Nat => [(0, 1, (z : Int))]))) (1 + ((List.range p.toNat).flatMap (fun z : Nat => [(0, 1, (z : Int))])).length) ((p.toNat : Nat) : Int) (L_s_l09All_0 1000000 p f) (1000000 + 100)) (L_s_l09All_0 1000000 p f) ([0, 0, 1] ++ flat3 ((List.range p.toNat).flatMap (fun z : Nat => [(0, 1, (z : Int))]))) (1 + ((List.range p.toNat).flatMap (fun z : Nat => [(0, 1, (z : Int))])).length) ((p.toNat : Nat) : Int) = _
      unfold B_s_l09All_0
      simp only [flatMap_one]
      rw [if_neg (by simp; omega), lo3_s_l09All hp _ _ _ _ _ (by omega) (by simp; omega)]
      rw [hl, hmm]) (by omega) (Nat.le_refl _)
def run_s_l09All : List PV → Option (Bool × List TR)
  | [.v (.int .i64 p)] => some (prB p, enc_l25_3 (s_l09All p))
  | _ => none
theorem sound_s_l09All : Sound Try.prog 76 run_s_l09All := by
  refine sound_of de_l25_3 SO_s_l09All (by kernel_rfl) Try.func76 Try.ntmps76 rfl (by kernel_rfl) ?_
  intro W pvs avs rs hargs hrun
  unfold run_s_l09All at hrun
  split at hrun
  · simp only [Option.some.injEq, Prod.mk.injEq] at hrun
    obtain ⟨hp, rfl⟩ := hrun
    rename_i p
    exact ⟨_, _, _, hargs, rfl, (eq_s_l09All _ p).trans (tot_s_l09All p hp)⟩
  · cases hrun

def S_s_l09On : Sums := ⟨tblS [(76, run_s_l09All), (64, run_s_l09Product)], tblM []⟩
theorem SO_s_l09On : SumsOK Try.prog S_s_l09On := ⟨tblS_ok ⟨⟨Try.call76, sound_s_l09All⟩, ⟨Try.call64, sound_s_l09Product⟩, True.intro⟩, tblM_ok True.intro⟩
def T_s_l09On_0 (p : Int) (pole : Int × Int × Int) (l10 : List Int) (m10 : Nat) (i : Int) : Tab := ⟨[.val (.int .i64 p), .val (.agg ⟨[.int .i64 pole.1, .int .i64 pole.2.1, .int .i64 pole.2.2]⟩), .junk, .ptr 12 0, .val (.slice none 0 0), .row 36, .row 40, .val (.int .i64 i), .val (.int .i64 p), .row 36, .junk, .junk, .junk, .junk, .junk, .junk, .junk, .junk, .junk, .junk, .junk, .junk, .junk, .junk, .junk, .junk, .junk, .junk, .junk, .junk, .junk, .junk, .junk], [(12, .box 25 [.val (.int .i64 pole.1), .val (.int .i64 pole.2.1), .val (.int .i64 pole.2.2)]), (36, .row 25 3 ((s_l09All p).1) (.ints ((s_l09All p).2))), (40, .row 25 3 m10 (.ints l10))]⟩
def X_s_l09On_0 (P : Program) (fu : Nat) (p : Int) (pole : Int × Int × Int) (f : Nat) (l10 : List Int) (m10 : Nat) (i : Int) : Option (Nat × List Int) := loopK (exec P S_s_l09On 33 fu (Code.sub [1, 1, 0, 1, 0, 0] (bodyF P 83))) f (T_s_l09On_0 p pole l10 m10 i) (kBlock 0 (kSeq (fun s => exec P S_s_l09On 33 fu (Code.sub [1, 1, 1] (bodyF P 83)) s (finT P 83 dec_l25_3)) (finT P 83 dec_l25_3)))
def B_s_l09On_0 (p : Int) (pole : Int × Int × Int) (rec0 : (List Int) → Nat → Int → Option (Nat × List Int)) (l10 : List Int) (m10 : Nat) (i : Int) : Option (Nat × List Int) :=
  (if (decide (i < (((s_l09All p).1 : Nat) : Int))) = true then (if (decide (0 ≤ i) && decide (i < (((s_l09All p).1 : Nat) : Int))) = true then (if (Nat.ble (i.toNat * 3 + 3) (((s_l09All p).2).length)) = true then (if (prB p) = true then (if ((s_l09Product p (((s_l09All p).2).getD (i.toNat * 3 + 0) 0, ((s_l09All p).2).getD (i.toNat * 3 + 1) 0, ((s_l09All p).2).getD (i.toNat * 3 + 2) 0) pole) == 0) = true then (if (decide (0 ≤ i) && decide (i < (((s_l09All p).1 : Nat) : Int))) = true then (if (Nat.ble (i.toNat * 3 + 3) (((s_l09All p).2).length)) = true then (if (Nat.ble 1 1 && Nat.ble (m10 + 1) 1000000 && Nat.beq 3 (3)) = true then rec0 (l10 ++ [((s_l09All p).2).getD (i.toNat * 3 + 0) 0, ((s_l09All p).2).getD (i.toNat * 3 + 1) 0, ((s_l09All p).2).getD (i.toNat * 3 + 2) 0]) (m10 + 1) (wI (i + 1)) else none) else none) else none) else rec0 l10 m10 (wI (i + 1))) else none) else none) else none) else some (m10, l10))
def L_s_l09On_0 (fu : Nat) (p : Int) (pole : Int × Int × Int) : Nat → (List Int) → Nat → Int → Option (Nat × List Int)
  | 0, _, _, _ => none
  | f + 1, l10, m10, i => B_s_l09On_0 p pole (L_s_l09On_0 fu p pole f) l10 m10 i
theorem loop_s_l09On_0 (fu : Nat) (p : Int) (pole : Int × Int × Int) : ∀ (f : Nat) (l10 : List Int) (m10 : Nat) (i : Int), X_s_l09On_0 Try.prog fu p pole f l10 m10 i = L_s_l09On_0 fu p pole f l10 m10 i := by
  intro f
  induction f with
  | zero => intros; rfl
  | succ f ih =>
    intro l10 m10 i
    have h1 : X_s_l09On_0 Try.prog fu p pole (f + 1) l10 m10 i = B_s_l09On_0 p pole (X_s_l09On_0 Try.prog fu p pole f) l10 m10 i := by kernel_rfl
    have h2 : X_s_l09On_0 Try.prog fu p pole f = L_s_l09On_0 fu p pole f := by funext l10 m10 i; exact ih l10 m10 i
    rw [h1, h2]
    rfl
def G_s_l09On (p : Int) (pole : Int × Int × Int) (lo0 : (List Int) → Nat → Int → Option (Nat × List Int)) : Option (Nat × List Int) :=
  (if (prB p) = true then lo0 [] 0 0 else none)
def Fo_s_l09On (fu : Nat) (p : Int) (pole : Int × Int × Int) : Option (Nat × List Int) := G_s_l09On p pole (L_s_l09On_0 fu p pole (fu + 100))
theorem eqg_s_l09On (fu : Nat) (p : Int) (pole : Int × Int × Int) : execT Try.prog S_s_l09On 83 33 fu dec_l25_3 [.v (.int .i64 p), .v (.agg ⟨[.int .i64 pole.1, .int .i64 pole.2.1, .int .i64 pole.2.2]⟩)] = G_s_l09On p pole (L_s_l09On_0 fu p pole (fu + 100)) := by
  have h1 : execT Try.prog S_s_l09On 83 33 fu dec_l25_3 [.v (.int .i64 p), .v (.agg ⟨[.int .i64 pole.1, .int .i64 pole.2.1, .int .i64 pole.2.2]⟩)] = G_s_l09On p pole (X_s_l09On_0 Try.prog fu p pole (fu + 100)) := by kernel_rfl
  have c0 : X_s_l09On_0 Try.prog fu p pole (fu + 100) = L_s_l09On_0 fu p pole (fu + 100) := by funext l10 m10 i; exact loop_s_l09On_0 fu p pole (fu + 100) l10 m10 i
  rw [h1, c0]
theorem eq_s_l09On (fu : Nat) (p : Int) (pole : Int × Int × Int) : execT Try.prog S_s_l09On 83 33 fu dec_l25_3 [.v (.int .i64 p), .v (.agg ⟨[.int .i64 pole.1, .int .i64 pole.2.1, .int .i64 pole.2.2]⟩)] = Fo_s_l09On fu p pole := eqg_s_l09On fu p pole
def s_l09On (p : Int) (pole : P3) : Nat × List Int := (((places p).filter fun zz => (s_l09Product p zz pole == 0)).length, flat3 ((places p).filter fun zz => (s_l09Product p zz pole == 0)))
theorem lo0_s_l09On (p : Int) (pole : P3) (hp : prB p = true) {F : Nat} (hF : 993 < F) : L_s_l09On_0 1000000 p pole F [] 0 0 = some (((places p).filter fun zz => (s_l09Product p zz pole == 0)).length, flat3 ((places p).filter fun zz => (s_l09Product p zz pole == 0))) := by
  have hlen : (places p).length ≤ 993 := places_len hp
  exact gather (flat := flat3) flat3_app rfl (L := fun f l m i => L_s_l09On_0 1000000 p pole f l m i) (n := (places p).length) (b := 1) (M := 0) (fun k => if (s_l09Product p (R3 (flat3 (places p)) k) pole == 0) = true then [R3 (flat3 (places p)) k] else []) (K := (some (((places p).filter fun zz => (s_l09Product p zz pole == 0)).length, flat3 ((places p).filter fun zz => (s_l09Product p zz pole == 0))))) (l := []) (m := 0) (F := F) (by intro k hk; first | (split <;> simp) | simp_all)
    (fun f k l m hk hm => by
      show B_s_l09On_0 p pole (L_s_l09On_0 1000000 p pole f) l m (k : Int) = _
      unfold B_s_l09On_0
      have x0 : prB p = true := hp
      have e0 : decide (0 ≤ (k : Int)) = true := by simp
      have e1 := cnd hk
      have e3 : (k : Int).toNat = k := Int.toNat_natCast k
      have e4 := row3_ok (flat3_len _) hk
      have e5 : Nat.ble 1 1 = true := rfl
      have e6 : Nat.ble (m + 1) 1000000 = true := leb (by omega)
      rw [show s_l09All p = ((places p).length, flat3 (places p)) from rfl]
      simp only [e0, e1, e3, e4, e5, e6, beq33, x0, Bool.and_true, Bool.true_and, if_true, wrap_add1 hk (by omega)]
      have hq0 : ((s_l09Product p ((flat3 (places p)).getD (k * 3 + 0) 0, (flat3 (places p)).getD (k * 3 + 1) 0, (flat3 (places p)).getD (k * 3 + 2) 0) pole == 0)) = ((s_l09Product p (R3 (flat3 (places p)) k) pole == 0)) := rfl
      try rw [hq0]
      generalize ((s_l09Product p (R3 (flat3 (places p)) k) pole == 0)) = c0
      cases c0 <;> first
        | rfl
        | (simp only [Bool.false_eq_true, Bool.false_and, Bool.and_false, Bool.true_and, if_false, if_true]
           rw [show flat3 [] = [] from rfl, List.append_nil]
           rfl))
    (fun f hm => by
      show B_s_l09On_0 p pole (L_s_l09On_0 1000000 p pole f) ([] ++ flat3 ((List.range (places p).length).flatMap (fun k => if (s_l09Product p (R3 (flat3 (places p)) k) pole == 0) = true then [R3 (flat3 (places p)) k] else []))) (0 + ((List.range (places p).length).flatMap (fun k => if (s_l09Product p (R3 (flat3 (places p)) k) pole == 0) = true then [R3 (flat3 (places p)) k] else [])).length) (((places p).length : Nat) : Int) = _
      unfold B_s_l09On_0
      have hkp : ((List.range ((places p).length)).flatMap fun k => if (s_l09Product p (R3 (flat3 (places p)) k) pole == 0) = true then [R3 (flat3 (places p)) k] else []) = (rows3 ((places p).length) (flat3 (places p))).filter (fun zz => (s_l09Product p zz pole == 0)) := keep3 ((places p).length) (flat3 (places p)) (fun zz => (s_l09Product p zz pole == 0))
      rw [show s_l09All p = ((places p).length, flat3 (places p)) from rfl]
      rw [if_neg (by simp), hkp, rows3_flat3]
      simp) (by omega) (Nat.le_refl _)

theorem tot_s_l09On (p : Int) (pole : Int × Int × Int) (hp : (prB p) = true) : Fo_s_l09On 1000000 p pole = some (s_l09On p pole) := by
  unfold Fo_s_l09On G_s_l09On
  rw [if_pos hp]
  exact lo0_s_l09On p pole hp (by omega)
def run_s_l09On : List PV → Option (Bool × List TR)
  | [.v (.int .i64 p), .v (.agg ⟨[.int .i64 pole0, .int .i64 pole1, .int .i64 pole2]⟩)] => some (prB p, enc_l25_3 (s_l09On p (pole0, pole1, pole2)))
  | _ => none
theorem sound_s_l09On : Sound Try.prog 83 run_s_l09On := by
  refine sound_of de_l25_3 SO_s_l09On (by kernel_rfl) Try.func83 Try.ntmps83 rfl (by kernel_rfl) ?_
  intro W pvs avs rs hargs hrun
  unfold run_s_l09On at hrun
  split at hrun
  · simp only [Option.some.injEq, Prod.mk.injEq] at hrun
    obtain ⟨hp, rfl⟩ := hrun
    rename_i p pole0 pole1 pole2
    exact ⟨_, _, _, hargs, rfl, (eq_s_l09On _ p (pole0, pole1, pole2)).trans (tot_s_l09On p (pole0, pole1, pole2) hp)⟩
  · cases hrun

def S_s_KindOfLine : Sums := ⟨tblS [(58, run_s_l09Code), (83, run_s_l09On), (59, run_s_l09Null)], tblM []⟩
theorem SO_s_KindOfLine : SumsOK Try.prog S_s_KindOfLine := ⟨tblS_ok ⟨⟨Try.call58, sound_s_l09Code⟩, ⟨Try.call83, sound_s_l09On⟩, ⟨Try.call59, sound_s_l09Null⟩, True.intro⟩, tblM_ok True.intro⟩
def T_s_KindOfLine_0 (p : Int) (pole : Int × Int × Int) (count : Int) (i : Int) : Tab := ⟨[.val (.int .i64 p), .val (.agg ⟨[.int .i64 pole.1, .int .i64 pole.2.1, .int .i64 pole.2.2]⟩), .junk, .ptr 12 0, .val (.int .i64 0), .val (.int .i64 0), .val (.int .i64 (s_l09Code p [pole])), .row 76, .val (.int .i64 count), .val (.int .i64 i), .val (.int .i64 p), .val (.agg ⟨[.int .i64 pole.1, .int .i64 pole.2.1, .int .i64 pole.2.2]⟩), .row 48, .val (.int .i64 (s_l09Code p [pole])), .val (.int .i64 (s_l09Code p [pole])), .val (.bool ((s_l09Code p [pole]) != 0)), .junk, .val (.int .i64 p), .val (.agg ⟨[.int .i64 pole.1, .int .i64 pole.2.1, .int .i64 pole.2.2]⟩), .row 76, .junk, .junk, .junk, .junk, .junk, .junk, .junk, .junk, .junk, .junk, .junk, .junk, .junk, .junk, .junk], [(12, .box 25 [.val (.int .i64 pole.1), .val (.int .i64 pole.2.1), .val (.int .i64 pole.2.2)]), (48, .row 25 3 1 (.ints [pole.1, pole.2.1, pole.2.2])), (76, .row 25 3 ((s_l09On p pole).1) (.ints ((s_l09On p pole).2)))]⟩
def X_s_KindOfLine_0 (P : Program) (fu : Nat) (p : Int) (pole : Int × Int × Int) (f : Nat) (count : Int) (i : Int) : Option (Int × Int) := loopK (exec P S_s_KindOfLine 35 fu (Code.sub [1, 1, 1, 0, 1, 0, 0] (bodyF P 35))) f (T_s_KindOfLine_0 p pole count i) (kBlock 0 (kSeq (fun s => exec P S_s_KindOfLine 35 fu (Code.sub [1, 1, 1, 1] (bodyF P 35)) s (finT P 35 dec_i_i)) (finT P 35 dec_i_i)))
def B_s_KindOfLine_0 (p : Int) (pole : Int × Int × Int) (rec0 : Int → Int → Option (Int × Int)) (count : Int) (i : Int) : Option (Int × Int) :=
  (if (decide (i < (((s_l09On p pole).1 : Nat) : Int))) = true then (if (decide (0 ≤ i) && decide (i < (((s_l09On p pole).1 : Nat) : Int))) = true then (if (Nat.ble (i.toNat * 3 + 3) (((s_l09On p pole).2).length)) = true then (if (prB p) = true then (if (s_l09Null p (((s_l09On p pole).2).getD (i.toNat * 3 + 0) 0, ((s_l09On p pole).2).getD (i.toNat * 3 + 1) 0, ((s_l09On p pole).2).getD (i.toNat * 3 + 2) 0)) = true then rec0 (wI (count + 1)) (wI (i + 1)) else rec0 count (wI (i + 1))) else none) else none) else none) else some (count, 0))
def L_s_KindOfLine_0 (fu : Nat) (p : Int) (pole : Int × Int × Int) : Nat → Int → Int → Option (Int × Int)
  | 0, _, _ => none
  | f + 1, count, i => B_s_KindOfLine_0 p pole (L_s_KindOfLine_0 fu p pole f) count i
theorem loop_s_KindOfLine_0 (fu : Nat) (p : Int) (pole : Int × Int × Int) : ∀ (f : Nat) (count : Int) (i : Int), X_s_KindOfLine_0 Try.prog fu p pole f count i = L_s_KindOfLine_0 fu p pole f count i := by
  intro f
  induction f with
  | zero => intros; rfl
  | succ f ih =>
    intro count i
    have h1 : X_s_KindOfLine_0 Try.prog fu p pole (f + 1) count i = B_s_KindOfLine_0 p pole (X_s_KindOfLine_0 Try.prog fu p pole f) count i := by kernel_rfl
    have h2 : X_s_KindOfLine_0 Try.prog fu p pole f = L_s_KindOfLine_0 fu p pole f := by funext count i; exact ih count i
    rw [h1, h2]
    rfl
def G_s_KindOfLine (p : Int) (pole : Int × Int × Int) (lo0 : Int → Int → Option (Int × Int)) : Option (Int × Int) :=
  (if ((s_l09Code p [pole]) != 0) = true then some (0, (s_l09Code p [pole])) else (if (prB p) = true then lo0 0 0 else none))
def Fo_s_KindOfLine (fu : Nat) (p : Int) (pole : Int × Int × Int) : Option (Int × Int) := G_s_KindOfLine p pole (L_s_KindOfLine_0 fu p pole (fu + 100))
theorem eqg_s_KindOfLine (fu : Nat) (p : Int) (pole : Int × Int × Int) : execT Try.prog S_s_KindOfLine 35 35 fu dec_i_i [.v (.int .i64 p), .v (.agg ⟨[.int .i64 pole.1, .int .i64 pole.2.1, .int .i64 pole.2.2]⟩)] = G_s_KindOfLine p pole (L_s_KindOfLine_0 fu p pole (fu + 100)) := by
  have h1 : execT Try.prog S_s_KindOfLine 35 35 fu dec_i_i [.v (.int .i64 p), .v (.agg ⟨[.int .i64 pole.1, .int .i64 pole.2.1, .int .i64 pole.2.2]⟩)] = G_s_KindOfLine p pole (X_s_KindOfLine_0 Try.prog fu p pole (fu + 100)) := by kernel_rfl
  have c0 : X_s_KindOfLine_0 Try.prog fu p pole (fu + 100) = L_s_KindOfLine_0 fu p pole (fu + 100) := by funext count i; exact loop_s_KindOfLine_0 fu p pole (fu + 100) count i
  rw [h1, c0]
theorem eq_s_KindOfLine (fu : Nat) (p : Int) (pole : Int × Int × Int) : execT Try.prog S_s_KindOfLine 35 35 fu dec_i_i [.v (.int .i64 p), .v (.agg ⟨[.int .i64 pole.1, .int .i64 pole.2.1, .int .i64 pole.2.2]⟩)] = Fo_s_KindOfLine fu p pole := eqg_s_KindOfLine fu p pole
def V_s_KindOfLine_0 (p : Int) (pole : Int × Int × Int) : Int → Int → Int × Int := fun _ _ => (((((((places p).filter fun zz => (s_l09Product p zz pole == 0))).filter fun zz => s_l09Null p zz).length : Nat) : Int), 0)
theorem lo0_s_KindOfLine (p : Int) (pole : P3) (hp : prB p = true) {F : Nat} (hF : 993 < F) : L_s_KindOfLine_0 1000000 p pole F 0 0 = some (((((((places p).filter fun zz => (s_l09Product p zz pole == 0))).filter fun zz => s_l09Null p zz).length : Nat) : Int), 0) := by
  have hlen : (((places p).filter fun zz => (s_l09Product p zz pole == 0))).length ≤ 993 := Nat.le_trans (List.length_filter_le _ _) (places_len hp)
  have h := tally (L := fun f s i => L_s_KindOfLine_0 1000000 p pole f s i) (n := (((places p).filter fun zz => (s_l09Product p zz pole == 0))).length) (q := fun k => s_l09Null p (R3 (flat3 (((places p).filter fun zz => (s_l09Product p zz pole == 0)))) k)) (K := fun s => some (s, 0)) (F := F) (by omega)
    (fun f k s hk h0 h1 => by
      show B_s_KindOfLine_0 p pole (L_s_KindOfLine_0 1000000 p pole f) s (k : Int) = _
      unfold B_s_KindOfLine_0
      have e0 : decide (0 ≤ (k : Int)) = true := by simp
      have e1 := cnd hk
      have e3 : (k : Int).toNat = k := Int.toNat_natCast k
      have e4 := row3_ok (flat3_len _) hk
      rw [show s_l09On p pole = ((((places p).filter fun zz => (s_l09Product p zz pole == 0))).length, flat3 (((places p).filter fun zz => (s_l09Product p zz pole == 0)))) from rfl]
      have e7 : wI (s + 1) = s + 1 := by rw [wI_eq]; unfold wrap64; omega
      simp only [e0, e1, e3, e4, hp, Bool.and_true, Bool.true_and, if_true, wrap_add1 hk (by omega), e7]
      have hq : (s_l09Null p ((flat3 (((places p).filter fun zz => (s_l09Product p zz pole == 0)))).getD (k * 3 + 0) 0, (flat3 (((places p).filter fun zz => (s_l09Product p zz pole == 0)))).getD (k * 3 + 1) 0, (flat3 (((places p).filter fun zz => (s_l09Product p zz pole == 0)))).getD (k * 3 + 2) 0)) = (s_l09Null p (R3 (flat3 (((places p).filter fun zz => (s_l09Product p zz pole == 0)))) k)) := rfl
      rw [hq]
      cases (s_l09Null p (R3 (flat3 (((places p).filter fun zz => (s_l09Product p zz pole == 0)))) k)) <;> rfl)
    (fun f s => by
      show B_s_KindOfLine_0 p pole (L_s_KindOfLine_0 1000000 p pole f) s (((((places p).filter fun zz => (s_l09Product p zz pole == 0))).length : Nat) : Int) = _
      unfold B_s_KindOfLine_0
      rw [show s_l09On p pole = ((((places p).filter fun zz => (s_l09Product p zz pole == 0))).length, flat3 (((places p).filter fun zz => (s_l09Product p zz pole == 0)))) from rfl]
      rw [if_neg (by simp)])
  rw [count3 _ _ (fun zz => s_l09Null p zz), rows3_flat3] at h
  exact h

def s_KindOfLine (p : Int) (pole : Int × Int × Int) : Int × Int :=
  (if ((s_l09Code p [pole]) != 0) = true then (0, (s_l09Code p [pole])) else V_s_KindOfLine_0 p pole 0 0)
theorem tot_s_KindOfLine (p : Int) (pole : Int × Int × Int) : Fo_s_KindOfLine 1000000 p pole = some (s_KindOfLine p pole) := by
  unfold Fo_s_KindOfLine G_s_KindOfLine s_KindOfLine
  (try simp only [wI_eq])
  repeat' (first | with_reducible rfl | refine chk_opt (by first | with_reducible rfl | exact Bool.true_or _ | (with_reducible exact asked_prB ‹_›) | (with_reducible exact l09Code_prB ‹_›) | (with_reducible exact l01Code_prB ‹_›) | (with_reducible exact l01Numbers_prB ‹_›) | (with_reducible exact l01Lines_prB ‹_›) | (with_reducible exact asked_prB0 ‹_›) | (with_reducible exact l09Code_prB0 ‹_›) | (with_reducible exact l01Code_prB0 ‹_›) | (with_reducible exact l01Numbers_prB0 ‹_›) | (with_reducible exact l01Lines_prB0 ‹_›) | (with_reducible exact field_prB ‹_›) | (with_reducible exact field_prB0 ‹_›) | (with_reducible exact l08Code_prB ‹_›) | (with_reducible exact l08Code_prB0 ‹_›) | (with_reducible exact l08Given_prB ‹_›) | (with_reducible exact l08Given_prB0 ‹_›) | exact mk_ok (by (first | (with_reducible assumption) | (with_reducible exact asked_prB ‹_›) | (with_reducible exact l09Code_prB ‹_›) | (with_reducible exact l01Code_prB ‹_›) | (with_reducible exact l01Numbers_prB ‹_›) | (with_reducible exact l01Lines_prB ‹_›) | (with_reducible exact asked_prB0 ‹_›) | (with_reducible exact l09Code_prB0 ‹_›) | (with_reducible exact l01Code_prB0 ‹_›) | (with_reducible exact l01Numbers_prB0 ‹_›) | (with_reducible exact l01Lines_prB0 ‹_›) | (with_reducible exact field_prB ‹_›) | (with_reducible exact field_prB0 ‹_›) | (with_reducible exact l08Code_prB ‹_›) | (with_reducible exact l08Code_prB0 ‹_›) | (with_reducible exact l08Given_prB ‹_›) | (with_reducible exact l08Given_prB0 ‹_›))) | exact and_all (by (first | (with_reducible assumption) | (with_reducible exact asked_prB ‹_›) | (with_reducible exact l09Code_prB ‹_›) | (with_reducible exact l01Code_prB ‹_›) | (with_reducible exact l01Numbers_prB ‹_›) | (with_reducible exact l01Lines_prB ‹_›) | (with_reducible exact asked_prB0 ‹_›) | (with_reducible exact l09Code_prB0 ‹_›) | (with_reducible exact l01Code_prB0 ‹_›) | (with_reducible exact l01Numbers_prB0 ‹_›) | (with_reducible exact l01Lines_prB0 ‹_›) | (with_reducible exact field_prB ‹_›) | (with_reducible exact field_prB0 ‹_›) | (with_reducible exact l08Code_prB ‹_›) | (with_reducible exact l08Code_prB0 ‹_›) | (with_reducible exact l08Given_prB ‹_›) | (with_reducible exact l08Given_prB0 ‹_›))) (fun _ => rfl) | exact and_all (by (first | (with_reducible assumption) | (with_reducible exact asked_prB ‹_›) | (with_reducible exact l09Code_prB ‹_›) | (with_reducible exact l01Code_prB ‹_›) | (with_reducible exact l01Numbers_prB ‹_›) | (with_reducible exact l01Lines_prB ‹_›) | (with_reducible exact asked_prB0 ‹_›) | (with_reducible exact l09Code_prB0 ‹_›) | (with_reducible exact l01Code_prB0 ‹_›) | (with_reducible exact l01Numbers_prB0 ‹_›) | (with_reducible exact l01Lines_prB0 ‹_›) | (with_reducible exact field_prB ‹_›) | (with_reducible exact field_prB0 ‹_›) | (with_reducible exact l08Code_prB ‹_›) | (with_reducible exact l08Code_prB0 ‹_›) | (with_reducible exact l08Given_prB ‹_›) | (with_reducible exact l08Given_prB0 ‹_›))) (fun _ => by (first | (with_reducible assumption) | (with_reducible exact asked_prB ‹_›) | (with_reducible exact l09Code_prB ‹_›) | (with_reducible exact l01Code_prB ‹_›) | (with_reducible exact l01Numbers_prB ‹_›) | (with_reducible exact l01Lines_prB ‹_›) | (with_reducible exact asked_prB0 ‹_›) | (with_reducible exact l09Code_prB0 ‹_›) | (with_reducible exact l01Code_prB0 ‹_›) | (with_reducible exact l01Numbers_prB0 ‹_›) | (with_reducible exact l01Lines_prB0 ‹_›) | (with_reducible exact field_prB ‹_›) | (with_reducible exact field_prB0 ‹_›) | (with_reducible exact l08Code_prB ‹_›) | (with_reducible exact l08Code_prB0 ‹_›) | (with_reducible exact l08Given_prB ‹_›) | (with_reducible exact l08Given_prB0 ‹_›)))) ?_ | refine ite_opt (fun _ => ?_) (fun _ => ?_) | exact lo0_s_KindOfLine _ _ (by (first | (with_reducible assumption) | (with_reducible exact asked_prB ‹_›) | (with_reducible exact l09Code_prB ‹_›) | (with_reducible exact l01Code_prB ‹_›) | (with_reducible exact l01Numbers_prB ‹_›) | (with_reducible exact l01Lines_prB ‹_›) | (with_reducible exact asked_prB0 ‹_›) | (with_reducible exact l09Code_prB0 ‹_›) | (with_reducible exact l01Code_prB0 ‹_›) | (with_reducible exact l01Numbers_prB0 ‹_›) | (with_reducible exact l01Lines_prB0 ‹_›) | (with_reducible exact field_prB ‹_›) | (with_reducible exact field_prB0 ‹_›) | (with_reducible exact l08Code_prB ‹_›) | (with_reducible exact l08Code_prB0 ‹_›) | (with_reducible exact l08Given_prB ‹_›) | (with_reducible exact l08Given_prB0 ‹_›))) (by omega) | rfl)
def run_s_KindOfLine : List PV → Option (Bool × List TR)
  | [.v (.int .i64 p), .v (.agg ⟨[.int .i64 pole0, .int .i64 pole1, .int .i64 pole2]⟩)] => some (true, enc_i_i (s_KindOfLine p (pole0, pole1, pole2)))
  | _ => none
theorem sound_s_KindOfLine : Sound Try.prog 35 run_s_KindOfLine := by
  refine sound_of de_i_i SO_s_KindOfLine (by kernel_rfl) Try.func35 Try.ntmps35 rfl (by kernel_rfl) ?_
  intro W pvs avs rs hargs hrun
  unfold run_s_KindOfLine at hrun
  split at hrun
  · simp only [Option.some.injEq, Prod.mk.injEq] at hrun
    obtain ⟨hp, rfl⟩ := hrun
    rename_i p pole0 pole1 pole2
    exact ⟨_, _, _, hargs, rfl, (eq_s_KindOfLine _ p (pole0, pole1, pole2)).trans (tot_s_KindOfLine p (pole0, pole1, pole2))⟩
  · cases hrun

def S_i_KindOfLine_c1 : Sums := ⟨tblS [(62, run_i_isPlace)], tblM []⟩
theorem SO_i_KindOfLine_c1 : SumsOK Try.prog S_i_KindOfLine_c1 := ⟨tblS_ok ⟨⟨Try.call62, sound_i_isPlace⟩, True.intro⟩, tblM_ok True.intro⟩
def Fo_i_KindOfLine_c1 (c0 : Int) (c1 : Int × Int × Int) : Option (Bool) :=
  some (i_isPlace c0 c1)
theorem eq_i_KindOfLine_c1 (c0 : Int) (c1 : Int × Int × Int) : execT Try.prog S_i_KindOfLine_c1 84 6 1000000 dec_b [.p [.int .i64 c0], .p [.int .i64 c1.1, .int .i64 c1.2.1, .int .i64 c1.2.2]] = Fo_i_KindOfLine_c1 c0 c1 := by
  kernel_rfl
def i_KindOfLine_c1 (c0 : Int) (c1 : Int × Int × Int) : Bool :=
  (i_isPlace c0 c1)
theorem tot_i_KindOfLine_c1 (c0 : Int) (c1 : Int × Int × Int) : Fo_i_KindOfLine_c1 c0 c1 = some (i_KindOfLine_c1 c0 c1) := by
  unfold Fo_i_KindOfLine_c1 i_KindOfLine_c1
  (try simp only [wI_eq])
  repeat' (first | with_reducible rfl | refine ite_opt (fun _ => ?_) (fun _ => ?_) | rfl)
def run_i_KindOfLine_c1 : List PV → Option (Bool × List TR)
  | [.p [.int .i64 c0], .p [.int .i64 c10, .int .i64 c11, .int .i64 c12]] => some (true, enc_b (i_KindOfLine_c1 c0 (c10, c11, c12)))
  | _ => none
theorem sound_i_KindOfLine_c1 : Sound Try.prog 84 run_i_KindOfLine_c1 := by
  refine sound_of de_b SO_i_KindOfLine_c1 (by kernel_rfl) Try.func84 Try.ntmps84 rfl (by kernel_rfl) ?_
  intro W pvs avs rs hargs hrun
  unfold run_i_KindOfLine_c1 at hrun
  split at hrun
  · simp only [Option.some.injEq, Prod.mk.injEq] at hrun
    obtain ⟨hp, rfl⟩ := hrun
    rename_i c0 c10 c11 c12
    exact ⟨_, _, _, hargs, rfl, (eq_i_KindOfLine_c1 c0 (c10, c11, c12)).trans (tot_i_KindOfLine_c1 c0 (c10, c11, c12))⟩
  · cases hrun

def S_i_placesOn_c1 : Sums := ⟨tblS [(67, run_i_placeProduct)], tblM []⟩
theorem SO_i_placesOn_c1 : SumsOK Try.prog S_i_placesOn_c1 := ⟨tblS_ok ⟨⟨Try.call67, sound_i_placeProduct⟩, True.intro⟩, tblM_ok True.intro⟩
def Fo_i_placesOn_c1 (a : Int × Int × Int) (c0 : Int) (c1 : Int × Int × Int) : Option (Bool) :=
  (if (prB c0) = true then some ((i_placeProduct c0 a c1) == 0) else none)
theorem eq_i_placesOn_c1 (a : Int × Int × Int) (c0 : Int) (c1 : Int × Int × Int) : execT Try.prog S_i_placesOn_c1 110 10 1000000 dec_b [.v (.agg ⟨[.int .i64 a.1, .int .i64 a.2.1, .int .i64 a.2.2]⟩), .p [.int .i64 c0], .p [.int .i64 c1.1, .int .i64 c1.2.1, .int .i64 c1.2.2]] = Fo_i_placesOn_c1 a c0 c1 := by
  kernel_rfl
def i_placesOn_c1 (a : Int × Int × Int) (c0 : Int) (c1 : Int × Int × Int) : Bool :=
  (i_placeProduct c0 a c1) == 0
theorem tot_i_placesOn_c1 (a : Int × Int × Int) (c0 : Int) (c1 : Int × Int × Int) (hp : (prB c0) = true) : Fo_i_placesOn_c1 a c0 c1 = some (i_placesOn_c1 a c0 c1) := by
  have h0 := prB_ne hp
  unfold Fo_i_placesOn_c1 i_placesOn_c1
  (try simp only [wI_eq])
  repeat' (first | with_reducible rfl | with_reducible refine chk_opt hp ?_ | with_reducible refine chk_opt h0 ?_ | refine chk_opt (and_all hp fun _ => hp) ?_ | refine chk_opt (and_all hp fun _ => rfl) ?_ | refine ite_opt (fun _ => ?_) (fun _ => ?_) | rfl)
def run_i_placesOn_c1 : List PV → Option (Bool × List TR)
  | [.v (.agg ⟨[.int .i64 a0, .int .i64 a1, .int .i64 a2]⟩), .p [.int .i64 c0], .p [.int .i64 c10, .int .i64 c11, .int .i64 c12]] => some (prB c0, enc_b (i_placesOn_c1 (a0, a1, a2) c0 (c10, c11, c12)))
  | _ => none
theorem sound_i_placesOn_c1 : Sound Try.prog 110 run_i_placesOn_c1 := by
  refine sound_of de_b SO_i_placesOn_c1 (by kernel_rfl) Try.func110 Try.ntmps110 rfl (by kernel_rfl) ?_
  intro W pvs avs rs hargs hrun
  unfold run_i_placesOn_c1 at hrun
  split at hrun
  · simp only [Option.some.injEq, Prod.mk.injEq] at hrun
    obtain ⟨hp, rfl⟩ := hrun
    rename_i a0 a1 a2 c0 c10 c11 c12
    exact ⟨_, _, _, hargs, rfl, (eq_i_placesOn_c1 (a0, a1, a2) c0 (c10, c11, c12)).trans (tot_i_placesOn_c1 (a0, a1, a2) c0 (c10, c11, c12) hp)⟩
  · cases hrun

def S_i_placesWith : Sums := ⟨tblS [], tblM []⟩
theorem SO_i_placesWith : SumsOK Try.prog S_i_placesWith := ⟨tblS_ok True.intro, tblM_ok True.intro⟩
def T_i_placesWith_0 (p : Int) (holdsk : (Int × Int × Int) → Bool) (holdsh : (Int × Int × Int) → Bool) (l13 : List Int) (m13 : Nat) (z : Int) : Tab := ⟨[.val (.int .i64 p), .fn (clo_a3_b holdsk holdsh), .junk, .junk, .val (.slice none 0 0), .row 52, .val (.int .i64 z), .junk, .junk, .junk, .junk, .junk, .val (.agg ⟨[.int .i64 0, .int .i64 0, .int .i64 1]⟩), .junk, .junk, .junk, .junk, .junk, .junk, .junk, .junk, .junk, .junk, .junk, .junk, .junk, .junk, .junk, .junk, .junk, .junk, .junk, .junk, .junk, .junk, .junk, .junk, .junk, .junk, .junk, .junk, .junk, .junk, .junk, .junk, .junk, .junk, .junk, .junk, .junk, .junk, .junk, .junk, .junk, .junk, .junk], [(52, .row 25 3 m13 (.ints l13))]⟩
def T_i_placesWith_3 (p : Int) (holdsk : (Int × Int × Int) → Bool) (holdsh : (Int × Int × Int) → Bool) (l13 : List Int) (m13 : Nat) (z : Int) (l13' : List Int) (m13' : Nat) (y : Int) : Tab := ⟨[.val (.int .i64 p), .fn (clo_a3_b holdsk holdsh), .junk, .junk, .val (.slice none 0 0), .row 52, .val (.int .i64 z), .val (.int .i64 y), .junk, .junk, .junk, .junk, .val (.agg ⟨[.int .i64 0, .int .i64 0, .int .i64 1]⟩), .junk, .val (.int .i64 z), .val (.int .i64 p), .val (.bool (decide (z < p))), .junk, .junk, .junk, .junk, .junk, .junk, .junk, .junk, .junk, .junk, .junk, .junk, .junk, .junk, .junk, .junk, .junk, .junk, .junk, .junk, .junk, .junk, .junk, .junk, .junk, .junk, .junk, .junk, .junk, .junk, .junk, .junk, .junk, .junk, .junk, .junk, .junk, .junk, .junk], [(52, .row 25 3 m13' (.ints l13'))]⟩
def T_i_placesWith_4 (p : Int) (holdsk : (Int × Int × Int) → Bool) (holdsh : (Int × Int × Int) → Bool) (l13 : List Int) (m13 : Nat) (z : Int) (l13' : List Int) (m13' : Nat) (y : Int) (l13'' : List Int) (m13'' : Nat) (z' : Int) : Tab := ⟨[.val (.int .i64 p), .fn (clo_a3_b holdsk holdsh), .junk, .junk, .val (.slice none 0 0), .row 52, .val (.int .i64 z), .val (.int .i64 y), .val (.int .i64 z'), .junk, .junk, .junk, .val (.agg ⟨[.int .i64 0, .int .i64 0, .int .i64 1]⟩), .junk, .val (.int .i64 z), .val (.int .i64 p), .val (.bool (decide (z < p))), .junk, .junk, .junk, .junk, .junk, .junk, .junk, .val (.int .i64 y), .val (.int .i64 p), .val (.bool (decide (y < p))), .junk, .junk, .junk, .junk, .junk, .junk, .junk, .junk, .junk, .junk, .junk, .junk, .junk, .junk, .junk, .junk, .junk, .junk, .junk, .junk, .junk, .junk, .junk, .junk, .junk, .junk, .junk, .junk, .junk], [(52, .row 25 3 m13'' (.ints l13''))]⟩
def T_i_placesWith_5 (p : Int) (holdsk : (Int × Int × Int) → Bool) (holdsh : (Int × Int × Int) → Bool) (l13 : List Int) (m13 : Nat) (z : Int) (l13' : List Int) (m13' : Nat) (y : Int) (l40 : List Int) (m40 : Nat) (t43 : Int) : Tab := ⟨[.val (.int .i64 p), .fn (clo_a3_b holdsk holdsh), .junk, .junk, .val (.slice none 0 0), .row 52, .val (.int .i64 z), .val (.int .i64 y), .junk, .row 160, .junk, .junk, .val (.agg ⟨[.int .i64 0, .int .i64 0, .int .i64 1]⟩), .junk, .val (.int .i64 z), .val (.int .i64 p), .val (.bool (decide (z < p))), .junk, .junk, .junk, .junk, .junk, .junk, .junk, .val (.int .i64 y), .val (.int .i64 p), .val (.bool (decide (y < p))), .junk, .junk, .junk, .junk, .junk, .junk, .junk, .junk, .junk, .junk, .junk, .junk, .junk, .junk, .row 52, .val (.int .i64 ((m13' : Nat) : Int)), .val (.int .i64 t43), .junk, .junk, .junk, .junk, .junk, .junk, .junk, .junk, .junk, .junk, .junk, .junk], [(52, .row 25 3 m13' (.ints l13')), (160, .row 25 3 m40 (.ints l40))]⟩
def X_i_placesWith_4 (P : Program) (fu : Nat) (p : Int) (holdsk : (Int × Int × Int) → Bool) (holdsh : (Int × Int × Int) → Bool) (l13 : List Int) (m13 : Nat) (z : Int) (l13' : List Int) (m13' : Nat) (y : Int) (rc0 : Tab → Option (Nat × List Int)) (rc3 : Tab → Option (Nat × List Int)) (f : Nat) (l13'' : List Int) (m13'' : Nat) (z' : Int) : Option (Nat × List Int) := loopK (exec P S_i_placesWith 56 fu (Code.sub [1, 1, 1, 0, 1, 0, 0, 1, 0, 0, 1, 0, 0] (bodyF P 78))) f (T_i_placesWith_4 p holdsk holdsh l13 m13 z l13' m13' y l13'' m13'' z') (kBlock 4 (kBlock 3 (kSeq (fun s => exec P S_i_placesWith 56 fu (Code.sub [1, 1, 1, 0, 1, 0, 0, 1, 1] (bodyF P 78)) s (kLoop rc3 (T_i_placesWith_3 p holdsk holdsh l13 m13 z l13' m13' y) (kBlock 2 (kSeq (fun s => exec P S_i_placesWith 56 fu (Code.sub [1, 1, 1, 1] (bodyF P 78)) s (finT P 78 dec_l25_3)) (finT P 78 dec_l25_3))))) (kLoop rc3 (T_i_placesWith_3 p holdsk holdsh l13 m13 z l13' m13' y) (kBlock 2 (kSeq (fun s => exec P S_i_placesWith 56 fu (Code.sub [1, 1, 1, 1] (bodyF P 78)) s (finT P 78 dec_l25_3)) (finT P 78 dec_l25_3)))))))
def B_i_placesWith_4 (p : Int) (holdsk : (Int × Int × Int) → Bool) (holdsh : (Int × Int × Int) → Bool) (l13 : List Int) (m13 : Nat) (z : Int) (l13' : List Int) (m13' : Nat) (y : Int) (rec0 : (List Int) → Nat → Int → Option (Nat × List Int)) (rec3 : (List Int) → Nat → Int → Option (Nat × List Int)) (rec4 : (List Int) → Nat → Int → Option (Nat × List Int)) (l13'' : List Int) (m13'' : Nat) (z' : Int) : Option (Nat × List Int) :=
  (if (decide (z' < p)) = true then (if (Nat.ble 1 1 && Nat.ble (m13'' + 1) 1000000 && Nat.beq 3 (3)) = true then rec4 (l13'' ++ [1, y, z']) (m13'' + 1) (wI (z' + 1)) else none) else rec3 l13'' m13'' (wI (y + 1)))
def L_i_placesWith_4 (fu : Nat) (p : Int) (holdsk : (Int × Int × Int) → Bool) (holdsh : (Int × Int × Int) → Bool) (l13 : List Int) (m13 : Nat) (z : Int) (l13' : List Int) (m13' : Nat) (y : Int) (rec0 : (List Int) → Nat → Int → Option (Nat × List Int)) (rec3 : (List Int) → Nat → Int → Option (Nat × List Int)) : Nat → (List Int) → Nat → Int → Option (Nat × List Int)
  | 0, _, _, _ => none
  | f + 1, l13'', m13'', z' => B_i_placesWith_4 p holdsk holdsh l13 m13 z l13' m13' y rec0 rec3 (L_i_placesWith_4 fu p holdsk holdsh l13 m13 z l13' m13' y rec0 rec3 f) l13'' m13'' z'
theorem loop_i_placesWith_4 (fu : Nat) (p : Int) (holdsk : (Int × Int × Int) → Bool) (holdsh : (Int × Int × Int) → Bool) (l13 : List Int) (m13 : Nat) (z : Int) (l13' : List Int) (m13' : Nat) (y : Int) (rc0 : Tab → Option (Nat × List Int)) (rc3 : Tab → Option (Nat × List Int)) : ∀ (f : Nat) (l13'' : List Int) (m13'' : Nat) (z' : Int), X_i_placesWith_4 Try.prog fu p holdsk holdsh l13 m13 z l13' m13' y rc0 rc3 f l13'' m13'' z' = L_i_placesWith_4 fu p holdsk holdsh l13 m13 z l13' m13' y (fun l13 m13 z => rc0 (T_i_placesWith_0 p holdsk holdsh l13 m13 z)) (fun l13' m13' y => rc3 (T_i_placesWith_3 p holdsk holdsh l13 m13 z l13' m13' y)) f l13'' m13'' z' := by
  intro f
  induction f with
  | zero => intros; rfl
  | succ f ih =>
    intro l13'' m13'' z'
    have h1 : X_i_placesWith_4 Try.prog fu p holdsk holdsh l13 m13 z l13' m13' y rc0 rc3 (f + 1) l13'' m13'' z' = B_i_placesWith_4 p holdsk holdsh l13 m13 z l13' m13' y (fun l13 m13 z => rc0 (T_i_placesWith_0 p holdsk holdsh l13 m13 z)) (fun l13' m13' y => rc3 (T_i_placesWith_3 p holdsk holdsh l13 m13 z l13' m13' y)) (X_i_placesWith_4 Try.prog fu p holdsk holdsh l13 m13 z l13' m13' y rc0 rc3 f) l13'' m13'' z' := by kernel_rfl
    have h2 : X_i_placesWith_4 Try.prog fu p holdsk holdsh l13 m13 z l13' m13' y rc0 rc3 f = L_i_placesWith_4 fu p holdsk holdsh l13 m13 z l13' m13' y (fun l13 m13 z => rc0 (T_i_placesWith_0 p holdsk holdsh l13 m13 z)) (fun l13' m13' y => rc3 (T_i_placesWith_3 p holdsk holdsh l13 m13 z l13' m13' y)) f := by funext l13'' m13'' z'; exact ih l13'' m13'' z'
    rw [h1, h2]
    rfl
def X_i_placesWith_5 (P : Program) (fu : Nat) (p : Int) (holdsk : (Int × Int × Int) → Bool) (holdsh : (Int × Int × Int) → Bool) (l13 : List Int) (m13 : Nat) (z : Int) (l13' : List Int) (m13' : Nat) (y : Int) (rc0 : Tab → Option (Nat × List Int)) (rc3 : Tab → Option (Nat × List Int)) (f : Nat) (l40 : List Int) (m40 : Nat) (t43 : Int) : Option (Nat × List Int) := loopK (exec P S_i_placesWith 56 fu (Code.sub [1, 1, 1, 1, 1, 0, 1, 0, 0] (bodyF P 78))) f (T_i_placesWith_5 p holdsk holdsh l13 m13 z l13' m13' y l40 m40 t43) (kBlock 6 (kSeq (fun s => exec P S_i_placesWith 56 fu (Code.sub [1, 1, 1, 1, 1, 1] (bodyF P 78)) s (finT P 78 dec_l25_3)) (finT P 78 dec_l25_3)))
def B_i_placesWith_5 (p : Int) (holdsk : (Int × Int × Int) → Bool) (holdsh : (Int × Int × Int) → Bool) (l13 : List Int) (m13 : Nat) (z : Int) (l13' : List Int) (m13' : Nat) (y : Int) (rec0 : (List Int) → Nat → Int → Option (Nat × List Int)) (rec3 : (List Int) → Nat → Int → Option (Nat × List Int)) (rec5 : (List Int) → Nat → Int → Option (Nat × List Int)) (l40 : List Int) (m40 : Nat) (t43 : Int) : Option (Nat × List Int) :=
  (if (decide (t43 < ((m13' : Nat) : Int))) = true then (if (decide (0 ≤ t43) && decide (t43 < ((m13' : Nat) : Int))) = true then (if (Nat.ble (t43.toNat * 3 + 3) l13'.length) = true then (if (holdsk (l13'.getD (t43.toNat * 3 + 0) 0, l13'.getD (t43.toNat * 3 + 1) 0, l13'.getD (t43.toNat * 3 + 2) 0)) = true then (if (holdsh (l13'.getD (t43.toNat * 3 + 0) 0, l13'.getD (t43.toNat * 3 + 1) 0, l13'.getD (t43.toNat * 3 + 2) 0)) = true then (if (Nat.ble 1 1 && Nat.ble (m40 + 1) 1000000 && Nat.beq 3 (3)) = true then rec5 (l40 ++ [l13'.getD (t43.toNat * 3 + 0) 0, l13'.getD (t43.toNat * 3 + 1) 0, l13'.getD (t43.toNat * 3 + 2) 0]) (m40 + 1) (wI (t43 + 1)) else none) else rec5 l40 m40 (wI (t43 + 1))) else none) else none) else none) else some (m40, l40))
def L_i_placesWith_5 (fu : Nat) (p : Int) (holdsk : (Int × Int × Int) → Bool) (holdsh : (Int × Int × Int) → Bool) (l13 : List Int) (m13 : Nat) (z : Int) (l13' : List Int) (m13' : Nat) (y : Int) (rec0 : (List Int) → Nat → Int → Option (Nat × List Int)) (rec3 : (List Int) → Nat → Int → Option (Nat × List Int)) : Nat → (List Int) → Nat → Int → Option (Nat × List Int)
  | 0, _, _, _ => none
  | f + 1, l40, m40, t43 => B_i_placesWith_5 p holdsk holdsh l13 m13 z l13' m13' y rec0 rec3 (L_i_placesWith_5 fu p holdsk holdsh l13 m13 z l13' m13' y rec0 rec3 f) l40 m40 t43
theorem loop_i_placesWith_5 (fu : Nat) (p : Int) (holdsk : (Int × Int × Int) → Bool) (holdsh : (Int × Int × Int) → Bool) (l13 : List Int) (m13 : Nat) (z : Int) (l13' : List Int) (m13' : Nat) (y : Int) (rc0 : Tab → Option (Nat × List Int)) (rc3 : Tab → Option (Nat × List Int)) : ∀ (f : Nat) (l40 : List Int) (m40 : Nat) (t43 : Int), X_i_placesWith_5 Try.prog fu p holdsk holdsh l13 m13 z l13' m13' y rc0 rc3 f l40 m40 t43 = L_i_placesWith_5 fu p holdsk holdsh l13 m13 z l13' m13' y (fun l13 m13 z => rc0 (T_i_placesWith_0 p holdsk holdsh l13 m13 z)) (fun l13' m13' y => rc3 (T_i_placesWith_3 p holdsk holdsh l13 m13 z l13' m13' y)) f l40 m40 t43 := by
  intro f
  induction f with
  | zero => intros; rfl
  | succ f ih =>
    intro l40 m40 t43
    have h1 : X_i_placesWith_5 Try.prog fu p holdsk holdsh l13 m13 z l13' m13' y rc0 rc3 (f + 1) l40 m40 t43 = B_i_placesWith_5 p holdsk holdsh l13 m13 z l13' m13' y (fun l13 m13 z => rc0 (T_i_placesWith_0 p holdsk holdsh l13 m13 z)) (fun l13' m13' y => rc3 (T_i_placesWith_3 p holdsk holdsh l13 m13 z l13' m13' y)) (X_i_placesWith_5 Try.prog fu p holdsk holdsh l13 m13 z l13' m13' y rc0 rc3 f) l40 m40 t43 := by kernel_rfl
    have h2 : X_i_placesWith_5 Try.prog fu p holdsk holdsh l13 m13 z l13' m13' y rc0 rc3 f = L_i_placesWith_5 fu p holdsk holdsh l13 m13 z l13' m13' y (fun l13 m13 z => rc0 (T_i_placesWith_0 p holdsk holdsh l13 m13 z)) (fun l13' m13' y => rc3 (T_i_placesWith_3 p holdsk holdsh l13 m13 z l13' m13' y)) f := by funext l40 m40 t43; exact ih l40 m40 t43
    rw [h1, h2]
    rfl
def X_i_placesWith_3 (P : Program) (fu : Nat) (p : Int) (holdsk : (Int × Int × Int) → Bool) (holdsh : (Int × Int × Int) → Bool) (l13 : List Int) (m13 : Nat) (z : Int) (rc0 : Tab → Option (Nat × List Int)) (f : Nat) (l13' : List Int) (m13' : Nat) (y : Int) : Option (Nat × List Int) := loopK (exec P S_i_placesWith 56 fu (Code.sub [1, 1, 1, 0, 1, 0, 0] (bodyF P 78))) f (T_i_placesWith_3 p holdsk holdsh l13 m13 z l13' m13' y) (kBlock 2 (kSeq (fun s => exec P S_i_placesWith 56 fu (Code.sub [1, 1, 1, 1] (bodyF P 78)) s (finT P 78 dec_l25_3)) (finT P 78 dec_l25_3)))
def B_i_placesWith_3 (p : Int) (holdsk : (Int × Int × Int) → Bool) (holdsh : (Int × Int × Int) → Bool) (l13 : List Int) (m13 : Nat) (z : Int) (rec0 : (List Int) → Nat → Int → Option (Nat × List Int)) (lo4 : (List Int) → Nat → Int → Option (Nat × List Int)) (lo5 : (List Int) → Nat → Int → Option (Nat × List Int)) (rec3 : (List Int) → Nat → Int → Option (Nat × List Int)) (l13' : List Int) (m13' : Nat) (y : Int) : Option (Nat × List Int) :=
  (if (decide (y < p)) = true then lo4 l13' m13' 0 else lo5 [] 0 0)
def L_i_placesWith_3 (fu : Nat) (p : Int) (holdsk : (Int × Int × Int) → Bool) (holdsh : (Int × Int × Int) → Bool) (l13 : List Int) (m13 : Nat) (z : Int) (rec0 : (List Int) → Nat → Int → Option (Nat × List Int)) : Nat → (List Int) → Nat → Int → Option (Nat × List Int)
  | 0, _, _, _ => none
  | f + 1, l13', m13', y => B_i_placesWith_3 p holdsk holdsh l13 m13 z rec0 (L_i_placesWith_4 fu p holdsk holdsh l13 m13 z l13' m13' y rec0 (L_i_placesWith_3 fu p holdsk holdsh l13 m13 z rec0 f) (fu + 100)) (L_i_placesWith_5 fu p holdsk holdsh l13 m13 z l13' m13' y rec0 (L_i_placesWith_3 fu p holdsk holdsh l13 m13 z rec0 f) (fu + 100)) (L_i_placesWith_3 fu p holdsk holdsh l13 m13 z rec0 f) l13' m13' y
theorem loop_i_placesWith_3 (fu : Nat) (p : Int) (holdsk : (Int × Int × Int) → Bool) (holdsh : (Int × Int × Int) → Bool) (l13 : List Int) (m13 : Nat) (z : Int) (rc0 : Tab → Option (Nat × List Int)) : ∀ (f : Nat) (l13' : List Int) (m13' : Nat) (y : Int), X_i_placesWith_3 Try.prog fu p holdsk holdsh l13 m13 z rc0 f l13' m13' y = L_i_placesWith_3 fu p holdsk holdsh l13 m13 z (fun l13 m13 z => rc0 (T_i_placesWith_0 p holdsk holdsh l13 m13 z)) f l13' m13' y := by
  intro f
  induction f with
  | zero => intros; rfl
  | succ f ih =>
    intro l13' m13' y
    have h1 : X_i_placesWith_3 Try.prog fu p holdsk holdsh l13 m13 z rc0 (f + 1) l13' m13' y = B_i_placesWith_3 p holdsk holdsh l13 m13 z (fun l13 m13 z => rc0 (T_i_placesWith_0 p holdsk holdsh l13 m13 z)) (X_i_placesWith_4 Try.prog fu p holdsk holdsh l13 m13 z l13' m13' y rc0 (fun t => loopK (exec Try.prog S_i_placesWith 56 fu (Code.sub [1, 1, 1, 0, 1, 0, 0] (bodyF Try.prog 78))) f t (kBlock 2 (kSeq (fun s => exec Try.prog S_i_placesWith 56 fu (Code.sub [1, 1, 1, 1] (bodyF Try.prog 78)) s (finT Try.prog 78 dec_l25_3)) (finT Try.prog 78 dec_l25_3)))) (fu + 100)) (X_i_placesWith_5 Try.prog fu p holdsk holdsh l13 m13 z l13' m13' y rc0 (fun t => loopK (exec Try.prog S_i_placesWith 56 fu (Code.sub [1, 1, 1, 0, 1, 0, 0] (bodyF Try.prog 78))) f t (kBlock 2 (kSeq (fun s => exec Try.prog S_i_placesWith 56 fu (Code.sub [1, 1, 1, 1] (bodyF Try.prog 78)) s (finT Try.prog 78 dec_l25_3)) (finT Try.prog 78 dec_l25_3)))) (fu + 100)) (X_i_placesWith_3 Try.prog fu p holdsk holdsh l13 m13 z rc0 f) l13' m13' y := by kernel_rfl
    have h2 : X_i_placesWith_3 Try.prog fu p holdsk holdsh l13 m13 z rc0 f = L_i_placesWith_3 fu p holdsk holdsh l13 m13 z (fun l13 m13 z => rc0 (T_i_placesWith_0 p holdsk holdsh l13 m13 z)) f := by funext l13' m13' y; exact ih l13' m13' y
    have c4 : (X_i_placesWith_4 Try.prog fu p holdsk holdsh l13 m13 z l13' m13' y rc0 (fun t => loopK (exec Try.prog S_i_placesWith 56 fu (Code.sub [1, 1, 1, 0, 1, 0, 0] (bodyF Try.prog 78))) f t (kBlock 2 (kSeq (fun s => exec Try.prog S_i_placesWith 56 fu (Code.sub [1, 1, 1, 1] (bodyF Try.prog 78)) s (finT Try.prog 78 dec_l25_3)) (finT Try.prog 78 dec_l25_3)))) (fu + 100)) = L_i_placesWith_4 fu p holdsk holdsh l13 m13 z l13' m13' y (fun l13 m13 z => rc0 (T_i_placesWith_0 p holdsk holdsh l13 m13 z)) (X_i_placesWith_3 Try.prog fu p holdsk holdsh l13 m13 z rc0 f) (fu + 100) := by funext l13'' m13'' z'; exact loop_i_placesWith_4 fu p holdsk holdsh l13 m13 z l13' m13' y rc0 (fun t => loopK (exec Try.prog S_i_placesWith 56 fu (Code.sub [1, 1, 1, 0, 1, 0, 0] (bodyF Try.prog 78))) f t (kBlock 2 (kSeq (fun s => exec Try.prog S_i_placesWith 56 fu (Code.sub [1, 1, 1, 1] (bodyF Try.prog 78)) s (finT Try.prog 78 dec_l25_3)) (finT Try.prog 78 dec_l25_3)))) (fu + 100) l13'' m13'' z'
    have c5 : (X_i_placesWith_5 Try.prog fu p holdsk holdsh l13 m13 z l13' m13' y rc0 (fun t => loopK (exec Try.prog S_i_placesWith 56 fu (Code.sub [1, 1, 1, 0, 1, 0, 0] (bodyF Try.prog 78))) f t (kBlock 2 (kSeq (fun s => exec Try.prog S_i_placesWith 56 fu (Code.sub [1, 1, 1, 1] (bodyF Try.prog 78)) s (finT Try.prog 78 dec_l25_3)) (finT Try.prog 78 dec_l25_3)))) (fu + 100)) = L_i_placesWith_5 fu p holdsk holdsh l13 m13 z l13' m13' y (fun l13 m13 z => rc0 (T_i_placesWith_0 p holdsk holdsh l13 m13 z)) (X_i_placesWith_3 Try.prog fu p holdsk holdsh l13 m13 z rc0 f) (fu + 100) := by funext l40 m40 t43; exact loop_i_placesWith_5 fu p holdsk holdsh l13 m13 z l13' m13' y rc0 (fun t => loopK (exec Try.prog S_i_placesWith 56 fu (Code.sub [1, 1, 1, 0, 1, 0, 0] (bodyF Try.prog 78))) f t (kBlock 2 (kSeq (fun s => exec Try.prog S_i_placesWith 56 fu (Code.sub [1, 1, 1, 1] (bodyF Try.prog 78)) s (finT Try.prog 78 dec_l25_3)) (finT Try.prog 78 dec_l25_3)))) (fu + 100) l40 m40 t43
    rw [h1, c4, c5, h2]
    rfl
def X_i_placesWith_0 (P : Program) (fu : Nat) (p : Int) (holdsk : (Int × Int × Int) → Bool) (holdsh : (Int × Int × Int) → Bool) (f : Nat) (l13 : List Int) (m13 : Nat) (z : Int) : Option (Nat × List Int) := loopK (exec P S_i_placesWith 56 fu (Code.sub [1, 1, 0, 1, 0, 0] (bodyF P 78))) f (T_i_placesWith_0 p holdsk holdsh l13 m13 z) (kBlock 0 (kSeq (fun s => exec P S_i_placesWith 56 fu (Code.sub [1, 1, 1] (bodyF P 78)) s (finT P 78 dec_l25_3)) (finT P 78 dec_l25_3)))
def B_i_placesWith_0 (p : Int) (holdsk : (Int × Int × Int) → Bool) (holdsh : (Int × Int × Int) → Bool) (lo3 : (List Int) → Nat → Int → Option (Nat × List Int)) (rec0 : (List Int) → Nat → Int → Option (Nat × List Int)) (l13 : List Int) (m13 : Nat) (z : Int) : Option (Nat × List Int) :=
  (if (decide (z < p)) = true then (if (Nat.ble 1 1 && Nat.ble (m13 + 1) 1000000 && Nat.beq 3 (3)) = true then rec0 (l13 ++ [0, 1, z]) (m13 + 1) (wI (z + 1)) else none) else lo3 l13 m13 0)
def L_i_placesWith_0 (fu : Nat) (p : Int) (holdsk : (Int × Int × Int) → Bool) (holdsh : (Int × Int × Int) → Bool) : Nat → (List Int) → Nat → Int → Option (Nat × List Int)
  | 0, _, _, _ => none
  | f + 1, l13, m13, z => B_i_placesWith_0 p holdsk holdsh (L_i_placesWith_3 fu p holdsk holdsh l13 m13 z (L_i_placesWith_0 fu p holdsk holdsh f) (fu + 100)) (L_i_placesWith_0 fu p holdsk holdsh f) l13 m13 z
theorem loop_i_placesWith_0 (fu : Nat) (p : Int) (holdsk : (Int × Int × Int) → Bool) (holdsh : (Int × Int × Int) → Bool) : ∀ (f : Nat) (l13 : List Int) (m13 : Nat) (z : Int), X_i_placesWith_0 Try.prog fu p holdsk holdsh f l13 m13 z = L_i_placesWith_0 fu p holdsk holdsh f l13 m13 z := by
  intro f
  induction f with
  | zero => intros; rfl
  | succ f ih =>
    intro l13 m13 z
    have h1 : X_i_placesWith_0 Try.prog fu p holdsk holdsh (f + 1) l13 m13 z = B_i_placesWith_0 p holdsk holdsh (X_i_placesWith_3 Try.prog fu p holdsk holdsh l13 m13 z (fun t => loopK (exec Try.prog S_i_placesWith 56 fu (Code.sub [1, 1, 0, 1, 0, 0] (bodyF Try.prog 78))) f t (kBlock 0 (kSeq (fun s => exec Try.prog S_i_placesWith 56 fu (Code.sub [1, 1, 1] (bodyF Try.prog 78)) s (finT Try.prog 78 dec_l25_3)) (finT Try.prog 78 dec_l25_3)))) (fu + 100)) (X_i_placesWith_0 Try.prog fu p holdsk holdsh f) l13 m13 z := by kernel_rfl
    have h2 : X_i_placesWith_0 Try.prog fu p holdsk holdsh f = L_i_placesWith_0 fu p holdsk holdsh f := by funext l13 m13 z; exact ih l13 m13 z
    have c3 : (X_i_placesWith_3 Try.prog fu p holdsk holdsh l13 m13 z (fun t => loopK (exec Try.prog S_i_placesWith 56 fu (Code.sub [1, 1, 0, 1, 0, 0] (bodyF Try.prog 78))) f t (kBlock 0 (kSeq (fun s => exec Try.prog S_i_placesWith 56 fu (Code.sub [1, 1, 1] (bodyF Try.prog 78)) s (finT Try.prog 78 dec_l25_3)) (finT Try.prog 78 dec_l25_3)))) (fu + 100)) = L_i_placesWith_3 fu p holdsk holdsh l13 m13 z (X_i_placesWith_0 Try.prog fu p holdsk holdsh f) (fu + 100) := by funext l13' m13' y; exact loop_i_placesWith_3 fu p holdsk holdsh l13 m13 z (fun t => loopK (exec Try.prog S_i_placesWith 56 fu (Code.sub [1, 1, 0, 1, 0, 0] (bodyF Try.prog 78))) f t (kBlock 0 (kSeq (fun s => exec Try.prog S_i_placesWith 56 fu (Code.sub [1, 1, 1] (bodyF Try.prog 78)) s (finT Try.prog 78 dec_l25_3)) (finT Try.prog 78 dec_l25_3)))) (fu + 100) l13' m13' y
    rw [h1, c3, h2]
    rfl
def G_i_placesWith (p : Int) (holdsk : (Int × Int × Int) → Bool) (holdsh : (Int × Int × Int) → Bool) (lo0 : (List Int) → Nat → Int → Option (Nat × List Int)) : Option (Nat × List Int) :=
  lo0 [0, 0, 1] 1 0
def Fo_i_placesWith (fu : Nat) (p : Int) (holdsk : (Int × Int × Int) → Bool) (holdsh : (Int × Int × Int) → Bool) : Option (Nat × List Int) := G_i_placesWith p holdsk holdsh (L_i_placesWith_0 fu p holdsk holdsh (fu + 100))
theorem eqg_i_placesWith (fu : Nat) (p : Int) (holdsk : (Int × Int × Int) → Bool) (holdsh : (Int × Int × Int) → Bool) : execT Try.prog S_i_placesWith 78 56 fu dec_l25_3 [.v (.int .i64 p), .f (clo_a3_b holdsk holdsh)] = G_i_placesWith p holdsk holdsh (L_i_placesWith_0 fu p holdsk holdsh (fu + 100)) := by
  have h1 : execT Try.prog S_i_placesWith 78 56 fu dec_l25_3 [.v (.int .i64 p), .f (clo_a3_b holdsk holdsh)] = G_i_placesWith p holdsk holdsh (X_i_placesWith_0 Try.prog fu p holdsk holdsh (fu + 100)) := by kernel_rfl
  have c0 : X_i_placesWith_0 Try.prog fu p holdsk holdsh (fu + 100) = L_i_placesWith_0 fu p holdsk holdsh (fu + 100) := by funext l13 m13 z; exact loop_i_placesWith_0 fu p holdsk holdsh (fu + 100) l13 m13 z
  rw [h1, c0]
theorem eq_i_placesWith (fu : Nat) (p : Int) (holdsk : (Int × Int × Int) → Bool) (holdsh : (Int × Int × Int) → Bool) : execT Try.prog S_i_placesWith 78 56 fu dec_l25_3 [.v (.int .i64 p), .f (clo_a3_b holdsk holdsh)] = Fo_i_placesWith fu p holdsk holdsh := eqg_i_placesWith fu p holdsk holdsh
def i_placesWith (p : Int) (holdsk holdsh : P3 → Bool) : Nat × List Int := (((places p).filter holdsh).length, flat3 ((places p).filter holdsh))
theorem lo5_i_placesWith {p : Int} {holdsk holdsh : P3 → Bool} (fu : Nat) (l13 : List Int) (m13 : Nat) (z : Int) (l13' : List Int) (m13' : Nat) (y : Int) (rec0 rec3 : List Int → Nat → Int → Option (Nat × List Int)) {F : Nat} (hF : m13' < F) (hl : l13'.length = 3 * m13') (hm : m13' ≤ 10000) (hk : ∀ k, k < m13' → holdsk (R3 l13' k) = true) :
    L_i_placesWith_5 fu p holdsk holdsh l13 m13 z l13' m13' y rec0 rec3 F [] 0 0 = some (((rows3 m13' l13').filter holdsh).length, flat3 ((rows3 m13' l13').filter holdsh)) := by
  have key := hk
  exact gather (flat := flat3) flat3_app rfl (L := fun f l m i => L_i_placesWith_5 fu p holdsk holdsh l13 m13 z l13' m13' y rec0 rec3 f l m i) (n := m13') (b := 1) (M := 0) (fun k => if holdsh (R3 l13' k) = true then [R3 l13' k] else []) (K := (some (((rows3 m13' l13').filter holdsh).length, flat3 ((rows3 m13' l13').filter holdsh)))) (l := []) (m := 0) (F := F) (by intro k hk; first | (split <;> simp) | simp_all)
    (fun f k l m hk hm => by
      show B_i_placesWith_5 p holdsk holdsh l13 m13 z l13' m13' y rec0 rec3 (L_i_placesWith_5 fu p holdsk holdsh l13 m13 z l13' m13' y rec0 rec3 f) l m (k : Int) = _
      unfold B_i_placesWith_5
      have x0 : holdsk (l13'.getD (k * 3 + 0) 0, l13'.getD (k * 3 + 1) 0, l13'.getD (k * 3 + 2) 0) = true := key k hk
      have e0 : decide (0 ≤ (k : Int)) = true := by simp
      have e1 := cnd hk
      have e3 : (k : Int).toNat = k := Int.toNat_natCast k
      have e4 := row3_ok hl hk
      have e5 : Nat.ble 1 1 = true := rfl
      have e6 : Nat.ble (m + 1) 1000000 = true := leb (by omega)
      simp only [e0, e1, e3, e4, e5, e6, beq33, x0, Bool.and_true, Bool.true_and, if_true, wrap_add1 hk (by omega)]
      have hq0 : (holdsh (l13'.getD (k * 3 + 0) 0, l13'.getD (k * 3 + 1) 0, l13'.getD (k * 3 + 2) 0)) = (holdsh (R3 l13' k)) := rfl
      try rw [hq0]
      generalize (holdsh (R3 l13' k)) = c0
      cases c0 <;> first
        | rfl
        | (simp only [Bool.false_eq_true, Bool.false_and, Bool.and_false, Bool.true_and, if_false, if_true]
           rw [show flat3 [] = [] from rfl, List.append_nil]
           rfl))
    (fun f hm => by
      show B_i_placesWith_5 p holdsk holdsh l13 m13 z l13' m13' y rec0 rec3 (L_i_placesWith_5 fu p holdsk holdsh l13 m13 z l13' m13' y rec0 rec3 f) ([] ++ flat3 ((List.range m13').flatMap (fun k => if holdsh (R3 l13' k) = true then [R3 l13' k] else []))) (0 + ((List.range m13').flatMap (fun k => if holdsh (R3 l13' k) = true then [R3 l13' k] else [])).length) ((m13' : Nat) : Int) = _
      unfold B_i_placesWith_5
      have hkp : ((List.range (m13')).flatMap fun k => if holdsh (R3 l13' k) = true then [R3 l13' k] else []) = (rows3 (m13') l13').filter (fun zz => holdsh zz) := keep3 (m13') l13' (fun zz => holdsh zz)
      rw [if_neg (by simp), hkp]
      simp) hF (Nat.le_refl _)
theorem lo4_i_placesWith {p : Int} (hp : prB p = true) {holdsk holdsh : P3 → Bool} (fu : Nat) (l13 : List Int) (m13 : Nat) (z : Int) (l13' : List Int) (m13' : Nat) (y : Int) (rec0 rec3 : List Int → Nat → Int → Option (Nat × List Int)) {F m : Nat} {l : List Int} (hF : p.toNat < F) (hm : m ≤ 100000) :
    L_i_placesWith_4 fu p holdsk holdsh l13 m13 z l13' m13' y rec0 rec3 F l m 0 = rec3 (l ++ flat3 ((List.range p.toNat).map fun z : Nat => (1, y, (z : Int)))) (m + p.toNat) (wI (y + 1)) := by
  obtain ⟨h1, h0, hpn⟩ := prB_nat hp
  exact gather (flat := flat3) flat3_app rfl (L := fun f l m i => L_i_placesWith_4 fu p holdsk holdsh l13 m13 z l13' m13' y rec0 rec3 f l m i) (n := p.toNat) (b := 1) (M := 100000) (fun z : Nat => [(1, y, (z : Int))]) (K := rec3 (l ++ flat3 ((List.range p.toNat).map fun z : Nat => (1, y, (z : Int)))) (m + p.toNat) (wI (y + 1))) (l := l) (m := m) (F := F) (by intro k hk; first | (split <;> simp) | simp_all)
    (fun f k l m hk hm => by
      show B_i_placesWith_4 p holdsk holdsh l13 m13 z l13' m13' y rec0 rec3 (L_i_placesWith_4 fu p holdsk holdsh l13 m13 z l13' m13' y rec0 rec3 f) l m (k : Int) = _
      unfold B_i_placesWith_4
      rw [if_pos (cndp hk), if_pos (by simp; omega), wrap_add1 hk (by omega)]
      rfl)
    (fun f hm => by
      show B_i_placesWith_4 p holdsk holdsh l13 m13 z l13' m13' y rec0 rec3 (L_i_placesWith_4 fu p holdsk holdsh l13 m13 z l13' m13' y rec0 rec3 f) (l ++ flat3 ((List.range p.toNat).flatMap (fun z : Nat => [(1, y, (z : Int))]))) (m + ((List.range p.toNat).flatMap (fun z : Nat => [(1, y, (z : Int))])).length) ((p.toNat : Nat) : Int) = _
      unfold B_i_placesWith_4
      rw [if_neg (by simp; omega), flatMap_one]
      simp) hF hm
theorem lo3_i_placesWith {p : Int} (hp : prB p = true) {holdsk holdsh : P3 → Bool} (fu : Nat) (l13 : List Int) (m13 : Nat) (z : Int) (rec0 : List Int → Nat → Int → Option (Nat × List Int)) {F m : Nat} {l : List Int} (hF : p.toNat < F) (hm : m ≤ 1000) (r : Option (Nat × List Int))  (ht : ∀  (y : Int) (rec3 : List Int → Nat → Int → Option (Nat × List Int)), L_i_placesWith_5 fu p holdsk holdsh l13 m13 z (l ++ flat3 ((List.range p.toNat).flatMap fun y : Nat => (List.range p.toNat).map fun z : Nat => ((1 : Int), (y : Int), (z : Int)))) (m + ((List.range p.toNat).flatMap fun y : Nat => (List.range p.toNat).map fun z : Nat => ((1 : Int), (y : Int), (z : Int))).length) y rec0 rec3 (fu + 100) [] 0 0 = r) :
    L_i_placesWith_3 fu p holdsk holdsh l13 m13 z rec0 F l m 0 = r := by
  obtain ⟨h1, h0, hpn⟩ := prB_nat hp
  exact gather (flat := flat3) flat3_app rfl (L := fun f l m i => L_i_placesWith_3 fu p holdsk holdsh l13 m13 z rec0 f l m i) (n := p.toNat) (b := 31) (M := 1000) (fun y : Nat => (List.range p.toNat).map fun z : Nat => (1, (y : Int), (z : Int))) (K := r) (l := l) (m := m) (F := F) (by intro k hk; first | (split <;> simp) | simp_all)
    (fun f k l m hk hm => by
      show B_i_placesWith_3 p holdsk holdsh l13 m13 z rec0 (L_i_placesWith_4 fu p holdsk holdsh l13 m13 z l m (k : Int) rec0 (L_i_placesWith_3 fu p holdsk holdsh l13 m13 z rec0 f) (fu + 100)) (L_i_placesWith_5 fu p holdsk holdsh l13 m13 z l m (k : Int) rec0 (L_i_placesWith_3 fu p holdsk holdsh l13 m13 z rec0 f) (fu + 100)) (L_i_placesWith_3 fu p holdsk holdsh l13 m13 z rec0 f) l m (k : Int) = _
      unfold B_i_placesWith_3
      rw [if_pos (cndp hk), lo4_i_placesWith hp fu _ _ _ _ _ _ _ _ (by omega) (by omega), wrap_add1 hk (by omega)]
      simp)
    (fun f hm => by
      show B_i_placesWith_3 p holdsk holdsh l13 m13 z rec0 (L_i_placesWith_4 fu p holdsk holdsh l13 m13 z (l ++ flat3 ((List.range p.toNat).flatMap (fun y : Nat => (List.range p.toNat).map fun z : Nat => (1, (y : Int), (z : Int))))) (m + ((List.range p.toNat).flatMap (fun y : Nat => (List.range p.toNat).map fun z : Nat => (1, (y : Int), (z : Int)))).length) ((p.toNat : Nat) : Int) rec0 (L_i_placesWith_3 fu p holdsk holdsh l13 m13 z rec0 f) (fu + 100)) (L_i_placesWith_5 fu p holdsk holdsh l13 m13 z (l ++ flat3 ((List.range p.toNat).flatMap (fun y : Nat => (List.range p.toNat).map fun z : Nat => (1, (y : Int), (z : Int))))) (m + ((List.range p.toNat).flatMap (fun y : Nat => (List.range p.toNat).map fun z : Nat => (1, (y : Int), (z : Int)))).length) ((p.toNat : Nat) : Int) rec0 (L_i_placesWith_3 fu p holdsk holdsh l13 m13 z rec0 f) (fu + 100)) (L_i_placesWith_3 fu p holdsk holdsh l13 m13 z rec0 f) (l ++ flat3 ((List.range p.toNat).flatMap (fun y : Nat => (List.range p.toNat).map fun z : Nat => (1, (y : Int), (z : Int))))) (m + ((List.range p.toNat).flatMap (fun y : Nat => (List.range p.toNat).map fun z : Nat => (1, (y : Int), (z : Int)))).length) ((p.toNat : Nat) : Int) = _
      unfold B_i_placesWith_3
      rw [if_neg (by simp; omega)]
      exact ht _ _) hF hm

theorem tot_i_placesWith (p : Int) (holdsk : (Int × Int × Int) → Bool) (holdsh : (Int × Int × Int) → Bool) (hp : (prB p && (places p).all holdsk) = true) : Fo_i_placesWith 1000000 p holdsk holdsh = some (i_placesWith p holdsk holdsh) := by
  have hp0 := hp
  simp only [Bool.and_eq_true] at hp
  obtain ⟨hp, hall⟩ := hp
  have hlen := places_len hp
  have hrow : ∀ k, k < (places p).length → holdsk (R3 (flat3 (places p)) k) = true := by
    intro k hk
    rw [R3_flat, List.getD_eq_getElem?_getD, List.getElem?_eq_getElem hk]
    exact List.all_eq_true.1 hall _ (List.getElem_mem hk)
  obtain ⟨h1, h0, hpn⟩ := prB_nat hp
  have hl : [0, 0, 1] ++ flat3 ((List.range p.toNat).map fun z : Nat => ((0 : Int), (1 : Int), (z : Int))) ++ flat3 ((List.range p.toNat).flatMap fun y : Nat => (List.range p.toNat).map fun z : Nat => ((1 : Int), (y : Int), (z : Int))) = flat3 (places p) := by
    unfold places
    show _ = flat3 ([(0, 0, 1)] ++ (_ ++ _))
    rw [flat3_app, flat3_app, List.append_assoc]
    rfl
  have hmm : 1 + ((List.range p.toNat).map fun z : Nat => ((0 : Int), (1 : Int), (z : Int))).length + ((List.range p.toNat).flatMap fun y : Nat => (List.range p.toNat).map fun z : Nat => ((1 : Int), (y : Int), (z : Int))).length = (places p).length := by
    unfold places
    rw [List.length_cons, List.length_append]
    omega
  unfold Fo_i_placesWith G_i_placesWith
  exact gather (flat := flat3) flat3_app rfl (L := fun f l m i => L_i_placesWith_0 1000000 p holdsk holdsh f l m i) (n := p.toNat) (b := 1) (M := 1) (fun z : Nat => [(0, 1, (z : Int))]) (K := (some (((places p).filter holdsh).length, flat3 ((places p).filter holdsh)))) (l := [0, 0, 1]) (m := 1) (F := (1000000 + 100)) (by intro k hk; first | (split <;> simp) | simp_all)
    (fun f k l m hk hm => by
      show B_i_placesWith_0 p holdsk holdsh (L_i_placesWith_3 1000000 p holdsk holdsh l m (k : Int) (L_i_placesWith_0 1000000 p holdsk holdsh f) (1000000 + 100)) (L_i_placesWith_0 1000000 p holdsk holdsh f) l m (k : Int) = _
      unfold B_i_placesWith_0
      rw [if_pos (cndp hk), if_pos (by simp; omega), wrap_add1 hk (by omega)]
      rfl)
    (fun f hm => by
      show B_i_placesWith_0 p holdsk holdsh (L_i_placesWith_3 1000000 p holdsk holdsh ([0, 0, 1] ++ flat3 ((List.range p.toNat).flatMap (fun z : Nat => [(0, 1, (z : Int))]))) (1 + ((List.range p.toNat).flatMap (fun z : Nat => [(0, 1, (z : Int))])).length) ((p.toNat : Nat) : Int) (L_i_placesWith_0 1000000 p holdsk holdsh f) (1000000 + 100)) (L_i_placesWith_0 1000000 p holdsk holdsh f) ([0, 0, 1] ++ flat3 ((List.range p.toNat).flatMap (fun z : Nat => [(0, 1, (z : Int))]))) (1 + ((List.range p.toNat).flatMap (fun z : Nat => [(0, 1, (z : Int))])).length) ((p.toNat : Nat) : Int) = _
      unfold B_i_placesWith_0
      simp only [flatMap_one]
      rw [if_neg (by simp; omega), lo3_i_placesWith hp _ _ _ _ _ (by omega) (by simp; omega) (r := (some (((places p).filter holdsh).length, flat3 ((places p).filter holdsh)))) (fun y rec3 => by rw [hl, hmm]; exact by rw [lo5_i_placesWith _ _ _ _ _ _ _ _ _ (by omega) (flat3_len _) (by omega) hrow, rows3_flat3])]) (by omega) (Nat.le_refl _)
def run_i_placesWith : List PV → Option (Bool × List TR)
  | [.v (.int .i64 p), .f holdsg] => some (prB p && (places p).all (fun a0 => okV (holdsg [.agg ⟨[.int .i64 a0.1, .int .i64 a0.2.1, .int .i64 a0.2.2]⟩])), enc_l25_3 (i_placesWith p (fun a0 => okV (holdsg [.agg ⟨[.int .i64 a0.1, .int .i64 a0.2.1, .int .i64 a0.2.2]⟩])) (fun a0 => boolV (holdsg [.agg ⟨[.int .i64 a0.1, .int .i64 a0.2.1, .int .i64 a0.2.2]⟩]))))
  | _ => none
theorem sound_i_placesWith : Sound Try.prog 78 run_i_placesWith := by
  refine sound_of de_l25_3 SO_i_placesWith (by kernel_rfl) Try.func78 Try.ntmps78 rfl (by kernel_rfl) ?_
  intro W pvs avs rs hargs hrun
  unfold run_i_placesWith at hrun
  split at hrun
  · simp only [Option.some.injEq, Prod.mk.injEq] at hrun
    obtain ⟨hp, rfl⟩ := hrun
    rename_i p holdsg
    have hargs := All2.replace (l1 := [_]) hargs (y := .f (clo_a3_b _ _)) fun b hb => fn_weaken hb (clo_a3_b_ok _)
    exact ⟨_, _, _, hargs, rfl, (eq_i_placesWith _ p (fun a0 => okV (holdsg [.agg ⟨[.int .i64 a0.1, .int .i64 a0.2.1, .int .i64 a0.2.2]⟩])) (fun a0 => boolV (holdsg [.agg ⟨[.int .i64 a0.1, .int .i64 a0.2.1, .int .i64 a0.2.2]⟩]))).trans (tot_i_placesWith p (fun a0 => okV (holdsg [.agg ⟨[.int .i64 a0.1, .int .i64 a0.2.1, .int .i64 a0.2.2]⟩])) (fun a0 => boolV (holdsg [.agg ⟨[.int .i64 a0.1, .int .i64 a0.2.1, .int .i64 a0.2.2]⟩])) hp)⟩
  · cases hrun

def S_i_placesOn : Sums := ⟨tblS [(78, run_i_placesWith), (110, run_i_placesOn_c1)], tblM []⟩
theorem SO_i_placesOn : SumsOK Try.prog S_i_placesOn := ⟨tblS_ok ⟨⟨Try.call78, sound_i_placesWith⟩, ⟨Try.call110, sound_i_placesOn_c1⟩, True.intro⟩, tblM_ok True.intro⟩
def Fo_i_placesOn (p : Int) (pole : Int × Int × Int) : Option (Nat × List Int) :=
  (if (prB p && (places p).all (fun a0 => prB p)) = true then some ((i_placesWith p (fun a0 => prB p) (fun a0 => i_placesOn_c1 a0 p pole)).1, (i_placesWith p (fun a0 => prB p) (fun a0 => i_placesOn_c1 a0 p pole)).2) else none)
theorem eq_i_placesOn (p : Int) (pole : Int × Int × Int) : execT Try.prog S_i_placesOn 85 8 1000000 dec_l25_3 [.v (.int .i64 p), .v (.agg ⟨[.int .i64 pole.1, .int .i64 pole.2.1, .int .i64 pole.2.2]⟩)] = Fo_i_placesOn p pole := by
  kernel_rfl
def i_placesOn (p : Int) (pole : Int × Int × Int) : Nat × List Int :=
  ((i_placesWith p (fun a0 => prB p) (fun a0 => i_placesOn_c1 a0 p pole)).1, (i_placesWith p (fun a0 => prB p) (fun a0 => i_placesOn_c1 a0 p pole)).2)
theorem tot_i_placesOn (p : Int) (pole : Int × Int × Int) (hp : (prB p) = true) : Fo_i_placesOn p pole = some (i_placesOn p pole) := by
  have h0 := prB_ne hp
  unfold Fo_i_placesOn i_placesOn
  (try simp only [wI_eq])
  repeat' (first | with_reducible rfl | with_reducible refine chk_opt hp ?_ | with_reducible refine chk_opt h0 ?_ | refine chk_opt (and_all hp fun _ => hp) ?_ | refine chk_opt (and_all hp fun _ => rfl) ?_ | refine ite_opt (fun _ => ?_) (fun _ => ?_) | rfl)
def run_i_placesOn : List PV → Option (Bool × List TR)
  | [.v (.int .i64 p), .v (.agg ⟨[.int .i64 pole0, .int .i64 pole1, .int .i64 pole2]⟩)] => some (prB p, enc_l25_3 (i_placesOn p (pole0, pole1, pole2)))
  | _ => none
theorem sound_i_placesOn : Sound Try.prog 85 run_i_placesOn := by
  refine sound_of de_l25_3 SO_i_placesOn (by kernel_rfl) Try.func85 Try.ntmps85 rfl (by kernel_rfl) ?_
  intro W pvs avs rs hargs hrun
  unfold run_i_placesOn at hrun
  split at hrun
  · simp only [Option.some.injEq, Prod.mk.injEq] at hrun
    obtain ⟨hp, rfl⟩ := hrun
    rename_i p pole0 pole1 pole2
    exact ⟨_, _, _, hargs, rfl, (eq_i_placesOn p (pole0, pole1, pole2)).trans (tot_i_placesOn p (pole0, pole1, pole2) hp)⟩
  · cases hrun

def S_i_KindOfLine : Sums := ⟨tblS [(60, run_i_asked), (84, run_i_KindOfLine_c1), (85, run_i_placesOn), (63, run_i_isNullPlace)], tblM []⟩
theorem SO_i_KindOfLine : SumsOK Try.prog S_i_KindOfLine := ⟨tblS_ok ⟨⟨Try.call60, sound_i_asked⟩, ⟨Try.call84, sound_i_KindOfLine_c1⟩, ⟨Try.call85, sound_i_placesOn⟩, ⟨Try.call63, sound_i_isNullPlace⟩, True.intro⟩, tblM_ok True.intro⟩
def T_i_KindOfLine_0 (p : Int) (pole : Int × Int × Int) (t20 : Int) (j_n : Int) : Tab := ⟨[.val (.int .i64 p), .val (.agg ⟨[.int .i64 pole.1, .int .i64 pole.2.1, .int .i64 pole.2.2]⟩), .ptr 8 0, .ptr 12 0, .val (.int .i64 0), .val (.int .i64 0), .val (.int .i64 (i_asked p (true) (i_KindOfLine_c1 p pole))), .val (.int .i64 j_n), .junk, .junk, .val (.int .i64 p), .clo 84 [8, 12], .val (.int .i64 (i_asked p (true) (i_KindOfLine_c1 p pole))), .val (.int .i64 (i_asked p (true) (i_KindOfLine_c1 p pole))), .val (.bool ((i_asked p (true) (i_KindOfLine_c1 p pole)) != 0)), .junk, .val (.int .i64 p), .val (.agg ⟨[.int .i64 pole.1, .int .i64 pole.2.1, .int .i64 pole.2.2]⟩), .row 72, .val (.int .i64 (((i_placesOn p pole).1 : Nat) : Int)), .val (.int .i64 t20), .junk, .junk, .junk, .junk, .junk, .junk, .junk, .junk, .junk, .junk], [(8, .box 2 [.val (.int .i64 p)]), (12, .box 25 [.val (.int .i64 pole.1), .val (.int .i64 pole.2.1), .val (.int .i64 pole.2.2)]), (72, .row 25 3 ((i_placesOn p pole).1) (.ints ((i_placesOn p pole).2)))]⟩
def X_i_KindOfLine_0 (P : Program) (fu : Nat) (p : Int) (pole : Int × Int × Int) (f : Nat) (t20 : Int) (j_n : Int) : Option (Int × Int) := loopK (exec P S_i_KindOfLine 31 fu (Code.sub [1, 1, 1, 0, 1, 0, 0] (bodyF P 36))) f (T_i_KindOfLine_0 p pole t20 j_n) (kBlock 0 (kSeq (fun s => exec P S_i_KindOfLine 31 fu (Code.sub [1, 1, 1, 1] (bodyF P 36)) s (finT P 36 dec_i_i)) (finT P 36 dec_i_i)))
def B_i_KindOfLine_0 (p : Int) (pole : Int × Int × Int) (rec0 : Int → Int → Option (Int × Int)) (t20 : Int) (j_n : Int) : Option (Int × Int) :=
  (if (decide (t20 < (((i_placesOn p pole).1 : Nat) : Int))) = true then (if (decide (0 ≤ t20) && decide (t20 < (((i_placesOn p pole).1 : Nat) : Int))) = true then (if (Nat.ble (t20.toNat * 3 + 3) (((i_placesOn p pole).2).length)) = true then (if (prB p) = true then (if (i_isNullPlace p (((i_placesOn p pole).2).getD (t20.toNat * 3 + 0) 0, ((i_placesOn p pole).2).getD (t20.toNat * 3 + 1) 0, ((i_placesOn p pole).2).getD (t20.toNat * 3 + 2) 0)) = true then rec0 (wI (t20 + 1)) (wI (j_n + 1)) else rec0 (wI (t20 + 1)) j_n) else none) else none) else none) else some (j_n, 0))
def L_i_KindOfLine_0 (fu : Nat) (p : Int) (pole : Int × Int × Int) : Nat → Int → Int → Option (Int × Int)
  | 0, _, _ => none
  | f + 1, t20, j_n => B_i_KindOfLine_0 p pole (L_i_KindOfLine_0 fu p pole f) t20 j_n
theorem loop_i_KindOfLine_0 (fu : Nat) (p : Int) (pole : Int × Int × Int) : ∀ (f : Nat) (t20 : Int) (j_n : Int), X_i_KindOfLine_0 Try.prog fu p pole f t20 j_n = L_i_KindOfLine_0 fu p pole f t20 j_n := by
  intro f
  induction f with
  | zero => intros; rfl
  | succ f ih =>
    intro t20 j_n
    have h1 : X_i_KindOfLine_0 Try.prog fu p pole (f + 1) t20 j_n = B_i_KindOfLine_0 p pole (X_i_KindOfLine_0 Try.prog fu p pole f) t20 j_n := by kernel_rfl
    have h2 : X_i_KindOfLine_0 Try.prog fu p pole f = L_i_KindOfLine_0 fu p pole f := by funext t20 j_n; exact ih t20 j_n
    rw [h1, h2]
    rfl
def G_i_KindOfLine (p : Int) (pole : Int × Int × Int) (lo0 : Int → Int → Option (Int × Int)) : Option (Int × Int) :=
  (if ((true) || !(i_IsField p)) = true then (if ((i_asked p (true) (i_KindOfLine_c1 p pole)) != 0) = true then some (0, (i_asked p (true) (i_KindOfLine_c1 p pole))) else (if (prB p) = true then lo0 0 0 else none)) else none)
def Fo_i_KindOfLine (fu : Nat) (p : Int) (pole : Int × Int × Int) : Option (Int × Int) := G_i_KindOfLine p pole (L_i_KindOfLine_0 fu p pole (fu + 100))
theorem eqg_i_KindOfLine (fu : Nat) (p : Int) (pole : Int × Int × Int) : execT Try.prog S_i_KindOfLine 36 31 fu dec_i_i [.v (.int .i64 p), .v (.agg ⟨[.int .i64 pole.1, .int .i64 pole.2.1, .int .i64 pole.2.2]⟩)] = G_i_KindOfLine p pole (L_i_KindOfLine_0 fu p pole (fu + 100)) := by
  have h1 : execT Try.prog S_i_KindOfLine 36 31 fu dec_i_i [.v (.int .i64 p), .v (.agg ⟨[.int .i64 pole.1, .int .i64 pole.2.1, .int .i64 pole.2.2]⟩)] = G_i_KindOfLine p pole (X_i_KindOfLine_0 Try.prog fu p pole (fu + 100)) := by kernel_rfl
  have c0 : X_i_KindOfLine_0 Try.prog fu p pole (fu + 100) = L_i_KindOfLine_0 fu p pole (fu + 100) := by funext t20 j_n; exact loop_i_KindOfLine_0 fu p pole (fu + 100) t20 j_n
  rw [h1, c0]
theorem eq_i_KindOfLine (fu : Nat) (p : Int) (pole : Int × Int × Int) : execT Try.prog S_i_KindOfLine 36 31 fu dec_i_i [.v (.int .i64 p), .v (.agg ⟨[.int .i64 pole.1, .int .i64 pole.2.1, .int .i64 pole.2.2]⟩)] = Fo_i_KindOfLine fu p pole := eqg_i_KindOfLine fu p pole
def V_i_KindOfLine_0 (p : Int) (pole : Int × Int × Int) : Int → Int → Int × Int := fun _ _ => (((((((places p).filter fun zz => (i_placeProduct p zz pole == 0))).filter fun zz => i_isNullPlace p zz).length : Nat) : Int), 0)
theorem lo0_i_KindOfLine (p : Int) (pole : P3) (hp : prB p = true) {F : Nat} (hF : 993 < F) : L_i_KindOfLine_0 1000000 p pole F 0 0 = some (((((((places p).filter fun zz => (i_placeProduct p zz pole == 0))).filter fun zz => i_isNullPlace p zz).length : Nat) : Int), 0) := by
  have hlen : (((places p).filter fun zz => (i_placeProduct p zz pole == 0))).length ≤ 993 := Nat.le_trans (List.length_filter_le _ _) (places_len hp)
  have h := tally (L := fun f s i => L_i_KindOfLine_0 1000000 p pole f i s) (n := (((places p).filter fun zz => (i_placeProduct p zz pole == 0))).length) (q := fun k => i_isNullPlace p (R3 (flat3 (((places p).filter fun zz => (i_placeProduct p zz pole == 0)))) k)) (K := fun s => some (s, 0)) (F := F) (by omega)
    (fun f k s hk h0 h1 => by
      show B_i_KindOfLine_0 p pole (L_i_KindOfLine_0 1000000 p pole f) (k : Int) s = _
      unfold B_i_KindOfLine_0
      have e0 : decide (0 ≤ (k : Int)) = true := by simp
      have e1 := cnd hk
      have e3 : (k : Int).toNat = k := Int.toNat_natCast k
      have e4 := row3_ok (flat3_len _) hk
      rw [show i_placesOn p pole = ((((places p).filter fun zz => (i_placeProduct p zz pole == 0))).length, flat3 (((places p).filter fun zz => (i_placeProduct p zz pole == 0)))) from rfl]
      have e7 : wI (s + 1) = s + 1 := by rw [wI_eq]; unfold wrap64; omega
      simp only [e0, e1, e3, e4, hp, Bool.and_true, Bool.true_and, if_true, wrap_add1 hk (by omega), e7]
      have hq : (i_isNullPlace p ((flat3 (((places p).filter fun zz => (i_placeProduct p zz pole == 0)))).getD (k * 3 + 0) 0, (flat3 (((places p).filter fun zz => (i_placeProduct p zz pole == 0)))).getD (k * 3 + 1) 0, (flat3 (((places p).filter fun zz => (i_placeProduct p zz pole == 0)))).getD (k * 3 + 2) 0)) = (i_isNullPlace p (R3 (flat3 (((places p).filter fun zz => (i_placeProduct p zz pole == 0)))) k)) := rfl
      rw [hq]
      cases (i_isNullPlace p (R3 (flat3 (((places p).filter fun zz => (i_placeProduct p zz pole == 0)))) k)) <;> rfl)
    (fun f s => by
      show B_i_KindOfLine_0 p pole (L_i_KindOfLine_0 1000000 p pole f) (((((places p).filter fun zz => (i_placeProduct p zz pole == 0))).length : Nat) : Int) s = _
      unfold B_i_KindOfLine_0
      rw [show i_placesOn p pole = ((((places p).filter fun zz => (i_placeProduct p zz pole == 0))).length, flat3 (((places p).filter fun zz => (i_placeProduct p zz pole == 0)))) from rfl]
      rw [if_neg (by simp)])
  rw [count3 _ _ (fun zz => i_isNullPlace p zz), rows3_flat3] at h
  exact h

def i_KindOfLine (p : Int) (pole : Int × Int × Int) : Int × Int :=
  (if ((i_asked p (true) (i_KindOfLine_c1 p pole)) != 0) = true then (0, (i_asked p (true) (i_KindOfLine_c1 p pole))) else V_i_KindOfLine_0 p pole 0 0)
theorem tot_i_KindOfLine (p : Int) (pole : Int × Int × Int) : Fo_i_KindOfLine 1000000 p pole = some (i_KindOfLine p pole) := by
  unfold Fo_i_KindOfLine G_i_KindOfLine i_KindOfLine
  (try simp only [wI_eq])
  repeat' (first | with_reducible rfl | refine chk_opt (by first | with_reducible rfl | exact Bool.true_or _ | (with_reducible exact asked_prB ‹_›) | (with_reducible exact l09Code_prB ‹_›) | (with_reducible exact l01Code_prB ‹_›) | (with_reducible exact l01Numbers_prB ‹_›) | (with_reducible exact l01Lines_prB ‹_›) | (with_reducible exact asked_prB0 ‹_›) | (with_reducible exact l09Code_prB0 ‹_›) | (with_reducible exact l01Code_prB0 ‹_›) | (with_reducible exact l01Numbers_prB0 ‹_›) | (with_reducible exact l01Lines_prB0 ‹_›) | (with_reducible exact field_prB ‹_›) | (with_reducible exact field_prB0 ‹_›) | (with_reducible exact l08Code_prB ‹_›) | (with_reducible exact l08Code_prB0 ‹_›) | (with_reducible exact l08Given_prB ‹_›) | (with_reducible exact l08Given_prB0 ‹_›) | exact mk_ok (by (first | (with_reducible assumption) | (with_reducible exact asked_prB ‹_›) | (with_reducible exact l09Code_prB ‹_›) | (with_reducible exact l01Code_prB ‹_›) | (with_reducible exact l01Numbers_prB ‹_›) | (with_reducible exact l01Lines_prB ‹_›) | (with_reducible exact asked_prB0 ‹_›) | (with_reducible exact l09Code_prB0 ‹_›) | (with_reducible exact l01Code_prB0 ‹_›) | (with_reducible exact l01Numbers_prB0 ‹_›) | (with_reducible exact l01Lines_prB0 ‹_›) | (with_reducible exact field_prB ‹_›) | (with_reducible exact field_prB0 ‹_›) | (with_reducible exact l08Code_prB ‹_›) | (with_reducible exact l08Code_prB0 ‹_›) | (with_reducible exact l08Given_prB ‹_›) | (with_reducible exact l08Given_prB0 ‹_›))) | exact and_all (by (first | (with_reducible assumption) | (with_reducible exact asked_prB ‹_›) | (with_reducible exact l09Code_prB ‹_›) | (with_reducible exact l01Code_prB ‹_›) | (with_reducible exact l01Numbers_prB ‹_›) | (with_reducible exact l01Lines_prB ‹_›) | (with_reducible exact asked_prB0 ‹_›) | (with_reducible exact l09Code_prB0 ‹_›) | (with_reducible exact l01Code_prB0 ‹_›) | (with_reducible exact l01Numbers_prB0 ‹_›) | (with_reducible exact l01Lines_prB0 ‹_›) | (with_reducible exact field_prB ‹_›) | (with_reducible exact field_prB0 ‹_›) | (with_reducible exact l08Code_prB ‹_›) | (with_reducible exact l08Code_prB0 ‹_›) | (with_reducible exact l08Given_prB ‹_›) | (with_reducible exact l08Given_prB0 ‹_›))) (fun _ => rfl) | exact and_all (by (first | (with_reducible assumption) | (with_reducible exact asked_prB ‹_›) | (with_reducible exact l09Code_prB ‹_›) | (with_reducible exact l01Code_prB ‹_›) | (with_reducible exact l01Numbers_prB ‹_›) | (with_reducible exact l01Lines_prB ‹_›) | (with_reducible exact asked_prB0 ‹_›) | (with_reducible exact l09Code_prB0 ‹_›) | (with_reducible exact l01Code_prB0 ‹_›) | (with_reducible exact l01Numbers_prB0 ‹_›) | (with_reducible exact l01Lines_prB0 ‹_›) | (with_reducible exact field_prB ‹_›) | (with_reducible exact field_prB0 ‹_›) | (with_reducible exact l08Code_prB ‹_›) | (with_reducible exact l08Code_prB0 ‹_›) | (with_reducible exact l08Given_prB ‹_›) | (with_reducible exact l08Given_prB0 ‹_›))) (fun _ => by (first | (with_reducible assumption) | (with_reducible exact asked_prB ‹_›) | (with_reducible exact l09Code_prB ‹_›) | (with_reducible exact l01Code_prB ‹_›) | (with_reducible exact l01Numbers_prB ‹_›) | (with_reducible exact l01Lines_prB ‹_›) | (with_reducible exact asked_prB0 ‹_›) | (with_reducible exact l09Code_prB0 ‹_›) | (with_reducible exact l01Code_prB0 ‹_›) | (with_reducible exact l01Numbers_prB0 ‹_›) | (with_reducible exact l01Lines_prB0 ‹_›) | (with_reducible exact field_prB ‹_›) | (with_reducible exact field_prB0 ‹_›) | (with_reducible exact l08Code_prB ‹_›) | (with_reducible exact l08Code_prB0 ‹_›) | (with_reducible exact l08Given_prB ‹_›) | (with_reducible exact l08Given_prB0 ‹_›)))) ?_ | refine ite_opt (fun _ => ?_) (fun _ => ?_) | exact lo0_i_KindOfLine _ _ (by (first | (with_reducible assumption) | (with_reducible exact asked_prB ‹_›) | (with_reducible exact l09Code_prB ‹_›) | (with_reducible exact l01Code_prB ‹_›) | (with_reducible exact l01Numbers_prB ‹_›) | (with_reducible exact l01Lines_prB ‹_›) | (with_reducible exact asked_prB0 ‹_›) | (with_reducible exact l09Code_prB0 ‹_›) | (with_reducible exact l01Code_prB0 ‹_›) | (with_reducible exact l01Numbers_prB0 ‹_›) | (with_reducible exact l01Lines_prB0 ‹_›) | (with_reducible exact field_prB ‹_›) | (with_reducible exact field_prB0 ‹_›) | (with_reducible exact l08Code_prB ‹_›) | (with_reducible exact l08Code_prB0 ‹_›) | (with_reducible exact l08Given_prB ‹_›) | (with_reducible exact l08Given_prB0 ‹_›))) (by omega) | rfl)
def run_i_KindOfLine : List PV → Option (Bool × List TR)
  | [.v (.int .i64 p), .v (.agg ⟨[.int .i64 pole0, .int .i64 pole1, .int .i64 pole2]⟩)] => some (true, enc_i_i (i_KindOfLine p (pole0, pole1, pole2)))
  | _ => none
theorem sound_i_KindOfLine : Sound Try.prog 36 run_i_KindOfLine := by
  refine sound_of de_i_i SO_i_KindOfLine (by kernel_rfl) Try.func36 Try.ntmps36 rfl (by kernel_rfl) ?_
  intro W pvs avs rs hargs hrun
  unfold run_i_KindOfLine at hrun
  split at hrun
  · simp only [Option.some.injEq, Prod.mk.injEq] at hrun
    obtain ⟨hp, rfl⟩ := hrun
    rename_i p pole0 pole1 pole2
    exact ⟨_, _, _, hargs, rfl, (eq_i_KindOfLine _ p (pole0, pole1, pole2)).trans (tot_i_KindOfLine p (pole0, pole1, pole2))⟩
  · cases hrun

def S_l_FnExactKindOfLine : Sums := ⟨tblS [(19, run_l_toPlace), (35, run_s_KindOfLine), (36, run_i_KindOfLine)], tblM []⟩
theorem SO_l_FnExactKindOfLine : SumsOK Try.prog S_l_FnExactKindOfLine := ⟨tblS_ok ⟨⟨Try.call19, sound_l_toPlace⟩, ⟨Try.call35, sound_s_KindOfLine⟩, ⟨Try.call36, sound_i_KindOfLine⟩, True.intro⟩, tblM_ok True.intro⟩
def Fo_l_FnExactKindOfLine (aP : Int) (aPole : Int × Int × Int) : Option (Bool) :=
  (if (((i_KindOfLine aP (l_toPlace aPole)).1) != ((s_KindOfLine aP (l_toPlace aPole)).1)) = true then some false else (if (((i_KindOfLine aP (l_toPlace aPole)).2) != ((s_KindOfLine aP (l_toPlace aPole)).2)) = true then some false else some true))
theorem eq_l_FnExactKindOfLine (aP : Int) (aPole : Int × Int × Int) : execT Try.prog S_l_FnExactKindOfLine 9 31 1000000 dec_b [.v (.int .i64 aP), .v (.agg ⟨[.int .i64 aPole.1, .int .i64 aPole.2.1, .int .i64 aPole.2.2]⟩)] = Fo_l_FnExactKindOfLine aP aPole := by
  kernel_rfl
def l_FnExactKindOfLine (aP : Int) (aPole : Int × Int × Int) : Bool :=
  (if (((i_KindOfLine aP (l_toPlace aPole)).1) != ((s_KindOfLine aP (l_toPlace aPole)).1)) = true then false else (if (((i_KindOfLine aP (l_toPlace aPole)).2) != ((s_KindOfLine aP (l_toPlace aPole)).2)) = true then false else true))
theorem tot_l_FnExactKindOfLine (aP : Int) (aPole : Int × Int × Int) : Fo_l_FnExactKindOfLine aP aPole = some (l_FnExactKindOfLine aP aPole) := by
  unfold Fo_l_FnExactKindOfLine l_FnExactKindOfLine
  (try simp only [wI_eq])
  repeat' (first | with_reducible rfl | refine ite_opt (fun _ => ?_) (fun _ => ?_) | rfl)
def run_l_FnExactKindOfLine : List PV → Option (Bool × List TR)
  | [.v (.int .i64 aP), .v (.agg ⟨[.int .i64 aPole0, .int .i64 aPole1, .int .i64 aPole2]⟩)] => some (true, enc_b (l_FnExactKindOfLine aP (aPole0, aPole1, aPole2)))
  | _ => none
theorem sound_l_FnExactKindOfLine : Sound Try.prog 9 run_l_FnExactKindOfLine := by
  refine sound_of de_b SO_l_FnExactKindOfLine (by kernel_rfl) Try.func9 Try.ntmps9 rfl (by kernel_rfl) ?_
  intro W pvs avs rs hargs hrun
  unfold run_l_FnExactKindOfLine at hrun
  split at hrun
  · simp only [Option.some.injEq, Prod.mk.injEq] at hrun
    obtain ⟨hp, rfl⟩ := hrun
    rename_i aP aPole0 aPole1 aPole2
    exact ⟨_, _, _, hargs, rfl, (eq_l_FnExactKindOfLine aP (aPole0, aPole1, aPole2)).trans (tot_l_FnExactKindOfLine aP (aPole0, aPole1, aPole2))⟩
  · cases hrun


end Go.Proofs.Ytcechmaoihckgaa
