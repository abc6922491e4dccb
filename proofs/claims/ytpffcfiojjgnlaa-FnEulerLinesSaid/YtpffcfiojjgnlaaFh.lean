import Derived.Test.YtpffcfiojjgnlaaFe
import Derived.Test.YtpffcfiojjgnlaaProg
set_option linter.unusedSimpArgs false
set_option linter.unusedVariables false
namespace Go.Proofs.Ytpffcfiojjgnlaa
open Go.RowKit
noncomputable section
def S_s_l01From : Sums := ⟨tblS [], tblM []⟩
theorem SO_s_l01From : SumsOK Try.prog S_s_l01From := ⟨tblS_ok True.intro, tblM_ok True.intro⟩
def T_s_l01From_0 (coden : Nat) (codel : List Int) (v44_2 : Int) (i : Int) : Tab := ⟨[.row 1, .junk, .val (.pointer none), .ptr 44 0, .val (.int .i64 i), .row 1, .row 1, .val (.int .i64 ((coden : Nat) : Int)), .val (.int .u64 (IntKind.u64.wrap (((coden : Nat) : Int)))), .val (.int .u64 (IntKind.u64.wrap (13701 + (IntKind.u64.wrap (((coden : Nat) : Int)))))), .junk, .ptr 44 0, .junk, .junk, .junk, .junk, .junk, .junk, .junk, .junk, .junk, .junk, .junk, .junk, .junk, .junk, .junk, .junk, .junk, .junk, .junk, .junk, .junk, .junk, .junk, .junk, .junk, .junk], [(0, .ros 0 (.ints [])), (1, .ros coden (.byts codel)), (44, .box 120 [.row 1, .val (.int .i64 0), .val (.int .u64 v44_2)])]⟩
def X_s_l01From_0 (P : Program) (fu : Nat) (coden : Nat) (codel : List Int) (f : Nat) (v44_2 : Int) (i : Int) : Option (Int × Int) := loopK (exec P S_s_l01From 38 (fun _ => fu + 100) (Code.sub [1, 1, 0, 1, 0, 0] (bodyF P 50))) f (T_s_l01From_0 coden codel v44_2 i) (kBlock 0 (kSeq (fun s => exec P S_s_l01From 38 (fun _ => fu + 100) (Code.sub [1, 1, 1] (bodyF P 50)) s (finB P 50 dec_B120)) (finB P 50 dec_B120)))
def B_s_l01From_0 (coden : Nat) (codel : List Int) (rec0 : Int → Int → Option (Int × Int)) (v44_2 : Int) (i : Int) : Option (Int × Int) :=
  (if (decide (i < ((coden : Nat) : Int))) = true then (if (decide (i < 4096)) = true then (if (decide (0 ≤ i) && decide (i < ((coden : Nat) : Int))) = true then (if (Nat.ble (i.toNat * 1 + 1) codel.length) = true then rec0 (IntKind.u64.wrap ((IntKind.u64.wrap ((IntKind.u64.wrap (v44_2 * 1099511628211)) + (IntKind.u64.wrap (codel.getD (i.toNat * 1) 0)))) + 199)) (wI (i + 1)) else none) else none) else some (0, v44_2)) else some (0, v44_2))
def L_s_l01From_0 (fu : Nat) (coden : Nat) (codel : List Int) : Nat → Int → Int → Option (Int × Int)
  | 0, _, _ => none
  | f + 1, v44_2, i => B_s_l01From_0 coden codel (L_s_l01From_0 fu coden codel f) v44_2 i
theorem loop_s_l01From_0 (fu : Nat) (coden : Nat) (codel : List Int) : ∀ (f : Nat) (v44_2 : Int) (i : Int), X_s_l01From_0 Try.prog fu coden codel f v44_2 i = L_s_l01From_0 fu coden codel f v44_2 i := by
  intro f
  induction f with
  | zero => intros; rfl
  | succ f ih =>
    intro v44_2 i
    have h1 : X_s_l01From_0 Try.prog fu coden codel (f + 1) v44_2 i = B_s_l01From_0 coden codel (X_s_l01From_0 Try.prog fu coden codel f) v44_2 i := by kernel_rfl
    have h2 : X_s_l01From_0 Try.prog fu coden codel f = L_s_l01From_0 fu coden codel f := by funext v44_2 i; exact ih v44_2 i
    rw [h1, h2]
    rfl
def G_s_l01From (coden : Nat) (codel : List Int) (lo0 : Int → Int → Option (Int × Int)) : Option (Int × Int) :=
  lo0 (IntKind.u64.wrap (13701 + (IntKind.u64.wrap (((coden : Nat) : Int))))) 0
def Fo_s_l01From (fu : Nat) (coden : Nat) (codel : List Int) : Option (Int × Int) := G_s_l01From coden codel (L_s_l01From_0 fu coden codel (fu + 100))
theorem eqg_s_l01From (fu : Nat) (coden : Nat) (codel : List Int) : execB Try.prog S_s_l01From 50 38 (fun _ => fu + 100) dec_B120 coden (.byts codel) = G_s_l01From coden codel (L_s_l01From_0 fu coden codel (fu + 100)) := by
  have h1 : execB Try.prog S_s_l01From 50 38 (fun _ => fu + 100) dec_B120 coden (.byts codel) = G_s_l01From coden codel (X_s_l01From_0 Try.prog fu coden codel (fu + 100)) := by kernel_rfl
  have c0 : X_s_l01From_0 Try.prog fu coden codel (fu + 100) = L_s_l01From_0 fu coden codel (fu + 100) := by funext v44_2 i; exact loop_s_l01From_0 fu coden codel (fu + 100) v44_2 i
  rw [h1, c0]
theorem eq_s_l01From (fu : Nat) (coden : Nat) (codel : List Int) : execB Try.prog S_s_l01From 50 38 (fun _ => fu + 100) dec_B120 coden (.byts codel) = Fo_s_l01From fu coden codel := eqg_s_l01From fu coden codel
theorem from_go (fu n : Nat) (l : List Int) (hc : codeB n l = true) : ∀ (f : Nat) (v i : Int), 0 ≤ i → i ≤ 4096 → 4096 - i < f → ∃ h, L_s_l01From_0 fu n l f v i = some (0, h)
  | 0, v, i, _, h1, h2 => by omega
  | f + 1, v, i, h0, h1, h2 => by
    rw [show L_s_l01From_0 fu n l (f + 1) v i = B_s_l01From_0 n l (L_s_l01From_0 fu n l f) v i from rfl]
    unfold B_s_l01From_0
    by_cases hn : i < (n : Int)
    · by_cases hk : i < 4096
      · rw [if_pos (decide_eq_true hn), if_pos (decide_eq_true hk), if_pos (idx_ok ⟨h0, hn⟩), if_pos (ble_ok (by obtain ⟨e, _⟩ := codeB_ok hc; omega)), wI_eq, show wrap64 (i + 1) = i + 1 by unfold wrap64; omega]
        exact from_go fu n l hc f _ _ (by omega) (by omega) (by omega)
      · rw [if_pos (decide_eq_true hn), if_neg (by simp [hk])]
        exact ⟨_, rfl⟩
    · rw [if_neg (by simp [hn])]
      exact ⟨_, rfl⟩
theorem from_some {n : Nat} {l : List Int} (hc : codeB n l = true) : ∃ h, Fo_s_l01From 1000000 n l = some (0, h) := by
  unfold Fo_s_l01From G_s_l01From
  exact from_go _ n l hc _ _ _ (by decide) (by decide) (by decide)
def s_l01From (coden : Nat) (codel : List Int) : Int × Int := (Fo_s_l01From 1000000 coden codel).getD (0, 0)
theorem tot_s_l01From (coden : Nat) (codel : List Int) (hp : (codeB coden codel) = true) : Fo_s_l01From 1000000 coden codel = some (s_l01From coden codel) := by
  obtain ⟨h, e⟩ := from_some hp
  unfold s_l01From
  rw [e]
  rfl
def run_s_l01From : BRun
  | [.s coden (.byts codel)] => some (codeB coden codel, enc_B120 (s_l01From coden codel))
  | _ => none
theorem sound_s_l01From : SoundB Try.prog 50 run_s_l01From := by
  refine soundB_of de_B120 SO_s_l01From (by kernel_rfl) Try.func50 Try.ntmps50 rfl (by kernel_rfl) ?_
  intro m c e vals hrun
  unfold run_s_l01From at hrun
  split at hrun
  · rename_i heq
    simp only [List.cons.injEq, PV.s.injEq, and_true] at heq
    obtain ⟨rfl, rfl⟩ := heq
    simp only [Option.some.injEq, Prod.mk.injEq] at hrun
    obtain ⟨hp, hrun⟩ := hrun
    exact ⟨_, s_l01From _ _, by first | exact hrun.symm | exact (Prod.ext hrun.1 hrun.2).symm, (eq_s_l01From _ _ _).trans (tot_s_l01From _ _ hp)⟩
  · cases hrun

theorem s_l01From_src {n : Nat} {l : List Int} (hc : codeB n l = true) : srcB n l (s_l01From n l) = true := by
  obtain ⟨h, e⟩ := from_some hc
  refine srcB_mk hc ?_
  unfold s_l01From
  rw [e]
  exact Int.le_refl 0
abbrev k132_0 (sn : Nat) (sl : List Int) (ss : Int × Int) (p : Int) : (Int × Int) × Nat × List Int × Int × Int := (s_l01DrawPoint sn sl ((s_l01DrawPoint sn sl ss p).2.2.2) p)
abbrev k132_1 (sn : Nat) (sl : List Int) (ss : Int × Int) (p : Int) : (Int × Int) × Nat × List Int × Int × Int := (s_l01DrawPoint sn sl ((k132_0 sn sl ss p).2.2.2) p)
abbrev k132_2 (sn : Nat) (sl : List Int) (ss : Int × Int) (p : Int) : Int := (s_l01Area p ((s_l01DrawPoint sn sl ss p).1) ((k132_0 sn sl ss p).1) ((k132_1 sn sl ss p).1))
abbrev k132_3 (sn : Nat) (sl : List Int) (ss : Int × Int) (p : Int) : (Int × Int) × Nat × List Int × Int × Int := (s_l01DrawPoint sn sl ((k132_1 sn sl ss p).2.2.2) p)
abbrev k132_4 (sn : Nat) (sl : List Int) (ss : Int × Int) (p : Int) : (Int × Int) × Nat × List Int × Int × Int := (s_l01DrawPoint sn sl ((k132_3 sn sl ss p).2.2.2) p)
def S_s_l04DrawOf : Sums := ⟨tblS [(61, run_s_l01Area)], tblM [(52, .box run_s_l01DrawPoint)]⟩
theorem SO_s_l04DrawOf : SumsOK Try.prog S_s_l04DrawOf := ⟨tblS_ok ⟨⟨Try.call61, sound_s_l01Area⟩, True.intro⟩, tblM_ok ⟨⟨Try.call52, sound_s_l01DrawPoint⟩, True.intro⟩⟩
def T_s_l04DrawOf_0 (sn : Nat) (sl : List Int) (ss : Int × Int) (p : Int) (v0_1 : Int) (v0_2 : Int) (v32_0 : Int) (v32_1 : Int) (v36_0 : Int) (v36_1 : Int) (k : Int) : Tab := ⟨[.ptr 0 0, .val (.int .i64 p), .junk, .junk, .ptr 16 0, .ptr 20 0, .ptr 24 0, .ptr 28 0, .ptr 32 0, .ptr 36 0, .val (.int .i64 k), .ptr 0 0, .val (.int .i64 p), .val (.agg ⟨[.int .i64 (((s_l01DrawPoint sn sl ss p).1).1), .int .i64 (((s_l01DrawPoint sn sl ss p).1).2)]⟩), .ptr 0 0, .val (.int .i64 p), .val (.agg ⟨[.int .i64 (((k132_0 sn sl ss p).1).1), .int .i64 (((k132_0 sn sl ss p).1).2)]⟩), .ptr 0 0, .val (.int .i64 p), .val (.agg ⟨[.int .i64 (((k132_1 sn sl ss p).1).1), .int .i64 (((k132_1 sn sl ss p).1).2)]⟩), .junk, .junk, .junk, .junk, .junk, .junk, .junk, .junk, .junk, .junk, .junk, .junk, .junk, .junk, .junk, .junk, .junk, .junk, .junk, .junk, .junk], [(0, .box 120 [.row 1, .val (.int .i64 v0_1), .val (.int .u64 v0_2)]), (1, .ros sn (.byts sl)), (16, .box 25 [.val (.int .i64 0), .val (.int .i64 0)]), (20, .box 25 [.val (.int .i64 0), .val (.int .i64 0)]), (24, .box 25 [.val (.int .i64 0), .val (.int .i64 0)]), (28, .box 25 [.val (.int .i64 (((s_l01DrawPoint sn sl ss p).1).1)), .val (.int .i64 (((s_l01DrawPoint sn sl ss p).1).2))]), (32, .box 25 [.val (.int .i64 v32_0), .val (.int .i64 v32_1)]), (36, .box 25 [.val (.int .i64 v36_0), .val (.int .i64 v36_1)])]⟩
def X_s_l04DrawOf_0 (P : Program) (fu : Nat) (sn : Nat) (sl : List Int) (ss : Int × Int) (p : Int) (f : Nat) (v0_1 : Int) (v0_2 : Int) (v32_0 : Int) (v32_1 : Int) (v36_0 : Int) (v36_1 : Int) (k : Int) : Option ((Int × Int) × (Int × Int) × (Int × Int) × Nat × List Int × Int × Int) := loopK (exec P S_s_l04DrawOf 41 (fun _ => fu + 100) (Code.sub [1, 1, 0, 1, 0, 0] (bodyF P 132))) f (T_s_l04DrawOf_0 sn sl ss p v0_1 v0_2 v32_0 v32_1 v36_0 v36_1 k) (kBlock 0 (kSeq (fun s => exec P S_s_l04DrawOf 41 (fun _ => fu + 100) (Code.sub [1, 1, 1] (bodyF P 132)) s (finP P 132 120 [.s sn (.byts sl), .v (.int .i64 ss.1), .v (.int .u64 ss.2)] dec_P120_a2_a2_a2)) (finP P 132 120 [.s sn (.byts sl), .v (.int .i64 ss.1), .v (.int .u64 ss.2)] dec_P120_a2_a2_a2)))
def B_s_l04DrawOf_0 (sn : Nat) (sl : List Int) (ss : Int × Int) (p : Int) (rec0 : Int → Int → Int → Int → Int → Int → Int → Option ((Int × Int) × (Int × Int) × (Int × Int) × Nat × List Int × Int × Int)) (v0_1 : Int) (v0_2 : Int) (v32_0 : Int) (v32_1 : Int) (v36_0 : Int) (v36_1 : Int) (k : Int) : Option ((Int × Int) × (Int × Int) × (Int × Int) × Nat × List Int × Int × Int) :=
  (if (decide (k < 6)) = true then (if (prB p) = true then (if ((s_l01Area p ((s_l01DrawPoint sn sl ss p).1) (v32_0, v32_1) (v36_0, v36_1)) == 0) = true then (if (srcB sn sl (v0_1, v0_2) && prB p) = true then (if (srcB sn sl ((s_l01DrawPoint sn sl (v0_1, v0_2) p).2.2.2) && prB p) = true then rec0 ((s_l01DrawPoint sn sl ((s_l01DrawPoint sn sl (v0_1, v0_2) p).2.2.2) p).2.2.2.1) ((s_l01DrawPoint sn sl ((s_l01DrawPoint sn sl (v0_1, v0_2) p).2.2.2) p).2.2.2.2) (((s_l01DrawPoint sn sl (v0_1, v0_2) p).1).1) (((s_l01DrawPoint sn sl (v0_1, v0_2) p).1).2) (((s_l01DrawPoint sn sl ((s_l01DrawPoint sn sl (v0_1, v0_2) p).2.2.2) p).1).1) (((s_l01DrawPoint sn sl ((s_l01DrawPoint sn sl (v0_1, v0_2) p).2.2.2) p).1).2) (wI (k + 1)) else none) else none) else some (((s_l01DrawPoint sn sl ss p).1), (v32_0, v32_1), (v36_0, v36_1), sn, sl, v0_1, v0_2)) else none) else some (((s_l01DrawPoint sn sl ss p).1), (v32_0, v32_1), (v36_0, v36_1), sn, sl, v0_1, v0_2))
def L_s_l04DrawOf_0 (fu : Nat) (sn : Nat) (sl : List Int) (ss : Int × Int) (p : Int) : Nat → Int → Int → Int → Int → Int → Int → Int → Option ((Int × Int) × (Int × Int) × (Int × Int) × Nat × List Int × Int × Int)
  | 0, _, _, _, _, _, _, _ => none
  | f + 1, v0_1, v0_2, v32_0, v32_1, v36_0, v36_1, k => B_s_l04DrawOf_0 sn sl ss p (L_s_l04DrawOf_0 fu sn sl ss p f) v0_1 v0_2 v32_0 v32_1 v36_0 v36_1 k
theorem loop_s_l04DrawOf_0 (fu : Nat) (sn : Nat) (sl : List Int) (ss : Int × Int) (p : Int) : ∀ (f : Nat) (v0_1 : Int) (v0_2 : Int) (v32_0 : Int) (v32_1 : Int) (v36_0 : Int) (v36_1 : Int) (k : Int), X_s_l04DrawOf_0 Try.prog fu sn sl ss p f v0_1 v0_2 v32_0 v32_1 v36_0 v36_1 k = L_s_l04DrawOf_0 fu sn sl ss p f v0_1 v0_2 v32_0 v32_1 v36_0 v36_1 k := by
  intro f
  induction f with
  | zero => intros; rfl
  | succ f ih =>
    intro v0_1 v0_2 v32_0 v32_1 v36_0 v36_1 k
    have h1 : X_s_l04DrawOf_0 Try.prog fu sn sl ss p (f + 1) v0_1 v0_2 v32_0 v32_1 v36_0 v36_1 k = B_s_l04DrawOf_0 sn sl ss p (X_s_l04DrawOf_0 Try.prog fu sn sl ss p f) v0_1 v0_2 v32_0 v32_1 v36_0 v36_1 k := by kernel_rfl
    have h2 : X_s_l04DrawOf_0 Try.prog fu sn sl ss p f = L_s_l04DrawOf_0 fu sn sl ss p f := by funext v0_1 v0_2 v32_0 v32_1 v36_0 v36_1 k; exact ih v0_1 v0_2 v32_0 v32_1 v36_0 v36_1 k
    rw [h1, h2]
    rfl
def G_s_l04DrawOf (sn : Nat) (sl : List Int) (ss : Int × Int) (p : Int) (lo0 : Int → Int → Int → Int → Int → Int → Int → Option ((Int × Int) × (Int × Int) × (Int × Int) × Nat × List Int × Int × Int)) : Option ((Int × Int) × (Int × Int) × (Int × Int) × Nat × List Int × Int × Int) :=
  (if (srcB sn sl ss && prB p) = true then (if (srcB sn sl ((s_l01DrawPoint sn sl ss p).2.2.2) && prB p) = true then (if (srcB sn sl ((k132_0 sn sl ss p).2.2.2) && prB p) = true then lo0 ((k132_1 sn sl ss p).2.2.2.1) ((k132_1 sn sl ss p).2.2.2.2) (((k132_0 sn sl ss p).1).1) (((k132_0 sn sl ss p).1).2) (((k132_1 sn sl ss p).1).1) (((k132_1 sn sl ss p).1).2) 0 else none) else none) else none)
def Fo_s_l04DrawOf (fu : Nat) (sn : Nat) (sl : List Int) (ss : Int × Int) (p : Int) : Option ((Int × Int) × (Int × Int) × (Int × Int) × Nat × List Int × Int × Int) := G_s_l04DrawOf sn sl ss p (L_s_l04DrawOf_0 fu sn sl ss p (fu + 100))
theorem eqg_s_l04DrawOf (fu : Nat) (sn : Nat) (sl : List Int) (ss : Int × Int) (p : Int) : execP Try.prog S_s_l04DrawOf 132 41 (fun _ => fu + 100) dec_P120_a2_a2_a2 120 [.s sn (.byts sl), .v (.int .i64 ss.1), .v (.int .u64 ss.2)] [.v (.int .i64 p)] = G_s_l04DrawOf sn sl ss p (L_s_l04DrawOf_0 fu sn sl ss p (fu + 100)) := by
  have h1 : execP Try.prog S_s_l04DrawOf 132 41 (fun _ => fu + 100) dec_P120_a2_a2_a2 120 [.s sn (.byts sl), .v (.int .i64 ss.1), .v (.int .u64 ss.2)] [.v (.int .i64 p)] = G_s_l04DrawOf sn sl ss p (X_s_l04DrawOf_0 Try.prog fu sn sl ss p (fu + 100)) := by kernel_rfl
  have c0 : X_s_l04DrawOf_0 Try.prog fu sn sl ss p (fu + 100) = L_s_l04DrawOf_0 fu sn sl ss p (fu + 100) := by funext v0_1 v0_2 v32_0 v32_1 v36_0 v36_1 k; exact loop_s_l04DrawOf_0 fu sn sl ss p (fu + 100) v0_1 v0_2 v32_0 v32_1 v36_0 v36_1 k
  rw [h1, c0]
theorem eq_s_l04DrawOf (fu : Nat) (sn : Nat) (sl : List Int) (ss : Int × Int) (p : Int) : execP Try.prog S_s_l04DrawOf 132 41 (fun _ => fu + 100) dec_P120_a2_a2_a2 120 [.s sn (.byts sl), .v (.int .i64 ss.1), .v (.int .u64 ss.2)] [.v (.int .i64 p)] = Fo_s_l04DrawOf fu sn sl ss p := eqg_s_l04DrawOf fu sn sl ss p
def s_l04DrawOf_d (sn : Nat) (sl : List Int) (ss : Int × Int) (p : Int) : (Int × Int) × (Int × Int) × (Int × Int) × Nat × List Int × Int × Int := (Fo_s_l04DrawOf 1000000 sn sl ss p).getD ((0, 0), (0, 0), (0, 0), sn, sl, ss.1, ss.2)
def s_l04DrawOf : (Nat) → (List Int) → (Int × Int) → (Int) → ((Int × Int) × (Int × Int) × (Int × Int) × Nat × List Int × Int × Int) := shut s_l04DrawOf_d
theorem s_l04DrawOf_eq (sn : Nat) (sl : List Int) (ss : Int × Int) (p : Int) : s_l04DrawOf sn sl ss p = s_l04DrawOf_d sn sl ss p := by
  unfold s_l04DrawOf
  rw [shut_eq]
theorem s_l04DrawOf_ex (sn : Nat) (sl : List Int) (ss : Int × Int) (p : Int) (hp : (srcB sn sl ss && prB p) = true) : ∃ r, Fo_s_l04DrawOf 1000000 sn sl ss p = some r ∧ srcB sn sl r.2.2.2.2.2 = true := by
  have hs := and_l hp
  have hq := and_r hp
  have key : ∀ (f : Nat) (x y a b c d k : Int), 0 ≤ k ∧ k ≤ 6 → 6 - k < f → srcB sn sl (x, y) = true → ∃ r, L_s_l04DrawOf_0 1000000 sn sl ss p f x y a b c d k = some r ∧ srcB sn sl r.2.2.2.2.2 = true := by
    intro f
    induction f with
    | zero =>
      intro x y a b c d k h0 h1 h2
      omega
    | succ f ih =>
      intro x y a b c d k h0 h1 h2
      show ∃ r, B_s_l04DrawOf_0 sn sl ss p (L_s_l04DrawOf_0 1000000 sn sl ss p f) x y a b c d k = some r ∧ srcB sn sl r.2.2.2.2.2 = true
      unfold B_s_l04DrawOf_0
      by_cases hk : k < 6
      · rw [if_pos (decide_eq_true hk), if_pos hq]
        by_cases hz : (s_l01Area p ((s_l01DrawPoint sn sl ss p).1) (a, b) (c, d) == 0) = true
        · have s1 := post_s_l01DrawPoint sn sl (x, y) p h2
          have s2 := post_s_l01DrawPoint sn sl _ p s1
          rw [if_pos hz, if_pos (and_two h2 hq), if_pos (and_two s1 hq), wI_eq, show wrap64 (k + 1) = k + 1 by unfold wrap64; omega]
          exact ih _ _ _ _ _ _ _ (by omega) (by omega) s2
        · rw [if_neg hz]
          exact ⟨_, rfl, h2⟩
      · rw [if_neg (by simp [hk])]
        exact ⟨_, rfl, h2⟩
  have s0 := post_s_l01DrawPoint sn sl ss p hs
  have s1 := post_s_l01DrawPoint sn sl _ p s0
  have s2 := post_s_l01DrawPoint sn sl _ p s1
  unfold Fo_s_l04DrawOf G_s_l04DrawOf
  rw [if_pos hp, if_pos (and_two s0 hq), if_pos (and_two s1 hq)]
  exact key _ _ _ _ _ _ _ _ (by decide) (by decide) s2
theorem tot_s_l04DrawOf (sn : Nat) (sl : List Int) (ss : Int × Int) (p : Int) (hp : (srcB sn sl ss && prB p) = true) : Fo_s_l04DrawOf 1000000 sn sl ss p = some (s_l04DrawOf sn sl ss p) := by
  obtain ⟨r, e, _⟩ := s_l04DrawOf_ex sn sl ss p hp
  rw [s_l04DrawOf_eq]
  unfold s_l04DrawOf_d
  rw [e]
  rfl
def run_s_l04DrawOf : PRun
  | 120, [.s sn (.byts sl), .v (.int .i64 s_1), .v (.int .u64 s_2)], [.v (.int .i64 p)] => some (srcB sn sl (s_1, s_2) && prB p, enc_P120_a2_a2_a2 (s_l04DrawOf sn sl (s_1, s_2) p))
  | _, _, _ => none
theorem sound_s_l04DrawOf : SoundP Try.prog 132 run_s_l04DrawOf := by
  refine soundP_of de_P120_a2_a2_a2 SO_s_l04DrawOf (by kernel_rfl) Try.func132 Try.ntmps132 rfl (by kernel_rfl) ?_
  intro e bcs pvs rs bcs' hrun
  unfold run_s_l04DrawOf at hrun
  split at hrun
  · simp only [Option.some.injEq, Prod.mk.injEq] at hrun
    obtain ⟨hp, hrun⟩ := hrun
    rename_i sn sl s_1 s_2 p
    exact ⟨_, s_l04DrawOf sn sl (s_1, s_2) p, by first | exact hrun.symm | exact (Prod.ext hrun.1 hrun.2).symm, (eq_s_l04DrawOf _ sn sl (s_1, s_2) p).trans (tot_s_l04DrawOf sn sl (s_1, s_2) p hp)⟩
  · cases hrun

theorem post_s_l04DrawOf (sn : Nat) (sl : List Int) (ss : Int × Int) (p : Int) (hs : srcB sn sl ss = true) : srcB sn sl (s_l04DrawOf sn sl ss p).2.2.2.2.2 = true := by
  by_cases hq : prB p = true
  · obtain ⟨r, e, h⟩ := s_l04DrawOf_ex sn sl ss p (and_two hs hq)
    rw [s_l04DrawOf_eq]
    unfold s_l04DrawOf_d
    rw [e]
    exact h
  · have e : Fo_s_l04DrawOf 1000000 sn sl ss p = none := by
      unfold Fo_s_l04DrawOf G_s_l04DrawOf
      rw [if_neg (by simp [hq])]
    rw [s_l04DrawOf_eq]
    unfold s_l04DrawOf_d
    rw [e]
    exact hs
abbrev k102_0 (coden : Nat) (codel : List Int) : Int × Nat × List Int × Int × Int := (s_l01DrawField coden codel (s_l01From coden codel))
abbrev k102_1 (coden : Nat) (codel : List Int) : (Int × Int) × (Int × Int) × (Int × Int) × Nat × List Int × Int × Int := (s_l04DrawOf coden codel ((k102_0 coden codel).2.2.2) ((k102_0 coden codel).1))
abbrev k102_2 (coden : Nat) (codel : List Int) : Int × Nat × List Int × Int × Int := (s_l02DrawColour coden codel ((k102_1 coden codel).2.2.2.2.2))
abbrev k102_3 (coden : Nat) (codel : List Int) : Int × Nat × List Int × Int × Int := (s_l01Next coden codel ((k102_2 coden codel).2.2.2) 24)
abbrev k102_4 (coden : Nat) (codel : List Int) : Int × Int := (s_l01Middle ((k102_0 coden codel).1) ((k102_1 coden codel).1) ((k102_1 coden codel).2.1))
abbrev k102_5 (coden : Nat) (codel : List Int) : Int × Nat × List Int × Int × Int := (s_l01BadField coden codel ((k102_3 coden codel).2.2.2) ((k102_0 coden codel).1))
abbrev k102_6 (coden : Nat) (codel : List Int) : (Int × Int) × Nat × List Int × Int × Int := (s_l01BadPoint coden codel ((k102_5 coden codel).2.2.2) ((k102_0 coden codel).1) ((k102_1 coden codel).1))
abbrev k102_7 (coden : Nat) (codel : List Int) : (Int × Int) × Nat × List Int × Int × Int := (s_l01BadPoint coden codel ((k102_6 coden codel).2.2.2) ((k102_0 coden codel).1) ((k102_1 coden codel).2.1))
abbrev k102_8 (coden : Nat) (codel : List Int) : (Int × Int) × Nat × List Int × Int × Int := (s_l01BadPoint coden codel ((k102_7 coden codel).2.2.2) ((k102_0 coden codel).1) (k102_4 coden codel))
abbrev k102_9 (coden : Nat) (codel : List Int) : (Int × Int) × Nat × List Int × Int × Int := (s_l01BadPoint coden codel ((k102_7 coden codel).2.2.2) ((k102_0 coden codel).1) ((k102_1 coden codel).2.2.1))
def S_s_l04Draw : Sums := ⟨tblS [(111, run_s_l01Middle)], tblM [(50, .src run_s_l01From), (70, .box run_s_l01DrawField), (132, .box run_s_l04DrawOf), (133, .box run_s_l02DrawColour), (76, .box run_s_l01Next), (79, .box run_s_l01BadField), (81, .box run_s_l01BadPoint)]⟩
theorem SO_s_l04Draw : SumsOK Try.prog S_s_l04Draw := ⟨tblS_ok ⟨⟨Try.call111, sound_s_l01Middle⟩, True.intro⟩, tblM_ok ⟨⟨Try.call50, sound_s_l01From⟩, ⟨Try.call70, sound_s_l01DrawField⟩, ⟨Try.call132, sound_s_l04DrawOf⟩, ⟨Try.call133, sound_s_l02DrawColour⟩, ⟨Try.call76, sound_s_l01Next⟩, ⟨Try.call79, sound_s_l01BadField⟩, ⟨Try.call81, sound_s_l01BadPoint⟩, True.intro⟩⟩
def Fo_s_l04Draw (coden : Nat) (codel : List Int) : Option (Int × Int × (Int × Int) × (Int × Int) × Int × Int) :=
  (if (codeB coden codel) = true then (if (srcB coden codel (s_l01From coden codel)) = true then (if (srcB coden codel ((k102_0 coden codel).2.2.2) && prB ((k102_0 coden codel).1)) = true then (if (srcB coden codel ((k102_1 coden codel).2.2.2.2.2)) = true then (if (srcB coden codel ((k102_2 coden codel).2.2.2)) = true then (if (((k102_3 coden codel).1) == 0) = true then (if (prB ((k102_0 coden codel).1)) = true then (if (srcB coden codel ((k102_3 coden codel).2.2.2) && prB ((k102_0 coden codel).1)) = true then (if (srcB coden codel ((k102_5 coden codel).2.2.2) && prB ((k102_0 coden codel).1)) = true then (if (srcB coden codel ((k102_6 coden codel).2.2.2) && prB ((k102_0 coden codel).1)) = true then (if (srcB coden codel ((k102_7 coden codel).2.2.2) && prB ((k102_0 coden codel).1)) = true then some ((k102_5 coden codel).1, (k102_2 coden codel).1, ((k102_6 coden codel).1), ((k102_7 coden codel).1), ((k102_8 coden codel).1)) else none) else none) else none) else none) else none) else (if (srcB coden codel ((k102_3 coden codel).2.2.2) && prB ((k102_0 coden codel).1)) = true then (if (srcB coden codel ((k102_5 coden codel).2.2.2) && prB ((k102_0 coden codel).1)) = true then (if (srcB coden codel ((k102_6 coden codel).2.2.2) && prB ((k102_0 coden codel).1)) = true then (if (srcB coden codel ((k102_7 coden codel).2.2.2) && prB ((k102_0 coden codel).1)) = true then some ((k102_5 coden codel).1, (k102_2 coden codel).1, ((k102_6 coden codel).1), ((k102_7 coden codel).1), ((k102_9 coden codel).1)) else none) else none) else none) else none)) else none) else none) else none) else none) else none)
theorem eq_s_l04Draw (coden : Nat) (codel : List Int) : execT Try.prog S_s_l04Draw 102 49 (fun _ => 1000000) dec_i_i_a2_a2_a2 [.s coden (.byts codel)] = Fo_s_l04Draw coden codel := by
  kernel_rfl
def s_l04Draw_d (coden : Nat) (codel : List Int) : Int × Int × (Int × Int) × (Int × Int) × Int × Int :=
  (if (((k102_3 coden codel).1) == 0) = true then ((k102_5 coden codel).1, (k102_2 coden codel).1, ((k102_6 coden codel).1), ((k102_7 coden codel).1), ((k102_8 coden codel).1)) else ((k102_5 coden codel).1, (k102_2 coden codel).1, ((k102_6 coden codel).1), ((k102_7 coden codel).1), ((k102_9 coden codel).1)))
def s_l04Draw : (Nat) → (List Int) → (Int × Int × (Int × Int) × (Int × Int) × Int × Int) := shut s_l04Draw_d
theorem s_l04Draw_eq (coden : Nat) (codel : List Int) : s_l04Draw coden codel = s_l04Draw_d coden codel := by
  unfold s_l04Draw
  rw [shut_eq]
theorem tot_s_l04Draw (coden : Nat) (codel : List Int) (hp : (codeB coden codel) = true) : Fo_s_l04Draw coden codel = some (s_l04Draw coden codel) := by
  have hc := hp
  rw [s_l04Draw_eq]
  unfold Fo_s_l04Draw s_l04Draw_d
  (try simp only [wI_eq])
  repeat' (first | with_reducible rfl | refine chk_opt (by first | (with_reducible assumption) | ((repeat (with_reducible first | assumption | exact s_l01From_src hc | apply post_s_l01DrawField | apply post_s_l04DrawOf | apply post_s_l02DrawColour | apply post_s_l01Next | apply post_s_l01BadField | apply post_s_l01BadPoint)); done) | (with_reducible exact field_prB9 _ _ _ (by ((repeat (with_reducible first | assumption | exact s_l01From_src hc | apply post_s_l01DrawField | apply post_s_l04DrawOf | apply post_s_l02DrawColour | apply post_s_l01Next | apply post_s_l01BadField | apply post_s_l01BadPoint)); done))) | fail | exact pos_idx ‹_› | exact and_two (by ((repeat (with_reducible first | assumption | exact s_l01From_src hc | apply post_s_l01DrawField | apply post_s_l04DrawOf | apply post_s_l02DrawColour | apply post_s_l01Next | apply post_s_l01BadField | apply post_s_l01BadPoint)); done)) (by (first | (with_reducible assumption) | with_reducible exact field_prB9 _ _ _ (by ((repeat (with_reducible first | assumption | exact s_l01From_src hc | apply post_s_l01DrawField | apply post_s_l04DrawOf | apply post_s_l02DrawColour | apply post_s_l01Next | apply post_s_l01BadField | apply post_s_l01BadPoint)); done)) | fail | rfl)) | exact pos_cell ‹_› (by (first | exact flat2_len _ | exact flat3_len _)) | exact idx_ok (next_rng _ _ _ _ (by ((repeat (with_reducible first | assumption | exact s_l01From_src hc | apply post_s_l01DrawField | apply post_s_l04DrawOf | apply post_s_l02DrawColour | apply post_s_l01Next | apply post_s_l01BadField | apply post_s_l01BadPoint)); done)) (by decide)) | exact ble_ok (next_ble _ _ _ _ (by ((repeat (with_reducible first | assumption | exact s_l01From_src hc | apply post_s_l01DrawField | apply post_s_l04DrawOf | apply post_s_l02DrawColour | apply post_s_l01Next | apply post_s_l01BadField | apply post_s_l01BadPoint)); done)) (by decide) (by decide)) | exact ble_ok (next_ble0 _ _ _ _ (by ((repeat (with_reducible first | assumption | exact s_l01From_src hc | apply post_s_l01DrawField | apply post_s_l04DrawOf | apply post_s_l02DrawColour | apply post_s_l01Next | apply post_s_l01BadField | apply post_s_l01BadPoint)); done)) (by decide) (by decide)) | exact idx_ok (next_rng _ _ _ _ (by ((repeat (with_reducible first | assumption | exact s_l01From_src hc | apply post_s_l01DrawField | apply post_s_l04DrawOf | apply post_s_l02DrawColour | apply post_s_l01Next | apply post_s_l01BadField | apply post_s_l01BadPoint)); done)) (pos_one ‹_›)) | exact next_cell (by ((repeat (with_reducible first | assumption | exact s_l01From_src hc | apply post_s_l01DrawField | apply post_s_l04DrawOf | apply post_s_l02DrawColour | apply post_s_l01Next | apply post_s_l01BadField | apply post_s_l01BadPoint)); done)) ‹_› (by (first | exact flat2_len _ | exact flat3_len _))) ?_ | refine ite_opt (fun _ => ?_) (fun _ => ?_) | rfl)
def run_s_l04Draw : List PV → Option (Bool × List TR)
  | [.s coden (.byts codel)] => some (codeB coden codel, enc_i_i_a2_a2_a2 (s_l04Draw coden codel))
  | _ => none
theorem sound_s_l04Draw : Sound Try.prog 102 run_s_l04Draw := by
  refine sound_of de_i_i_a2_a2_a2 SO_s_l04Draw (by kernel_rfl) Try.func102 Try.ntmps102 rfl (by kernel_rfl) ?_
  intro W pvs avs rs hargs hrun
  unfold run_s_l04Draw at hrun
  split at hrun
  · simp only [Option.some.injEq, Prod.mk.injEq] at hrun
    obtain ⟨hp, rfl⟩ := hrun
    rename_i coden codel
    exact ⟨_, _, _, hargs, rfl, (eq_s_l04Draw coden codel).trans (tot_s_l04Draw coden codel hp)⟩
  · cases hrun

def S_s_DrawQuadreaOf : Sums := ⟨tblS [(102, run_s_l04Draw)], tblM []⟩
theorem SO_s_DrawQuadreaOf : SumsOK Try.prog S_s_DrawQuadreaOf := ⟨tblS_ok ⟨⟨Try.call102, sound_s_l04Draw⟩, True.intro⟩, tblM_ok True.intro⟩
def Fo_s_DrawQuadreaOf (coden : Nat) (codel : List Int) : Option (Int × Int × (Int × Int) × (Int × Int) × Int × Int) :=
  (if (codeB coden codel) = true then some ((s_l04Draw coden codel).1, (s_l04Draw coden codel).2.1, ((s_l04Draw coden codel).2.2.1), ((s_l04Draw coden codel).2.2.2.1), ((s_l04Draw coden codel).2.2.2.2)) else none)
theorem eq_s_DrawQuadreaOf (coden : Nat) (codel : List Int) : execT Try.prog S_s_DrawQuadreaOf 35 25 (fun _ => 1000000) dec_i_i_a2_a2_a2 [.s coden (.byts codel)] = Fo_s_DrawQuadreaOf coden codel := by
  kernel_rfl
def s_DrawQuadreaOf_d (coden : Nat) (codel : List Int) : Int × Int × (Int × Int) × (Int × Int) × Int × Int :=
  ((s_l04Draw coden codel).1, (s_l04Draw coden codel).2.1, ((s_l04Draw coden codel).2.2.1), ((s_l04Draw coden codel).2.2.2.1), ((s_l04Draw coden codel).2.2.2.2))
def s_DrawQuadreaOf : (Nat) → (List Int) → (Int × Int × (Int × Int) × (Int × Int) × Int × Int) := shut s_DrawQuadreaOf_d
theorem s_DrawQuadreaOf_eq (coden : Nat) (codel : List Int) : s_DrawQuadreaOf coden codel = s_DrawQuadreaOf_d coden codel := by
  unfold s_DrawQuadreaOf
  rw [shut_eq]
theorem tot_s_DrawQuadreaOf (coden : Nat) (codel : List Int) (hp : (codeB coden codel) = true) : Fo_s_DrawQuadreaOf coden codel = some (s_DrawQuadreaOf coden codel) := by
  have hc := hp
  rw [s_DrawQuadreaOf_eq]
  unfold Fo_s_DrawQuadreaOf s_DrawQuadreaOf_d
  (try simp only [wI_eq])
  repeat' (first | with_reducible rfl | refine chk_opt (by first | (with_reducible assumption) | ((repeat (with_reducible first | assumption)); done) | (with_reducible exact field_prB9 _ _ _ (by ((repeat (with_reducible first | assumption)); done))) | fail | exact pos_idx ‹_› | exact and_two (by ((repeat (with_reducible first | assumption)); done)) (by (first | (with_reducible assumption) | with_reducible exact field_prB9 _ _ _ (by ((repeat (with_reducible first | assumption)); done)) | fail | rfl)) | exact pos_cell ‹_› (by (first | exact flat2_len _ | exact flat3_len _)) | exact idx_ok (next_rng _ _ _ _ (by ((repeat (with_reducible first | assumption)); done)) (by decide)) | exact ble_ok (next_ble _ _ _ _ (by ((repeat (with_reducible first | assumption)); done)) (by decide) (by decide)) | exact ble_ok (next_ble0 _ _ _ _ (by ((repeat (with_reducible first | assumption)); done)) (by decide) (by decide)) | exact idx_ok (next_rng _ _ _ _ (by ((repeat (with_reducible first | assumption)); done)) (pos_one ‹_›)) | exact next_cell (by ((repeat (with_reducible first | assumption)); done)) ‹_› (by (first | exact flat2_len _ | exact flat3_len _))) ?_ | refine ite_opt (fun _ => ?_) (fun _ => ?_) | rfl)
def run_s_DrawQuadreaOf : List PV → Option (Bool × List TR)
  | [.s coden (.byts codel)] => some (codeB coden codel, enc_i_i_a2_a2_a2 (s_DrawQuadreaOf coden codel))
  | _ => none
theorem sound_s_DrawQuadreaOf : Sound Try.prog 35 run_s_DrawQuadreaOf := by
  refine sound_of de_i_i_a2_a2_a2 SO_s_DrawQuadreaOf (by kernel_rfl) Try.func35 Try.ntmps35 rfl (by kernel_rfl) ?_
  intro W pvs avs rs hargs hrun
  unfold run_s_DrawQuadreaOf at hrun
  split at hrun
  · simp only [Option.some.injEq, Prod.mk.injEq] at hrun
    obtain ⟨hp, rfl⟩ := hrun
    rename_i coden codel
    exact ⟨_, _, _, hargs, rfl, (eq_s_DrawQuadreaOf coden codel).trans (tot_s_DrawQuadreaOf coden codel hp)⟩
  · cases hrun

def S_s_DrawEulerLineOf : Sums := ⟨tblS [(35, run_s_DrawQuadreaOf)], tblM []⟩
theorem SO_s_DrawEulerLineOf : SumsOK Try.prog S_s_DrawEulerLineOf := ⟨tblS_ok ⟨⟨Try.call35, sound_s_DrawQuadreaOf⟩, True.intro⟩, tblM_ok True.intro⟩
def Fo_s_DrawEulerLineOf (coden : Nat) (codel : List Int) : Option (Int × Int × (Int × Int) × (Int × Int) × Int × Int) :=
  (if (codeB coden codel) = true then some ((s_DrawQuadreaOf coden codel).1, (s_DrawQuadreaOf coden codel).2.1, ((s_DrawQuadreaOf coden codel).2.2.1), ((s_DrawQuadreaOf coden codel).2.2.2.1), ((s_DrawQuadreaOf coden codel).2.2.2.2)) else none)
theorem eq_s_DrawEulerLineOf (coden : Nat) (codel : List Int) : execT Try.prog S_s_DrawEulerLineOf 6 14 (fun _ => 1000000) dec_i_i_a2_a2_a2 [.s coden (.byts codel)] = Fo_s_DrawEulerLineOf coden codel := by
  kernel_rfl
def s_DrawEulerLineOf_d (coden : Nat) (codel : List Int) : Int × Int × (Int × Int) × (Int × Int) × Int × Int :=
  ((s_DrawQuadreaOf coden codel).1, (s_DrawQuadreaOf coden codel).2.1, ((s_DrawQuadreaOf coden codel).2.2.1), ((s_DrawQuadreaOf coden codel).2.2.2.1), ((s_DrawQuadreaOf coden codel).2.2.2.2))
def s_DrawEulerLineOf : (Nat) → (List Int) → (Int × Int × (Int × Int) × (Int × Int) × Int × Int) := shut s_DrawEulerLineOf_d
theorem s_DrawEulerLineOf_eq (coden : Nat) (codel : List Int) : s_DrawEulerLineOf coden codel = s_DrawEulerLineOf_d coden codel := by
  unfold s_DrawEulerLineOf
  rw [shut_eq]
theorem tot_s_DrawEulerLineOf (coden : Nat) (codel : List Int) (hp : (codeB coden codel) = true) : Fo_s_DrawEulerLineOf coden codel = some (s_DrawEulerLineOf coden codel) := by
  have hc := hp
  rw [s_DrawEulerLineOf_eq]
  unfold Fo_s_DrawEulerLineOf s_DrawEulerLineOf_d
  (try simp only [wI_eq])
  repeat' (first | with_reducible rfl | refine chk_opt (by first | (with_reducible assumption) | ((repeat (with_reducible first | assumption)); done) | (with_reducible exact field_prB9 _ _ _ (by ((repeat (with_reducible first | assumption)); done))) | fail | exact pos_idx ‹_› | exact and_two (by ((repeat (with_reducible first | assumption)); done)) (by (first | (with_reducible assumption) | with_reducible exact field_prB9 _ _ _ (by ((repeat (with_reducible first | assumption)); done)) | fail | rfl)) | exact pos_cell ‹_› (by (first | exact flat2_len _ | exact flat3_len _)) | exact idx_ok (next_rng _ _ _ _ (by ((repeat (with_reducible first | assumption)); done)) (by decide)) | exact ble_ok (next_ble _ _ _ _ (by ((repeat (with_reducible first | assumption)); done)) (by decide) (by decide)) | exact ble_ok (next_ble0 _ _ _ _ (by ((repeat (with_reducible first | assumption)); done)) (by decide) (by decide)) | exact idx_ok (next_rng _ _ _ _ (by ((repeat (with_reducible first | assumption)); done)) (pos_one ‹_›)) | exact next_cell (by ((repeat (with_reducible first | assumption)); done)) ‹_› (by (first | exact flat2_len _ | exact flat3_len _))) ?_ | refine ite_opt (fun _ => ?_) (fun _ => ?_) | rfl)
def run_s_DrawEulerLineOf : List PV → Option (Bool × List TR)
  | [.s coden (.byts codel)] => some (codeB coden codel, enc_i_i_a2_a2_a2 (s_DrawEulerLineOf coden codel))
  | _ => none
theorem sound_s_DrawEulerLineOf : Sound Try.prog 6 run_s_DrawEulerLineOf := by
  refine sound_of de_i_i_a2_a2_a2 SO_s_DrawEulerLineOf (by kernel_rfl) Try.func6 Try.ntmps6 rfl (by kernel_rfl) ?_
  intro W pvs avs rs hargs hrun
  unfold run_s_DrawEulerLineOf at hrun
  split at hrun
  · simp only [Option.some.injEq, Prod.mk.injEq] at hrun
    obtain ⟨hp, rfl⟩ := hrun
    rename_i coden codel
    exact ⟨_, _, _, hargs, rfl, (eq_s_DrawEulerLineOf coden codel).trans (tot_s_DrawEulerLineOf coden codel hp)⟩
  · cases hrun

def S_s_DrawMedianOf : Sums := ⟨tblS [(102, run_s_l04Draw)], tblM []⟩
theorem SO_s_DrawMedianOf : SumsOK Try.prog S_s_DrawMedianOf := ⟨tblS_ok ⟨⟨Try.call102, sound_s_l04Draw⟩, True.intro⟩, tblM_ok True.intro⟩
def Fo_s_DrawMedianOf (coden : Nat) (codel : List Int) : Option (Int × (Int × Int) × (Int × Int) × Int × Int) :=
  (if (codeB coden codel) = true then some ((s_l04Draw coden codel).1, ((s_l04Draw coden codel).2.2.1), ((s_l04Draw coden codel).2.2.2.1), ((s_l04Draw coden codel).2.2.2.2)) else none)
theorem eq_s_DrawMedianOf (coden : Nat) (codel : List Int) : execT Try.prog S_s_DrawMedianOf 51 23 (fun _ => 1000000) dec_i_a2_a2_a2 [.s coden (.byts codel)] = Fo_s_DrawMedianOf coden codel := by
  kernel_rfl
def s_DrawMedianOf_d (coden : Nat) (codel : List Int) : Int × (Int × Int) × (Int × Int) × Int × Int :=
  ((s_l04Draw coden codel).1, ((s_l04Draw coden codel).2.2.1), ((s_l04Draw coden codel).2.2.2.1), ((s_l04Draw coden codel).2.2.2.2))
def s_DrawMedianOf : (Nat) → (List Int) → (Int × (Int × Int) × (Int × Int) × Int × Int) := shut s_DrawMedianOf_d
theorem s_DrawMedianOf_eq (coden : Nat) (codel : List Int) : s_DrawMedianOf coden codel = s_DrawMedianOf_d coden codel := by
  unfold s_DrawMedianOf
  rw [shut_eq]
theorem tot_s_DrawMedianOf (coden : Nat) (codel : List Int) (hp : (codeB coden codel) = true) : Fo_s_DrawMedianOf coden codel = some (s_DrawMedianOf coden codel) := by
  have hc := hp
  rw [s_DrawMedianOf_eq]
  unfold Fo_s_DrawMedianOf s_DrawMedianOf_d
  (try simp only [wI_eq])
  repeat' (first | with_reducible rfl | refine chk_opt (by first | (with_reducible assumption) | ((repeat (with_reducible first | assumption)); done) | (with_reducible exact field_prB9 _ _ _ (by ((repeat (with_reducible first | assumption)); done))) | fail | exact pos_idx ‹_› | exact and_two (by ((repeat (with_reducible first | assumption)); done)) (by (first | (with_reducible assumption) | with_reducible exact field_prB9 _ _ _ (by ((repeat (with_reducible first | assumption)); done)) | fail | rfl)) | exact pos_cell ‹_› (by (first | exact flat2_len _ | exact flat3_len _)) | exact idx_ok (next_rng _ _ _ _ (by ((repeat (with_reducible first | assumption)); done)) (by decide)) | exact ble_ok (next_ble _ _ _ _ (by ((repeat (with_reducible first | assumption)); done)) (by decide) (by decide)) | exact ble_ok (next_ble0 _ _ _ _ (by ((repeat (with_reducible first | assumption)); done)) (by decide) (by decide)) | exact idx_ok (next_rng _ _ _ _ (by ((repeat (with_reducible first | assumption)); done)) (pos_one ‹_›)) | exact next_cell (by ((repeat (with_reducible first | assumption)); done)) ‹_› (by (first | exact flat2_len _ | exact flat3_len _))) ?_ | refine ite_opt (fun _ => ?_) (fun _ => ?_) | rfl)
def run_s_DrawMedianOf : List PV → Option (Bool × List TR)
  | [.s coden (.byts codel)] => some (codeB coden codel, enc_i_a2_a2_a2 (s_DrawMedianOf coden codel))
  | _ => none
theorem sound_s_DrawMedianOf : Sound Try.prog 51 run_s_DrawMedianOf := by
  refine sound_of de_i_a2_a2_a2 SO_s_DrawMedianOf (by kernel_rfl) Try.func51 Try.ntmps51 rfl (by kernel_rfl) ?_
  intro W pvs avs rs hargs hrun
  unfold run_s_DrawMedianOf at hrun
  split at hrun
  · simp only [Option.some.injEq, Prod.mk.injEq] at hrun
    obtain ⟨hp, rfl⟩ := hrun
    rename_i coden codel
    exact ⟨_, _, _, hargs, rfl, (eq_s_DrawMedianOf coden codel).trans (tot_s_DrawMedianOf coden codel hp)⟩
  · cases hrun

abbrev k14_0 (coden : Nat) (codel : List Int) : Int × Nat × List Int × Int × Int := (s_l01Pick coden codel (s_l01From coden codel) 3 [3, 5, minI (maxI ((s_DrawMedianOf coden codel).1) 1) 31])
abbrev k14_1 (coden : Nat) (codel : List Int) : (Int × Int) × Nat × List Int × Int × Int := (s_l01DrawPoint coden codel ((k14_0 coden codel).2.2.2) ((k14_0 coden codel).1))
def S_s_DrawWeightsOf : Sums := ⟨tblS [(51, run_s_DrawMedianOf)], tblM [(50, .src run_s_l01From), (53, .box run_s_l01Pick), (52, .box run_s_l01DrawPoint)]⟩
theorem SO_s_DrawWeightsOf : SumsOK Try.prog S_s_DrawWeightsOf := ⟨tblS_ok ⟨⟨Try.call51, sound_s_DrawMedianOf⟩, True.intro⟩, tblM_ok ⟨⟨Try.call50, sound_s_l01From⟩, ⟨Try.call53, sound_s_l01Pick⟩, ⟨Try.call52, sound_s_l01DrawPoint⟩, True.intro⟩⟩
def Fo_s_DrawWeightsOf (coden : Nat) (codel : List Int) : Option (Int × (Int × Int) × (Int × Int) × (Int × Int) × Int × Int) :=
  (if (codeB coden codel) = true then (if (codeB coden codel) = true then (if (srcB coden codel (s_l01From coden codel) && (lenB 3 1 ([3, 5, minI (maxI ((s_DrawMedianOf coden codel).1) 1) 31]) && Nat.blt 0 3)) = true then (if (srcB coden codel ((k14_0 coden codel).2.2.2) && prB ((k14_0 coden codel).1)) = true then some ((s_DrawMedianOf coden codel).1, ((s_DrawMedianOf coden codel).2.1), ((s_DrawMedianOf coden codel).2.2.1), ((s_DrawMedianOf coden codel).2.2.2), ((k14_1 coden codel).1)) else none) else none) else none) else none)
theorem eq_s_DrawWeightsOf (coden : Nat) (codel : List Int) : execT Try.prog S_s_DrawWeightsOf 14 35 (fun _ => 1000000) dec_i_a2_a2_a2_a2 [.s coden (.byts codel)] = Fo_s_DrawWeightsOf coden codel := by
  kernel_rfl
def s_DrawWeightsOf_d (coden : Nat) (codel : List Int) : Int × (Int × Int) × (Int × Int) × (Int × Int) × Int × Int :=
  ((s_DrawMedianOf coden codel).1, ((s_DrawMedianOf coden codel).2.1), ((s_DrawMedianOf coden codel).2.2.1), ((s_DrawMedianOf coden codel).2.2.2), ((k14_1 coden codel).1))
def s_DrawWeightsOf : (Nat) → (List Int) → (Int × (Int × Int) × (Int × Int) × (Int × Int) × Int × Int) := shut s_DrawWeightsOf_d
theorem s_DrawWeightsOf_eq (coden : Nat) (codel : List Int) : s_DrawWeightsOf coden codel = s_DrawWeightsOf_d coden codel := by
  unfold s_DrawWeightsOf
  rw [shut_eq]
theorem tot_s_DrawWeightsOf (coden : Nat) (codel : List Int) (hp : (codeB coden codel) = true) : Fo_s_DrawWeightsOf coden codel = some (s_DrawWeightsOf coden codel) := by
  have hc := hp
  rw [s_DrawWeightsOf_eq]
  unfold Fo_s_DrawWeightsOf s_DrawWeightsOf_d
  (try simp only [wI_eq])
  repeat' (first | with_reducible rfl | refine chk_opt (by first | (with_reducible assumption) | ((repeat (with_reducible first | assumption | exact s_l01From_src hc | apply post_s_l01Pick | apply post_s_l01DrawPoint)); done) | (with_reducible exact field_prB9 _ _ _ (by ((repeat (with_reducible first | assumption | exact s_l01From_src hc | apply post_s_l01Pick | apply post_s_l01DrawPoint)); done))) | fail | exact and_two (by ((repeat (with_reducible first | assumption | exact s_l01From_src hc | apply post_s_l01Pick | apply post_s_l01DrawPoint)); done)) (pick_prB _ _ _ _ (by ((repeat (with_reducible first | assumption | exact s_l01From_src hc | apply post_s_l01Pick | apply post_s_l01DrawPoint)); done))) | exact pos_idx ‹_› | exact and_two (by ((repeat (with_reducible first | assumption | exact s_l01From_src hc | apply post_s_l01Pick | apply post_s_l01DrawPoint)); done)) (by (first | (with_reducible assumption) | with_reducible exact field_prB9 _ _ _ (by ((repeat (with_reducible first | assumption | exact s_l01From_src hc | apply post_s_l01Pick | apply post_s_l01DrawPoint)); done)) | fail | rfl)) | exact pos_cell ‹_› (by (first | exact flat2_len _ | exact flat3_len _)) | exact idx_ok (next_rng _ _ _ _ (by ((repeat (with_reducible first | assumption | exact s_l01From_src hc | apply post_s_l01Pick | apply post_s_l01DrawPoint)); done)) (by decide)) | exact ble_ok (next_ble _ _ _ _ (by ((repeat (with_reducible first | assumption | exact s_l01From_src hc | apply post_s_l01Pick | apply post_s_l01DrawPoint)); done)) (by decide) (by decide)) | exact ble_ok (next_ble0 _ _ _ _ (by ((repeat (with_reducible first | assumption | exact s_l01From_src hc | apply post_s_l01Pick | apply post_s_l01DrawPoint)); done)) (by decide) (by decide)) | exact idx_ok (next_rng _ _ _ _ (by ((repeat (with_reducible first | assumption | exact s_l01From_src hc | apply post_s_l01Pick | apply post_s_l01DrawPoint)); done)) (pos_one ‹_›)) | exact next_cell (by ((repeat (with_reducible first | assumption | exact s_l01From_src hc | apply post_s_l01Pick | apply post_s_l01DrawPoint)); done)) ‹_› (by (first | exact flat2_len _ | exact flat3_len _))) ?_ | refine ite_opt (fun _ => ?_) (fun _ => ?_) | rfl)
def run_s_DrawWeightsOf : List PV → Option (Bool × List TR)
  | [.s coden (.byts codel)] => some (codeB coden codel, enc_i_a2_a2_a2_a2 (s_DrawWeightsOf coden codel))
  | _ => none
theorem sound_s_DrawWeightsOf : Sound Try.prog 14 run_s_DrawWeightsOf := by
  refine sound_of de_i_a2_a2_a2_a2 SO_s_DrawWeightsOf (by kernel_rfl) Try.func14 Try.ntmps14 rfl (by kernel_rfl) ?_
  intro W pvs avs rs hargs hrun
  unfold run_s_DrawWeightsOf at hrun
  split at hrun
  · simp only [Option.some.injEq, Prod.mk.injEq] at hrun
    obtain ⟨hp, rfl⟩ := hrun
    rename_i coden codel
    exact ⟨_, _, _, hargs, rfl, (eq_s_DrawWeightsOf coden codel).trans (tot_s_DrawWeightsOf coden codel hp)⟩
  · cases hrun


end

end Go.Proofs.Ytpffcfiojjgnlaa
