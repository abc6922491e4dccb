import Derived.Test.YtfclaacaphpoaaaFc
import Derived.Test.YtfclaacaphpoaaaProg
set_option linter.unusedSimpArgs false
set_option linter.unusedVariables false
namespace Go.Proofs.Ytfclaacaphpoaaa
open Go.RowKit
noncomputable section
def S_s_l01From : Sums := ⟨tblS [], tblM []⟩
theorem SO_s_l01From : SumsOK Try.prog S_s_l01From := ⟨tblS_ok True.intro, tblM_ok True.intro⟩
def T_s_l01From_0 (coden : Nat) (codel : List Int) (v44_2 : Int) (i : Int) : Tab := ⟨[.row 1, .junk, .val (.pointer none), .ptr 44 0, .val (.int .i64 i), .row 1, .row 1, .val (.int .i64 ((coden : Nat) : Int)), .val (.int .u64 (IntKind.u64.wrap (((coden : Nat) : Int)))), .val (.int .u64 (IntKind.u64.wrap (13701 + (IntKind.u64.wrap (((coden : Nat) : Int)))))), .junk, .ptr 44 0, .junk, .junk, .junk, .junk, .junk, .junk, .junk, .junk, .junk, .junk, .junk, .junk, .junk, .junk, .junk, .junk, .junk, .junk, .junk, .junk, .junk, .junk, .junk, .junk, .junk, .junk], [(0, .ros 0 (.ints [])), (1, .ros coden (.byts codel)), (44, .box 117 [.row 1, .val (.int .i64 0), .val (.int .u64 v44_2)])]⟩
def X_s_l01From_0 (P : Program) (fu : Nat) (coden : Nat) (codel : List Int) (f : Nat) (v44_2 : Int) (i : Int) : Option (Int × Int) := loopK (exec P S_s_l01From 38 (fun _ => fu + 100) (Code.sub [1, 1, 0, 1, 0, 0] (bodyF P 67))) f (T_s_l01From_0 coden codel v44_2 i) (kBlock 0 (kSeq (fun zs9 => exec P S_s_l01From 38 (fun _ => fu + 100) (Code.sub [1, 1, 1] (bodyF P 67)) zs9 (finB P 67 dec_B117)) (finB P 67 dec_B117)))
def B_s_l01From_0 (coden : Nat) (codel : List Int) (rec0 : Int → Int → Option (Int × Int)) (v44_2 : Int) (i : Int) : Option (Int × Int) :=
  (if (decide (i < ((coden : Nat) : Int))) = true then (if (decide (i < 4096)) = true then (if (decide (0 ≤ i) && decide (i < ((coden : Nat) : Int))) = true then (if (Nat.ble (i.toNat * 1 + 1) codel.length) = true then rec0 (IntKind.u64.wrap ((IntKind.u64.wrap ((IntKind.u64.wrap (v44_2 * 1099511628211)) + (IntKind.u64.wrap (codel.getD (i.toNat * 1) 0)))) + 199)) (wI (i + 1)) else none) else none) else some (0, v44_2)) else some (0, v44_2))
def L_s_l01From_0 (fu : Nat) (coden : Nat) (codel : List Int) : Nat → Int → Int → Option (Int × Int)
  | 0, _, _ => none
  | f + 1, v44_2, i => B_s_l01From_0 coden codel (L_s_l01From_0 fu coden codel f) v44_2 i
theorem loop_s_l01From_0 (fu : Nat) (coden : Nat) (codel : List Int) : ∀ (f : Nat) (v44_2 : Int) (i : Int), X_s_l01From_0 Try.prog fu coden codel f v44_2 i = L_s_l01From_0 fu coden codel f v44_2 i := by
  intro f
  induction f with
  | zero => intros; rfl
  | succ f ih =>
    intro v44_2 i
    have h1 : X_s_l01From_0 Try.prog fu coden codel (f + 1) v44_2 i = B_s_l01From_0 coden codel (X_s_l01From_0 Try.prog fu coden codel f) v44_2 i := by kernel_rfl
    have h2 : X_s_l01From_0 Try.prog fu coden codel f = L_s_l01From_0 fu coden codel f := by funext v44_2 i; exact ih v44_2 i
    rw [h1, h2]
    rfl
def G_s_l01From (coden : Nat) (codel : List Int) (lo0 : Int → Int → Option (Int × Int)) : Option (Int × Int) :=
  lo0 (IntKind.u64.wrap (13701 + (IntKind.u64.wrap (((coden : Nat) : Int))))) 0
def Fo_s_l01From (fu : Nat) (coden : Nat) (codel : List Int) : Option (Int × Int) := G_s_l01From coden codel (L_s_l01From_0 fu coden codel (fu + 100))
theorem eqg_s_l01From (fu : Nat) (coden : Nat) (codel : List Int) : execB Try.prog S_s_l01From 67 38 (fun _ => fu + 100) dec_B117 coden (.byts codel) = G_s_l01From coden codel (L_s_l01From_0 fu coden codel (fu + 100)) := by
  have h1 : execB Try.prog S_s_l01From 67 38 (fun _ => fu + 100) dec_B117 coden (.byts codel) = G_s_l01From coden codel (X_s_l01From_0 Try.prog fu coden codel (fu + 100)) := by kernel_rfl
  have c0 : X_s_l01From_0 Try.prog fu coden codel (fu + 100) = L_s_l01From_0 fu coden codel (fu + 100) := by funext v44_2 i; exact loop_s_l01From_0 fu coden codel (fu + 100) v44_2 i
  rw [h1, c0]
theorem eq_s_l01From (fu : Nat) (coden : Nat) (codel : List Int) : execB Try.prog S_s_l01From 67 38 (fun _ => fu + 100) dec_B117 coden (.byts codel) = Fo_s_l01From fu coden codel := eqg_s_l01From fu coden codel
theorem from_go (fu n : Nat) (l : List Int) (hc : codeB n l = true) : ∀ (f : Nat) (v i : Int), 0 ≤ i → i ≤ 4096 → 4096 - i < f → ∃ h, L_s_l01From_0 fu n l f v i = some (0, h)
  | 0, v, i, _, h1, h2 => by omega
  | f + 1, v, i, h0, h1, h2 => by
    rw [show L_s_l01From_0 fu n l (f + 1) v i = B_s_l01From_0 n l (L_s_l01From_0 fu n l f) v i from rfl]
    unfold B_s_l01From_0
    by_cases hn : i < (n : Int)
    · by_cases hk : i < 4096
      · rw [if_pos (decide_eq_true hn), if_pos (decide_eq_true hk), if_pos (idx_ok ⟨h0, hn⟩), if_pos (ble_ok (by obtain ⟨e, _⟩ := codeB_ok hc; omega)), wI_eq, show wrap64 (i + 1) = i + 1 by unfold wrap64; omega]
        exact from_go fu n l hc f _ _ (by omega) (by omega) (by omega)
      · rw [if_pos (decide_eq_true hn), if_neg (by simp [hk])]
        exact ⟨_, rfl⟩
    · rw [if_neg (by simp [hn])]
      exact ⟨_, rfl⟩
theorem from_some {n : Nat} {l : List Int} (hc : codeB n l = true) : ∃ h, Fo_s_l01From 1000000 n l = some (0, h) := by
  unfold Fo_s_l01From G_s_l01From
  exact from_go _ n l hc _ _ _ (by decide) (by decide) (by decide)
def s_l01From (coden : Nat) (codel : List Int) : Int × Int := (Fo_s_l01From 1000000 coden codel).getD (0, 0)
theorem tot_s_l01From (coden : Nat) (codel : List Int) (hp : (codeB coden codel) = true) : Fo_s_l01From 1000000 coden codel = some (s_l01From coden codel) := by
  obtain ⟨h, e⟩ := from_some hp
  unfold s_l01From
  rw [e]
  rfl
def run_s_l01From : BRun
  | [.s coden (.byts codel)] => some (codeB coden codel, enc_B117 (s_l01From coden codel))
  | _ => none
theorem sound_s_l01From : SoundB Try.prog 67 run_s_l01From := by
  refine soundB_of de_B117 SO_s_l01From (by kernel_rfl) Try.func67 Try.ntmps67 rfl (by kernel_rfl) ?_
  intro m c e vals hrun
  unfold run_s_l01From at hrun
  split at hrun
  · rename_i heq
    simp only [List.cons.injEq, PV.s.injEq, and_true] at heq
    obtain ⟨rfl, rfl⟩ := heq
    simp only [Option.some.injEq, Prod.mk.injEq] at hrun
    obtain ⟨hp, hrun⟩ := hrun
    exact ⟨_, s_l01From _ _, by first | exact hrun.symm | exact (Prod.ext hrun.1 hrun.2).symm, (eq_s_l01From _ _ _).trans (tot_s_l01From _ _ hp)⟩
  · cases hrun

theorem s_l01From_src {n : Nat} {l : List Int} (hc : codeB n l = true) : srcB n l (s_l01From n l) = true := by
  obtain ⟨h, e⟩ := from_some hc
  refine srcB_mk hc ?_
  unfold s_l01From
  rw [e]
  exact Int.le_refl 0
abbrev k69_0 (sn : Nat) (sl : List Int) (ss : Int × Int) (p : Int) : Int × Nat × List Int × Int × Int := (s_l01Next sn sl ss (wI (p + 1)))
abbrev k69_1 (sn : Nat) (sl : List Int) (ss : Int × Int) (p : Int) : Int × Nat × List Int × Int × Int := (s_l01Next sn sl ((k69_0 sn sl ss p).2.2.2) p)
abbrev k69_2 (sn : Nat) (sl : List Int) (ss : Int × Int) (p : Int) : Int × Nat × List Int × Int × Int := (s_l01Next sn sl ((k69_1 sn sl ss p).2.2.2) p)
def S_s_l01DrawLine : Sums := ⟨tblS [], tblM [(68, .box run_s_l01Next)]⟩
theorem SO_s_l01DrawLine : SumsOK Try.prog S_s_l01DrawLine := ⟨tblS_ok True.intro, tblM_ok ⟨⟨Try.call68, sound_s_l01Next⟩, True.intro⟩⟩
def Fo_s_l01DrawLine (sn : Nat) (sl : List Int) (ss : Int × Int) (p : Int) : Option ((Int × Int × Int) × Nat × List Int × Int × Int) :=
  (if (srcB sn sl ss) = true then (if (((k69_0 sn sl ss p).1) == 0) = true then (if (srcB sn sl ((k69_0 sn sl ss p).2.2.2)) = true then some ((0, 1, (k69_1 sn sl ss p).1), sn, sl, (k69_1 sn sl ss p).2.2.2) else none) else (if (srcB sn sl ((k69_0 sn sl ss p).2.2.2)) = true then (if (srcB sn sl ((k69_1 sn sl ss p).2.2.2)) = true then some ((1, (k69_1 sn sl ss p).1, (k69_2 sn sl ss p).1), sn, sl, (k69_2 sn sl ss p).2.2.2) else none) else none)) else none)
theorem eq_s_l01DrawLine (sn : Nat) (sl : List Int) (ss : Int × Int) (p : Int) : execP Try.prog S_s_l01DrawLine 69 21 (fun _ => 1000000) dec_P117_a3 117 [.s sn (.byts sl), .v (.int .i64 ss.1), .v (.int .u64 ss.2)] [.v (.int .i64 p)] = Fo_s_l01DrawLine sn sl ss p := by
  kernel_rfl
def s_l01DrawLine_d (sn : Nat) (sl : List Int) (ss : Int × Int) (p : Int) : (Int × Int × Int) × Nat × List Int × Int × Int :=
  (if (((k69_0 sn sl ss p).1) == 0) = true then ((0, 1, (k69_1 sn sl ss p).1), sn, sl, (k69_1 sn sl ss p).2.2.2) else ((1, (k69_1 sn sl ss p).1, (k69_2 sn sl ss p).1), sn, sl, (k69_2 sn sl ss p).2.2.2))
def s_l01DrawLine : (Nat) → (List Int) → (Int × Int) → (Int) → ((Int × Int × Int) × Nat × List Int × Int × Int) := shut s_l01DrawLine_d
theorem s_l01DrawLine_eq (sn : Nat) (sl : List Int) (ss : Int × Int) (p : Int) : s_l01DrawLine sn sl ss p = s_l01DrawLine_d sn sl ss p := by
  unfold s_l01DrawLine
  rw [shut_eq]
theorem tot_s_l01DrawLine (sn : Nat) (sl : List Int) (ss : Int × Int) (p : Int) (hp : (srcB sn sl ss && prB p) = true) : Fo_s_l01DrawLine sn sl ss p = some (s_l01DrawLine sn sl ss p) := by
  have hs := and_l hp
  have hc := (srcB_ok hs).1
  have hq := and_r hp
  have h0 := prB_ne hq
  rw [s_l01DrawLine_eq]
  unfold Fo_s_l01DrawLine s_l01DrawLine_d
  (try simp only [wI_eq])
  repeat' (first | with_reducible rfl | refine chk_opt (by first | (with_reducible assumption) | ((repeat (with_reducible first | assumption | apply post_s_l01Next)); done) | (with_reducible exact field_prB9 _ _ _ (by ((repeat (with_reducible first | assumption | apply post_s_l01Next)); done))) | fail | exact pos_idx ‹_› | exact and_two (by ((repeat (with_reducible first | assumption | apply post_s_l01Next)); done)) (by (first | (with_reducible assumption) | with_reducible exact field_prB9 _ _ _ (by ((repeat (with_reducible first | assumption | apply post_s_l01Next)); done)) | fail | rfl)) | exact pos_cell ‹_› (by (first | exact flat2_len _ | exact flat3_len _)) | exact idx_ok (next_rng _ _ _ _ (by ((repeat (with_reducible first | assumption | apply post_s_l01Next)); done)) (by decide)) | exact ble_ok (next_ble _ _ _ _ (by ((repeat (with_reducible first | assumption | apply post_s_l01Next)); done)) (by decide) (by decide)) | exact ble_ok (next_ble0 _ _ _ _ (by ((repeat (with_reducible first | assumption | apply post_s_l01Next)); done)) (by decide) (by decide)) | exact idx_ok (next_rng _ _ _ _ (by ((repeat (with_reducible first | assumption | apply post_s_l01Next)); done)) (pos_one ‹_›)) | exact next_cell (by ((repeat (with_reducible first | assumption | apply post_s_l01Next)); done)) ‹_› (by (first | exact flat2_len _ | exact flat3_len _))) ?_ | refine ite_opt (fun _ => ?_) (fun _ => ?_) | rfl)
theorem post_s_l01DrawLine (sn : Nat) (sl : List Int) (ss : Int × Int) (p : Int) (hs : srcB sn sl ss = true) : srcB sn sl (s_l01DrawLine sn sl ss p).2.2.2 = true := by
  have hc := (srcB_ok hs).1
  rw [s_l01DrawLine_eq]
  unfold s_l01DrawLine_d
  repeat' (first | (with_reducible first | assumption | apply post_s_l01Next) | refine ite_ind (P := fun r : (Int × Int × Int) × Nat × List Int × Int × Int => srcB sn sl r.2.2.2 = true) ?_ ?_ | dsimp only)
def run_s_l01DrawLine : PRun
  | 117, [.s sn (.byts sl), .v (.int .i64 s_1), .v (.int .u64 s_2)], [.v (.int .i64 p)] => some (srcB sn sl (s_1, s_2) && prB p, enc_P117_a3 (s_l01DrawLine sn sl (s_1, s_2) p))
  | _, _, _ => none
theorem sound_s_l01DrawLine : SoundP Try.prog 69 run_s_l01DrawLine := by
  refine soundP_of de_P117_a3 SO_s_l01DrawLine (by kernel_rfl) Try.func69 Try.ntmps69 rfl (by kernel_rfl) ?_
  intro e bcs pvs rs bcs' hrun
  unfold run_s_l01DrawLine at hrun
  split at hrun
  · simp only [Option.some.injEq, Prod.mk.injEq] at hrun
    obtain ⟨hp, hrun⟩ := hrun
    rename_i sn sl s_1 s_2 p
    exact ⟨_, s_l01DrawLine sn sl (s_1, s_2) p, by first | exact hrun.symm | exact (Prod.ext hrun.1 hrun.2).symm, (eq_s_l01DrawLine sn sl (s_1, s_2) p).trans (tot_s_l01DrawLine sn sl (s_1, s_2) p hp)⟩
  · cases hrun

def S_s_l08Made : Sums := ⟨tblS [(90, run_s_l01Mod), (116, run_s_l01Inverse)], tblM []⟩
theorem SO_s_l08Made : SumsOK Try.prog S_s_l08Made := ⟨tblS_ok ⟨⟨Try.call90, sound_s_l01Mod⟩, ⟨Try.call116, sound_s_l01Inverse⟩, True.intro⟩, tblM_ok True.intro⟩
def T_s_l08Made_0 (p : Int) (listn : Nat) (listl : List Int) (first : Int) (i : Int) : Tab := ⟨[.val (.int .i64 p), .row 4, .junk, .junk, .ptr 16 0, .val (.bool false), .val (.int .i64 first), .ptr 28 0, .val (.int .i64 i), .junk, .junk, .val (.agg ⟨[.int .i64 0, .int .i64 0, .int .i64 0, .int .i64 0, .int .i64 0, .int .i64 0]⟩), .junk, .junk, .junk, .junk, .junk, .junk, .junk, .junk, .junk, .junk, .junk, .junk, .junk, .junk, .junk, .junk, .junk, .junk, .junk, .junk, .junk, .junk, .junk, .junk, .junk, .junk, .junk, .junk, .junk, .junk, .junk, .junk, .junk, .junk, .junk, .junk, .junk], [(4, .ros listn (.ints listl)), (16, .box 25 [.val (.int .i64 0), .val (.int .i64 0), .val (.int .i64 0), .val (.int .i64 0), .val (.int .i64 0), .val (.int .i64 0)]), (28, .box 25 [.val (.int .i64 0), .val (.int .i64 0), .val (.int .i64 0), .val (.int .i64 0), .val (.int .i64 0), .val (.int .i64 0)])]⟩
def X_s_l08Made_0 (P : Program) (fu : Nat) (p : Int) (listn : Nat) (listl : List Int) (f : Nat) (first : Int) (i : Int) : Option ((Int × Int × Int × Int × Int × Int) × Bool) := loopK (exec P S_s_l08Made 49 (fuelOf fu [3]) (Code.sub [1, 1, 0, 1, 0, 0] (bodyF P 91))) f (T_s_l08Made_0 p listn listl first i) (kBlock 0 (kSeq (fun zs9 => exec P S_s_l08Made 49 (fuelOf fu [3]) (Code.sub [1, 1, 1] (bodyF P 91)) zs9 (finT P 91 dec_a6_b)) (finT P 91 dec_a6_b)))
def B_s_l08Made_0 (p : Int) (listn : Nat) (listl : List Int) (rec0 : Int → Int → Option ((Int × Int × Int × Int × Int × Int) × Bool)) (first : Int) (i : Int) : Option ((Int × Int × Int × Int × Int × Int) × Bool) :=
  (if (decide (i < 3)) = true then (if (first == 0) = true then (if (decide (0 ≤ i) && decide (i < ((listn : Nat) : Int))) = true then (if (Nat.ble (i.toNat * 1 + 1) listl.length) = true then (if (prB p) = true then rec0 (s_l01Mod (listl.getD (i.toNat * 1) 0) p) (wI (i + 1)) else none) else none) else none) else (if (first == 0) = true then some ((0, 0, 0, 0, 0, 0), false) else (if (prB p) = true then (if (decide (0 ≤ 0) && decide (0 < ((listn : Nat) : Int))) = true then (if (Nat.ble (1) listl.length) = true then (if (!(p == 0)) = true then (if (prB p) = true then (if (decide (0 ≤ 1) && decide (1 < ((listn : Nat) : Int))) = true then (if (Nat.ble (2) listl.length) = true then (if (!(p == 0)) = true then (if (prB p) = true then (if (decide (0 ≤ 2) && decide (2 < ((listn : Nat) : Int))) = true then (if (Nat.ble (3) listl.length) = true then (if (!(p == 0)) = true then (if (prB p) = true then (if (decide (0 ≤ 3) && decide (3 < ((listn : Nat) : Int))) = true then (if (Nat.ble (4) listl.length) = true then (if (!(p == 0)) = true then (if (prB p) = true then (if (decide (0 ≤ 4) && decide (4 < ((listn : Nat) : Int))) = true then (if (Nat.ble (5) listl.length) = true then (if (!(p == 0)) = true then (if (prB p) = true then (if (decide (0 ≤ 5) && decide (5 < ((listn : Nat) : Int))) = true then (if (Nat.ble (6) listl.length) = true then (if (!(p == 0)) = true then (if (prB p) = true then some (((s_l01Mod (wI (((listl.getD 0 0).tmod p) * (s_l01Inverse first p))) p), (s_l01Mod (wI (((listl.getD 1 0).tmod p) * (s_l01Inverse first p))) p), (s_l01Mod (wI (((listl.getD 2 0).tmod p) * (s_l01Inverse first p))) p), (s_l01Mod (wI (((listl.getD 3 0).tmod p) * (s_l01Inverse first p))) p), (s_l01Mod (wI (((listl.getD 4 0).tmod p) * (s_l01Inverse first p))) p), (s_l01Mod (wI (((listl.getD 5 0).tmod p) * (s_l01Inverse first p))) p)), true) else none) else none) else none) else none) else none) else none) else none) else none) else none) else none) else none) else none) else none) else none) else none) else none) else none) else none) else none) else none) else none) else none) else none) else none) else none))) else (if (first == 0) = true then some ((0, 0, 0, 0, 0, 0), false) else (if (prB p) = true then (if (decide (0 ≤ 0) && decide (0 < ((listn : Nat) : Int))) = true then (if (Nat.ble (1) listl.length) = true then (if (!(p == 0)) = true then (if (prB p) = true then (if (decide (0 ≤ 1) && decide (1 < ((listn : Nat) : Int))) = true then (if (Nat.ble (2) listl.length) = true then (if (!(p == 0)) = true then (if (prB p) = true then (if (decide (0 ≤ 2) && decide (2 < ((listn : Nat) : Int))) = true then (if (Nat.ble (3) listl.length) = true then (if (!(p == 0)) = true then (if (prB p) = true then (if (decide (0 ≤ 3) && decide (3 < ((listn : Nat) : Int))) = true then (if (Nat.ble (4) listl.length) = true then (if (!(p == 0)) = true then (if (prB p) = true then (if (decide (0 ≤ 4) && decide (4 < ((listn : Nat) : Int))) = true then (if (Nat.ble (5) listl.length) = true then (if (!(p == 0)) = true then (if (prB p) = true then (if (decide (0 ≤ 5) && decide (5 < ((listn : Nat) : Int))) = true then (if (Nat.ble (6) listl.length) = true then (if (!(p == 0)) = true then (if (prB p) = true then some (((s_l01Mod (wI (((listl.getD 0 0).tmod p) * (s_l01Inverse first p))) p), (s_l01Mod (wI (((listl.getD 1 0).tmod p) * (s_l01Inverse first p))) p), (s_l01Mod (wI (((listl.getD 2 0).tmod p) * (s_l01Inverse first p))) p), (s_l01Mod (wI (((listl.getD 3 0).tmod p) * (s_l01Inverse first p))) p), (s_l01Mod (wI (((listl.getD 4 0).tmod p) * (s_l01Inverse first p))) p), (s_l01Mod (wI (((listl.getD 5 0).tmod p) * (s_l01Inverse first p))) p)), true) else none) else none) else none) else none) else none) else none) else none) else none) else none) else none) else none) else none) else none) else none) else none) else none) else none) else none) else none) else none) else none) else none) else none) else none) else none)))
def L_s_l08Made_0 (fu : Nat) (p : Int) (listn : Nat) (listl : List Int) : Nat → Int → Int → Option ((Int × Int × Int × Int × Int × Int) × Bool)
  | 0, _, _ => none
  | f + 1, first, i => B_s_l08Made_0 p listn listl (L_s_l08Made_0 fu p listn listl f) first i
theorem loop_s_l08Made_0 (fu : Nat) (p : Int) (listn : Nat) (listl : List Int) : ∀ (f : Nat) (first : Int) (i : Int), X_s_l08Made_0 Try.prog fu p listn listl f first i = L_s_l08Made_0 fu p listn listl f first i := by
  intro f
  induction f with
  | zero => intros; rfl
  | succ f ih =>
    intro first i
    have h1 : X_s_l08Made_0 Try.prog fu p listn listl (f + 1) first i = B_s_l08Made_0 p listn listl (X_s_l08Made_0 Try.prog fu p listn listl f) first i := by kernel_rfl
    have h2 : X_s_l08Made_0 Try.prog fu p listn listl f = L_s_l08Made_0 fu p listn listl f := by funext first i; exact ih first i
    rw [h1, h2]
    rfl
def G_s_l08Made (p : Int) (listn : Nat) (listl : List Int) (lo0 : Int → Int → Option ((Int × Int × Int × Int × Int × Int) × Bool)) : Option ((Int × Int × Int × Int × Int × Int) × Bool) :=
  lo0 0 0
def Fo_s_l08Made (fu : Nat) (p : Int) (listn : Nat) (listl : List Int) : Option ((Int × Int × Int × Int × Int × Int) × Bool) := G_s_l08Made p listn listl (L_s_l08Made_0 fu p listn listl fu)
theorem eqg_s_l08Made (fu : Nat) (p : Int) (listn : Nat) (listl : List Int) : execT Try.prog S_s_l08Made 91 49 (fuelOf fu [3]) dec_a6_b [.v (.int .i64 p), .s listn (.ints listl)] = G_s_l08Made p listn listl (L_s_l08Made_0 fu p listn listl fu) := by
  have h1 : execT Try.prog S_s_l08Made 91 49 (fuelOf fu [3]) dec_a6_b [.v (.int .i64 p), .s listn (.ints listl)] = G_s_l08Made p listn listl (X_s_l08Made_0 Try.prog fu p listn listl fu) := by kernel_rfl
  have c0 : X_s_l08Made_0 Try.prog fu p listn listl fu = L_s_l08Made_0 fu p listn listl fu := by funext first i; exact loop_s_l08Made_0 fu p listn listl fu first i
  rw [h1, c0]
theorem eq_s_l08Made (fu : Nat) (p : Int) (listn : Nat) (listl : List Int) : execT Try.prog S_s_l08Made 91 49 (fuelOf fu [3]) dec_a6_b [.v (.int .i64 p), .s listn (.ints listl)] = Fo_s_l08Made fu p listn listl := eqg_s_l08Made fu p listn listl
def madeOf (p first : Int) (l : List Int) : P6 × Bool := if (first == 0) = true then ((0, 0, 0, 0, 0, 0), false) else ((s_l01Mod (wrap64 ((l.getD 0 0).tmod p * s_l01Inverse first p)) p, s_l01Mod (wrap64 ((l.getD 1 0).tmod p * s_l01Inverse first p)) p, s_l01Mod (wrap64 ((l.getD 2 0).tmod p * s_l01Inverse first p)) p, s_l01Mod (wrap64 ((l.getD 3 0).tmod p * s_l01Inverse first p)) p, s_l01Mod (wrap64 ((l.getD 4 0).tmod p * s_l01Inverse first p)) p, s_l01Mod (wrap64 ((l.getD 5 0).tmod p * s_l01Inverse first p)) p), true)
def madeFirst (p : Int) (l : List Int) : Int := if (s_l01Mod (l.getD 0 0) p == 0) = true then (if (s_l01Mod (l.getD 1 0) p == 0) = true then s_l01Mod (l.getD 2 0) p else s_l01Mod (l.getD 1 0) p) else s_l01Mod (l.getD 0 0) p
def s_l08Made (p : Int) (n : Nat) (l : List Int) : P6 × Bool := madeOf p (madeFirst p l) l
theorem made_end {p : Int} (hp : prB p = true) {a b c d e f : Int} (fu F : Nat) (x : Int) (h : x ≠ 0) (i : Int) : L_s_l08Made_0 fu p 6 [a, b, c, d, e, f] (F + 1) x i = some (madeOf p x [a, b, c, d, e, f]) := by
  show B_s_l08Made_0 p 6 [a, b, c, d, e, f] _ x i = _
  have hx : ¬ (x == 0) = true := by simpa using h
  have h0 := prB_ne hp
  have hm : madeOf p x [a, b, c, d, e, f] = ((s_l01Mod (wrap64 (a.tmod p * s_l01Inverse x p)) p, s_l01Mod (wrap64 (b.tmod p * s_l01Inverse x p)) p, s_l01Mod (wrap64 (c.tmod p * s_l01Inverse x p)) p, s_l01Mod (wrap64 (d.tmod p * s_l01Inverse x p)) p, s_l01Mod (wrap64 (e.tmod p * s_l01Inverse x p)) p, s_l01Mod (wrap64 (f.tmod p * s_l01Inverse x p)) p), true) := by
    unfold madeOf
    rw [if_neg hx]
    rfl
  rw [hm]
  unfold B_s_l08Made_0
  by_cases hi : decide (i < 3) = true
  · rw [if_pos hi]
    repeat rw [if_neg hx]
    repeat' (refine chk_opt (by first | exact hp | exact h0 | rfl) ?_)
    simp only [wI_eq]
    rfl
  · rw [if_neg hi]
    repeat rw [if_neg hx]
    repeat' (refine chk_opt (by first | exact hp | exact h0 | rfl) ?_)
    simp only [wI_eq]
    rfl
theorem made_zero {p : Int} {a b c d e f : Int} (fu F : Nat) : L_s_l08Made_0 fu p 6 [a, b, c, d, e, f] (F + 1) 0 3 = some (madeOf p 0 [a, b, c, d, e, f]) := rfl
theorem made_go0 {p : Int} (hp : prB p = true) {a b c d e f : Int} (fu F : Nat) : L_s_l08Made_0 fu p 6 [a, b, c, d, e, f] (F + 1) 0 0 = L_s_l08Made_0 fu p 6 [a, b, c, d, e, f] F (s_l01Mod a p) 1 := by
  show B_s_l08Made_0 p 6 [a, b, c, d, e, f] _ 0 0 = _
  have e : wI (0 + 1) = 1 := by rw [wI_eq]; unfold wrap64; omega
  unfold B_s_l08Made_0
  rw [hp, e]; rfl
theorem made_go1 {p : Int} (hp : prB p = true) {a b c d e f : Int} (fu F : Nat) : L_s_l08Made_0 fu p 6 [a, b, c, d, e, f] (F + 1) 0 1 = L_s_l08Made_0 fu p 6 [a, b, c, d, e, f] F (s_l01Mod b p) 2 := by
  show B_s_l08Made_0 p 6 [a, b, c, d, e, f] _ 0 1 = _
  have e : wI (1 + 1) = 2 := by rw [wI_eq]; unfold wrap64; omega
  unfold B_s_l08Made_0
  rw [hp, e]; rfl
theorem made_go2 {p : Int} (hp : prB p = true) {a b c d e f : Int} (fu F : Nat) : L_s_l08Made_0 fu p 6 [a, b, c, d, e, f] (F + 1) 0 2 = L_s_l08Made_0 fu p 6 [a, b, c, d, e, f] F (s_l01Mod c p) 3 := by
  show B_s_l08Made_0 p 6 [a, b, c, d, e, f] _ 0 2 = _
  have e : wI (2 + 1) = 3 := by rw [wI_eq]; unfold wrap64; omega
  unfold B_s_l08Made_0
  rw [hp, e]; rfl
theorem made_all {p : Int} (hp : prB p = true) {a b c d e f : Int} (fu F : Nat) : L_s_l08Made_0 fu p 6 [a, b, c, d, e, f] (F + 3) (s_l01Mod a p) 1 = some (madeOf p (madeFirst p [a, b, c, d, e, f]) [a, b, c, d, e, f]) := by
  unfold madeFirst
  by_cases ha : s_l01Mod a p = 0
  · by_cases hb : s_l01Mod b p = 0
    · rw [ha, made_go1 hp, hb, made_go2 hp]
      have e : (if (s_l01Mod ([a, b, c, d, e, f].getD 0 0) p == 0) = true then (if (s_l01Mod ([a, b, c, d, e, f].getD 1 0) p == 0) = true then s_l01Mod ([a, b, c, d, e, f].getD 2 0) p else s_l01Mod ([a, b, c, d, e, f].getD 1 0) p) else s_l01Mod ([a, b, c, d, e, f].getD 0 0) p) = s_l01Mod c p := by
        show (if (s_l01Mod a p == 0) = true then (if (s_l01Mod b p == 0) = true then s_l01Mod c p else s_l01Mod b p) else s_l01Mod a p) = _
        simp [ha, hb]
      rw [e]
      by_cases hc : s_l01Mod c p = 0
      · rw [hc, made_zero]
      · rw [made_end hp _ _ _ hc]
    · have e : (if (s_l01Mod ([a, b, c, d, e, f].getD 0 0) p == 0) = true then (if (s_l01Mod ([a, b, c, d, e, f].getD 1 0) p == 0) = true then s_l01Mod ([a, b, c, d, e, f].getD 2 0) p else s_l01Mod ([a, b, c, d, e, f].getD 1 0) p) else s_l01Mod ([a, b, c, d, e, f].getD 0 0) p) = s_l01Mod b p := by
        show (if (s_l01Mod a p == 0) = true then (if (s_l01Mod b p == 0) = true then s_l01Mod c p else s_l01Mod b p) else s_l01Mod a p) = _
        simp [ha, hb]
      rw [e, ha, made_go1 hp, made_end hp _ _ _ hb]
  · have e : (if (s_l01Mod ([a, b, c, d, e, f].getD 0 0) p == 0) = true then (if (s_l01Mod ([a, b, c, d, e, f].getD 1 0) p == 0) = true then s_l01Mod ([a, b, c, d, e, f].getD 2 0) p else s_l01Mod ([a, b, c, d, e, f].getD 1 0) p) else s_l01Mod ([a, b, c, d, e, f].getD 0 0) p) = s_l01Mod a p := by
      show (if (s_l01Mod a p == 0) = true then (if (s_l01Mod b p == 0) = true then s_l01Mod c p else s_l01Mod b p) else s_l01Mod a p) = _
      simp [ha]
    rw [e, made_end hp _ _ _ ha]
theorem tot_s_l08Made (p : Int) (listn : Nat) (listl : List Int) (hp : (prB p && (Nat.beq listn 6 && Nat.beq listl.length 6)) = true) : Fo_s_l08Made 1000000 p listn listl = some (s_l08Made p listn listl) := by
  simp only [Bool.and_eq_true] at hp
  obtain ⟨hp, hn, hl⟩ := hp
  obtain rfl : listn = 6 := Nat.eq_of_beq_eq_true hn
  obtain ⟨a, b, c, d, e, f, rfl⟩ := len6' (Nat.eq_of_beq_eq_true hl)
  unfold Fo_s_l08Made G_s_l08Made
  rw [show (1000000 : Nat) = 999996 + 3 + 1 from rfl, made_go0 hp]
  exact made_all hp _ 999996
def run_s_l08Made : List PV → Option (Bool × List TR)
  | [.v (.int .i64 p), .s listn (.ints listl)] => some (prB p && (Nat.beq listn 6 && Nat.beq listl.length 6), enc_a6_b (s_l08Made p listn listl))
  | _ => none
theorem sound_s_l08Made : Sound Try.prog 91 run_s_l08Made := by
  refine sound_of de_a6_b SO_s_l08Made (by kernel_rfl) Try.func91 Try.ntmps91 rfl (by kernel_rfl) ?_
  intro W pvs avs rs hargs hrun
  unfold run_s_l08Made at hrun
  split at hrun
  · simp only [Option.some.injEq, Prod.mk.injEq] at hrun
    obtain ⟨hp, rfl⟩ := hrun
    rename_i p listn listl
    exact ⟨_, _, _, hargs, rfl, (eq_s_l08Made _ p listn listl).trans (tot_s_l08Made p listn listl hp)⟩
  · cases hrun

abbrev k77_0 (sn : Nat) (sl : List Int) (ss : Int × Int) (p : Int) : Int × Nat × List Int × Int × Int := (s_l01Next sn sl ((s_l01Next sn sl ss p).2.2.2) p)
abbrev k77_1 (sn : Nat) (sl : List Int) (ss : Int × Int) (p : Int) : Int × Nat × List Int × Int × Int := (s_l01Next sn sl ((k77_0 sn sl ss p).2.2.2) p)
abbrev k77_2 (sn : Nat) (sl : List Int) (ss : Int × Int) (p : Int) : Int × Nat × List Int × Int × Int := (s_l01Next sn sl ((k77_1 sn sl ss p).2.2.2) p)
abbrev k77_3 (sn : Nat) (sl : List Int) (ss : Int × Int) (p : Int) : Int × Nat × List Int × Int × Int := (s_l01Next sn sl ((k77_2 sn sl ss p).2.2.2) p)
abbrev k77_4 (sn : Nat) (sl : List Int) (ss : Int × Int) (p : Int) : Int × Nat × List Int × Int × Int := (s_l01Next sn sl ((k77_3 sn sl ss p).2.2.2) p)
abbrev k77_5 (sn : Nat) (sl : List Int) (ss : Int × Int) (p : Int) : Int × Nat × List Int × Int × Int := (s_l01Next sn sl ((k77_4 sn sl ss p).2.2.2) 4)
abbrev k77_6 (sn : Nat) (sl : List Int) (ss : Int × Int) (p : Int) : (Int × Int × Int) × Nat × List Int × Int × Int := (s_l01DrawLine sn sl ((k77_5 sn sl ss p).2.2.2) p)
abbrev k77_7 (sn : Nat) (sl : List Int) (ss : Int × Int) (p : Int) : (Int × Int × Int) × Nat × List Int × Int × Int := (s_l01DrawLine sn sl ((k77_6 sn sl ss p).2.2.2) p)
abbrev k77_8 (sn : Nat) (sl : List Int) (ss : Int × Int) (p : Int) : Int × Nat × List Int × Int × Int := (s_l01Next sn sl ((k77_7 sn sl ss p).2.2.2) 3)
abbrev k77_9 (sn : Nat) (sl : List Int) (ss : Int × Int) (p : Int) : (Int × Int × Int × Int × Int × Int) × Bool := (s_l08Made p 6 [wI ((((k77_6 sn sl ss p).1).1) * (((k77_6 sn sl ss p).1).1)), wI ((wI ((((k77_6 sn sl ss p).1).1) * (((k77_6 sn sl ss p).1).2.1))) + (wI ((((k77_6 sn sl ss p).1).2.1) * (((k77_6 sn sl ss p).1).1)))), wI ((((k77_6 sn sl ss p).1).2.1) * (((k77_6 sn sl ss p).1).2.1)), wI ((wI ((((k77_6 sn sl ss p).1).1) * (((k77_6 sn sl ss p).1).2.2))) + (wI ((((k77_6 sn sl ss p).1).2.2) * (((k77_6 sn sl ss p).1).1)))), wI ((wI ((((k77_6 sn sl ss p).1).2.1) * (((k77_6 sn sl ss p).1).2.2))) + (wI ((((k77_6 sn sl ss p).1).2.2) * (((k77_6 sn sl ss p).1).2.1)))), wI ((((k77_6 sn sl ss p).1).2.2) * (((k77_6 sn sl ss p).1).2.2))])
abbrev k77_10 (sn : Nat) (sl : List Int) (ss : Int × Int) (p : Int) : (Int × Int × Int × Int × Int × Int) × Bool := (s_l08Made p 6 [wI ((((k77_6 sn sl ss p).1).1) * (((k77_7 sn sl ss p).1).1)), wI ((wI ((((k77_6 sn sl ss p).1).1) * (((k77_7 sn sl ss p).1).2.1))) + (wI ((((k77_6 sn sl ss p).1).2.1) * (((k77_7 sn sl ss p).1).1)))), wI ((((k77_6 sn sl ss p).1).2.1) * (((k77_7 sn sl ss p).1).2.1)), wI ((wI ((((k77_6 sn sl ss p).1).1) * (((k77_7 sn sl ss p).1).2.2))) + (wI ((((k77_6 sn sl ss p).1).2.2) * (((k77_7 sn sl ss p).1).1)))), wI ((wI ((((k77_6 sn sl ss p).1).2.1) * (((k77_7 sn sl ss p).1).2.2))) + (wI ((((k77_6 sn sl ss p).1).2.2) * (((k77_7 sn sl ss p).1).2.1)))), wI ((((k77_6 sn sl ss p).1).2.2) * (((k77_7 sn sl ss p).1).2.2))])
abbrev k77_11 (sn : Nat) (sl : List Int) (ss : Int × Int) (p : Int) : (Int × Int × Int × Int × Int × Int) × Bool := (s_l08Made p 6 [(s_l01Next sn sl ss p).1, (k77_0 sn sl ss p).1, (k77_1 sn sl ss p).1, (k77_2 sn sl ss p).1, (k77_3 sn sl ss p).1, (k77_4 sn sl ss p).1])
def S_s_l08DrawOf : Sums := ⟨tblS [(91, run_s_l08Made)], tblM [(68, .box run_s_l01Next), (69, .box run_s_l01DrawLine)]⟩
theorem SO_s_l08DrawOf : SumsOK Try.prog S_s_l08DrawOf := ⟨tblS_ok ⟨⟨Try.call91, sound_s_l08Made⟩, True.intro⟩, tblM_ok ⟨⟨Try.call68, sound_s_l01Next⟩, ⟨Try.call69, sound_s_l01DrawLine⟩, True.intro⟩⟩
def Fo_s_l08DrawOf (sn : Nat) (sl : List Int) (ss : Int × Int) (p : Int) : Option ((Int × Int × Int × Int × Int × Int) × Nat × List Int × Int × Int) :=
  (if (srcB sn sl ss) = true then (if (srcB sn sl ((s_l01Next sn sl ss p).2.2.2)) = true then (if (srcB sn sl ((k77_0 sn sl ss p).2.2.2)) = true then (if (srcB sn sl ((k77_1 sn sl ss p).2.2.2)) = true then (if (srcB sn sl ((k77_2 sn sl ss p).2.2.2)) = true then (if (srcB sn sl ((k77_3 sn sl ss p).2.2.2)) = true then (if (srcB sn sl ((k77_4 sn sl ss p).2.2.2)) = true then (if (((k77_5 sn sl ss p).1) == 0) = true then (if (srcB sn sl ((k77_5 sn sl ss p).2.2.2) && prB p) = true then (if (srcB sn sl ((k77_6 sn sl ss p).2.2.2) && prB p) = true then (if (srcB sn sl ((k77_7 sn sl ss p).2.2.2)) = true then (if (((k77_8 sn sl ss p).1) == 0) = true then (if (prB p && (Nat.beq 6 6 && Nat.beq [wI ((((k77_6 sn sl ss p).1).1) * (((k77_6 sn sl ss p).1).1)), wI ((wI ((((k77_6 sn sl ss p).1).1) * (((k77_6 sn sl ss p).1).2.1))) + (wI ((((k77_6 sn sl ss p).1).2.1) * (((k77_6 sn sl ss p).1).1)))), wI ((((k77_6 sn sl ss p).1).2.1) * (((k77_6 sn sl ss p).1).2.1)), wI ((wI ((((k77_6 sn sl ss p).1).1) * (((k77_6 sn sl ss p).1).2.2))) + (wI ((((k77_6 sn sl ss p).1).2.2) * (((k77_6 sn sl ss p).1).1)))), wI ((wI ((((k77_6 sn sl ss p).1).2.1) * (((k77_6 sn sl ss p).1).2.2))) + (wI ((((k77_6 sn sl ss p).1).2.2) * (((k77_6 sn sl ss p).1).2.1)))), wI ((((k77_6 sn sl ss p).1).2.2) * (((k77_6 sn sl ss p).1).2.2))].length 6)) = true then (if (!((k77_9 sn sl ss p).2)) = true then some ((1, 0, 1, 0, 0, 1), sn, sl, (k77_8 sn sl ss p).2.2.2) else some (((k77_9 sn sl ss p).1), sn, sl, (k77_8 sn sl ss p).2.2.2)) else none) else (if (prB p && (Nat.beq 6 6 && Nat.beq [wI ((((k77_6 sn sl ss p).1).1) * (((k77_7 sn sl ss p).1).1)), wI ((wI ((((k77_6 sn sl ss p).1).1) * (((k77_7 sn sl ss p).1).2.1))) + (wI ((((k77_6 sn sl ss p).1).2.1) * (((k77_7 sn sl ss p).1).1)))), wI ((((k77_6 sn sl ss p).1).2.1) * (((k77_7 sn sl ss p).1).2.1)), wI ((wI ((((k77_6 sn sl ss p).1).1) * (((k77_7 sn sl ss p).1).2.2))) + (wI ((((k77_6 sn sl ss p).1).2.2) * (((k77_7 sn sl ss p).1).1)))), wI ((wI ((((k77_6 sn sl ss p).1).2.1) * (((k77_7 sn sl ss p).1).2.2))) + (wI ((((k77_6 sn sl ss p).1).2.2) * (((k77_7 sn sl ss p).1).2.1)))), wI ((((k77_6 sn sl ss p).1).2.2) * (((k77_7 sn sl ss p).1).2.2))].length 6)) = true then (if (!((k77_10 sn sl ss p).2)) = true then some ((1, 0, 1, 0, 0, 1), sn, sl, (k77_8 sn sl ss p).2.2.2) else some (((k77_10 sn sl ss p).1), sn, sl, (k77_8 sn sl ss p).2.2.2)) else none)) else none) else none) else none) else (if (prB p && (Nat.beq 6 6 && Nat.beq [(s_l01Next sn sl ss p).1, (k77_0 sn sl ss p).1, (k77_1 sn sl ss p).1, (k77_2 sn sl ss p).1, (k77_3 sn sl ss p).1, (k77_4 sn sl ss p).1].length 6)) = true then (if (!((k77_11 sn sl ss p).2)) = true then some ((1, 0, 1, 0, 0, 1), sn, sl, (k77_5 sn sl ss p).2.2.2) else some (((k77_11 sn sl ss p).1), sn, sl, (k77_5 sn sl ss p).2.2.2)) else none)) else none) else none) else none) else none) else none) else none) else none)
theorem eq_s_l08DrawOf (sn : Nat) (sl : List Int) (ss : Int × Int) (p : Int) : execP Try.prog S_s_l08DrawOf 77 94 (fun _ => 1000000) dec_P117_a6 117 [.s sn (.byts sl), .v (.int .i64 ss.1), .v (.int .u64 ss.2)] [.v (.int .i64 p)] = Fo_s_l08DrawOf sn sl ss p := by
  kernel_rfl
def s_l08DrawOf_d (sn : Nat) (sl : List Int) (ss : Int × Int) (p : Int) : (Int × Int × Int × Int × Int × Int) × Nat × List Int × Int × Int :=
  (if (((k77_5 sn sl ss p).1) == 0) = true then (if (((k77_8 sn sl ss p).1) == 0) = true then (if (!((k77_9 sn sl ss p).2)) = true then ((1, 0, 1, 0, 0, 1), sn, sl, (k77_8 sn sl ss p).2.2.2) else (((k77_9 sn sl ss p).1), sn, sl, (k77_8 sn sl ss p).2.2.2)) else (if (!((k77_10 sn sl ss p).2)) = true then ((1, 0, 1, 0, 0, 1), sn, sl, (k77_8 sn sl ss p).2.2.2) else (((k77_10 sn sl ss p).1), sn, sl, (k77_8 sn sl ss p).2.2.2))) else (if (!((k77_11 sn sl ss p).2)) = true then ((1, 0, 1, 0, 0, 1), sn, sl, (k77_5 sn sl ss p).2.2.2) else (((k77_11 sn sl ss p).1), sn, sl, (k77_5 sn sl ss p).2.2.2)))
def s_l08DrawOf : (Nat) → (List Int) → (Int × Int) → (Int) → ((Int × Int × Int × Int × Int × Int) × Nat × List Int × Int × Int) := shut s_l08DrawOf_d
theorem s_l08DrawOf_eq (sn : Nat) (sl : List Int) (ss : Int × Int) (p : Int) : s_l08DrawOf sn sl ss p = s_l08DrawOf_d sn sl ss p := by
  unfold s_l08DrawOf
  rw [shut_eq]
theorem tot_s_l08DrawOf (sn : Nat) (sl : List Int) (ss : Int × Int) (p : Int) (hp : (srcB sn sl ss && prB p) = true) : Fo_s_l08DrawOf sn sl ss p = some (s_l08DrawOf sn sl ss p) := by
  have hs := and_l hp
  have hc := (srcB_ok hs).1
  have hq := and_r hp
  have h0 := prB_ne hq
  rw [s_l08DrawOf_eq]
  unfold Fo_s_l08DrawOf s_l08DrawOf_d
  (try simp only [wI_eq])
  repeat' (first | with_reducible rfl | refine chk_opt (by first | (with_reducible assumption) | ((repeat (with_reducible first | assumption | apply post_s_l01Next | apply post_s_l01DrawLine)); done) | (with_reducible exact field_prB9 _ _ _ (by ((repeat (with_reducible first | assumption | apply post_s_l01Next | apply post_s_l01DrawLine)); done))) | fail | exact pos_idx ‹_› | exact and_two (by ((repeat (with_reducible first | assumption | apply post_s_l01Next | apply post_s_l01DrawLine)); done)) (by (first | (with_reducible assumption) | with_reducible exact field_prB9 _ _ _ (by ((repeat (with_reducible first | assumption | apply post_s_l01Next | apply post_s_l01DrawLine)); done)) | fail | rfl)) | exact pos_cell ‹_› (by (first | exact flat2_len _ | exact flat3_len _)) | exact idx_ok (next_rng _ _ _ _ (by ((repeat (with_reducible first | assumption | apply post_s_l01Next | apply post_s_l01DrawLine)); done)) (by decide)) | exact ble_ok (next_ble _ _ _ _ (by ((repeat (with_reducible first | assumption | apply post_s_l01Next | apply post_s_l01DrawLine)); done)) (by decide) (by decide)) | exact ble_ok (next_ble0 _ _ _ _ (by ((repeat (with_reducible first | assumption | apply post_s_l01Next | apply post_s_l01DrawLine)); done)) (by decide) (by decide)) | exact idx_ok (next_rng _ _ _ _ (by ((repeat (with_reducible first | assumption | apply post_s_l01Next | apply post_s_l01DrawLine)); done)) (pos_one ‹_›)) | exact next_cell (by ((repeat (with_reducible first | assumption | apply post_s_l01Next | apply post_s_l01DrawLine)); done)) ‹_› (by (first | exact flat2_len _ | exact flat3_len _))) ?_ | refine ite_opt (fun _ => ?_) (fun _ => ?_) | rfl)
theorem post_s_l08DrawOf (sn : Nat) (sl : List Int) (ss : Int × Int) (p : Int) (hs : srcB sn sl ss = true) : srcB sn sl (s_l08DrawOf sn sl ss p).2.2.2 = true := by
  have hc := (srcB_ok hs).1
  rw [s_l08DrawOf_eq]
  unfold s_l08DrawOf_d
  repeat' (first | (with_reducible first | assumption | apply post_s_l01Next | apply post_s_l01DrawLine) | refine ite_ind (P := fun r : (Int × Int × Int × Int × Int × Int) × Nat × List Int × Int × Int => srcB sn sl r.2.2.2 = true) ?_ ?_ | dsimp only)
def run_s_l08DrawOf : PRun
  | 117, [.s sn (.byts sl), .v (.int .i64 s_1), .v (.int .u64 s_2)], [.v (.int .i64 p)] => some (srcB sn sl (s_1, s_2) && prB p, enc_P117_a6 (s_l08DrawOf sn sl (s_1, s_2) p))
  | _, _, _ => none
theorem sound_s_l08DrawOf : SoundP Try.prog 77 run_s_l08DrawOf := by
  refine soundP_of de_P117_a6 SO_s_l08DrawOf (by kernel_rfl) Try.func77 Try.ntmps77 rfl (by kernel_rfl) ?_
  intro e bcs pvs rs bcs' hrun
  unfold run_s_l08DrawOf at hrun
  split at hrun
  · simp only [Option.some.injEq, Prod.mk.injEq] at hrun
    obtain ⟨hp, hrun⟩ := hrun
    rename_i sn sl s_1 s_2 p
    exact ⟨_, s_l08DrawOf sn sl (s_1, s_2) p, by first | exact hrun.symm | exact (Prod.ext hrun.1 hrun.2).symm, (eq_s_l08DrawOf sn sl (s_1, s_2) p).trans (tot_s_l08DrawOf sn sl (s_1, s_2) p hp)⟩
  · cases hrun

abbrev k111_0 (sn : Nat) (sl : List Int) (ss : Int × Int) (p : Int) (k : Int × Int × Int × Int × Int × Int) : Int × Nat × List Int × Int × Int := (s_l01Next sn sl ((s_l01Next sn sl ss 30).2.2.2) 6)
abbrev k111_1 (sn : Nat) (sl : List Int) (ss : Int × Int) (p : Int) (k : Int × Int × Int × Int × Int × Int) : Int × Nat × List Int × Int × Int := (s_l01Pick sn sl ((k111_0 sn sl ss p k).2.2.2) 4 [(-1), p, 0, 2])
def S_s_l08Bad : Sums := ⟨tblS [], tblM [(68, .box run_s_l01Next), (92, .box run_s_l01Pick)]⟩
theorem SO_s_l08Bad : SumsOK Try.prog S_s_l08Bad := ⟨tblS_ok True.intro, tblM_ok ⟨⟨Try.call68, sound_s_l01Next⟩, ⟨Try.call92, sound_s_l01Pick⟩, True.intro⟩⟩
def Fo_s_l08Bad (sn : Nat) (sl : List Int) (ss : Int × Int) (p : Int) (k : Int × Int × Int × Int × Int × Int) : Option ((Int × Int × Int × Int × Int × Int) × Nat × List Int × Int × Int) :=
  (if (srcB sn sl ss) = true then (if (((s_l01Next sn sl ss 30).1) == 0) = true then (if (srcB sn sl ((s_l01Next sn sl ss 30).2.2.2)) = true then (if (srcB sn sl ((k111_0 sn sl ss p k).2.2.2) && (lenB 4 1 ([(-1), p, 0, 2]) && Nat.blt 0 4)) = true then (if (decide (0 ≤ (k111_0 sn sl ss p k).1) && decide ((k111_0 sn sl ss p k).1 < ((6 : Nat) : Int))) = true then (if (Nat.ble (0 + ((((k111_0 sn sl ss p k).1).toNat) * 1) + 1) 6) = true then some ((bif Nat.beq (0 + ((((k111_0 sn sl ss p k).1).toNat) * 1)) 0 then ((k111_1 sn sl ss p k).1) else k.1, bif Nat.beq (0 + ((((k111_0 sn sl ss p k).1).toNat) * 1)) 1 then ((k111_1 sn sl ss p k).1) else k.2.1, bif Nat.beq (0 + ((((k111_0 sn sl ss p k).1).toNat) * 1)) 2 then ((k111_1 sn sl ss p k).1) else k.2.2.1, bif Nat.beq (0 + ((((k111_0 sn sl ss p k).1).toNat) * 1)) 3 then ((k111_1 sn sl ss p k).1) else k.2.2.2.1, bif Nat.beq (0 + ((((k111_0 sn sl ss p k).1).toNat) * 1)) 4 then ((k111_1 sn sl ss p k).1) else k.2.2.2.2.1, bif Nat.beq (0 + ((((k111_0 sn sl ss p k).1).toNat) * 1)) 5 then ((k111_1 sn sl ss p k).1) else k.2.2.2.2.2), sn, sl, (k111_1 sn sl ss p k).2.2.2) else none) else none) else none) else none) else some (k, sn, sl, (s_l01Next sn sl ss 30).2.2.2)) else none)
theorem eq_s_l08Bad (sn : Nat) (sl : List Int) (ss : Int × Int) (p : Int) (k : Int × Int × Int × Int × Int × Int) : execP Try.prog S_s_l08Bad 111 18 (fun _ => 1000000) dec_P117_a6 117 [.s sn (.byts sl), .v (.int .i64 ss.1), .v (.int .u64 ss.2)] [.v (.int .i64 p), .v (.agg ⟨[.int .i64 k.1, .int .i64 k.2.1, .int .i64 k.2.2.1, .int .i64 k.2.2.2.1, .int .i64 k.2.2.2.2.1, .int .i64 k.2.2.2.2.2]⟩)] = Fo_s_l08Bad sn sl ss p k := by
  kernel_rfl
def s_l08Bad_d (sn : Nat) (sl : List Int) (ss : Int × Int) (p : Int) (k : Int × Int × Int × Int × Int × Int) : (Int × Int × Int × Int × Int × Int) × Nat × List Int × Int × Int :=
  (if (((s_l01Next sn sl ss 30).1) == 0) = true then ((bif Nat.beq (0 + ((((k111_0 sn sl ss p k).1).toNat) * 1)) 0 then ((k111_1 sn sl ss p k).1) else k.1, bif Nat.beq (0 + ((((k111_0 sn sl ss p k).1).toNat) * 1)) 1 then ((k111_1 sn sl ss p k).1) else k.2.1, bif Nat.beq (0 + ((((k111_0 sn sl ss p k).1).toNat) * 1)) 2 then ((k111_1 sn sl ss p k).1) else k.2.2.1, bif Nat.beq (0 + ((((k111_0 sn sl ss p k).1).toNat) * 1)) 3 then ((k111_1 sn sl ss p k).1) else k.2.2.2.1, bif Nat.beq (0 + ((((k111_0 sn sl ss p k).1).toNat) * 1)) 4 then ((k111_1 sn sl ss p k).1) else k.2.2.2.2.1, bif Nat.beq (0 + ((((k111_0 sn sl ss p k).1).toNat) * 1)) 5 then ((k111_1 sn sl ss p k).1) else k.2.2.2.2.2), sn, sl, (k111_1 sn sl ss p k).2.2.2) else (k, sn, sl, (s_l01Next sn sl ss 30).2.2.2))
def s_l08Bad : (Nat) → (List Int) → (Int × Int) → (Int) → (Int × Int × Int × Int × Int × Int) → ((Int × Int × Int × Int × Int × Int) × Nat × List Int × Int × Int) := shut s_l08Bad_d
theorem s_l08Bad_eq (sn : Nat) (sl : List Int) (ss : Int × Int) (p : Int) (k : Int × Int × Int × Int × Int × Int) : s_l08Bad sn sl ss p k = s_l08Bad_d sn sl ss p k := by
  unfold s_l08Bad
  rw [shut_eq]
theorem tot_s_l08Bad (sn : Nat) (sl : List Int) (ss : Int × Int) (p : Int) (k : Int × Int × Int × Int × Int × Int) (hp : (srcB sn sl ss && prB p) = true) : Fo_s_l08Bad sn sl ss p k = some (s_l08Bad sn sl ss p k) := by
  have hs := and_l hp
  have hc := (srcB_ok hs).1
  have hq := and_r hp
  have h0 := prB_ne hq
  rw [s_l08Bad_eq]
  unfold Fo_s_l08Bad s_l08Bad_d
  (try simp only [wI_eq])
  repeat' (first | with_reducible rfl | refine chk_opt (by first | (with_reducible assumption) | ((repeat (with_reducible first | assumption | apply post_s_l01Next | apply post_s_l01Pick)); done) | (with_reducible exact field_prB9 _ _ _ (by ((repeat (with_reducible first | assumption | apply post_s_l01Next | apply post_s_l01Pick)); done))) | fail | exact pos_idx ‹_› | exact and_two (by ((repeat (with_reducible first | assumption | apply post_s_l01Next | apply post_s_l01Pick)); done)) (by (first | (with_reducible assumption) | with_reducible exact field_prB9 _ _ _ (by ((repeat (with_reducible first | assumption | apply post_s_l01Next | apply post_s_l01Pick)); done)) | fail | rfl)) | exact pos_cell ‹_› (by (first | exact flat2_len _ | exact flat3_len _)) | exact idx_ok (next_rng _ _ _ _ (by ((repeat (with_reducible first | assumption | apply post_s_l01Next | apply post_s_l01Pick)); done)) (by decide)) | exact ble_ok (next_ble _ _ _ _ (by ((repeat (with_reducible first | assumption | apply post_s_l01Next | apply post_s_l01Pick)); done)) (by decide) (by decide)) | exact ble_ok (next_ble0 _ _ _ _ (by ((repeat (with_reducible first | assumption | apply post_s_l01Next | apply post_s_l01Pick)); done)) (by decide) (by decide)) | exact idx_ok (next_rng _ _ _ _ (by ((repeat (with_reducible first | assumption | apply post_s_l01Next | apply post_s_l01Pick)); done)) (pos_one ‹_›)) | exact next_cell (by ((repeat (with_reducible first | assumption | apply post_s_l01Next | apply post_s_l01Pick)); done)) ‹_› (by (first | exact flat2_len _ | exact flat3_len _))) ?_ | refine ite_opt (fun _ => ?_) (fun _ => ?_) | rfl)
theorem post_s_l08Bad (sn : Nat) (sl : List Int) (ss : Int × Int) (p : Int) (k : Int × Int × Int × Int × Int × Int) (hs : srcB sn sl ss = true) : srcB sn sl (s_l08Bad sn sl ss p k).2.2.2 = true := by
  have hc := (srcB_ok hs).1
  rw [s_l08Bad_eq]
  unfold s_l08Bad_d
  repeat' (first | (with_reducible first | assumption | apply post_s_l01Next | apply post_s_l01Pick) | refine ite_ind (P := fun r : (Int × Int × Int × Int × Int × Int) × Nat × List Int × Int × Int => srcB sn sl r.2.2.2 = true) ?_ ?_ | dsimp only)
def run_s_l08Bad : PRun
  | 117, [.s sn (.byts sl), .v (.int .i64 s_1), .v (.int .u64 s_2)], [.v (.int .i64 p), .v (.agg ⟨[.int .i64 k0, .int .i64 k1, .int .i64 k2, .int .i64 k3, .int .i64 k4, .int .i64 k5]⟩)] => some (srcB sn sl (s_1, s_2) && prB p, enc_P117_a6 (s_l08Bad sn sl (s_1, s_2) p (k0, k1, k2, k3, k4, k5)))
  | _, _, _ => none
theorem sound_s_l08Bad : SoundP Try.prog 111 run_s_l08Bad := by
  refine soundP_of de_P117_a6 SO_s_l08Bad (by kernel_rfl) Try.func111 Try.ntmps111 rfl (by kernel_rfl) ?_
  intro e bcs pvs rs bcs' hrun
  unfold run_s_l08Bad at hrun
  split at hrun
  · simp only [Option.some.injEq, Prod.mk.injEq] at hrun
    obtain ⟨hp, hrun⟩ := hrun
    rename_i sn sl s_1 s_2 p k0 k1 k2 k3 k4 k5
    exact ⟨_, s_l08Bad sn sl (s_1, s_2) p (k0, k1, k2, k3, k4, k5), by first | exact hrun.symm | exact (Prod.ext hrun.1 hrun.2).symm, (eq_s_l08Bad sn sl (s_1, s_2) p (k0, k1, k2, k3, k4, k5)).trans (tot_s_l08Bad sn sl (s_1, s_2) p (k0, k1, k2, k3, k4, k5) hp)⟩
  · cases hrun

abbrev k40_0 (coden : Nat) (codel : List Int) : Int × Nat × List Int × Int × Int := (s_l01DrawField coden codel (s_l01From coden codel))
abbrev k40_1 (coden : Nat) (codel : List Int) : (Int × Int × Int × Int × Int × Int) × Nat × List Int × Int × Int := (s_l08DrawOf coden codel ((k40_0 coden codel).2.2.2) ((k40_0 coden codel).1))
abbrev k40_2 (coden : Nat) (codel : List Int) : (Int × Int) × Nat × List Int × Int × Int := (s_l01DrawPoint coden codel ((k40_1 coden codel).2.2.2) ((k40_0 coden codel).1))
abbrev k40_3 (coden : Nat) (codel : List Int) : Nat × List Int := (s_l08Points ((k40_0 coden codel).1) ((k40_1 coden codel).1))
abbrev k40_4 (coden : Nat) (codel : List Int) : Int × Nat × List Int × Int × Int := (s_l01Next coden codel ((k40_2 coden codel).2.2.2) 2)
abbrev k40_5 (coden : Nat) (codel : List Int) : Int × Nat × List Int × Int × Int := (s_l01Next coden codel ((k40_4 coden codel).2.2.2) (((k40_3 coden codel).1 : Nat) : Int))
abbrev k40_6 (coden : Nat) (codel : List Int) : Int × Nat × List Int × Int × Int := (s_l01BadField coden codel ((k40_5 coden codel).2.2.2) ((k40_0 coden codel).1))
abbrev k40_7 (coden : Nat) (codel : List Int) : (Int × Int × Int × Int × Int × Int) × Nat × List Int × Int × Int := (s_l08Bad coden codel ((k40_6 coden codel).2.2.2) ((k40_0 coden codel).1) ((k40_1 coden codel).1))
abbrev k40_8 (coden : Nat) (codel : List Int) : (Int × Int) × Nat × List Int × Int × Int := (s_l01BadPoint coden codel ((k40_7 coden codel).2.2.2) ((k40_0 coden codel).1) (((k40_3 coden codel).2).getD ((((k40_5 coden codel).1).toNat) * 2 + 0) 0, ((k40_3 coden codel).2).getD ((((k40_5 coden codel).1).toNat) * 2 + 1) 0))
abbrev k40_9 (coden : Nat) (codel : List Int) : Int × Nat × List Int × Int × Int := (s_l01BadField coden codel ((k40_4 coden codel).2.2.2) ((k40_0 coden codel).1))
abbrev k40_10 (coden : Nat) (codel : List Int) : (Int × Int × Int × Int × Int × Int) × Nat × List Int × Int × Int := (s_l08Bad coden codel ((k40_9 coden codel).2.2.2) ((k40_0 coden codel).1) ((k40_1 coden codel).1))
abbrev k40_11 (coden : Nat) (codel : List Int) : (Int × Int) × Nat × List Int × Int × Int := (s_l01BadPoint coden codel ((k40_10 coden codel).2.2.2) ((k40_0 coden codel).1) ((k40_2 coden codel).1))
abbrev k40_12 (coden : Nat) (codel : List Int) : Int × Nat × List Int × Int × Int := (s_l01BadField coden codel ((k40_2 coden codel).2.2.2) ((k40_0 coden codel).1))
abbrev k40_13 (coden : Nat) (codel : List Int) : (Int × Int × Int × Int × Int × Int) × Nat × List Int × Int × Int := (s_l08Bad coden codel ((k40_12 coden codel).2.2.2) ((k40_0 coden codel).1) ((k40_1 coden codel).1))
abbrev k40_14 (coden : Nat) (codel : List Int) : (Int × Int) × Nat × List Int × Int × Int := (s_l01BadPoint coden codel ((k40_13 coden codel).2.2.2) ((k40_0 coden codel).1) ((k40_2 coden codel).1))
def S_s_l08With : Sums := ⟨tblS [(64, run_s_l08Points)], tblM [(67, .src run_s_l01From), (76, .box run_s_l01DrawField), (77, .box run_s_l08DrawOf), (78, .box run_s_l01DrawPoint), (68, .box run_s_l01Next), (80, .box run_s_l01BadField), (111, .box run_s_l08Bad), (79, .box run_s_l01BadPoint)]⟩
theorem SO_s_l08With : SumsOK Try.prog S_s_l08With := ⟨tblS_ok ⟨⟨Try.call64, sound_s_l08Points⟩, True.intro⟩, tblM_ok ⟨⟨Try.call67, sound_s_l01From⟩, ⟨Try.call76, sound_s_l01DrawField⟩, ⟨Try.call77, sound_s_l08DrawOf⟩, ⟨Try.call78, sound_s_l01DrawPoint⟩, ⟨Try.call68, sound_s_l01Next⟩, ⟨Try.call80, sound_s_l01BadField⟩, ⟨Try.call111, sound_s_l08Bad⟩, ⟨Try.call79, sound_s_l01BadPoint⟩, True.intro⟩⟩
def Fo_s_l08With (coden : Nat) (codel : List Int) : Option (Int × (Int × Int × Int × Int × Int × Int) × Int × Int) :=
  (if (codeB coden codel) = true then (if (srcB coden codel (s_l01From coden codel)) = true then (if (srcB coden codel ((k40_0 coden codel).2.2.2) && prB ((k40_0 coden codel).1)) = true then (if (srcB coden codel ((k40_1 coden codel).2.2.2) && prB ((k40_0 coden codel).1)) = true then (if (prB ((k40_0 coden codel).1)) = true then (if (decide ((((k40_3 coden codel).1 : Nat) : Int) > 0)) = true then (if (srcB coden codel ((k40_2 coden codel).2.2.2)) = true then (if (((k40_4 coden codel).1) == 0) = true then (if (srcB coden codel ((k40_4 coden codel).2.2.2)) = true then (if (decide (0 ≤ (k40_5 coden codel).1) && decide ((k40_5 coden codel).1 < (((k40_3 coden codel).1 : Nat) : Int))) = true then (if (Nat.ble ((((k40_5 coden codel).1).toNat) * 2 + 2) (((k40_3 coden codel).2).length)) = true then (if (srcB coden codel ((k40_5 coden codel).2.2.2) && prB ((k40_0 coden codel).1)) = true then (if (srcB coden codel ((k40_6 coden codel).2.2.2) && prB ((k40_0 coden codel).1)) = true then (if (srcB coden codel ((k40_7 coden codel).2.2.2) && prB ((k40_0 coden codel).1)) = true then some ((k40_6 coden codel).1, ((k40_7 coden codel).1), ((k40_8 coden codel).1)) else none) else none) else none) else none) else none) else none) else (if (srcB coden codel ((k40_4 coden codel).2.2.2) && prB ((k40_0 coden codel).1)) = true then (if (srcB coden codel ((k40_9 coden codel).2.2.2) && prB ((k40_0 coden codel).1)) = true then (if (srcB coden codel ((k40_10 coden codel).2.2.2) && prB ((k40_0 coden codel).1)) = true then some ((k40_9 coden codel).1, ((k40_10 coden codel).1), ((k40_11 coden codel).1)) else none) else none) else none)) else none) else (if (srcB coden codel ((k40_2 coden codel).2.2.2) && prB ((k40_0 coden codel).1)) = true then (if (srcB coden codel ((k40_12 coden codel).2.2.2) && prB ((k40_0 coden codel).1)) = true then (if (srcB coden codel ((k40_13 coden codel).2.2.2) && prB ((k40_0 coden codel).1)) = true then some ((k40_12 coden codel).1, ((k40_13 coden codel).1), ((k40_14 coden codel).1)) else none) else none) else none)) else none) else none) else none) else none) else none)
theorem eq_s_l08With (coden : Nat) (codel : List Int) : execT Try.prog S_s_l08With 40 49 (fun _ => 1000000) dec_i_a6_a2 [.s coden (.byts codel)] = Fo_s_l08With coden codel := by
  kernel_rfl
def s_l08With_d (coden : Nat) (codel : List Int) : Int × (Int × Int × Int × Int × Int × Int) × Int × Int :=
  (if (decide ((((k40_3 coden codel).1 : Nat) : Int) > 0)) = true then (if (((k40_4 coden codel).1) == 0) = true then ((k40_6 coden codel).1, ((k40_7 coden codel).1), ((k40_8 coden codel).1)) else ((k40_9 coden codel).1, ((k40_10 coden codel).1), ((k40_11 coden codel).1))) else ((k40_12 coden codel).1, ((k40_13 coden codel).1), ((k40_14 coden codel).1)))
def s_l08With : (Nat) → (List Int) → (Int × (Int × Int × Int × Int × Int × Int) × Int × Int) := shut s_l08With_d
theorem s_l08With_eq (coden : Nat) (codel : List Int) : s_l08With coden codel = s_l08With_d coden codel := by
  unfold s_l08With
  rw [shut_eq]
theorem tot_s_l08With (coden : Nat) (codel : List Int) (hp : (codeB coden codel) = true) : Fo_s_l08With coden codel = some (s_l08With coden codel) := by
  have hc := hp
  rw [s_l08With_eq]
  unfold Fo_s_l08With s_l08With_d
  (try simp only [wI_eq])
  repeat' (first | with_reducible rfl | refine chk_opt (by first | (with_reducible assumption) | ((repeat (with_reducible first | assumption | exact s_l01From_src hc | apply post_s_l01DrawField | apply post_s_l08DrawOf | apply post_s_l01DrawPoint | apply post_s_l01Next | apply post_s_l01BadField | apply post_s_l08Bad | apply post_s_l01BadPoint)); done) | (with_reducible exact field_prB9 _ _ _ (by ((repeat (with_reducible first | assumption | exact s_l01From_src hc | apply post_s_l01DrawField | apply post_s_l08DrawOf | apply post_s_l01DrawPoint | apply post_s_l01Next | apply post_s_l01BadField | apply post_s_l08Bad | apply post_s_l01BadPoint)); done))) | fail | exact pos_idx ‹_› | exact and_two (by ((repeat (with_reducible first | assumption | exact s_l01From_src hc | apply post_s_l01DrawField | apply post_s_l08DrawOf | apply post_s_l01DrawPoint | apply post_s_l01Next | apply post_s_l01BadField | apply post_s_l08Bad | apply post_s_l01BadPoint)); done)) (by (first | (with_reducible assumption) | with_reducible exact field_prB9 _ _ _ (by ((repeat (with_reducible first | assumption | exact s_l01From_src hc | apply post_s_l01DrawField | apply post_s_l08DrawOf | apply post_s_l01DrawPoint | apply post_s_l01Next | apply post_s_l01BadField | apply post_s_l08Bad | apply post_s_l01BadPoint)); done)) | fail | rfl)) | exact pos_cell ‹_› (by (first | exact flat2_len _ | exact flat3_len _)) | exact idx_ok (next_rng _ _ _ _ (by ((repeat (with_reducible first | assumption | exact s_l01From_src hc | apply post_s_l01DrawField | apply post_s_l08DrawOf | apply post_s_l01DrawPoint | apply post_s_l01Next | apply post_s_l01BadField | apply post_s_l08Bad | apply post_s_l01BadPoint)); done)) (by decide)) | exact ble_ok (next_ble _ _ _ _ (by ((repeat (with_reducible first | assumption | exact s_l01From_src hc | apply post_s_l01DrawField | apply post_s_l08DrawOf | apply post_s_l01DrawPoint | apply post_s_l01Next | apply post_s_l01BadField | apply post_s_l08Bad | apply post_s_l01BadPoint)); done)) (by decide) (by decide)) | exact ble_ok (next_ble0 _ _ _ _ (by ((repeat (with_reducible first | assumption | exact s_l01From_src hc | apply post_s_l01DrawField | apply post_s_l08DrawOf | apply post_s_l01DrawPoint | apply post_s_l01Next | apply post_s_l01BadField | apply post_s_l08Bad | apply post_s_l01BadPoint)); done)) (by decide) (by decide)) | exact idx_ok (next_rng _ _ _ _ (by ((repeat (with_reducible first | assumption | exact s_l01From_src hc | apply post_s_l01DrawField | apply post_s_l08DrawOf | apply post_s_l01DrawPoint | apply post_s_l01Next | apply post_s_l01BadField | apply post_s_l08Bad | apply post_s_l01BadPoint)); done)) (pos_one ‹_›)) | exact next_cell (by ((repeat (with_reducible first | assumption | exact s_l01From_src hc | apply post_s_l01DrawField | apply post_s_l08DrawOf | apply post_s_l01DrawPoint | apply post_s_l01Next | apply post_s_l01BadField | apply post_s_l08Bad | apply post_s_l01BadPoint)); done)) ‹_› (by (first | exact flat2_len _ | exact flat3_len _))) ?_ | refine ite_opt (fun _ => ?_) (fun _ => ?_) | rfl)
def run_s_l08With : List PV → Option (Bool × List TR)
  | [.s coden (.byts codel)] => some (codeB coden codel, enc_i_a6_a2 (s_l08With coden codel))
  | _ => none
theorem sound_s_l08With : Sound Try.prog 40 run_s_l08With := by
  refine sound_of de_i_a6_a2 SO_s_l08With (by kernel_rfl) Try.func40 Try.ntmps40 rfl (by kernel_rfl) ?_
  intro W pvs avs rs hargs hrun
  unfold run_s_l08With at hrun
  split at hrun
  · simp only [Option.some.injEq, Prod.mk.injEq] at hrun
    obtain ⟨hp, rfl⟩ := hrun
    rename_i coden codel
    exact ⟨_, _, _, hargs, rfl, (eq_s_l08With coden codel).trans (tot_s_l08With coden codel hp)⟩
  · cases hrun

def S_s_DrawTangentOf : Sums := ⟨tblS [(40, run_s_l08With)], tblM []⟩
theorem SO_s_DrawTangentOf : SumsOK Try.prog S_s_DrawTangentOf := ⟨tblS_ok ⟨⟨Try.call40, sound_s_l08With⟩, True.intro⟩, tblM_ok True.intro⟩
def Fo_s_DrawTangentOf (coden : Nat) (codel : List Int) : Option (Int × (Int × Int × Int × Int × Int × Int) × Int × Int) :=
  (if (codeB coden codel) = true then some ((s_l08With coden codel).1, ((s_l08With coden codel).2.1), ((s_l08With coden codel).2.2)) else none)
theorem eq_s_DrawTangentOf (coden : Nat) (codel : List Int) : execT Try.prog S_s_DrawTangentOf 6 10 (fun _ => 1000000) dec_i_a6_a2 [.s coden (.byts codel)] = Fo_s_DrawTangentOf coden codel := by
  kernel_rfl
def s_DrawTangentOf_d (coden : Nat) (codel : List Int) : Int × (Int × Int × Int × Int × Int × Int) × Int × Int :=
  ((s_l08With coden codel).1, ((s_l08With coden codel).2.1), ((s_l08With coden codel).2.2))
def s_DrawTangentOf : (Nat) → (List Int) → (Int × (Int × Int × Int × Int × Int × Int) × Int × Int) := shut s_DrawTangentOf_d
theorem s_DrawTangentOf_eq (coden : Nat) (codel : List Int) : s_DrawTangentOf coden codel = s_DrawTangentOf_d coden codel := by
  unfold s_DrawTangentOf
  rw [shut_eq]
theorem tot_s_DrawTangentOf (coden : Nat) (codel : List Int) (hp : (codeB coden codel) = true) : Fo_s_DrawTangentOf coden codel = some (s_DrawTangentOf coden codel) := by
  have hc := hp
  rw [s_DrawTangentOf_eq]
  unfold Fo_s_DrawTangentOf s_DrawTangentOf_d
  (try simp only [wI_eq])
  repeat' (first | with_reducible rfl | refine chk_opt (by first | (with_reducible assumption) | ((repeat (with_reducible first | assumption)); done) | (with_reducible exact field_prB9 _ _ _ (by ((repeat (with_reducible first | assumption)); done))) | fail | exact pos_idx ‹_› | exact and_two (by ((repeat (with_reducible first | assumption)); done)) (by (first | (with_reducible assumption) | with_reducible exact field_prB9 _ _ _ (by ((repeat (with_reducible first | assumption)); done)) | fail | rfl)) | exact pos_cell ‹_› (by (first | exact flat2_len _ | exact flat3_len _)) | exact idx_ok (next_rng _ _ _ _ (by ((repeat (with_reducible first | assumption)); done)) (by decide)) | exact ble_ok (next_ble _ _ _ _ (by ((repeat (with_reducible first | assumption)); done)) (by decide) (by decide)) | exact ble_ok (next_ble0 _ _ _ _ (by ((repeat (with_reducible first | assumption)); done)) (by decide) (by decide)) | exact idx_ok (next_rng _ _ _ _ (by ((repeat (with_reducible first | assumption)); done)) (pos_one ‹_›)) | exact next_cell (by ((repeat (with_reducible first | assumption)); done)) ‹_› (by (first | exact flat2_len _ | exact flat3_len _))) ?_ | refine ite_opt (fun _ => ?_) (fun _ => ?_) | rfl)
def run_s_DrawTangentOf : List PV → Option (Bool × List TR)
  | [.s coden (.byts codel)] => some (codeB coden codel, enc_i_a6_a2 (s_DrawTangentOf coden codel))
  | _ => none
theorem sound_s_DrawTangentOf : Sound Try.prog 6 run_s_DrawTangentOf := by
  refine sound_of de_i_a6_a2 SO_s_DrawTangentOf (by kernel_rfl) Try.func6 Try.ntmps6 rfl (by kernel_rfl) ?_
  intro W pvs avs rs hargs hrun
  unfold run_s_DrawTangentOf at hrun
  split at hrun
  · simp only [Option.some.injEq, Prod.mk.injEq] at hrun
    obtain ⟨hp, rfl⟩ := hrun
    rename_i coden codel
    exact ⟨_, _, _, hargs, rfl, (eq_s_DrawTangentOf coden codel).trans (tot_s_DrawTangentOf coden codel hp)⟩
  · cases hrun

def S_s_l08Draw : Sums := ⟨tblS [(40, run_s_l08With)], tblM []⟩
theorem SO_s_l08Draw : SumsOK Try.prog S_s_l08Draw := ⟨tblS_ok ⟨⟨Try.call40, sound_s_l08With⟩, True.intro⟩, tblM_ok True.intro⟩
def Fo_s_l08Draw (coden : Nat) (codel : List Int) : Option (Int × Int × Int × Int × Int × Int × Int) :=
  (if (codeB coden codel) = true then some ((s_l08With coden codel).1, ((s_l08With coden codel).2.1)) else none)
theorem eq_s_l08Draw (coden : Nat) (codel : List Int) : execT Try.prog S_s_l08Draw 52 15 (fun _ => 1000000) dec_i_a6 [.s coden (.byts codel)] = Fo_s_l08Draw coden codel := by
  kernel_rfl
def s_l08Draw_d (coden : Nat) (codel : List Int) : Int × Int × Int × Int × Int × Int × Int :=
  ((s_l08With coden codel).1, ((s_l08With coden codel).2.1))
def s_l08Draw : (Nat) → (List Int) → (Int × Int × Int × Int × Int × Int × Int) := shut s_l08Draw_d
theorem s_l08Draw_eq (coden : Nat) (codel : List Int) : s_l08Draw coden codel = s_l08Draw_d coden codel := by
  unfold s_l08Draw
  rw [shut_eq]
theorem tot_s_l08Draw (coden : Nat) (codel : List Int) (hp : (codeB coden codel) = true) : Fo_s_l08Draw coden codel = some (s_l08Draw coden codel) := by
  have hc := hp
  rw [s_l08Draw_eq]
  unfold Fo_s_l08Draw s_l08Draw_d
  (try simp only [wI_eq])
  repeat' (first | with_reducible rfl | refine chk_opt (by first | (with_reducible assumption) | ((repeat (with_reducible first | assumption)); done) | (with_reducible exact field_prB9 _ _ _ (by ((repeat (with_reducible first | assumption)); done))) | fail | exact pos_idx ‹_› | exact and_two (by ((repeat (with_reducible first | assumption)); done)) (by (first | (with_reducible assumption) | with_reducible exact field_prB9 _ _ _ (by ((repeat (with_reducible first | assumption)); done)) | fail | rfl)) | exact pos_cell ‹_› (by (first | exact flat2_len _ | exact flat3_len _)) | exact idx_ok (next_rng _ _ _ _ (by ((repeat (with_reducible first | assumption)); done)) (by decide)) | exact ble_ok (next_ble _ _ _ _ (by ((repeat (with_reducible first | assumption)); done)) (by decide) (by decide)) | exact ble_ok (next_ble0 _ _ _ _ (by ((repeat (with_reducible first | assumption)); done)) (by decide) (by decide)) | exact idx_ok (next_rng _ _ _ _ (by ((repeat (with_reducible first | assumption)); done)) (pos_one ‹_›)) | exact next_cell (by ((repeat (with_reducible first | assumption)); done)) ‹_› (by (first | exact flat2_len _ | exact flat3_len _))) ?_ | refine ite_opt (fun _ => ?_) (fun _ => ?_) | rfl)
def run_s_l08Draw : List PV → Option (Bool × List TR)
  | [.s coden (.byts codel)] => some (codeB coden codel, enc_i_a6 (s_l08Draw coden codel))
  | _ => none
theorem sound_s_l08Draw : Sound Try.prog 52 run_s_l08Draw := by
  refine sound_of de_i_a6 SO_s_l08Draw (by kernel_rfl) Try.func52 Try.ntmps52 rfl (by kernel_rfl) ?_
  intro W pvs avs rs hargs hrun
  unfold run_s_l08Draw at hrun
  split at hrun
  · simp only [Option.some.injEq, Prod.mk.injEq] at hrun
    obtain ⟨hp, rfl⟩ := hrun
    rename_i coden codel
    exact ⟨_, _, _, hargs, rfl, (eq_s_l08Draw coden codel).trans (tot_s_l08Draw coden codel hp)⟩
  · cases hrun

def S_s_DrawCentreOf : Sums := ⟨tblS [(52, run_s_l08Draw)], tblM []⟩
theorem SO_s_DrawCentreOf : SumsOK Try.prog S_s_DrawCentreOf := ⟨tblS_ok ⟨⟨Try.call52, sound_s_l08Draw⟩, True.intro⟩, tblM_ok True.intro⟩
def Fo_s_DrawCentreOf (coden : Nat) (codel : List Int) : Option (Int × Int × Int × Int × Int × Int × Int) :=
  (if (codeB coden codel) = true then some ((s_l08Draw coden codel).1, ((s_l08Draw coden codel).2)) else none)
theorem eq_s_DrawCentreOf (coden : Nat) (codel : List Int) : execT Try.prog S_s_DrawCentreOf 9 8 (fun _ => 1000000) dec_i_a6 [.s coden (.byts codel)] = Fo_s_DrawCentreOf coden codel := by
  kernel_rfl
def s_DrawCentreOf_d (coden : Nat) (codel : List Int) : Int × Int × Int × Int × Int × Int × Int :=
  ((s_l08Draw coden codel).1, ((s_l08Draw coden codel).2))
def s_DrawCentreOf : (Nat) → (List Int) → (Int × Int × Int × Int × Int × Int × Int) := shut s_DrawCentreOf_d
theorem s_DrawCentreOf_eq (coden : Nat) (codel : List Int) : s_DrawCentreOf coden codel = s_DrawCentreOf_d coden codel := by
  unfold s_DrawCentreOf
  rw [shut_eq]
theorem tot_s_DrawCentreOf (coden : Nat) (codel : List Int) (hp : (codeB coden codel) = true) : Fo_s_DrawCentreOf coden codel = some (s_DrawCentreOf coden codel) := by
  have hc := hp
  rw [s_DrawCentreOf_eq]
  unfold Fo_s_DrawCentreOf s_DrawCentreOf_d
  (try simp only [wI_eq])
  repeat' (first | with_reducible rfl | refine chk_opt (by first | (with_reducible assumption) | ((repeat (with_reducible first | assumption)); done) | (with_reducible exact field_prB9 _ _ _ (by ((repeat (with_reducible first | assumption)); done))) | fail | exact pos_idx ‹_› | exact and_two (by ((repeat (with_reducible first | assumption)); done)) (by (first | (with_reducible assumption) | with_reducible exact field_prB9 _ _ _ (by ((repeat (with_reducible first | assumption)); done)) | fail | rfl)) | exact pos_cell ‹_› (by (first | exact flat2_len _ | exact flat3_len _)) | exact idx_ok (next_rng _ _ _ _ (by ((repeat (with_reducible first | assumption)); done)) (by decide)) | exact ble_ok (next_ble _ _ _ _ (by ((repeat (with_reducible first | assumption)); done)) (by decide) (by decide)) | exact ble_ok (next_ble0 _ _ _ _ (by ((repeat (with_reducible first | assumption)); done)) (by decide) (by decide)) | exact idx_ok (next_rng _ _ _ _ (by ((repeat (with_reducible first | assumption)); done)) (pos_one ‹_›)) | exact next_cell (by ((repeat (with_reducible first | assumption)); done)) ‹_› (by (first | exact flat2_len _ | exact flat3_len _))) ?_ | refine ite_opt (fun _ => ?_) (fun _ => ?_) | rfl)
def run_s_DrawCentreOf : List PV → Option (Bool × List TR)
  | [.s coden (.byts codel)] => some (codeB coden codel, enc_i_a6 (s_DrawCentreOf coden codel))
  | _ => none
theorem sound_s_DrawCentreOf : Sound Try.prog 9 run_s_DrawCentreOf := by
  refine sound_of de_i_a6 SO_s_DrawCentreOf (by kernel_rfl) Try.func9 Try.ntmps9 rfl (by kernel_rfl) ?_
  intro W pvs avs rs hargs hrun
  unfold run_s_DrawCentreOf at hrun
  split at hrun
  · simp only [Option.some.injEq, Prod.mk.injEq] at hrun
    obtain ⟨hp, rfl⟩ := hrun
    rename_i coden codel
    exact ⟨_, _, _, hargs, rfl, (eq_s_DrawCentreOf coden codel).trans (tot_s_DrawCentreOf coden codel hp)⟩
  · cases hrun

abbrev k19_0 (coden : Nat) (codel : List Int) : (Int × Int × Int) × Int := (s_PolarOf ((s_l08With coden codel).1) ((s_l08With coden codel).2.1) ((s_l08With coden codel).2.2))
abbrev k19_1 (coden : Nat) (codel : List Int) : Int × Nat × List Int × Int × Int := (s_l01Next coden codel (s_l01From coden codel) 2)
abbrev k19_2 (coden : Nat) (codel : List Int) : (Int × Int × Int) × Nat × List Int × Int × Int := (s_l01DrawLine coden codel ((k19_1 coden codel).2.2.2) 3)
abbrev k19_3 (coden : Nat) (codel : List Int) : (Int × Int × Int) × Nat × List Int × Int × Int := (s_l01DrawLine coden codel (s_l01From coden codel) 3)
def S_s_DrawPoleOf : Sums := ⟨tblS [(40, run_s_l08With), (23, run_s_PolarOf)], tblM [(67, .src run_s_l01From), (68, .box run_s_l01Next), (69, .box run_s_l01DrawLine)]⟩
theorem SO_s_DrawPoleOf : SumsOK Try.prog S_s_DrawPoleOf := ⟨tblS_ok ⟨⟨Try.call40, sound_s_l08With⟩, ⟨Try.call23, sound_s_PolarOf⟩, True.intro⟩, tblM_ok ⟨⟨Try.call67, sound_s_l01From⟩, ⟨Try.call68, sound_s_l01Next⟩, ⟨Try.call69, sound_s_l01DrawLine⟩, True.intro⟩⟩
def Fo_s_DrawPoleOf (coden : Nat) (codel : List Int) : Option (Int × (Int × Int × Int × Int × Int × Int) × Int × Int × Int) :=
  (if (codeB coden codel) = true then (if (codeB coden codel) = true then (if (((k19_0 coden codel).2) == 0) = true then (if (srcB coden codel (s_l01From coden codel)) = true then (if (((k19_1 coden codel).1) == 0) = true then some ((s_l08With coden codel).1, ((s_l08With coden codel).2.1), ((k19_0 coden codel).1)) else (if (srcB coden codel ((k19_1 coden codel).2.2.2) && prB 3) = true then some ((s_l08With coden codel).1, ((s_l08With coden codel).2.1), ((k19_2 coden codel).1)) else none)) else none) else (if (srcB coden codel (s_l01From coden codel) && prB 3) = true then some ((s_l08With coden codel).1, ((s_l08With coden codel).2.1), ((k19_3 coden codel).1)) else none)) else none) else none)
theorem eq_s_DrawPoleOf (coden : Nat) (codel : List Int) : execT Try.prog S_s_DrawPoleOf 19 40 (fun _ => 1000000) dec_i_a6_a3 [.s coden (.byts codel)] = Fo_s_DrawPoleOf coden codel := by
  kernel_rfl
def s_DrawPoleOf_d (coden : Nat) (codel : List Int) : Int × (Int × Int × Int × Int × Int × Int) × Int × Int × Int :=
  (if (((k19_0 coden codel).2) == 0) = true then (if (((k19_1 coden codel).1) == 0) = true then ((s_l08With coden codel).1, ((s_l08With coden codel).2.1), ((k19_0 coden codel).1)) else ((s_l08With coden codel).1, ((s_l08With coden codel).2.1), ((k19_2 coden codel).1))) else ((s_l08With coden codel).1, ((s_l08With coden codel).2.1), ((k19_3 coden codel).1)))
def s_DrawPoleOf : (Nat) → (List Int) → (Int × (Int × Int × Int × Int × Int × Int) × Int × Int × Int) := shut s_DrawPoleOf_d
theorem s_DrawPoleOf_eq (coden : Nat) (codel : List Int) : s_DrawPoleOf coden codel = s_DrawPoleOf_d coden codel := by
  unfold s_DrawPoleOf
  rw [shut_eq]
theorem tot_s_DrawPoleOf (coden : Nat) (codel : List Int) (hp : (codeB coden codel) = true) : Fo_s_DrawPoleOf coden codel = some (s_DrawPoleOf coden codel) := by
  have hc := hp
  rw [s_DrawPoleOf_eq]
  unfold Fo_s_DrawPoleOf s_DrawPoleOf_d
  (try simp only [wI_eq])
  repeat' (first | with_reducible rfl | refine chk_opt (by first | (with_reducible assumption) | ((repeat (with_reducible first | assumption | exact s_l01From_src hc | apply post_s_l01Next | apply post_s_l01DrawLine)); done) | (with_reducible exact field_prB9 _ _ _ (by ((repeat (with_reducible first | assumption | exact s_l01From_src hc | apply post_s_l01Next | apply post_s_l01DrawLine)); done))) | fail | exact pos_idx ‹_› | exact and_two (by ((repeat (with_reducible first | assumption | exact s_l01From_src hc | apply post_s_l01Next | apply post_s_l01DrawLine)); done)) (by (first | (with_reducible assumption) | with_reducible exact field_prB9 _ _ _ (by ((repeat (with_reducible first | assumption | exact s_l01From_src hc | apply post_s_l01Next | apply post_s_l01DrawLine)); done)) | fail | rfl)) | exact pos_cell ‹_› (by (first | exact flat2_len _ | exact flat3_len _)) | exact idx_ok (next_rng _ _ _ _ (by ((repeat (with_reducible first | assumption | exact s_l01From_src hc | apply post_s_l01Next | apply post_s_l01DrawLine)); done)) (by decide)) | exact ble_ok (next_ble _ _ _ _ (by ((repeat (with_reducible first | assumption | exact s_l01From_src hc | apply post_s_l01Next | apply post_s_l01DrawLine)); done)) (by decide) (by decide)) | exact ble_ok (next_ble0 _ _ _ _ (by ((repeat (with_reducible first | assumption | exact s_l01From_src hc | apply post_s_l01Next | apply post_s_l01DrawLine)); done)) (by decide) (by decide)) | exact idx_ok (next_rng _ _ _ _ (by ((repeat (with_reducible first | assumption | exact s_l01From_src hc | apply post_s_l01Next | apply post_s_l01DrawLine)); done)) (pos_one ‹_›)) | exact next_cell (by ((repeat (with_reducible first | assumption | exact s_l01From_src hc | apply post_s_l01Next | apply post_s_l01DrawLine)); done)) ‹_› (by (first | exact flat2_len _ | exact flat3_len _))) ?_ | refine ite_opt (fun _ => ?_) (fun _ => ?_) | rfl)
def run_s_DrawPoleOf : List PV → Option (Bool × List TR)
  | [.s coden (.byts codel)] => some (codeB coden codel, enc_i_a6_a3 (s_DrawPoleOf coden codel))
  | _ => none
theorem sound_s_DrawPoleOf : Sound Try.prog 19 run_s_DrawPoleOf := by
  refine sound_of de_i_a6_a3 SO_s_DrawPoleOf (by kernel_rfl) Try.func19 Try.ntmps19 rfl (by kernel_rfl) ?_
  intro W pvs avs rs hargs hrun
  unfold run_s_DrawPoleOf at hrun
  split at hrun
  · simp only [Option.some.injEq, Prod.mk.injEq] at hrun
    obtain ⟨hp, rfl⟩ := hrun
    rename_i coden codel
    exact ⟨_, _, _, hargs, rfl, (eq_s_DrawPoleOf coden codel).trans (tot_s_DrawPoleOf coden codel hp)⟩
  · cases hrun


end

end Go.Proofs.Ytfclaacaphpoaaa
