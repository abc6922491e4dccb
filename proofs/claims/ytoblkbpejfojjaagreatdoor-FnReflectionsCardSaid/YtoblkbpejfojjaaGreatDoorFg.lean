import Derived.Test.YtoblkbpejfojjaaGreatDoorFb
import Derived.Test.YtoblkbpejfojjaaGreatDoorFd
import Derived.Test.YtoblkbpejfojjaaGreatDoorProg
set_option linter.unusedSimpArgs false
set_option linter.unusedVariables false
namespace Go.Proofs.YtoblkbpejfojjaaGreatDoor
open Go.RowKit
noncomputable section
abbrev k98_0 (sn : Nat) (sl : List Int) (ss : Int × Int) (p : Int) (colour : Int) : Int × Nat × List Int × Int × Int := (s_l01Pick sn sl ss 3 [1, 1, (-1)])
abbrev k98_1 (sn : Nat) (sl : List Int) (ss : Int × Int) (p : Int) (colour : Int) : Nat × List Int := (s_l07All p colour ((k98_0 sn sl ss p colour).1))
abbrev k98_2 (sn : Nat) (sl : List Int) (ss : Int × Int) (p : Int) (colour : Int) : Int × Nat × List Int × Int × Int := (s_l01Next sn sl ((k98_0 sn sl ss p colour).2.2.2) (((k98_1 sn sl ss p colour).1 : Nat) : Int))
abbrev k98_3 (sn : Nat) (sl : List Int) (ss : Int × Int) (p : Int) (colour : Int) : Int × Nat × List Int × Int × Int := (s_l01Next sn sl ((k98_2 sn sl ss p colour).2.2.2) 4)
abbrev k98_4 (sn : Nat) (sl : List Int) (ss : Int × Int) (p : Int) (colour : Int) : (Int × Int) × Nat × List Int × Int × Int := (s_l01DrawPoint sn sl ((k98_3 sn sl ss p colour).2.2.2) p)
abbrev k98_5 (sn : Nat) (sl : List Int) (ss : Int × Int) (p : Int) (colour : Int) : Int × Int × Int × Int × Int × Int := (s_l07About p (((k98_1 sn sl ss p colour).2).getD ((((k98_2 sn sl ss p colour).1).toNat) * 6 + 0) 0, ((k98_1 sn sl ss p colour).2).getD ((((k98_2 sn sl ss p colour).1).toNat) * 6 + 1) 0, ((k98_1 sn sl ss p colour).2).getD ((((k98_2 sn sl ss p colour).1).toNat) * 6 + 2) 0, ((k98_1 sn sl ss p colour).2).getD ((((k98_2 sn sl ss p colour).1).toNat) * 6 + 3) 0, ((k98_1 sn sl ss p colour).2).getD ((((k98_2 sn sl ss p colour).1).toNat) * 6 + 4) 0, ((k98_1 sn sl ss p colour).2).getD ((((k98_2 sn sl ss p colour).1).toNat) * 6 + 5) 0) ((k98_4 sn sl ss p colour).1))
def S_s_l07DrawOf : Sums := ⟨tblS [(119, run_s_l07All), (121, run_s_l07About)], tblM [(123, .box run_s_l01Pick), (124, .box run_s_l01Next), (84, .box run_s_l01DrawPoint)]⟩
theorem SO_s_l07DrawOf : SumsOK Tryz.prog S_s_l07DrawOf := ⟨tblS_ok ⟨⟨Tryz.call119, sound_s_l07All⟩, ⟨Tryz.call121, sound_s_l07About⟩, True.intro⟩, tblM_ok ⟨⟨Tryz.call123, sound_s_l01Pick⟩, ⟨Tryz.call124, sound_s_l01Next⟩, ⟨Tryz.call84, sound_s_l01DrawPoint⟩, True.intro⟩⟩
def Fo_s_l07DrawOf (sn : Nat) (sl : List Int) (ss : Int × Int) (p : Int) (colour : Int) : Option ((Int × Int × Int × Int × Int × Int) × Nat × List Int × Int × Int) :=
  (if (srcB sn sl ss && (lenB 3 1 ([1, 1, (-1)]) && Nat.blt 0 3)) = true then (if (ok_s_l07All p colour ((k98_0 sn sl ss p colour).1)) = true then (if (srcB sn sl ((k98_0 sn sl ss p colour).2.2.2)) = true then (if (decide (0 ≤ (k98_2 sn sl ss p colour).1) && decide ((k98_2 sn sl ss p colour).1 < (((k98_1 sn sl ss p colour).1 : Nat) : Int))) = true then (if (Nat.ble ((((k98_2 sn sl ss p colour).1).toNat) * 6 + 6) (((k98_1 sn sl ss p colour).2).length)) = true then (if (srcB sn sl ((k98_2 sn sl ss p colour).2.2.2)) = true then (if (((k98_3 sn sl ss p colour).1) == 0) = true then (if (srcB sn sl ((k98_3 sn sl ss p colour).2.2.2) && prB p) = true then (if (prB p) = true then some ((k98_5 sn sl ss p colour), sn, sl, (k98_4 sn sl ss p colour).2.2.2) else none) else none) else (if (((k98_3 sn sl ss p colour).1) == 1) = true then (if (srcB sn sl ((k98_3 sn sl ss p colour).2.2.2) && prB p) = true then some ((1, 0, 0, 1, ((k98_4 sn sl ss p colour).1).1, ((k98_4 sn sl ss p colour).1).2), sn, sl, (k98_4 sn sl ss p colour).2.2.2) else none) else (if (srcB sn sl ((k98_3 sn sl ss p colour).2.2.2) && prB p) = true then some ((((k98_1 sn sl ss p colour).2).getD ((((k98_2 sn sl ss p colour).1).toNat) * 6 + 0) 0, ((k98_1 sn sl ss p colour).2).getD ((((k98_2 sn sl ss p colour).1).toNat) * 6 + 1) 0, ((k98_1 sn sl ss p colour).2).getD ((((k98_2 sn sl ss p colour).1).toNat) * 6 + 2) 0, ((k98_1 sn sl ss p colour).2).getD ((((k98_2 sn sl ss p colour).1).toNat) * 6 + 3) 0, ((k98_4 sn sl ss p colour).1).1, ((k98_4 sn sl ss p colour).1).2), sn, sl, (k98_4 sn sl ss p colour).2.2.2) else none))) else none) else none) else none) else none) else none) else none)
theorem eq_s_l07DrawOf (sn : Nat) (sl : List Int) (ss : Int × Int) (p : Int) (colour : Int) : execP Tryz.prog S_s_l07DrawOf 98 44 (fun _ => 1000000) dec_P142_a6 142 [.s sn (.byts sl), .v (.int .i64 ss.1), .v (.int .u64 ss.2)] [.v (.int .i64 p), .v (.int .i64 colour)] = Fo_s_l07DrawOf sn sl ss p colour := by
  kernel_rfl
def s_l07DrawOf_d (sn : Nat) (sl : List Int) (ss : Int × Int) (p : Int) (colour : Int) : (Int × Int × Int × Int × Int × Int) × Nat × List Int × Int × Int :=
  (if (((k98_3 sn sl ss p colour).1) == 0) = true then ((k98_5 sn sl ss p colour), sn, sl, (k98_4 sn sl ss p colour).2.2.2) else (if (((k98_3 sn sl ss p colour).1) == 1) = true then ((1, 0, 0, 1, ((k98_4 sn sl ss p colour).1).1, ((k98_4 sn sl ss p colour).1).2), sn, sl, (k98_4 sn sl ss p colour).2.2.2) else ((((k98_1 sn sl ss p colour).2).getD ((((k98_2 sn sl ss p colour).1).toNat) * 6 + 0) 0, ((k98_1 sn sl ss p colour).2).getD ((((k98_2 sn sl ss p colour).1).toNat) * 6 + 1) 0, ((k98_1 sn sl ss p colour).2).getD ((((k98_2 sn sl ss p colour).1).toNat) * 6 + 2) 0, ((k98_1 sn sl ss p colour).2).getD ((((k98_2 sn sl ss p colour).1).toNat) * 6 + 3) 0, ((k98_4 sn sl ss p colour).1).1, ((k98_4 sn sl ss p colour).1).2), sn, sl, (k98_4 sn sl ss p colour).2.2.2)))
def s_l07DrawOf : (Nat) → (List Int) → (Int × Int) → (Int) → (Int) → ((Int × Int × Int × Int × Int × Int) × Nat × List Int × Int × Int) := shut s_l07DrawOf_d
theorem s_l07DrawOf_eq (sn : Nat) (sl : List Int) (ss : Int × Int) (p : Int) (colour : Int) : s_l07DrawOf sn sl ss p colour = s_l07DrawOf_d sn sl ss p colour := by
  unfold s_l07DrawOf
  rw [shut_eq]
theorem tot_s_l07DrawOf (sn : Nat) (sl : List Int) (ss : Int × Int) (p : Int) (colour : Int) (hp : (srcB sn sl ss && drB p colour) = true) : Fo_s_l07DrawOf sn sl ss p colour = some (s_l07DrawOf sn sl ss p colour) := by
  have hs := and_l hp
  have hc := (srcB_ok hs).1
  rw [s_l07DrawOf_eq]
  unfold Fo_s_l07DrawOf s_l07DrawOf_d
  (try simp only [wI_eq])
  repeat' (first | with_reducible rfl | refine chk_opt (by first | (with_reducible assumption) | ((repeat (with_reducible first | assumption | apply post_s_l01Pick | apply post_s_l01Next | apply post_s_l01DrawPoint)); done) | (with_reducible exact field_prB9 _ _ _ (by ((repeat (with_reducible first | assumption | apply post_s_l01Pick | apply post_s_l01Next | apply post_s_l01DrawPoint)); done))) | fail | exact all_ok (and_r hp) (pick_mem _ _ _ _ _ (by ((repeat (with_reducible first | assumption | apply post_s_l01Pick | apply post_s_l01Next | apply post_s_l01DrawPoint)); done)) rfl) | exact drB_prB (and_r hp) | exact and_two (by ((repeat (with_reducible first | assumption | apply post_s_l01Pick | apply post_s_l01Next | apply post_s_l01DrawPoint)); done)) (drB_prB (and_r hp)) | exact idx_ok (next_rng _ _ _ _ (by ((repeat (with_reducible first | assumption | apply post_s_l01Pick | apply post_s_l01Next | apply post_s_l01DrawPoint)); done)) (all_pos (and_r hp) (pick_mem _ _ _ _ _ (by ((repeat (with_reducible first | assumption | apply post_s_l01Pick | apply post_s_l01Next | apply post_s_l01DrawPoint)); done)) rfl))) | exact ble_ok (next_ble _ _ _ _ (by ((repeat (with_reducible first | assumption | apply post_s_l01Pick | apply post_s_l01Next | apply post_s_l01DrawPoint)); done)) (all_pos (and_r hp) (pick_mem _ _ _ _ _ (by ((repeat (with_reducible first | assumption | apply post_s_l01Pick | apply post_s_l01Next | apply post_s_l01DrawPoint)); done)) rfl)) (len_next (all_len (and_r hp) (pick_mem _ _ _ _ _ (by ((repeat (with_reducible first | assumption | apply post_s_l01Pick | apply post_s_l01Next | apply post_s_l01DrawPoint)); done)) rfl)) (all_pos (and_r hp) (pick_mem _ _ _ _ _ (by ((repeat (with_reducible first | assumption | apply post_s_l01Pick | apply post_s_l01Next | apply post_s_l01DrawPoint)); done)) rfl)))) | exact pos_idx ‹_› | exact and_two (by ((repeat (with_reducible first | assumption | apply post_s_l01Pick | apply post_s_l01Next | apply post_s_l01DrawPoint)); done)) (by (first | (with_reducible assumption) | with_reducible exact field_prB9 _ _ _ (by ((repeat (with_reducible first | assumption | apply post_s_l01Pick | apply post_s_l01Next | apply post_s_l01DrawPoint)); done)) | fail | rfl)) | exact pos_cell ‹_› (by (first | exact flat2_len _ | exact flat3_len _)) | exact idx_ok (next_rng _ _ _ _ (by ((repeat (with_reducible first | assumption | apply post_s_l01Pick | apply post_s_l01Next | apply post_s_l01DrawPoint)); done)) (by decide)) | exact ble_ok (next_ble _ _ _ _ (by ((repeat (with_reducible first | assumption | apply post_s_l01Pick | apply post_s_l01Next | apply post_s_l01DrawPoint)); done)) (by decide) (by decide)) | exact ble_ok (next_ble0 _ _ _ _ (by ((repeat (with_reducible first | assumption | apply post_s_l01Pick | apply post_s_l01Next | apply post_s_l01DrawPoint)); done)) (by decide) (by decide)) | exact idx_ok (next_rng _ _ _ _ (by ((repeat (with_reducible first | assumption | apply post_s_l01Pick | apply post_s_l01Next | apply post_s_l01DrawPoint)); done)) (pos_one ‹_›)) | exact next_cell (by ((repeat (with_reducible first | assumption | apply post_s_l01Pick | apply post_s_l01Next | apply post_s_l01DrawPoint)); done)) ‹_› (by (first | exact flat2_len _ | exact flat3_len _))) ?_ | refine ite_opt (fun _ => ?_) (fun _ => ?_) | rfl)
theorem post_s_l07DrawOf (sn : Nat) (sl : List Int) (ss : Int × Int) (p : Int) (colour : Int) (hs : srcB sn sl ss = true) : srcB sn sl (s_l07DrawOf sn sl ss p colour).2.2.2 = true := by
  have hc := (srcB_ok hs).1
  rw [s_l07DrawOf_eq]
  unfold s_l07DrawOf_d
  repeat' (first | (with_reducible first | assumption | apply post_s_l01Pick | apply post_s_l01Next | apply post_s_l01DrawPoint) | refine ite_ind (P := fun r : (Int × Int × Int × Int × Int × Int) × Nat × List Int × Int × Int => srcB sn sl r.2.2.2 = true) ?_ ?_ | dsimp only)
theorem pickM_mem (sn : Nat) (sl : List Int) (ss : Int × Int) (hs : srcB sn sl ss = true) : (s_l01Pick sn sl ss 8 [3, 5, 7, 7, 11, 13, 17, 23]).1 ∈ [3, 5, 7, 7, 11, 13, 17, (23 : Int)] := pick_mem sn sl ss 8 _ hs rfl
theorem pickN_mem (sn : Nat) (sl : List Int) (ss : Int × Int) (hs : srcB sn sl ss = true) : (s_l01Pick sn sl ss 6 [3, 5, 7, 7, 11, 13]).1 ∈ [3, 5, 7, 7, 11, (13 : Int)] := pick_mem sn sl ss 6 _ hs rfl
theorem in_of_not {b : Bool} (h : ¬ (!b) = true) : b = true := by simpa using h
theorem in_mem {c : Int} (hc : s_l01In c 0 2 = true) : c ∈ ([0, 1, 2] : List Int) := by
  unfold s_l01In at hc
  simp at hc ⊢
  omega
theorem drB_of {p c : Int} (h1 : p ∈ ([3, 5, 7, 11, 13, 17, 23] : List Int)) (h2 : c ∈ ([0, 1, 2] : List Int)) : drB p c = true := by
  unfold drB
  rw [Bool.and_eq_true, List.contains_iff_mem, List.contains_iff_mem]
  exact ⟨h1, h2⟩
theorem pick_drC (sn : Nat) (sl : List Int) (ss : Int × Int) {c : Int} (hs : srcB sn sl ss = true) (hc : s_l01In c 0 2 = true) : drB (s_l01Pick sn sl ss 8 [3, 5, 7, 7, 11, 13, 17, 23]).1 c = true := by
  refine drB_of ?_ (in_mem hc)
  have := pickM_mem sn sl ss hs
  simp at this ⊢
  omega
theorem next3_mem (sn : Nat) (sl : List Int) (ss : Int × Int) (hs : srcB sn sl ss = true) : (s_l01Next sn sl ss 3).1 ∈ ([0, 1, 2] : List Int) := by
  have := next_rng sn sl ss 3 hs (by omega)
  simp
  omega
theorem pick_drB (sn : Nat) (sl : List Int) (ss ss' : Int × Int) (hs : srcB sn sl ss = true) (hs' : srcB sn sl ss' = true) : drB (s_l01Pick sn sl ss 8 [3, 5, 7, 7, 11, 13, 17, 23]).1 (s_l01Next sn sl ss' 3).1 = true := by
  refine drB_of ?_ (next3_mem sn sl ss' hs')
  have := pickM_mem sn sl ss hs
  simp at this ⊢
  omega
theorem pickN_drB (sn : Nat) (sl : List Int) (ss ss' : Int × Int) (hs : srcB sn sl ss = true) (hs' : srcB sn sl ss' = true) : drB (s_l01Pick sn sl ss 6 [3, 5, 7, 7, 11, 13]).1 (s_l01Next sn sl ss' 3).1 = true := by
  refine drB_of ?_ (next3_mem sn sl ss' hs')
  have := pickN_mem sn sl ss hs
  simp at this ⊢
  omega
theorem pick_prBM (sn : Nat) (sl : List Int) (ss : Int × Int) (hs : srcB sn sl ss = true) : prB (s_l01Pick sn sl ss 8 [3, 5, 7, 7, 11, 13, 17, 23]).1 = true := drB_prB (pick_drC sn sl ss (c := 0) hs rfl)
theorem pick_prBN (sn : Nat) (sl : List Int) (ss : Int × Int) (hs : srcB sn sl ss = true) : prB (s_l01Pick sn sl ss 6 [3, 5, 7, 7, 11, 13]).1 = true := by
  have := pickN_mem sn sl ss hs
  unfold prB
  simp at this ⊢
  omega
def run_s_l07DrawOf : PRun
  | 142, [.s sn (.byts sl), .v (.int .i64 s_1), .v (.int .u64 s_2)], [.v (.int .i64 p), .v (.int .i64 colour)] => some (srcB sn sl (s_1, s_2) && drB p colour, enc_P142_a6 (s_l07DrawOf sn sl (s_1, s_2) p colour))
  | _, _, _ => none
theorem sound_s_l07DrawOf : SoundP Tryz.prog 98 run_s_l07DrawOf := by
  refine soundP_of de_P142_a6 SO_s_l07DrawOf (by kernel_rfl) Tryz.func98 Tryz.ntmps98 rfl (by kernel_rfl) ?_
  intro e bcs pvs rs bcs' hrun
  unfold run_s_l07DrawOf at hrun
  split at hrun
  · simp only [Option.some.injEq, Prod.mk.injEq] at hrun
    obtain ⟨hp, hrun⟩ := hrun
    rename_i sn sl s_1 s_2 p colour
    exact ⟨_, s_l07DrawOf sn sl (s_1, s_2) p colour, by first | exact hrun.symm | exact (Prod.ext hrun.1 hrun.2).symm, (eq_s_l07DrawOf sn sl (s_1, s_2) p colour).trans (tot_s_l07DrawOf sn sl (s_1, s_2) p colour hp)⟩
  · cases hrun

def S_s_l01From : Sums := ⟨tblS [], tblM []⟩
theorem SO_s_l01From : SumsOK Tryz.prog S_s_l01From := ⟨tblS_ok True.intro, tblM_ok True.intro⟩
def T_s_l01From_0 (coden : Nat) (codel : List Int) (v44_2 : Int) (i : Int) : Tab := ⟨[.row 1, .junk, .val (.pointer none), .ptr 44 0, .val (.int .i64 i), .row 1, .row 1, .val (.int .i64 ((coden : Nat) : Int)), .val (.int .u64 (IntKind.u64.wrap (((coden : Nat) : Int)))), .val (.int .u64 (IntKind.u64.wrap (13701 + (IntKind.u64.wrap (((coden : Nat) : Int)))))), .junk, .ptr 44 0, .junk, .junk, .junk, .junk, .junk, .junk, .junk, .junk, .junk, .junk, .junk, .junk, .junk, .junk, .junk, .junk, .junk, .junk, .junk, .junk, .junk, .junk, .junk, .junk, .junk, .junk], [(0, .ros 0 (.ints [])), (1, .ros coden (.byts codel)), (44, .box 142 [.row 1, .val (.int .i64 0), .val (.int .u64 v44_2)])]⟩
def X_s_l01From_0 (P : Program) (fu : Nat) (coden : Nat) (codel : List Int) (f : Nat) (v44_2 : Int) (i : Int) : Option (Int × Int) := loopK (exec P S_s_l01From 38 (fun _ => fu + 100) (Code.sub [1, 1, 0, 1, 0, 0] (bodyF P 81))) f (T_s_l01From_0 coden codel v44_2 i) (kBlock 0 (kSeq (fun zs9 => exec P S_s_l01From 38 (fun _ => fu + 100) (Code.sub [1, 1, 1] (bodyF P 81)) zs9 (finB P 81 dec_B142)) (finB P 81 dec_B142)))
def B_s_l01From_0 (coden : Nat) (codel : List Int) (rec0 : Int → Int → Option (Int × Int)) (v44_2 : Int) (i : Int) : Option (Int × Int) :=
  (if (decide (i < ((coden : Nat) : Int))) = true then (if (decide (i < 4096)) = true then (if (decide (0 ≤ i) && decide (i < ((coden : Nat) : Int))) = true then (if (Nat.ble (i.toNat * 1 + 1) codel.length) = true then rec0 (IntKind.u64.wrap ((IntKind.u64.wrap ((IntKind.u64.wrap (v44_2 * 1099511628211)) + (IntKind.u64.wrap (codel.getD (i.toNat * 1) 0)))) + 199)) (wI (i + 1)) else none) else none) else some (0, v44_2)) else some (0, v44_2))
def L_s_l01From_0 (fu : Nat) (coden : Nat) (codel : List Int) : Nat → Int → Int → Option (Int × Int)
  | 0, _, _ => none
  | f + 1, v44_2, i => B_s_l01From_0 coden codel (L_s_l01From_0 fu coden codel f) v44_2 i
theorem loop_s_l01From_0 (fu : Nat) (coden : Nat) (codel : List Int) : ∀ (f : Nat) (v44_2 : Int) (i : Int), X_s_l01From_0 Tryz.prog fu coden codel f v44_2 i = L_s_l01From_0 fu coden codel f v44_2 i := by
  intro f
  induction f with
  | zero => intros; rfl
  | succ f ih =>
    intro v44_2 i
    have h1 : X_s_l01From_0 Tryz.prog fu coden codel (f + 1) v44_2 i = B_s_l01From_0 coden codel (X_s_l01From_0 Tryz.prog fu coden codel f) v44_2 i := by kernel_rfl
    have h2 : X_s_l01From_0 Tryz.prog fu coden codel f = L_s_l01From_0 fu coden codel f := by funext v44_2 i; exact ih v44_2 i
    rw [h1, h2]
    rfl
def G_s_l01From (coden : Nat) (codel : List Int) (lo0 : Int → Int → Option (Int × Int)) : Option (Int × Int) :=
  lo0 (IntKind.u64.wrap (13701 + (IntKind.u64.wrap (((coden : Nat) : Int))))) 0
def Fo_s_l01From (fu : Nat) (coden : Nat) (codel : List Int) : Option (Int × Int) := G_s_l01From coden codel (L_s_l01From_0 fu coden codel (fu + 100))
theorem eqg_s_l01From (fu : Nat) (coden : Nat) (codel : List Int) : execB Tryz.prog S_s_l01From 81 38 (fun _ => fu + 100) dec_B142 coden (.byts codel) = G_s_l01From coden codel (L_s_l01From_0 fu coden codel (fu + 100)) := by
  have h1 : execB Tryz.prog S_s_l01From 81 38 (fun _ => fu + 100) dec_B142 coden (.byts codel) = G_s_l01From coden codel (X_s_l01From_0 Tryz.prog fu coden codel (fu + 100)) := by kernel_rfl
  have c0 : X_s_l01From_0 Tryz.prog fu coden codel (fu + 100) = L_s_l01From_0 fu coden codel (fu + 100) := by funext v44_2 i; exact loop_s_l01From_0 fu coden codel (fu + 100) v44_2 i
  rw [h1, c0]
theorem eq_s_l01From (fu : Nat) (coden : Nat) (codel : List Int) : execB Tryz.prog S_s_l01From 81 38 (fun _ => fu + 100) dec_B142 coden (.byts codel) = Fo_s_l01From fu coden codel := eqg_s_l01From fu coden codel
theorem from_go (fu n : Nat) (l : List Int) (hc : codeB n l = true) : ∀ (f : Nat) (v i : Int), 0 ≤ i → i ≤ 4096 → 4096 - i < f → ∃ h, L_s_l01From_0 fu n l f v i = some (0, h)
  | 0, v, i, _, h1, h2 => by omega
  | f + 1, v, i, h0, h1, h2 => by
    rw [show L_s_l01From_0 fu n l (f + 1) v i = B_s_l01From_0 n l (L_s_l01From_0 fu n l f) v i from rfl]
    unfold B_s_l01From_0
    by_cases hn : i < (n : Int)
    · by_cases hk : i < 4096
      · rw [if_pos (decide_eq_true hn), if_pos (decide_eq_true hk), if_pos (idx_ok ⟨h0, hn⟩), if_pos (ble_ok (by obtain ⟨e, _⟩ := codeB_ok hc; omega)), wI_eq, show wrap64 (i + 1) = i + 1 by unfold wrap64; omega]
        exact from_go fu n l hc f _ _ (by omega) (by omega) (by omega)
      · rw [if_pos (decide_eq_true hn), if_neg (by simp [hk])]
        exact ⟨_, rfl⟩
    · rw [if_neg (by simp [hn])]
      exact ⟨_, rfl⟩
theorem from_some {n : Nat} {l : List Int} (hc : codeB n l = true) : ∃ h, Fo_s_l01From 1000000 n l = some (0, h) := by
  unfold Fo_s_l01From G_s_l01From
  exact from_go _ n l hc _ _ _ (by decide) (by decide) (by decide)
def s_l01From (coden : Nat) (codel : List Int) : Int × Int := (Fo_s_l01From 1000000 coden codel).getD (0, 0)
theorem tot_s_l01From (coden : Nat) (codel : List Int) (hp : (codeB coden codel) = true) : Fo_s_l01From 1000000 coden codel = some (s_l01From coden codel) := by
  obtain ⟨h, e⟩ := from_some hp
  unfold s_l01From
  rw [e]
  rfl
def run_s_l01From : BRun
  | [.s coden (.byts codel)] => some (codeB coden codel, enc_B142 (s_l01From coden codel))
  | _ => none
theorem sound_s_l01From : SoundB Tryz.prog 81 run_s_l01From := by
  refine soundB_of de_B142 SO_s_l01From (by kernel_rfl) Tryz.func81 Tryz.ntmps81 rfl (by kernel_rfl) ?_
  intro m c e vals hrun
  unfold run_s_l01From at hrun
  split at hrun
  · rename_i heq
    simp only [List.cons.injEq, PV.s.injEq, and_true] at heq
    obtain ⟨rfl, rfl⟩ := heq
    simp only [Option.some.injEq, Prod.mk.injEq] at hrun
    obtain ⟨hp, hrun⟩ := hrun
    exact ⟨_, s_l01From _ _, by first | exact hrun.symm | exact (Prod.ext hrun.1 hrun.2).symm, (eq_s_l01From _ _ _).trans (tot_s_l01From _ _ hp)⟩
  · cases hrun

theorem s_l01From_src {n : Nat} {l : List Int} (hc : codeB n l = true) : srcB n l (s_l01From n l) = true := by
  obtain ⟨h, e⟩ := from_some hc
  refine srcB_mk hc ?_
  unfold s_l01From
  rw [e]
  exact Int.le_refl 0
abbrev k146_0 (sn : Nat) (sl : List Int) (ss : Int × Int) : Int × Nat × List Int × Int × Int := (s_l01Pick sn sl ss 17 [0, 0, 0, 1, 1, 1, 2, 2, 2, 0, 1, 2, 0, 1, 2, 3, (-1)])
def S_s_l03DrawColour : Sums := ⟨tblS [], tblM [(123, .box run_s_l01Pick)]⟩
theorem SO_s_l03DrawColour : SumsOK Tryz.prog S_s_l03DrawColour := ⟨tblS_ok True.intro, tblM_ok ⟨⟨Tryz.call123, sound_s_l01Pick⟩, True.intro⟩⟩
def Fo_s_l03DrawColour (sn : Nat) (sl : List Int) (ss : Int × Int) : Option (Int × Nat × List Int × Int × Int) :=
  (if (srcB sn sl ss && (lenB 17 1 ([0, 0, 0, 1, 1, 1, 2, 2, 2, 0, 1, 2, 0, 1, 2, 3, (-1)]) && Nat.blt 0 17)) = true then some ((k146_0 sn sl ss).1, sn, sl, (k146_0 sn sl ss).2.2.2) else none)
theorem eq_s_l03DrawColour (sn : Nat) (sl : List Int) (ss : Int × Int) : execP Tryz.prog S_s_l03DrawColour 146 6 (fun _ => 1000000) dec_P142_i 142 [.s sn (.byts sl), .v (.int .i64 ss.1), .v (.int .u64 ss.2)] [] = Fo_s_l03DrawColour sn sl ss := by
  kernel_rfl
def s_l03DrawColour_d (sn : Nat) (sl : List Int) (ss : Int × Int) : Int × Nat × List Int × Int × Int :=
  ((k146_0 sn sl ss).1, sn, sl, (k146_0 sn sl ss).2.2.2)
def s_l03DrawColour : (Nat) → (List Int) → (Int × Int) → (Int × Nat × List Int × Int × Int) := shut s_l03DrawColour_d
theorem s_l03DrawColour_eq (sn : Nat) (sl : List Int) (ss : Int × Int) : s_l03DrawColour sn sl ss = s_l03DrawColour_d sn sl ss := by
  unfold s_l03DrawColour
  rw [shut_eq]
theorem tot_s_l03DrawColour (sn : Nat) (sl : List Int) (ss : Int × Int) (hp : (srcB sn sl ss) = true) : Fo_s_l03DrawColour sn sl ss = some (s_l03DrawColour sn sl ss) := by
  have hs := hp
  have hc := (srcB_ok hs).1
  rw [s_l03DrawColour_eq]
  unfold Fo_s_l03DrawColour s_l03DrawColour_d
  (try simp only [wI_eq])
  repeat' (first | with_reducible rfl | refine chk_opt (by first | (with_reducible assumption) | ((repeat (with_reducible first | assumption | apply post_s_l01Pick)); done) | (with_reducible exact field_prB9 _ _ _ (by ((repeat (with_reducible first | assumption | apply post_s_l01Pick)); done))) | fail | exact pos_idx ‹_› | exact and_two (by ((repeat (with_reducible first | assumption | apply post_s_l01Pick)); done)) (by (first | (with_reducible assumption) | with_reducible exact field_prB9 _ _ _ (by ((repeat (with_reducible first | assumption | apply post_s_l01Pick)); done)) | fail | rfl)) | exact pos_cell ‹_› (by (first | exact flat2_len _ | exact flat3_len _)) | exact idx_ok (next_rng _ _ _ _ (by ((repeat (with_reducible first | assumption | apply post_s_l01Pick)); done)) (by decide)) | exact ble_ok (next_ble _ _ _ _ (by ((repeat (with_reducible first | assumption | apply post_s_l01Pick)); done)) (by decide) (by decide)) | exact ble_ok (next_ble0 _ _ _ _ (by ((repeat (with_reducible first | assumption | apply post_s_l01Pick)); done)) (by decide) (by decide)) | exact idx_ok (next_rng _ _ _ _ (by ((repeat (with_reducible first | assumption | apply post_s_l01Pick)); done)) (pos_one ‹_›)) | exact next_cell (by ((repeat (with_reducible first | assumption | apply post_s_l01Pick)); done)) ‹_› (by (first | exact flat2_len _ | exact flat3_len _))) ?_ | refine ite_opt (fun _ => ?_) (fun _ => ?_) | rfl)
theorem post_s_l03DrawColour (sn : Nat) (sl : List Int) (ss : Int × Int) (hs : srcB sn sl ss = true) : srcB sn sl (s_l03DrawColour sn sl ss).2.2.2 = true := by
  have hc := (srcB_ok hs).1
  rw [s_l03DrawColour_eq]
  unfold s_l03DrawColour_d
  repeat' (first | (with_reducible first | assumption | apply post_s_l01Pick) | refine ite_ind (P := fun r : Int × Nat × List Int × Int × Int => srcB sn sl r.2.2.2 = true) ?_ ?_ | dsimp only)
def run_s_l03DrawColour : PRun
  | 142, [.s sn (.byts sl), .v (.int .i64 s_1), .v (.int .u64 s_2)], [] => some (srcB sn sl (s_1, s_2), enc_P142_i (s_l03DrawColour sn sl (s_1, s_2)))
  | _, _, _ => none
theorem sound_s_l03DrawColour : SoundP Tryz.prog 146 run_s_l03DrawColour := by
  refine soundP_of de_P142_i SO_s_l03DrawColour (by kernel_rfl) Tryz.func146 Tryz.ntmps146 rfl (by kernel_rfl) ?_
  intro e bcs pvs rs bcs' hrun
  unfold run_s_l03DrawColour at hrun
  split at hrun
  · simp only [Option.some.injEq, Prod.mk.injEq] at hrun
    obtain ⟨hp, hrun⟩ := hrun
    rename_i sn sl s_1 s_2
    exact ⟨_, s_l03DrawColour sn sl (s_1, s_2), by first | exact hrun.symm | exact (Prod.ext hrun.1 hrun.2).symm, (eq_s_l03DrawColour sn sl (s_1, s_2)).trans (tot_s_l03DrawColour sn sl (s_1, s_2) hp)⟩
  · cases hrun

def S_s_l01Normal : Sums := ⟨tblS [(134, run_s_l01Mod), (152, run_s_l01Inverse)], tblM []⟩
theorem SO_s_l01Normal : SumsOK Tryz.prog S_s_l01Normal := ⟨tblS_ok ⟨⟨Tryz.call134, sound_s_l01Mod⟩, ⟨Tryz.call152, sound_s_l01Inverse⟩, True.intro⟩, tblM_ok True.intro⟩
def Fo_s_l01Normal (p : Int) (a : Int) (b : Int) (c : Int) : Option (Int × Int × Int) :=
  (if (prB p) = true then (if ((s_l01Mod a p) == 0) = true then (if (prB p) = true then (if (prB p) = true then (if (prB p) = true then (if (prB p) = true then (if (prB p) = true then some ((s_l01Mod (wI (a * (s_l01Inverse (s_l01Mod b p) p))) p), (s_l01Mod (wI (b * (s_l01Inverse (s_l01Mod b p) p))) p), (s_l01Mod (wI (c * (s_l01Inverse (s_l01Mod b p) p))) p)) else none) else none) else none) else none) else none) else (if (prB p) = true then (if (prB p) = true then (if (prB p) = true then (if (prB p) = true then some ((s_l01Mod (wI (a * (s_l01Inverse (s_l01Mod a p) p))) p), (s_l01Mod (wI (b * (s_l01Inverse (s_l01Mod a p) p))) p), (s_l01Mod (wI (c * (s_l01Inverse (s_l01Mod a p) p))) p)) else none) else none) else none) else none)) else none)
theorem eq_s_l01Normal (p : Int) (a : Int) (b : Int) (c : Int) : execT Tryz.prog S_s_l01Normal 143 38 (fun _ => 1000000) dec_a3 [.v (.int .i64 p), .v (.int .i64 a), .v (.int .i64 b), .v (.int .i64 c)] = Fo_s_l01Normal p a b c := by
  kernel_rfl
def s_l01Normal (p : Int) (a : Int) (b : Int) (c : Int) : Int × Int × Int :=
  (if ((s_l01Mod a p) == 0) = true then ((s_l01Mod (wrap64 (a * (s_l01Inverse (s_l01Mod b p) p))) p), (s_l01Mod (wrap64 (b * (s_l01Inverse (s_l01Mod b p) p))) p), (s_l01Mod (wrap64 (c * (s_l01Inverse (s_l01Mod b p) p))) p)) else ((s_l01Mod (wrap64 (a * (s_l01Inverse (s_l01Mod a p) p))) p), (s_l01Mod (wrap64 (b * (s_l01Inverse (s_l01Mod a p) p))) p), (s_l01Mod (wrap64 (c * (s_l01Inverse (s_l01Mod a p) p))) p)))
theorem tot_s_l01Normal (p : Int) (a : Int) (b : Int) (c : Int) (hp : (prB p) = true) : Fo_s_l01Normal p a b c = some (s_l01Normal p a b c) := by
  try have h0 := prB_ne hp
  unfold Fo_s_l01Normal s_l01Normal
  (try simp only [wI_eq])
  repeat' (first | with_reducible rfl | with_reducible refine chk_opt hp ?_ | with_reducible refine chk_opt h0 ?_ | refine chk_opt (and_all hp fun _ => hp) ?_ | refine chk_opt (and_all hp fun _ => rfl) ?_ | refine ite_opt (fun _ => ?_) (fun _ => ?_) | rfl)
def run_s_l01Normal : List PV → Option (Bool × List TR)
  | [.v (.int .i64 p), .v (.int .i64 a), .v (.int .i64 b), .v (.int .i64 c)] => some (prB p, enc_a3 (s_l01Normal p a b c))
  | _ => none
theorem sound_s_l01Normal : Sound Tryz.prog 143 run_s_l01Normal := by
  refine sound_of de_a3 SO_s_l01Normal (by kernel_rfl) Tryz.func143 Tryz.ntmps143 rfl (by kernel_rfl) ?_
  intro W pvs avs rs hargs hrun
  unfold run_s_l01Normal at hrun
  split at hrun
  · simp only [Option.some.injEq, Prod.mk.injEq] at hrun
    obtain ⟨hp, rfl⟩ := hrun
    rename_i p a b c
    exact ⟨_, _, _, hargs, rfl, (eq_s_l01Normal p a b c).trans (tot_s_l01Normal p a b c hp)⟩
  · cases hrun

abbrev k101_0 (coden : Nat) (codel : List Int) : Int × Nat × List Int × Int × Int := (s_l01DrawField coden codel (s_l01From coden codel))
abbrev k101_1 (coden : Nat) (codel : List Int) : Int × Nat × List Int × Int × Int := (s_l03DrawColour coden codel ((k101_0 coden codel).2.2.2))
abbrev k101_2 (coden : Nat) (codel : List Int) : (Int × Int × Int) × Nat × List Int × Int × Int := (s_l01DrawLine coden codel ((k101_1 coden codel).2.2.2) ((k101_0 coden codel).1))
abbrev k101_3 (coden : Nat) (codel : List Int) : (Int × Int × Int) × Nat × List Int × Int × Int := (s_l01DrawLine coden codel ((k101_2 coden codel).2.2.2) ((k101_0 coden codel).1))
abbrev k101_4 (coden : Nat) (codel : List Int) : Int × Nat × List Int × Int × Int := (s_l01Next coden codel ((k101_3 coden codel).2.2.2) 6)
abbrev k101_5 (coden : Nat) (codel : List Int) : Int × Nat × List Int × Int × Int := (s_l01Next coden codel ((k101_4 coden codel).2.2.2) ((k101_0 coden codel).1))
abbrev k101_6 (coden : Nat) (codel : List Int) : Int × Nat × List Int × Int × Int := (s_l01BadField coden codel ((k101_5 coden codel).2.2.2) ((k101_0 coden codel).1))
abbrev k101_7 (coden : Nat) (codel : List Int) : (Int × Int × Int) × Nat × List Int × Int × Int := (s_l01BadLine coden codel ((k101_6 coden codel).2.2.2) ((k101_0 coden codel).1) ((k101_2 coden codel).1))
abbrev k101_8 (coden : Nat) (codel : List Int) : (Int × Int × Int) × Nat × List Int × Int × Int := (s_l01BadLine coden codel ((k101_7 coden codel).2.2.2) ((k101_0 coden codel).1) (((k101_2 coden codel).1).1, ((k101_2 coden codel).1).2.1, (k101_5 coden codel).1))
abbrev k101_9 (coden : Nat) (codel : List Int) : Int × Int × Int := (s_l01Normal ((k101_0 coden codel).1) (wI (0 - (((k101_2 coden codel).1).2.1))) (((k101_2 coden codel).1).1) ((k101_5 coden codel).1))
abbrev k101_10 (coden : Nat) (codel : List Int) : (Int × Int × Int) × Nat × List Int × Int × Int := (s_l01BadLine coden codel ((k101_7 coden codel).2.2.2) ((k101_0 coden codel).1) (k101_9 coden codel))
abbrev k101_11 (coden : Nat) (codel : List Int) : Int × Nat × List Int × Int × Int := (s_l01BadField coden codel ((k101_4 coden codel).2.2.2) ((k101_0 coden codel).1))
abbrev k101_12 (coden : Nat) (codel : List Int) : (Int × Int × Int) × Nat × List Int × Int × Int := (s_l01BadLine coden codel ((k101_11 coden codel).2.2.2) ((k101_0 coden codel).1) ((k101_2 coden codel).1))
abbrev k101_13 (coden : Nat) (codel : List Int) : (Int × Int × Int) × Nat × List Int × Int × Int := (s_l01BadLine coden codel ((k101_12 coden codel).2.2.2) ((k101_0 coden codel).1) ((k101_3 coden codel).1))
def S_s_l03Pair : Sums := ⟨tblS [(143, run_s_l01Normal)], tblM [(81, .src run_s_l01From), (144, .box run_s_l01DrawField), (146, .box run_s_l03DrawColour), (90, .box run_s_l01DrawLine), (124, .box run_s_l01Next), (85, .box run_s_l01BadField), (89, .box run_s_l01BadLine)]⟩
theorem SO_s_l03Pair : SumsOK Tryz.prog S_s_l03Pair := ⟨tblS_ok ⟨⟨Tryz.call143, sound_s_l01Normal⟩, True.intro⟩, tblM_ok ⟨⟨Tryz.call81, sound_s_l01From⟩, ⟨Tryz.call144, sound_s_l01DrawField⟩, ⟨Tryz.call146, sound_s_l03DrawColour⟩, ⟨Tryz.call90, sound_s_l01DrawLine⟩, ⟨Tryz.call124, sound_s_l01Next⟩, ⟨Tryz.call85, sound_s_l01BadField⟩, ⟨Tryz.call89, sound_s_l01BadLine⟩, True.intro⟩⟩
def Fo_s_l03Pair (coden : Nat) (codel : List Int) : Option (Int × Int × (Int × Int × Int) × Int × Int × Int) :=
  (if (codeB coden codel) = true then (if (srcB coden codel (s_l01From coden codel)) = true then (if (srcB coden codel ((k101_0 coden codel).2.2.2)) = true then (if (srcB coden codel ((k101_1 coden codel).2.2.2) && prB ((k101_0 coden codel).1)) = true then (if (srcB coden codel ((k101_2 coden codel).2.2.2) && prB ((k101_0 coden codel).1)) = true then (if (srcB coden codel ((k101_3 coden codel).2.2.2)) = true then (if (((k101_4 coden codel).1) == 0) = true then (if (srcB coden codel ((k101_4 coden codel).2.2.2)) = true then (if (srcB coden codel ((k101_5 coden codel).2.2.2) && prB ((k101_0 coden codel).1)) = true then (if (srcB coden codel ((k101_6 coden codel).2.2.2) && prB ((k101_0 coden codel).1)) = true then (if (srcB coden codel ((k101_7 coden codel).2.2.2) && prB ((k101_0 coden codel).1)) = true then some ((k101_6 coden codel).1, (k101_1 coden codel).1, ((k101_7 coden codel).1), ((k101_8 coden codel).1)) else none) else none) else none) else none) else (if (((k101_4 coden codel).1) == 1) = true then (if (srcB coden codel ((k101_4 coden codel).2.2.2)) = true then (if (prB ((k101_0 coden codel).1)) = true then (if (srcB coden codel ((k101_5 coden codel).2.2.2) && prB ((k101_0 coden codel).1)) = true then (if (srcB coden codel ((k101_6 coden codel).2.2.2) && prB ((k101_0 coden codel).1)) = true then (if (srcB coden codel ((k101_7 coden codel).2.2.2) && prB ((k101_0 coden codel).1)) = true then some ((k101_6 coden codel).1, (k101_1 coden codel).1, ((k101_7 coden codel).1), ((k101_10 coden codel).1)) else none) else none) else none) else none) else none) else (if (srcB coden codel ((k101_4 coden codel).2.2.2) && prB ((k101_0 coden codel).1)) = true then (if (srcB coden codel ((k101_11 coden codel).2.2.2) && prB ((k101_0 coden codel).1)) = true then (if (srcB coden codel ((k101_12 coden codel).2.2.2) && prB ((k101_0 coden codel).1)) = true then some ((k101_11 coden codel).1, (k101_1 coden codel).1, ((k101_12 coden codel).1), ((k101_13 coden codel).1)) else none) else none) else none))) else none) else none) else none) else none) else none) else none)
theorem eq_s_l03Pair (coden : Nat) (codel : List Int) : execT Tryz.prog S_s_l03Pair 101 59 (fun _ => 1000000) dec_i_i_a3_a3 [.s coden (.byts codel)] = Fo_s_l03Pair coden codel := by
  kernel_rfl
def s_l03Pair_d (coden : Nat) (codel : List Int) : Int × Int × (Int × Int × Int) × Int × Int × Int :=
  (if (((k101_4 coden codel).1) == 0) = true then ((k101_6 coden codel).1, (k101_1 coden codel).1, ((k101_7 coden codel).1), ((k101_8 coden codel).1)) else (if (((k101_4 coden codel).1) == 1) = true then ((k101_6 coden codel).1, (k101_1 coden codel).1, ((k101_7 coden codel).1), ((k101_10 coden codel).1)) else ((k101_11 coden codel).1, (k101_1 coden codel).1, ((k101_12 coden codel).1), ((k101_13 coden codel).1))))
def s_l03Pair : (Nat) → (List Int) → (Int × Int × (Int × Int × Int) × Int × Int × Int) := shut s_l03Pair_d
theorem s_l03Pair_eq (coden : Nat) (codel : List Int) : s_l03Pair coden codel = s_l03Pair_d coden codel := by
  unfold s_l03Pair
  rw [shut_eq]
theorem tot_s_l03Pair (coden : Nat) (codel : List Int) (hp : (codeB coden codel) = true) : Fo_s_l03Pair coden codel = some (s_l03Pair coden codel) := by
  have hc := hp
  rw [s_l03Pair_eq]
  unfold Fo_s_l03Pair s_l03Pair_d
  (try simp only [wI_eq])
  repeat' (first | with_reducible rfl | refine chk_opt (by first | (with_reducible assumption) | ((repeat (with_reducible first | assumption | exact s_l01From_src hc | apply post_s_l01DrawField | apply post_s_l03DrawColour | apply post_s_l01DrawLine | apply post_s_l01Next | apply post_s_l01BadField | apply post_s_l01BadLine)); done) | (with_reducible exact field_prB9 _ _ _ (by ((repeat (with_reducible first | assumption | exact s_l01From_src hc | apply post_s_l01DrawField | apply post_s_l03DrawColour | apply post_s_l01DrawLine | apply post_s_l01Next | apply post_s_l01BadField | apply post_s_l01BadLine)); done))) | fail | exact pos_idx ‹_› | exact and_two (by ((repeat (with_reducible first | assumption | exact s_l01From_src hc | apply post_s_l01DrawField | apply post_s_l03DrawColour | apply post_s_l01DrawLine | apply post_s_l01Next | apply post_s_l01BadField | apply post_s_l01BadLine)); done)) (by (first | (with_reducible assumption) | with_reducible exact field_prB9 _ _ _ (by ((repeat (with_reducible first | assumption | exact s_l01From_src hc | apply post_s_l01DrawField | apply post_s_l03DrawColour | apply post_s_l01DrawLine | apply post_s_l01Next | apply post_s_l01BadField | apply post_s_l01BadLine)); done)) | fail | rfl)) | exact pos_cell ‹_› (by (first | exact flat2_len _ | exact flat3_len _)) | exact idx_ok (next_rng _ _ _ _ (by ((repeat (with_reducible first | assumption | exact s_l01From_src hc | apply post_s_l01DrawField | apply post_s_l03DrawColour | apply post_s_l01DrawLine | apply post_s_l01Next | apply post_s_l01BadField | apply post_s_l01BadLine)); done)) (by decide)) | exact ble_ok (next_ble _ _ _ _ (by ((repeat (with_reducible first | assumption | exact s_l01From_src hc | apply post_s_l01DrawField | apply post_s_l03DrawColour | apply post_s_l01DrawLine | apply post_s_l01Next | apply post_s_l01BadField | apply post_s_l01BadLine)); done)) (by decide) (by decide)) | exact ble_ok (next_ble0 _ _ _ _ (by ((repeat (with_reducible first | assumption | exact s_l01From_src hc | apply post_s_l01DrawField | apply post_s_l03DrawColour | apply post_s_l01DrawLine | apply post_s_l01Next | apply post_s_l01BadField | apply post_s_l01BadLine)); done)) (by decide) (by decide)) | exact idx_ok (next_rng _ _ _ _ (by ((repeat (with_reducible first | assumption | exact s_l01From_src hc | apply post_s_l01DrawField | apply post_s_l03DrawColour | apply post_s_l01DrawLine | apply post_s_l01Next | apply post_s_l01BadField | apply post_s_l01BadLine)); done)) (pos_one ‹_›)) | exact next_cell (by ((repeat (with_reducible first | assumption | exact s_l01From_src hc | apply post_s_l01DrawField | apply post_s_l03DrawColour | apply post_s_l01DrawLine | apply post_s_l01Next | apply post_s_l01BadField | apply post_s_l01BadLine)); done)) ‹_› (by (first | exact flat2_len _ | exact flat3_len _))) ?_ | refine ite_opt (fun _ => ?_) (fun _ => ?_) | rfl)
def run_s_l03Pair : List PV → Option (Bool × List TR)
  | [.s coden (.byts codel)] => some (codeB coden codel, enc_i_i_a3_a3 (s_l03Pair coden codel))
  | _ => none
theorem sound_s_l03Pair : Sound Tryz.prog 101 run_s_l03Pair := by
  refine sound_of de_i_i_a3_a3 SO_s_l03Pair (by kernel_rfl) Tryz.func101 Tryz.ntmps101 rfl (by kernel_rfl) ?_
  intro W pvs avs rs hargs hrun
  unfold run_s_l03Pair at hrun
  split at hrun
  · simp only [Option.some.injEq, Prod.mk.injEq] at hrun
    obtain ⟨hp, rfl⟩ := hrun
    rename_i coden codel
    exact ⟨_, _, _, hargs, rfl, (eq_s_l03Pair coden codel).trans (tot_s_l03Pair coden codel hp)⟩
  · cases hrun

def S_s_DrawReflectionIn : Sums := ⟨tblS [(101, run_s_l03Pair)], tblM []⟩
theorem SO_s_DrawReflectionIn : SumsOK Tryz.prog S_s_DrawReflectionIn := ⟨tblS_ok ⟨⟨Tryz.call101, sound_s_l03Pair⟩, True.intro⟩, tblM_ok True.intro⟩
def Fo_s_DrawReflectionIn (coden : Nat) (codel : List Int) : Option (Int × Int × Int × Int × Int) :=
  (if (codeB coden codel) = true then some ((s_l03Pair coden codel).1, (s_l03Pair coden codel).2.1, ((s_l03Pair coden codel).2.2.1)) else none)
theorem eq_s_DrawReflectionIn (coden : Nat) (codel : List Int) : execT Tryz.prog S_s_DrawReflectionIn 33 19 (fun _ => 1000000) dec_i_i_a3 [.s coden (.byts codel)] = Fo_s_DrawReflectionIn coden codel := by
  kernel_rfl
def s_DrawReflectionIn_d (coden : Nat) (codel : List Int) : Int × Int × Int × Int × Int :=
  ((s_l03Pair coden codel).1, (s_l03Pair coden codel).2.1, ((s_l03Pair coden codel).2.2.1))
def s_DrawReflectionIn : (Nat) → (List Int) → (Int × Int × Int × Int × Int) := shut s_DrawReflectionIn_d
theorem s_DrawReflectionIn_eq (coden : Nat) (codel : List Int) : s_DrawReflectionIn coden codel = s_DrawReflectionIn_d coden codel := by
  unfold s_DrawReflectionIn
  rw [shut_eq]
theorem tot_s_DrawReflectionIn (coden : Nat) (codel : List Int) (hp : (codeB coden codel) = true) : Fo_s_DrawReflectionIn coden codel = some (s_DrawReflectionIn coden codel) := by
  have hc := hp
  rw [s_DrawReflectionIn_eq]
  unfold Fo_s_DrawReflectionIn s_DrawReflectionIn_d
  (try simp only [wI_eq])
  repeat' (first | with_reducible rfl | refine chk_opt (by first | (with_reducible assumption) | ((repeat (with_reducible first | assumption)); done) | (with_reducible exact field_prB9 _ _ _ (by ((repeat (with_reducible first | assumption)); done))) | fail | exact pos_idx ‹_› | exact and_two (by ((repeat (with_reducible first | assumption)); done)) (by (first | (with_reducible assumption) | with_reducible exact field_prB9 _ _ _ (by ((repeat (with_reducible first | assumption)); done)) | fail | rfl)) | exact pos_cell ‹_› (by (first | exact flat2_len _ | exact flat3_len _)) | exact idx_ok (next_rng _ _ _ _ (by ((repeat (with_reducible first | assumption)); done)) (by decide)) | exact ble_ok (next_ble _ _ _ _ (by ((repeat (with_reducible first | assumption)); done)) (by decide) (by decide)) | exact ble_ok (next_ble0 _ _ _ _ (by ((repeat (with_reducible first | assumption)); done)) (by decide) (by decide)) | exact idx_ok (next_rng _ _ _ _ (by ((repeat (with_reducible first | assumption)); done)) (pos_one ‹_›)) | exact next_cell (by ((repeat (with_reducible first | assumption)); done)) ‹_› (by (first | exact flat2_len _ | exact flat3_len _))) ?_ | refine ite_opt (fun _ => ?_) (fun _ => ?_) | rfl)
def run_s_DrawReflectionIn : List PV → Option (Bool × List TR)
  | [.s coden (.byts codel)] => some (codeB coden codel, enc_i_i_a3 (s_DrawReflectionIn coden codel))
  | _ => none
theorem sound_s_DrawReflectionIn : Sound Tryz.prog 33 run_s_DrawReflectionIn := by
  refine sound_of de_i_i_a3 SO_s_DrawReflectionIn (by kernel_rfl) Tryz.func33 Tryz.ntmps33 rfl (by kernel_rfl) ?_
  intro W pvs avs rs hargs hrun
  unfold run_s_DrawReflectionIn at hrun
  split at hrun
  · simp only [Option.some.injEq, Prod.mk.injEq] at hrun
    obtain ⟨hp, rfl⟩ := hrun
    rename_i coden codel
    exact ⟨_, _, _, hargs, rfl, (eq_s_DrawReflectionIn coden codel).trans (tot_s_DrawReflectionIn coden codel hp)⟩
  · cases hrun

abbrev k115_0 (coden : Nat) (codel : List Int) : Int × Nat × List Int × Int × Int := (s_l01DrawField coden codel (s_l01From coden codel))
abbrev k115_1 (coden : Nat) (codel : List Int) : Int × Nat × List Int × Int × Int := (s_l03DrawColour coden codel ((k115_0 coden codel).2.2.2))
abbrev k115_2 (coden : Nat) (codel : List Int) : (Int × Int) × Nat × List Int × Int × Int := (s_l01DrawPoint coden codel ((k115_1 coden codel).2.2.2) ((k115_0 coden codel).1))
abbrev k115_3 (coden : Nat) (codel : List Int) : (Int × Int) × Nat × List Int × Int × Int := (s_l01DrawPoint coden codel ((k115_2 coden codel).2.2.2) ((k115_0 coden codel).1))
abbrev k115_4 (coden : Nat) (codel : List Int) : (Int × Int) × Nat × List Int × Int × Int := (s_l01DrawPoint coden codel ((k115_3 coden codel).2.2.2) ((k115_0 coden codel).1))
abbrev k115_5 (coden : Nat) (codel : List Int) : Int × Nat × List Int × Int × Int := (s_l01Next coden codel ((k115_4 coden codel).2.2.2) 8)
abbrev k115_6 (coden : Nat) (codel : List Int) : Int × Nat × List Int × Int × Int := (s_l01Next coden codel ((k115_5 coden codel).2.2.2) ((k115_0 coden codel).1))
abbrev k115_7 (coden : Nat) (codel : List Int) : Int × Int := (s_l01Minus ((k115_0 coden codel).1) ((k115_3 coden codel).1) ((k115_2 coden codel).1))
abbrev k115_8 (coden : Nat) (codel : List Int) : Int × Int := (s_l01Times ((k115_0 coden codel).1) ((k115_6 coden codel).1) (k115_7 coden codel))
abbrev k115_9 (coden : Nat) (codel : List Int) : Int × Int := (s_l01Plus ((k115_0 coden codel).1) ((k115_2 coden codel).1) (k115_8 coden codel))
abbrev k115_10 (coden : Nat) (codel : List Int) : Int × Nat × List Int × Int × Int := (s_l01BadField coden codel ((k115_6 coden codel).2.2.2) ((k115_0 coden codel).1))
abbrev k115_11 (coden : Nat) (codel : List Int) : (Int × Int) × Nat × List Int × Int × Int := (s_l01BadPoint coden codel ((k115_10 coden codel).2.2.2) ((k115_0 coden codel).1) ((k115_2 coden codel).1))
abbrev k115_12 (coden : Nat) (codel : List Int) : (Int × Int) × Nat × List Int × Int × Int := (s_l01BadPoint coden codel ((k115_11 coden codel).2.2.2) ((k115_0 coden codel).1) ((k115_3 coden codel).1))
abbrev k115_13 (coden : Nat) (codel : List Int) : (Int × Int) × Nat × List Int × Int × Int := (s_l01BadPoint coden codel ((k115_12 coden codel).2.2.2) ((k115_0 coden codel).1) (k115_9 coden codel))
abbrev k115_14 (coden : Nat) (codel : List Int) : Int × Nat × List Int × Int × Int := (s_l01BadField coden codel ((k115_5 coden codel).2.2.2) ((k115_0 coden codel).1))
abbrev k115_15 (coden : Nat) (codel : List Int) : (Int × Int) × Nat × List Int × Int × Int := (s_l01BadPoint coden codel ((k115_14 coden codel).2.2.2) ((k115_0 coden codel).1) ((k115_2 coden codel).1))
abbrev k115_16 (coden : Nat) (codel : List Int) : (Int × Int) × Nat × List Int × Int × Int := (s_l01BadPoint coden codel ((k115_15 coden codel).2.2.2) ((k115_0 coden codel).1) ((k115_2 coden codel).1))
abbrev k115_17 (coden : Nat) (codel : List Int) : (Int × Int) × Nat × List Int × Int × Int := (s_l01BadPoint coden codel ((k115_16 coden codel).2.2.2) ((k115_0 coden codel).1) ((k115_4 coden codel).1))
abbrev k115_18 (coden : Nat) (codel : List Int) : (Int × Int) × Nat × List Int × Int × Int := (s_l01BadPoint coden codel ((k115_15 coden codel).2.2.2) ((k115_0 coden codel).1) ((k115_3 coden codel).1))
abbrev k115_19 (coden : Nat) (codel : List Int) : (Int × Int) × Nat × List Int × Int × Int := (s_l01BadPoint coden codel ((k115_18 coden codel).2.2.2) ((k115_0 coden codel).1) ((k115_4 coden codel).1))
def S_s_l03Three : Sums := ⟨tblS [(129, run_s_l01Minus), (155, run_s_l01Times), (141, run_s_l01Plus)], tblM [(81, .src run_s_l01From), (144, .box run_s_l01DrawField), (146, .box run_s_l03DrawColour), (84, .box run_s_l01DrawPoint), (124, .box run_s_l01Next), (85, .box run_s_l01BadField), (83, .box run_s_l01BadPoint)]⟩
theorem SO_s_l03Three : SumsOK Tryz.prog S_s_l03Three := ⟨tblS_ok ⟨⟨Tryz.call129, sound_s_l01Minus⟩, ⟨Tryz.call155, sound_s_l01Times⟩, ⟨Tryz.call141, sound_s_l01Plus⟩, True.intro⟩, tblM_ok ⟨⟨Tryz.call81, sound_s_l01From⟩, ⟨Tryz.call144, sound_s_l01DrawField⟩, ⟨Tryz.call146, sound_s_l03DrawColour⟩, ⟨Tryz.call84, sound_s_l01DrawPoint⟩, ⟨Tryz.call124, sound_s_l01Next⟩, ⟨Tryz.call85, sound_s_l01BadField⟩, ⟨Tryz.call83, sound_s_l01BadPoint⟩, True.intro⟩⟩
def Fo_s_l03Three (coden : Nat) (codel : List Int) : Option (Int × Int × (Int × Int) × (Int × Int) × Int × Int) :=
  (if (codeB coden codel) = true then (if (srcB coden codel (s_l01From coden codel)) = true then (if (srcB coden codel ((k115_0 coden codel).2.2.2)) = true then (if (srcB coden codel ((k115_1 coden codel).2.2.2) && prB ((k115_0 coden codel).1)) = true then (if (srcB coden codel ((k115_2 coden codel).2.2.2) && prB ((k115_0 coden codel).1)) = true then (if (srcB coden codel ((k115_3 coden codel).2.2.2) && prB ((k115_0 coden codel).1)) = true then (if (srcB coden codel ((k115_4 coden codel).2.2.2)) = true then (if (((k115_5 coden codel).1) == 0) = true then (if (srcB coden codel ((k115_5 coden codel).2.2.2)) = true then (if (prB ((k115_0 coden codel).1)) = true then (if (prB ((k115_0 coden codel).1)) = true then (if (prB ((k115_0 coden codel).1)) = true then (if (srcB coden codel ((k115_6 coden codel).2.2.2) && prB ((k115_0 coden codel).1)) = true then (if (srcB coden codel ((k115_10 coden codel).2.2.2) && prB ((k115_0 coden codel).1)) = true then (if (srcB coden codel ((k115_11 coden codel).2.2.2) && prB ((k115_0 coden codel).1)) = true then (if (srcB coden codel ((k115_12 coden codel).2.2.2) && prB ((k115_0 coden codel).1)) = true then some ((k115_10 coden codel).1, (k115_1 coden codel).1, ((k115_11 coden codel).1), ((k115_12 coden codel).1), ((k115_13 coden codel).1)) else none) else none) else none) else none) else none) else none) else none) else none) else (if (((k115_5 coden codel).1) == 1) = true then (if (srcB coden codel ((k115_5 coden codel).2.2.2) && prB ((k115_0 coden codel).1)) = true then (if (srcB coden codel ((k115_14 coden codel).2.2.2) && prB ((k115_0 coden codel).1)) = true then (if (srcB coden codel ((k115_15 coden codel).2.2.2) && prB ((k115_0 coden codel).1)) = true then (if (srcB coden codel ((k115_16 coden codel).2.2.2) && prB ((k115_0 coden codel).1)) = true then some ((k115_14 coden codel).1, (k115_1 coden codel).1, ((k115_15 coden codel).1), ((k115_16 coden codel).1), ((k115_17 coden codel).1)) else none) else none) else none) else none) else (if (srcB coden codel ((k115_5 coden codel).2.2.2) && prB ((k115_0 coden codel).1)) = true then (if (srcB coden codel ((k115_14 coden codel).2.2.2) && prB ((k115_0 coden codel).1)) = true then (if (srcB coden codel ((k115_15 coden codel).2.2.2) && prB ((k115_0 coden codel).1)) = true then (if (srcB coden codel ((k115_18 coden codel).2.2.2) && prB ((k115_0 coden codel).1)) = true then some ((k115_14 coden codel).1, (k115_1 coden codel).1, ((k115_15 coden codel).1), ((k115_18 coden codel).1), ((k115_19 coden codel).1)) else none) else none) else none) else none))) else none) else none) else none) else none) else none) else none) else none)
theorem eq_s_l03Three (coden : Nat) (codel : List Int) : execT Tryz.prog S_s_l03Three 115 63 (fun _ => 1000000) dec_i_i_a2_a2_a2 [.s coden (.byts codel)] = Fo_s_l03Three coden codel := by
  kernel_rfl
def s_l03Three_d (coden : Nat) (codel : List Int) : Int × Int × (Int × Int) × (Int × Int) × Int × Int :=
  (if (((k115_5 coden codel).1) == 0) = true then ((k115_10 coden codel).1, (k115_1 coden codel).1, ((k115_11 coden codel).1), ((k115_12 coden codel).1), ((k115_13 coden codel).1)) else (if (((k115_5 coden codel).1) == 1) = true then ((k115_14 coden codel).1, (k115_1 coden codel).1, ((k115_15 coden codel).1), ((k115_16 coden codel).1), ((k115_17 coden codel).1)) else ((k115_14 coden codel).1, (k115_1 coden codel).1, ((k115_15 coden codel).1), ((k115_18 coden codel).1), ((k115_19 coden codel).1))))
def s_l03Three : (Nat) → (List Int) → (Int × Int × (Int × Int) × (Int × Int) × Int × Int) := shut s_l03Three_d
theorem s_l03Three_eq (coden : Nat) (codel : List Int) : s_l03Three coden codel = s_l03Three_d coden codel := by
  unfold s_l03Three
  rw [shut_eq]
theorem tot_s_l03Three (coden : Nat) (codel : List Int) (hp : (codeB coden codel) = true) : Fo_s_l03Three coden codel = some (s_l03Three coden codel) := by
  have hc := hp
  rw [s_l03Three_eq]
  unfold Fo_s_l03Three s_l03Three_d
  (try simp only [wI_eq])
  repeat' (first | with_reducible rfl | refine chk_opt (by first | (with_reducible assumption) | ((repeat (with_reducible first | assumption | exact s_l01From_src hc | apply post_s_l01DrawField | apply post_s_l03DrawColour | apply post_s_l01DrawPoint | apply post_s_l01Next | apply post_s_l01BadField | apply post_s_l01BadPoint)); done) | (with_reducible exact field_prB9 _ _ _ (by ((repeat (with_reducible first | assumption | exact s_l01From_src hc | apply post_s_l01DrawField | apply post_s_l03DrawColour | apply post_s_l01DrawPoint | apply post_s_l01Next | apply post_s_l01BadField | apply post_s_l01BadPoint)); done))) | fail | exact pos_idx ‹_› | exact and_two (by ((repeat (with_reducible first | assumption | exact s_l01From_src hc | apply post_s_l01DrawField | apply post_s_l03DrawColour | apply post_s_l01DrawPoint | apply post_s_l01Next | apply post_s_l01BadField | apply post_s_l01BadPoint)); done)) (by (first | (with_reducible assumption) | with_reducible exact field_prB9 _ _ _ (by ((repeat (with_reducible first | assumption | exact s_l01From_src hc | apply post_s_l01DrawField | apply post_s_l03DrawColour | apply post_s_l01DrawPoint | apply post_s_l01Next | apply post_s_l01BadField | apply post_s_l01BadPoint)); done)) | fail | rfl)) | exact pos_cell ‹_› (by (first | exact flat2_len _ | exact flat3_len _)) | exact idx_ok (next_rng _ _ _ _ (by ((repeat (with_reducible first | assumption | exact s_l01From_src hc | apply post_s_l01DrawField | apply post_s_l03DrawColour | apply post_s_l01DrawPoint | apply post_s_l01Next | apply post_s_l01BadField | apply post_s_l01BadPoint)); done)) (by decide)) | exact ble_ok (next_ble _ _ _ _ (by ((repeat (with_reducible first | assumption | exact s_l01From_src hc | apply post_s_l01DrawField | apply post_s_l03DrawColour | apply post_s_l01DrawPoint | apply post_s_l01Next | apply post_s_l01BadField | apply post_s_l01BadPoint)); done)) (by decide) (by decide)) | exact ble_ok (next_ble0 _ _ _ _ (by ((repeat (with_reducible first | assumption | exact s_l01From_src hc | apply post_s_l01DrawField | apply post_s_l03DrawColour | apply post_s_l01DrawPoint | apply post_s_l01Next | apply post_s_l01BadField | apply post_s_l01BadPoint)); done)) (by decide) (by decide)) | exact idx_ok (next_rng _ _ _ _ (by ((repeat (with_reducible first | assumption | exact s_l01From_src hc | apply post_s_l01DrawField | apply post_s_l03DrawColour | apply post_s_l01DrawPoint | apply post_s_l01Next | apply post_s_l01BadField | apply post_s_l01BadPoint)); done)) (pos_one ‹_›)) | exact next_cell (by ((repeat (with_reducible first | assumption | exact s_l01From_src hc | apply post_s_l01DrawField | apply post_s_l03DrawColour | apply post_s_l01DrawPoint | apply post_s_l01Next | apply post_s_l01BadField | apply post_s_l01BadPoint)); done)) ‹_› (by (first | exact flat2_len _ | exact flat3_len _))) ?_ | refine ite_opt (fun _ => ?_) (fun _ => ?_) | rfl)
def run_s_l03Three : List PV → Option (Bool × List TR)
  | [.s coden (.byts codel)] => some (codeB coden codel, enc_i_i_a2_a2_a2 (s_l03Three coden codel))
  | _ => none
theorem sound_s_l03Three : Sound Tryz.prog 115 run_s_l03Three := by
  refine sound_of de_i_i_a2_a2_a2 SO_s_l03Three (by kernel_rfl) Tryz.func115 Tryz.ntmps115 rfl (by kernel_rfl) ?_
  intro W pvs avs rs hargs hrun
  unfold run_s_l03Three at hrun
  split at hrun
  · simp only [Option.some.injEq, Prod.mk.injEq] at hrun
    obtain ⟨hp, rfl⟩ := hrun
    rename_i coden codel
    exact ⟨_, _, _, hargs, rfl, (eq_s_l03Three coden codel).trans (tot_s_l03Three coden codel hp)⟩
  · cases hrun

def S_s_DrawTurnsAbout : Sums := ⟨tblS [(115, run_s_l03Three)], tblM []⟩
theorem SO_s_DrawTurnsAbout : SumsOK Tryz.prog S_s_DrawTurnsAbout := ⟨tblS_ok ⟨⟨Tryz.call115, sound_s_l03Three⟩, True.intro⟩, tblM_ok True.intro⟩
def Fo_s_DrawTurnsAbout (coden : Nat) (codel : List Int) : Option (Int × Int × Int × Int) :=
  (if (codeB coden codel) = true then some ((s_l03Three coden codel).1, (s_l03Three coden codel).2.1, ((s_l03Three coden codel).2.2.1)) else none)
theorem eq_s_DrawTurnsAbout (coden : Nat) (codel : List Int) : execT Tryz.prog S_s_DrawTurnsAbout 37 21 (fun _ => 1000000) dec_i_i_a2 [.s coden (.byts codel)] = Fo_s_DrawTurnsAbout coden codel := by
  kernel_rfl
def s_DrawTurnsAbout_d (coden : Nat) (codel : List Int) : Int × Int × Int × Int :=
  ((s_l03Three coden codel).1, (s_l03Three coden codel).2.1, ((s_l03Three coden codel).2.2.1))
def s_DrawTurnsAbout : (Nat) → (List Int) → (Int × Int × Int × Int) := shut s_DrawTurnsAbout_d
theorem s_DrawTurnsAbout_eq (coden : Nat) (codel : List Int) : s_DrawTurnsAbout coden codel = s_DrawTurnsAbout_d coden codel := by
  unfold s_DrawTurnsAbout
  rw [shut_eq]
theorem tot_s_DrawTurnsAbout (coden : Nat) (codel : List Int) (hp : (codeB coden codel) = true) : Fo_s_DrawTurnsAbout coden codel = some (s_DrawTurnsAbout coden codel) := by
  have hc := hp
  rw [s_DrawTurnsAbout_eq]
  unfold Fo_s_DrawTurnsAbout s_DrawTurnsAbout_d
  (try simp only [wI_eq])
  repeat' (first | with_reducible rfl | refine chk_opt (by first | (with_reducible assumption) | ((repeat (with_reducible first | assumption)); done) | (with_reducible exact field_prB9 _ _ _ (by ((repeat (with_reducible first | assumption)); done))) | fail | exact pos_idx ‹_› | exact and_two (by ((repeat (with_reducible first | assumption)); done)) (by (first | (with_reducible assumption) | with_reducible exact field_prB9 _ _ _ (by ((repeat (with_reducible first | assumption)); done)) | fail | rfl)) | exact pos_cell ‹_› (by (first | exact flat2_len _ | exact flat3_len _)) | exact idx_ok (next_rng _ _ _ _ (by ((repeat (with_reducible first | assumption)); done)) (by decide)) | exact ble_ok (next_ble _ _ _ _ (by ((repeat (with_reducible first | assumption)); done)) (by decide) (by decide)) | exact ble_ok (next_ble0 _ _ _ _ (by ((repeat (with_reducible first | assumption)); done)) (by decide) (by decide)) | exact idx_ok (next_rng _ _ _ _ (by ((repeat (with_reducible first | assumption)); done)) (pos_one ‹_›)) | exact next_cell (by ((repeat (with_reducible first | assumption)); done)) ‹_› (by (first | exact flat2_len _ | exact flat3_len _))) ?_ | refine ite_opt (fun _ => ?_) (fun _ => ?_) | rfl)
def run_s_DrawTurnsAbout : List PV → Option (Bool × List TR)
  | [.s coden (.byts codel)] => some (codeB coden codel, enc_i_i_a2 (s_DrawTurnsAbout coden codel))
  | _ => none
theorem sound_s_DrawTurnsAbout : Sound Tryz.prog 37 run_s_DrawTurnsAbout := by
  refine sound_of de_i_i_a2 SO_s_DrawTurnsAbout (by kernel_rfl) Tryz.func37 Tryz.ntmps37 rfl (by kernel_rfl) ?_
  intro W pvs avs rs hargs hrun
  unfold run_s_DrawTurnsAbout at hrun
  split at hrun
  · simp only [Option.some.injEq, Prod.mk.injEq] at hrun
    obtain ⟨hp, rfl⟩ := hrun
    rename_i coden codel
    exact ⟨_, _, _, hargs, rfl, (eq_s_DrawTurnsAbout coden codel).trans (tot_s_DrawTurnsAbout coden codel hp)⟩
  · cases hrun

abbrev k43_0 (coden : Nat) (codel : List Int) : Int × Nat × List Int × Int × Int := (s_l01Pick coden codel (s_l01From coden codel) 6 [3, 5, 7, 7, 11, 13])
abbrev k43_1 (coden : Nat) (codel : List Int) : Int × Nat × List Int × Int × Int := (s_l01Next coden codel ((k43_0 coden codel).2.2.2) 3)
abbrev k43_2 (coden : Nat) (codel : List Int) : (Int × Int) × Nat × List Int × Int × Int := (s_l01DrawPoint coden codel ((k43_1 coden codel).2.2.2) ((k43_0 coden codel).1))
abbrev k43_3 (coden : Nat) (codel : List Int) : (Int × Int) × Nat × List Int × Int × Int := (s_l01DrawPoint coden codel ((k43_2 coden codel).2.2.2) ((k43_0 coden codel).1))
abbrev k43_4 (coden : Nat) (codel : List Int) : (Int × Int × Int × Int × Int × Int) × Nat × List Int × Int × Int := (s_l07DrawOf coden codel ((k43_3 coden codel).2.2.2) ((k43_0 coden codel).1) ((k43_1 coden codel).1))
abbrev k43_5 (coden : Nat) (codel : List Int) : Int × Int := (s_l07Move ((k43_0 coden codel).1) ((k43_4 coden codel).1) ((k43_2 coden codel).1))
abbrev k43_6 (coden : Nat) (codel : List Int) : Int × Int := (s_l07Move ((k43_0 coden codel).1) ((k43_4 coden codel).1) ((k43_3 coden codel).1))
abbrev k43_7 (coden : Nat) (codel : List Int) : Int × Nat × List Int × Int × Int := (s_l01Next coden codel ((k43_4 coden codel).2.2.2) 6)
abbrev k43_8 (coden : Nat) (codel : List Int) : (Int × Int) × Nat × List Int × Int × Int := (s_l01DrawPoint coden codel ((k43_7 coden codel).2.2.2) ((k43_0 coden codel).1))
abbrev k43_9 (coden : Nat) (codel : List Int) : Int × Nat × List Int × Int × Int := (s_l01BadField coden codel ((k43_8 coden codel).2.2.2) ((k43_0 coden codel).1))
abbrev k43_10 (coden : Nat) (codel : List Int) : (Int × Int) × Nat × List Int × Int × Int := (s_l01BadPoint coden codel ((k43_9 coden codel).2.2.2) ((k43_0 coden codel).1) ((k43_2 coden codel).1))
abbrev k43_11 (coden : Nat) (codel : List Int) : (Int × Int) × Nat × List Int × Int × Int := (s_l01BadPoint coden codel ((k43_10 coden codel).2.2.2) ((k43_0 coden codel).1) ((k43_3 coden codel).1))
abbrev k43_12 (coden : Nat) (codel : List Int) : Int × Nat × List Int × Int × Int := (s_l01BadField coden codel ((k43_7 coden codel).2.2.2) ((k43_0 coden codel).1))
abbrev k43_13 (coden : Nat) (codel : List Int) : (Int × Int) × Nat × List Int × Int × Int := (s_l01BadPoint coden codel ((k43_12 coden codel).2.2.2) ((k43_0 coden codel).1) ((k43_2 coden codel).1))
abbrev k43_14 (coden : Nat) (codel : List Int) : (Int × Int) × Nat × List Int × Int × Int := (s_l01BadPoint coden codel ((k43_13 coden codel).2.2.2) ((k43_0 coden codel).1) ((k43_3 coden codel).1))
def S_s_DrawMovesBetween : Sums := ⟨tblS [(88, run_s_l07Move)], tblM [(81, .src run_s_l01From), (123, .box run_s_l01Pick), (124, .box run_s_l01Next), (84, .box run_s_l01DrawPoint), (98, .box run_s_l07DrawOf), (85, .box run_s_l01BadField), (83, .box run_s_l01BadPoint)]⟩
theorem SO_s_DrawMovesBetween : SumsOK Tryz.prog S_s_DrawMovesBetween := ⟨tblS_ok ⟨⟨Tryz.call88, sound_s_l07Move⟩, True.intro⟩, tblM_ok ⟨⟨Tryz.call81, sound_s_l01From⟩, ⟨Tryz.call123, sound_s_l01Pick⟩, ⟨Tryz.call124, sound_s_l01Next⟩, ⟨Tryz.call84, sound_s_l01DrawPoint⟩, ⟨Tryz.call98, sound_s_l07DrawOf⟩, ⟨Tryz.call85, sound_s_l01BadField⟩, ⟨Tryz.call83, sound_s_l01BadPoint⟩, True.intro⟩⟩
def Fo_s_DrawMovesBetween (coden : Nat) (codel : List Int) : Option (Int × Int × (Int × Int) × (Int × Int) × (Int × Int) × Int × Int) :=
  (if (codeB coden codel) = true then (if (srcB coden codel (s_l01From coden codel) && (lenB 6 1 ([3, 5, 7, 7, 11, 13]) && Nat.blt 0 6)) = true then (if (srcB coden codel ((k43_0 coden codel).2.2.2)) = true then (if (srcB coden codel ((k43_1 coden codel).2.2.2) && prB ((k43_0 coden codel).1)) = true then (if (srcB coden codel ((k43_2 coden codel).2.2.2) && prB ((k43_0 coden codel).1)) = true then (if (srcB coden codel ((k43_3 coden codel).2.2.2) && drB ((k43_0 coden codel).1) ((k43_1 coden codel).1)) = true then (if (prB ((k43_0 coden codel).1)) = true then (if (prB ((k43_0 coden codel).1)) = true then (if (srcB coden codel ((k43_4 coden codel).2.2.2)) = true then (if (((k43_7 coden codel).1) == 0) = true then (if (srcB coden codel ((k43_7 coden codel).2.2.2) && prB ((k43_0 coden codel).1)) = true then (if (srcB coden codel ((k43_8 coden codel).2.2.2) && prB ((k43_0 coden codel).1)) = true then (if (srcB coden codel ((k43_9 coden codel).2.2.2) && prB ((k43_0 coden codel).1)) = true then (if (srcB coden codel ((k43_10 coden codel).2.2.2) && prB ((k43_0 coden codel).1)) = true then some ((k43_9 coden codel).1, (k43_1 coden codel).1, ((k43_10 coden codel).1), ((k43_11 coden codel).1), (k43_5 coden codel), ((k43_8 coden codel).1)) else none) else none) else none) else none) else (if (srcB coden codel ((k43_7 coden codel).2.2.2) && prB ((k43_0 coden codel).1)) = true then (if (srcB coden codel ((k43_12 coden codel).2.2.2) && prB ((k43_0 coden codel).1)) = true then (if (srcB coden codel ((k43_13 coden codel).2.2.2) && prB ((k43_0 coden codel).1)) = true then some ((k43_12 coden codel).1, (k43_1 coden codel).1, ((k43_13 coden codel).1), ((k43_14 coden codel).1), (k43_5 coden codel), (k43_6 coden codel)) else none) else none) else none)) else none) else none) else none) else none) else none) else none) else none) else none) else none)
theorem eq_s_DrawMovesBetween (coden : Nat) (codel : List Int) : execT Tryz.prog S_s_DrawMovesBetween 43 61 (fun _ => 1000000) dec_i_i_a2_a2_a2_a2 [.s coden (.byts codel)] = Fo_s_DrawMovesBetween coden codel := by
  kernel_rfl
def s_DrawMovesBetween_d (coden : Nat) (codel : List Int) : Int × Int × (Int × Int) × (Int × Int) × (Int × Int) × Int × Int :=
  (if (((k43_7 coden codel).1) == 0) = true then ((k43_9 coden codel).1, (k43_1 coden codel).1, ((k43_10 coden codel).1), ((k43_11 coden codel).1), (k43_5 coden codel), ((k43_8 coden codel).1)) else ((k43_12 coden codel).1, (k43_1 coden codel).1, ((k43_13 coden codel).1), ((k43_14 coden codel).1), (k43_5 coden codel), (k43_6 coden codel)))
def s_DrawMovesBetween : (Nat) → (List Int) → (Int × Int × (Int × Int) × (Int × Int) × (Int × Int) × Int × Int) := shut s_DrawMovesBetween_d
theorem s_DrawMovesBetween_eq (coden : Nat) (codel : List Int) : s_DrawMovesBetween coden codel = s_DrawMovesBetween_d coden codel := by
  unfold s_DrawMovesBetween
  rw [shut_eq]
theorem tot_s_DrawMovesBetween (coden : Nat) (codel : List Int) (hp : (codeB coden codel) = true) : Fo_s_DrawMovesBetween coden codel = some (s_DrawMovesBetween coden codel) := by
  have hc := hp
  rw [s_DrawMovesBetween_eq]
  unfold Fo_s_DrawMovesBetween s_DrawMovesBetween_d
  (try simp only [wI_eq])
  repeat' (first | with_reducible rfl | refine chk_opt (by first | (with_reducible assumption) | ((repeat (with_reducible first | assumption | exact s_l01From_src hc | apply post_s_l01Pick | apply post_s_l01Next | apply post_s_l01DrawPoint | apply post_s_l07DrawOf | apply post_s_l01BadField | apply post_s_l01BadPoint)); done) | (with_reducible exact field_prB9 _ _ _ (by ((repeat (with_reducible first | assumption | exact s_l01From_src hc | apply post_s_l01Pick | apply post_s_l01Next | apply post_s_l01DrawPoint | apply post_s_l07DrawOf | apply post_s_l01BadField | apply post_s_l01BadPoint)); done))) | fail | exact and_two (by ((repeat (with_reducible first | assumption | exact s_l01From_src hc | apply post_s_l01Pick | apply post_s_l01Next | apply post_s_l01DrawPoint | apply post_s_l07DrawOf | apply post_s_l01BadField | apply post_s_l01BadPoint)); done)) (pick_prBN _ _ _ (by ((repeat (with_reducible first | assumption | exact s_l01From_src hc | apply post_s_l01Pick | apply post_s_l01Next | apply post_s_l01DrawPoint | apply post_s_l07DrawOf | apply post_s_l01BadField | apply post_s_l01BadPoint)); done))) | exact and_two (by ((repeat (with_reducible first | assumption | exact s_l01From_src hc | apply post_s_l01Pick | apply post_s_l01Next | apply post_s_l01DrawPoint | apply post_s_l07DrawOf | apply post_s_l01BadField | apply post_s_l01BadPoint)); done)) (pickN_drB _ _ _ _ (by ((repeat (with_reducible first | assumption | exact s_l01From_src hc | apply post_s_l01Pick | apply post_s_l01Next | apply post_s_l01DrawPoint | apply post_s_l07DrawOf | apply post_s_l01BadField | apply post_s_l01BadPoint)); done)) (by ((repeat (with_reducible first | assumption | exact s_l01From_src hc | apply post_s_l01Pick | apply post_s_l01Next | apply post_s_l01DrawPoint | apply post_s_l07DrawOf | apply post_s_l01BadField | apply post_s_l01BadPoint)); done))) | exact pick_prBN _ _ _ (by ((repeat (with_reducible first | assumption | exact s_l01From_src hc | apply post_s_l01Pick | apply post_s_l01Next | apply post_s_l01DrawPoint | apply post_s_l07DrawOf | apply post_s_l01BadField | apply post_s_l01BadPoint)); done)) | exact pos_idx ‹_› | exact and_two (by ((repeat (with_reducible first | assumption | exact s_l01From_src hc | apply post_s_l01Pick | apply post_s_l01Next | apply post_s_l01DrawPoint | apply post_s_l07DrawOf | apply post_s_l01BadField | apply post_s_l01BadPoint)); done)) (by (first | (with_reducible assumption) | with_reducible exact field_prB9 _ _ _ (by ((repeat (with_reducible first | assumption | exact s_l01From_src hc | apply post_s_l01Pick | apply post_s_l01Next | apply post_s_l01DrawPoint | apply post_s_l07DrawOf | apply post_s_l01BadField | apply post_s_l01BadPoint)); done)) | fail | rfl)) | exact pos_cell ‹_› (by (first | exact flat2_len _ | exact flat3_len _)) | exact idx_ok (next_rng _ _ _ _ (by ((repeat (with_reducible first | assumption | exact s_l01From_src hc | apply post_s_l01Pick | apply post_s_l01Next | apply post_s_l01DrawPoint | apply post_s_l07DrawOf | apply post_s_l01BadField | apply post_s_l01BadPoint)); done)) (by decide)) | exact ble_ok (next_ble _ _ _ _ (by ((repeat (with_reducible first | assumption | exact s_l01From_src hc | apply post_s_l01Pick | apply post_s_l01Next | apply post_s_l01DrawPoint | apply post_s_l07DrawOf | apply post_s_l01BadField | apply post_s_l01BadPoint)); done)) (by decide) (by decide)) | exact ble_ok (next_ble0 _ _ _ _ (by ((repeat (with_reducible first | assumption | exact s_l01From_src hc | apply post_s_l01Pick | apply post_s_l01Next | apply post_s_l01DrawPoint | apply post_s_l07DrawOf | apply post_s_l01BadField | apply post_s_l01BadPoint)); done)) (by decide) (by decide)) | exact idx_ok (next_rng _ _ _ _ (by ((repeat (with_reducible first | assumption | exact s_l01From_src hc | apply post_s_l01Pick | apply post_s_l01Next | apply post_s_l01DrawPoint | apply post_s_l07DrawOf | apply post_s_l01BadField | apply post_s_l01BadPoint)); done)) (pos_one ‹_›)) | exact next_cell (by ((repeat (with_reducible first | assumption | exact s_l01From_src hc | apply post_s_l01Pick | apply post_s_l01Next | apply post_s_l01DrawPoint | apply post_s_l07DrawOf | apply post_s_l01BadField | apply post_s_l01BadPoint)); done)) ‹_› (by (first | exact flat2_len _ | exact flat3_len _))) ?_ | refine ite_opt (fun _ => ?_) (fun _ => ?_) | rfl)
def run_s_DrawMovesBetween : List PV → Option (Bool × List TR)
  | [.s coden (.byts codel)] => some (codeB coden codel, enc_i_i_a2_a2_a2_a2 (s_DrawMovesBetween coden codel))
  | _ => none
theorem sound_s_DrawMovesBetween : Sound Tryz.prog 43 run_s_DrawMovesBetween := by
  refine sound_of de_i_i_a2_a2_a2_a2 SO_s_DrawMovesBetween (by kernel_rfl) Tryz.func43 Tryz.ntmps43 rfl (by kernel_rfl) ?_
  intro W pvs avs rs hargs hrun
  unfold run_s_DrawMovesBetween at hrun
  split at hrun
  · simp only [Option.some.injEq, Prod.mk.injEq] at hrun
    obtain ⟨hp, rfl⟩ := hrun
    rename_i coden codel
    exact ⟨_, _, _, hargs, rfl, (eq_s_DrawMovesBetween coden codel).trans (tot_s_DrawMovesBetween coden codel hp)⟩
  · cases hrun


end

end Go.Proofs.YtoblkbpejfojjaaGreatDoor
