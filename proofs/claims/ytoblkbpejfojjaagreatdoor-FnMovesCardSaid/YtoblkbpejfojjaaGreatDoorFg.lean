import Derived.Test.YtoblkbpejfojjaaGreatDoorFb
import Derived.Test.YtoblkbpejfojjaaGreatDoorFd
import Derived.Test.YtoblkbpejfojjaaGreatDoorProg
set_option linter.unusedSimpArgs false
set_option linter.unusedVariables false
namespace Go.Proofs.YtoblkbpejfojjaaGreatDoor
open Go.RowKit
noncomputable section
def dec_P142_a6 : List Value × List BC → Option ((Int × Int × Int × Int × Int × Int) × Nat × List Int × Int × Int)
  | ([.agg ⟨[.int .i64 x0_0, .int .i64 x0_1, .int .i64 x0_2, .int .i64 x0_3, .int .i64 x0_4, .int .i64 x0_5]⟩], [.s cn (.byts cl), .v (.int .i64 c_1), .v (.int .u64 c_2)]) => some ((x0_0, x0_1, x0_2, x0_3, x0_4, x0_5), cn, cl, c_1, c_2)
  | _ => none
def enc_P142_a6 : (Int × Int × Int × Int × Int × Int) × Nat × List Int × Int × Int → List Value × List BC
  | ((x0_0, x0_1, x0_2, x0_3, x0_4, x0_5), cn, cl, c_1, c_2) => ([.agg ⟨[.int .i64 x0_0, .int .i64 x0_1, .int .i64 x0_2, .int .i64 x0_3, .int .i64 x0_4, .int .i64 x0_5]⟩], [.s cn (.byts cl), .v (.int .i64 c_1), .v (.int .u64 c_2)])
theorem de_P142_a6 (rs : List Value × List BC) (x : (Int × Int × Int × Int × Int × Int) × Nat × List Int × Int × Int) (h : dec_P142_a6 rs = some x) : rs = enc_P142_a6 x := by
  unfold dec_P142_a6 at h
  split at h
  · simp only [Option.some.injEq] at h
    subst h
    rfl
  · cases h
abbrev k98_0 (sn : Nat) (sl : List Int) (ss : Int × Int) (p : Int) (colour : Int) : Int × Nat × List Int × Int × Int := (s_l01Pick sn sl ss 3 [1, 1, (-1)])
abbrev k98_1 (sn : Nat) (sl : List Int) (ss : Int × Int) (p : Int) (colour : Int) : Nat × List Int := (s_l07All p colour ((k98_0 sn sl ss p colour).1))
abbrev k98_2 (sn : Nat) (sl : List Int) (ss : Int × Int) (p : Int) (colour : Int) : Int × Nat × List Int × Int × Int := (s_l01Next sn sl ((k98_0 sn sl ss p colour).2.2.2) (((k98_1 sn sl ss p colour).1 : Nat) : Int))
abbrev k98_3 (sn : Nat) (sl : List Int) (ss : Int × Int) (p : Int) (colour : Int) : Int × Nat × List Int × Int × Int := (s_l01Next sn sl ((k98_2 sn sl ss p colour).2.2.2) 4)
abbrev k98_4 (sn : Nat) (sl : List Int) (ss : Int × Int) (p : Int) (colour : Int) : (Int × Int) × Nat × List Int × Int × Int := (s_l01DrawPoint sn sl ((k98_3 sn sl ss p colour).2.2.2) p)
abbrev k98_5 (sn : Nat) (sl : List Int) (ss : Int × Int) (p : Int) (colour : Int) : Int × Int × Int × Int × Int × Int := (s_l07About p (((k98_1 sn sl ss p colour).2).getD ((((k98_2 sn sl ss p colour).1).toNat) * 6 + 0) 0, ((k98_1 sn sl ss p colour).2).getD ((((k98_2 sn sl ss p colour).1).toNat) * 6 + 1) 0, ((k98_1 sn sl ss p colour).2).getD ((((k98_2 sn sl ss p colour).1).toNat) * 6 + 2) 0, ((k98_1 sn sl ss p colour).2).getD ((((k98_2 sn sl ss p colour).1).toNat) * 6 + 3) 0, ((k98_1 sn sl ss p colour).2).getD ((((k98_2 sn sl ss p colour).1).toNat) * 6 + 4) 0, ((k98_1 sn sl ss p colour).2).getD ((((k98_2 sn sl ss p colour).1).toNat) * 6 + 5) 0) ((k98_4 sn sl ss p colour).1))
def S_s_l07DrawOf : Sums := ⟨tblS [(119, run_s_l07All), (121, run_s_l07About)], tblM [(123, .box run_s_l01Pick), (124, .box run_s_l01Next), (84, .box run_s_l01DrawPoint)]⟩
theorem SO_s_l07DrawOf : SumsOK Tryz.prog S_s_l07DrawOf := ⟨tblS_ok ⟨⟨Tryz.call119, sound_s_l07All⟩, ⟨Tryz.call121, sound_s_l07About⟩, True.intro⟩, tblM_ok ⟨⟨Tryz.call123, sound_s_l01Pick⟩, ⟨Tryz.call124, sound_s_l01Next⟩, ⟨Tryz.call84, sound_s_l01DrawPoint⟩, True.intro⟩⟩
def Fo_s_l07DrawOf (sn : Nat) (sl : List Int) (ss : Int × Int) (p : Int) (colour : Int) : Option ((Int × Int × Int × Int × Int × Int) × Nat × List Int × Int × Int) :=
  (if (srcB sn sl ss && (lenB 3 1 ([1, 1, (-1)]) && Nat.blt 0 3)) = true then (if (ok_s_l07All p colour ((k98_0 sn sl ss p colour).1)) = true then (if (srcB sn sl ((k98_0 sn sl ss p colour).2.2.2)) = true then (if (decide (0 ≤ (k98_2 sn sl ss p colour).1) && decide ((k98_2 sn sl ss p colour).1 < (((k98_1 sn sl ss p colour).1 : Nat) : Int))) = true then (if (Nat.ble ((((k98_2 sn sl ss p colour).1).toNat) * 6 + 6) (((k98_1 sn sl ss p colour).2).length)) = true then (if (srcB sn sl ((k98_2 sn sl ss p colour).2.2.2)) = true then (if (((k98_3 sn sl ss p colour).1) == 0) = true then (if (srcB sn sl ((k98_3 sn sl ss p colour).2.2.2) && prB p) = true then (if (prB p) = true then some ((k98_5 sn sl ss p colour), sn, sl, (k98_4 sn sl ss p colour).2.2.2) else none) else none) else (if (((k98_3 sn sl ss p colour).1) == 1) = true then (if (srcB sn sl ((k98_3 sn sl ss p colour).2.2.2) && prB p) = true then some ((1, 0, 0, 1, ((k98_4 sn sl ss p colour).1).1, ((k98_4 sn sl ss p colour).1).2), sn, sl, (k98_4 sn sl ss p colour).2.2.2) else none) else (if (srcB sn sl ((k98_3 sn sl ss p colour).2.2.2) && prB p) = true then some ((((k98_1 sn sl ss p colour).2).getD ((((k98_2 sn sl ss p colour).1).toNat) * 6 + 0) 0, ((k98_1 sn sl ss p colour).2).getD ((((k98_2 sn sl ss p colour).1).toNat) * 6 + 1) 0, ((k98_1 sn sl ss p colour).2).getD ((((k98_2 sn sl ss p colour).1).toNat) * 6 + 2) 0, ((k98_1 sn sl ss p colour).2).getD ((((k98_2 sn sl ss p colour).1).toNat) * 6 + 3) 0, ((k98_4 sn sl ss p colour).1).1, ((k98_4 sn sl ss p colour).1).2), sn, sl, (k98_4 sn sl ss p colour).2.2.2) else none))) else none) else none) else none) else none) else none) else none)
theorem eq_s_l07DrawOf (sn : Nat) (sl : List Int) (ss : Int × Int) (p : Int) (colour : Int) : execP Tryz.prog S_s_l07DrawOf 98 44 (fun _ => 1000000) dec_P142_a6 142 [.s sn (.byts sl), .v (.int .i64 ss.1), .v (.int .u64 ss.2)] [.v (.int .i64 p), .v (.int .i64 colour)] = Fo_s_l07DrawOf sn sl ss p colour := by
  kernel_rfl
def s_l07DrawOf_d (sn : Nat) (sl : List Int) (ss : Int × Int) (p : Int) (colour : Int) : (Int × Int × Int × Int × Int × Int) × Nat × List Int × Int × Int :=
  (if (((k98_3 sn sl ss p colour).1) == 0) = true then ((k98_5 sn sl ss p colour), sn, sl, (k98_4 sn sl ss p colour).2.2.2) else (if (((k98_3 sn sl ss p colour).1) == 1) = true then ((1, 0, 0, 1, ((k98_4 sn sl ss p colour).1).1, ((k98_4 sn sl ss p colour).1).2), sn, sl, (k98_4 sn sl ss p colour).2.2.2) else ((((k98_1 sn sl ss p colour).2).getD ((((k98_2 sn sl ss p colour).1).toNat) * 6 + 0) 0, ((k98_1 sn sl ss p colour).2).getD ((((k98_2 sn sl ss p colour).1).toNat) * 6 + 1) 0, ((k98_1 sn sl ss p colour).2).getD ((((k98_2 sn sl ss p colour).1).toNat) * 6 + 2) 0, ((k98_1 sn sl ss p colour).2).getD ((((k98_2 sn sl ss p colour).1).toNat) * 6 + 3) 0, ((k98_4 sn sl ss p colour).1).1, ((k98_4 sn sl ss p colour).1).2), sn, sl, (k98_4 sn sl ss p colour).2.2.2)))
def s_l07DrawOf : (Nat) → (List Int) → (Int × Int) → (Int) → (Int) → ((Int × Int × Int × Int × Int × Int) × Nat × List Int × Int × Int) := shut s_l07DrawOf_d
theorem s_l07DrawOf_eq (sn : Nat) (sl : List Int) (ss : Int × Int) (p : Int) (colour : Int) : s_l07DrawOf sn sl ss p colour = s_l07DrawOf_d sn sl ss p colour := by
  unfold s_l07DrawOf
  rw [shut_eq]
theorem tot_s_l07DrawOf (sn : Nat) (sl : List Int) (ss : Int × Int) (p : Int) (colour : Int) (hp : (srcB sn sl ss && drB p colour) = true) : Fo_s_l07DrawOf sn sl ss p colour = some (s_l07DrawOf sn sl ss p colour) := by
  have hs := and_l hp
  have hc := (srcB_ok hs).1
  rw [s_l07DrawOf_eq]
  unfold Fo_s_l07DrawOf s_l07DrawOf_d
  (try simp only [wI_eq])
  repeat' (first | with_reducible rfl | refine chk_opt (by first | (with_reducible assumption) | ((repeat (with_reducible first | assumption | apply post_s_l01Pick | apply post_s_l01Next | apply post_s_l01DrawPoint)); done) | (with_reducible exact field_prB9 _ _ _ (by ((repeat (with_reducible first | assumption | apply post_s_l01Pick | apply post_s_l01Next | apply post_s_l01DrawPoint)); done))) | fail | exact all_ok (and_r hp) (pick_mem _ _ _ _ _ (by ((repeat (with_reducible first | assumption | apply post_s_l01Pick | apply post_s_l01Next | apply post_s_l01DrawPoint)); done)) rfl) | exact drB_prB (and_r hp) | exact and_two (by ((repeat (with_reducible first | assumption | apply post_s_l01Pick | apply post_s_l01Next | apply post_s_l01DrawPoint)); done)) (drB_prB (and_r hp)) | exact idx_ok (next_rng _ _ _ _ (by ((repeat (with_reducible first | assumption | apply post_s_l01Pick | apply post_s_l01Next | apply post_s_l01DrawPoint)); done)) (all_pos (and_r hp) (pick_mem _ _ _ _ _ (by ((repeat (with_reducible first | assumption | apply post_s_l01Pick | apply post_s_l01Next | apply post_s_l01DrawPoint)); done)) rfl))) | exact ble_ok (next_ble _ _ _ _ (by ((repeat (with_reducible first | assumption | apply post_s_l01Pick | apply post_s_l01Next | apply post_s_l01DrawPoint)); done)) (all_pos (and_r hp) (pick_mem _ _ _ _ _ (by ((repeat (with_reducible first | assumption | apply post_s_l01Pick | apply post_s_l01Next | apply post_s_l01DrawPoint)); done)) rfl)) (len_next (all_len (and_r hp) (pick_mem _ _ _ _ _ (by ((repeat (with_reducible first | assumption | apply post_s_l01Pick | apply post_s_l01Next | apply post_s_l01DrawPoint)); done)) rfl)) (all_pos (and_r hp) (pick_mem _ _ _ _ _ (by ((repeat (with_reducible first | assumption | apply post_s_l01Pick | apply post_s_l01Next | apply post_s_l01DrawPoint)); done)) rfl)))) | exact pos_idx ‹_› | exact and_two (by ((repeat (with_reducible first | assumption | apply post_s_l01Pick | apply post_s_l01Next | apply post_s_l01DrawPoint)); done)) (by (first | (with_reducible assumption) | with_reducible exact field_prB9 _ _ _ (by ((repeat (with_reducible first | assumption | apply post_s_l01Pick | apply post_s_l01Next | apply post_s_l01DrawPoint)); done)) | fail | rfl)) | exact pos_cell ‹_› (by (first | exact flat2_len _ | exact flat3_len _)) | exact idx_ok (next_rng _ _ _ _ (by ((repeat (with_reducible first | assumption | apply post_s_l01Pick | apply post_s_l01Next | apply post_s_l01DrawPoint)); done)) (by decide)) | exact ble_ok (next_ble _ _ _ _ (by ((repeat (with_reducible first | assumption | apply post_s_l01Pick | apply post_s_l01Next | apply post_s_l01DrawPoint)); done)) (by decide) (by decide)) | exact ble_ok (next_ble0 _ _ _ _ (by ((repeat (with_reducible first | assumption | apply post_s_l01Pick | apply post_s_l01Next | apply post_s_l01DrawPoint)); done)) (by decide) (by decide)) | exact idx_ok (next_rng _ _ _ _ (by ((repeat (with_reducible first | assumption | apply post_s_l01Pick | apply post_s_l01Next | apply post_s_l01DrawPoint)); done)) (pos_one ‹_›)) | exact next_cell (by ((repeat (with_reducible first | assumption | apply post_s_l01Pick | apply post_s_l01Next | apply post_s_l01DrawPoint)); done)) ‹_› (by (first | exact flat2_len _ | exact flat3_len _))) ?_ | refine ite_opt (fun _ => ?_) (fun _ => ?_) | rfl)
theorem post_s_l07DrawOf (sn : Nat) (sl : List Int) (ss : Int × Int) (p : Int) (colour : Int) (hs : srcB sn sl ss = true) : srcB sn sl (s_l07DrawOf sn sl ss p colour).2.2.2 = true := by
  have hc := (srcB_ok hs).1
  rw [s_l07DrawOf_eq]
  unfold s_l07DrawOf_d
  repeat' (first | (with_reducible first | assumption | apply post_s_l01Pick | apply post_s_l01Next | apply post_s_l01DrawPoint) | refine ite_ind (P := fun r : (Int × Int × Int × Int × Int × Int) × Nat × List Int × Int × Int => srcB sn sl r.2.2.2 = true) ?_ ?_ | dsimp only)
theorem pickM_mem (sn : Nat) (sl : List Int) (ss : Int × Int) (hs : srcB sn sl ss = true) : (s_l01Pick sn sl ss 8 [3, 5, 7, 7, 11, 13, 17, 23]).1 ∈ [3, 5, 7, 7, 11, 13, 17, (23 : Int)] := pick_mem sn sl ss 8 _ hs rfl
theorem pickN_mem (sn : Nat) (sl : List Int) (ss : Int × Int) (hs : srcB sn sl ss = true) : (s_l01Pick sn sl ss 6 [3, 5, 7, 7, 11, 13]).1 ∈ [3, 5, 7, 7, 11, (13 : Int)] := pick_mem sn sl ss 6 _ hs rfl
theorem in_of_not {b : Bool} (h : ¬ (!b) = true) : b = true := by simpa using h
theorem in_mem {c : Int} (hc : s_l01In c 0 2 = true) : c ∈ ([0, 1, 2] : List Int) := by
  unfold s_l01In at hc
  simp at hc ⊢
  omega
theorem drB_of {p c : Int} (h1 : p ∈ ([3, 5, 7, 11, 13, 17, 23] : List Int)) (h2 : c ∈ ([0, 1, 2] : List Int)) : drB p c = true := by
  unfold drB
  rw [Bool.and_eq_true, List.contains_iff_mem, List.contains_iff_mem]
  exact ⟨h1, h2⟩
theorem pick_drC (sn : Nat) (sl : List Int) (ss : Int × Int) {c : Int} (hs : srcB sn sl ss = true) (hc : s_l01In c 0 2 = true) : drB (s_l01Pick sn sl ss 8 [3, 5, 7, 7, 11, 13, 17, 23]).1 c = true := by
  refine drB_of ?_ (in_mem hc)
  have := pickM_mem sn sl ss hs
  simp at this ⊢
  omega
theorem next3_mem (sn : Nat) (sl : List Int) (ss : Int × Int) (hs : srcB sn sl ss = true) : (s_l01Next sn sl ss 3).1 ∈ ([0, 1, 2] : List Int) := by
  have := next_rng sn sl ss 3 hs (by omega)
  simp
  omega
theorem pick_drB (sn : Nat) (sl : List Int) (ss ss' : Int × Int) (hs : srcB sn sl ss = true) (hs' : srcB sn sl ss' = true) : drB (s_l01Pick sn sl ss 8 [3, 5, 7, 7, 11, 13, 17, 23]).1 (s_l01Next sn sl ss' 3).1 = true := by
  refine drB_of ?_ (next3_mem sn sl ss' hs')
  have := pickM_mem sn sl ss hs
  simp at this ⊢
  omega
theorem pickN_drB (sn : Nat) (sl : List Int) (ss ss' : Int × Int) (hs : srcB sn sl ss = true) (hs' : srcB sn sl ss' = true) : drB (s_l01Pick sn sl ss 6 [3, 5, 7, 7, 11, 13]).1 (s_l01Next sn sl ss' 3).1 = true := by
  refine drB_of ?_ (next3_mem sn sl ss' hs')
  have := pickN_mem sn sl ss hs
  simp at this ⊢
  omega
theorem pick_prBM (sn : Nat) (sl : List Int) (ss : Int × Int) (hs : srcB sn sl ss = true) : prB (s_l01Pick sn sl ss 8 [3, 5, 7, 7, 11, 13, 17, 23]).1 = true := drB_prB (pick_drC sn sl ss (c := 0) hs rfl)
theorem pick_prBN (sn : Nat) (sl : List Int) (ss : Int × Int) (hs : srcB sn sl ss = true) : prB (s_l01Pick sn sl ss 6 [3, 5, 7, 7, 11, 13]).1 = true := by
  have := pickN_mem sn sl ss hs
  unfold prB
  simp at this ⊢
  omega
def run_s_l07DrawOf : PRun
  | 142, [.s sn (.byts sl), .v (.int .i64 s_1), .v (.int .u64 s_2)], [.v (.int .i64 p), .v (.int .i64 colour)] => some (srcB sn sl (s_1, s_2) && drB p colour, enc_P142_a6 (s_l07DrawOf sn sl (s_1, s_2) p colour))
  | _, _, _ => none
theorem sound_s_l07DrawOf : SoundP Tryz.prog 98 run_s_l07DrawOf := by
  refine soundP_of de_P142_a6 SO_s_l07DrawOf (by kernel_rfl) Tryz.func98 Tryz.ntmps98 rfl (by kernel_rfl) ?_
  intro e bcs pvs rs bcs' hrun
  unfold run_s_l07DrawOf at hrun
  split at hrun
  · simp only [Option.some.injEq, Prod.mk.injEq] at hrun
    obtain ⟨hp, hrun⟩ := hrun
    rename_i sn sl s_1 s_2 p colour
    exact ⟨_, s_l07DrawOf sn sl (s_1, s_2) p colour, by first | exact hrun.symm | exact (Prod.ext hrun.1 hrun.2).symm, (eq_s_l07DrawOf sn sl (s_1, s_2) p colour).trans (tot_s_l07DrawOf sn sl (s_1, s_2) p colour hp)⟩
  · cases hrun

abbrev k97_0 (sn : Nat) (sl : List Int) (ss : Int × Int) (p : Int) (m : Int × Int × Int × Int × Int × Int) : Int × Nat × List Int × Int × Int := (s_l01Next sn sl ((s_l01Next sn sl ss 24).2.2.2) 4)
abbrev k97_1 (sn : Nat) (sl : List Int) (ss : Int × Int) (p : Int) (m : Int × Int × Int × Int × Int × Int) : Int × Nat × List Int × Int × Int := (s_l01Next sn sl ((k97_0 sn sl ss p m).2.2.2) p)
abbrev k97_2 (sn : Nat) (sl : List Int) (ss : Int × Int) (p : Int) (m : Int × Int × Int × Int × Int × Int) : Int × Nat × List Int × Int × Int := (s_l01Pick sn sl ((k97_0 sn sl ss p m).2.2.2) 2 [(-1), p])
abbrev k97_3 (sn : Nat) (sl : List Int) (ss : Int × Int) (p : Int) (m : Int × Int × Int × Int × Int × Int) : Int × Nat × List Int × Int × Int := (s_l01Next sn sl ((s_l01Next sn sl ss 24).2.2.2) 2)
abbrev k97_4 (sn : Nat) (sl : List Int) (ss : Int × Int) (p : Int) (m : Int × Int × Int × Int × Int × Int) : Int × Nat × List Int × Int × Int := (s_l01Pick sn sl ((k97_3 sn sl ss p m).2.2.2) 2 [(-1), p])
def S_s_l07Bad : Sums := ⟨tblS [], tblM [(124, .box run_s_l01Next), (123, .box run_s_l01Pick)]⟩
theorem SO_s_l07Bad : SumsOK Tryz.prog S_s_l07Bad := ⟨tblS_ok True.intro, tblM_ok ⟨⟨Tryz.call124, sound_s_l01Next⟩, ⟨Tryz.call123, sound_s_l01Pick⟩, True.intro⟩⟩
def Fo_s_l07Bad (sn : Nat) (sl : List Int) (ss : Int × Int) (p : Int) (m : Int × Int × Int × Int × Int × Int) : Option ((Int × Int × Int × Int × Int × Int) × Nat × List Int × Int × Int) :=
  (if (srcB sn sl ss) = true then (if (((s_l01Next sn sl ss 24).1) == 0) = true then (if (srcB sn sl ((s_l01Next sn sl ss 24).2.2.2)) = true then (if (srcB sn sl ((k97_0 sn sl ss p m).2.2.2)) = true then (if (decide (0 ≤ (k97_0 sn sl ss p m).1) && decide ((k97_0 sn sl ss p m).1 < ((4 : Nat) : Int))) = true then (if (Nat.ble (0 + ((((k97_0 sn sl ss p m).1).toNat) * 1) + 1) 6) = true then some ((bif Nat.beq (0 + ((((k97_0 sn sl ss p m).1).toNat) * 1)) 0 then ((k97_1 sn sl ss p m).1) else m.1, bif Nat.beq (0 + ((((k97_0 sn sl ss p m).1).toNat) * 1)) 1 then ((k97_1 sn sl ss p m).1) else m.2.1, bif Nat.beq (0 + ((((k97_0 sn sl ss p m).1).toNat) * 1)) 2 then ((k97_1 sn sl ss p m).1) else m.2.2.1, bif Nat.beq (0 + ((((k97_0 sn sl ss p m).1).toNat) * 1)) 3 then ((k97_1 sn sl ss p m).1) else m.2.2.2.1, bif Nat.beq (0 + ((((k97_0 sn sl ss p m).1).toNat) * 1)) 4 then ((k97_1 sn sl ss p m).1) else m.2.2.2.2.1, bif Nat.beq (0 + ((((k97_0 sn sl ss p m).1).toNat) * 1)) 5 then ((k97_1 sn sl ss p m).1) else m.2.2.2.2.2), sn, sl, (k97_1 sn sl ss p m).2.2.2) else none) else none) else none) else none) else (if (((s_l01Next sn sl ss 24).1) == 1) = true then (if (srcB sn sl ((s_l01Next sn sl ss 24).2.2.2)) = true then (if (srcB sn sl ((k97_0 sn sl ss p m).2.2.2) && (lenB 2 1 ([(-1), p]) && Nat.blt 0 2)) = true then (if (decide (0 ≤ (k97_0 sn sl ss p m).1) && decide ((k97_0 sn sl ss p m).1 < ((4 : Nat) : Int))) = true then (if (Nat.ble (0 + ((((k97_0 sn sl ss p m).1).toNat) * 1) + 1) 6) = true then some ((bif Nat.beq (0 + ((((k97_0 sn sl ss p m).1).toNat) * 1)) 0 then ((k97_2 sn sl ss p m).1) else m.1, bif Nat.beq (0 + ((((k97_0 sn sl ss p m).1).toNat) * 1)) 1 then ((k97_2 sn sl ss p m).1) else m.2.1, bif Nat.beq (0 + ((((k97_0 sn sl ss p m).1).toNat) * 1)) 2 then ((k97_2 sn sl ss p m).1) else m.2.2.1, bif Nat.beq (0 + ((((k97_0 sn sl ss p m).1).toNat) * 1)) 3 then ((k97_2 sn sl ss p m).1) else m.2.2.2.1, bif Nat.beq (0 + ((((k97_0 sn sl ss p m).1).toNat) * 1)) 4 then ((k97_2 sn sl ss p m).1) else m.2.2.2.2.1, bif Nat.beq (0 + ((((k97_0 sn sl ss p m).1).toNat) * 1)) 5 then ((k97_2 sn sl ss p m).1) else m.2.2.2.2.2), sn, sl, (k97_2 sn sl ss p m).2.2.2) else none) else none) else none) else none) else (if (((s_l01Next sn sl ss 24).1) == 2) = true then (if (srcB sn sl ((s_l01Next sn sl ss 24).2.2.2)) = true then (if (srcB sn sl ((k97_3 sn sl ss p m).2.2.2) && (lenB 2 1 ([(-1), p]) && Nat.blt 0 2)) = true then (if (decide (0 ≤ (k97_3 sn sl ss p m).1) && decide ((k97_3 sn sl ss p m).1 < ((2 : Nat) : Int))) = true then (if (Nat.ble (4 + ((((k97_3 sn sl ss p m).1).toNat) * 1) + 1) 6) = true then some ((bif Nat.beq (4 + ((((k97_3 sn sl ss p m).1).toNat) * 1)) 0 then ((k97_4 sn sl ss p m).1) else m.1, bif Nat.beq (4 + ((((k97_3 sn sl ss p m).1).toNat) * 1)) 1 then ((k97_4 sn sl ss p m).1) else m.2.1, bif Nat.beq (4 + ((((k97_3 sn sl ss p m).1).toNat) * 1)) 2 then ((k97_4 sn sl ss p m).1) else m.2.2.1, bif Nat.beq (4 + ((((k97_3 sn sl ss p m).1).toNat) * 1)) 3 then ((k97_4 sn sl ss p m).1) else m.2.2.2.1, bif Nat.beq (4 + ((((k97_3 sn sl ss p m).1).toNat) * 1)) 4 then ((k97_4 sn sl ss p m).1) else m.2.2.2.2.1, bif Nat.beq (4 + ((((k97_3 sn sl ss p m).1).toNat) * 1)) 5 then ((k97_4 sn sl ss p m).1) else m.2.2.2.2.2), sn, sl, (k97_4 sn sl ss p m).2.2.2) else none) else none) else none) else none) else some (m, sn, sl, (s_l01Next sn sl ss 24).2.2.2)))) else none)
theorem eq_s_l07Bad (sn : Nat) (sl : List Int) (ss : Int × Int) (p : Int) (m : Int × Int × Int × Int × Int × Int) : execP Tryz.prog S_s_l07Bad 97 39 (fun _ => 1000000) dec_P142_a6 142 [.s sn (.byts sl), .v (.int .i64 ss.1), .v (.int .u64 ss.2)] [.v (.int .i64 p), .v (.agg ⟨[.int .i64 m.1, .int .i64 m.2.1, .int .i64 m.2.2.1, .int .i64 m.2.2.2.1, .int .i64 m.2.2.2.2.1, .int .i64 m.2.2.2.2.2]⟩)] = Fo_s_l07Bad sn sl ss p m := by
  kernel_rfl
def s_l07Bad_d (sn : Nat) (sl : List Int) (ss : Int × Int) (p : Int) (m : Int × Int × Int × Int × Int × Int) : (Int × Int × Int × Int × Int × Int) × Nat × List Int × Int × Int :=
  (if (((s_l01Next sn sl ss 24).1) == 0) = true then ((bif Nat.beq (0 + ((((k97_0 sn sl ss p m).1).toNat) * 1)) 0 then ((k97_1 sn sl ss p m).1) else m.1, bif Nat.beq (0 + ((((k97_0 sn sl ss p m).1).toNat) * 1)) 1 then ((k97_1 sn sl ss p m).1) else m.2.1, bif Nat.beq (0 + ((((k97_0 sn sl ss p m).1).toNat) * 1)) 2 then ((k97_1 sn sl ss p m).1) else m.2.2.1, bif Nat.beq (0 + ((((k97_0 sn sl ss p m).1).toNat) * 1)) 3 then ((k97_1 sn sl ss p m).1) else m.2.2.2.1, bif Nat.beq (0 + ((((k97_0 sn sl ss p m).1).toNat) * 1)) 4 then ((k97_1 sn sl ss p m).1) else m.2.2.2.2.1, bif Nat.beq (0 + ((((k97_0 sn sl ss p m).1).toNat) * 1)) 5 then ((k97_1 sn sl ss p m).1) else m.2.2.2.2.2), sn, sl, (k97_1 sn sl ss p m).2.2.2) else (if (((s_l01Next sn sl ss 24).1) == 1) = true then ((bif Nat.beq (0 + ((((k97_0 sn sl ss p m).1).toNat) * 1)) 0 then ((k97_2 sn sl ss p m).1) else m.1, bif Nat.beq (0 + ((((k97_0 sn sl ss p m).1).toNat) * 1)) 1 then ((k97_2 sn sl ss p m).1) else m.2.1, bif Nat.beq (0 + ((((k97_0 sn sl ss p m).1).toNat) * 1)) 2 then ((k97_2 sn sl ss p m).1) else m.2.2.1, bif Nat.beq (0 + ((((k97_0 sn sl ss p m).1).toNat) * 1)) 3 then ((k97_2 sn sl ss p m).1) else m.2.2.2.1, bif Nat.beq (0 + ((((k97_0 sn sl ss p m).1).toNat) * 1)) 4 then ((k97_2 sn sl ss p m).1) else m.2.2.2.2.1, bif Nat.beq (0 + ((((k97_0 sn sl ss p m).1).toNat) * 1)) 5 then ((k97_2 sn sl ss p m).1) else m.2.2.2.2.2), sn, sl, (k97_2 sn sl ss p m).2.2.2) else (if (((s_l01Next sn sl ss 24).1) == 2) = true then ((bif Nat.beq (4 + ((((k97_3 sn sl ss p m).1).toNat) * 1)) 0 then ((k97_4 sn sl ss p m).1) else m.1, bif Nat.beq (4 + ((((k97_3 sn sl ss p m).1).toNat) * 1)) 1 then ((k97_4 sn sl ss p m).1) else m.2.1, bif Nat.beq (4 + ((((k97_3 sn sl ss p m).1).toNat) * 1)) 2 then ((k97_4 sn sl ss p m).1) else m.2.2.1, bif Nat.beq (4 + ((((k97_3 sn sl ss p m).1).toNat) * 1)) 3 then ((k97_4 sn sl ss p m).1) else m.2.2.2.1, bif Nat.beq (4 + ((((k97_3 sn sl ss p m).1).toNat) * 1)) 4 then ((k97_4 sn sl ss p m).1) else m.2.2.2.2.1, bif Nat.beq (4 + ((((k97_3 sn sl ss p m).1).toNat) * 1)) 5 then ((k97_4 sn sl ss p m).1) else m.2.2.2.2.2), sn, sl, (k97_4 sn sl ss p m).2.2.2) else (m, sn, sl, (s_l01Next sn sl ss 24).2.2.2))))
def s_l07Bad : (Nat) → (List Int) → (Int × Int) → (Int) → (Int × Int × Int × Int × Int × Int) → ((Int × Int × Int × Int × Int × Int) × Nat × List Int × Int × Int) := shut s_l07Bad_d
theorem s_l07Bad_eq (sn : Nat) (sl : List Int) (ss : Int × Int) (p : Int) (m : Int × Int × Int × Int × Int × Int) : s_l07Bad sn sl ss p m = s_l07Bad_d sn sl ss p m := by
  unfold s_l07Bad
  rw [shut_eq]
theorem tot_s_l07Bad (sn : Nat) (sl : List Int) (ss : Int × Int) (p : Int) (m : Int × Int × Int × Int × Int × Int) (hp : (srcB sn sl ss && prB p) = true) : Fo_s_l07Bad sn sl ss p m = some (s_l07Bad sn sl ss p m) := by
  have hs := and_l hp
  have hc := (srcB_ok hs).1
  have hq := and_r hp
  have h0 := prB_ne hq
  rw [s_l07Bad_eq]
  unfold Fo_s_l07Bad s_l07Bad_d
  (try simp only [wI_eq])
  repeat' (first | with_reducible rfl | refine chk_opt (by first | (with_reducible assumption) | ((repeat (with_reducible first | assumption | apply post_s_l01Next | apply post_s_l01Pick)); done) | (with_reducible exact field_prB9 _ _ _ (by ((repeat (with_reducible first | assumption | apply post_s_l01Next | apply post_s_l01Pick)); done))) | fail | exact pos_idx ‹_› | exact and_two (by ((repeat (with_reducible first | assumption | apply post_s_l01Next | apply post_s_l01Pick)); done)) (by (first | (with_reducible assumption) | with_reducible exact field_prB9 _ _ _ (by ((repeat (with_reducible first | assumption | apply post_s_l01Next | apply post_s_l01Pick)); done)) | fail | rfl)) | exact pos_cell ‹_› (by (first | exact flat2_len _ | exact flat3_len _)) | exact idx_ok (next_rng _ _ _ _ (by ((repeat (with_reducible first | assumption | apply post_s_l01Next | apply post_s_l01Pick)); done)) (by decide)) | exact ble_ok (next_ble _ _ _ _ (by ((repeat (with_reducible first | assumption | apply post_s_l01Next | apply post_s_l01Pick)); done)) (by decide) (by decide)) | exact ble_ok (next_ble0 _ _ _ _ (by ((repeat (with_reducible first | assumption | apply post_s_l01Next | apply post_s_l01Pick)); done)) (by decide) (by decide)) | exact idx_ok (next_rng _ _ _ _ (by ((repeat (with_reducible first | assumption | apply post_s_l01Next | apply post_s_l01Pick)); done)) (pos_one ‹_›)) | exact next_cell (by ((repeat (with_reducible first | assumption | apply post_s_l01Next | apply post_s_l01Pick)); done)) ‹_› (by (first | exact flat2_len _ | exact flat3_len _))) ?_ | refine ite_opt (fun _ => ?_) (fun _ => ?_) | rfl)
theorem post_s_l07Bad (sn : Nat) (sl : List Int) (ss : Int × Int) (p : Int) (m : Int × Int × Int × Int × Int × Int) (hs : srcB sn sl ss = true) : srcB sn sl (s_l07Bad sn sl ss p m).2.2.2 = true := by
  have hc := (srcB_ok hs).1
  rw [s_l07Bad_eq]
  unfold s_l07Bad_d
  repeat' (first | (with_reducible first | assumption | apply post_s_l01Next | apply post_s_l01Pick) | refine ite_ind (P := fun r : (Int × Int × Int × Int × Int × Int) × Nat × List Int × Int × Int => srcB sn sl r.2.2.2 = true) ?_ ?_ | dsimp only)
def run_s_l07Bad : PRun
  | 142, [.s sn (.byts sl), .v (.int .i64 s_1), .v (.int .u64 s_2)], [.v (.int .i64 p), .v (.agg ⟨[.int .i64 m0, .int .i64 m1, .int .i64 m2, .int .i64 m3, .int .i64 m4, .int .i64 m5]⟩)] => some (srcB sn sl (s_1, s_2) && prB p, enc_P142_a6 (s_l07Bad sn sl (s_1, s_2) p (m0, m1, m2, m3, m4, m5)))
  | _, _, _ => none
theorem sound_s_l07Bad : SoundP Tryz.prog 97 run_s_l07Bad := by
  refine soundP_of de_P142_a6 SO_s_l07Bad (by kernel_rfl) Tryz.func97 Tryz.ntmps97 rfl (by kernel_rfl) ?_
  intro e bcs pvs rs bcs' hrun
  unfold run_s_l07Bad at hrun
  split at hrun
  · simp only [Option.some.injEq, Prod.mk.injEq] at hrun
    obtain ⟨hp, hrun⟩ := hrun
    rename_i sn sl s_1 s_2 p m0 m1 m2 m3 m4 m5
    exact ⟨_, s_l07Bad sn sl (s_1, s_2) p (m0, m1, m2, m3, m4, m5), by first | exact hrun.symm | exact (Prod.ext hrun.1 hrun.2).symm, (eq_s_l07Bad sn sl (s_1, s_2) p (m0, m1, m2, m3, m4, m5)).trans (tot_s_l07Bad sn sl (s_1, s_2) p (m0, m1, m2, m3, m4, m5) hp)⟩
  · cases hrun

def dec_P142_i_i_a6 : List Value × List BC → Option (Int × Int × (Int × Int × Int × Int × Int × Int) × Nat × List Int × Int × Int)
  | ([.int .i64 x0, .int .i64 x1, .agg ⟨[.int .i64 x2_0, .int .i64 x2_1, .int .i64 x2_2, .int .i64 x2_3, .int .i64 x2_4, .int .i64 x2_5]⟩], [.s cn (.byts cl), .v (.int .i64 c_1), .v (.int .u64 c_2)]) => some (x0, x1, (x2_0, x2_1, x2_2, x2_3, x2_4, x2_5), cn, cl, c_1, c_2)
  | _ => none
def enc_P142_i_i_a6 : Int × Int × (Int × Int × Int × Int × Int × Int) × Nat × List Int × Int × Int → List Value × List BC
  | (x0, x1, (x2_0, x2_1, x2_2, x2_3, x2_4, x2_5), cn, cl, c_1, c_2) => ([.int .i64 x0, .int .i64 x1, .agg ⟨[.int .i64 x2_0, .int .i64 x2_1, .int .i64 x2_2, .int .i64 x2_3, .int .i64 x2_4, .int .i64 x2_5]⟩], [.s cn (.byts cl), .v (.int .i64 c_1), .v (.int .u64 c_2)])
theorem de_P142_i_i_a6 (rs : List Value × List BC) (x : Int × Int × (Int × Int × Int × Int × Int × Int) × Nat × List Int × Int × Int) (h : dec_P142_i_i_a6 rs = some x) : rs = enc_P142_i_i_a6 x := by
  unfold dec_P142_i_i_a6 at h
  split at h
  · simp only [Option.some.injEq] at h
    subst h
    rfl
  · cases h
abbrev k82_0 (sn : Nat) (sl : List Int) (ss : Int × Int) : Int × Nat × List Int × Int × Int := (s_l01Pick sn sl ss 8 [3, 5, 7, 7, 11, 13, 17, 23])
abbrev k82_1 (sn : Nat) (sl : List Int) (ss : Int × Int) : Int × Nat × List Int × Int × Int := (s_l01Next sn sl ((k82_0 sn sl ss).2.2.2) 3)
abbrev k82_2 (sn : Nat) (sl : List Int) (ss : Int × Int) : (Int × Int × Int × Int × Int × Int) × Nat × List Int × Int × Int := (s_l07DrawOf sn sl ((k82_1 sn sl ss).2.2.2) ((k82_0 sn sl ss).1) ((k82_1 sn sl ss).1))
abbrev k82_3 (sn : Nat) (sl : List Int) (ss : Int × Int) : (Int × Int × Int × Int × Int × Int) × Nat × List Int × Int × Int := (s_l07Bad sn sl ((k82_2 sn sl ss).2.2.2) ((k82_0 sn sl ss).1) ((k82_2 sn sl ss).1))
abbrev k82_4 (sn : Nat) (sl : List Int) (ss : Int × Int) : Int × Nat × List Int × Int × Int := (s_l01Next sn sl ((k82_3 sn sl ss).2.2.2) 20)
abbrev k82_5 (sn : Nat) (sl : List Int) (ss : Int × Int) : Int × Nat × List Int × Int × Int := (s_l01Pick sn sl ((k82_4 sn sl ss).2.2.2) 5 [(-1), 3, 0, 1, 2])
def S_s_l07With : Sums := ⟨tblS [], tblM [(123, .box run_s_l01Pick), (124, .box run_s_l01Next), (98, .box run_s_l07DrawOf), (97, .box run_s_l07Bad)]⟩
theorem SO_s_l07With : SumsOK Tryz.prog S_s_l07With := ⟨tblS_ok True.intro, tblM_ok ⟨⟨Tryz.call123, sound_s_l01Pick⟩, ⟨Tryz.call124, sound_s_l01Next⟩, ⟨Tryz.call98, sound_s_l07DrawOf⟩, ⟨Tryz.call97, sound_s_l07Bad⟩, True.intro⟩⟩
def Fo_s_l07With (sn : Nat) (sl : List Int) (ss : Int × Int) : Option (Int × Int × (Int × Int × Int × Int × Int × Int) × Nat × List Int × Int × Int) :=
  (if (srcB sn sl ss && (lenB 8 1 ([3, 5, 7, 7, 11, 13, 17, 23]) && Nat.blt 0 8)) = true then (if (srcB sn sl ((k82_0 sn sl ss).2.2.2)) = true then (if (srcB sn sl ((k82_1 sn sl ss).2.2.2) && drB ((k82_0 sn sl ss).1) ((k82_1 sn sl ss).1)) = true then (if (srcB sn sl ((k82_2 sn sl ss).2.2.2) && prB ((k82_0 sn sl ss).1)) = true then (if (srcB sn sl ((k82_3 sn sl ss).2.2.2)) = true then (if (((k82_4 sn sl ss).1) == 0) = true then (if (srcB sn sl ((k82_4 sn sl ss).2.2.2) && (lenB 5 1 ([(-1), 3, 0, 1, 2]) && Nat.blt 0 5)) = true then some ((k82_0 sn sl ss).1, (k82_5 sn sl ss).1, ((k82_3 sn sl ss).1), sn, sl, (k82_5 sn sl ss).2.2.2) else none) else some ((k82_0 sn sl ss).1, (k82_1 sn sl ss).1, ((k82_3 sn sl ss).1), sn, sl, (k82_4 sn sl ss).2.2.2)) else none) else none) else none) else none) else none)
theorem eq_s_l07With (sn : Nat) (sl : List Int) (ss : Int × Int) : execP Tryz.prog S_s_l07With 82 29 (fun _ => 1000000) dec_P142_i_i_a6 142 [.s sn (.byts sl), .v (.int .i64 ss.1), .v (.int .u64 ss.2)] [] = Fo_s_l07With sn sl ss := by
  kernel_rfl
def s_l07With_d (sn : Nat) (sl : List Int) (ss : Int × Int) : Int × Int × (Int × Int × Int × Int × Int × Int) × Nat × List Int × Int × Int :=
  (if (((k82_4 sn sl ss).1) == 0) = true then ((k82_0 sn sl ss).1, (k82_5 sn sl ss).1, ((k82_3 sn sl ss).1), sn, sl, (k82_5 sn sl ss).2.2.2) else ((k82_0 sn sl ss).1, (k82_1 sn sl ss).1, ((k82_3 sn sl ss).1), sn, sl, (k82_4 sn sl ss).2.2.2))
def s_l07With : (Nat) → (List Int) → (Int × Int) → (Int × Int × (Int × Int × Int × Int × Int × Int) × Nat × List Int × Int × Int) := shut s_l07With_d
theorem s_l07With_eq (sn : Nat) (sl : List Int) (ss : Int × Int) : s_l07With sn sl ss = s_l07With_d sn sl ss := by
  unfold s_l07With
  rw [shut_eq]
theorem tot_s_l07With (sn : Nat) (sl : List Int) (ss : Int × Int) (hp : (srcB sn sl ss) = true) : Fo_s_l07With sn sl ss = some (s_l07With sn sl ss) := by
  have hs := hp
  have hc := (srcB_ok hs).1
  rw [s_l07With_eq]
  unfold Fo_s_l07With s_l07With_d
  (try simp only [wI_eq])
  repeat' (first | with_reducible rfl | refine chk_opt (by first | (with_reducible assumption) | ((repeat (with_reducible first | assumption | apply post_s_l01Pick | apply post_s_l01Next | apply post_s_l07DrawOf | apply post_s_l07Bad)); done) | (with_reducible exact field_prB9 _ _ _ (by ((repeat (with_reducible first | assumption | apply post_s_l01Pick | apply post_s_l01Next | apply post_s_l07DrawOf | apply post_s_l07Bad)); done))) | fail | exact and_two (by ((repeat (with_reducible first | assumption | apply post_s_l01Pick | apply post_s_l01Next | apply post_s_l07DrawOf | apply post_s_l07Bad)); done)) (pick_prBM _ _ _ (by ((repeat (with_reducible first | assumption | apply post_s_l01Pick | apply post_s_l01Next | apply post_s_l07DrawOf | apply post_s_l07Bad)); done))) | exact and_two (by ((repeat (with_reducible first | assumption | apply post_s_l01Pick | apply post_s_l01Next | apply post_s_l07DrawOf | apply post_s_l07Bad)); done)) (pick_drB _ _ _ _ (by ((repeat (with_reducible first | assumption | apply post_s_l01Pick | apply post_s_l01Next | apply post_s_l07DrawOf | apply post_s_l07Bad)); done)) (by ((repeat (with_reducible first | assumption | apply post_s_l01Pick | apply post_s_l01Next | apply post_s_l07DrawOf | apply post_s_l07Bad)); done))) | exact pos_idx ‹_› | exact and_two (by ((repeat (with_reducible first | assumption | apply post_s_l01Pick | apply post_s_l01Next | apply post_s_l07DrawOf | apply post_s_l07Bad)); done)) (by (first | (with_reducible assumption) | with_reducible exact field_prB9 _ _ _ (by ((repeat (with_reducible first | assumption | apply post_s_l01Pick | apply post_s_l01Next | apply post_s_l07DrawOf | apply post_s_l07Bad)); done)) | fail | rfl)) | exact pos_cell ‹_› (by (first | exact flat2_len _ | exact flat3_len _)) | exact idx_ok (next_rng _ _ _ _ (by ((repeat (with_reducible first | assumption | apply post_s_l01Pick | apply post_s_l01Next | apply post_s_l07DrawOf | apply post_s_l07Bad)); done)) (by decide)) | exact ble_ok (next_ble _ _ _ _ (by ((repeat (with_reducible first | assumption | apply post_s_l01Pick | apply post_s_l01Next | apply post_s_l07DrawOf | apply post_s_l07Bad)); done)) (by decide) (by decide)) | exact ble_ok (next_ble0 _ _ _ _ (by ((repeat (with_reducible first | assumption | apply post_s_l01Pick | apply post_s_l01Next | apply post_s_l07DrawOf | apply post_s_l07Bad)); done)) (by decide) (by decide)) | exact idx_ok (next_rng _ _ _ _ (by ((repeat (with_reducible first | assumption | apply post_s_l01Pick | apply post_s_l01Next | apply post_s_l07DrawOf | apply post_s_l07Bad)); done)) (pos_one ‹_›)) | exact next_cell (by ((repeat (with_reducible first | assumption | apply post_s_l01Pick | apply post_s_l01Next | apply post_s_l07DrawOf | apply post_s_l07Bad)); done)) ‹_› (by (first | exact flat2_len _ | exact flat3_len _))) ?_ | refine ite_opt (fun _ => ?_) (fun _ => ?_) | rfl)
theorem post_s_l07With (sn : Nat) (sl : List Int) (ss : Int × Int) (hs : srcB sn sl ss = true) : srcB sn sl (s_l07With sn sl ss).2.2.2.2.2 = true := by
  have hc := (srcB_ok hs).1
  rw [s_l07With_eq]
  unfold s_l07With_d
  repeat' (first | (with_reducible first | assumption | apply post_s_l01Pick | apply post_s_l01Next | apply post_s_l07DrawOf | apply post_s_l07Bad) | refine ite_ind (P := fun r : Int × Int × (Int × Int × Int × Int × Int × Int) × Nat × List Int × Int × Int => srcB sn sl r.2.2.2.2.2 = true) ?_ ?_ | dsimp only)
theorem with_ind {Q : Int → Prop} (sn : Nat) (sl : List Int) (ss : Int × Int) (h : Q (s_l01Pick sn sl ss 8 [3, 5, 7, 7, 11, 13, 17, 23]).1) : Q (s_l07With sn sl ss).1 := by
  rw [s_l07With_eq]
  unfold s_l07With_d
  repeat' (first | exact h | refine ite_ind (P := fun r : Int × Int × (Int × Int × Int × Int × Int × Int) × Nat × List Int × Int × Int => Q r.1) ?_ ?_ | dsimp only)
theorem with_prB (sn : Nat) (sl : List Int) (ss : Int × Int) (hs : srcB sn sl ss = true) : prB (s_l07With sn sl ss).1 = true :=
  with_ind (Q := fun x => prB x = true) sn sl ss (pick_prBM sn sl ss hs)
theorem with_drB (sn : Nat) (sl : List Int) (ss : Int × Int) {c : Int} (hs : srcB sn sl ss = true) (hc : s_l01In c 0 2 = true) : drB (s_l07With sn sl ss).1 c = true :=
  with_ind (Q := fun x => drB x c = true) sn sl ss (pick_drC sn sl ss hs hc)
def run_s_l07With : PRun
  | 142, [.s sn (.byts sl), .v (.int .i64 s_1), .v (.int .u64 s_2)], [] => some (srcB sn sl (s_1, s_2), enc_P142_i_i_a6 (s_l07With sn sl (s_1, s_2)))
  | _, _, _ => none
theorem sound_s_l07With : SoundP Tryz.prog 82 run_s_l07With := by
  refine soundP_of de_P142_i_i_a6 SO_s_l07With (by kernel_rfl) Tryz.func82 Tryz.ntmps82 rfl (by kernel_rfl) ?_
  intro e bcs pvs rs bcs' hrun
  unfold run_s_l07With at hrun
  split at hrun
  · simp only [Option.some.injEq, Prod.mk.injEq] at hrun
    obtain ⟨hp, hrun⟩ := hrun
    rename_i sn sl s_1 s_2
    exact ⟨_, s_l07With sn sl (s_1, s_2), by first | exact hrun.symm | exact (Prod.ext hrun.1 hrun.2).symm, (eq_s_l07With sn sl (s_1, s_2)).trans (tot_s_l07With sn sl (s_1, s_2) hp)⟩
  · cases hrun

def dec_B142 : TypeId × List Value → Option (Int × Int)
  | (142, [.int .i64 c0, .int .u64 c1]) => some (c0, c1)
  | _ => none
def enc_B142 : Int × Int → TypeId × List Value
  | (c0, c1) => (142, [.int .i64 c0, .int .u64 c1])
theorem de_B142 (rs : TypeId × List Value) (x : Int × Int) (h : dec_B142 rs = some x) : rs = enc_B142 x := by
  unfold dec_B142 at h
  split at h
  · simp only [Option.some.injEq] at h
    subst h
    rfl
  · cases h
def S_s_l01From : Sums := ⟨tblS [], tblM []⟩
theorem SO_s_l01From : SumsOK Tryz.prog S_s_l01From := ⟨tblS_ok True.intro, tblM_ok True.intro⟩
def T_s_l01From_0 (coden : Nat) (codel : List Int) (v44_2 : Int) (i : Int) : Tab := ⟨[.row 1, .junk, .val (.pointer none), .ptr 44 0, .val (.int .i64 i), .row 1, .row 1, .val (.int .i64 ((coden : Nat) : Int)), .val (.int .u64 (IntKind.u64.wrap (((coden : Nat) : Int)))), .val (.int .u64 (IntKind.u64.wrap (13701 + (IntKind.u64.wrap (((coden : Nat) : Int)))))), .junk, .ptr 44 0, .junk, .junk, .junk, .junk, .junk, .junk, .junk, .junk, .junk, .junk, .junk, .junk, .junk, .junk, .junk, .junk, .junk, .junk, .junk, .junk, .junk, .junk, .junk, .junk, .junk, .junk], [(0, .ros 0 (.ints [])), (1, .ros coden (.byts codel)), (44, .box 142 [.row 1, .val (.int .i64 0), .val (.int .u64 v44_2)])]⟩
def X_s_l01From_0 (P : Program) (fu : Nat) (coden : Nat) (codel : List Int) (f : Nat) (v44_2 : Int) (i : Int) : Option (Int × Int) := loopK (exec P S_s_l01From 38 (fun _ => fu + 100) (Code.sub [1, 1, 0, 1, 0, 0] (bodyF P 81))) f (T_s_l01From_0 coden codel v44_2 i) (kBlock 0 (kSeq (fun zs9 => exec P S_s_l01From 38 (fun _ => fu + 100) (Code.sub [1, 1, 1] (bodyF P 81)) zs9 (finB P 81 dec_B142)) (finB P 81 dec_B142)))
def B_s_l01From_0 (coden : Nat) (codel : List Int) (rec0 : Int → Int → Option (Int × Int)) (v44_2 : Int) (i : Int) : Option (Int × Int) :=
  (if (decide (i < ((coden : Nat) : Int))) = true then (if (decide (i < 4096)) = true then (if (decide (0 ≤ i) && decide (i < ((coden : Nat) : Int))) = true then (if (Nat.ble (i.toNat * 1 + 1) codel.length) = true then rec0 (IntKind.u64.wrap ((IntKind.u64.wrap ((IntKind.u64.wrap (v44_2 * 1099511628211)) + (IntKind.u64.wrap (codel.getD (i.toNat * 1) 0)))) + 199)) (wI (i + 1)) else none) else none) else some (0, v44_2)) else some (0, v44_2))
def L_s_l01From_0 (fu : Nat) (coden : Nat) (codel : List Int) : Nat → Int → Int → Option (Int × Int)
  | 0, _, _ => none
  | f + 1, v44_2, i => B_s_l01From_0 coden codel (L_s_l01From_0 fu coden codel f) v44_2 i
theorem loop_s_l01From_0 (fu : Nat) (coden : Nat) (codel : List Int) : ∀ (f : Nat) (v44_2 : Int) (i : Int), X_s_l01From_0 Tryz.prog fu coden codel f v44_2 i = L_s_l01From_0 fu coden codel f v44_2 i := by
  intro f
  induction f with
  | zero => intros; rfl
  | succ f ih =>
    intro v44_2 i
    have h1 : X_s_l01From_0 Tryz.prog fu coden codel (f + 1) v44_2 i = B_s_l01From_0 coden codel (X_s_l01From_0 Tryz.prog fu coden codel f) v44_2 i := by kernel_rfl
    have h2 : X_s_l01From_0 Tryz.prog fu coden codel f = L_s_l01From_0 fu coden codel f := by funext v44_2 i; exact ih v44_2 i
    rw [h1, h2]
    rfl
def G_s_l01From (coden : Nat) (codel : List Int) (lo0 : Int → Int → Option (Int × Int)) : Option (Int × Int) :=
  lo0 (IntKind.u64.wrap (13701 + (IntKind.u64.wrap (((coden : Nat) : Int))))) 0
def Fo_s_l01From (fu : Nat) (coden : Nat) (codel : List Int) : Option (Int × Int) := G_s_l01From coden codel (L_s_l01From_0 fu coden codel (fu + 100))
theorem eqg_s_l01From (fu : Nat) (coden : Nat) (codel : List Int) : execB Tryz.prog S_s_l01From 81 38 (fun _ => fu + 100) dec_B142 coden (.byts codel) = G_s_l01From coden codel (L_s_l01From_0 fu coden codel (fu + 100)) := by
  have h1 : execB Tryz.prog S_s_l01From 81 38 (fun _ => fu + 100) dec_B142 coden (.byts codel) = G_s_l01From coden codel (X_s_l01From_0 Tryz.prog fu coden codel (fu + 100)) := by kernel_rfl
  have c0 : X_s_l01From_0 Tryz.prog fu coden codel (fu + 100) = L_s_l01From_0 fu coden codel (fu + 100) := by funext v44_2 i; exact loop_s_l01From_0 fu coden codel (fu + 100) v44_2 i
  rw [h1, c0]
theorem eq_s_l01From (fu : Nat) (coden : Nat) (codel : List Int) : execB Tryz.prog S_s_l01From 81 38 (fun _ => fu + 100) dec_B142 coden (.byts codel) = Fo_s_l01From fu coden codel := eqg_s_l01From fu coden codel
theorem from_go (fu n : Nat) (l : List Int) (hc : codeB n l = true) : ∀ (f : Nat) (v i : Int), 0 ≤ i → i ≤ 4096 → 4096 - i < f → ∃ h, L_s_l01From_0 fu n l f v i = some (0, h)
  | 0, v, i, _, h1, h2 => by omega
  | f + 1, v, i, h0, h1, h2 => by
    rw [show L_s_l01From_0 fu n l (f + 1) v i = B_s_l01From_0 n l (L_s_l01From_0 fu n l f) v i from rfl]
    unfold B_s_l01From_0
    by_cases hn : i < (n : Int)
    · by_cases hk : i < 4096
      · rw [if_pos (decide_eq_true hn), if_pos (decide_eq_true hk), if_pos (idx_ok ⟨h0, hn⟩), if_pos (ble_ok (by obtain ⟨e, _⟩ := codeB_ok hc; omega)), wI_eq, show wrap64 (i + 1) = i + 1 by unfold wrap64; omega]
        exact from_go fu n l hc f _ _ (by omega) (by omega) (by omega)
      · rw [if_pos (decide_eq_true hn), if_neg (by simp [hk])]
        exact ⟨_, rfl⟩
    · rw [if_neg (by simp [hn])]
      exact ⟨_, rfl⟩
theorem from_some {n : Nat} {l : List Int} (hc : codeB n l = true) : ∃ h, Fo_s_l01From 1000000 n l = some (0, h) := by
  unfold Fo_s_l01From G_s_l01From
  exact from_go _ n l hc _ _ _ (by decide) (by decide) (by decide)
def s_l01From (coden : Nat) (codel : List Int) : Int × Int := (Fo_s_l01From 1000000 coden codel).getD (0, 0)
theorem tot_s_l01From (coden : Nat) (codel : List Int) (hp : (codeB coden codel) = true) : Fo_s_l01From 1000000 coden codel = some (s_l01From coden codel) := by
  obtain ⟨h, e⟩ := from_some hp
  unfold s_l01From
  rw [e]
  rfl
def run_s_l01From : BRun
  | [.s coden (.byts codel)] => some (codeB coden codel, enc_B142 (s_l01From coden codel))
  | _ => none
theorem sound_s_l01From : SoundB Tryz.prog 81 run_s_l01From := by
  refine soundB_of de_B142 SO_s_l01From (by kernel_rfl) Tryz.func81 Tryz.ntmps81 rfl (by kernel_rfl) ?_
  intro m c e vals hrun
  unfold run_s_l01From at hrun
  split at hrun
  · rename_i heq
    simp only [List.cons.injEq, PV.s.injEq, and_true] at heq
    obtain ⟨rfl, rfl⟩ := heq
    simp only [Option.some.injEq, Prod.mk.injEq] at hrun
    obtain ⟨hp, hrun⟩ := hrun
    exact ⟨_, s_l01From _ _, by first | exact hrun.symm | exact (Prod.ext hrun.1 hrun.2).symm, (eq_s_l01From _ _ _).trans (tot_s_l01From _ _ hp)⟩
  · cases hrun

theorem s_l01From_src {n : Nat} {l : List Int} (hc : codeB n l = true) : srcB n l (s_l01From n l) = true := by
  obtain ⟨h, e⟩ := from_some hc
  refine srcB_mk hc ?_
  unfold s_l01From
  rw [e]
  exact Int.le_refl 0
def dec_i_i_a6 : List TR → Option (Int × Int × Int × Int × Int × Int × Int × Int)
  | [.v (.int .i64 x0), .v (.int .i64 x1), .v (.agg ⟨[.int .i64 x2_0, .int .i64 x2_1, .int .i64 x2_2, .int .i64 x2_3, .int .i64 x2_4, .int .i64 x2_5]⟩)] => some (x0, x1, (x2_0, x2_1, x2_2, x2_3, x2_4, x2_5))
  | _ => none
def enc_i_i_a6 : Int × Int × Int × Int × Int × Int × Int × Int → List TR
  | (x0, x1, (x2_0, x2_1, x2_2, x2_3, x2_4, x2_5)) => [.v (.int .i64 x0), .v (.int .i64 x1), .v (.agg ⟨[.int .i64 x2_0, .int .i64 x2_1, .int .i64 x2_2, .int .i64 x2_3, .int .i64 x2_4, .int .i64 x2_5]⟩)]
theorem de_i_i_a6 (rs : List TR) (x : Int × Int × Int × Int × Int × Int × Int × Int) (h : dec_i_i_a6 rs = some x) : rs = enc_i_i_a6 x := by
  unfold dec_i_i_a6 at h
  split at h
  · simp only [Option.some.injEq] at h
    subst h
    rfl
  · cases h
abbrev k46_0 (coden : Nat) (codel : List Int) : Int × Int × (Int × Int × Int × Int × Int × Int) × Nat × List Int × Int × Int := (s_l07With coden codel (s_l01From coden codel))
abbrev k46_1 (coden : Nat) (codel : List Int) : Int × Nat × List Int × Int × Int := (s_l01BadField coden codel ((k46_0 coden codel).2.2.2.2.2) ((k46_0 coden codel).1))
def S_s_l07Given : Sums := ⟨tblS [], tblM [(81, .src run_s_l01From), (82, .box run_s_l07With), (85, .box run_s_l01BadField)]⟩
theorem SO_s_l07Given : SumsOK Tryz.prog S_s_l07Given := ⟨tblS_ok True.intro, tblM_ok ⟨⟨Tryz.call81, sound_s_l01From⟩, ⟨Tryz.call82, sound_s_l07With⟩, ⟨Tryz.call85, sound_s_l01BadField⟩, True.intro⟩⟩
def Fo_s_l07Given (coden : Nat) (codel : List Int) : Option (Int × Int × Int × Int × Int × Int × Int × Int) :=
  (if (codeB coden codel) = true then (if (srcB coden codel (s_l01From coden codel)) = true then (if (srcB coden codel ((k46_0 coden codel).2.2.2.2.2) && prB ((k46_0 coden codel).1)) = true then some ((k46_1 coden codel).1, (k46_0 coden codel).2.1, ((k46_0 coden codel).2.2.1)) else none) else none) else none)
theorem eq_s_l07Given (coden : Nat) (codel : List Int) : execT Tryz.prog S_s_l07Given 46 22 (fun _ => 1000000) dec_i_i_a6 [.s coden (.byts codel)] = Fo_s_l07Given coden codel := by
  kernel_rfl
def s_l07Given_d (coden : Nat) (codel : List Int) : Int × Int × Int × Int × Int × Int × Int × Int :=
  ((k46_1 coden codel).1, (k46_0 coden codel).2.1, ((k46_0 coden codel).2.2.1))
def s_l07Given : (Nat) → (List Int) → (Int × Int × Int × Int × Int × Int × Int × Int) := shut s_l07Given_d
theorem s_l07Given_eq (coden : Nat) (codel : List Int) : s_l07Given coden codel = s_l07Given_d coden codel := by
  unfold s_l07Given
  rw [shut_eq]
theorem tot_s_l07Given (coden : Nat) (codel : List Int) (hp : (codeB coden codel) = true) : Fo_s_l07Given coden codel = some (s_l07Given coden codel) := by
  have hc := hp
  rw [s_l07Given_eq]
  unfold Fo_s_l07Given s_l07Given_d
  (try simp only [wI_eq])
  repeat' (first | with_reducible rfl | refine chk_opt (by first | (with_reducible assumption) | ((repeat (with_reducible first | assumption | exact s_l01From_src hc | apply post_s_l07With | apply post_s_l01BadField)); done) | (with_reducible exact field_prB9 _ _ _ (by ((repeat (with_reducible first | assumption | exact s_l01From_src hc | apply post_s_l07With | apply post_s_l01BadField)); done))) | fail | exact and_two (by ((repeat (with_reducible first | assumption | exact s_l01From_src hc | apply post_s_l07With | apply post_s_l01BadField)); done)) (with_prB _ _ _ (by ((repeat (with_reducible first | assumption | exact s_l01From_src hc | apply post_s_l07With | apply post_s_l01BadField)); done))) | exact pos_idx ‹_› | exact and_two (by ((repeat (with_reducible first | assumption | exact s_l01From_src hc | apply post_s_l07With | apply post_s_l01BadField)); done)) (by (first | (with_reducible assumption) | with_reducible exact field_prB9 _ _ _ (by ((repeat (with_reducible first | assumption | exact s_l01From_src hc | apply post_s_l07With | apply post_s_l01BadField)); done)) | fail | rfl)) | exact pos_cell ‹_› (by (first | exact flat2_len _ | exact flat3_len _)) | exact idx_ok (next_rng _ _ _ _ (by ((repeat (with_reducible first | assumption | exact s_l01From_src hc | apply post_s_l07With | apply post_s_l01BadField)); done)) (by decide)) | exact ble_ok (next_ble _ _ _ _ (by ((repeat (with_reducible first | assumption | exact s_l01From_src hc | apply post_s_l07With | apply post_s_l01BadField)); done)) (by decide) (by decide)) | exact ble_ok (next_ble0 _ _ _ _ (by ((repeat (with_reducible first | assumption | exact s_l01From_src hc | apply post_s_l07With | apply post_s_l01BadField)); done)) (by decide) (by decide)) | exact idx_ok (next_rng _ _ _ _ (by ((repeat (with_reducible first | assumption | exact s_l01From_src hc | apply post_s_l07With | apply post_s_l01BadField)); done)) (pos_one ‹_›)) | exact next_cell (by ((repeat (with_reducible first | assumption | exact s_l01From_src hc | apply post_s_l07With | apply post_s_l01BadField)); done)) ‹_› (by (first | exact flat2_len _ | exact flat3_len _))) ?_ | refine ite_opt (fun _ => ?_) (fun _ => ?_) | rfl)
def run_s_l07Given : List PV → Option (Bool × List TR)
  | [.s coden (.byts codel)] => some (codeB coden codel, enc_i_i_a6 (s_l07Given coden codel))
  | _ => none
theorem sound_s_l07Given : Sound Tryz.prog 46 run_s_l07Given := by
  refine sound_of de_i_i_a6 SO_s_l07Given (by kernel_rfl) Tryz.func46 Tryz.ntmps46 rfl (by kernel_rfl) ?_
  intro W pvs avs rs hargs hrun
  unfold run_s_l07Given at hrun
  split at hrun
  · simp only [Option.some.injEq, Prod.mk.injEq] at hrun
    obtain ⟨hp, rfl⟩ := hrun
    rename_i coden codel
    exact ⟨_, _, _, hargs, rfl, (eq_s_l07Given coden codel).trans (tot_s_l07Given coden codel hp)⟩
  · cases hrun

def S_s_DrawOrderOfMove : Sums := ⟨tblS [(46, run_s_l07Given)], tblM []⟩
theorem SO_s_DrawOrderOfMove : SumsOK Tryz.prog S_s_DrawOrderOfMove := ⟨tblS_ok ⟨⟨Tryz.call46, sound_s_l07Given⟩, True.intro⟩, tblM_ok True.intro⟩
def Fo_s_DrawOrderOfMove (coden : Nat) (codel : List Int) : Option (Int × Int × Int × Int × Int × Int × Int × Int) :=
  (if (codeB coden codel) = true then some ((s_l07Given coden codel).1, (s_l07Given coden codel).2.1, ((s_l07Given coden codel).2.2)) else none)
theorem eq_s_DrawOrderOfMove (coden : Nat) (codel : List Int) : execT Tryz.prog S_s_DrawOrderOfMove 6 17 (fun _ => 1000000) dec_i_i_a6 [.s coden (.byts codel)] = Fo_s_DrawOrderOfMove coden codel := by
  kernel_rfl
def s_DrawOrderOfMove_d (coden : Nat) (codel : List Int) : Int × Int × Int × Int × Int × Int × Int × Int :=
  ((s_l07Given coden codel).1, (s_l07Given coden codel).2.1, ((s_l07Given coden codel).2.2))
def s_DrawOrderOfMove : (Nat) → (List Int) → (Int × Int × Int × Int × Int × Int × Int × Int) := shut s_DrawOrderOfMove_d
theorem s_DrawOrderOfMove_eq (coden : Nat) (codel : List Int) : s_DrawOrderOfMove coden codel = s_DrawOrderOfMove_d coden codel := by
  unfold s_DrawOrderOfMove
  rw [shut_eq]
theorem tot_s_DrawOrderOfMove (coden : Nat) (codel : List Int) (hp : (codeB coden codel) = true) : Fo_s_DrawOrderOfMove coden codel = some (s_DrawOrderOfMove coden codel) := by
  have hc := hp
  rw [s_DrawOrderOfMove_eq]
  unfold Fo_s_DrawOrderOfMove s_DrawOrderOfMove_d
  (try simp only [wI_eq])
  repeat' (first | with_reducible rfl | refine chk_opt (by first | (with_reducible assumption) | ((repeat (with_reducible first | assumption)); done) | (with_reducible exact field_prB9 _ _ _ (by ((repeat (with_reducible first | assumption)); done))) | fail | exact pos_idx ‹_› | exact and_two (by ((repeat (with_reducible first | assumption)); done)) (by (first | (with_reducible assumption) | with_reducible exact field_prB9 _ _ _ (by ((repeat (with_reducible first | assumption)); done)) | fail | rfl)) | exact pos_cell ‹_› (by (first | exact flat2_len _ | exact flat3_len _)) | exact idx_ok (next_rng _ _ _ _ (by ((repeat (with_reducible first | assumption)); done)) (by decide)) | exact ble_ok (next_ble _ _ _ _ (by ((repeat (with_reducible first | assumption)); done)) (by decide) (by decide)) | exact ble_ok (next_ble0 _ _ _ _ (by ((repeat (with_reducible first | assumption)); done)) (by decide) (by decide)) | exact idx_ok (next_rng _ _ _ _ (by ((repeat (with_reducible first | assumption)); done)) (pos_one ‹_›)) | exact next_cell (by ((repeat (with_reducible first | assumption)); done)) ‹_› (by (first | exact flat2_len _ | exact flat3_len _))) ?_ | refine ite_opt (fun _ => ?_) (fun _ => ?_) | rfl)
def run_s_DrawOrderOfMove : List PV → Option (Bool × List TR)
  | [.s coden (.byts codel)] => some (codeB coden codel, enc_i_i_a6 (s_DrawOrderOfMove coden codel))
  | _ => none
theorem sound_s_DrawOrderOfMove : Sound Tryz.prog 6 run_s_DrawOrderOfMove := by
  refine sound_of de_i_i_a6 SO_s_DrawOrderOfMove (by kernel_rfl) Tryz.func6 Tryz.ntmps6 rfl (by kernel_rfl) ?_
  intro W pvs avs rs hargs hrun
  unfold run_s_DrawOrderOfMove at hrun
  split at hrun
  · simp only [Option.some.injEq, Prod.mk.injEq] at hrun
    obtain ⟨hp, rfl⟩ := hrun
    rename_i coden codel
    exact ⟨_, _, _, hargs, rfl, (eq_s_DrawOrderOfMove coden codel).trans (tot_s_DrawOrderOfMove coden codel hp)⟩
  · cases hrun

def dec_i_a6_a2 : List TR → Option (Int × (Int × Int × Int × Int × Int × Int) × Int × Int)
  | [.v (.int .i64 x0), .v (.agg ⟨[.int .i64 x1_0, .int .i64 x1_1, .int .i64 x1_2, .int .i64 x1_3, .int .i64 x1_4, .int .i64 x1_5]⟩), .v (.agg ⟨[.int .i64 x2_0, .int .i64 x2_1]⟩)] => some (x0, (x1_0, x1_1, x1_2, x1_3, x1_4, x1_5), (x2_0, x2_1))
  | _ => none
def enc_i_a6_a2 : Int × (Int × Int × Int × Int × Int × Int) × Int × Int → List TR
  | (x0, (x1_0, x1_1, x1_2, x1_3, x1_4, x1_5), (x2_0, x2_1)) => [.v (.int .i64 x0), .v (.agg ⟨[.int .i64 x1_0, .int .i64 x1_1, .int .i64 x1_2, .int .i64 x1_3, .int .i64 x1_4, .int .i64 x1_5]⟩), .v (.agg ⟨[.int .i64 x2_0, .int .i64 x2_1]⟩)]
theorem de_i_a6_a2 (rs : List TR) (x : Int × (Int × Int × Int × Int × Int × Int) × Int × Int) (h : dec_i_a6_a2 rs = some x) : rs = enc_i_a6_a2 x := by
  unfold dec_i_a6_a2 at h
  split at h
  · simp only [Option.some.injEq] at h
    subst h
    rfl
  · cases h
abbrev k21_0 (coden : Nat) (codel : List Int) : Int × Int × (Int × Int × Int × Int × Int × Int) × Nat × List Int × Int × Int := (s_l07With coden codel (s_l01From coden codel))
abbrev k21_1 (coden : Nat) (codel : List Int) : (Int × Int) × Nat × List Int × Int × Int := (s_l01DrawPoint coden codel ((k21_0 coden codel).2.2.2.2.2) ((k21_0 coden codel).1))
abbrev k21_2 (coden : Nat) (codel : List Int) : (Int × Int) × Nat × List Int × Int × Int := (s_l01BadPoint coden codel ((k21_1 coden codel).2.2.2) ((k21_0 coden codel).1) ((k21_1 coden codel).1))
abbrev k21_3 (coden : Nat) (codel : List Int) : Int × Nat × List Int × Int × Int := (s_l01BadField coden codel ((k21_2 coden codel).2.2.2) ((k21_0 coden codel).1))
def S_s_DrawMovePoint : Sums := ⟨tblS [], tblM [(81, .src run_s_l01From), (82, .box run_s_l07With), (84, .box run_s_l01DrawPoint), (83, .box run_s_l01BadPoint), (85, .box run_s_l01BadField)]⟩
theorem SO_s_DrawMovePoint : SumsOK Tryz.prog S_s_DrawMovePoint := ⟨tblS_ok True.intro, tblM_ok ⟨⟨Tryz.call81, sound_s_l01From⟩, ⟨Tryz.call82, sound_s_l07With⟩, ⟨Tryz.call84, sound_s_l01DrawPoint⟩, ⟨Tryz.call83, sound_s_l01BadPoint⟩, ⟨Tryz.call85, sound_s_l01BadField⟩, True.intro⟩⟩
def Fo_s_DrawMovePoint (coden : Nat) (codel : List Int) : Option (Int × (Int × Int × Int × Int × Int × Int) × Int × Int) :=
  (if (codeB coden codel) = true then (if (srcB coden codel (s_l01From coden codel)) = true then (if (srcB coden codel ((k21_0 coden codel).2.2.2.2.2) && prB ((k21_0 coden codel).1)) = true then (if (srcB coden codel ((k21_1 coden codel).2.2.2) && prB ((k21_0 coden codel).1)) = true then (if (srcB coden codel ((k21_2 coden codel).2.2.2) && prB ((k21_0 coden codel).1)) = true then some ((k21_3 coden codel).1, ((k21_0 coden codel).2.2.1), ((k21_2 coden codel).1)) else none) else none) else none) else none) else none)
theorem eq_s_DrawMovePoint (coden : Nat) (codel : List Int) : execT Tryz.prog S_s_DrawMovePoint 21 29 (fun _ => 1000000) dec_i_a6_a2 [.s coden (.byts codel)] = Fo_s_DrawMovePoint coden codel := by
  kernel_rfl
def s_DrawMovePoint_d (coden : Nat) (codel : List Int) : Int × (Int × Int × Int × Int × Int × Int) × Int × Int :=
  ((k21_3 coden codel).1, ((k21_0 coden codel).2.2.1), ((k21_2 coden codel).1))
def s_DrawMovePoint : (Nat) → (List Int) → (Int × (Int × Int × Int × Int × Int × Int) × Int × Int) := shut s_DrawMovePoint_d
theorem s_DrawMovePoint_eq (coden : Nat) (codel : List Int) : s_DrawMovePoint coden codel = s_DrawMovePoint_d coden codel := by
  unfold s_DrawMovePoint
  rw [shut_eq]
theorem tot_s_DrawMovePoint (coden : Nat) (codel : List Int) (hp : (codeB coden codel) = true) : Fo_s_DrawMovePoint coden codel = some (s_DrawMovePoint coden codel) := by
  have hc := hp
  rw [s_DrawMovePoint_eq]
  unfold Fo_s_DrawMovePoint s_DrawMovePoint_d
  (try simp only [wI_eq])
  repeat' (first | with_reducible rfl | refine chk_opt (by first | (with_reducible assumption) | ((repeat (with_reducible first | assumption | exact s_l01From_src hc | apply post_s_l07With | apply post_s_l01DrawPoint | apply post_s_l01BadPoint | apply post_s_l01BadField)); done) | (with_reducible exact field_prB9 _ _ _ (by ((repeat (with_reducible first | assumption | exact s_l01From_src hc | apply post_s_l07With | apply post_s_l01DrawPoint | apply post_s_l01BadPoint | apply post_s_l01BadField)); done))) | fail | exact and_two (by ((repeat (with_reducible first | assumption | exact s_l01From_src hc | apply post_s_l07With | apply post_s_l01DrawPoint | apply post_s_l01BadPoint | apply post_s_l01BadField)); done)) (with_prB _ _ _ (by ((repeat (with_reducible first | assumption | exact s_l01From_src hc | apply post_s_l07With | apply post_s_l01DrawPoint | apply post_s_l01BadPoint | apply post_s_l01BadField)); done))) | exact pos_idx ‹_› | exact and_two (by ((repeat (with_reducible first | assumption | exact s_l01From_src hc | apply post_s_l07With | apply post_s_l01DrawPoint | apply post_s_l01BadPoint | apply post_s_l01BadField)); done)) (by (first | (with_reducible assumption) | with_reducible exact field_prB9 _ _ _ (by ((repeat (with_reducible first | assumption | exact s_l01From_src hc | apply post_s_l07With | apply post_s_l01DrawPoint | apply post_s_l01BadPoint | apply post_s_l01BadField)); done)) | fail | rfl)) | exact pos_cell ‹_› (by (first | exact flat2_len _ | exact flat3_len _)) | exact idx_ok (next_rng _ _ _ _ (by ((repeat (with_reducible first | assumption | exact s_l01From_src hc | apply post_s_l07With | apply post_s_l01DrawPoint | apply post_s_l01BadPoint | apply post_s_l01BadField)); done)) (by decide)) | exact ble_ok (next_ble _ _ _ _ (by ((repeat (with_reducible first | assumption | exact s_l01From_src hc | apply post_s_l07With | apply post_s_l01DrawPoint | apply post_s_l01BadPoint | apply post_s_l01BadField)); done)) (by decide) (by decide)) | exact ble_ok (next_ble0 _ _ _ _ (by ((repeat (with_reducible first | assumption | exact s_l01From_src hc | apply post_s_l07With | apply post_s_l01DrawPoint | apply post_s_l01BadPoint | apply post_s_l01BadField)); done)) (by decide) (by decide)) | exact idx_ok (next_rng _ _ _ _ (by ((repeat (with_reducible first | assumption | exact s_l01From_src hc | apply post_s_l07With | apply post_s_l01DrawPoint | apply post_s_l01BadPoint | apply post_s_l01BadField)); done)) (pos_one ‹_›)) | exact next_cell (by ((repeat (with_reducible first | assumption | exact s_l01From_src hc | apply post_s_l07With | apply post_s_l01DrawPoint | apply post_s_l01BadPoint | apply post_s_l01BadField)); done)) ‹_› (by (first | exact flat2_len _ | exact flat3_len _))) ?_ | refine ite_opt (fun _ => ?_) (fun _ => ?_) | rfl)
def run_s_DrawMovePoint : List PV → Option (Bool × List TR)
  | [.s coden (.byts codel)] => some (codeB coden codel, enc_i_a6_a2 (s_DrawMovePoint coden codel))
  | _ => none
theorem sound_s_DrawMovePoint : Sound Tryz.prog 21 run_s_DrawMovePoint := by
  refine sound_of de_i_a6_a2 SO_s_DrawMovePoint (by kernel_rfl) Tryz.func21 Tryz.ntmps21 rfl (by kernel_rfl) ?_
  intro W pvs avs rs hargs hrun
  unfold run_s_DrawMovePoint at hrun
  split at hrun
  · simp only [Option.some.injEq, Prod.mk.injEq] at hrun
    obtain ⟨hp, rfl⟩ := hrun
    rename_i coden codel
    exact ⟨_, _, _, hargs, rfl, (eq_s_DrawMovePoint coden codel).trans (tot_s_DrawMovePoint coden codel hp)⟩
  · cases hrun

def dec_i_i_a6_a3 : List TR → Option (Int × Int × (Int × Int × Int × Int × Int × Int) × Int × Int × Int)
  | [.v (.int .i64 x0), .v (.int .i64 x1), .v (.agg ⟨[.int .i64 x2_0, .int .i64 x2_1, .int .i64 x2_2, .int .i64 x2_3, .int .i64 x2_4, .int .i64 x2_5]⟩), .v (.agg ⟨[.int .i64 x3_0, .int .i64 x3_1, .int .i64 x3_2]⟩)] => some (x0, x1, (x2_0, x2_1, x2_2, x2_3, x2_4, x2_5), (x3_0, x3_1, x3_2))
  | _ => none
def enc_i_i_a6_a3 : Int × Int × (Int × Int × Int × Int × Int × Int) × Int × Int × Int → List TR
  | (x0, x1, (x2_0, x2_1, x2_2, x2_3, x2_4, x2_5), (x3_0, x3_1, x3_2)) => [.v (.int .i64 x0), .v (.int .i64 x1), .v (.agg ⟨[.int .i64 x2_0, .int .i64 x2_1, .int .i64 x2_2, .int .i64 x2_3, .int .i64 x2_4, .int .i64 x2_5]⟩), .v (.agg ⟨[.int .i64 x3_0, .int .i64 x3_1, .int .i64 x3_2]⟩)]
theorem de_i_i_a6_a3 (rs : List TR) (x : Int × Int × (Int × Int × Int × Int × Int × Int) × Int × Int × Int) (h : dec_i_i_a6_a3 rs = some x) : rs = enc_i_i_a6_a3 x := by
  unfold dec_i_i_a6_a3 at h
  split at h
  · simp only [Option.some.injEq] at h
    subst h
    rfl
  · cases h
abbrev k23_0 (coden : Nat) (codel : List Int) : Int × Int × (Int × Int × Int × Int × Int × Int) × Nat × List Int × Int × Int := (s_l07With coden codel (s_l01From coden codel))
abbrev k23_1 (coden : Nat) (codel : List Int) : (Int × Int × Int) × Nat × List Int × Int × Int := (s_l01DrawLine coden codel ((k23_0 coden codel).2.2.2.2.2) ((k23_0 coden codel).1))
abbrev k23_2 (coden : Nat) (codel : List Int) : (Int × Int × Int) × Nat × List Int × Int × Int := (s_l01BadLine coden codel ((k23_1 coden codel).2.2.2) ((k23_0 coden codel).1) ((k23_1 coden codel).1))
abbrev k23_3 (coden : Nat) (codel : List Int) : Int × Nat × List Int × Int × Int := (s_l01BadField coden codel ((k23_2 coden codel).2.2.2) ((k23_0 coden codel).1))
def S_s_DrawMoveLine : Sums := ⟨tblS [], tblM [(81, .src run_s_l01From), (82, .box run_s_l07With), (90, .box run_s_l01DrawLine), (89, .box run_s_l01BadLine), (85, .box run_s_l01BadField)]⟩
theorem SO_s_DrawMoveLine : SumsOK Tryz.prog S_s_DrawMoveLine := ⟨tblS_ok True.intro, tblM_ok ⟨⟨Tryz.call81, sound_s_l01From⟩, ⟨Tryz.call82, sound_s_l07With⟩, ⟨Tryz.call90, sound_s_l01DrawLine⟩, ⟨Tryz.call89, sound_s_l01BadLine⟩, ⟨Tryz.call85, sound_s_l01BadField⟩, True.intro⟩⟩
def Fo_s_DrawMoveLine (coden : Nat) (codel : List Int) : Option (Int × Int × (Int × Int × Int × Int × Int × Int) × Int × Int × Int) :=
  (if (codeB coden codel) = true then (if (srcB coden codel (s_l01From coden codel)) = true then (if (srcB coden codel ((k23_0 coden codel).2.2.2.2.2) && prB ((k23_0 coden codel).1)) = true then (if (srcB coden codel ((k23_1 coden codel).2.2.2) && prB ((k23_0 coden codel).1)) = true then (if (srcB coden codel ((k23_2 coden codel).2.2.2) && prB ((k23_0 coden codel).1)) = true then some ((k23_3 coden codel).1, (k23_0 coden codel).2.1, ((k23_0 coden codel).2.2.1), ((k23_2 coden codel).1)) else none) else none) else none) else none) else none)
theorem eq_s_DrawMoveLine (coden : Nat) (codel : List Int) : execT Tryz.prog S_s_DrawMoveLine 23 31 (fun _ => 1000000) dec_i_i_a6_a3 [.s coden (.byts codel)] = Fo_s_DrawMoveLine coden codel := by
  kernel_rfl
def s_DrawMoveLine_d (coden : Nat) (codel : List Int) : Int × Int × (Int × Int × Int × Int × Int × Int) × Int × Int × Int :=
  ((k23_3 coden codel).1, (k23_0 coden codel).2.1, ((k23_0 coden codel).2.2.1), ((k23_2 coden codel).1))
def s_DrawMoveLine : (Nat) → (List Int) → (Int × Int × (Int × Int × Int × Int × Int × Int) × Int × Int × Int) := shut s_DrawMoveLine_d
theorem s_DrawMoveLine_eq (coden : Nat) (codel : List Int) : s_DrawMoveLine coden codel = s_DrawMoveLine_d coden codel := by
  unfold s_DrawMoveLine
  rw [shut_eq]
theorem tot_s_DrawMoveLine (coden : Nat) (codel : List Int) (hp : (codeB coden codel) = true) : Fo_s_DrawMoveLine coden codel = some (s_DrawMoveLine coden codel) := by
  have hc := hp
  rw [s_DrawMoveLine_eq]
  unfold Fo_s_DrawMoveLine s_DrawMoveLine_d
  (try simp only [wI_eq])
  repeat' (first | with_reducible rfl | refine chk_opt (by first | (with_reducible assumption) | ((repeat (with_reducible first | assumption | exact s_l01From_src hc | apply post_s_l07With | apply post_s_l01DrawLine | apply post_s_l01BadLine | apply post_s_l01BadField)); done) | (with_reducible exact field_prB9 _ _ _ (by ((repeat (with_reducible first | assumption | exact s_l01From_src hc | apply post_s_l07With | apply post_s_l01DrawLine | apply post_s_l01BadLine | apply post_s_l01BadField)); done))) | fail | exact and_two (by ((repeat (with_reducible first | assumption | exact s_l01From_src hc | apply post_s_l07With | apply post_s_l01DrawLine | apply post_s_l01BadLine | apply post_s_l01BadField)); done)) (with_prB _ _ _ (by ((repeat (with_reducible first | assumption | exact s_l01From_src hc | apply post_s_l07With | apply post_s_l01DrawLine | apply post_s_l01BadLine | apply post_s_l01BadField)); done))) | exact pos_idx ‹_› | exact and_two (by ((repeat (with_reducible first | assumption | exact s_l01From_src hc | apply post_s_l07With | apply post_s_l01DrawLine | apply post_s_l01BadLine | apply post_s_l01BadField)); done)) (by (first | (with_reducible assumption) | with_reducible exact field_prB9 _ _ _ (by ((repeat (with_reducible first | assumption | exact s_l01From_src hc | apply post_s_l07With | apply post_s_l01DrawLine | apply post_s_l01BadLine | apply post_s_l01BadField)); done)) | fail | rfl)) | exact pos_cell ‹_› (by (first | exact flat2_len _ | exact flat3_len _)) | exact idx_ok (next_rng _ _ _ _ (by ((repeat (with_reducible first | assumption | exact s_l01From_src hc | apply post_s_l07With | apply post_s_l01DrawLine | apply post_s_l01BadLine | apply post_s_l01BadField)); done)) (by decide)) | exact ble_ok (next_ble _ _ _ _ (by ((repeat (with_reducible first | assumption | exact s_l01From_src hc | apply post_s_l07With | apply post_s_l01DrawLine | apply post_s_l01BadLine | apply post_s_l01BadField)); done)) (by decide) (by decide)) | exact ble_ok (next_ble0 _ _ _ _ (by ((repeat (with_reducible first | assumption | exact s_l01From_src hc | apply post_s_l07With | apply post_s_l01DrawLine | apply post_s_l01BadLine | apply post_s_l01BadField)); done)) (by decide) (by decide)) | exact idx_ok (next_rng _ _ _ _ (by ((repeat (with_reducible first | assumption | exact s_l01From_src hc | apply post_s_l07With | apply post_s_l01DrawLine | apply post_s_l01BadLine | apply post_s_l01BadField)); done)) (pos_one ‹_›)) | exact next_cell (by ((repeat (with_reducible first | assumption | exact s_l01From_src hc | apply post_s_l07With | apply post_s_l01DrawLine | apply post_s_l01BadLine | apply post_s_l01BadField)); done)) ‹_› (by (first | exact flat2_len _ | exact flat3_len _))) ?_ | refine ite_opt (fun _ => ?_) (fun _ => ?_) | rfl)
def run_s_DrawMoveLine : List PV → Option (Bool × List TR)
  | [.s coden (.byts codel)] => some (codeB coden codel, enc_i_i_a6_a3 (s_DrawMoveLine coden codel))
  | _ => none
theorem sound_s_DrawMoveLine : Sound Tryz.prog 23 run_s_DrawMoveLine := by
  refine sound_of de_i_i_a6_a3 SO_s_DrawMoveLine (by kernel_rfl) Tryz.func23 Tryz.ntmps23 rfl (by kernel_rfl) ?_
  intro W pvs avs rs hargs hrun
  unfold run_s_DrawMoveLine at hrun
  split at hrun
  · simp only [Option.some.injEq, Prod.mk.injEq] at hrun
    obtain ⟨hp, rfl⟩ := hrun
    rename_i coden codel
    exact ⟨_, _, _, hargs, rfl, (eq_s_DrawMoveLine coden codel).trans (tot_s_DrawMoveLine coden codel hp)⟩
  · cases hrun

def dec_i_a6_a6 : List TR → Option (Int × (Int × Int × Int × Int × Int × Int) × Int × Int × Int × Int × Int × Int)
  | [.v (.int .i64 x0), .v (.agg ⟨[.int .i64 x1_0, .int .i64 x1_1, .int .i64 x1_2, .int .i64 x1_3, .int .i64 x1_4, .int .i64 x1_5]⟩), .v (.agg ⟨[.int .i64 x2_0, .int .i64 x2_1, .int .i64 x2_2, .int .i64 x2_3, .int .i64 x2_4, .int .i64 x2_5]⟩)] => some (x0, (x1_0, x1_1, x1_2, x1_3, x1_4, x1_5), (x2_0, x2_1, x2_2, x2_3, x2_4, x2_5))
  | _ => none
def enc_i_a6_a6 : Int × (Int × Int × Int × Int × Int × Int) × Int × Int × Int × Int × Int × Int → List TR
  | (x0, (x1_0, x1_1, x1_2, x1_3, x1_4, x1_5), (x2_0, x2_1, x2_2, x2_3, x2_4, x2_5)) => [.v (.int .i64 x0), .v (.agg ⟨[.int .i64 x1_0, .int .i64 x1_1, .int .i64 x1_2, .int .i64 x1_3, .int .i64 x1_4, .int .i64 x1_5]⟩), .v (.agg ⟨[.int .i64 x2_0, .int .i64 x2_1, .int .i64 x2_2, .int .i64 x2_3, .int .i64 x2_4, .int .i64 x2_5]⟩)]
theorem de_i_a6_a6 (rs : List TR) (x : Int × (Int × Int × Int × Int × Int × Int) × Int × Int × Int × Int × Int × Int) (h : dec_i_a6_a6 rs = some x) : rs = enc_i_a6_a6 x := by
  unfold dec_i_a6_a6 at h
  split at h
  · simp only [Option.some.injEq] at h
    subst h
    rfl
  · cases h
abbrev k25_0 (coden : Nat) (codel : List Int) : Int × Int × (Int × Int × Int × Int × Int × Int) × Nat × List Int × Int × Int := (s_l07With coden codel (s_l01From coden codel))
abbrev k25_1 (coden : Nat) (codel : List Int) : Bool := (s_l01In ((k25_0 coden codel).2.1) 0 2)
abbrev k25_2 (coden : Nat) (codel : List Int) : (Int × Int × Int × Int × Int × Int) × Nat × List Int × Int × Int := (s_l07DrawOf coden codel ((k25_0 coden codel).2.2.2.2.2) ((k25_0 coden codel).1) 1)
abbrev k25_3 (coden : Nat) (codel : List Int) : (Int × Int × Int × Int × Int × Int) × Nat × List Int × Int × Int := (s_l07Bad coden codel ((k25_2 coden codel).2.2.2) ((k25_0 coden codel).1) ((k25_2 coden codel).1))
abbrev k25_4 (coden : Nat) (codel : List Int) : Int × Nat × List Int × Int × Int := (s_l01BadField coden codel ((k25_3 coden codel).2.2.2) ((k25_0 coden codel).1))
abbrev k25_5 (coden : Nat) (codel : List Int) : (Int × Int × Int × Int × Int × Int) × Nat × List Int × Int × Int := (s_l07DrawOf coden codel ((k25_0 coden codel).2.2.2.2.2) ((k25_0 coden codel).1) ((k25_0 coden codel).2.1))
abbrev k25_6 (coden : Nat) (codel : List Int) : (Int × Int × Int × Int × Int × Int) × Nat × List Int × Int × Int := (s_l07Bad coden codel ((k25_5 coden codel).2.2.2) ((k25_0 coden codel).1) ((k25_5 coden codel).1))
abbrev k25_7 (coden : Nat) (codel : List Int) : Int × Nat × List Int × Int × Int := (s_l01BadField coden codel ((k25_6 coden codel).2.2.2) ((k25_0 coden codel).1))
def S_s_DrawProductOfMoves : Sums := ⟨tblS [(94, run_s_l01In)], tblM [(81, .src run_s_l01From), (82, .box run_s_l07With), (98, .box run_s_l07DrawOf), (97, .box run_s_l07Bad), (85, .box run_s_l01BadField)]⟩
theorem SO_s_DrawProductOfMoves : SumsOK Tryz.prog S_s_DrawProductOfMoves := ⟨tblS_ok ⟨⟨Tryz.call94, sound_s_l01In⟩, True.intro⟩, tblM_ok ⟨⟨Tryz.call81, sound_s_l01From⟩, ⟨Tryz.call82, sound_s_l07With⟩, ⟨Tryz.call98, sound_s_l07DrawOf⟩, ⟨Tryz.call97, sound_s_l07Bad⟩, ⟨Tryz.call85, sound_s_l01BadField⟩, True.intro⟩⟩
def Fo_s_DrawProductOfMoves (coden : Nat) (codel : List Int) : Option (Int × (Int × Int × Int × Int × Int × Int) × Int × Int × Int × Int × Int × Int) :=
  (if (codeB coden codel) = true then (if (srcB coden codel (s_l01From coden codel)) = true then (if (!(k25_1 coden codel)) = true then (if (srcB coden codel ((k25_0 coden codel).2.2.2.2.2) && drB ((k25_0 coden codel).1) 1) = true then (if (srcB coden codel ((k25_2 coden codel).2.2.2) && prB ((k25_0 coden codel).1)) = true then (if (srcB coden codel ((k25_3 coden codel).2.2.2) && prB ((k25_0 coden codel).1)) = true then some ((k25_4 coden codel).1, ((k25_0 coden codel).2.2.1), ((k25_3 coden codel).1)) else none) else none) else none) else (if (srcB coden codel ((k25_0 coden codel).2.2.2.2.2) && drB ((k25_0 coden codel).1) ((k25_0 coden codel).2.1)) = true then (if (srcB coden codel ((k25_5 coden codel).2.2.2) && prB ((k25_0 coden codel).1)) = true then (if (srcB coden codel ((k25_6 coden codel).2.2.2) && prB ((k25_0 coden codel).1)) = true then some ((k25_7 coden codel).1, ((k25_0 coden codel).2.2.1), ((k25_6 coden codel).1)) else none) else none) else none)) else none) else none)
theorem eq_s_DrawProductOfMoves (coden : Nat) (codel : List Int) : execT Tryz.prog S_s_DrawProductOfMoves 25 33 (fun _ => 1000000) dec_i_a6_a6 [.s coden (.byts codel)] = Fo_s_DrawProductOfMoves coden codel := by
  kernel_rfl
def s_DrawProductOfMoves_d (coden : Nat) (codel : List Int) : Int × (Int × Int × Int × Int × Int × Int) × Int × Int × Int × Int × Int × Int :=
  (if (!(k25_1 coden codel)) = true then ((k25_4 coden codel).1, ((k25_0 coden codel).2.2.1), ((k25_3 coden codel).1)) else ((k25_7 coden codel).1, ((k25_0 coden codel).2.2.1), ((k25_6 coden codel).1)))
def s_DrawProductOfMoves : (Nat) → (List Int) → (Int × (Int × Int × Int × Int × Int × Int) × Int × Int × Int × Int × Int × Int) := shut s_DrawProductOfMoves_d
theorem s_DrawProductOfMoves_eq (coden : Nat) (codel : List Int) : s_DrawProductOfMoves coden codel = s_DrawProductOfMoves_d coden codel := by
  unfold s_DrawProductOfMoves
  rw [shut_eq]
theorem tot_s_DrawProductOfMoves (coden : Nat) (codel : List Int) (hp : (codeB coden codel) = true) : Fo_s_DrawProductOfMoves coden codel = some (s_DrawProductOfMoves coden codel) := by
  have hc := hp
  rw [s_DrawProductOfMoves_eq]
  unfold Fo_s_DrawProductOfMoves s_DrawProductOfMoves_d
  (try simp only [wI_eq])
  repeat' (first | with_reducible rfl | refine chk_opt (by first | (with_reducible assumption) | ((repeat (with_reducible first | assumption | exact s_l01From_src hc | apply post_s_l07With | apply post_s_l07DrawOf | apply post_s_l07Bad | apply post_s_l01BadField)); done) | (with_reducible exact field_prB9 _ _ _ (by ((repeat (with_reducible first | assumption | exact s_l01From_src hc | apply post_s_l07With | apply post_s_l07DrawOf | apply post_s_l07Bad | apply post_s_l01BadField)); done))) | fail | exact and_two (by ((repeat (with_reducible first | assumption | exact s_l01From_src hc | apply post_s_l07With | apply post_s_l07DrawOf | apply post_s_l07Bad | apply post_s_l01BadField)); done)) (with_prB _ _ _ (by ((repeat (with_reducible first | assumption | exact s_l01From_src hc | apply post_s_l07With | apply post_s_l07DrawOf | apply post_s_l07Bad | apply post_s_l01BadField)); done))) | exact and_two (by ((repeat (with_reducible first | assumption | exact s_l01From_src hc | apply post_s_l07With | apply post_s_l07DrawOf | apply post_s_l07Bad | apply post_s_l01BadField)); done)) (with_drB _ _ _ (by ((repeat (with_reducible first | assumption | exact s_l01From_src hc | apply post_s_l07With | apply post_s_l07DrawOf | apply post_s_l07Bad | apply post_s_l01BadField)); done)) (by first | rfl | exact in_of_not (by assumption))) | exact pos_idx ‹_› | exact and_two (by ((repeat (with_reducible first | assumption | exact s_l01From_src hc | apply post_s_l07With | apply post_s_l07DrawOf | apply post_s_l07Bad | apply post_s_l01BadField)); done)) (by (first | (with_reducible assumption) | with_reducible exact field_prB9 _ _ _ (by ((repeat (with_reducible first | assumption | exact s_l01From_src hc | apply post_s_l07With | apply post_s_l07DrawOf | apply post_s_l07Bad | apply post_s_l01BadField)); done)) | fail | rfl)) | exact pos_cell ‹_› (by (first | exact flat2_len _ | exact flat3_len _)) | exact idx_ok (next_rng _ _ _ _ (by ((repeat (with_reducible first | assumption | exact s_l01From_src hc | apply post_s_l07With | apply post_s_l07DrawOf | apply post_s_l07Bad | apply post_s_l01BadField)); done)) (by decide)) | exact ble_ok (next_ble _ _ _ _ (by ((repeat (with_reducible first | assumption | exact s_l01From_src hc | apply post_s_l07With | apply post_s_l07DrawOf | apply post_s_l07Bad | apply post_s_l01BadField)); done)) (by decide) (by decide)) | exact ble_ok (next_ble0 _ _ _ _ (by ((repeat (with_reducible first | assumption | exact s_l01From_src hc | apply post_s_l07With | apply post_s_l07DrawOf | apply post_s_l07Bad | apply post_s_l01BadField)); done)) (by decide) (by decide)) | exact idx_ok (next_rng _ _ _ _ (by ((repeat (with_reducible first | assumption | exact s_l01From_src hc | apply post_s_l07With | apply post_s_l07DrawOf | apply post_s_l07Bad | apply post_s_l01BadField)); done)) (pos_one ‹_›)) | exact next_cell (by ((repeat (with_reducible first | assumption | exact s_l01From_src hc | apply post_s_l07With | apply post_s_l07DrawOf | apply post_s_l07Bad | apply post_s_l01BadField)); done)) ‹_› (by (first | exact flat2_len _ | exact flat3_len _))) ?_ | refine ite_opt (fun _ => ?_) (fun _ => ?_) | rfl)
def run_s_DrawProductOfMoves : List PV → Option (Bool × List TR)
  | [.s coden (.byts codel)] => some (codeB coden codel, enc_i_a6_a6 (s_DrawProductOfMoves coden codel))
  | _ => none
theorem sound_s_DrawProductOfMoves : Sound Tryz.prog 25 run_s_DrawProductOfMoves := by
  refine sound_of de_i_a6_a6 SO_s_DrawProductOfMoves (by kernel_rfl) Tryz.func25 Tryz.ntmps25 rfl (by kernel_rfl) ?_
  intro W pvs avs rs hargs hrun
  unfold run_s_DrawProductOfMoves at hrun
  split at hrun
  · simp only [Option.some.injEq, Prod.mk.injEq] at hrun
    obtain ⟨hp, rfl⟩ := hrun
    rename_i coden codel
    exact ⟨_, _, _, hargs, rfl, (eq_s_DrawProductOfMoves coden codel).trans (tot_s_DrawProductOfMoves coden codel hp)⟩
  · cases hrun

def dec_i_a6 : List TR → Option (Int × Int × Int × Int × Int × Int × Int)
  | [.v (.int .i64 x0), .v (.agg ⟨[.int .i64 x1_0, .int .i64 x1_1, .int .i64 x1_2, .int .i64 x1_3, .int .i64 x1_4, .int .i64 x1_5]⟩)] => some (x0, (x1_0, x1_1, x1_2, x1_3, x1_4, x1_5))
  | _ => none
def enc_i_a6 : Int × Int × Int × Int × Int × Int × Int → List TR
  | (x0, (x1_0, x1_1, x1_2, x1_3, x1_4, x1_5)) => [.v (.int .i64 x0), .v (.agg ⟨[.int .i64 x1_0, .int .i64 x1_1, .int .i64 x1_2, .int .i64 x1_3, .int .i64 x1_4, .int .i64 x1_5]⟩)]
theorem de_i_a6 (rs : List TR) (x : Int × Int × Int × Int × Int × Int × Int) (h : dec_i_a6 rs = some x) : rs = enc_i_a6 x := by
  unfold dec_i_a6 at h
  split at h
  · simp only [Option.some.injEq] at h
    subst h
    rfl
  · cases h
def S_s_DrawFixedPoints : Sums := ⟨tblS [(46, run_s_l07Given)], tblM []⟩
theorem SO_s_DrawFixedPoints : SumsOK Tryz.prog S_s_DrawFixedPoints := ⟨tblS_ok ⟨⟨Tryz.call46, sound_s_l07Given⟩, True.intro⟩, tblM_ok True.intro⟩
def Fo_s_DrawFixedPoints (coden : Nat) (codel : List Int) : Option (Int × Int × Int × Int × Int × Int × Int) :=
  (if (codeB coden codel) = true then some ((s_l07Given coden codel).1, ((s_l07Given coden codel).2.2)) else none)
theorem eq_s_DrawFixedPoints (coden : Nat) (codel : List Int) : execT Tryz.prog S_s_DrawFixedPoints 27 15 (fun _ => 1000000) dec_i_a6 [.s coden (.byts codel)] = Fo_s_DrawFixedPoints coden codel := by
  kernel_rfl
def s_DrawFixedPoints_d (coden : Nat) (codel : List Int) : Int × Int × Int × Int × Int × Int × Int :=
  ((s_l07Given coden codel).1, ((s_l07Given coden codel).2.2))
def s_DrawFixedPoints : (Nat) → (List Int) → (Int × Int × Int × Int × Int × Int × Int) := shut s_DrawFixedPoints_d
theorem s_DrawFixedPoints_eq (coden : Nat) (codel : List Int) : s_DrawFixedPoints coden codel = s_DrawFixedPoints_d coden codel := by
  unfold s_DrawFixedPoints
  rw [shut_eq]
theorem tot_s_DrawFixedPoints (coden : Nat) (codel : List Int) (hp : (codeB coden codel) = true) : Fo_s_DrawFixedPoints coden codel = some (s_DrawFixedPoints coden codel) := by
  have hc := hp
  rw [s_DrawFixedPoints_eq]
  unfold Fo_s_DrawFixedPoints s_DrawFixedPoints_d
  (try simp only [wI_eq])
  repeat' (first | with_reducible rfl | refine chk_opt (by first | (with_reducible assumption) | ((repeat (with_reducible first | assumption)); done) | (with_reducible exact field_prB9 _ _ _ (by ((repeat (with_reducible first | assumption)); done))) | fail | exact pos_idx ‹_› | exact and_two (by ((repeat (with_reducible first | assumption)); done)) (by (first | (with_reducible assumption) | with_reducible exact field_prB9 _ _ _ (by ((repeat (with_reducible first | assumption)); done)) | fail | rfl)) | exact pos_cell ‹_› (by (first | exact flat2_len _ | exact flat3_len _)) | exact idx_ok (next_rng _ _ _ _ (by ((repeat (with_reducible first | assumption)); done)) (by decide)) | exact ble_ok (next_ble _ _ _ _ (by ((repeat (with_reducible first | assumption)); done)) (by decide) (by decide)) | exact ble_ok (next_ble0 _ _ _ _ (by ((repeat (with_reducible first | assumption)); done)) (by decide) (by decide)) | exact idx_ok (next_rng _ _ _ _ (by ((repeat (with_reducible first | assumption)); done)) (pos_one ‹_›)) | exact next_cell (by ((repeat (with_reducible first | assumption)); done)) ‹_› (by (first | exact flat2_len _ | exact flat3_len _))) ?_ | refine ite_opt (fun _ => ?_) (fun _ => ?_) | rfl)
def run_s_DrawFixedPoints : List PV → Option (Bool × List TR)
  | [.s coden (.byts codel)] => some (codeB coden codel, enc_i_a6 (s_DrawFixedPoints coden codel))
  | _ => none
theorem sound_s_DrawFixedPoints : Sound Tryz.prog 27 run_s_DrawFixedPoints := by
  refine sound_of de_i_a6 SO_s_DrawFixedPoints (by kernel_rfl) Tryz.func27 Tryz.ntmps27 rfl (by kernel_rfl) ?_
  intro W pvs avs rs hargs hrun
  unfold run_s_DrawFixedPoints at hrun
  split at hrun
  · simp only [Option.some.injEq, Prod.mk.injEq] at hrun
    obtain ⟨hp, rfl⟩ := hrun
    rename_i coden codel
    exact ⟨_, _, _, hargs, rfl, (eq_s_DrawFixedPoints coden codel).trans (tot_s_DrawFixedPoints coden codel hp)⟩
  · cases hrun

def S_s_l01Parallel : Sums := ⟨tblS [(134, run_s_l01Mod)], tblM []⟩
theorem SO_s_l01Parallel : SumsOK Tryz.prog S_s_l01Parallel := ⟨tblS_ok ⟨⟨Tryz.call134, sound_s_l01Mod⟩, True.intro⟩, tblM_ok True.intro⟩
def Fo_s_l01Parallel (p : Int) (l : Int × Int × Int) (a : Int × Int) : Option (Int × Int × Int) :=
  (if (prB p) = true then some (l.1, l.2.1, (s_l01Mod (wI ((wI ((wI (0 - l.1)) * a.1)) - (wI (l.2.1 * a.2)))) p)) else none)
theorem eq_s_l01Parallel (p : Int) (l : Int × Int × Int) (a : Int × Int) : execT Tryz.prog S_s_l01Parallel 145 26 (fun _ => 1000000) dec_a3 [.v (.int .i64 p), .v (.agg ⟨[.int .i64 l.1, .int .i64 l.2.1, .int .i64 l.2.2]⟩), .v (.agg ⟨[.int .i64 a.1, .int .i64 a.2]⟩)] = Fo_s_l01Parallel p l a := by
  kernel_rfl
def s_l01Parallel (p : Int) (l : Int × Int × Int) (a : Int × Int) : Int × Int × Int :=
  (l.1, l.2.1, (s_l01Mod (wrap64 ((wrap64 ((wrap64 (0 - l.1)) * a.1)) - (wrap64 (l.2.1 * a.2)))) p))
theorem tot_s_l01Parallel (p : Int) (l : Int × Int × Int) (a : Int × Int) (hp : (prB p) = true) : Fo_s_l01Parallel p l a = some (s_l01Parallel p l a) := by
  try have h0 := prB_ne hp
  unfold Fo_s_l01Parallel s_l01Parallel
  (try simp only [wI_eq])
  repeat' (first | with_reducible rfl | with_reducible refine chk_opt hp ?_ | with_reducible refine chk_opt h0 ?_ | refine chk_opt (and_all hp fun _ => hp) ?_ | refine chk_opt (and_all hp fun _ => rfl) ?_ | refine ite_opt (fun _ => ?_) (fun _ => ?_) | rfl)
def run_s_l01Parallel : List PV → Option (Bool × List TR)
  | [.v (.int .i64 p), .v (.agg ⟨[.int .i64 l0, .int .i64 l1, .int .i64 l2]⟩), .v (.agg ⟨[.int .i64 a0, .int .i64 a1]⟩)] => some (prB p, enc_a3 (s_l01Parallel p (l0, l1, l2) (a0, a1)))
  | _ => none
theorem sound_s_l01Parallel : Sound Tryz.prog 145 run_s_l01Parallel := by
  refine sound_of de_a3 SO_s_l01Parallel (by kernel_rfl) Tryz.func145 Tryz.ntmps145 rfl (by kernel_rfl) ?_
  intro W pvs avs rs hargs hrun
  unfold run_s_l01Parallel at hrun
  split at hrun
  · simp only [Option.some.injEq, Prod.mk.injEq] at hrun
    obtain ⟨hp, rfl⟩ := hrun
    rename_i p l0 l1 l2 a0 a1
    exact ⟨_, _, _, hargs, rfl, (eq_s_l01Parallel p (l0, l1, l2) (a0, a1)).trans (tot_s_l01Parallel p (l0, l1, l2) (a0, a1) hp)⟩
  · cases hrun

def dec_i_a2_a3 : List TR → Option (Int × (Int × Int) × Int × Int × Int)
  | [.v (.int .i64 x0), .v (.agg ⟨[.int .i64 x1_0, .int .i64 x1_1]⟩), .v (.agg ⟨[.int .i64 x2_0, .int .i64 x2_1, .int .i64 x2_2]⟩)] => some (x0, (x1_0, x1_1), (x2_0, x2_1, x2_2))
  | _ => none
def enc_i_a2_a3 : Int × (Int × Int) × Int × Int × Int → List TR
  | (x0, (x1_0, x1_1), (x2_0, x2_1, x2_2)) => [.v (.int .i64 x0), .v (.agg ⟨[.int .i64 x1_0, .int .i64 x1_1]⟩), .v (.agg ⟨[.int .i64 x2_0, .int .i64 x2_1, .int .i64 x2_2]⟩)]
theorem de_i_a2_a3 (rs : List TR) (x : Int × (Int × Int) × Int × Int × Int) (h : dec_i_a2_a3 rs = some x) : rs = enc_i_a2_a3 x := by
  unfold dec_i_a2_a3 at h
  split at h
  · simp only [Option.some.injEq] at h
    subst h
    rfl
  · cases h
abbrev k99_0 (coden : Nat) (codel : List Int) : Int × Nat × List Int × Int × Int := (s_l01DrawField coden codel (s_l01From coden codel))
abbrev k99_1 (coden : Nat) (codel : List Int) : (Int × Int) × Nat × List Int × Int × Int := (s_l01DrawPoint coden codel ((k99_0 coden codel).2.2.2) ((k99_0 coden codel).1))
abbrev k99_2 (coden : Nat) (codel : List Int) : (Int × Int × Int) × Nat × List Int × Int × Int := (s_l01DrawLine coden codel ((k99_1 coden codel).2.2.2) ((k99_0 coden codel).1))
abbrev k99_3 (coden : Nat) (codel : List Int) : Int × Nat × List Int × Int × Int := (s_l01Next coden codel ((k99_2 coden codel).2.2.2) 2)
abbrev k99_4 (coden : Nat) (codel : List Int) : Int × Int × Int := (s_l01Parallel ((k99_0 coden codel).1) ((k99_2 coden codel).1) ((k99_1 coden codel).1))
abbrev k99_5 (coden : Nat) (codel : List Int) : Int × Nat × List Int × Int × Int := (s_l01BadField coden codel ((k99_3 coden codel).2.2.2) ((k99_0 coden codel).1))
abbrev k99_6 (coden : Nat) (codel : List Int) : (Int × Int) × Nat × List Int × Int × Int := (s_l01BadPoint coden codel ((k99_5 coden codel).2.2.2) ((k99_0 coden codel).1) ((k99_1 coden codel).1))
abbrev k99_7 (coden : Nat) (codel : List Int) : (Int × Int × Int) × Nat × List Int × Int × Int := (s_l01BadLine coden codel ((k99_6 coden codel).2.2.2) ((k99_0 coden codel).1) (k99_4 coden codel))
abbrev k99_8 (coden : Nat) (codel : List Int) : (Int × Int × Int) × Nat × List Int × Int × Int := (s_l01BadLine coden codel ((k99_6 coden codel).2.2.2) ((k99_0 coden codel).1) ((k99_2 coden codel).1))
def S_s_l01Flag : Sums := ⟨tblS [(145, run_s_l01Parallel)], tblM [(81, .src run_s_l01From), (144, .box run_s_l01DrawField), (84, .box run_s_l01DrawPoint), (90, .box run_s_l01DrawLine), (124, .box run_s_l01Next), (85, .box run_s_l01BadField), (83, .box run_s_l01BadPoint), (89, .box run_s_l01BadLine)]⟩
theorem SO_s_l01Flag : SumsOK Tryz.prog S_s_l01Flag := ⟨tblS_ok ⟨⟨Tryz.call145, sound_s_l01Parallel⟩, True.intro⟩, tblM_ok ⟨⟨Tryz.call81, sound_s_l01From⟩, ⟨Tryz.call144, sound_s_l01DrawField⟩, ⟨Tryz.call84, sound_s_l01DrawPoint⟩, ⟨Tryz.call90, sound_s_l01DrawLine⟩, ⟨Tryz.call124, sound_s_l01Next⟩, ⟨Tryz.call85, sound_s_l01BadField⟩, ⟨Tryz.call83, sound_s_l01BadPoint⟩, ⟨Tryz.call89, sound_s_l01BadLine⟩, True.intro⟩⟩
def Fo_s_l01Flag (coden : Nat) (codel : List Int) : Option (Int × (Int × Int) × Int × Int × Int) :=
  (if (codeB coden codel) = true then (if (srcB coden codel (s_l01From coden codel)) = true then (if (srcB coden codel ((k99_0 coden codel).2.2.2) && prB ((k99_0 coden codel).1)) = true then (if (srcB coden codel ((k99_1 coden codel).2.2.2) && prB ((k99_0 coden codel).1)) = true then (if (srcB coden codel ((k99_2 coden codel).2.2.2)) = true then (if (((k99_3 coden codel).1) == 0) = true then (if (prB ((k99_0 coden codel).1)) = true then (if (srcB coden codel ((k99_3 coden codel).2.2.2) && prB ((k99_0 coden codel).1)) = true then (if (srcB coden codel ((k99_5 coden codel).2.2.2) && prB ((k99_0 coden codel).1)) = true then (if (srcB coden codel ((k99_6 coden codel).2.2.2) && prB ((k99_0 coden codel).1)) = true then some ((k99_5 coden codel).1, ((k99_6 coden codel).1), ((k99_7 coden codel).1)) else none) else none) else none) else none) else (if (srcB coden codel ((k99_3 coden codel).2.2.2) && prB ((k99_0 coden codel).1)) = true then (if (srcB coden codel ((k99_5 coden codel).2.2.2) && prB ((k99_0 coden codel).1)) = true then (if (srcB coden codel ((k99_6 coden codel).2.2.2) && prB ((k99_0 coden codel).1)) = true then some ((k99_5 coden codel).1, ((k99_6 coden codel).1), ((k99_8 coden codel).1)) else none) else none) else none)) else none) else none) else none) else none) else none)
theorem eq_s_l01Flag (coden : Nat) (codel : List Int) : execT Tryz.prog S_s_l01Flag 99 37 (fun _ => 1000000) dec_i_a2_a3 [.s coden (.byts codel)] = Fo_s_l01Flag coden codel := by
  kernel_rfl
def s_l01Flag_d (coden : Nat) (codel : List Int) : Int × (Int × Int) × Int × Int × Int :=
  (if (((k99_3 coden codel).1) == 0) = true then ((k99_5 coden codel).1, ((k99_6 coden codel).1), ((k99_7 coden codel).1)) else ((k99_5 coden codel).1, ((k99_6 coden codel).1), ((k99_8 coden codel).1)))
def s_l01Flag : (Nat) → (List Int) → (Int × (Int × Int) × Int × Int × Int) := shut s_l01Flag_d
theorem s_l01Flag_eq (coden : Nat) (codel : List Int) : s_l01Flag coden codel = s_l01Flag_d coden codel := by
  unfold s_l01Flag
  rw [shut_eq]
theorem tot_s_l01Flag (coden : Nat) (codel : List Int) (hp : (codeB coden codel) = true) : Fo_s_l01Flag coden codel = some (s_l01Flag coden codel) := by
  have hc := hp
  rw [s_l01Flag_eq]
  unfold Fo_s_l01Flag s_l01Flag_d
  (try simp only [wI_eq])
  repeat' (first | with_reducible rfl | refine chk_opt (by first | (with_reducible assumption) | ((repeat (with_reducible first | assumption | exact s_l01From_src hc | apply post_s_l01DrawField | apply post_s_l01DrawPoint | apply post_s_l01DrawLine | apply post_s_l01Next | apply post_s_l01BadField | apply post_s_l01BadPoint | apply post_s_l01BadLine)); done) | (with_reducible exact field_prB9 _ _ _ (by ((repeat (with_reducible first | assumption | exact s_l01From_src hc | apply post_s_l01DrawField | apply post_s_l01DrawPoint | apply post_s_l01DrawLine | apply post_s_l01Next | apply post_s_l01BadField | apply post_s_l01BadPoint | apply post_s_l01BadLine)); done))) | fail | exact pos_idx ‹_› | exact and_two (by ((repeat (with_reducible first | assumption | exact s_l01From_src hc | apply post_s_l01DrawField | apply post_s_l01DrawPoint | apply post_s_l01DrawLine | apply post_s_l01Next | apply post_s_l01BadField | apply post_s_l01BadPoint | apply post_s_l01BadLine)); done)) (by (first | (with_reducible assumption) | with_reducible exact field_prB9 _ _ _ (by ((repeat (with_reducible first | assumption | exact s_l01From_src hc | apply post_s_l01DrawField | apply post_s_l01DrawPoint | apply post_s_l01DrawLine | apply post_s_l01Next | apply post_s_l01BadField | apply post_s_l01BadPoint | apply post_s_l01BadLine)); done)) | fail | rfl)) | exact pos_cell ‹_› (by (first | exact flat2_len _ | exact flat3_len _)) | exact idx_ok (next_rng _ _ _ _ (by ((repeat (with_reducible first | assumption | exact s_l01From_src hc | apply post_s_l01DrawField | apply post_s_l01DrawPoint | apply post_s_l01DrawLine | apply post_s_l01Next | apply post_s_l01BadField | apply post_s_l01BadPoint | apply post_s_l01BadLine)); done)) (by decide)) | exact ble_ok (next_ble _ _ _ _ (by ((repeat (with_reducible first | assumption | exact s_l01From_src hc | apply post_s_l01DrawField | apply post_s_l01DrawPoint | apply post_s_l01DrawLine | apply post_s_l01Next | apply post_s_l01BadField | apply post_s_l01BadPoint | apply post_s_l01BadLine)); done)) (by decide) (by decide)) | exact ble_ok (next_ble0 _ _ _ _ (by ((repeat (with_reducible first | assumption | exact s_l01From_src hc | apply post_s_l01DrawField | apply post_s_l01DrawPoint | apply post_s_l01DrawLine | apply post_s_l01Next | apply post_s_l01BadField | apply post_s_l01BadPoint | apply post_s_l01BadLine)); done)) (by decide) (by decide)) | exact idx_ok (next_rng _ _ _ _ (by ((repeat (with_reducible first | assumption | exact s_l01From_src hc | apply post_s_l01DrawField | apply post_s_l01DrawPoint | apply post_s_l01DrawLine | apply post_s_l01Next | apply post_s_l01BadField | apply post_s_l01BadPoint | apply post_s_l01BadLine)); done)) (pos_one ‹_›)) | exact next_cell (by ((repeat (with_reducible first | assumption | exact s_l01From_src hc | apply post_s_l01DrawField | apply post_s_l01DrawPoint | apply post_s_l01DrawLine | apply post_s_l01Next | apply post_s_l01BadField | apply post_s_l01BadPoint | apply post_s_l01BadLine)); done)) ‹_› (by (first | exact flat2_len _ | exact flat3_len _))) ?_ | refine ite_opt (fun _ => ?_) (fun _ => ?_) | rfl)
def run_s_l01Flag : List PV → Option (Bool × List TR)
  | [.s coden (.byts codel)] => some (codeB coden codel, enc_i_a2_a3 (s_l01Flag coden codel))
  | _ => none
theorem sound_s_l01Flag : Sound Tryz.prog 99 run_s_l01Flag := by
  refine sound_of de_i_a2_a3 SO_s_l01Flag (by kernel_rfl) Tryz.func99 Tryz.ntmps99 rfl (by kernel_rfl) ?_
  intro W pvs avs rs hargs hrun
  unfold run_s_l01Flag at hrun
  split at hrun
  · simp only [Option.some.injEq, Prod.mk.injEq] at hrun
    obtain ⟨hp, rfl⟩ := hrun
    rename_i coden codel
    exact ⟨_, _, _, hargs, rfl, (eq_s_l01Flag coden codel).trans (tot_s_l01Flag coden codel hp)⟩
  · cases hrun

def dec_i_a2 : List TR → Option (Int × Int × Int)
  | [.v (.int .i64 x0), .v (.agg ⟨[.int .i64 x1_0, .int .i64 x1_1]⟩)] => some (x0, (x1_0, x1_1))
  | _ => none
def enc_i_a2 : Int × Int × Int → List TR
  | (x0, (x1_0, x1_1)) => [.v (.int .i64 x0), .v (.agg ⟨[.int .i64 x1_0, .int .i64 x1_1]⟩)]
theorem de_i_a2 (rs : List TR) (x : Int × Int × Int) (h : dec_i_a2 rs = some x) : rs = enc_i_a2 x := by
  unfold dec_i_a2 at h
  split at h
  · simp only [Option.some.injEq] at h
    subst h
    rfl
  · cases h
def S_s_DrawShiftBy : Sums := ⟨tblS [(99, run_s_l01Flag)], tblM []⟩
theorem SO_s_DrawShiftBy : SumsOK Tryz.prog S_s_DrawShiftBy := ⟨tblS_ok ⟨⟨Tryz.call99, sound_s_l01Flag⟩, True.intro⟩, tblM_ok True.intro⟩
def Fo_s_DrawShiftBy (coden : Nat) (codel : List Int) : Option (Int × Int × Int) :=
  (if (codeB coden codel) = true then some ((s_l01Flag coden codel).1, ((s_l01Flag coden codel).2.1)) else none)
theorem eq_s_DrawShiftBy (coden : Nat) (codel : List Int) : execT Tryz.prog S_s_DrawShiftBy 29 15 (fun _ => 1000000) dec_i_a2 [.s coden (.byts codel)] = Fo_s_DrawShiftBy coden codel := by
  kernel_rfl
def s_DrawShiftBy_d (coden : Nat) (codel : List Int) : Int × Int × Int :=
  ((s_l01Flag coden codel).1, ((s_l01Flag coden codel).2.1))
def s_DrawShiftBy : (Nat) → (List Int) → (Int × Int × Int) := shut s_DrawShiftBy_d
theorem s_DrawShiftBy_eq (coden : Nat) (codel : List Int) : s_DrawShiftBy coden codel = s_DrawShiftBy_d coden codel := by
  unfold s_DrawShiftBy
  rw [shut_eq]
theorem tot_s_DrawShiftBy (coden : Nat) (codel : List Int) (hp : (codeB coden codel) = true) : Fo_s_DrawShiftBy coden codel = some (s_DrawShiftBy coden codel) := by
  have hc := hp
  rw [s_DrawShiftBy_eq]
  unfold Fo_s_DrawShiftBy s_DrawShiftBy_d
  (try simp only [wI_eq])
  repeat' (first | with_reducible rfl | refine chk_opt (by first | (with_reducible assumption) | ((repeat (with_reducible first | assumption)); done) | (with_reducible exact field_prB9 _ _ _ (by ((repeat (with_reducible first | assumption)); done))) | fail | exact pos_idx ‹_› | exact and_two (by ((repeat (with_reducible first | assumption)); done)) (by (first | (with_reducible assumption) | with_reducible exact field_prB9 _ _ _ (by ((repeat (with_reducible first | assumption)); done)) | fail | rfl)) | exact pos_cell ‹_› (by (first | exact flat2_len _ | exact flat3_len _)) | exact idx_ok (next_rng _ _ _ _ (by ((repeat (with_reducible first | assumption)); done)) (by decide)) | exact ble_ok (next_ble _ _ _ _ (by ((repeat (with_reducible first | assumption)); done)) (by decide) (by decide)) | exact ble_ok (next_ble0 _ _ _ _ (by ((repeat (with_reducible first | assumption)); done)) (by decide) (by decide)) | exact idx_ok (next_rng _ _ _ _ (by ((repeat (with_reducible first | assumption)); done)) (pos_one ‹_›)) | exact next_cell (by ((repeat (with_reducible first | assumption)); done)) ‹_› (by (first | exact flat2_len _ | exact flat3_len _))) ?_ | refine ite_opt (fun _ => ?_) (fun _ => ?_) | rfl)
def run_s_DrawShiftBy : List PV → Option (Bool × List TR)
  | [.s coden (.byts codel)] => some (codeB coden codel, enc_i_a2 (s_DrawShiftBy coden codel))
  | _ => none
theorem sound_s_DrawShiftBy : Sound Tryz.prog 29 run_s_DrawShiftBy := by
  refine sound_of de_i_a2 SO_s_DrawShiftBy (by kernel_rfl) Tryz.func29 Tryz.ntmps29 rfl (by kernel_rfl) ?_
  intro W pvs avs rs hargs hrun
  unfold run_s_DrawShiftBy at hrun
  split at hrun
  · simp only [Option.some.injEq, Prod.mk.injEq] at hrun
    obtain ⟨hp, rfl⟩ := hrun
    rename_i coden codel
    exact ⟨_, _, _, hargs, rfl, (eq_s_DrawShiftBy coden codel).trans (tot_s_DrawShiftBy coden codel hp)⟩
  · cases hrun

abbrev k146_0 (sn : Nat) (sl : List Int) (ss : Int × Int) : Int × Nat × List Int × Int × Int := (s_l01Pick sn sl ss 17 [0, 0, 0, 1, 1, 1, 2, 2, 2, 0, 1, 2, 0, 1, 2, 3, (-1)])
def S_s_l03DrawColour : Sums := ⟨tblS [], tblM [(123, .box run_s_l01Pick)]⟩
theorem SO_s_l03DrawColour : SumsOK Tryz.prog S_s_l03DrawColour := ⟨tblS_ok True.intro, tblM_ok ⟨⟨Tryz.call123, sound_s_l01Pick⟩, True.intro⟩⟩
def Fo_s_l03DrawColour (sn : Nat) (sl : List Int) (ss : Int × Int) : Option (Int × Nat × List Int × Int × Int) :=
  (if (srcB sn sl ss && (lenB 17 1 ([0, 0, 0, 1, 1, 1, 2, 2, 2, 0, 1, 2, 0, 1, 2, 3, (-1)]) && Nat.blt 0 17)) = true then some ((k146_0 sn sl ss).1, sn, sl, (k146_0 sn sl ss).2.2.2) else none)
theorem eq_s_l03DrawColour (sn : Nat) (sl : List Int) (ss : Int × Int) : execP Tryz.prog S_s_l03DrawColour 146 6 (fun _ => 1000000) dec_P142_i 142 [.s sn (.byts sl), .v (.int .i64 ss.1), .v (.int .u64 ss.2)] [] = Fo_s_l03DrawColour sn sl ss := by
  kernel_rfl
def s_l03DrawColour_d (sn : Nat) (sl : List Int) (ss : Int × Int) : Int × Nat × List Int × Int × Int :=
  ((k146_0 sn sl ss).1, sn, sl, (k146_0 sn sl ss).2.2.2)
def s_l03DrawColour : (Nat) → (List Int) → (Int × Int) → (Int × Nat × List Int × Int × Int) := shut s_l03DrawColour_d
theorem s_l03DrawColour_eq (sn : Nat) (sl : List Int) (ss : Int × Int) : s_l03DrawColour sn sl ss = s_l03DrawColour_d sn sl ss := by
  unfold s_l03DrawColour
  rw [shut_eq]
theorem tot_s_l03DrawColour (sn : Nat) (sl : List Int) (ss : Int × Int) (hp : (srcB sn sl ss) = true) : Fo_s_l03DrawColour sn sl ss = some (s_l03DrawColour sn sl ss) := by
  have hs := hp
  have hc := (srcB_ok hs).1
  rw [s_l03DrawColour_eq]
  unfold Fo_s_l03DrawColour s_l03DrawColour_d
  (try simp only [wI_eq])
  repeat' (first | with_reducible rfl | refine chk_opt (by first | (with_reducible assumption) | ((repeat (with_reducible first | assumption | apply post_s_l01Pick)); done) | (with_reducible exact field_prB9 _ _ _ (by ((repeat (with_reducible first | assumption | apply post_s_l01Pick)); done))) | fail | exact pos_idx ‹_› | exact and_two (by ((repeat (with_reducible first | assumption | apply post_s_l01Pick)); done)) (by (first | (with_reducible assumption) | with_reducible exact field_prB9 _ _ _ (by ((repeat (with_reducible first | assumption | apply post_s_l01Pick)); done)) | fail | rfl)) | exact pos_cell ‹_› (by (first | exact flat2_len _ | exact flat3_len _)) | exact idx_ok (next_rng _ _ _ _ (by ((repeat (with_reducible first | assumption | apply post_s_l01Pick)); done)) (by decide)) | exact ble_ok (next_ble _ _ _ _ (by ((repeat (with_reducible first | assumption | apply post_s_l01Pick)); done)) (by decide) (by decide)) | exact ble_ok (next_ble0 _ _ _ _ (by ((repeat (with_reducible first | assumption | apply post_s_l01Pick)); done)) (by decide) (by decide)) | exact idx_ok (next_rng _ _ _ _ (by ((repeat (with_reducible first | assumption | apply post_s_l01Pick)); done)) (pos_one ‹_›)) | exact next_cell (by ((repeat (with_reducible first | assumption | apply post_s_l01Pick)); done)) ‹_› (by (first | exact flat2_len _ | exact flat3_len _))) ?_ | refine ite_opt (fun _ => ?_) (fun _ => ?_) | rfl)
theorem post_s_l03DrawColour (sn : Nat) (sl : List Int) (ss : Int × Int) (hs : srcB sn sl ss = true) : srcB sn sl (s_l03DrawColour sn sl ss).2.2.2 = true := by
  have hc := (srcB_ok hs).1
  rw [s_l03DrawColour_eq]
  unfold s_l03DrawColour_d
  repeat' (first | (with_reducible first | assumption | apply post_s_l01Pick) | refine ite_ind (P := fun r : Int × Nat × List Int × Int × Int => srcB sn sl r.2.2.2 = true) ?_ ?_ | dsimp only)
def run_s_l03DrawColour : PRun
  | 142, [.s sn (.byts sl), .v (.int .i64 s_1), .v (.int .u64 s_2)], [] => some (srcB sn sl (s_1, s_2), enc_P142_i (s_l03DrawColour sn sl (s_1, s_2)))
  | _, _, _ => none
theorem sound_s_l03DrawColour : SoundP Tryz.prog 146 run_s_l03DrawColour := by
  refine soundP_of de_P142_i SO_s_l03DrawColour (by kernel_rfl) Tryz.func146 Tryz.ntmps146 rfl (by kernel_rfl) ?_
  intro e bcs pvs rs bcs' hrun
  unfold run_s_l03DrawColour at hrun
  split at hrun
  · simp only [Option.some.injEq, Prod.mk.injEq] at hrun
    obtain ⟨hp, hrun⟩ := hrun
    rename_i sn sl s_1 s_2
    exact ⟨_, s_l03DrawColour sn sl (s_1, s_2), by first | exact hrun.symm | exact (Prod.ext hrun.1 hrun.2).symm, (eq_s_l03DrawColour sn sl (s_1, s_2)).trans (tot_s_l03DrawColour sn sl (s_1, s_2) hp)⟩
  · cases hrun

def dec_i_i_a3_a3 : List TR → Option (Int × Int × (Int × Int × Int) × Int × Int × Int)
  | [.v (.int .i64 x0), .v (.int .i64 x1), .v (.agg ⟨[.int .i64 x2_0, .int .i64 x2_1, .int .i64 x2_2]⟩), .v (.agg ⟨[.int .i64 x3_0, .int .i64 x3_1, .int .i64 x3_2]⟩)] => some (x0, x1, (x2_0, x2_1, x2_2), (x3_0, x3_1, x3_2))
  | _ => none
def enc_i_i_a3_a3 : Int × Int × (Int × Int × Int) × Int × Int × Int → List TR
  | (x0, x1, (x2_0, x2_1, x2_2), (x3_0, x3_1, x3_2)) => [.v (.int .i64 x0), .v (.int .i64 x1), .v (.agg ⟨[.int .i64 x2_0, .int .i64 x2_1, .int .i64 x2_2]⟩), .v (.agg ⟨[.int .i64 x3_0, .int .i64 x3_1, .int .i64 x3_2]⟩)]
theorem de_i_i_a3_a3 (rs : List TR) (x : Int × Int × (Int × Int × Int) × Int × Int × Int) (h : dec_i_i_a3_a3 rs = some x) : rs = enc_i_i_a3_a3 x := by
  unfold dec_i_i_a3_a3 at h
  split at h
  · simp only [Option.some.injEq] at h
    subst h
    rfl
  · cases h
abbrev k101_0 (coden : Nat) (codel : List Int) : Int × Nat × List Int × Int × Int := (s_l01DrawField coden codel (s_l01From coden codel))
abbrev k101_1 (coden : Nat) (codel : List Int) : Int × Nat × List Int × Int × Int := (s_l03DrawColour coden codel ((k101_0 coden codel).2.2.2))
abbrev k101_2 (coden : Nat) (codel : List Int) : (Int × Int × Int) × Nat × List Int × Int × Int := (s_l01DrawLine coden codel ((k101_1 coden codel).2.2.2) ((k101_0 coden codel).1))
abbrev k101_3 (coden : Nat) (codel : List Int) : (Int × Int × Int) × Nat × List Int × Int × Int := (s_l01DrawLine coden codel ((k101_2 coden codel).2.2.2) ((k101_0 coden codel).1))
abbrev k101_4 (coden : Nat) (codel : List Int) : Int × Nat × List Int × Int × Int := (s_l01Next coden codel ((k101_3 coden codel).2.2.2) 6)
abbrev k101_5 (coden : Nat) (codel : List Int) : Int × Nat × List Int × Int × Int := (s_l01Next coden codel ((k101_4 coden codel).2.2.2) ((k101_0 coden codel).1))
abbrev k101_6 (coden : Nat) (codel : List Int) : Int × Nat × List Int × Int × Int := (s_l01BadField coden codel ((k101_5 coden codel).2.2.2) ((k101_0 coden codel).1))
abbrev k101_7 (coden : Nat) (codel : List Int) : (Int × Int × Int) × Nat × List Int × Int × Int := (s_l01BadLine coden codel ((k101_6 coden codel).2.2.2) ((k101_0 coden codel).1) ((k101_2 coden codel).1))
abbrev k101_8 (coden : Nat) (codel : List Int) : (Int × Int × Int) × Nat × List Int × Int × Int := (s_l01BadLine coden codel ((k101_7 coden codel).2.2.2) ((k101_0 coden codel).1) (((k101_2 coden codel).1).1, ((k101_2 coden codel).1).2.1, (k101_5 coden codel).1))
abbrev k101_9 (coden : Nat) (codel : List Int) : Int × Int × Int := (s_l01Normal ((k101_0 coden codel).1) (wI (0 - (((k101_2 coden codel).1).2.1))) (((k101_2 coden codel).1).1) ((k101_5 coden codel).1))
abbrev k101_10 (coden : Nat) (codel : List Int) : (Int × Int × Int) × Nat × List Int × Int × Int := (s_l01BadLine coden codel ((k101_7 coden codel).2.2.2) ((k101_0 coden codel).1) (k101_9 coden codel))
abbrev k101_11 (coden : Nat) (codel : List Int) : Int × Nat × List Int × Int × Int := (s_l01BadField coden codel ((k101_4 coden codel).2.2.2) ((k101_0 coden codel).1))
abbrev k101_12 (coden : Nat) (codel : List Int) : (Int × Int × Int) × Nat × List Int × Int × Int := (s_l01BadLine coden codel ((k101_11 coden codel).2.2.2) ((k101_0 coden codel).1) ((k101_2 coden codel).1))
abbrev k101_13 (coden : Nat) (codel : List Int) : (Int × Int × Int) × Nat × List Int × Int × Int := (s_l01BadLine coden codel ((k101_12 coden codel).2.2.2) ((k101_0 coden codel).1) ((k101_3 coden codel).1))
def S_s_l03Pair : Sums := ⟨tblS [(143, run_s_l01Normal)], tblM [(81, .src run_s_l01From), (144, .box run_s_l01DrawField), (146, .box run_s_l03DrawColour), (90, .box run_s_l01DrawLine), (124, .box run_s_l01Next), (85, .box run_s_l01BadField), (89, .box run_s_l01BadLine)]⟩
theorem SO_s_l03Pair : SumsOK Tryz.prog S_s_l03Pair := ⟨tblS_ok ⟨⟨Tryz.call143, sound_s_l01Normal⟩, True.intro⟩, tblM_ok ⟨⟨Tryz.call81, sound_s_l01From⟩, ⟨Tryz.call144, sound_s_l01DrawField⟩, ⟨Tryz.call146, sound_s_l03DrawColour⟩, ⟨Tryz.call90, sound_s_l01DrawLine⟩, ⟨Tryz.call124, sound_s_l01Next⟩, ⟨Tryz.call85, sound_s_l01BadField⟩, ⟨Tryz.call89, sound_s_l01BadLine⟩, True.intro⟩⟩
def Fo_s_l03Pair (coden : Nat) (codel : List Int) : Option (Int × Int × (Int × Int × Int) × Int × Int × Int) :=
  (if (codeB coden codel) = true then (if (srcB coden codel (s_l01From coden codel)) = true then (if (srcB coden codel ((k101_0 coden codel).2.2.2)) = true then (if (srcB coden codel ((k101_1 coden codel).2.2.2) && prB ((k101_0 coden codel).1)) = true then (if (srcB coden codel ((k101_2 coden codel).2.2.2) && prB ((k101_0 coden codel).1)) = true then (if (srcB coden codel ((k101_3 coden codel).2.2.2)) = true then (if (((k101_4 coden codel).1) == 0) = true then (if (srcB coden codel ((k101_4 coden codel).2.2.2)) = true then (if (srcB coden codel ((k101_5 coden codel).2.2.2) && prB ((k101_0 coden codel).1)) = true then (if (srcB coden codel ((k101_6 coden codel).2.2.2) && prB ((k101_0 coden codel).1)) = true then (if (srcB coden codel ((k101_7 coden codel).2.2.2) && prB ((k101_0 coden codel).1)) = true then some ((k101_6 coden codel).1, (k101_1 coden codel).1, ((k101_7 coden codel).1), ((k101_8 coden codel).1)) else none) else none) else none) else none) else (if (((k101_4 coden codel).1) == 1) = true then (if (srcB coden codel ((k101_4 coden codel).2.2.2)) = true then (if (prB ((k101_0 coden codel).1)) = true then (if (srcB coden codel ((k101_5 coden codel).2.2.2) && prB ((k101_0 coden codel).1)) = true then (if (srcB coden codel ((k101_6 coden codel).2.2.2) && prB ((k101_0 coden codel).1)) = true then (if (srcB coden codel ((k101_7 coden codel).2.2.2) && prB ((k101_0 coden codel).1)) = true then some ((k101_6 coden codel).1, (k101_1 coden codel).1, ((k101_7 coden codel).1), ((k101_10 coden codel).1)) else none) else none) else none) else none) else none) else (if (srcB coden codel ((k101_4 coden codel).2.2.2) && prB ((k101_0 coden codel).1)) = true then (if (srcB coden codel ((k101_11 coden codel).2.2.2) && prB ((k101_0 coden codel).1)) = true then (if (srcB coden codel ((k101_12 coden codel).2.2.2) && prB ((k101_0 coden codel).1)) = true then some ((k101_11 coden codel).1, (k101_1 coden codel).1, ((k101_12 coden codel).1), ((k101_13 coden codel).1)) else none) else none) else none))) else none) else none) else none) else none) else none) else none)
theorem eq_s_l03Pair (coden : Nat) (codel : List Int) : execT Tryz.prog S_s_l03Pair 101 59 (fun _ => 1000000) dec_i_i_a3_a3 [.s coden (.byts codel)] = Fo_s_l03Pair coden codel := by
  kernel_rfl
def s_l03Pair_d (coden : Nat) (codel : List Int) : Int × Int × (Int × Int × Int) × Int × Int × Int :=
  (if (((k101_4 coden codel).1) == 0) = true then ((k101_6 coden codel).1, (k101_1 coden codel).1, ((k101_7 coden codel).1), ((k101_8 coden codel).1)) else (if (((k101_4 coden codel).1) == 1) = true then ((k101_6 coden codel).1, (k101_1 coden codel).1, ((k101_7 coden codel).1), ((k101_10 coden codel).1)) else ((k101_11 coden codel).1, (k101_1 coden codel).1, ((k101_12 coden codel).1), ((k101_13 coden codel).1))))
def s_l03Pair : (Nat) → (List Int) → (Int × Int × (Int × Int × Int) × Int × Int × Int) := shut s_l03Pair_d
theorem s_l03Pair_eq (coden : Nat) (codel : List Int) : s_l03Pair coden codel = s_l03Pair_d coden codel := by
  unfold s_l03Pair
  rw [shut_eq]
theorem tot_s_l03Pair (coden : Nat) (codel : List Int) (hp : (codeB coden codel) = true) : Fo_s_l03Pair coden codel = some (s_l03Pair coden codel) := by
  have hc := hp
  rw [s_l03Pair_eq]
  unfold Fo_s_l03Pair s_l03Pair_d
  (try simp only [wI_eq])
  repeat' (first | with_reducible rfl | refine chk_opt (by first | (with_reducible assumption) | ((repeat (with_reducible first | assumption | exact s_l01From_src hc | apply post_s_l01DrawField | apply post_s_l03DrawColour | apply post_s_l01DrawLine | apply post_s_l01Next | apply post_s_l01BadField | apply post_s_l01BadLine)); done) | (with_reducible exact field_prB9 _ _ _ (by ((repeat (with_reducible first | assumption | exact s_l01From_src hc | apply post_s_l01DrawField | apply post_s_l03DrawColour | apply post_s_l01DrawLine | apply post_s_l01Next | apply post_s_l01BadField | apply post_s_l01BadLine)); done))) | fail | exact pos_idx ‹_› | exact and_two (by ((repeat (with_reducible first | assumption | exact s_l01From_src hc | apply post_s_l01DrawField | apply post_s_l03DrawColour | apply post_s_l01DrawLine | apply post_s_l01Next | apply post_s_l01BadField | apply post_s_l01BadLine)); done)) (by (first | (with_reducible assumption) | with_reducible exact field_prB9 _ _ _ (by ((repeat (with_reducible first | assumption | exact s_l01From_src hc | apply post_s_l01DrawField | apply post_s_l03DrawColour | apply post_s_l01DrawLine | apply post_s_l01Next | apply post_s_l01BadField | apply post_s_l01BadLine)); done)) | fail | rfl)) | exact pos_cell ‹_› (by (first | exact flat2_len _ | exact flat3_len _)) | exact idx_ok (next_rng _ _ _ _ (by ((repeat (with_reducible first | assumption | exact s_l01From_src hc | apply post_s_l01DrawField | apply post_s_l03DrawColour | apply post_s_l01DrawLine | apply post_s_l01Next | apply post_s_l01BadField | apply post_s_l01BadLine)); done)) (by decide)) | exact ble_ok (next_ble _ _ _ _ (by ((repeat (with_reducible first | assumption | exact s_l01From_src hc | apply post_s_l01DrawField | apply post_s_l03DrawColour | apply post_s_l01DrawLine | apply post_s_l01Next | apply post_s_l01BadField | apply post_s_l01BadLine)); done)) (by decide) (by decide)) | exact ble_ok (next_ble0 _ _ _ _ (by ((repeat (with_reducible first | assumption | exact s_l01From_src hc | apply post_s_l01DrawField | apply post_s_l03DrawColour | apply post_s_l01DrawLine | apply post_s_l01Next | apply post_s_l01BadField | apply post_s_l01BadLine)); done)) (by decide) (by decide)) | exact idx_ok (next_rng _ _ _ _ (by ((repeat (with_reducible first | assumption | exact s_l01From_src hc | apply post_s_l01DrawField | apply post_s_l03DrawColour | apply post_s_l01DrawLine | apply post_s_l01Next | apply post_s_l01BadField | apply post_s_l01BadLine)); done)) (pos_one ‹_›)) | exact next_cell (by ((repeat (with_reducible first | assumption | exact s_l01From_src hc | apply post_s_l01DrawField | apply post_s_l03DrawColour | apply post_s_l01DrawLine | apply post_s_l01Next | apply post_s_l01BadField | apply post_s_l01BadLine)); done)) ‹_› (by (first | exact flat2_len _ | exact flat3_len _))) ?_ | refine ite_opt (fun _ => ?_) (fun _ => ?_) | rfl)
def run_s_l03Pair : List PV → Option (Bool × List TR)
  | [.s coden (.byts codel)] => some (codeB coden codel, enc_i_i_a3_a3 (s_l03Pair coden codel))
  | _ => none
theorem sound_s_l03Pair : Sound Tryz.prog 101 run_s_l03Pair := by
  refine sound_of de_i_i_a3_a3 SO_s_l03Pair (by kernel_rfl) Tryz.func101 Tryz.ntmps101 rfl (by kernel_rfl) ?_
  intro W pvs avs rs hargs hrun
  unfold run_s_l03Pair at hrun
  split at hrun
  · simp only [Option.some.injEq, Prod.mk.injEq] at hrun
    obtain ⟨hp, rfl⟩ := hrun
    rename_i coden codel
    exact ⟨_, _, _, hargs, rfl, (eq_s_l03Pair coden codel).trans (tot_s_l03Pair coden codel hp)⟩
  · cases hrun

def dec_i_i_a3 : List TR → Option (Int × Int × Int × Int × Int)
  | [.v (.int .i64 x0), .v (.int .i64 x1), .v (.agg ⟨[.int .i64 x2_0, .int .i64 x2_1, .int .i64 x2_2]⟩)] => some (x0, x1, (x2_0, x2_1, x2_2))
  | _ => none
def enc_i_i_a3 : Int × Int × Int × Int × Int → List TR
  | (x0, x1, (x2_0, x2_1, x2_2)) => [.v (.int .i64 x0), .v (.int .i64 x1), .v (.agg ⟨[.int .i64 x2_0, .int .i64 x2_1, .int .i64 x2_2]⟩)]
theorem de_i_i_a3 (rs : List TR) (x : Int × Int × Int × Int × Int) (h : dec_i_i_a3 rs = some x) : rs = enc_i_i_a3 x := by
  unfold dec_i_i_a3 at h
  split at h
  · simp only [Option.some.injEq] at h
    subst h
    rfl
  · cases h
def S_s_DrawReflectionIn : Sums := ⟨tblS [(101, run_s_l03Pair)], tblM []⟩
theorem SO_s_DrawReflectionIn : SumsOK Tryz.prog S_s_DrawReflectionIn := ⟨tblS_ok ⟨⟨Tryz.call101, sound_s_l03Pair⟩, True.intro⟩, tblM_ok True.intro⟩
def Fo_s_DrawReflectionIn (coden : Nat) (codel : List Int) : Option (Int × Int × Int × Int × Int) :=
  (if (codeB coden codel) = true then some ((s_l03Pair coden codel).1, (s_l03Pair coden codel).2.1, ((s_l03Pair coden codel).2.2.1)) else none)
theorem eq_s_DrawReflectionIn (coden : Nat) (codel : List Int) : execT Tryz.prog S_s_DrawReflectionIn 33 19 (fun _ => 1000000) dec_i_i_a3 [.s coden (.byts codel)] = Fo_s_DrawReflectionIn coden codel := by
  kernel_rfl
def s_DrawReflectionIn_d (coden : Nat) (codel : List Int) : Int × Int × Int × Int × Int :=
  ((s_l03Pair coden codel).1, (s_l03Pair coden codel).2.1, ((s_l03Pair coden codel).2.2.1))
def s_DrawReflectionIn : (Nat) → (List Int) → (Int × Int × Int × Int × Int) := shut s_DrawReflectionIn_d
theorem s_DrawReflectionIn_eq (coden : Nat) (codel : List Int) : s_DrawReflectionIn coden codel = s_DrawReflectionIn_d coden codel := by
  unfold s_DrawReflectionIn
  rw [shut_eq]
theorem tot_s_DrawReflectionIn (coden : Nat) (codel : List Int) (hp : (codeB coden codel) = true) : Fo_s_DrawReflectionIn coden codel = some (s_DrawReflectionIn coden codel) := by
  have hc := hp
  rw [s_DrawReflectionIn_eq]
  unfold Fo_s_DrawReflectionIn s_DrawReflectionIn_d
  (try simp only [wI_eq])
  repeat' (first | with_reducible rfl | refine chk_opt (by first | (with_reducible assumption) | ((repeat (with_reducible first | assumption)); done) | (with_reducible exact field_prB9 _ _ _ (by ((repeat (with_reducible first | assumption)); done))) | fail | exact pos_idx ‹_› | exact and_two (by ((repeat (with_reducible first | assumption)); done)) (by (first | (with_reducible assumption) | with_reducible exact field_prB9 _ _ _ (by ((repeat (with_reducible first | assumption)); done)) | fail | rfl)) | exact pos_cell ‹_› (by (first | exact flat2_len _ | exact flat3_len _)) | exact idx_ok (next_rng _ _ _ _ (by ((repeat (with_reducible first | assumption)); done)) (by decide)) | exact ble_ok (next_ble _ _ _ _ (by ((repeat (with_reducible first | assumption)); done)) (by decide) (by decide)) | exact ble_ok (next_ble0 _ _ _ _ (by ((repeat (with_reducible first | assumption)); done)) (by decide) (by decide)) | exact idx_ok (next_rng _ _ _ _ (by ((repeat (with_reducible first | assumption)); done)) (pos_one ‹_›)) | exact next_cell (by ((repeat (with_reducible first | assumption)); done)) ‹_› (by (first | exact flat2_len _ | exact flat3_len _))) ?_ | refine ite_opt (fun _ => ?_) (fun _ => ?_) | rfl)
def run_s_DrawReflectionIn : List PV → Option (Bool × List TR)
  | [.s coden (.byts codel)] => some (codeB coden codel, enc_i_i_a3 (s_DrawReflectionIn coden codel))
  | _ => none
theorem sound_s_DrawReflectionIn : Sound Tryz.prog 33 run_s_DrawReflectionIn := by
  refine sound_of de_i_i_a3 SO_s_DrawReflectionIn (by kernel_rfl) Tryz.func33 Tryz.ntmps33 rfl (by kernel_rfl) ?_
  intro W pvs avs rs hargs hrun
  unfold run_s_DrawReflectionIn at hrun
  split at hrun
  · simp only [Option.some.injEq, Prod.mk.injEq] at hrun
    obtain ⟨hp, rfl⟩ := hrun
    rename_i coden codel
    exact ⟨_, _, _, hargs, rfl, (eq_s_DrawReflectionIn coden codel).trans (tot_s_DrawReflectionIn coden codel hp)⟩
  · cases hrun

def S_s_l01Times : Sums := ⟨tblS [(134, run_s_l01Mod)], tblM []⟩
theorem SO_s_l01Times : SumsOK Tryz.prog S_s_l01Times := ⟨tblS_ok ⟨⟨Tryz.call134, sound_s_l01Mod⟩, True.intro⟩, tblM_ok True.intro⟩
def Fo_s_l01Times (p : Int) (t : Int) (a : Int × Int) : Option (Int × Int) :=
  (if (prB p) = true then (if (prB p) = true then some ((s_l01Mod (wI (t * a.1)) p), (s_l01Mod (wI (t * a.2)) p)) else none) else none)
theorem eq_s_l01Times (p : Int) (t : Int) (a : Int × Int) : execT Tryz.prog S_s_l01Times 155 20 (fun _ => 1000000) dec_a2 [.v (.int .i64 p), .v (.int .i64 t), .v (.agg ⟨[.int .i64 a.1, .int .i64 a.2]⟩)] = Fo_s_l01Times p t a := by
  kernel_rfl
def s_l01Times (p : Int) (t : Int) (a : Int × Int) : Int × Int :=
  ((s_l01Mod (wrap64 (t * a.1)) p), (s_l01Mod (wrap64 (t * a.2)) p))
theorem tot_s_l01Times (p : Int) (t : Int) (a : Int × Int) (hp : (prB p) = true) : Fo_s_l01Times p t a = some (s_l01Times p t a) := by
  try have h0 := prB_ne hp
  unfold Fo_s_l01Times s_l01Times
  (try simp only [wI_eq])
  repeat' (first | with_reducible rfl | with_reducible refine chk_opt hp ?_ | with_reducible refine chk_opt h0 ?_ | refine chk_opt (and_all hp fun _ => hp) ?_ | refine chk_opt (and_all hp fun _ => rfl) ?_ | refine ite_opt (fun _ => ?_) (fun _ => ?_) | rfl)
def run_s_l01Times : List PV → Option (Bool × List TR)
  | [.v (.int .i64 p), .v (.int .i64 t), .v (.agg ⟨[.int .i64 a0, .int .i64 a1]⟩)] => some (prB p, enc_a2 (s_l01Times p t (a0, a1)))
  | _ => none
theorem sound_s_l01Times : Sound Tryz.prog 155 run_s_l01Times := by
  refine sound_of de_a2 SO_s_l01Times (by kernel_rfl) Tryz.func155 Tryz.ntmps155 rfl (by kernel_rfl) ?_
  intro W pvs avs rs hargs hrun
  unfold run_s_l01Times at hrun
  split at hrun
  · simp only [Option.some.injEq, Prod.mk.injEq] at hrun
    obtain ⟨hp, rfl⟩ := hrun
    rename_i p t a0 a1
    exact ⟨_, _, _, hargs, rfl, (eq_s_l01Times p t (a0, a1)).trans (tot_s_l01Times p t (a0, a1) hp)⟩
  · cases hrun

def dec_i_i_a2_a2_a2 : List TR → Option (Int × Int × (Int × Int) × (Int × Int) × Int × Int)
  | [.v (.int .i64 x0), .v (.int .i64 x1), .v (.agg ⟨[.int .i64 x2_0, .int .i64 x2_1]⟩), .v (.agg ⟨[.int .i64 x3_0, .int .i64 x3_1]⟩), .v (.agg ⟨[.int .i64 x4_0, .int .i64 x4_1]⟩)] => some (x0, x1, (x2_0, x2_1), (x3_0, x3_1), (x4_0, x4_1))
  | _ => none
def enc_i_i_a2_a2_a2 : Int × Int × (Int × Int) × (Int × Int) × Int × Int → List TR
  | (x0, x1, (x2_0, x2_1), (x3_0, x3_1), (x4_0, x4_1)) => [.v (.int .i64 x0), .v (.int .i64 x1), .v (.agg ⟨[.int .i64 x2_0, .int .i64 x2_1]⟩), .v (.agg ⟨[.int .i64 x3_0, .int .i64 x3_1]⟩), .v (.agg ⟨[.int .i64 x4_0, .int .i64 x4_1]⟩)]
theorem de_i_i_a2_a2_a2 (rs : List TR) (x : Int × Int × (Int × Int) × (Int × Int) × Int × Int) (h : dec_i_i_a2_a2_a2 rs = some x) : rs = enc_i_i_a2_a2_a2 x := by
  unfold dec_i_i_a2_a2_a2 at h
  split at h
  · simp only [Option.some.injEq] at h
    subst h
    rfl
  · cases h
abbrev k115_0 (coden : Nat) (codel : List Int) : Int × Nat × List Int × Int × Int := (s_l01DrawField coden codel (s_l01From coden codel))
abbrev k115_1 (coden : Nat) (codel : List Int) : Int × Nat × List Int × Int × Int := (s_l03DrawColour coden codel ((k115_0 coden codel).2.2.2))
abbrev k115_2 (coden : Nat) (codel : List Int) : (Int × Int) × Nat × List Int × Int × Int := (s_l01DrawPoint coden codel ((k115_1 coden codel).2.2.2) ((k115_0 coden codel).1))
abbrev k115_3 (coden : Nat) (codel : List Int) : (Int × Int) × Nat × List Int × Int × Int := (s_l01DrawPoint coden codel ((k115_2 coden codel).2.2.2) ((k115_0 coden codel).1))
abbrev k115_4 (coden : Nat) (codel : List Int) : (Int × Int) × Nat × List Int × Int × Int := (s_l01DrawPoint coden codel ((k115_3 coden codel).2.2.2) ((k115_0 coden codel).1))
abbrev k115_5 (coden : Nat) (codel : List Int) : Int × Nat × List Int × Int × Int := (s_l01Next coden codel ((k115_4 coden codel).2.2.2) 8)
abbrev k115_6 (coden : Nat) (codel : List Int) : Int × Nat × List Int × Int × Int := (s_l01Next coden codel ((k115_5 coden codel).2.2.2) ((k115_0 coden codel).1))
abbrev k115_7 (coden : Nat) (codel : List Int) : Int × Int := (s_l01Minus ((k115_0 coden codel).1) ((k115_3 coden codel).1) ((k115_2 coden codel).1))
abbrev k115_8 (coden : Nat) (codel : List Int) : Int × Int := (s_l01Times ((k115_0 coden codel).1) ((k115_6 coden codel).1) (k115_7 coden codel))
abbrev k115_9 (coden : Nat) (codel : List Int) : Int × Int := (s_l01Plus ((k115_0 coden codel).1) ((k115_2 coden codel).1) (k115_8 coden codel))
abbrev k115_10 (coden : Nat) (codel : List Int) : Int × Nat × List Int × Int × Int := (s_l01BadField coden codel ((k115_6 coden codel).2.2.2) ((k115_0 coden codel).1))
abbrev k115_11 (coden : Nat) (codel : List Int) : (Int × Int) × Nat × List Int × Int × Int := (s_l01BadPoint coden codel ((k115_10 coden codel).2.2.2) ((k115_0 coden codel).1) ((k115_2 coden codel).1))
abbrev k115_12 (coden : Nat) (codel : List Int) : (Int × Int) × Nat × List Int × Int × Int := (s_l01BadPoint coden codel ((k115_11 coden codel).2.2.2) ((k115_0 coden codel).1) ((k115_3 coden codel).1))
abbrev k115_13 (coden : Nat) (codel : List Int) : (Int × Int) × Nat × List Int × Int × Int := (s_l01BadPoint coden codel ((k115_12 coden codel).2.2.2) ((k115_0 coden codel).1) (k115_9 coden codel))
abbrev k115_14 (coden : Nat) (codel : List Int) : Int × Nat × List Int × Int × Int := (s_l01BadField coden codel ((k115_5 coden codel).2.2.2) ((k115_0 coden codel).1))
abbrev k115_15 (coden : Nat) (codel : List Int) : (Int × Int) × Nat × List Int × Int × Int := (s_l01BadPoint coden codel ((k115_14 coden codel).2.2.2) ((k115_0 coden codel).1) ((k115_2 coden codel).1))
abbrev k115_16 (coden : Nat) (codel : List Int) : (Int × Int) × Nat × List Int × Int × Int := (s_l01BadPoint coden codel ((k115_15 coden codel).2.2.2) ((k115_0 coden codel).1) ((k115_2 coden codel).1))
abbrev k115_17 (coden : Nat) (codel : List Int) : (Int × Int) × Nat × List Int × Int × Int := (s_l01BadPoint coden codel ((k115_16 coden codel).2.2.2) ((k115_0 coden codel).1) ((k115_4 coden codel).1))
abbrev k115_18 (coden : Nat) (codel : List Int) : (Int × Int) × Nat × List Int × Int × Int := (s_l01BadPoint coden codel ((k115_15 coden codel).2.2.2) ((k115_0 coden codel).1) ((k115_3 coden codel).1))
abbrev k115_19 (coden : Nat) (codel : List Int) : (Int × Int) × Nat × List Int × Int × Int := (s_l01BadPoint coden codel ((k115_18 coden codel).2.2.2) ((k115_0 coden codel).1) ((k115_4 coden codel).1))
def S_s_l03Three : Sums := ⟨tblS [(129, run_s_l01Minus), (155, run_s_l01Times), (141, run_s_l01Plus)], tblM [(81, .src run_s_l01From), (144, .box run_s_l01DrawField), (146, .box run_s_l03DrawColour), (84, .box run_s_l01DrawPoint), (124, .box run_s_l01Next), (85, .box run_s_l01BadField), (83, .box run_s_l01BadPoint)]⟩
theorem SO_s_l03Three : SumsOK Tryz.prog S_s_l03Three := ⟨tblS_ok ⟨⟨Tryz.call129, sound_s_l01Minus⟩, ⟨Tryz.call155, sound_s_l01Times⟩, ⟨Tryz.call141, sound_s_l01Plus⟩, True.intro⟩, tblM_ok ⟨⟨Tryz.call81, sound_s_l01From⟩, ⟨Tryz.call144, sound_s_l01DrawField⟩, ⟨Tryz.call146, sound_s_l03DrawColour⟩, ⟨Tryz.call84, sound_s_l01DrawPoint⟩, ⟨Tryz.call124, sound_s_l01Next⟩, ⟨Tryz.call85, sound_s_l01BadField⟩, ⟨Tryz.call83, sound_s_l01BadPoint⟩, True.intro⟩⟩
def Fo_s_l03Three (coden : Nat) (codel : List Int) : Option (Int × Int × (Int × Int) × (Int × Int) × Int × Int) :=
  (if (codeB coden codel) = true then (if (srcB coden codel (s_l01From coden codel)) = true then (if (srcB coden codel ((k115_0 coden codel).2.2.2)) = true then (if (srcB coden codel ((k115_1 coden codel).2.2.2) && prB ((k115_0 coden codel).1)) = true then (if (srcB coden codel ((k115_2 coden codel).2.2.2) && prB ((k115_0 coden codel).1)) = true then (if (srcB coden codel ((k115_3 coden codel).2.2.2) && prB ((k115_0 coden codel).1)) = true then (if (srcB coden codel ((k115_4 coden codel).2.2.2)) = true then (if (((k115_5 coden codel).1) == 0) = true then (if (srcB coden codel ((k115_5 coden codel).2.2.2)) = true then (if (prB ((k115_0 coden codel).1)) = true then (if (prB ((k115_0 coden codel).1)) = true then (if (prB ((k115_0 coden codel).1)) = true then (if (srcB coden codel ((k115_6 coden codel).2.2.2) && prB ((k115_0 coden codel).1)) = true then (if (srcB coden codel ((k115_10 coden codel).2.2.2) && prB ((k115_0 coden codel).1)) = true then (if (srcB coden codel ((k115_11 coden codel).2.2.2) && prB ((k115_0 coden codel).1)) = true then (if (srcB coden codel ((k115_12 coden codel).2.2.2) && prB ((k115_0 coden codel).1)) = true then some ((k115_10 coden codel).1, (k115_1 coden codel).1, ((k115_11 coden codel).1), ((k115_12 coden codel).1), ((k115_13 coden codel).1)) else none) else none) else none) else none) else none) else none) else none) else none) else (if (((k115_5 coden codel).1) == 1) = true then (if (srcB coden codel ((k115_5 coden codel).2.2.2) && prB ((k115_0 coden codel).1)) = true then (if (srcB coden codel ((k115_14 coden codel).2.2.2) && prB ((k115_0 coden codel).1)) = true then (if (srcB coden codel ((k115_15 coden codel).2.2.2) && prB ((k115_0 coden codel).1)) = true then (if (srcB coden codel ((k115_16 coden codel).2.2.2) && prB ((k115_0 coden codel).1)) = true then some ((k115_14 coden codel).1, (k115_1 coden codel).1, ((k115_15 coden codel).1), ((k115_16 coden codel).1), ((k115_17 coden codel).1)) else none) else none) else none) else none) else (if (srcB coden codel ((k115_5 coden codel).2.2.2) && prB ((k115_0 coden codel).1)) = true then (if (srcB coden codel ((k115_14 coden codel).2.2.2) && prB ((k115_0 coden codel).1)) = true then (if (srcB coden codel ((k115_15 coden codel).2.2.2) && prB ((k115_0 coden codel).1)) = true then (if (srcB coden codel ((k115_18 coden codel).2.2.2) && prB ((k115_0 coden codel).1)) = true then some ((k115_14 coden codel).1, (k115_1 coden codel).1, ((k115_15 coden codel).1), ((k115_18 coden codel).1), ((k115_19 coden codel).1)) else none) else none) else none) else none))) else none) else none) else none) else none) else none) else none) else none)
theorem eq_s_l03Three (coden : Nat) (codel : List Int) : execT Tryz.prog S_s_l03Three 115 63 (fun _ => 1000000) dec_i_i_a2_a2_a2 [.s coden (.byts codel)] = Fo_s_l03Three coden codel := by
  kernel_rfl
def s_l03Three_d (coden : Nat) (codel : List Int) : Int × Int × (Int × Int) × (Int × Int) × Int × Int :=
  (if (((k115_5 coden codel).1) == 0) = true then ((k115_10 coden codel).1, (k115_1 coden codel).1, ((k115_11 coden codel).1), ((k115_12 coden codel).1), ((k115_13 coden codel).1)) else (if (((k115_5 coden codel).1) == 1) = true then ((k115_14 coden codel).1, (k115_1 coden codel).1, ((k115_15 coden codel).1), ((k115_16 coden codel).1), ((k115_17 coden codel).1)) else ((k115_14 coden codel).1, (k115_1 coden codel).1, ((k115_15 coden codel).1), ((k115_18 coden codel).1), ((k115_19 coden codel).1))))
def s_l03Three : (Nat) → (List Int) → (Int × Int × (Int × Int) × (Int × Int) × Int × Int) := shut s_l03Three_d
theorem s_l03Three_eq (coden : Nat) (codel : List Int) : s_l03Three coden codel = s_l03Three_d coden codel := by
  unfold s_l03Three
  rw [shut_eq]
theorem tot_s_l03Three (coden : Nat) (codel : List Int) (hp : (codeB coden codel) = true) : Fo_s_l03Three coden codel = some (s_l03Three coden codel) := by
  have hc := hp
  rw [s_l03Three_eq]
  unfold Fo_s_l03Three s_l03Three_d
  (try simp only [wI_eq])
  repeat' (first | with_reducible rfl | refine chk_opt (by first | (with_reducible assumption) | ((repeat (with_reducible first | assumption | exact s_l01From_src hc | apply post_s_l01DrawField | apply post_s_l03DrawColour | apply post_s_l01DrawPoint | apply post_s_l01Next | apply post_s_l01BadField | apply post_s_l01BadPoint)); done) | (with_reducible exact field_prB9 _ _ _ (by ((repeat (with_reducible first | assumption | exact s_l01From_src hc | apply post_s_l01DrawField | apply post_s_l03DrawColour | apply post_s_l01DrawPoint | apply post_s_l01Next | apply post_s_l01BadField | apply post_s_l01BadPoint)); done))) | fail | exact pos_idx ‹_› | exact and_two (by ((repeat (with_reducible first | assumption | exact s_l01From_src hc | apply post_s_l01DrawField | apply post_s_l03DrawColour | apply post_s_l01DrawPoint | apply post_s_l01Next | apply post_s_l01BadField | apply post_s_l01BadPoint)); done)) (by (first | (with_reducible assumption) | with_reducible exact field_prB9 _ _ _ (by ((repeat (with_reducible first | assumption | exact s_l01From_src hc | apply post_s_l01DrawField | apply post_s_l03DrawColour | apply post_s_l01DrawPoint | apply post_s_l01Next | apply post_s_l01BadField | apply post_s_l01BadPoint)); done)) | fail | rfl)) | exact pos_cell ‹_› (by (first | exact flat2_len _ | exact flat3_len _)) | exact idx_ok (next_rng _ _ _ _ (by ((repeat (with_reducible first | assumption | exact s_l01From_src hc | apply post_s_l01DrawField | apply post_s_l03DrawColour | apply post_s_l01DrawPoint | apply post_s_l01Next | apply post_s_l01BadField | apply post_s_l01BadPoint)); done)) (by decide)) | exact ble_ok (next_ble _ _ _ _ (by ((repeat (with_reducible first | assumption | exact s_l01From_src hc | apply post_s_l01DrawField | apply post_s_l03DrawColour | apply post_s_l01DrawPoint | apply post_s_l01Next | apply post_s_l01BadField | apply post_s_l01BadPoint)); done)) (by decide) (by decide)) | exact ble_ok (next_ble0 _ _ _ _ (by ((repeat (with_reducible first | assumption | exact s_l01From_src hc | apply post_s_l01DrawField | apply post_s_l03DrawColour | apply post_s_l01DrawPoint | apply post_s_l01Next | apply post_s_l01BadField | apply post_s_l01BadPoint)); done)) (by decide) (by decide)) | exact idx_ok (next_rng _ _ _ _ (by ((repeat (with_reducible first | assumption | exact s_l01From_src hc | apply post_s_l01DrawField | apply post_s_l03DrawColour | apply post_s_l01DrawPoint | apply post_s_l01Next | apply post_s_l01BadField | apply post_s_l01BadPoint)); done)) (pos_one ‹_›)) | exact next_cell (by ((repeat (with_reducible first | assumption | exact s_l01From_src hc | apply post_s_l01DrawField | apply post_s_l03DrawColour | apply post_s_l01DrawPoint | apply post_s_l01Next | apply post_s_l01BadField | apply post_s_l01BadPoint)); done)) ‹_› (by (first | exact flat2_len _ | exact flat3_len _))) ?_ | refine ite_opt (fun _ => ?_) (fun _ => ?_) | rfl)
def run_s_l03Three : List PV → Option (Bool × List TR)
  | [.s coden (.byts codel)] => some (codeB coden codel, enc_i_i_a2_a2_a2 (s_l03Three coden codel))
  | _ => none
theorem sound_s_l03Three : Sound Tryz.prog 115 run_s_l03Three := by
  refine sound_of de_i_i_a2_a2_a2 SO_s_l03Three (by kernel_rfl) Tryz.func115 Tryz.ntmps115 rfl (by kernel_rfl) ?_
  intro W pvs avs rs hargs hrun
  unfold run_s_l03Three at hrun
  split at hrun
  · simp only [Option.some.injEq, Prod.mk.injEq] at hrun
    obtain ⟨hp, rfl⟩ := hrun
    rename_i coden codel
    exact ⟨_, _, _, hargs, rfl, (eq_s_l03Three coden codel).trans (tot_s_l03Three coden codel hp)⟩
  · cases hrun

def dec_i_i_a2 : List TR → Option (Int × Int × Int × Int)
  | [.v (.int .i64 x0), .v (.int .i64 x1), .v (.agg ⟨[.int .i64 x2_0, .int .i64 x2_1]⟩)] => some (x0, x1, (x2_0, x2_1))
  | _ => none
def enc_i_i_a2 : Int × Int × Int × Int → List TR
  | (x0, x1, (x2_0, x2_1)) => [.v (.int .i64 x0), .v (.int .i64 x1), .v (.agg ⟨[.int .i64 x2_0, .int .i64 x2_1]⟩)]
theorem de_i_i_a2 (rs : List TR) (x : Int × Int × Int × Int) (h : dec_i_i_a2 rs = some x) : rs = enc_i_i_a2 x := by
  unfold dec_i_i_a2 at h
  split at h
  · simp only [Option.some.injEq] at h
    subst h
    rfl
  · cases h
def S_s_DrawTurnsAbout : Sums := ⟨tblS [(115, run_s_l03Three)], tblM []⟩
theorem SO_s_DrawTurnsAbout : SumsOK Tryz.prog S_s_DrawTurnsAbout := ⟨tblS_ok ⟨⟨Tryz.call115, sound_s_l03Three⟩, True.intro⟩, tblM_ok True.intro⟩
def Fo_s_DrawTurnsAbout (coden : Nat) (codel : List Int) : Option (Int × Int × Int × Int) :=
  (if (codeB coden codel) = true then some ((s_l03Three coden codel).1, (s_l03Three coden codel).2.1, ((s_l03Three coden codel).2.2.1)) else none)
theorem eq_s_DrawTurnsAbout (coden : Nat) (codel : List Int) : execT Tryz.prog S_s_DrawTurnsAbout 37 21 (fun _ => 1000000) dec_i_i_a2 [.s coden (.byts codel)] = Fo_s_DrawTurnsAbout coden codel := by
  kernel_rfl
def s_DrawTurnsAbout_d (coden : Nat) (codel : List Int) : Int × Int × Int × Int :=
  ((s_l03Three coden codel).1, (s_l03Three coden codel).2.1, ((s_l03Three coden codel).2.2.1))
def s_DrawTurnsAbout : (Nat) → (List Int) → (Int × Int × Int × Int) := shut s_DrawTurnsAbout_d
theorem s_DrawTurnsAbout_eq (coden : Nat) (codel : List Int) : s_DrawTurnsAbout coden codel = s_DrawTurnsAbout_d coden codel := by
  unfold s_DrawTurnsAbout
  rw [shut_eq]
theorem tot_s_DrawTurnsAbout (coden : Nat) (codel : List Int) (hp : (codeB coden codel) = true) : Fo_s_DrawTurnsAbout coden codel = some (s_DrawTurnsAbout coden codel) := by
  have hc := hp
  rw [s_DrawTurnsAbout_eq]
  unfold Fo_s_DrawTurnsAbout s_DrawTurnsAbout_d
  (try simp only [wI_eq])
  repeat' (first | with_reducible rfl | refine chk_opt (by first | (with_reducible assumption) | ((repeat (with_reducible first | assumption)); done) | (with_reducible exact field_prB9 _ _ _ (by ((repeat (with_reducible first | assumption)); done))) | fail | exact pos_idx ‹_› | exact and_two (by ((repeat (with_reducible first | assumption)); done)) (by (first | (with_reducible assumption) | with_reducible exact field_prB9 _ _ _ (by ((repeat (with_reducible first | assumption)); done)) | fail | rfl)) | exact pos_cell ‹_› (by (first | exact flat2_len _ | exact flat3_len _)) | exact idx_ok (next_rng _ _ _ _ (by ((repeat (with_reducible first | assumption)); done)) (by decide)) | exact ble_ok (next_ble _ _ _ _ (by ((repeat (with_reducible first | assumption)); done)) (by decide) (by decide)) | exact ble_ok (next_ble0 _ _ _ _ (by ((repeat (with_reducible first | assumption)); done)) (by decide) (by decide)) | exact idx_ok (next_rng _ _ _ _ (by ((repeat (with_reducible first | assumption)); done)) (pos_one ‹_›)) | exact next_cell (by ((repeat (with_reducible first | assumption)); done)) ‹_› (by (first | exact flat2_len _ | exact flat3_len _))) ?_ | refine ite_opt (fun _ => ?_) (fun _ => ?_) | rfl)
def run_s_DrawTurnsAbout : List PV → Option (Bool × List TR)
  | [.s coden (.byts codel)] => some (codeB coden codel, enc_i_i_a2 (s_DrawTurnsAbout coden codel))
  | _ => none
theorem sound_s_DrawTurnsAbout : Sound Tryz.prog 37 run_s_DrawTurnsAbout := by
  refine sound_of de_i_i_a2 SO_s_DrawTurnsAbout (by kernel_rfl) Tryz.func37 Tryz.ntmps37 rfl (by kernel_rfl) ?_
  intro W pvs avs rs hargs hrun
  unfold run_s_DrawTurnsAbout at hrun
  split at hrun
  · simp only [Option.some.injEq, Prod.mk.injEq] at hrun
    obtain ⟨hp, rfl⟩ := hrun
    rename_i coden codel
    exact ⟨_, _, _, hargs, rfl, (eq_s_DrawTurnsAbout coden codel).trans (tot_s_DrawTurnsAbout coden codel hp)⟩
  · cases hrun

def dec_i_i_a2_a2_a2_a2 : List TR → Option (Int × Int × (Int × Int) × (Int × Int) × (Int × Int) × Int × Int)
  | [.v (.int .i64 x0), .v (.int .i64 x1), .v (.agg ⟨[.int .i64 x2_0, .int .i64 x2_1]⟩), .v (.agg ⟨[.int .i64 x3_0, .int .i64 x3_1]⟩), .v (.agg ⟨[.int .i64 x4_0, .int .i64 x4_1]⟩), .v (.agg ⟨[.int .i64 x5_0, .int .i64 x5_1]⟩)] => some (x0, x1, (x2_0, x2_1), (x3_0, x3_1), (x4_0, x4_1), (x5_0, x5_1))
  | _ => none
def enc_i_i_a2_a2_a2_a2 : Int × Int × (Int × Int) × (Int × Int) × (Int × Int) × Int × Int → List TR
  | (x0, x1, (x2_0, x2_1), (x3_0, x3_1), (x4_0, x4_1), (x5_0, x5_1)) => [.v (.int .i64 x0), .v (.int .i64 x1), .v (.agg ⟨[.int .i64 x2_0, .int .i64 x2_1]⟩), .v (.agg ⟨[.int .i64 x3_0, .int .i64 x3_1]⟩), .v (.agg ⟨[.int .i64 x4_0, .int .i64 x4_1]⟩), .v (.agg ⟨[.int .i64 x5_0, .int .i64 x5_1]⟩)]
theorem de_i_i_a2_a2_a2_a2 (rs : List TR) (x : Int × Int × (Int × Int) × (Int × Int) × (Int × Int) × Int × Int) (h : dec_i_i_a2_a2_a2_a2 rs = some x) : rs = enc_i_i_a2_a2_a2_a2 x := by
  unfold dec_i_i_a2_a2_a2_a2 at h
  split at h
  · simp only [Option.some.injEq] at h
    subst h
    rfl
  · cases h
abbrev k43_0 (coden : Nat) (codel : List Int) : Int × Nat × List Int × Int × Int := (s_l01Pick coden codel (s_l01From coden codel) 6 [3, 5, 7, 7, 11, 13])
abbrev k43_1 (coden : Nat) (codel : List Int) : Int × Nat × List Int × Int × Int := (s_l01Next coden codel ((k43_0 coden codel).2.2.2) 3)
abbrev k43_2 (coden : Nat) (codel : List Int) : (Int × Int) × Nat × List Int × Int × Int := (s_l01DrawPoint coden codel ((k43_1 coden codel).2.2.2) ((k43_0 coden codel).1))
abbrev k43_3 (coden : Nat) (codel : List Int) : (Int × Int) × Nat × List Int × Int × Int := (s_l01DrawPoint coden codel ((k43_2 coden codel).2.2.2) ((k43_0 coden codel).1))
abbrev k43_4 (coden : Nat) (codel : List Int) : (Int × Int × Int × Int × Int × Int) × Nat × List Int × Int × Int := (s_l07DrawOf coden codel ((k43_3 coden codel).2.2.2) ((k43_0 coden codel).1) ((k43_1 coden codel).1))
abbrev k43_5 (coden : Nat) (codel : List Int) : Int × Int := (s_l07Move ((k43_0 coden codel).1) ((k43_4 coden codel).1) ((k43_2 coden codel).1))
abbrev k43_6 (coden : Nat) (codel : List Int) : Int × Int := (s_l07Move ((k43_0 coden codel).1) ((k43_4 coden codel).1) ((k43_3 coden codel).1))
abbrev k43_7 (coden : Nat) (codel : List Int) : Int × Nat × List Int × Int × Int := (s_l01Next coden codel ((k43_4 coden codel).2.2.2) 6)
abbrev k43_8 (coden : Nat) (codel : List Int) : (Int × Int) × Nat × List Int × Int × Int := (s_l01DrawPoint coden codel ((k43_7 coden codel).2.2.2) ((k43_0 coden codel).1))
abbrev k43_9 (coden : Nat) (codel : List Int) : Int × Nat × List Int × Int × Int := (s_l01BadField coden codel ((k43_8 coden codel).2.2.2) ((k43_0 coden codel).1))
abbrev k43_10 (coden : Nat) (codel : List Int) : (Int × Int) × Nat × List Int × Int × Int := (s_l01BadPoint coden codel ((k43_9 coden codel).2.2.2) ((k43_0 coden codel).1) ((k43_2 coden codel).1))
abbrev k43_11 (coden : Nat) (codel : List Int) : (Int × Int) × Nat × List Int × Int × Int := (s_l01BadPoint coden codel ((k43_10 coden codel).2.2.2) ((k43_0 coden codel).1) ((k43_3 coden codel).1))
abbrev k43_12 (coden : Nat) (codel : List Int) : Int × Nat × List Int × Int × Int := (s_l01BadField coden codel ((k43_7 coden codel).2.2.2) ((k43_0 coden codel).1))
abbrev k43_13 (coden : Nat) (codel : List Int) : (Int × Int) × Nat × List Int × Int × Int := (s_l01BadPoint coden codel ((k43_12 coden codel).2.2.2) ((k43_0 coden codel).1) ((k43_2 coden codel).1))
abbrev k43_14 (coden : Nat) (codel : List Int) : (Int × Int) × Nat × List Int × Int × Int := (s_l01BadPoint coden codel ((k43_13 coden codel).2.2.2) ((k43_0 coden codel).1) ((k43_3 coden codel).1))
def S_s_DrawMovesBetween : Sums := ⟨tblS [(88, run_s_l07Move)], tblM [(81, .src run_s_l01From), (123, .box run_s_l01Pick), (124, .box run_s_l01Next), (84, .box run_s_l01DrawPoint), (98, .box run_s_l07DrawOf), (85, .box run_s_l01BadField), (83, .box run_s_l01BadPoint)]⟩
theorem SO_s_DrawMovesBetween : SumsOK Tryz.prog S_s_DrawMovesBetween := ⟨tblS_ok ⟨⟨Tryz.call88, sound_s_l07Move⟩, True.intro⟩, tblM_ok ⟨⟨Tryz.call81, sound_s_l01From⟩, ⟨Tryz.call123, sound_s_l01Pick⟩, ⟨Tryz.call124, sound_s_l01Next⟩, ⟨Tryz.call84, sound_s_l01DrawPoint⟩, ⟨Tryz.call98, sound_s_l07DrawOf⟩, ⟨Tryz.call85, sound_s_l01BadField⟩, ⟨Tryz.call83, sound_s_l01BadPoint⟩, True.intro⟩⟩
def Fo_s_DrawMovesBetween (coden : Nat) (codel : List Int) : Option (Int × Int × (Int × Int) × (Int × Int) × (Int × Int) × Int × Int) :=
  (if (codeB coden codel) = true then (if (srcB coden codel (s_l01From coden codel) && (lenB 6 1 ([3, 5, 7, 7, 11, 13]) && Nat.blt 0 6)) = true then (if (srcB coden codel ((k43_0 coden codel).2.2.2)) = true then (if (srcB coden codel ((k43_1 coden codel).2.2.2) && prB ((k43_0 coden codel).1)) = true then (if (srcB coden codel ((k43_2 coden codel).2.2.2) && prB ((k43_0 coden codel).1)) = true then (if (srcB coden codel ((k43_3 coden codel).2.2.2) && drB ((k43_0 coden codel).1) ((k43_1 coden codel).1)) = true then (if (prB ((k43_0 coden codel).1)) = true then (if (prB ((k43_0 coden codel).1)) = true then (if (srcB coden codel ((k43_4 coden codel).2.2.2)) = true then (if (((k43_7 coden codel).1) == 0) = true then (if (srcB coden codel ((k43_7 coden codel).2.2.2) && prB ((k43_0 coden codel).1)) = true then (if (srcB coden codel ((k43_8 coden codel).2.2.2) && prB ((k43_0 coden codel).1)) = true then (if (srcB coden codel ((k43_9 coden codel).2.2.2) && prB ((k43_0 coden codel).1)) = true then (if (srcB coden codel ((k43_10 coden codel).2.2.2) && prB ((k43_0 coden codel).1)) = true then some ((k43_9 coden codel).1, (k43_1 coden codel).1, ((k43_10 coden codel).1), ((k43_11 coden codel).1), (k43_5 coden codel), ((k43_8 coden codel).1)) else none) else none) else none) else none) else (if (srcB coden codel ((k43_7 coden codel).2.2.2) && prB ((k43_0 coden codel).1)) = true then (if (srcB coden codel ((k43_12 coden codel).2.2.2) && prB ((k43_0 coden codel).1)) = true then (if (srcB coden codel ((k43_13 coden codel).2.2.2) && prB ((k43_0 coden codel).1)) = true then some ((k43_12 coden codel).1, (k43_1 coden codel).1, ((k43_13 coden codel).1), ((k43_14 coden codel).1), (k43_5 coden codel), (k43_6 coden codel)) else none) else none) else none)) else none) else none) else none) else none) else none) else none) else none) else none) else none)
theorem eq_s_DrawMovesBetween (coden : Nat) (codel : List Int) : execT Tryz.prog S_s_DrawMovesBetween 43 61 (fun _ => 1000000) dec_i_i_a2_a2_a2_a2 [.s coden (.byts codel)] = Fo_s_DrawMovesBetween coden codel := by
  kernel_rfl
def s_DrawMovesBetween_d (coden : Nat) (codel : List Int) : Int × Int × (Int × Int) × (Int × Int) × (Int × Int) × Int × Int :=
  (if (((k43_7 coden codel).1) == 0) = true then ((k43_9 coden codel).1, (k43_1 coden codel).1, ((k43_10 coden codel).1), ((k43_11 coden codel).1), (k43_5 coden codel), ((k43_8 coden codel).1)) else ((k43_12 coden codel).1, (k43_1 coden codel).1, ((k43_13 coden codel).1), ((k43_14 coden codel).1), (k43_5 coden codel), (k43_6 coden codel)))
def s_DrawMovesBetween : (Nat) → (List Int) → (Int × Int × (Int × Int) × (Int × Int) × (Int × Int) × Int × Int) := shut s_DrawMovesBetween_d
theorem s_DrawMovesBetween_eq (coden : Nat) (codel : List Int) : s_DrawMovesBetween coden codel = s_DrawMovesBetween_d coden codel := by
  unfold s_DrawMovesBetween
  rw [shut_eq]
theorem tot_s_DrawMovesBetween (coden : Nat) (codel : List Int) (hp : (codeB coden codel) = true) : Fo_s_DrawMovesBetween coden codel = some (s_DrawMovesBetween coden codel) := by
  have hc := hp
  rw [s_DrawMovesBetween_eq]
  unfold Fo_s_DrawMovesBetween s_DrawMovesBetween_d
  (try simp only [wI_eq])
  repeat' (first | with_reducible rfl | refine chk_opt (by first | (with_reducible assumption) | ((repeat (with_reducible first | assumption | exact s_l01From_src hc | apply post_s_l01Pick | apply post_s_l01Next | apply post_s_l01DrawPoint | apply post_s_l07DrawOf | apply post_s_l01BadField | apply post_s_l01BadPoint)); done) | (with_reducible exact field_prB9 _ _ _ (by ((repeat (with_reducible first | assumption | exact s_l01From_src hc | apply post_s_l01Pick | apply post_s_l01Next | apply post_s_l01DrawPoint | apply post_s_l07DrawOf | apply post_s_l01BadField | apply post_s_l01BadPoint)); done))) | fail | exact and_two (by ((repeat (with_reducible first | assumption | exact s_l01From_src hc | apply post_s_l01Pick | apply post_s_l01Next | apply post_s_l01DrawPoint | apply post_s_l07DrawOf | apply post_s_l01BadField | apply post_s_l01BadPoint)); done)) (pick_prBN _ _ _ (by ((repeat (with_reducible first | assumption | exact s_l01From_src hc | apply post_s_l01Pick | apply post_s_l01Next | apply post_s_l01DrawPoint | apply post_s_l07DrawOf | apply post_s_l01BadField | apply post_s_l01BadPoint)); done))) | exact and_two (by ((repeat (with_reducible first | assumption | exact s_l01From_src hc | apply post_s_l01Pick | apply post_s_l01Next | apply post_s_l01DrawPoint | apply post_s_l07DrawOf | apply post_s_l01BadField | apply post_s_l01BadPoint)); done)) (pickN_drB _ _ _ _ (by ((repeat (with_reducible first | assumption | exact s_l01From_src hc | apply post_s_l01Pick | apply post_s_l01Next | apply post_s_l01DrawPoint | apply post_s_l07DrawOf | apply post_s_l01BadField | apply post_s_l01BadPoint)); done)) (by ((repeat (with_reducible first | assumption | exact s_l01From_src hc | apply post_s_l01Pick | apply post_s_l01Next | apply post_s_l01DrawPoint | apply post_s_l07DrawOf | apply post_s_l01BadField | apply post_s_l01BadPoint)); done))) | exact pick_prBN _ _ _ (by ((repeat (with_reducible first | assumption | exact s_l01From_src hc | apply post_s_l01Pick | apply post_s_l01Next | apply post_s_l01DrawPoint | apply post_s_l07DrawOf | apply post_s_l01BadField | apply post_s_l01BadPoint)); done)) | exact pos_idx ‹_› | exact and_two (by ((repeat (with_reducible first | assumption | exact s_l01From_src hc | apply post_s_l01Pick | apply post_s_l01Next | apply post_s_l01DrawPoint | apply post_s_l07DrawOf | apply post_s_l01BadField | apply post_s_l01BadPoint)); done)) (by (first | (with_reducible assumption) | with_reducible exact field_prB9 _ _ _ (by ((repeat (with_reducible first | assumption | exact s_l01From_src hc | apply post_s_l01Pick | apply post_s_l01Next | apply post_s_l01DrawPoint | apply post_s_l07DrawOf | apply post_s_l01BadField | apply post_s_l01BadPoint)); done)) | fail | rfl)) | exact pos_cell ‹_› (by (first | exact flat2_len _ | exact flat3_len _)) | exact idx_ok (next_rng _ _ _ _ (by ((repeat (with_reducible first | assumption | exact s_l01From_src hc | apply post_s_l01Pick | apply post_s_l01Next | apply post_s_l01DrawPoint | apply post_s_l07DrawOf | apply post_s_l01BadField | apply post_s_l01BadPoint)); done)) (by decide)) | exact ble_ok (next_ble _ _ _ _ (by ((repeat (with_reducible first | assumption | exact s_l01From_src hc | apply post_s_l01Pick | apply post_s_l01Next | apply post_s_l01DrawPoint | apply post_s_l07DrawOf | apply post_s_l01BadField | apply post_s_l01BadPoint)); done)) (by decide) (by decide)) | exact ble_ok (next_ble0 _ _ _ _ (by ((repeat (with_reducible first | assumption | exact s_l01From_src hc | apply post_s_l01Pick | apply post_s_l01Next | apply post_s_l01DrawPoint | apply post_s_l07DrawOf | apply post_s_l01BadField | apply post_s_l01BadPoint)); done)) (by decide) (by decide)) | exact idx_ok (next_rng _ _ _ _ (by ((repeat (with_reducible first | assumption | exact s_l01From_src hc | apply post_s_l01Pick | apply post_s_l01Next | apply post_s_l01DrawPoint | apply post_s_l07DrawOf | apply post_s_l01BadField | apply post_s_l01BadPoint)); done)) (pos_one ‹_›)) | exact next_cell (by ((repeat (with_reducible first | assumption | exact s_l01From_src hc | apply post_s_l01Pick | apply post_s_l01Next | apply post_s_l01DrawPoint | apply post_s_l07DrawOf | apply post_s_l01BadField | apply post_s_l01BadPoint)); done)) ‹_› (by (first | exact flat2_len _ | exact flat3_len _))) ?_ | refine ite_opt (fun _ => ?_) (fun _ => ?_) | rfl)
def run_s_DrawMovesBetween : List PV → Option (Bool × List TR)
  | [.s coden (.byts codel)] => some (codeB coden codel, enc_i_i_a2_a2_a2_a2 (s_DrawMovesBetween coden codel))
  | _ => none
theorem sound_s_DrawMovesBetween : Sound Tryz.prog 43 run_s_DrawMovesBetween := by
  refine sound_of de_i_i_a2_a2_a2_a2 SO_s_DrawMovesBetween (by kernel_rfl) Tryz.func43 Tryz.ntmps43 rfl (by kernel_rfl) ?_
  intro W pvs avs rs hargs hrun
  unfold run_s_DrawMovesBetween at hrun
  split at hrun
  · simp only [Option.some.injEq, Prod.mk.injEq] at hrun
    obtain ⟨hp, rfl⟩ := hrun
    rename_i coden codel
    exact ⟨_, _, _, hargs, rfl, (eq_s_DrawMovesBetween coden codel).trans (tot_s_DrawMovesBetween coden codel hp)⟩
  · cases hrun


end

end Go.Proofs.YtoblkbpejfojjaaGreatDoor
