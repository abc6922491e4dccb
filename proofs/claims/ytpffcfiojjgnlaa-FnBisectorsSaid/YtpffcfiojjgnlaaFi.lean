import Derived.Test.YtpffcfiojjgnlaaFe
import Derived.Test.YtpffcfiojjgnlaaProg
set_option linter.unusedSimpArgs false
set_option linter.unusedVariables false
namespace Go.Proofs.Ytpffcfiojjgnlaa
open Go.RowKit
noncomputable section
abbrev k71_0 (sn : Nat) (sl : List Int) (ss : Int × Int) : Int × Nat × List Int × Int × Int := (s_l01Pick sn sl ss 17 [0, 0, 0, 1, 1, 1, 2, 2, 2, 0, 1, 2, 0, 1, 2, 3, (-1)])
def S_s_l03DrawColour : Sums := ⟨tblS [], tblM [(53, .box run_s_l01Pick)]⟩
theorem SO_s_l03DrawColour : SumsOK Try.prog S_s_l03DrawColour := ⟨tblS_ok True.intro, tblM_ok ⟨⟨Try.call53, sound_s_l01Pick⟩, True.intro⟩⟩
def Fo_s_l03DrawColour (sn : Nat) (sl : List Int) (ss : Int × Int) : Option (Int × Nat × List Int × Int × Int) :=
  (if (srcB sn sl ss && (lenB 17 1 ([0, 0, 0, 1, 1, 1, 2, 2, 2, 0, 1, 2, 0, 1, 2, 3, (-1)]) && Nat.blt 0 17)) = true then some ((k71_0 sn sl ss).1, sn, sl, (k71_0 sn sl ss).2.2.2) else none)
theorem eq_s_l03DrawColour (sn : Nat) (sl : List Int) (ss : Int × Int) : execP Try.prog S_s_l03DrawColour 71 6 (fun _ => 1000000) dec_P120_i 120 [.s sn (.byts sl), .v (.int .i64 ss.1), .v (.int .u64 ss.2)] [] = Fo_s_l03DrawColour sn sl ss := by
  kernel_rfl
def s_l03DrawColour_d (sn : Nat) (sl : List Int) (ss : Int × Int) : Int × Nat × List Int × Int × Int :=
  ((k71_0 sn sl ss).1, sn, sl, (k71_0 sn sl ss).2.2.2)
def s_l03DrawColour : (Nat) → (List Int) → (Int × Int) → (Int × Nat × List Int × Int × Int) := shut s_l03DrawColour_d
theorem s_l03DrawColour_eq (sn : Nat) (sl : List Int) (ss : Int × Int) : s_l03DrawColour sn sl ss = s_l03DrawColour_d sn sl ss := by
  unfold s_l03DrawColour
  rw [shut_eq]
theorem tot_s_l03DrawColour (sn : Nat) (sl : List Int) (ss : Int × Int) (hp : (srcB sn sl ss) = true) : Fo_s_l03DrawColour sn sl ss = some (s_l03DrawColour sn sl ss) := by
  have hs := hp
  have hc := (srcB_ok hs).1
  rw [s_l03DrawColour_eq]
  unfold Fo_s_l03DrawColour s_l03DrawColour_d
  (try simp only [wI_eq])
  repeat' (first | with_reducible rfl | refine chk_opt (by first | (with_reducible assumption) | ((repeat (with_reducible first | assumption | apply post_s_l01Pick)); done) | (with_reducible exact field_prB9 _ _ _ (by ((repeat (with_reducible first | assumption | apply post_s_l01Pick)); done))) | fail | exact pos_idx ‹_› | exact and_two (by ((repeat (with_reducible first | assumption | apply post_s_l01Pick)); done)) (by (first | (with_reducible assumption) | with_reducible exact field_prB9 _ _ _ (by ((repeat (with_reducible first | assumption | apply post_s_l01Pick)); done)) | fail | rfl)) | exact pos_cell ‹_› (by (first | exact flat2_len _ | exact flat3_len _)) | exact idx_ok (next_rng _ _ _ _ (by ((repeat (with_reducible first | assumption | apply post_s_l01Pick)); done)) (by decide)) | exact ble_ok (next_ble _ _ _ _ (by ((repeat (with_reducible first | assumption | apply post_s_l01Pick)); done)) (by decide) (by decide)) | exact ble_ok (next_ble0 _ _ _ _ (by ((repeat (with_reducible first | assumption | apply post_s_l01Pick)); done)) (by decide) (by decide)) | exact idx_ok (next_rng _ _ _ _ (by ((repeat (with_reducible first | assumption | apply post_s_l01Pick)); done)) (pos_one ‹_›)) | exact next_cell (by ((repeat (with_reducible first | assumption | apply post_s_l01Pick)); done)) ‹_› (by (first | exact flat2_len _ | exact flat3_len _))) ?_ | refine ite_opt (fun _ => ?_) (fun _ => ?_) | rfl)
theorem post_s_l03DrawColour (sn : Nat) (sl : List Int) (ss : Int × Int) (hs : srcB sn sl ss = true) : srcB sn sl (s_l03DrawColour sn sl ss).2.2.2 = true := by
  have hc := (srcB_ok hs).1
  rw [s_l03DrawColour_eq]
  unfold s_l03DrawColour_d
  repeat' (first | (with_reducible first | assumption | apply post_s_l01Pick) | refine ite_ind (P := fun r : Int × Nat × List Int × Int × Int => srcB sn sl r.2.2.2 = true) ?_ ?_ | dsimp only)
def run_s_l03DrawColour : PRun
  | 120, [.s sn (.byts sl), .v (.int .i64 s_1), .v (.int .u64 s_2)], [] => some (srcB sn sl (s_1, s_2), enc_P120_i (s_l03DrawColour sn sl (s_1, s_2)))
  | _, _, _ => none
theorem sound_s_l03DrawColour : SoundP Try.prog 71 run_s_l03DrawColour := by
  refine soundP_of de_P120_i SO_s_l03DrawColour (by kernel_rfl) Try.func71 Try.ntmps71 rfl (by kernel_rfl) ?_
  intro e bcs pvs rs bcs' hrun
  unfold run_s_l03DrawColour at hrun
  split at hrun
  · simp only [Option.some.injEq, Prod.mk.injEq] at hrun
    obtain ⟨hp, hrun⟩ := hrun
    rename_i sn sl s_1 s_2
    exact ⟨_, s_l03DrawColour sn sl (s_1, s_2), by first | exact hrun.symm | exact (Prod.ext hrun.1 hrun.2).symm, (eq_s_l03DrawColour sn sl (s_1, s_2)).trans (tot_s_l03DrawColour sn sl (s_1, s_2) hp)⟩
  · cases hrun

abbrev k72_0 (sn : Nat) (sl : List Int) (ss : Int × Int) (p : Int) : Int × Nat × List Int × Int × Int := (s_l01Next sn sl ss (wI (p + 1)))
abbrev k72_1 (sn : Nat) (sl : List Int) (ss : Int × Int) (p : Int) : Int × Nat × List Int × Int × Int := (s_l01Next sn sl ((k72_0 sn sl ss p).2.2.2) p)
abbrev k72_2 (sn : Nat) (sl : List Int) (ss : Int × Int) (p : Int) : Int × Nat × List Int × Int × Int := (s_l01Next sn sl ((k72_1 sn sl ss p).2.2.2) p)
def S_s_l01DrawLine : Sums := ⟨tblS [], tblM [(76, .box run_s_l01Next)]⟩
theorem SO_s_l01DrawLine : SumsOK Try.prog S_s_l01DrawLine := ⟨tblS_ok True.intro, tblM_ok ⟨⟨Try.call76, sound_s_l01Next⟩, True.intro⟩⟩
def Fo_s_l01DrawLine (sn : Nat) (sl : List Int) (ss : Int × Int) (p : Int) : Option ((Int × Int × Int) × Nat × List Int × Int × Int) :=
  (if (srcB sn sl ss) = true then (if (((k72_0 sn sl ss p).1) == 0) = true then (if (srcB sn sl ((k72_0 sn sl ss p).2.2.2)) = true then some ((0, 1, (k72_1 sn sl ss p).1), sn, sl, (k72_1 sn sl ss p).2.2.2) else none) else (if (srcB sn sl ((k72_0 sn sl ss p).2.2.2)) = true then (if (srcB sn sl ((k72_1 sn sl ss p).2.2.2)) = true then some ((1, (k72_1 sn sl ss p).1, (k72_2 sn sl ss p).1), sn, sl, (k72_2 sn sl ss p).2.2.2) else none) else none)) else none)
theorem eq_s_l01DrawLine (sn : Nat) (sl : List Int) (ss : Int × Int) (p : Int) : execP Try.prog S_s_l01DrawLine 72 21 (fun _ => 1000000) dec_P120_a3 120 [.s sn (.byts sl), .v (.int .i64 ss.1), .v (.int .u64 ss.2)] [.v (.int .i64 p)] = Fo_s_l01DrawLine sn sl ss p := by
  kernel_rfl
def s_l01DrawLine_d (sn : Nat) (sl : List Int) (ss : Int × Int) (p : Int) : (Int × Int × Int) × Nat × List Int × Int × Int :=
  (if (((k72_0 sn sl ss p).1) == 0) = true then ((0, 1, (k72_1 sn sl ss p).1), sn, sl, (k72_1 sn sl ss p).2.2.2) else ((1, (k72_1 sn sl ss p).1, (k72_2 sn sl ss p).1), sn, sl, (k72_2 sn sl ss p).2.2.2))
def s_l01DrawLine : (Nat) → (List Int) → (Int × Int) → (Int) → ((Int × Int × Int) × Nat × List Int × Int × Int) := shut s_l01DrawLine_d
theorem s_l01DrawLine_eq (sn : Nat) (sl : List Int) (ss : Int × Int) (p : Int) : s_l01DrawLine sn sl ss p = s_l01DrawLine_d sn sl ss p := by
  unfold s_l01DrawLine
  rw [shut_eq]
theorem tot_s_l01DrawLine (sn : Nat) (sl : List Int) (ss : Int × Int) (p : Int) (hp : (srcB sn sl ss && prB p) = true) : Fo_s_l01DrawLine sn sl ss p = some (s_l01DrawLine sn sl ss p) := by
  have hs := and_l hp
  have hc := (srcB_ok hs).1
  have hq := and_r hp
  have h0 := prB_ne hq
  rw [s_l01DrawLine_eq]
  unfold Fo_s_l01DrawLine s_l01DrawLine_d
  (try simp only [wI_eq])
  repeat' (first | with_reducible rfl | refine chk_opt (by first | (with_reducible assumption) | ((repeat (with_reducible first | assumption | apply post_s_l01Next)); done) | (with_reducible exact field_prB9 _ _ _ (by ((repeat (with_reducible first | assumption | apply post_s_l01Next)); done))) | fail | exact pos_idx ‹_› | exact and_two (by ((repeat (with_reducible first | assumption | apply post_s_l01Next)); done)) (by (first | (with_reducible assumption) | with_reducible exact field_prB9 _ _ _ (by ((repeat (with_reducible first | assumption | apply post_s_l01Next)); done)) | fail | rfl)) | exact pos_cell ‹_› (by (first | exact flat2_len _ | exact flat3_len _)) | exact idx_ok (next_rng _ _ _ _ (by ((repeat (with_reducible first | assumption | apply post_s_l01Next)); done)) (by decide)) | exact ble_ok (next_ble _ _ _ _ (by ((repeat (with_reducible first | assumption | apply post_s_l01Next)); done)) (by decide) (by decide)) | exact ble_ok (next_ble0 _ _ _ _ (by ((repeat (with_reducible first | assumption | apply post_s_l01Next)); done)) (by decide) (by decide)) | exact idx_ok (next_rng _ _ _ _ (by ((repeat (with_reducible first | assumption | apply post_s_l01Next)); done)) (pos_one ‹_›)) | exact next_cell (by ((repeat (with_reducible first | assumption | apply post_s_l01Next)); done)) ‹_› (by (first | exact flat2_len _ | exact flat3_len _))) ?_ | refine ite_opt (fun _ => ?_) (fun _ => ?_) | rfl)
theorem post_s_l01DrawLine (sn : Nat) (sl : List Int) (ss : Int × Int) (p : Int) (hs : srcB sn sl ss = true) : srcB sn sl (s_l01DrawLine sn sl ss p).2.2.2 = true := by
  have hc := (srcB_ok hs).1
  rw [s_l01DrawLine_eq]
  unfold s_l01DrawLine_d
  repeat' (first | (with_reducible first | assumption | apply post_s_l01Next) | refine ite_ind (P := fun r : (Int × Int × Int) × Nat × List Int × Int × Int => srcB sn sl r.2.2.2 = true) ?_ ?_ | dsimp only)
def run_s_l01DrawLine : PRun
  | 120, [.s sn (.byts sl), .v (.int .i64 s_1), .v (.int .u64 s_2)], [.v (.int .i64 p)] => some (srcB sn sl (s_1, s_2) && prB p, enc_P120_a3 (s_l01DrawLine sn sl (s_1, s_2) p))
  | _, _, _ => none
theorem sound_s_l01DrawLine : SoundP Try.prog 72 run_s_l01DrawLine := by
  refine soundP_of de_P120_a3 SO_s_l01DrawLine (by kernel_rfl) Try.func72 Try.ntmps72 rfl (by kernel_rfl) ?_
  intro e bcs pvs rs bcs' hrun
  unfold run_s_l01DrawLine at hrun
  split at hrun
  · simp only [Option.some.injEq, Prod.mk.injEq] at hrun
    obtain ⟨hp, hrun⟩ := hrun
    rename_i sn sl s_1 s_2 p
    exact ⟨_, s_l01DrawLine sn sl (s_1, s_2) p, by first | exact hrun.symm | exact (Prod.ext hrun.1 hrun.2).symm, (eq_s_l01DrawLine sn sl (s_1, s_2) p).trans (tot_s_l01DrawLine sn sl (s_1, s_2) p hp)⟩
  · cases hrun

abbrev k73_0 (sn : Nat) (sl : List Int) (ss : Int × Int) (most : Int) : Int × Nat × List Int × Int × Int := (s_l01Pick sn sl ((s_l01Next sn sl ss 14).2.2.2) 4 [(-1), wI (most + 1), 1099511627776, (-4611686018427387904)])
abbrev k73_1 (sn : Nat) (sl : List Int) (ss : Int × Int) (most : Int) : Int × Nat × List Int × Int × Int := (s_l01Next sn sl ((s_l01Next sn sl ss 14).2.2.2) (wI (most + 1)))
def S_s_l01Near : Sums := ⟨tblS [], tblM [(76, .box run_s_l01Next), (53, .box run_s_l01Pick)]⟩
theorem SO_s_l01Near : SumsOK Try.prog S_s_l01Near := ⟨tblS_ok True.intro, tblM_ok ⟨⟨Try.call76, sound_s_l01Next⟩, ⟨Try.call53, sound_s_l01Pick⟩, True.intro⟩⟩
def Fo_s_l01Near (sn : Nat) (sl : List Int) (ss : Int × Int) (most : Int) : Option (Int × Nat × List Int × Int × Int) :=
  (if (srcB sn sl ss) = true then (if (((s_l01Next sn sl ss 14).1) == 0) = true then (if (srcB sn sl ((s_l01Next sn sl ss 14).2.2.2) && (lenB 4 1 ([(-1), wI (most + 1), 1099511627776, (-4611686018427387904)]) && Nat.blt 0 4)) = true then some ((k73_0 sn sl ss most).1, sn, sl, (k73_0 sn sl ss most).2.2.2) else none) else (if (srcB sn sl ((s_l01Next sn sl ss 14).2.2.2)) = true then some ((k73_1 sn sl ss most).1, sn, sl, (k73_1 sn sl ss most).2.2.2) else none)) else none)
theorem eq_s_l01Near (sn : Nat) (sl : List Int) (ss : Int × Int) (most : Int) : execP Try.prog S_s_l01Near 73 17 (fun _ => 1000000) dec_P120_i 120 [.s sn (.byts sl), .v (.int .i64 ss.1), .v (.int .u64 ss.2)] [.v (.int .i64 most)] = Fo_s_l01Near sn sl ss most := by
  kernel_rfl
def s_l01Near_d (sn : Nat) (sl : List Int) (ss : Int × Int) (most : Int) : Int × Nat × List Int × Int × Int :=
  (if (((s_l01Next sn sl ss 14).1) == 0) = true then ((k73_0 sn sl ss most).1, sn, sl, (k73_0 sn sl ss most).2.2.2) else ((k73_1 sn sl ss most).1, sn, sl, (k73_1 sn sl ss most).2.2.2))
def s_l01Near : (Nat) → (List Int) → (Int × Int) → (Int) → (Int × Nat × List Int × Int × Int) := shut s_l01Near_d
theorem s_l01Near_eq (sn : Nat) (sl : List Int) (ss : Int × Int) (most : Int) : s_l01Near sn sl ss most = s_l01Near_d sn sl ss most := by
  unfold s_l01Near
  rw [shut_eq]
theorem tot_s_l01Near (sn : Nat) (sl : List Int) (ss : Int × Int) (most : Int) (hp : (srcB sn sl ss) = true) : Fo_s_l01Near sn sl ss most = some (s_l01Near sn sl ss most) := by
  have hs := hp
  have hc := (srcB_ok hs).1
  rw [s_l01Near_eq]
  unfold Fo_s_l01Near s_l01Near_d
  (try simp only [wI_eq])
  repeat' (first | with_reducible rfl | refine chk_opt (by first | (with_reducible assumption) | ((repeat (with_reducible first | assumption | apply post_s_l01Next | apply post_s_l01Pick)); done) | (with_reducible exact field_prB9 _ _ _ (by ((repeat (with_reducible first | assumption | apply post_s_l01Next | apply post_s_l01Pick)); done))) | fail | exact pos_idx ‹_› | exact and_two (by ((repeat (with_reducible first | assumption | apply post_s_l01Next | apply post_s_l01Pick)); done)) (by (first | (with_reducible assumption) | with_reducible exact field_prB9 _ _ _ (by ((repeat (with_reducible first | assumption | apply post_s_l01Next | apply post_s_l01Pick)); done)) | fail | rfl)) | exact pos_cell ‹_› (by (first | exact flat2_len _ | exact flat3_len _)) | exact idx_ok (next_rng _ _ _ _ (by ((repeat (with_reducible first | assumption | apply post_s_l01Next | apply post_s_l01Pick)); done)) (by decide)) | exact ble_ok (next_ble _ _ _ _ (by ((repeat (with_reducible first | assumption | apply post_s_l01Next | apply post_s_l01Pick)); done)) (by decide) (by decide)) | exact ble_ok (next_ble0 _ _ _ _ (by ((repeat (with_reducible first | assumption | apply post_s_l01Next | apply post_s_l01Pick)); done)) (by decide) (by decide)) | exact idx_ok (next_rng _ _ _ _ (by ((repeat (with_reducible first | assumption | apply post_s_l01Next | apply post_s_l01Pick)); done)) (pos_one ‹_›)) | exact next_cell (by ((repeat (with_reducible first | assumption | apply post_s_l01Next | apply post_s_l01Pick)); done)) ‹_› (by (first | exact flat2_len _ | exact flat3_len _))) ?_ | refine ite_opt (fun _ => ?_) (fun _ => ?_) | rfl)
theorem post_s_l01Near (sn : Nat) (sl : List Int) (ss : Int × Int) (most : Int) (hs : srcB sn sl ss = true) : srcB sn sl (s_l01Near sn sl ss most).2.2.2 = true := by
  have hc := (srcB_ok hs).1
  rw [s_l01Near_eq]
  unfold s_l01Near_d
  repeat' (first | (with_reducible first | assumption | apply post_s_l01Next | apply post_s_l01Pick) | refine ite_ind (P := fun r : Int × Nat × List Int × Int × Int => srcB sn sl r.2.2.2 = true) ?_ ?_ | dsimp only)
def run_s_l01Near : PRun
  | 120, [.s sn (.byts sl), .v (.int .i64 s_1), .v (.int .u64 s_2)], [.v (.int .i64 most)] => some (srcB sn sl (s_1, s_2), enc_P120_i (s_l01Near sn sl (s_1, s_2) most))
  | _, _, _ => none
theorem sound_s_l01Near : SoundP Try.prog 73 run_s_l01Near := by
  refine soundP_of de_P120_i SO_s_l01Near (by kernel_rfl) Try.func73 Try.ntmps73 rfl (by kernel_rfl) ?_
  intro e bcs pvs rs bcs' hrun
  unfold run_s_l01Near at hrun
  split at hrun
  · simp only [Option.some.injEq, Prod.mk.injEq] at hrun
    obtain ⟨hp, hrun⟩ := hrun
    rename_i sn sl s_1 s_2 most
    exact ⟨_, s_l01Near sn sl (s_1, s_2) most, by first | exact hrun.symm | exact (Prod.ext hrun.1 hrun.2).symm, (eq_s_l01Near sn sl (s_1, s_2) most).trans (tot_s_l01Near sn sl (s_1, s_2) most hp)⟩
  · cases hrun

abbrev k80_0 (sn : Nat) (sl : List Int) (ss : Int × Int) (p : Int) (l : Int × Int × Int) : Int × Nat × List Int × Int × Int := (s_l01Next sn sl ((s_l01Next sn sl ss 40).2.2.2) 3)
abbrev k80_1 (sn : Nat) (sl : List Int) (ss : Int × Int) (p : Int) (l : Int × Int × Int) : Int × Nat × List Int × Int × Int := (s_l01Pick sn sl ((k80_0 sn sl ss p l).2.2.2) 3 [(-1), p, 1099511627776])
abbrev k80_2 (sn : Nat) (sl : List Int) (ss : Int × Int) (p : Int) (l : Int × Int × Int) : Int × Nat × List Int × Int × Int := (s_l01Pick sn sl ((s_l01Next sn sl ss 40).2.2.2) 2 [0, 2])
def S_s_l01BadLine : Sums := ⟨tblS [], tblM [(76, .box run_s_l01Next), (53, .box run_s_l01Pick)]⟩
theorem SO_s_l01BadLine : SumsOK Try.prog S_s_l01BadLine := ⟨tblS_ok True.intro, tblM_ok ⟨⟨Try.call76, sound_s_l01Next⟩, ⟨Try.call53, sound_s_l01Pick⟩, True.intro⟩⟩
def Fo_s_l01BadLine (sn : Nat) (sl : List Int) (ss : Int × Int) (p : Int) (l : Int × Int × Int) : Option ((Int × Int × Int) × Nat × List Int × Int × Int) :=
  (if (srcB sn sl ss) = true then (if (((s_l01Next sn sl ss 40).1) == 0) = true then (if (srcB sn sl ((s_l01Next sn sl ss 40).2.2.2)) = true then (if (srcB sn sl ((k80_0 sn sl ss p l).2.2.2) && (lenB 3 1 ([(-1), p, 1099511627776]) && Nat.blt 0 3)) = true then (if (decide (0 ≤ (k80_0 sn sl ss p l).1) && decide ((k80_0 sn sl ss p l).1 < ((3 : Nat) : Int))) = true then (if (Nat.ble (0 + ((((k80_0 sn sl ss p l).1).toNat) * 1) + 1) 3) = true then some ((bif Nat.beq (0 + ((((k80_0 sn sl ss p l).1).toNat) * 1)) 0 then ((k80_1 sn sl ss p l).1) else l.1, bif Nat.beq (0 + ((((k80_0 sn sl ss p l).1).toNat) * 1)) 1 then ((k80_1 sn sl ss p l).1) else l.2.1, bif Nat.beq (0 + ((((k80_0 sn sl ss p l).1).toNat) * 1)) 2 then ((k80_1 sn sl ss p l).1) else l.2.2), sn, sl, (k80_1 sn sl ss p l).2.2.2) else none) else none) else none) else none) else (if (((s_l01Next sn sl ss 40).1) == 1) = true then (if (srcB sn sl ((s_l01Next sn sl ss 40).2.2.2) && (lenB 2 1 ([0, 2]) && Nat.blt 0 2)) = true then some ((0, (k80_2 sn sl ss p l).1, 1), sn, sl, (k80_2 sn sl ss p l).2.2.2) else none) else (if (((s_l01Next sn sl ss 40).1) == 2) = true then some ((2, 1, 0), sn, sl, (s_l01Next sn sl ss 40).2.2.2) else some (l, sn, sl, (s_l01Next sn sl ss 40).2.2.2)))) else none)
theorem eq_s_l01BadLine (sn : Nat) (sl : List Int) (ss : Int × Int) (p : Int) (l : Int × Int × Int) : execP Try.prog S_s_l01BadLine 80 28 (fun _ => 1000000) dec_P120_a3 120 [.s sn (.byts sl), .v (.int .i64 ss.1), .v (.int .u64 ss.2)] [.v (.int .i64 p), .v (.agg ⟨[.int .i64 l.1, .int .i64 l.2.1, .int .i64 l.2.2]⟩)] = Fo_s_l01BadLine sn sl ss p l := by
  kernel_rfl
def s_l01BadLine_d (sn : Nat) (sl : List Int) (ss : Int × Int) (p : Int) (l : Int × Int × Int) : (Int × Int × Int) × Nat × List Int × Int × Int :=
  (if (((s_l01Next sn sl ss 40).1) == 0) = true then ((bif Nat.beq (0 + ((((k80_0 sn sl ss p l).1).toNat) * 1)) 0 then ((k80_1 sn sl ss p l).1) else l.1, bif Nat.beq (0 + ((((k80_0 sn sl ss p l).1).toNat) * 1)) 1 then ((k80_1 sn sl ss p l).1) else l.2.1, bif Nat.beq (0 + ((((k80_0 sn sl ss p l).1).toNat) * 1)) 2 then ((k80_1 sn sl ss p l).1) else l.2.2), sn, sl, (k80_1 sn sl ss p l).2.2.2) else (if (((s_l01Next sn sl ss 40).1) == 1) = true then ((0, (k80_2 sn sl ss p l).1, 1), sn, sl, (k80_2 sn sl ss p l).2.2.2) else (if (((s_l01Next sn sl ss 40).1) == 2) = true then ((2, 1, 0), sn, sl, (s_l01Next sn sl ss 40).2.2.2) else (l, sn, sl, (s_l01Next sn sl ss 40).2.2.2))))
def s_l01BadLine : (Nat) → (List Int) → (Int × Int) → (Int) → (Int × Int × Int) → ((Int × Int × Int) × Nat × List Int × Int × Int) := shut s_l01BadLine_d
theorem s_l01BadLine_eq (sn : Nat) (sl : List Int) (ss : Int × Int) (p : Int) (l : Int × Int × Int) : s_l01BadLine sn sl ss p l = s_l01BadLine_d sn sl ss p l := by
  unfold s_l01BadLine
  rw [shut_eq]
theorem tot_s_l01BadLine (sn : Nat) (sl : List Int) (ss : Int × Int) (p : Int) (l : Int × Int × Int) (hp : (srcB sn sl ss && prB p) = true) : Fo_s_l01BadLine sn sl ss p l = some (s_l01BadLine sn sl ss p l) := by
  have hs := and_l hp
  have hc := (srcB_ok hs).1
  have hq := and_r hp
  have h0 := prB_ne hq
  rw [s_l01BadLine_eq]
  unfold Fo_s_l01BadLine s_l01BadLine_d
  (try simp only [wI_eq])
  repeat' (first | with_reducible rfl | refine chk_opt (by first | (with_reducible assumption) | ((repeat (with_reducible first | assumption | apply post_s_l01Next | apply post_s_l01Pick)); done) | (with_reducible exact field_prB9 _ _ _ (by ((repeat (with_reducible first | assumption | apply post_s_l01Next | apply post_s_l01Pick)); done))) | fail | exact pos_idx ‹_› | exact and_two (by ((repeat (with_reducible first | assumption | apply post_s_l01Next | apply post_s_l01Pick)); done)) (by (first | (with_reducible assumption) | with_reducible exact field_prB9 _ _ _ (by ((repeat (with_reducible first | assumption | apply post_s_l01Next | apply post_s_l01Pick)); done)) | fail | rfl)) | exact pos_cell ‹_› (by (first | exact flat2_len _ | exact flat3_len _)) | exact idx_ok (next_rng _ _ _ _ (by ((repeat (with_reducible first | assumption | apply post_s_l01Next | apply post_s_l01Pick)); done)) (by decide)) | exact ble_ok (next_ble _ _ _ _ (by ((repeat (with_reducible first | assumption | apply post_s_l01Next | apply post_s_l01Pick)); done)) (by decide) (by decide)) | exact ble_ok (next_ble0 _ _ _ _ (by ((repeat (with_reducible first | assumption | apply post_s_l01Next | apply post_s_l01Pick)); done)) (by decide) (by decide)) | exact idx_ok (next_rng _ _ _ _ (by ((repeat (with_reducible first | assumption | apply post_s_l01Next | apply post_s_l01Pick)); done)) (pos_one ‹_›)) | exact next_cell (by ((repeat (with_reducible first | assumption | apply post_s_l01Next | apply post_s_l01Pick)); done)) ‹_› (by (first | exact flat2_len _ | exact flat3_len _))) ?_ | refine ite_opt (fun _ => ?_) (fun _ => ?_) | rfl)
theorem post_s_l01BadLine (sn : Nat) (sl : List Int) (ss : Int × Int) (p : Int) (l : Int × Int × Int) (hs : srcB sn sl ss = true) : srcB sn sl (s_l01BadLine sn sl ss p l).2.2.2 = true := by
  have hc := (srcB_ok hs).1
  rw [s_l01BadLine_eq]
  unfold s_l01BadLine_d
  repeat' (first | (with_reducible first | assumption | apply post_s_l01Next | apply post_s_l01Pick) | refine ite_ind (P := fun r : (Int × Int × Int) × Nat × List Int × Int × Int => srcB sn sl r.2.2.2 = true) ?_ ?_ | dsimp only)
def run_s_l01BadLine : PRun
  | 120, [.s sn (.byts sl), .v (.int .i64 s_1), .v (.int .u64 s_2)], [.v (.int .i64 p), .v (.agg ⟨[.int .i64 l0, .int .i64 l1, .int .i64 l2]⟩)] => some (srcB sn sl (s_1, s_2) && prB p, enc_P120_a3 (s_l01BadLine sn sl (s_1, s_2) p (l0, l1, l2)))
  | _, _, _ => none
theorem sound_s_l01BadLine : SoundP Try.prog 80 run_s_l01BadLine := by
  refine soundP_of de_P120_a3 SO_s_l01BadLine (by kernel_rfl) Try.func80 Try.ntmps80 rfl (by kernel_rfl) ?_
  intro e bcs pvs rs bcs' hrun
  unfold run_s_l01BadLine at hrun
  split at hrun
  · simp only [Option.some.injEq, Prod.mk.injEq] at hrun
    obtain ⟨hp, hrun⟩ := hrun
    rename_i sn sl s_1 s_2 p l0 l1 l2
    exact ⟨_, s_l01BadLine sn sl (s_1, s_2) p (l0, l1, l2), by first | exact hrun.symm | exact (Prod.ext hrun.1 hrun.2).symm, (eq_s_l01BadLine sn sl (s_1, s_2) p (l0, l1, l2)).trans (tot_s_l01BadLine sn sl (s_1, s_2) p (l0, l1, l2) hp)⟩
  · cases hrun

abbrev k23_0 (coden : Nat) (codel : List Int) : Int × Nat × List Int × Int × Int := (s_l01DrawField coden codel (s_l01From coden codel))
abbrev k23_1 (coden : Nat) (codel : List Int) : Int × Nat × List Int × Int × Int := (s_l03DrawColour coden codel ((k23_0 coden codel).2.2.2))
abbrev k23_2 (coden : Nat) (codel : List Int) : (Int × Int × Int) × Nat × List Int × Int × Int := (s_l01DrawLine coden codel ((k23_1 coden codel).2.2.2) ((k23_0 coden codel).1))
abbrev k23_3 (coden : Nat) (codel : List Int) : (Int × Int) × Nat × List Int × Int × Int := (s_l01DrawPoint coden codel ((k23_2 coden codel).2.2.2) ((k23_0 coden codel).1))
abbrev k23_4 (coden : Nat) (codel : List Int) : Int × Nat × List Int × Int × Int := (s_l01Near coden codel ((k23_3 coden codel).2.2.2) (wI (((k23_0 coden codel).1) - 1)))
abbrev k23_5 (coden : Nat) (codel : List Int) : Bool := (s_l01In ((k23_1 coden codel).1) 0 2)
abbrev k23_6 (coden : Nat) (codel : List Int) : Bool := (s_l03Null ((k23_0 coden codel).1) ((k23_1 coden codel).1) ((k23_2 coden codel).1))
abbrev k23_7 (coden : Nat) (codel : List Int) : Int × Nat × List Int × Int × Int := (s_l01Next coden codel ((k23_4 coden codel).2.2.2) 2)
abbrev k23_8 (coden : Nat) (codel : List Int) : Nat × List Int := (s_l03Lines ((k23_0 coden codel).1) ((k23_1 coden codel).1) ((k23_3 coden codel).1))
abbrev k23_9 (coden : Nat) (codel : List Int) : Int × Nat × List Int × Int × Int := (s_l01Next coden codel ((k23_7 coden codel).2.2.2) (((k23_8 coden codel).1 : Nat) : Int))
abbrev k23_10 (coden : Nat) (codel : List Int) : Int := (s_l03Spread ((k23_0 coden codel).1) ((k23_1 coden codel).1) ((k23_2 coden codel).1) (((k23_8 coden codel).2).getD ((((k23_9 coden codel).1).toNat) * 3 + 0) 0, ((k23_8 coden codel).2).getD ((((k23_9 coden codel).1).toNat) * 3 + 1) 0, ((k23_8 coden codel).2).getD ((((k23_9 coden codel).1).toNat) * 3 + 2) 0))
abbrev k23_11 (coden : Nat) (codel : List Int) : Int × Nat × List Int × Int × Int := (s_l01BadField coden codel ((k23_9 coden codel).2.2.2) ((k23_0 coden codel).1))
abbrev k23_12 (coden : Nat) (codel : List Int) : (Int × Int × Int) × Nat × List Int × Int × Int := (s_l01BadLine coden codel ((k23_11 coden codel).2.2.2) ((k23_0 coden codel).1) ((k23_2 coden codel).1))
abbrev k23_13 (coden : Nat) (codel : List Int) : (Int × Int) × Nat × List Int × Int × Int := (s_l01BadPoint coden codel ((k23_12 coden codel).2.2.2) ((k23_0 coden codel).1) ((k23_3 coden codel).1))
abbrev k23_14 (coden : Nat) (codel : List Int) : Int × Nat × List Int × Int × Int := (s_l01BadField coden codel ((k23_7 coden codel).2.2.2) ((k23_0 coden codel).1))
abbrev k23_15 (coden : Nat) (codel : List Int) : (Int × Int × Int) × Nat × List Int × Int × Int := (s_l01BadLine coden codel ((k23_14 coden codel).2.2.2) ((k23_0 coden codel).1) ((k23_2 coden codel).1))
abbrev k23_16 (coden : Nat) (codel : List Int) : (Int × Int) × Nat × List Int × Int × Int := (s_l01BadPoint coden codel ((k23_15 coden codel).2.2.2) ((k23_0 coden codel).1) ((k23_3 coden codel).1))
abbrev k23_17 (coden : Nat) (codel : List Int) : Int × Nat × List Int × Int × Int := (s_l01BadField coden codel ((k23_4 coden codel).2.2.2) ((k23_0 coden codel).1))
abbrev k23_18 (coden : Nat) (codel : List Int) : (Int × Int × Int) × Nat × List Int × Int × Int := (s_l01BadLine coden codel ((k23_17 coden codel).2.2.2) ((k23_0 coden codel).1) ((k23_2 coden codel).1))
abbrev k23_19 (coden : Nat) (codel : List Int) : (Int × Int) × Nat × List Int × Int × Int := (s_l01BadPoint coden codel ((k23_18 coden codel).2.2.2) ((k23_0 coden codel).1) ((k23_3 coden codel).1))
def S_s_DrawLinesWithSpread : Sums := ⟨tblS [(74, run_s_l01In), (75, run_s_l03Null), (77, run_s_l03Lines), (78, run_s_l03Spread)], tblM [(50, .src run_s_l01From), (70, .box run_s_l01DrawField), (71, .box run_s_l03DrawColour), (72, .box run_s_l01DrawLine), (52, .box run_s_l01DrawPoint), (73, .box run_s_l01Near), (76, .box run_s_l01Next), (79, .box run_s_l01BadField), (80, .box run_s_l01BadLine), (81, .box run_s_l01BadPoint)]⟩
theorem SO_s_DrawLinesWithSpread : SumsOK Try.prog S_s_DrawLinesWithSpread := ⟨tblS_ok ⟨⟨Try.call74, sound_s_l01In⟩, ⟨Try.call75, sound_s_l03Null⟩, ⟨Try.call77, sound_s_l03Lines⟩, ⟨Try.call78, sound_s_l03Spread⟩, True.intro⟩, tblM_ok ⟨⟨Try.call50, sound_s_l01From⟩, ⟨Try.call70, sound_s_l01DrawField⟩, ⟨Try.call71, sound_s_l03DrawColour⟩, ⟨Try.call72, sound_s_l01DrawLine⟩, ⟨Try.call52, sound_s_l01DrawPoint⟩, ⟨Try.call73, sound_s_l01Near⟩, ⟨Try.call76, sound_s_l01Next⟩, ⟨Try.call79, sound_s_l01BadField⟩, ⟨Try.call80, sound_s_l01BadLine⟩, ⟨Try.call81, sound_s_l01BadPoint⟩, True.intro⟩⟩
def Fo_s_DrawLinesWithSpread (coden : Nat) (codel : List Int) : Option (Int × Int × (Int × Int × Int) × (Int × Int) × Int) :=
  (if (codeB coden codel) = true then (if (srcB coden codel (s_l01From coden codel)) = true then (if (srcB coden codel ((k23_0 coden codel).2.2.2)) = true then (if (srcB coden codel ((k23_1 coden codel).2.2.2) && prB ((k23_0 coden codel).1)) = true then (if (srcB coden codel ((k23_2 coden codel).2.2.2) && prB ((k23_0 coden codel).1)) = true then (if (srcB coden codel ((k23_3 coden codel).2.2.2)) = true then (if (k23_5 coden codel) = true then (if (prB ((k23_0 coden codel).1)) = true then (if (!(k23_6 coden codel)) = true then (if (srcB coden codel ((k23_4 coden codel).2.2.2)) = true then (if (((k23_7 coden codel).1) == 0) = true then (if (prB ((k23_0 coden codel).1)) = true then (if (srcB coden codel ((k23_7 coden codel).2.2.2)) = true then (if (decide (0 ≤ (k23_9 coden codel).1) && decide ((k23_9 coden codel).1 < (((k23_8 coden codel).1 : Nat) : Int))) = true then (if (Nat.ble ((((k23_9 coden codel).1).toNat) * 3 + 3) (((k23_8 coden codel).2).length)) = true then (if (prB ((k23_0 coden codel).1)) = true then (if (srcB coden codel ((k23_9 coden codel).2.2.2) && prB ((k23_0 coden codel).1)) = true then (if (srcB coden codel ((k23_11 coden codel).2.2.2) && prB ((k23_0 coden codel).1)) = true then (if (srcB coden codel ((k23_12 coden codel).2.2.2) && prB ((k23_0 coden codel).1)) = true then some ((k23_11 coden codel).1, (k23_1 coden codel).1, ((k23_12 coden codel).1), ((k23_13 coden codel).1), (k23_10 coden codel)) else none) else none) else none) else none) else none) else none) else none) else none) else (if (srcB coden codel ((k23_7 coden codel).2.2.2) && prB ((k23_0 coden codel).1)) = true then (if (srcB coden codel ((k23_14 coden codel).2.2.2) && prB ((k23_0 coden codel).1)) = true then (if (srcB coden codel ((k23_15 coden codel).2.2.2) && prB ((k23_0 coden codel).1)) = true then some ((k23_14 coden codel).1, (k23_1 coden codel).1, ((k23_15 coden codel).1), ((k23_16 coden codel).1), (k23_4 coden codel).1) else none) else none) else none)) else none) else (if (srcB coden codel ((k23_4 coden codel).2.2.2) && prB ((k23_0 coden codel).1)) = true then (if (srcB coden codel ((k23_17 coden codel).2.2.2) && prB ((k23_0 coden codel).1)) = true then (if (srcB coden codel ((k23_18 coden codel).2.2.2) && prB ((k23_0 coden codel).1)) = true then some ((k23_17 coden codel).1, (k23_1 coden codel).1, ((k23_18 coden codel).1), ((k23_19 coden codel).1), (k23_4 coden codel).1) else none) else none) else none)) else none) else (if (srcB coden codel ((k23_4 coden codel).2.2.2) && prB ((k23_0 coden codel).1)) = true then (if (srcB coden codel ((k23_17 coden codel).2.2.2) && prB ((k23_0 coden codel).1)) = true then (if (srcB coden codel ((k23_18 coden codel).2.2.2) && prB ((k23_0 coden codel).1)) = true then some ((k23_17 coden codel).1, (k23_1 coden codel).1, ((k23_18 coden codel).1), ((k23_19 coden codel).1), (k23_4 coden codel).1) else none) else none) else none)) else none) else none) else none) else none) else none) else none)
theorem eq_s_DrawLinesWithSpread (coden : Nat) (codel : List Int) : execT Try.prog S_s_DrawLinesWithSpread 23 72 (fun _ => 1000000) dec_i_i_a3_a2_i [.s coden (.byts codel)] = Fo_s_DrawLinesWithSpread coden codel := by
  kernel_rfl
def s_DrawLinesWithSpread_d (coden : Nat) (codel : List Int) : Int × Int × (Int × Int × Int) × (Int × Int) × Int :=
  (if (k23_5 coden codel) = true then (if (!(k23_6 coden codel)) = true then (if (((k23_7 coden codel).1) == 0) = true then ((k23_11 coden codel).1, (k23_1 coden codel).1, ((k23_12 coden codel).1), ((k23_13 coden codel).1), (k23_10 coden codel)) else ((k23_14 coden codel).1, (k23_1 coden codel).1, ((k23_15 coden codel).1), ((k23_16 coden codel).1), (k23_4 coden codel).1)) else ((k23_17 coden codel).1, (k23_1 coden codel).1, ((k23_18 coden codel).1), ((k23_19 coden codel).1), (k23_4 coden codel).1)) else ((k23_17 coden codel).1, (k23_1 coden codel).1, ((k23_18 coden codel).1), ((k23_19 coden codel).1), (k23_4 coden codel).1))
def s_DrawLinesWithSpread : (Nat) → (List Int) → (Int × Int × (Int × Int × Int) × (Int × Int) × Int) := shut s_DrawLinesWithSpread_d
theorem s_DrawLinesWithSpread_eq (coden : Nat) (codel : List Int) : s_DrawLinesWithSpread coden codel = s_DrawLinesWithSpread_d coden codel := by
  unfold s_DrawLinesWithSpread
  rw [shut_eq]
theorem tot_s_DrawLinesWithSpread (coden : Nat) (codel : List Int) (hp : (codeB coden codel) = true) : Fo_s_DrawLinesWithSpread coden codel = some (s_DrawLinesWithSpread coden codel) := by
  have hc := hp
  rw [s_DrawLinesWithSpread_eq]
  unfold Fo_s_DrawLinesWithSpread s_DrawLinesWithSpread_d
  (try simp only [wI_eq])
  repeat' (first | with_reducible rfl | refine chk_opt (by first | (with_reducible assumption) | ((repeat (with_reducible first | assumption | exact s_l01From_src hc | apply post_s_l01DrawField | apply post_s_l03DrawColour | apply post_s_l01DrawLine | apply post_s_l01DrawPoint | apply post_s_l01Near | apply post_s_l01Next | apply post_s_l01BadField | apply post_s_l01BadLine | apply post_s_l01BadPoint)); done) | (with_reducible exact field_prB9 _ _ _ (by ((repeat (with_reducible first | assumption | exact s_l01From_src hc | apply post_s_l01DrawField | apply post_s_l03DrawColour | apply post_s_l01DrawLine | apply post_s_l01DrawPoint | apply post_s_l01Near | apply post_s_l01Next | apply post_s_l01BadField | apply post_s_l01BadLine | apply post_s_l01BadPoint)); done))) | fail | exact idx_ok (next_rng _ _ _ _ (by ((repeat (with_reducible first | assumption | exact s_l01From_src hc | apply post_s_l01DrawField | apply post_s_l03DrawColour | apply post_s_l01DrawLine | apply post_s_l01DrawPoint | apply post_s_l01Near | apply post_s_l01Next | apply post_s_l01BadField | apply post_s_l01BadLine | apply post_s_l01BadPoint)); done)) (l03_pos _ (field_is8 _ _ _ (by ((repeat (with_reducible first | assumption | exact s_l01From_src hc | apply post_s_l01DrawField | apply post_s_l03DrawColour | apply post_s_l01DrawLine | apply post_s_l01DrawPoint | apply post_s_l01Near | apply post_s_l01Next | apply post_s_l01BadField | apply post_s_l01BadLine | apply post_s_l01BadPoint)); done))) ‹_›)) | exact ble_ok (next_ble _ _ _ _ (by ((repeat (with_reducible first | assumption | exact s_l01From_src hc | apply post_s_l01DrawField | apply post_s_l03DrawColour | apply post_s_l01DrawLine | apply post_s_l01DrawPoint | apply post_s_l01Near | apply post_s_l01Next | apply post_s_l01BadField | apply post_s_l01BadLine | apply post_s_l01BadPoint)); done)) (l03_pos _ (field_is8 _ _ _ (by ((repeat (with_reducible first | assumption | exact s_l01From_src hc | apply post_s_l01DrawField | apply post_s_l03DrawColour | apply post_s_l01DrawLine | apply post_s_l01DrawPoint | apply post_s_l01Near | apply post_s_l01Next | apply post_s_l01BadField | apply post_s_l01BadLine | apply post_s_l01BadPoint)); done))) ‹_›) (len_next (flat3_len _) (l03_pos _ (field_is8 _ _ _ (by ((repeat (with_reducible first | assumption | exact s_l01From_src hc | apply post_s_l01DrawField | apply post_s_l03DrawColour | apply post_s_l01DrawLine | apply post_s_l01DrawPoint | apply post_s_l01Near | apply post_s_l01Next | apply post_s_l01BadField | apply post_s_l01BadLine | apply post_s_l01BadPoint)); done))) ‹_›))) | exact pos_idx ‹_› | exact and_two (by ((repeat (with_reducible first | assumption | exact s_l01From_src hc | apply post_s_l01DrawField | apply post_s_l03DrawColour | apply post_s_l01DrawLine | apply post_s_l01DrawPoint | apply post_s_l01Near | apply post_s_l01Next | apply post_s_l01BadField | apply post_s_l01BadLine | apply post_s_l01BadPoint)); done)) (by (first | (with_reducible assumption) | with_reducible exact field_prB9 _ _ _ (by ((repeat (with_reducible first | assumption | exact s_l01From_src hc | apply post_s_l01DrawField | apply post_s_l03DrawColour | apply post_s_l01DrawLine | apply post_s_l01DrawPoint | apply post_s_l01Near | apply post_s_l01Next | apply post_s_l01BadField | apply post_s_l01BadLine | apply post_s_l01BadPoint)); done)) | fail | rfl)) | exact pos_cell ‹_› (by (first | exact flat2_len _ | exact flat3_len _)) | exact idx_ok (next_rng _ _ _ _ (by ((repeat (with_reducible first | assumption | exact s_l01From_src hc | apply post_s_l01DrawField | apply post_s_l03DrawColour | apply post_s_l01DrawLine | apply post_s_l01DrawPoint | apply post_s_l01Near | apply post_s_l01Next | apply post_s_l01BadField | apply post_s_l01BadLine | apply post_s_l01BadPoint)); done)) (by decide)) | exact ble_ok (next_ble _ _ _ _ (by ((repeat (with_reducible first | assumption | exact s_l01From_src hc | apply post_s_l01DrawField | apply post_s_l03DrawColour | apply post_s_l01DrawLine | apply post_s_l01DrawPoint | apply post_s_l01Near | apply post_s_l01Next | apply post_s_l01BadField | apply post_s_l01BadLine | apply post_s_l01BadPoint)); done)) (by decide) (by decide)) | exact ble_ok (next_ble0 _ _ _ _ (by ((repeat (with_reducible first | assumption | exact s_l01From_src hc | apply post_s_l01DrawField | apply post_s_l03DrawColour | apply post_s_l01DrawLine | apply post_s_l01DrawPoint | apply post_s_l01Near | apply post_s_l01Next | apply post_s_l01BadField | apply post_s_l01BadLine | apply post_s_l01BadPoint)); done)) (by decide) (by decide)) | exact idx_ok (next_rng _ _ _ _ (by ((repeat (with_reducible first | assumption | exact s_l01From_src hc | apply post_s_l01DrawField | apply post_s_l03DrawColour | apply post_s_l01DrawLine | apply post_s_l01DrawPoint | apply post_s_l01Near | apply post_s_l01Next | apply post_s_l01BadField | apply post_s_l01BadLine | apply post_s_l01BadPoint)); done)) (pos_one ‹_›)) | exact next_cell (by ((repeat (with_reducible first | assumption | exact s_l01From_src hc | apply post_s_l01DrawField | apply post_s_l03DrawColour | apply post_s_l01DrawLine | apply post_s_l01DrawPoint | apply post_s_l01Near | apply post_s_l01Next | apply post_s_l01BadField | apply post_s_l01BadLine | apply post_s_l01BadPoint)); done)) ‹_› (by (first | exact flat2_len _ | exact flat3_len _))) ?_ | refine ite_opt (fun _ => ?_) (fun _ => ?_) | rfl)
def run_s_DrawLinesWithSpread : List PV → Option (Bool × List TR)
  | [.s coden (.byts codel)] => some (codeB coden codel, enc_i_i_a3_a2_i (s_DrawLinesWithSpread coden codel))
  | _ => none
theorem sound_s_DrawLinesWithSpread : Sound Try.prog 23 run_s_DrawLinesWithSpread := by
  refine sound_of de_i_i_a3_a2_i SO_s_DrawLinesWithSpread (by kernel_rfl) Try.func23 Try.ntmps23 rfl (by kernel_rfl) ?_
  intro W pvs avs rs hargs hrun
  unfold run_s_DrawLinesWithSpread at hrun
  split at hrun
  · simp only [Option.some.injEq, Prod.mk.injEq] at hrun
    obtain ⟨hp, rfl⟩ := hrun
    rename_i coden codel
    exact ⟨_, _, _, hargs, rfl, (eq_s_DrawLinesWithSpread coden codel).trans (tot_s_DrawLinesWithSpread coden codel hp)⟩
  · cases hrun

abbrev k93_0 (coden : Nat) (codel : List Int) : Int × Nat × List Int × Int × Int := (s_l01DrawField coden codel (s_l01From coden codel))
abbrev k93_1 (coden : Nat) (codel : List Int) : Int × Nat × List Int × Int × Int := (s_l03DrawColour coden codel ((k93_0 coden codel).2.2.2))
abbrev k93_2 (coden : Nat) (codel : List Int) : (Int × Int × Int) × Nat × List Int × Int × Int := (s_l01DrawLine coden codel ((k93_1 coden codel).2.2.2) ((k93_0 coden codel).1))
abbrev k93_3 (coden : Nat) (codel : List Int) : (Int × Int × Int) × Nat × List Int × Int × Int := (s_l01DrawLine coden codel ((k93_2 coden codel).2.2.2) ((k93_0 coden codel).1))
abbrev k93_4 (coden : Nat) (codel : List Int) : Int × Nat × List Int × Int × Int := (s_l01Next coden codel ((k93_3 coden codel).2.2.2) 6)
abbrev k93_5 (coden : Nat) (codel : List Int) : Int × Nat × List Int × Int × Int := (s_l01Next coden codel ((k93_4 coden codel).2.2.2) ((k93_0 coden codel).1))
abbrev k93_6 (coden : Nat) (codel : List Int) : Int × Nat × List Int × Int × Int := (s_l01BadField coden codel ((k93_5 coden codel).2.2.2) ((k93_0 coden codel).1))
abbrev k93_7 (coden : Nat) (codel : List Int) : (Int × Int × Int) × Nat × List Int × Int × Int := (s_l01BadLine coden codel ((k93_6 coden codel).2.2.2) ((k93_0 coden codel).1) ((k93_2 coden codel).1))
abbrev k93_8 (coden : Nat) (codel : List Int) : (Int × Int × Int) × Nat × List Int × Int × Int := (s_l01BadLine coden codel ((k93_7 coden codel).2.2.2) ((k93_0 coden codel).1) (((k93_2 coden codel).1).1, ((k93_2 coden codel).1).2.1, (k93_5 coden codel).1))
abbrev k93_9 (coden : Nat) (codel : List Int) : Int × Int × Int := (s_l01Normal ((k93_0 coden codel).1) (wI (0 - (((k93_2 coden codel).1).2.1))) (((k93_2 coden codel).1).1) ((k93_5 coden codel).1))
abbrev k93_10 (coden : Nat) (codel : List Int) : (Int × Int × Int) × Nat × List Int × Int × Int := (s_l01BadLine coden codel ((k93_7 coden codel).2.2.2) ((k93_0 coden codel).1) (k93_9 coden codel))
abbrev k93_11 (coden : Nat) (codel : List Int) : Int × Nat × List Int × Int × Int := (s_l01BadField coden codel ((k93_4 coden codel).2.2.2) ((k93_0 coden codel).1))
abbrev k93_12 (coden : Nat) (codel : List Int) : (Int × Int × Int) × Nat × List Int × Int × Int := (s_l01BadLine coden codel ((k93_11 coden codel).2.2.2) ((k93_0 coden codel).1) ((k93_2 coden codel).1))
abbrev k93_13 (coden : Nat) (codel : List Int) : (Int × Int × Int) × Nat × List Int × Int × Int := (s_l01BadLine coden codel ((k93_12 coden codel).2.2.2) ((k93_0 coden codel).1) ((k93_3 coden codel).1))
def S_s_l03Pair : Sums := ⟨tblS [(112, run_s_l01Normal)], tblM [(50, .src run_s_l01From), (70, .box run_s_l01DrawField), (71, .box run_s_l03DrawColour), (72, .box run_s_l01DrawLine), (76, .box run_s_l01Next), (79, .box run_s_l01BadField), (80, .box run_s_l01BadLine)]⟩
theorem SO_s_l03Pair : SumsOK Try.prog S_s_l03Pair := ⟨tblS_ok ⟨⟨Try.call112, sound_s_l01Normal⟩, True.intro⟩, tblM_ok ⟨⟨Try.call50, sound_s_l01From⟩, ⟨Try.call70, sound_s_l01DrawField⟩, ⟨Try.call71, sound_s_l03DrawColour⟩, ⟨Try.call72, sound_s_l01DrawLine⟩, ⟨Try.call76, sound_s_l01Next⟩, ⟨Try.call79, sound_s_l01BadField⟩, ⟨Try.call80, sound_s_l01BadLine⟩, True.intro⟩⟩
def Fo_s_l03Pair (coden : Nat) (codel : List Int) : Option (Int × Int × (Int × Int × Int) × Int × Int × Int) :=
  (if (codeB coden codel) = true then (if (srcB coden codel (s_l01From coden codel)) = true then (if (srcB coden codel ((k93_0 coden codel).2.2.2)) = true then (if (srcB coden codel ((k93_1 coden codel).2.2.2) && prB ((k93_0 coden codel).1)) = true then (if (srcB coden codel ((k93_2 coden codel).2.2.2) && prB ((k93_0 coden codel).1)) = true then (if (srcB coden codel ((k93_3 coden codel).2.2.2)) = true then (if (((k93_4 coden codel).1) == 0) = true then (if (srcB coden codel ((k93_4 coden codel).2.2.2)) = true then (if (srcB coden codel ((k93_5 coden codel).2.2.2) && prB ((k93_0 coden codel).1)) = true then (if (srcB coden codel ((k93_6 coden codel).2.2.2) && prB ((k93_0 coden codel).1)) = true then (if (srcB coden codel ((k93_7 coden codel).2.2.2) && prB ((k93_0 coden codel).1)) = true then some ((k93_6 coden codel).1, (k93_1 coden codel).1, ((k93_7 coden codel).1), ((k93_8 coden codel).1)) else none) else none) else none) else none) else (if (((k93_4 coden codel).1) == 1) = true then (if (srcB coden codel ((k93_4 coden codel).2.2.2)) = true then (if (prB ((k93_0 coden codel).1)) = true then (if (srcB coden codel ((k93_5 coden codel).2.2.2) && prB ((k93_0 coden codel).1)) = true then (if (srcB coden codel ((k93_6 coden codel).2.2.2) && prB ((k93_0 coden codel).1)) = true then (if (srcB coden codel ((k93_7 coden codel).2.2.2) && prB ((k93_0 coden codel).1)) = true then some ((k93_6 coden codel).1, (k93_1 coden codel).1, ((k93_7 coden codel).1), ((k93_10 coden codel).1)) else none) else none) else none) else none) else none) else (if (srcB coden codel ((k93_4 coden codel).2.2.2) && prB ((k93_0 coden codel).1)) = true then (if (srcB coden codel ((k93_11 coden codel).2.2.2) && prB ((k93_0 coden codel).1)) = true then (if (srcB coden codel ((k93_12 coden codel).2.2.2) && prB ((k93_0 coden codel).1)) = true then some ((k93_11 coden codel).1, (k93_1 coden codel).1, ((k93_12 coden codel).1), ((k93_13 coden codel).1)) else none) else none) else none))) else none) else none) else none) else none) else none) else none)
theorem eq_s_l03Pair (coden : Nat) (codel : List Int) : execT Try.prog S_s_l03Pair 93 59 (fun _ => 1000000) dec_i_i_a3_a3 [.s coden (.byts codel)] = Fo_s_l03Pair coden codel := by
  kernel_rfl
def s_l03Pair_d (coden : Nat) (codel : List Int) : Int × Int × (Int × Int × Int) × Int × Int × Int :=
  (if (((k93_4 coden codel).1) == 0) = true then ((k93_6 coden codel).1, (k93_1 coden codel).1, ((k93_7 coden codel).1), ((k93_8 coden codel).1)) else (if (((k93_4 coden codel).1) == 1) = true then ((k93_6 coden codel).1, (k93_1 coden codel).1, ((k93_7 coden codel).1), ((k93_10 coden codel).1)) else ((k93_11 coden codel).1, (k93_1 coden codel).1, ((k93_12 coden codel).1), ((k93_13 coden codel).1))))
def s_l03Pair : (Nat) → (List Int) → (Int × Int × (Int × Int × Int) × Int × Int × Int) := shut s_l03Pair_d
theorem s_l03Pair_eq (coden : Nat) (codel : List Int) : s_l03Pair coden codel = s_l03Pair_d coden codel := by
  unfold s_l03Pair
  rw [shut_eq]
theorem tot_s_l03Pair (coden : Nat) (codel : List Int) (hp : (codeB coden codel) = true) : Fo_s_l03Pair coden codel = some (s_l03Pair coden codel) := by
  have hc := hp
  rw [s_l03Pair_eq]
  unfold Fo_s_l03Pair s_l03Pair_d
  (try simp only [wI_eq])
  repeat' (first | with_reducible rfl | refine chk_opt (by first | (with_reducible assumption) | ((repeat (with_reducible first | assumption | exact s_l01From_src hc | apply post_s_l01DrawField | apply post_s_l03DrawColour | apply post_s_l01DrawLine | apply post_s_l01Next | apply post_s_l01BadField | apply post_s_l01BadLine)); done) | (with_reducible exact field_prB9 _ _ _ (by ((repeat (with_reducible first | assumption | exact s_l01From_src hc | apply post_s_l01DrawField | apply post_s_l03DrawColour | apply post_s_l01DrawLine | apply post_s_l01Next | apply post_s_l01BadField | apply post_s_l01BadLine)); done))) | fail | exact pos_idx ‹_› | exact and_two (by ((repeat (with_reducible first | assumption | exact s_l01From_src hc | apply post_s_l01DrawField | apply post_s_l03DrawColour | apply post_s_l01DrawLine | apply post_s_l01Next | apply post_s_l01BadField | apply post_s_l01BadLine)); done)) (by (first | (with_reducible assumption) | with_reducible exact field_prB9 _ _ _ (by ((repeat (with_reducible first | assumption | exact s_l01From_src hc | apply post_s_l01DrawField | apply post_s_l03DrawColour | apply post_s_l01DrawLine | apply post_s_l01Next | apply post_s_l01BadField | apply post_s_l01BadLine)); done)) | fail | rfl)) | exact pos_cell ‹_› (by (first | exact flat2_len _ | exact flat3_len _)) | exact idx_ok (next_rng _ _ _ _ (by ((repeat (with_reducible first | assumption | exact s_l01From_src hc | apply post_s_l01DrawField | apply post_s_l03DrawColour | apply post_s_l01DrawLine | apply post_s_l01Next | apply post_s_l01BadField | apply post_s_l01BadLine)); done)) (by decide)) | exact ble_ok (next_ble _ _ _ _ (by ((repeat (with_reducible first | assumption | exact s_l01From_src hc | apply post_s_l01DrawField | apply post_s_l03DrawColour | apply post_s_l01DrawLine | apply post_s_l01Next | apply post_s_l01BadField | apply post_s_l01BadLine)); done)) (by decide) (by decide)) | exact ble_ok (next_ble0 _ _ _ _ (by ((repeat (with_reducible first | assumption | exact s_l01From_src hc | apply post_s_l01DrawField | apply post_s_l03DrawColour | apply post_s_l01DrawLine | apply post_s_l01Next | apply post_s_l01BadField | apply post_s_l01BadLine)); done)) (by decide) (by decide)) | exact idx_ok (next_rng _ _ _ _ (by ((repeat (with_reducible first | assumption | exact s_l01From_src hc | apply post_s_l01DrawField | apply post_s_l03DrawColour | apply post_s_l01DrawLine | apply post_s_l01Next | apply post_s_l01BadField | apply post_s_l01BadLine)); done)) (pos_one ‹_›)) | exact next_cell (by ((repeat (with_reducible first | assumption | exact s_l01From_src hc | apply post_s_l01DrawField | apply post_s_l03DrawColour | apply post_s_l01DrawLine | apply post_s_l01Next | apply post_s_l01BadField | apply post_s_l01BadLine)); done)) ‹_› (by (first | exact flat2_len _ | exact flat3_len _))) ?_ | refine ite_opt (fun _ => ?_) (fun _ => ?_) | rfl)
def run_s_l03Pair : List PV → Option (Bool × List TR)
  | [.s coden (.byts codel)] => some (codeB coden codel, enc_i_i_a3_a3 (s_l03Pair coden codel))
  | _ => none
theorem sound_s_l03Pair : Sound Try.prog 93 run_s_l03Pair := by
  refine sound_of de_i_i_a3_a3 SO_s_l03Pair (by kernel_rfl) Try.func93 Try.ntmps93 rfl (by kernel_rfl) ?_
  intro W pvs avs rs hargs hrun
  unfold run_s_l03Pair at hrun
  split at hrun
  · simp only [Option.some.injEq, Prod.mk.injEq] at hrun
    obtain ⟨hp, rfl⟩ := hrun
    rename_i coden codel
    exact ⟨_, _, _, hargs, rfl, (eq_s_l03Pair coden codel).trans (tot_s_l03Pair coden codel hp)⟩
  · cases hrun

def S_s_DrawCountBySpread : Sums := ⟨tblS [(93, run_s_l03Pair)], tblM []⟩
theorem SO_s_DrawCountBySpread : SumsOK Try.prog S_s_DrawCountBySpread := ⟨tblS_ok ⟨⟨Try.call93, sound_s_l03Pair⟩, True.intro⟩, tblM_ok True.intro⟩
def Fo_s_DrawCountBySpread (coden : Nat) (codel : List Int) : Option (Int × Int × Int × Int × Int) :=
  (if (codeB coden codel) = true then some ((s_l03Pair coden codel).1, (s_l03Pair coden codel).2.1, ((s_l03Pair coden codel).2.2.1)) else none)
theorem eq_s_DrawCountBySpread (coden : Nat) (codel : List Int) : execT Try.prog S_s_DrawCountBySpread 33 19 (fun _ => 1000000) dec_i_i_a3 [.s coden (.byts codel)] = Fo_s_DrawCountBySpread coden codel := by
  kernel_rfl
def s_DrawCountBySpread_d (coden : Nat) (codel : List Int) : Int × Int × Int × Int × Int :=
  ((s_l03Pair coden codel).1, (s_l03Pair coden codel).2.1, ((s_l03Pair coden codel).2.2.1))
def s_DrawCountBySpread : (Nat) → (List Int) → (Int × Int × Int × Int × Int) := shut s_DrawCountBySpread_d
theorem s_DrawCountBySpread_eq (coden : Nat) (codel : List Int) : s_DrawCountBySpread coden codel = s_DrawCountBySpread_d coden codel := by
  unfold s_DrawCountBySpread
  rw [shut_eq]
theorem tot_s_DrawCountBySpread (coden : Nat) (codel : List Int) (hp : (codeB coden codel) = true) : Fo_s_DrawCountBySpread coden codel = some (s_DrawCountBySpread coden codel) := by
  have hc := hp
  rw [s_DrawCountBySpread_eq]
  unfold Fo_s_DrawCountBySpread s_DrawCountBySpread_d
  (try simp only [wI_eq])
  repeat' (first | with_reducible rfl | refine chk_opt (by first | (with_reducible assumption) | ((repeat (with_reducible first | assumption)); done) | (with_reducible exact field_prB9 _ _ _ (by ((repeat (with_reducible first | assumption)); done))) | fail | exact pos_idx ‹_› | exact and_two (by ((repeat (with_reducible first | assumption)); done)) (by (first | (with_reducible assumption) | with_reducible exact field_prB9 _ _ _ (by ((repeat (with_reducible first | assumption)); done)) | fail | rfl)) | exact pos_cell ‹_› (by (first | exact flat2_len _ | exact flat3_len _)) | exact idx_ok (next_rng _ _ _ _ (by ((repeat (with_reducible first | assumption)); done)) (by decide)) | exact ble_ok (next_ble _ _ _ _ (by ((repeat (with_reducible first | assumption)); done)) (by decide) (by decide)) | exact ble_ok (next_ble0 _ _ _ _ (by ((repeat (with_reducible first | assumption)); done)) (by decide) (by decide)) | exact idx_ok (next_rng _ _ _ _ (by ((repeat (with_reducible first | assumption)); done)) (pos_one ‹_›)) | exact next_cell (by ((repeat (with_reducible first | assumption)); done)) ‹_› (by (first | exact flat2_len _ | exact flat3_len _))) ?_ | refine ite_opt (fun _ => ?_) (fun _ => ?_) | rfl)
def run_s_DrawCountBySpread : List PV → Option (Bool × List TR)
  | [.s coden (.byts codel)] => some (codeB coden codel, enc_i_i_a3 (s_DrawCountBySpread coden codel))
  | _ => none
theorem sound_s_DrawCountBySpread : Sound Try.prog 33 run_s_DrawCountBySpread := by
  refine sound_of de_i_i_a3 SO_s_DrawCountBySpread (by kernel_rfl) Try.func33 Try.ntmps33 rfl (by kernel_rfl) ?_
  intro W pvs avs rs hargs hrun
  unfold run_s_DrawCountBySpread at hrun
  split at hrun
  · simp only [Option.some.injEq, Prod.mk.injEq] at hrun
    obtain ⟨hp, rfl⟩ := hrun
    rename_i coden codel
    exact ⟨_, _, _, hargs, rfl, (eq_s_DrawCountBySpread coden codel).trans (tot_s_DrawCountBySpread coden codel hp)⟩
  · cases hrun

def S_s_DrawBisectorsOf : Sums := ⟨tblS [(93, run_s_l03Pair)], tblM []⟩
theorem SO_s_DrawBisectorsOf : SumsOK Try.prog S_s_DrawBisectorsOf := ⟨tblS_ok ⟨⟨Try.call93, sound_s_l03Pair⟩, True.intro⟩, tblM_ok True.intro⟩
def Fo_s_DrawBisectorsOf (coden : Nat) (codel : List Int) : Option (Int × Int × (Int × Int × Int) × Int × Int × Int) :=
  (if (codeB coden codel) = true then some ((s_l03Pair coden codel).1, (s_l03Pair coden codel).2.1, ((s_l03Pair coden codel).2.2.1), ((s_l03Pair coden codel).2.2.2)) else none)
theorem eq_s_DrawBisectorsOf (coden : Nat) (codel : List Int) : execT Try.prog S_s_DrawBisectorsOf 29 21 (fun _ => 1000000) dec_i_i_a3_a3 [.s coden (.byts codel)] = Fo_s_DrawBisectorsOf coden codel := by
  kernel_rfl
def s_DrawBisectorsOf_d (coden : Nat) (codel : List Int) : Int × Int × (Int × Int × Int) × Int × Int × Int :=
  ((s_l03Pair coden codel).1, (s_l03Pair coden codel).2.1, ((s_l03Pair coden codel).2.2.1), ((s_l03Pair coden codel).2.2.2))
def s_DrawBisectorsOf : (Nat) → (List Int) → (Int × Int × (Int × Int × Int) × Int × Int × Int) := shut s_DrawBisectorsOf_d
theorem s_DrawBisectorsOf_eq (coden : Nat) (codel : List Int) : s_DrawBisectorsOf coden codel = s_DrawBisectorsOf_d coden codel := by
  unfold s_DrawBisectorsOf
  rw [shut_eq]
theorem tot_s_DrawBisectorsOf (coden : Nat) (codel : List Int) (hp : (codeB coden codel) = true) : Fo_s_DrawBisectorsOf coden codel = some (s_DrawBisectorsOf coden codel) := by
  have hc := hp
  rw [s_DrawBisectorsOf_eq]
  unfold Fo_s_DrawBisectorsOf s_DrawBisectorsOf_d
  (try simp only [wI_eq])
  repeat' (first | with_reducible rfl | refine chk_opt (by first | (with_reducible assumption) | ((repeat (with_reducible first | assumption)); done) | (with_reducible exact field_prB9 _ _ _ (by ((repeat (with_reducible first | assumption)); done))) | fail | exact pos_idx ‹_› | exact and_two (by ((repeat (with_reducible first | assumption)); done)) (by (first | (with_reducible assumption) | with_reducible exact field_prB9 _ _ _ (by ((repeat (with_reducible first | assumption)); done)) | fail | rfl)) | exact pos_cell ‹_› (by (first | exact flat2_len _ | exact flat3_len _)) | exact idx_ok (next_rng _ _ _ _ (by ((repeat (with_reducible first | assumption)); done)) (by decide)) | exact ble_ok (next_ble _ _ _ _ (by ((repeat (with_reducible first | assumption)); done)) (by decide) (by decide)) | exact ble_ok (next_ble0 _ _ _ _ (by ((repeat (with_reducible first | assumption)); done)) (by decide) (by decide)) | exact idx_ok (next_rng _ _ _ _ (by ((repeat (with_reducible first | assumption)); done)) (pos_one ‹_›)) | exact next_cell (by ((repeat (with_reducible first | assumption)); done)) ‹_› (by (first | exact flat2_len _ | exact flat3_len _))) ?_ | refine ite_opt (fun _ => ?_) (fun _ => ?_) | rfl)
def run_s_DrawBisectorsOf : List PV → Option (Bool × List TR)
  | [.s coden (.byts codel)] => some (codeB coden codel, enc_i_i_a3_a3 (s_DrawBisectorsOf coden codel))
  | _ => none
theorem sound_s_DrawBisectorsOf : Sound Try.prog 29 run_s_DrawBisectorsOf := by
  refine sound_of de_i_i_a3_a3 SO_s_DrawBisectorsOf (by kernel_rfl) Try.func29 Try.ntmps29 rfl (by kernel_rfl) ?_
  intro W pvs avs rs hargs hrun
  unfold run_s_DrawBisectorsOf at hrun
  split at hrun
  · simp only [Option.some.injEq, Prod.mk.injEq] at hrun
    obtain ⟨hp, rfl⟩ := hrun
    rename_i coden codel
    exact ⟨_, _, _, hargs, rfl, (eq_s_DrawBisectorsOf coden codel).trans (tot_s_DrawBisectorsOf coden codel hp)⟩
  · cases hrun


end

end Go.Proofs.Ytpffcfiojjgnlaa
