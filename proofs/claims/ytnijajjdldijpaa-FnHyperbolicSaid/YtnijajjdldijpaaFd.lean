import Derived.Test.YtnijajjdldijpaaFa
import Derived.Test.YtnijajjdldijpaaFc
import Derived.Test.YtnijajjdldijpaaProg
set_option linter.unusedSimpArgs false
set_option linter.unusedVariables false
namespace Go.Proofs.Ytnijajjdldijpaa
open Go.RowKit
noncomputable section
def S_s_l01Next : Sums := ⟨tblS [], tblM []⟩
theorem SO_s_l01Next : SumsOK Try.prog S_s_l01Next := ⟨tblS_ok True.intro, tblM_ok True.intro⟩
def Fo_s_l01Next (sn : Nat) (sl : List Int) (ss : Int × Int) (n_ : Int) : Option (Int × Nat × List Int × Int × Int) :=
  (if (decide (n_ < 1)) = true then some (0, sn, sl, ss) else (if (decide (ss.1 < ((sn : Nat) : Int))) = true then (if (decide (0 ≤ ss.1) && decide (ss.1 < ((sn : Nat) : Int))) = true then (if (Nat.ble (ss.1.toNat * 1 + 1) sl.length) = true then (if (!(n_ == 0)) = true then some ((wI ((wI (andI .u64 (shrI (IntKind.u64.wrap ((IntKind.u64.wrap (ss.2 * 6364136223846793005)) + 1442695040888963407)) 33) 16777215)) + (wI (sl.getD (ss.1.toNat * 1) 0)))).tmod n_, sn, sl, wI (ss.1 + 1), IntKind.u64.wrap ((IntKind.u64.wrap (ss.2 * 6364136223846793005)) + 1442695040888963407)) else none) else none) else none) else (if (!(n_ == 0)) = true then some ((wI (andI .u64 (shrI (IntKind.u64.wrap ((IntKind.u64.wrap (ss.2 * 6364136223846793005)) + 1442695040888963407)) 33) 16777215)).tmod n_, sn, sl, ss.1, IntKind.u64.wrap ((IntKind.u64.wrap (ss.2 * 6364136223846793005)) + 1442695040888963407)) else none)))
theorem eq_s_l01Next (sn : Nat) (sl : List Int) (ss : Int × Int) (n_ : Int) : execP Try.prog S_s_l01Next 91 58 (fun _ => 1000000) dec_P86_i 86 [.s sn (.byts sl), .v (.int .i64 ss.1), .v (.int .u64 ss.2)] [.v (.int .i64 n_)] = Fo_s_l01Next sn sl ss n_ := by
  kernel_rfl
def s_l01Next_d (sn : Nat) (sl : List Int) (ss : Int × Int) (n_ : Int) : Int × Nat × List Int × Int × Int :=
  (if (decide (n_ < 1)) = true then (0, sn, sl, ss) else (if (decide (ss.1 < ((sn : Nat) : Int))) = true then ((wrap64 ((wrap64 (andI .u64 (shrI (IntKind.u64.wrap ((IntKind.u64.wrap (ss.2 * 6364136223846793005)) + 1442695040888963407)) 33) 16777215)) + (wrap64 (sl.getD (ss.1.toNat * 1) 0)))).tmod n_, sn, sl, wrap64 (ss.1 + 1), IntKind.u64.wrap ((IntKind.u64.wrap (ss.2 * 6364136223846793005)) + 1442695040888963407)) else ((wrap64 (andI .u64 (shrI (IntKind.u64.wrap ((IntKind.u64.wrap (ss.2 * 6364136223846793005)) + 1442695040888963407)) 33) 16777215)).tmod n_, sn, sl, ss.1, IntKind.u64.wrap ((IntKind.u64.wrap (ss.2 * 6364136223846793005)) + 1442695040888963407))))
def s_l01Next : (Nat) → (List Int) → (Int × Int) → (Int) → (Int × Nat × List Int × Int × Int) := shut s_l01Next_d
theorem s_l01Next_eq (sn : Nat) (sl : List Int) (ss : Int × Int) (n_ : Int) : s_l01Next sn sl ss n_ = s_l01Next_d sn sl ss n_ := by
  unfold s_l01Next
  rw [shut_eq]
theorem tot_s_l01Next (sn : Nat) (sl : List Int) (ss : Int × Int) (n_ : Int) (hp : (srcB sn sl ss) = true) : Fo_s_l01Next sn sl ss n_ = some (s_l01Next sn sl ss n_) := by
  have hs := hp
  have hc := (srcB_ok hs).1
  obtain ⟨hl, hb, _⟩ := codeB_ok hc
  have ha := (srcB_ok hs).2
  rw [s_l01Next_eq]
  unfold Fo_s_l01Next s_l01Next_d
  (try simp only [wI_eq])
  refine ite_opt (fun _ => rfl) (fun hn => ?_)
  have hn : (!(n_ == 0)) = true := by
    have : ¬ n_ < 1 := by simpa using hn
    have : n_ ≠ 0 := by omega
    simpa using this
  refine ite_opt (fun hk => ?_) (fun _ => chk_opt hn rfl)
  have hk := of_decide_eq_true hk
  exact chk_opt (idx_ok ⟨ha, hk⟩) (chk_opt (ble_ok (by omega)) (chk_opt hn rfl))
theorem post_s_l01Next (sn : Nat) (sl : List Int) (ss : Int × Int) (n_ : Int) (hs : srcB sn sl ss = true) : srcB sn sl (s_l01Next sn sl ss n_).2.2.2 = true := by
  have hc := (srcB_ok hs).1
  have ha := (srcB_ok hs).2
  obtain ⟨hl, hb, _⟩ := codeB_ok hc
  rw [s_l01Next_eq]
  unfold s_l01Next_d
  refine ite_ind (P := fun r : Int × Nat × List Int × Int × Int => srcB sn sl r.2.2.2 = true) hs ?_
  by_cases hk : ss.1 < (sn : Int)
  · rw [if_pos (decide_eq_true hk)]
    refine srcB_mk hc ?_
    show 0 ≤ wrap64 (ss.1 + 1)
    unfold wrap64
    omega
  · rw [if_neg (by simp [hk])]
    exact srcB_mk hc ha
theorem next_rng (sn : Nat) (sl : List Int) (ss : Int × Int) (n : Int) (hs : srcB sn sl ss = true) (hn : 1 ≤ n) : 0 ≤ (s_l01Next sn sl ss n).1 ∧ (s_l01Next sn sl ss n).1 < n := by
  have hc := (srcB_ok hs).1
  have ha := (srcB_ok hs).2
  obtain ⟨hl, _, hb⟩ := codeB_ok hc
  rw [s_l01Next_eq]
  unfold s_l01Next_d
  rw [if_neg (by simp; omega)]
  generalize (IntKind.u64.wrap ((IntKind.u64.wrap (ss.2 * 6364136223846793005)) + 1442695040888963407)) = w
  have hr := andI_rng (shrI w 33)
  generalize andI .u64 (shrI w 33) 16777215 = z at hr ⊢
  have key : ∀ x : Int, 0 ≤ x → 0 ≤ x.tmod n ∧ x.tmod n < n := fun x hx => by
    rw [Int.tmod_eq_emod_of_nonneg hx]
    exact ⟨Int.emod_nonneg _ (by omega), Int.emod_lt_of_pos _ (by omega)⟩
  refine ite_ind (P := fun r : Int × Nat × List Int × Int × Int => 0 ≤ r.1 ∧ r.1 < n) ?_ ?_
  · refine key _ ?_
    have h2 : 0 ≤ sl.getD (ss.1.toNat * 1) 0 ∧ sl.getD (ss.1.toNat * 1) 0 < 256 := by
      by_cases hk : ss.1.toNat * 1 < sl.length
      · exact hb _ (getD_mem hk)
      · rw [List.getD_eq_getElem?_getD, List.getElem?_eq_none (by omega)]
        decide
    generalize sl.getD (ss.1.toNat * 1) 0 = y at h2 ⊢
    unfold wrap64
    omega
  · refine key _ ?_
    unfold wrap64
    omega
theorem next_ble (sn : Nat) (sl : List Int) (ss : Int × Int) (n : Int) {w c m : Nat} (hs : srcB sn sl ss = true) (hn : 1 ≤ n) (hm : (n.toNat - 1) * w + c ≤ m) : (s_l01Next sn sl ss n).1.toNat * w + c ≤ m := by
  obtain ⟨h0, h1⟩ := next_rng sn sl ss n hs hn
  have : (s_l01Next sn sl ss n).1.toNat ≤ n.toNat - 1 := by omega
  have := Nat.mul_le_mul_right w this
  omega
theorem next_ble0 (sn : Nat) (sl : List Int) (ss : Int × Int) (n : Int) {w c m b : Nat} (hs : srcB sn sl ss = true) (hn : 1 ≤ n) (hm : b + (n.toNat - 1) * w + c ≤ m) : b + (s_l01Next sn sl ss n).1.toNat * w + c ≤ m := by
  have := next_ble sn sl ss n (w := w) (c := b + c) (m := m) hs hn (by omega)
  omega
theorem pos_one {n : Nat} (h : decide (((n : Nat) : Int) > 0) = true) : (1 : Int) ≤ ((n : Nat) : Int) := by
  have := of_decide_eq_true h
  omega
theorem pos_idx {n : Nat} (h : decide (((n : Nat) : Int) > 0) = true) : (decide ((0 : Int) ≤ 0) && decide ((0 : Int) < ((n : Nat) : Int))) = true := by
  have := of_decide_eq_true h
  simp
  omega
theorem pos_cell {n w : Nat} {l : List Int} (h : decide (((n : Nat) : Int) > 0) = true) (hl : l.length = w * n) : Nat.ble w l.length = true := by
  have := of_decide_eq_true h
  refine ble_ok ?_
  rw [hl]
  exact Nat.le_mul_of_pos_right w (by omega)
theorem next_cell {sn : Nat} {sl : List Int} {ss : Int × Int} {n w : Nat} {l : List Int} (hs : srcB sn sl ss = true) (h : decide (((n : Nat) : Int) > 0) = true) (hl : l.length = w * n) : Nat.ble ((s_l01Next sn sl ss ((n : Nat) : Int)).1.toNat * w + w) l.length = true := by
  have h1 := pos_one h
  refine ble_ok (next_ble sn sl ss _ hs h1 ?_)
  rw [hl, Int.toNat_natCast]
  obtain ⟨m, rfl⟩ : ∃ m, n = m + 1 := ⟨n - 1, by omega⟩
  rw [Nat.add_sub_cancel, Nat.mul_add, Nat.mul_one, Nat.mul_comm w m]
  exact Nat.le_refl _
def run_s_l01Next : PRun
  | 86, [.s sn (.byts sl), .v (.int .i64 s_1), .v (.int .u64 s_2)], [.v (.int .i64 n_)] => some (srcB sn sl (s_1, s_2), enc_P86_i (s_l01Next sn sl (s_1, s_2) n_))
  | _, _, _ => none
theorem sound_s_l01Next : SoundP Try.prog 91 run_s_l01Next := by
  refine soundP_of de_P86_i SO_s_l01Next (by kernel_rfl) Try.func91 Try.ntmps91 rfl (by kernel_rfl) ?_
  intro e bcs pvs rs bcs' hrun
  unfold run_s_l01Next at hrun
  split at hrun
  · simp only [Option.some.injEq, Prod.mk.injEq] at hrun
    obtain ⟨hp, hrun⟩ := hrun
    rename_i sn sl s_1 s_2 n_
    exact ⟨_, s_l01Next sn sl (s_1, s_2) n_, by first | exact hrun.symm | exact (Prod.ext hrun.1 hrun.2).symm, (eq_s_l01Next sn sl (s_1, s_2) n_).trans (tot_s_l01Next sn sl (s_1, s_2) n_ hp)⟩
  · cases hrun

abbrev k73_0 (sn : Nat) (sl : List Int) (ss : Int × Int) (listn : Nat) (listl : List Int) : Int × Nat × List Int × Int × Int := (s_l01Next sn sl ss ((listn : Nat) : Int))
def S_s_l01Pick : Sums := ⟨tblS [], tblM [(91, .box run_s_l01Next)]⟩
theorem SO_s_l01Pick : SumsOK Try.prog S_s_l01Pick := ⟨tblS_ok True.intro, tblM_ok ⟨⟨Try.call91, sound_s_l01Next⟩, True.intro⟩⟩
def Fo_s_l01Pick (sn : Nat) (sl : List Int) (ss : Int × Int) (listn : Nat) (listl : List Int) : Option (Int × Nat × List Int × Int × Int) :=
  (if (srcB sn sl ss) = true then (if (decide (0 ≤ (k73_0 sn sl ss listn listl).1) && decide ((k73_0 sn sl ss listn listl).1 < ((listn : Nat) : Int))) = true then (if (Nat.ble ((((k73_0 sn sl ss listn listl).1).toNat) * 1 + 1) listl.length) = true then some (listl.getD ((((k73_0 sn sl ss listn listl).1).toNat) * 1) 0, sn, sl, (k73_0 sn sl ss listn listl).2.2.2) else none) else none) else none)
theorem eq_s_l01Pick (sn : Nat) (sl : List Int) (ss : Int × Int) (listn : Nat) (listl : List Int) : execP Try.prog S_s_l01Pick 73 12 (fun _ => 1000000) dec_P86_i 86 [.s sn (.byts sl), .v (.int .i64 ss.1), .v (.int .u64 ss.2)] [.s listn (.ints listl)] = Fo_s_l01Pick sn sl ss listn listl := by
  kernel_rfl
def s_l01Pick_d (sn : Nat) (sl : List Int) (ss : Int × Int) (listn : Nat) (listl : List Int) : Int × Nat × List Int × Int × Int :=
  (listl.getD ((((k73_0 sn sl ss listn listl).1).toNat) * 1) 0, sn, sl, (k73_0 sn sl ss listn listl).2.2.2)
def s_l01Pick : (Nat) → (List Int) → (Int × Int) → (Nat) → (List Int) → (Int × Nat × List Int × Int × Int) := shut s_l01Pick_d
theorem s_l01Pick_eq (sn : Nat) (sl : List Int) (ss : Int × Int) (listn : Nat) (listl : List Int) : s_l01Pick sn sl ss listn listl = s_l01Pick_d sn sl ss listn listl := by
  unfold s_l01Pick
  rw [shut_eq]
theorem tot_s_l01Pick (sn : Nat) (sl : List Int) (ss : Int × Int) (listn : Nat) (listl : List Int) (hp : (srcB sn sl ss && (lenB listn 1 listl && Nat.blt 0 listn)) = true) : Fo_s_l01Pick sn sl ss listn listl = some (s_l01Pick sn sl ss listn listl) := by
  have hs := and_l hp
  have hc := (srcB_ok hs).1
  have hk := and_r hp
  obtain ⟨hl, _⟩ := lenB_ok (and_l hk)
  have h0 : 0 < listn := blt_pos (and_r hk)
  have hr := next_rng sn sl ss (listn : Int) hs (by omega)
  rw [s_l01Pick_eq]
  unfold Fo_s_l01Pick s_l01Pick_d
  dsimp only [k73_0]
  exact chk_opt hs (chk_opt (idx_ok hr) (chk_opt (ble_ok (by omega)) rfl))
theorem post_s_l01Pick (sn : Nat) (sl : List Int) (ss : Int × Int) (listn : Nat) (listl : List Int) (hs : srcB sn sl ss = true) : srcB sn sl (s_l01Pick sn sl ss listn listl).2.2.2 = true := by
  have hc := (srcB_ok hs).1
  rw [s_l01Pick_eq]
  unfold s_l01Pick_d
  repeat' (first | (with_reducible first | assumption | apply post_s_l01Next) | refine ite_ind (P := fun r : Int × Nat × List Int × Int × Int => srcB sn sl r.2.2.2 = true) ?_ ?_ | dsimp only)
theorem pick_mem (sn : Nat) (sl : List Int) (ss : Int × Int) (listn : Nat) (listl : List Int) (hs : srcB sn sl ss = true) (hk : (lenB listn 1 listl && Nat.blt 0 listn) = true) : (s_l01Pick sn sl ss listn listl).1 ∈ listl := by
  obtain ⟨hl, _⟩ := lenB_ok (and_l hk)
  have h0 : 0 < listn := blt_pos (and_r hk)
  have hr := next_rng sn sl ss (listn : Int) hs (by omega)
  rw [s_l01Pick_eq]
  unfold s_l01Pick_d
  dsimp only [k73_0]
  exact getD_mem (by omega)
def run_s_l01Pick : PRun
  | 86, [.s sn (.byts sl), .v (.int .i64 s_1), .v (.int .u64 s_2)], [.s listn (.ints listl)] => some (srcB sn sl (s_1, s_2) && (lenB listn 1 listl && Nat.blt 0 listn), enc_P86_i (s_l01Pick sn sl (s_1, s_2) listn listl))
  | _, _, _ => none
theorem sound_s_l01Pick : SoundP Try.prog 73 run_s_l01Pick := by
  refine soundP_of de_P86_i SO_s_l01Pick (by kernel_rfl) Try.func73 Try.ntmps73 rfl (by kernel_rfl) ?_
  intro e bcs pvs rs bcs' hrun
  unfold run_s_l01Pick at hrun
  split at hrun
  · simp only [Option.some.injEq, Prod.mk.injEq] at hrun
    obtain ⟨hp, hrun⟩ := hrun
    rename_i sn sl s_1 s_2 listn listl
    exact ⟨_, s_l01Pick sn sl (s_1, s_2) listn listl, by first | exact hrun.symm | exact (Prod.ext hrun.1 hrun.2).symm, (eq_s_l01Pick sn sl (s_1, s_2) listn listl).trans (tot_s_l01Pick sn sl (s_1, s_2) listn listl hp)⟩
  · cases hrun

abbrev k65_0 (sn : Nat) (sl : List Int) (ss : Int × Int) : Int × Nat × List Int × Int × Int := (s_l01Pick sn sl ss 13 [3, 5, 5, 7, 7, 11, 13, 13, 17, 19, 23, 29, 31])
def S_s_l01DrawField : Sums := ⟨tblS [], tblM [(73, .box run_s_l01Pick)]⟩
theorem SO_s_l01DrawField : SumsOK Try.prog S_s_l01DrawField := ⟨tblS_ok True.intro, tblM_ok ⟨⟨Try.call73, sound_s_l01Pick⟩, True.intro⟩⟩
def Fo_s_l01DrawField (sn : Nat) (sl : List Int) (ss : Int × Int) : Option (Int × Nat × List Int × Int × Int) :=
  (if (srcB sn sl ss && (lenB 13 1 ([3, 5, 5, 7, 7, 11, 13, 13, 17, 19, 23, 29, 31]) && Nat.blt 0 13)) = true then some ((k65_0 sn sl ss).1, sn, sl, (k65_0 sn sl ss).2.2.2) else none)
theorem eq_s_l01DrawField (sn : Nat) (sl : List Int) (ss : Int × Int) : execP Try.prog S_s_l01DrawField 65 6 (fun _ => 1000000) dec_P86_i 86 [.s sn (.byts sl), .v (.int .i64 ss.1), .v (.int .u64 ss.2)] [] = Fo_s_l01DrawField sn sl ss := by
  kernel_rfl
def s_l01DrawField_d (sn : Nat) (sl : List Int) (ss : Int × Int) : Int × Nat × List Int × Int × Int :=
  ((k65_0 sn sl ss).1, sn, sl, (k65_0 sn sl ss).2.2.2)
def s_l01DrawField : (Nat) → (List Int) → (Int × Int) → (Int × Nat × List Int × Int × Int) := shut s_l01DrawField_d
theorem s_l01DrawField_eq (sn : Nat) (sl : List Int) (ss : Int × Int) : s_l01DrawField sn sl ss = s_l01DrawField_d sn sl ss := by
  unfold s_l01DrawField
  rw [shut_eq]
theorem tot_s_l01DrawField (sn : Nat) (sl : List Int) (ss : Int × Int) (hp : (srcB sn sl ss) = true) : Fo_s_l01DrawField sn sl ss = some (s_l01DrawField sn sl ss) := by
  have hs := hp
  have hc := (srcB_ok hs).1
  rw [s_l01DrawField_eq]
  unfold Fo_s_l01DrawField s_l01DrawField_d
  (try simp only [wI_eq])
  repeat' (first | with_reducible rfl | refine chk_opt (by first | (with_reducible assumption) | ((repeat (with_reducible first | assumption | apply post_s_l01Pick)); done) | (with_reducible exact field_prB9 _ _ _ (by ((repeat (with_reducible first | assumption | apply post_s_l01Pick)); done))) | fail | exact pos_idx ‹_› | exact and_two (by ((repeat (with_reducible first | assumption | apply post_s_l01Pick)); done)) (by (first | (with_reducible assumption) | with_reducible exact field_prB9 _ _ _ (by ((repeat (with_reducible first | assumption | apply post_s_l01Pick)); done)) | fail | rfl)) | exact pos_cell ‹_› (by (first | exact flat2_len _ | exact flat3_len _)) | exact idx_ok (next_rng _ _ _ _ (by ((repeat (with_reducible first | assumption | apply post_s_l01Pick)); done)) (by decide)) | exact ble_ok (next_ble _ _ _ _ (by ((repeat (with_reducible first | assumption | apply post_s_l01Pick)); done)) (by decide) (by decide)) | exact ble_ok (next_ble0 _ _ _ _ (by ((repeat (with_reducible first | assumption | apply post_s_l01Pick)); done)) (by decide) (by decide)) | exact idx_ok (next_rng _ _ _ _ (by ((repeat (with_reducible first | assumption | apply post_s_l01Pick)); done)) (pos_one ‹_›)) | exact next_cell (by ((repeat (with_reducible first | assumption | apply post_s_l01Pick)); done)) ‹_› (by (first | exact flat2_len _ | exact flat3_len _))) ?_ | refine ite_opt (fun _ => ?_) (fun _ => ?_) | rfl)
theorem post_s_l01DrawField (sn : Nat) (sl : List Int) (ss : Int × Int) (hs : srcB sn sl ss = true) : srcB sn sl (s_l01DrawField sn sl ss).2.2.2 = true := by
  have hc := (srcB_ok hs).1
  rw [s_l01DrawField_eq]
  unfold s_l01DrawField_d
  repeat' (first | (with_reducible first | assumption | apply post_s_l01Pick) | refine ite_ind (P := fun r : Int × Nat × List Int × Int × Int => srcB sn sl r.2.2.2 = true) ?_ ?_ | dsimp only)
theorem field_mem9 (sn : Nat) (sl : List Int) (ss : Int × Int) (hs : srcB sn sl ss = true) : (s_l01DrawField sn sl ss).1 ∈ [3, 5, 5, 7, 7, 11, 13, 13, 17, 19, 23, 29, 31] := by
  rw [s_l01DrawField_eq]
  exact pick_mem sn sl ss _ _ hs rfl
theorem field_prB9 (sn : Nat) (sl : List Int) (ss : Int × Int) (hs : srcB sn sl ss = true) : prB (s_l01DrawField sn sl ss).1 = true := by
  have h := field_mem9 sn sl ss hs
  have : ∀ x ∈ [3, 5, 5, 7, 7, 11, 13, 13, 17, 19, 23, 29, (31 : Int)], prB x = true := by decide
  exact this _ h
def run_s_l01DrawField : PRun
  | 86, [.s sn (.byts sl), .v (.int .i64 s_1), .v (.int .u64 s_2)], [] => some (srcB sn sl (s_1, s_2), enc_P86_i (s_l01DrawField sn sl (s_1, s_2)))
  | _, _, _ => none
theorem sound_s_l01DrawField : SoundP Try.prog 65 run_s_l01DrawField := by
  refine soundP_of de_P86_i SO_s_l01DrawField (by kernel_rfl) Try.func65 Try.ntmps65 rfl (by kernel_rfl) ?_
  intro e bcs pvs rs bcs' hrun
  unfold run_s_l01DrawField at hrun
  split at hrun
  · simp only [Option.some.injEq, Prod.mk.injEq] at hrun
    obtain ⟨hp, hrun⟩ := hrun
    rename_i sn sl s_1 s_2
    exact ⟨_, s_l01DrawField sn sl (s_1, s_2), by first | exact hrun.symm | exact (Prod.ext hrun.1 hrun.2).symm, (eq_s_l01DrawField sn sl (s_1, s_2)).trans (tot_s_l01DrawField sn sl (s_1, s_2) hp)⟩
  · cases hrun

abbrev k90_0 (sn : Nat) (sl : List Int) (ss : Int × Int) (p : Int) : Int × Nat × List Int × Int × Int := (s_l01Next sn sl ((s_l01Next sn sl ss p).2.2.2) p)
abbrev k90_1 (sn : Nat) (sl : List Int) (ss : Int × Int) (p : Int) : Int × Nat × List Int × Int × Int := (s_l01Next sn sl ((k90_0 sn sl ss p).2.2.2) p)
abbrev k90_2 (sn : Nat) (sl : List Int) (ss : Int × Int) (p : Int) : Int × Nat × List Int × Int × Int := (s_l01Next sn sl ((k90_1 sn sl ss p).2.2.2) 6)
abbrev k90_3 (sn : Nat) (sl : List Int) (ss : Int × Int) (p : Int) : Int × Nat × List Int × Int × Int := (s_l01Next sn sl ((k90_2 sn sl ss p).2.2.2) (wI (p - 1)))
abbrev k90_4 (sn : Nat) (sl : List Int) (ss : Int × Int) (p : Int) : Int × Int × Int := (s_l09Made p (wI ((wI (((s_l01Next sn sl ss p).1) * ((s_l01Next sn sl ss p).1))) - (wI ((wI (1 + ((k90_3 sn sl ss p).1))) * (wI (1 + ((k90_3 sn sl ss p).1))))))) (wI ((wI (2 * ((s_l01Next sn sl ss p).1))) * (wI (1 + ((k90_3 sn sl ss p).1))))) (wI ((wI (((s_l01Next sn sl ss p).1) * ((s_l01Next sn sl ss p).1))) + (wI ((wI (1 + ((k90_3 sn sl ss p).1))) * (wI (1 + ((k90_3 sn sl ss p).1))))))))
abbrev k90_5 (sn : Nat) (sl : List Int) (ss : Int × Int) (p : Int) : Int × Int × Int := (s_l09Made p 0 ((k90_0 sn sl ss p).1) 1)
abbrev k90_6 (sn : Nat) (sl : List Int) (ss : Int × Int) (p : Int) : Int × Int × Int := (s_l09Made p 0 ((k90_0 sn sl ss p).1) ((k90_1 sn sl ss p).1))
abbrev k90_7 (sn : Nat) (sl : List Int) (ss : Int × Int) (p : Int) : Int × Int × Int := (s_l09Made p ((s_l01Next sn sl ss p).1) ((k90_0 sn sl ss p).1) 1)
abbrev k90_8 (sn : Nat) (sl : List Int) (ss : Int × Int) (p : Int) : Int × Int × Int := (s_l09Made p ((s_l01Next sn sl ss p).1) ((k90_0 sn sl ss p).1) ((k90_1 sn sl ss p).1))
def S_s_l09DrawPlace : Sums := ⟨tblS [(78, run_s_l09Made)], tblM [(91, .box run_s_l01Next)]⟩
theorem SO_s_l09DrawPlace : SumsOK Try.prog S_s_l09DrawPlace := ⟨tblS_ok ⟨⟨Try.call78, sound_s_l09Made⟩, True.intro⟩, tblM_ok ⟨⟨Try.call91, sound_s_l01Next⟩, True.intro⟩⟩
def Fo_s_l09DrawPlace (sn : Nat) (sl : List Int) (ss : Int × Int) (p : Int) : Option ((Int × Int × Int) × Nat × List Int × Int × Int) :=
  (if (srcB sn sl ss) = true then (if (srcB sn sl ((s_l01Next sn sl ss p).2.2.2)) = true then (if (srcB sn sl ((k90_0 sn sl ss p).2.2.2)) = true then (if (srcB sn sl ((k90_1 sn sl ss p).2.2.2)) = true then (if (((k90_2 sn sl ss p).1) == 0) = true then (if (srcB sn sl ((k90_2 sn sl ss p).2.2.2)) = true then (if (prB p) = true then some ((k90_4 sn sl ss p), sn, sl, (k90_3 sn sl ss p).2.2.2) else none) else none) else (if (((k90_2 sn sl ss p).1) == 1) = true then (if (((k90_0 sn sl ss p).1) == 0) = true then (if (((k90_1 sn sl ss p).1) == 0) = true then (if (prB p) = true then some ((k90_5 sn sl ss p), sn, sl, (k90_2 sn sl ss p).2.2.2) else none) else (if (prB p) = true then some ((k90_6 sn sl ss p), sn, sl, (k90_2 sn sl ss p).2.2.2) else none)) else (if (prB p) = true then some ((k90_6 sn sl ss p), sn, sl, (k90_2 sn sl ss p).2.2.2) else none)) else (if (((s_l01Next sn sl ss p).1) == 0) = true then (if (((k90_0 sn sl ss p).1) == 0) = true then (if (((k90_1 sn sl ss p).1) == 0) = true then (if (prB p) = true then some ((k90_7 sn sl ss p), sn, sl, (k90_2 sn sl ss p).2.2.2) else none) else (if (prB p) = true then some ((k90_8 sn sl ss p), sn, sl, (k90_2 sn sl ss p).2.2.2) else none)) else (if (prB p) = true then some ((k90_8 sn sl ss p), sn, sl, (k90_2 sn sl ss p).2.2.2) else none)) else (if (prB p) = true then some ((k90_8 sn sl ss p), sn, sl, (k90_2 sn sl ss p).2.2.2) else none)))) else none) else none) else none) else none)
theorem eq_s_l09DrawPlace (sn : Nat) (sl : List Int) (ss : Int × Int) (p : Int) : execP Try.prog S_s_l09DrawPlace 90 66 (fun _ => 1000000) dec_P86_a3 86 [.s sn (.byts sl), .v (.int .i64 ss.1), .v (.int .u64 ss.2)] [.v (.int .i64 p)] = Fo_s_l09DrawPlace sn sl ss p := by
  kernel_rfl
def s_l09DrawPlace_d (sn : Nat) (sl : List Int) (ss : Int × Int) (p : Int) : (Int × Int × Int) × Nat × List Int × Int × Int :=
  (if (((k90_2 sn sl ss p).1) == 0) = true then ((k90_4 sn sl ss p), sn, sl, (k90_3 sn sl ss p).2.2.2) else (if (((k90_2 sn sl ss p).1) == 1) = true then (if (((k90_0 sn sl ss p).1) == 0) = true then (if (((k90_1 sn sl ss p).1) == 0) = true then ((k90_5 sn sl ss p), sn, sl, (k90_2 sn sl ss p).2.2.2) else ((k90_6 sn sl ss p), sn, sl, (k90_2 sn sl ss p).2.2.2)) else ((k90_6 sn sl ss p), sn, sl, (k90_2 sn sl ss p).2.2.2)) else (if (((s_l01Next sn sl ss p).1) == 0) = true then (if (((k90_0 sn sl ss p).1) == 0) = true then (if (((k90_1 sn sl ss p).1) == 0) = true then ((k90_7 sn sl ss p), sn, sl, (k90_2 sn sl ss p).2.2.2) else ((k90_8 sn sl ss p), sn, sl, (k90_2 sn sl ss p).2.2.2)) else ((k90_8 sn sl ss p), sn, sl, (k90_2 sn sl ss p).2.2.2)) else ((k90_8 sn sl ss p), sn, sl, (k90_2 sn sl ss p).2.2.2))))
def s_l09DrawPlace : (Nat) → (List Int) → (Int × Int) → (Int) → ((Int × Int × Int) × Nat × List Int × Int × Int) := shut s_l09DrawPlace_d
theorem s_l09DrawPlace_eq (sn : Nat) (sl : List Int) (ss : Int × Int) (p : Int) : s_l09DrawPlace sn sl ss p = s_l09DrawPlace_d sn sl ss p := by
  unfold s_l09DrawPlace
  rw [shut_eq]
theorem tot_s_l09DrawPlace (sn : Nat) (sl : List Int) (ss : Int × Int) (p : Int) (hp : (srcB sn sl ss && prB p) = true) : Fo_s_l09DrawPlace sn sl ss p = some (s_l09DrawPlace sn sl ss p) := by
  have hs := and_l hp
  have hc := (srcB_ok hs).1
  have hq := and_r hp
  have h0 := prB_ne hq
  rw [s_l09DrawPlace_eq]
  unfold Fo_s_l09DrawPlace s_l09DrawPlace_d
  (try simp only [wI_eq])
  repeat' (first | with_reducible rfl | refine chk_opt (by first | (with_reducible assumption) | ((repeat (with_reducible first | assumption | apply post_s_l01Next)); done) | (with_reducible exact field_prB9 _ _ _ (by ((repeat (with_reducible first | assumption | apply post_s_l01Next)); done))) | fail | exact pos_idx ‹_› | exact and_two (by ((repeat (with_reducible first | assumption | apply post_s_l01Next)); done)) (by (first | (with_reducible assumption) | with_reducible exact field_prB9 _ _ _ (by ((repeat (with_reducible first | assumption | apply post_s_l01Next)); done)) | fail | rfl)) | exact pos_cell ‹_› (by (first | exact flat2_len _ | exact flat3_len _)) | exact idx_ok (next_rng _ _ _ _ (by ((repeat (with_reducible first | assumption | apply post_s_l01Next)); done)) (by decide)) | exact ble_ok (next_ble _ _ _ _ (by ((repeat (with_reducible first | assumption | apply post_s_l01Next)); done)) (by decide) (by decide)) | exact ble_ok (next_ble0 _ _ _ _ (by ((repeat (with_reducible first | assumption | apply post_s_l01Next)); done)) (by decide) (by decide)) | exact idx_ok (next_rng _ _ _ _ (by ((repeat (with_reducible first | assumption | apply post_s_l01Next)); done)) (pos_one ‹_›)) | exact next_cell (by ((repeat (with_reducible first | assumption | apply post_s_l01Next)); done)) ‹_› (by (first | exact flat2_len _ | exact flat3_len _))) ?_ | refine ite_opt (fun _ => ?_) (fun _ => ?_) | rfl)
theorem post_s_l09DrawPlace (sn : Nat) (sl : List Int) (ss : Int × Int) (p : Int) (hs : srcB sn sl ss = true) : srcB sn sl (s_l09DrawPlace sn sl ss p).2.2.2 = true := by
  have hc := (srcB_ok hs).1
  rw [s_l09DrawPlace_eq]
  unfold s_l09DrawPlace_d
  repeat' (first | (with_reducible first | assumption | apply post_s_l01Next) | refine ite_ind (P := fun r : (Int × Int × Int) × Nat × List Int × Int × Int => srcB sn sl r.2.2.2 = true) ?_ ?_ | dsimp only)
def run_s_l09DrawPlace : PRun
  | 86, [.s sn (.byts sl), .v (.int .i64 s_1), .v (.int .u64 s_2)], [.v (.int .i64 p)] => some (srcB sn sl (s_1, s_2) && prB p, enc_P86_a3 (s_l09DrawPlace sn sl (s_1, s_2) p))
  | _, _, _ => none
theorem sound_s_l09DrawPlace : SoundP Try.prog 90 run_s_l09DrawPlace := by
  refine soundP_of de_P86_a3 SO_s_l09DrawPlace (by kernel_rfl) Try.func90 Try.ntmps90 rfl (by kernel_rfl) ?_
  intro e bcs pvs rs bcs' hrun
  unfold run_s_l09DrawPlace at hrun
  split at hrun
  · simp only [Option.some.injEq, Prod.mk.injEq] at hrun
    obtain ⟨hp, hrun⟩ := hrun
    rename_i sn sl s_1 s_2 p
    exact ⟨_, s_l09DrawPlace sn sl (s_1, s_2) p, by first | exact hrun.symm | exact (Prod.ext hrun.1 hrun.2).symm, (eq_s_l09DrawPlace sn sl (s_1, s_2) p).trans (tot_s_l09DrawPlace sn sl (s_1, s_2) p hp)⟩
  · cases hrun


end

end Go.Proofs.Ytnijajjdldijpaa
