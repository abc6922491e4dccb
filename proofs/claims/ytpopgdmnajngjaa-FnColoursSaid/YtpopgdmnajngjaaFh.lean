import Derived.Test.YtpopgdmnajngjaaFe
import Derived.Test.YtpopgdmnajngjaaProg
set_option linter.unusedSimpArgs false
set_option linter.unusedVariables false
namespace Go.Proofs.Ytpopgdmnajngjaa
open Go.RowKit
noncomputable section
def S_s_l01From : Sums := ⟨tblS [], tblM []⟩
theorem SO_s_l01From : SumsOK Try.prog S_s_l01From := ⟨tblS_ok True.intro, tblM_ok True.intro⟩
def T_s_l01From_0 (coden : Nat) (codel : List Int) (v44_2 : Int) (i : Int) : Tab := ⟨[.row 1, .junk, .val (.pointer none), .ptr 44 0, .val (.int .i64 i), .row 1, .row 1, .val (.int .i64 ((coden : Nat) : Int)), .val (.int .u64 (IntKind.u64.wrap (((coden : Nat) : Int)))), .val (.int .u64 (IntKind.u64.wrap (13701 + (IntKind.u64.wrap (((coden : Nat) : Int)))))), .junk, .ptr 44 0, .junk, .junk, .junk, .junk, .junk, .junk, .junk, .junk, .junk, .junk, .junk, .junk, .junk, .junk, .junk, .junk, .junk, .junk, .junk, .junk, .junk, .junk, .junk, .junk, .junk, .junk], [(0, .ros 0 (.ints [])), (1, .ros coden (.byts codel)), (44, .box 104 [.row 1, .val (.int .i64 0), .val (.int .u64 v44_2)])]⟩
def X_s_l01From_0 (P : Program) (fu : Nat) (coden : Nat) (codel : List Int) (f : Nat) (v44_2 : Int) (i : Int) : Option (Int × Int) := loopK (exec P S_s_l01From 38 (fun _ => fu + 100) (Code.sub [1, 1, 0, 1, 0, 0] (bodyF P 42))) f (T_s_l01From_0 coden codel v44_2 i) (kBlock 0 (kSeq (fun s => exec P S_s_l01From 38 (fun _ => fu + 100) (Code.sub [1, 1, 1] (bodyF P 42)) s (finB P 42 dec_B104)) (finB P 42 dec_B104)))
def B_s_l01From_0 (coden : Nat) (codel : List Int) (rec0 : Int → Int → Option (Int × Int)) (v44_2 : Int) (i : Int) : Option (Int × Int) :=
  (if (decide (i < ((coden : Nat) : Int))) = true then (if (decide (i < 4096)) = true then (if (decide (0 ≤ i) && decide (i < ((coden : Nat) : Int))) = true then (if (Nat.ble (i.toNat * 1 + 1) codel.length) = true then rec0 (IntKind.u64.wrap ((IntKind.u64.wrap ((IntKind.u64.wrap (v44_2 * 1099511628211)) + (IntKind.u64.wrap (codel.getD (i.toNat * 1) 0)))) + 199)) (wI (i + 1)) else none) else none) else some (0, v44_2)) else some (0, v44_2))
def L_s_l01From_0 (fu : Nat) (coden : Nat) (codel : List Int) : Nat → Int → Int → Option (Int × Int)
  | 0, _, _ => none
  | f + 1, v44_2, i => B_s_l01From_0 coden codel (L_s_l01From_0 fu coden codel f) v44_2 i
theorem loop_s_l01From_0 (fu : Nat) (coden : Nat) (codel : List Int) : ∀ (f : Nat) (v44_2 : Int) (i : Int), X_s_l01From_0 Try.prog fu coden codel f v44_2 i = L_s_l01From_0 fu coden codel f v44_2 i := by
  intro f
  induction f with
  | zero => intros; rfl
  | succ f ih =>
    intro v44_2 i
    have h1 : X_s_l01From_0 Try.prog fu coden codel (f + 1) v44_2 i = B_s_l01From_0 coden codel (X_s_l01From_0 Try.prog fu coden codel f) v44_2 i := by kernel_rfl
    have h2 : X_s_l01From_0 Try.prog fu coden codel f = L_s_l01From_0 fu coden codel f := by funext v44_2 i; exact ih v44_2 i
    rw [h1, h2]
    rfl
def G_s_l01From (coden : Nat) (codel : List Int) (lo0 : Int → Int → Option (Int × Int)) : Option (Int × Int) :=
  lo0 (IntKind.u64.wrap (13701 + (IntKind.u64.wrap (((coden : Nat) : Int))))) 0
def Fo_s_l01From (fu : Nat) (coden : Nat) (codel : List Int) : Option (Int × Int) := G_s_l01From coden codel (L_s_l01From_0 fu coden codel (fu + 100))
theorem eqg_s_l01From (fu : Nat) (coden : Nat) (codel : List Int) : execB Try.prog S_s_l01From 42 38 (fun _ => fu + 100) dec_B104 coden (.byts codel) = G_s_l01From coden codel (L_s_l01From_0 fu coden codel (fu + 100)) := by
  have h1 : execB Try.prog S_s_l01From 42 38 (fun _ => fu + 100) dec_B104 coden (.byts codel) = G_s_l01From coden codel (X_s_l01From_0 Try.prog fu coden codel (fu + 100)) := by kernel_rfl
  have c0 : X_s_l01From_0 Try.prog fu coden codel (fu + 100) = L_s_l01From_0 fu coden codel (fu + 100) := by funext v44_2 i; exact loop_s_l01From_0 fu coden codel (fu + 100) v44_2 i
  rw [h1, c0]
theorem eq_s_l01From (fu : Nat) (coden : Nat) (codel : List Int) : execB Try.prog S_s_l01From 42 38 (fun _ => fu + 100) dec_B104 coden (.byts codel) = Fo_s_l01From fu coden codel := eqg_s_l01From fu coden codel
theorem from_go (fu n : Nat) (l : List Int) (hc : codeB n l = true) : ∀ (f : Nat) (v i : Int), 0 ≤ i → i ≤ 4096 → 4096 - i < f → ∃ h, L_s_l01From_0 fu n l f v i = some (0, h)
  | 0, v, i, _, h1, h2 => by omega
  | f + 1, v, i, h0, h1, h2 => by
    rw [show L_s_l01From_0 fu n l (f + 1) v i = B_s_l01From_0 n l (L_s_l01From_0 fu n l f) v i from rfl]
    unfold B_s_l01From_0
    by_cases hn : i < (n : Int)
    · by_cases hk : i < 4096
      · rw [if_pos (decide_eq_true hn), if_pos (decide_eq_true hk), if_pos (idx_ok ⟨h0, hn⟩), if_pos (ble_ok (by obtain ⟨e, _⟩ := codeB_ok hc; omega)), wI_eq, show wrap64 (i + 1) = i + 1 by unfold wrap64; omega]
        exact from_go fu n l hc f _ _ (by omega) (by omega) (by omega)
      · rw [if_pos (decide_eq_true hn), if_neg (by simp [hk])]
        exact ⟨_, rfl⟩
    · rw [if_neg (by simp [hn])]
      exact ⟨_, rfl⟩
theorem from_some {n : Nat} {l : List Int} (hc : codeB n l = true) : ∃ h, Fo_s_l01From 1000000 n l = some (0, h) := by
  unfold Fo_s_l01From G_s_l01From
  exact from_go _ n l hc _ _ _ (by decide) (by decide) (by decide)
def s_l01From (coden : Nat) (codel : List Int) : Int × Int := (Fo_s_l01From 1000000 coden codel).getD (0, 0)
theorem tot_s_l01From (coden : Nat) (codel : List Int) (hp : (codeB coden codel) = true) : Fo_s_l01From 1000000 coden codel = some (s_l01From coden codel) := by
  obtain ⟨h, e⟩ := from_some hp
  unfold s_l01From
  rw [e]
  rfl
def run_s_l01From : BRun
  | [.s coden (.byts codel)] => some (codeB coden codel, enc_B104 (s_l01From coden codel))
  | _ => none
theorem sound_s_l01From : SoundB Try.prog 42 run_s_l01From := by
  refine soundB_of de_B104 SO_s_l01From (by kernel_rfl) Try.func42 Try.ntmps42 rfl (by kernel_rfl) ?_
  intro m c e vals hrun
  unfold run_s_l01From at hrun
  split at hrun
  · rename_i heq
    simp only [List.cons.injEq, PV.s.injEq, and_true] at heq
    obtain ⟨rfl, rfl⟩ := heq
    simp only [Option.some.injEq, Prod.mk.injEq] at hrun
    obtain ⟨hp, hrun⟩ := hrun
    exact ⟨_, s_l01From _ _, by first | exact hrun.symm | exact (Prod.ext hrun.1 hrun.2).symm, (eq_s_l01From _ _ _).trans (tot_s_l01From _ _ hp)⟩
  · cases hrun

theorem s_l01From_src {n : Nat} {l : List Int} (hc : codeB n l = true) : srcB n l (s_l01From n l) = true := by
  obtain ⟨h, e⟩ := from_some hc
  refine srcB_mk hc ?_
  unfold s_l01From
  rw [e]
  exact Int.le_refl 0
abbrev k49_0 (coden : Nat) (codel : List Int) : Int × Nat × List Int × Int × Int := (s_l01DrawField coden codel (s_l01From coden codel))
abbrev k49_1 (coden : Nat) (codel : List Int) : (Int × Int) × Nat × List Int × Int × Int := (s_l01DrawPoint coden codel ((k49_0 coden codel).2.2.2) ((k49_0 coden codel).1))
abbrev k49_2 (coden : Nat) (codel : List Int) : (Int × Int × Int) × Nat × List Int × Int × Int := (s_l01DrawLine coden codel ((k49_1 coden codel).2.2.2) ((k49_0 coden codel).1))
abbrev k49_3 (coden : Nat) (codel : List Int) : Int × Nat × List Int × Int × Int := (s_l02DrawColour coden codel ((k49_2 coden codel).2.2.2))
abbrev k49_4 (coden : Nat) (codel : List Int) : (Nat × List Int) × Int := (s_NullLines ((k49_0 coden codel).1) ((k49_3 coden codel).1) ((k49_1 coden codel).1))
abbrev k49_5 (coden : Nat) (codel : List Int) : Int × Nat × List Int × Int × Int := (s_l01Next coden codel ((k49_3 coden codel).2.2.2) 4)
abbrev k49_6 (coden : Nat) (codel : List Int) : Int × Nat × List Int × Int × Int := (s_l01Next coden codel ((k49_5 coden codel).2.2.2) ((((k49_4 coden codel).1).1 : Nat) : Int))
abbrev k49_7 (coden : Nat) (codel : List Int) : Int × Nat × List Int × Int × Int := (s_l01BadField coden codel ((k49_6 coden codel).2.2.2) ((k49_0 coden codel).1))
abbrev k49_8 (coden : Nat) (codel : List Int) : (Int × Int) × Nat × List Int × Int × Int := (s_l01BadPoint coden codel ((k49_7 coden codel).2.2.2) ((k49_0 coden codel).1) ((k49_1 coden codel).1))
abbrev k49_9 (coden : Nat) (codel : List Int) : (Int × Int × Int) × Nat × List Int × Int × Int := (s_l01BadLine coden codel ((k49_8 coden codel).2.2.2) ((k49_0 coden codel).1) ((((k49_4 coden codel).1).2).getD ((((k49_6 coden codel).1).toNat) * 3 + 0) 0, (((k49_4 coden codel).1).2).getD ((((k49_6 coden codel).1).toNat) * 3 + 1) 0, (((k49_4 coden codel).1).2).getD ((((k49_6 coden codel).1).toNat) * 3 + 2) 0))
abbrev k49_10 (coden : Nat) (codel : List Int) : Int × Nat × List Int × Int × Int := (s_l01BadField coden codel ((k49_5 coden codel).2.2.2) ((k49_0 coden codel).1))
abbrev k49_11 (coden : Nat) (codel : List Int) : (Int × Int) × Nat × List Int × Int × Int := (s_l01BadPoint coden codel ((k49_10 coden codel).2.2.2) ((k49_0 coden codel).1) ((k49_1 coden codel).1))
abbrev k49_12 (coden : Nat) (codel : List Int) : (Int × Int × Int) × Nat × List Int × Int × Int := (s_l01BadLine coden codel ((k49_11 coden codel).2.2.2) ((k49_0 coden codel).1) ((k49_2 coden codel).1))
abbrev k49_13 (coden : Nat) (codel : List Int) : Int × Nat × List Int × Int × Int := (s_l01BadField coden codel ((k49_3 coden codel).2.2.2) ((k49_0 coden codel).1))
abbrev k49_14 (coden : Nat) (codel : List Int) : (Int × Int) × Nat × List Int × Int × Int := (s_l01BadPoint coden codel ((k49_13 coden codel).2.2.2) ((k49_0 coden codel).1) ((k49_1 coden codel).1))
abbrev k49_15 (coden : Nat) (codel : List Int) : (Int × Int × Int) × Nat × List Int × Int × Int := (s_l01BadLine coden codel ((k49_14 coden codel).2.2.2) ((k49_0 coden codel).1) ((k49_2 coden codel).1))
def S_s_l02Flag : Sums := ⟨tblS [(107, run_s_NullLines)], tblM [(42, .src run_s_l01From), (44, .box run_s_l01DrawField), (104, .box run_s_l01DrawPoint), (105, .box run_s_l01DrawLine), (106, .box run_s_l02DrawColour), (69, .box run_s_l01Next), (43, .box run_s_l01BadField), (108, .box run_s_l01BadPoint), (109, .box run_s_l01BadLine)]⟩
theorem SO_s_l02Flag : SumsOK Try.prog S_s_l02Flag := ⟨tblS_ok ⟨⟨Try.call107, sound_s_NullLines⟩, True.intro⟩, tblM_ok ⟨⟨Try.call42, sound_s_l01From⟩, ⟨Try.call44, sound_s_l01DrawField⟩, ⟨Try.call104, sound_s_l01DrawPoint⟩, ⟨Try.call105, sound_s_l01DrawLine⟩, ⟨Try.call106, sound_s_l02DrawColour⟩, ⟨Try.call69, sound_s_l01Next⟩, ⟨Try.call43, sound_s_l01BadField⟩, ⟨Try.call108, sound_s_l01BadPoint⟩, ⟨Try.call109, sound_s_l01BadLine⟩, True.intro⟩⟩
def Fo_s_l02Flag (coden : Nat) (codel : List Int) : Option (Int × Int × (Int × Int) × Int × Int × Int) :=
  (if (codeB coden codel) = true then (if (srcB coden codel (s_l01From coden codel)) = true then (if (srcB coden codel ((k49_0 coden codel).2.2.2) && prB ((k49_0 coden codel).1)) = true then (if (srcB coden codel ((k49_1 coden codel).2.2.2) && prB ((k49_0 coden codel).1)) = true then (if (srcB coden codel ((k49_2 coden codel).2.2.2)) = true then (if (((k49_4 coden codel).2) == 0) = true then (if (decide (((((k49_4 coden codel).1).1 : Nat) : Int) > 0)) = true then (if (srcB coden codel ((k49_3 coden codel).2.2.2)) = true then (if (((k49_5 coden codel).1) == 0) = true then (if (srcB coden codel ((k49_5 coden codel).2.2.2)) = true then (if (decide (0 ≤ (k49_6 coden codel).1) && decide ((k49_6 coden codel).1 < ((((k49_4 coden codel).1).1 : Nat) : Int))) = true then (if (Nat.ble ((((k49_6 coden codel).1).toNat) * 3 + 3) ((((k49_4 coden codel).1).2).length)) = true then (if (srcB coden codel ((k49_6 coden codel).2.2.2) && prB ((k49_0 coden codel).1)) = true then (if (srcB coden codel ((k49_7 coden codel).2.2.2) && prB ((k49_0 coden codel).1)) = true then (if (srcB coden codel ((k49_8 coden codel).2.2.2) && prB ((k49_0 coden codel).1)) = true then some ((k49_7 coden codel).1, (k49_3 coden codel).1, ((k49_8 coden codel).1), ((k49_9 coden codel).1)) else none) else none) else none) else none) else none) else none) else (if (srcB coden codel ((k49_5 coden codel).2.2.2) && prB ((k49_0 coden codel).1)) = true then (if (srcB coden codel ((k49_10 coden codel).2.2.2) && prB ((k49_0 coden codel).1)) = true then (if (srcB coden codel ((k49_11 coden codel).2.2.2) && prB ((k49_0 coden codel).1)) = true then some ((k49_10 coden codel).1, (k49_3 coden codel).1, ((k49_11 coden codel).1), ((k49_12 coden codel).1)) else none) else none) else none)) else none) else (if (srcB coden codel ((k49_3 coden codel).2.2.2) && prB ((k49_0 coden codel).1)) = true then (if (srcB coden codel ((k49_13 coden codel).2.2.2) && prB ((k49_0 coden codel).1)) = true then (if (srcB coden codel ((k49_14 coden codel).2.2.2) && prB ((k49_0 coden codel).1)) = true then some ((k49_13 coden codel).1, (k49_3 coden codel).1, ((k49_14 coden codel).1), ((k49_15 coden codel).1)) else none) else none) else none)) else (if (srcB coden codel ((k49_3 coden codel).2.2.2) && prB ((k49_0 coden codel).1)) = true then (if (srcB coden codel ((k49_13 coden codel).2.2.2) && prB ((k49_0 coden codel).1)) = true then (if (srcB coden codel ((k49_14 coden codel).2.2.2) && prB ((k49_0 coden codel).1)) = true then some ((k49_13 coden codel).1, (k49_3 coden codel).1, ((k49_14 coden codel).1), ((k49_15 coden codel).1)) else none) else none) else none)) else none) else none) else none) else none) else none)
theorem eq_s_l02Flag (coden : Nat) (codel : List Int) : execT Try.prog S_s_l02Flag 49 63 (fun _ => 1000000) dec_i_i_a2_a3 [.s coden (.byts codel)] = Fo_s_l02Flag coden codel := by
  kernel_rfl
def s_l02Flag_d (coden : Nat) (codel : List Int) : Int × Int × (Int × Int) × Int × Int × Int :=
  (if (((k49_4 coden codel).2) == 0) = true then (if (decide (((((k49_4 coden codel).1).1 : Nat) : Int) > 0)) = true then (if (((k49_5 coden codel).1) == 0) = true then ((k49_7 coden codel).1, (k49_3 coden codel).1, ((k49_8 coden codel).1), ((k49_9 coden codel).1)) else ((k49_10 coden codel).1, (k49_3 coden codel).1, ((k49_11 coden codel).1), ((k49_12 coden codel).1))) else ((k49_13 coden codel).1, (k49_3 coden codel).1, ((k49_14 coden codel).1), ((k49_15 coden codel).1))) else ((k49_13 coden codel).1, (k49_3 coden codel).1, ((k49_14 coden codel).1), ((k49_15 coden codel).1)))
def s_l02Flag : (Nat) → (List Int) → (Int × Int × (Int × Int) × Int × Int × Int) := shut s_l02Flag_d
theorem s_l02Flag_eq (coden : Nat) (codel : List Int) : s_l02Flag coden codel = s_l02Flag_d coden codel := by
  unfold s_l02Flag
  rw [shut_eq]
theorem tot_s_l02Flag (coden : Nat) (codel : List Int) (hp : (codeB coden codel) = true) : Fo_s_l02Flag coden codel = some (s_l02Flag coden codel) := by
  have hc := hp
  rw [s_l02Flag_eq]
  unfold Fo_s_l02Flag s_l02Flag_d
  (try simp only [wI_eq])
  repeat' (first | with_reducible rfl | refine chk_opt (by first | (with_reducible assumption) | ((repeat (with_reducible first | assumption | exact s_l01From_src hc | apply post_s_l01DrawField | apply post_s_l01DrawPoint | apply post_s_l01DrawLine | apply post_s_l02DrawColour | apply post_s_l01Next | apply post_s_l01BadField | apply post_s_l01BadPoint | apply post_s_l01BadLine)); done) | (with_reducible exact field_prB9 _ _ _ (by ((repeat (with_reducible first | assumption | exact s_l01From_src hc | apply post_s_l01DrawField | apply post_s_l01DrawPoint | apply post_s_l01DrawLine | apply post_s_l02DrawColour | apply post_s_l01Next | apply post_s_l01BadField | apply post_s_l01BadPoint | apply post_s_l01BadLine)); done))) | fail | exact pos_idx ‹_› | exact and_two (by ((repeat (with_reducible first | assumption | exact s_l01From_src hc | apply post_s_l01DrawField | apply post_s_l01DrawPoint | apply post_s_l01DrawLine | apply post_s_l02DrawColour | apply post_s_l01Next | apply post_s_l01BadField | apply post_s_l01BadPoint | apply post_s_l01BadLine)); done)) (by (first | (with_reducible assumption) | with_reducible exact field_prB9 _ _ _ (by ((repeat (with_reducible first | assumption | exact s_l01From_src hc | apply post_s_l01DrawField | apply post_s_l01DrawPoint | apply post_s_l01DrawLine | apply post_s_l02DrawColour | apply post_s_l01Next | apply post_s_l01BadField | apply post_s_l01BadPoint | apply post_s_l01BadLine)); done)) | fail | rfl)) | exact pos_cell ‹_› (by (first | exact nulls_len _ _ _ | exact flat2_len _ | exact flat3_len _)) | exact idx_ok (next_rng _ _ _ _ (by ((repeat (with_reducible first | assumption | exact s_l01From_src hc | apply post_s_l01DrawField | apply post_s_l01DrawPoint | apply post_s_l01DrawLine | apply post_s_l02DrawColour | apply post_s_l01Next | apply post_s_l01BadField | apply post_s_l01BadPoint | apply post_s_l01BadLine)); done)) (by decide)) | exact ble_ok (next_ble _ _ _ _ (by ((repeat (with_reducible first | assumption | exact s_l01From_src hc | apply post_s_l01DrawField | apply post_s_l01DrawPoint | apply post_s_l01DrawLine | apply post_s_l02DrawColour | apply post_s_l01Next | apply post_s_l01BadField | apply post_s_l01BadPoint | apply post_s_l01BadLine)); done)) (by decide) (by decide)) | exact ble_ok (next_ble0 _ _ _ _ (by ((repeat (with_reducible first | assumption | exact s_l01From_src hc | apply post_s_l01DrawField | apply post_s_l01DrawPoint | apply post_s_l01DrawLine | apply post_s_l02DrawColour | apply post_s_l01Next | apply post_s_l01BadField | apply post_s_l01BadPoint | apply post_s_l01BadLine)); done)) (by decide) (by decide)) | exact idx_ok (next_rng _ _ _ _ (by ((repeat (with_reducible first | assumption | exact s_l01From_src hc | apply post_s_l01DrawField | apply post_s_l01DrawPoint | apply post_s_l01DrawLine | apply post_s_l02DrawColour | apply post_s_l01Next | apply post_s_l01BadField | apply post_s_l01BadPoint | apply post_s_l01BadLine)); done)) (pos_one ‹_›)) | exact next_cell (by ((repeat (with_reducible first | assumption | exact s_l01From_src hc | apply post_s_l01DrawField | apply post_s_l01DrawPoint | apply post_s_l01DrawLine | apply post_s_l02DrawColour | apply post_s_l01Next | apply post_s_l01BadField | apply post_s_l01BadPoint | apply post_s_l01BadLine)); done)) ‹_› (by (first | exact nulls_len _ _ _ | exact flat2_len _ | exact flat3_len _))) ?_ | refine ite_opt (fun _ => ?_) (fun _ => ?_) | rfl)
def run_s_l02Flag : List PV → Option (Bool × List TR)
  | [.s coden (.byts codel)] => some (codeB coden codel, enc_i_i_a2_a3 (s_l02Flag coden codel))
  | _ => none
theorem sound_s_l02Flag : Sound Try.prog 49 run_s_l02Flag := by
  refine sound_of de_i_i_a2_a3 SO_s_l02Flag (by kernel_rfl) Try.func49 Try.ntmps49 rfl (by kernel_rfl) ?_
  intro W pvs avs rs hargs hrun
  unfold run_s_l02Flag at hrun
  split at hrun
  · simp only [Option.some.injEq, Prod.mk.injEq] at hrun
    obtain ⟨hp, rfl⟩ := hrun
    rename_i coden codel
    exact ⟨_, _, _, hargs, rfl, (eq_s_l02Flag coden codel).trans (tot_s_l02Flag coden codel hp)⟩
  · cases hrun

abbrev k61_0 (coden : Nat) (codel : List Int) : Int × Nat × List Int × Int × Int := (s_l01DrawField coden codel (s_l01From coden codel))
abbrev k61_1 (coden : Nat) (codel : List Int) : (Int × Int) × Nat × List Int × Int × Int := (s_l01DrawPoint coden codel ((k61_0 coden codel).2.2.2) ((k61_0 coden codel).1))
abbrev k61_2 (coden : Nat) (codel : List Int) : (Int × Int) × Nat × List Int × Int × Int := (s_l01DrawPoint coden codel ((k61_1 coden codel).2.2.2) ((k61_0 coden codel).1))
abbrev k61_3 (coden : Nat) (codel : List Int) : (Int × Int) × Nat × List Int × Int × Int := (s_l01DrawPoint coden codel ((k61_2 coden codel).2.2.2) ((k61_0 coden codel).1))
abbrev k61_4 (coden : Nat) (codel : List Int) : Int × Nat × List Int × Int × Int := (s_l02DrawColour coden codel ((k61_3 coden codel).2.2.2))
abbrev k61_5 (coden : Nat) (codel : List Int) : Bool := (s_l02Colour ((k61_4 coden codel).1))
abbrev k61_6 (coden : Nat) (codel : List Int) : Int × Nat × List Int × Int × Int := (s_l01Next coden codel ((k61_4 coden codel).2.2.2) 2)
abbrev k61_7 (coden : Nat) (codel : List Int) : Int × Int := (s_l01Minus ((k61_0 coden codel).1) ((k61_2 coden codel).1) ((k61_1 coden codel).1))
abbrev k61_8 (coden : Nat) (codel : List Int) : Int × Int × Int := (s_l02Through ((k61_0 coden codel).1) ((k61_4 coden codel).1) (k61_7 coden codel) ((k61_1 coden codel).1))
abbrev k61_9 (coden : Nat) (codel : List Int) : Int × Nat × List Int × Int × Int := (s_l01Next coden codel ((k61_6 coden codel).2.2.2) ((k61_0 coden codel).1))
abbrev k61_10 (coden : Nat) (codel : List Int) : Int × Int := (s_l02Direction ((k61_0 coden codel).1) (k61_8 coden codel))
abbrev k61_11 (coden : Nat) (codel : List Int) : Int × Int := (s_l01Times ((k61_0 coden codel).1) ((k61_9 coden codel).1) (k61_10 coden codel))
abbrev k61_12 (coden : Nat) (codel : List Int) : Int × Int := (s_l01Plus ((k61_0 coden codel).1) ((k61_1 coden codel).1) (k61_11 coden codel))
abbrev k61_13 (coden : Nat) (codel : List Int) : Int × Nat × List Int × Int × Int := (s_l01BadField coden codel ((k61_9 coden codel).2.2.2) ((k61_0 coden codel).1))
abbrev k61_14 (coden : Nat) (codel : List Int) : (Int × Int) × Nat × List Int × Int × Int := (s_l01BadPoint coden codel ((k61_13 coden codel).2.2.2) ((k61_0 coden codel).1) ((k61_1 coden codel).1))
abbrev k61_15 (coden : Nat) (codel : List Int) : (Int × Int) × Nat × List Int × Int × Int := (s_l01BadPoint coden codel ((k61_14 coden codel).2.2.2) ((k61_0 coden codel).1) ((k61_2 coden codel).1))
abbrev k61_16 (coden : Nat) (codel : List Int) : (Int × Int) × Nat × List Int × Int × Int := (s_l01BadPoint coden codel ((k61_15 coden codel).2.2.2) ((k61_0 coden codel).1) (k61_12 coden codel))
abbrev k61_17 (coden : Nat) (codel : List Int) : Int × Nat × List Int × Int × Int := (s_l01BadField coden codel ((k61_6 coden codel).2.2.2) ((k61_0 coden codel).1))
abbrev k61_18 (coden : Nat) (codel : List Int) : (Int × Int) × Nat × List Int × Int × Int := (s_l01BadPoint coden codel ((k61_17 coden codel).2.2.2) ((k61_0 coden codel).1) ((k61_1 coden codel).1))
abbrev k61_19 (coden : Nat) (codel : List Int) : (Int × Int) × Nat × List Int × Int × Int := (s_l01BadPoint coden codel ((k61_18 coden codel).2.2.2) ((k61_0 coden codel).1) ((k61_2 coden codel).1))
abbrev k61_20 (coden : Nat) (codel : List Int) : (Int × Int) × Nat × List Int × Int × Int := (s_l01BadPoint coden codel ((k61_19 coden codel).2.2.2) ((k61_0 coden codel).1) ((k61_3 coden codel).1))
abbrev k61_21 (coden : Nat) (codel : List Int) : Int × Nat × List Int × Int × Int := (s_l01BadField coden codel ((k61_4 coden codel).2.2.2) ((k61_0 coden codel).1))
abbrev k61_22 (coden : Nat) (codel : List Int) : (Int × Int) × Nat × List Int × Int × Int := (s_l01BadPoint coden codel ((k61_21 coden codel).2.2.2) ((k61_0 coden codel).1) ((k61_1 coden codel).1))
abbrev k61_23 (coden : Nat) (codel : List Int) : (Int × Int) × Nat × List Int × Int × Int := (s_l01BadPoint coden codel ((k61_22 coden codel).2.2.2) ((k61_0 coden codel).1) ((k61_2 coden codel).1))
abbrev k61_24 (coden : Nat) (codel : List Int) : (Int × Int) × Nat × List Int × Int × Int := (s_l01BadPoint coden codel ((k61_23 coden codel).2.2.2) ((k61_0 coden codel).1) ((k61_3 coden codel).1))
def S_s_DrawHasRightAngle : Sums := ⟨tblS [(118, run_s_l02Colour), (68, run_s_l01Minus), (113, run_s_l02Through), (114, run_s_l02Direction), (120, run_s_l01Times), (119, run_s_l01Plus)], tblM [(42, .src run_s_l01From), (44, .box run_s_l01DrawField), (104, .box run_s_l01DrawPoint), (106, .box run_s_l02DrawColour), (69, .box run_s_l01Next), (43, .box run_s_l01BadField), (108, .box run_s_l01BadPoint)]⟩
theorem SO_s_DrawHasRightAngle : SumsOK Try.prog S_s_DrawHasRightAngle := ⟨tblS_ok ⟨⟨Try.call118, sound_s_l02Colour⟩, ⟨Try.call68, sound_s_l01Minus⟩, ⟨Try.call113, sound_s_l02Through⟩, ⟨Try.call114, sound_s_l02Direction⟩, ⟨Try.call120, sound_s_l01Times⟩, ⟨Try.call119, sound_s_l01Plus⟩, True.intro⟩, tblM_ok ⟨⟨Try.call42, sound_s_l01From⟩, ⟨Try.call44, sound_s_l01DrawField⟩, ⟨Try.call104, sound_s_l01DrawPoint⟩, ⟨Try.call106, sound_s_l02DrawColour⟩, ⟨Try.call69, sound_s_l01Next⟩, ⟨Try.call43, sound_s_l01BadField⟩, ⟨Try.call108, sound_s_l01BadPoint⟩, True.intro⟩⟩
def Fo_s_DrawHasRightAngle (coden : Nat) (codel : List Int) : Option (Int × Int × (Int × Int) × (Int × Int) × Int × Int) :=
  (if (codeB coden codel) = true then (if (srcB coden codel (s_l01From coden codel)) = true then (if (srcB coden codel ((k61_0 coden codel).2.2.2) && prB ((k61_0 coden codel).1)) = true then (if (srcB coden codel ((k61_1 coden codel).2.2.2) && prB ((k61_0 coden codel).1)) = true then (if (srcB coden codel ((k61_2 coden codel).2.2.2) && prB ((k61_0 coden codel).1)) = true then (if (srcB coden codel ((k61_3 coden codel).2.2.2)) = true then (if (!(((k61_1 coden codel).1) == ((k61_2 coden codel).1))) = true then (if (k61_5 coden codel) = true then (if (srcB coden codel ((k61_4 coden codel).2.2.2)) = true then (if (((k61_6 coden codel).1) == 0) = true then (if (prB ((k61_0 coden codel).1)) = true then (if (prB ((k61_0 coden codel).1)) = true then (if (srcB coden codel ((k61_6 coden codel).2.2.2)) = true then (if (prB ((k61_0 coden codel).1)) = true then (if (prB ((k61_0 coden codel).1)) = true then (if (prB ((k61_0 coden codel).1)) = true then (if (srcB coden codel ((k61_9 coden codel).2.2.2) && prB ((k61_0 coden codel).1)) = true then (if (srcB coden codel ((k61_13 coden codel).2.2.2) && prB ((k61_0 coden codel).1)) = true then (if (srcB coden codel ((k61_14 coden codel).2.2.2) && prB ((k61_0 coden codel).1)) = true then (if (srcB coden codel ((k61_15 coden codel).2.2.2) && prB ((k61_0 coden codel).1)) = true then some ((k61_13 coden codel).1, (k61_4 coden codel).1, ((k61_14 coden codel).1), ((k61_15 coden codel).1), ((k61_16 coden codel).1)) else none) else none) else none) else none) else none) else none) else none) else none) else none) else none) else (if (srcB coden codel ((k61_6 coden codel).2.2.2) && prB ((k61_0 coden codel).1)) = true then (if (srcB coden codel ((k61_17 coden codel).2.2.2) && prB ((k61_0 coden codel).1)) = true then (if (srcB coden codel ((k61_18 coden codel).2.2.2) && prB ((k61_0 coden codel).1)) = true then (if (srcB coden codel ((k61_19 coden codel).2.2.2) && prB ((k61_0 coden codel).1)) = true then some ((k61_17 coden codel).1, (k61_4 coden codel).1, ((k61_18 coden codel).1), ((k61_19 coden codel).1), ((k61_20 coden codel).1)) else none) else none) else none) else none)) else none) else (if (srcB coden codel ((k61_4 coden codel).2.2.2) && prB ((k61_0 coden codel).1)) = true then (if (srcB coden codel ((k61_21 coden codel).2.2.2) && prB ((k61_0 coden codel).1)) = true then (if (srcB coden codel ((k61_22 coden codel).2.2.2) && prB ((k61_0 coden codel).1)) = true then (if (srcB coden codel ((k61_23 coden codel).2.2.2) && prB ((k61_0 coden codel).1)) = true then some ((k61_21 coden codel).1, (k61_4 coden codel).1, ((k61_22 coden codel).1), ((k61_23 coden codel).1), ((k61_24 coden codel).1)) else none) else none) else none) else none)) else (if (srcB coden codel ((k61_4 coden codel).2.2.2) && prB ((k61_0 coden codel).1)) = true then (if (srcB coden codel ((k61_21 coden codel).2.2.2) && prB ((k61_0 coden codel).1)) = true then (if (srcB coden codel ((k61_22 coden codel).2.2.2) && prB ((k61_0 coden codel).1)) = true then (if (srcB coden codel ((k61_23 coden codel).2.2.2) && prB ((k61_0 coden codel).1)) = true then some ((k61_21 coden codel).1, (k61_4 coden codel).1, ((k61_22 coden codel).1), ((k61_23 coden codel).1), ((k61_24 coden codel).1)) else none) else none) else none) else none)) else none) else none) else none) else none) else none) else none)
theorem eq_s_DrawHasRightAngle (coden : Nat) (codel : List Int) : execT Try.prog S_s_DrawHasRightAngle 61 76 (fun _ => 1000000) dec_i_i_a2_a2_a2 [.s coden (.byts codel)] = Fo_s_DrawHasRightAngle coden codel := by
  kernel_rfl
def s_DrawHasRightAngle_d (coden : Nat) (codel : List Int) : Int × Int × (Int × Int) × (Int × Int) × Int × Int :=
  (if (!(((k61_1 coden codel).1) == ((k61_2 coden codel).1))) = true then (if (k61_5 coden codel) = true then (if (((k61_6 coden codel).1) == 0) = true then ((k61_13 coden codel).1, (k61_4 coden codel).1, ((k61_14 coden codel).1), ((k61_15 coden codel).1), ((k61_16 coden codel).1)) else ((k61_17 coden codel).1, (k61_4 coden codel).1, ((k61_18 coden codel).1), ((k61_19 coden codel).1), ((k61_20 coden codel).1))) else ((k61_21 coden codel).1, (k61_4 coden codel).1, ((k61_22 coden codel).1), ((k61_23 coden codel).1), ((k61_24 coden codel).1))) else ((k61_21 coden codel).1, (k61_4 coden codel).1, ((k61_22 coden codel).1), ((k61_23 coden codel).1), ((k61_24 coden codel).1)))
def s_DrawHasRightAngle : (Nat) → (List Int) → (Int × Int × (Int × Int) × (Int × Int) × Int × Int) := shut s_DrawHasRightAngle_d
theorem s_DrawHasRightAngle_eq (coden : Nat) (codel : List Int) : s_DrawHasRightAngle coden codel = s_DrawHasRightAngle_d coden codel := by
  unfold s_DrawHasRightAngle
  rw [shut_eq]
theorem tot_s_DrawHasRightAngle (coden : Nat) (codel : List Int) (hp : (codeB coden codel) = true) : Fo_s_DrawHasRightAngle coden codel = some (s_DrawHasRightAngle coden codel) := by
  have hc := hp
  rw [s_DrawHasRightAngle_eq]
  unfold Fo_s_DrawHasRightAngle s_DrawHasRightAngle_d
  (try simp only [wI_eq])
  repeat' (first | with_reducible rfl | refine chk_opt (by first | (with_reducible assumption) | ((repeat (with_reducible first | assumption | exact s_l01From_src hc | apply post_s_l01DrawField | apply post_s_l01DrawPoint | apply post_s_l02DrawColour | apply post_s_l01Next | apply post_s_l01BadField | apply post_s_l01BadPoint)); done) | (with_reducible exact field_prB9 _ _ _ (by ((repeat (with_reducible first | assumption | exact s_l01From_src hc | apply post_s_l01DrawField | apply post_s_l01DrawPoint | apply post_s_l02DrawColour | apply post_s_l01Next | apply post_s_l01BadField | apply post_s_l01BadPoint)); done))) | fail | exact pos_idx ‹_› | exact and_two (by ((repeat (with_reducible first | assumption | exact s_l01From_src hc | apply post_s_l01DrawField | apply post_s_l01DrawPoint | apply post_s_l02DrawColour | apply post_s_l01Next | apply post_s_l01BadField | apply post_s_l01BadPoint)); done)) (by (first | (with_reducible assumption) | with_reducible exact field_prB9 _ _ _ (by ((repeat (with_reducible first | assumption | exact s_l01From_src hc | apply post_s_l01DrawField | apply post_s_l01DrawPoint | apply post_s_l02DrawColour | apply post_s_l01Next | apply post_s_l01BadField | apply post_s_l01BadPoint)); done)) | fail | rfl)) | exact pos_cell ‹_› (by (first | exact flat2_len _ | exact flat3_len _)) | exact idx_ok (next_rng _ _ _ _ (by ((repeat (with_reducible first | assumption | exact s_l01From_src hc | apply post_s_l01DrawField | apply post_s_l01DrawPoint | apply post_s_l02DrawColour | apply post_s_l01Next | apply post_s_l01BadField | apply post_s_l01BadPoint)); done)) (by decide)) | exact ble_ok (next_ble _ _ _ _ (by ((repeat (with_reducible first | assumption | exact s_l01From_src hc | apply post_s_l01DrawField | apply post_s_l01DrawPoint | apply post_s_l02DrawColour | apply post_s_l01Next | apply post_s_l01BadField | apply post_s_l01BadPoint)); done)) (by decide) (by decide)) | exact ble_ok (next_ble0 _ _ _ _ (by ((repeat (with_reducible first | assumption | exact s_l01From_src hc | apply post_s_l01DrawField | apply post_s_l01DrawPoint | apply post_s_l02DrawColour | apply post_s_l01Next | apply post_s_l01BadField | apply post_s_l01BadPoint)); done)) (by decide) (by decide)) | exact idx_ok (next_rng _ _ _ _ (by ((repeat (with_reducible first | assumption | exact s_l01From_src hc | apply post_s_l01DrawField | apply post_s_l01DrawPoint | apply post_s_l02DrawColour | apply post_s_l01Next | apply post_s_l01BadField | apply post_s_l01BadPoint)); done)) (pos_one ‹_›)) | exact next_cell (by ((repeat (with_reducible first | assumption | exact s_l01From_src hc | apply post_s_l01DrawField | apply post_s_l01DrawPoint | apply post_s_l02DrawColour | apply post_s_l01Next | apply post_s_l01BadField | apply post_s_l01BadPoint)); done)) ‹_› (by (first | exact flat2_len _ | exact flat3_len _))) ?_ | refine ite_opt (fun _ => ?_) (fun _ => ?_) | rfl)
def run_s_DrawHasRightAngle : List PV → Option (Bool × List TR)
  | [.s coden (.byts codel)] => some (codeB coden codel, enc_i_i_a2_a2_a2 (s_DrawHasRightAngle coden codel))
  | _ => none
theorem sound_s_DrawHasRightAngle : Sound Try.prog 61 run_s_DrawHasRightAngle := by
  refine sound_of de_i_i_a2_a2_a2 SO_s_DrawHasRightAngle (by kernel_rfl) Try.func61 Try.ntmps61 rfl (by kernel_rfl) ?_
  intro W pvs avs rs hargs hrun
  unfold run_s_DrawHasRightAngle at hrun
  split at hrun
  · simp only [Option.some.injEq, Prod.mk.injEq] at hrun
    obtain ⟨hp, rfl⟩ := hrun
    rename_i coden codel
    exact ⟨_, _, _, hargs, rfl, (eq_s_DrawHasRightAngle coden codel).trans (tot_s_DrawHasRightAngle coden codel hp)⟩
  · cases hrun

abbrev k16_0 (coden : Nat) (codel : List Int) : Int × Int × (Int × Int) × (Int × Int) × Int × Int := (s_DrawHasRightAngle coden codel)
def S_s_DrawRightColours : Sums := ⟨tblS [(61, run_s_DrawHasRightAngle)], tblM []⟩
theorem SO_s_DrawRightColours : SumsOK Try.prog S_s_DrawRightColours := ⟨tblS_ok ⟨⟨Try.call61, sound_s_DrawHasRightAngle⟩, True.intro⟩, tblM_ok True.intro⟩
def Fo_s_DrawRightColours (coden : Nat) (codel : List Int) : Option (Int × (Int × Int) × (Int × Int) × Int × Int) :=
  (if (codeB coden codel) = true then some ((k16_0 coden codel).1, ((k16_0 coden codel).2.2.1), ((k16_0 coden codel).2.2.2.1), ((k16_0 coden codel).2.2.2.2)) else none)
theorem eq_s_DrawRightColours (coden : Nat) (codel : List Int) : execT Try.prog S_s_DrawRightColours 16 23 (fun _ => 1000000) dec_i_a2_a2_a2 [.s coden (.byts codel)] = Fo_s_DrawRightColours coden codel := by
  kernel_rfl
def s_DrawRightColours_d (coden : Nat) (codel : List Int) : Int × (Int × Int) × (Int × Int) × Int × Int :=
  ((k16_0 coden codel).1, ((k16_0 coden codel).2.2.1), ((k16_0 coden codel).2.2.2.1), ((k16_0 coden codel).2.2.2.2))
def s_DrawRightColours : (Nat) → (List Int) → (Int × (Int × Int) × (Int × Int) × Int × Int) := shut s_DrawRightColours_d
theorem s_DrawRightColours_eq (coden : Nat) (codel : List Int) : s_DrawRightColours coden codel = s_DrawRightColours_d coden codel := by
  unfold s_DrawRightColours
  rw [shut_eq]
theorem tot_s_DrawRightColours (coden : Nat) (codel : List Int) (hp : (codeB coden codel) = true) : Fo_s_DrawRightColours coden codel = some (s_DrawRightColours coden codel) := by
  have hc := hp
  rw [s_DrawRightColours_eq]
  unfold Fo_s_DrawRightColours s_DrawRightColours_d
  (try simp only [wI_eq])
  repeat' (first | with_reducible rfl | refine chk_opt (by first | (with_reducible assumption) | ((repeat (with_reducible first | assumption)); done) | (with_reducible exact field_prB9 _ _ _ (by ((repeat (with_reducible first | assumption)); done))) | fail | exact pos_idx ‹_› | exact and_two (by ((repeat (with_reducible first | assumption)); done)) (by (first | (with_reducible assumption) | with_reducible exact field_prB9 _ _ _ (by ((repeat (with_reducible first | assumption)); done)) | fail | rfl)) | exact pos_cell ‹_› (by (first | exact flat2_len _ | exact flat3_len _)) | exact idx_ok (next_rng _ _ _ _ (by ((repeat (with_reducible first | assumption)); done)) (by decide)) | exact ble_ok (next_ble _ _ _ _ (by ((repeat (with_reducible first | assumption)); done)) (by decide) (by decide)) | exact ble_ok (next_ble0 _ _ _ _ (by ((repeat (with_reducible first | assumption)); done)) (by decide) (by decide)) | exact idx_ok (next_rng _ _ _ _ (by ((repeat (with_reducible first | assumption)); done)) (pos_one ‹_›)) | exact next_cell (by ((repeat (with_reducible first | assumption)); done)) ‹_› (by (first | exact flat2_len _ | exact flat3_len _))) ?_ | refine ite_opt (fun _ => ?_) (fun _ => ?_) | rfl)
def run_s_DrawRightColours : List PV → Option (Bool × List TR)
  | [.s coden (.byts codel)] => some (codeB coden codel, enc_i_a2_a2_a2 (s_DrawRightColours coden codel))
  | _ => none
theorem sound_s_DrawRightColours : Sound Try.prog 16 run_s_DrawRightColours := by
  refine sound_of de_i_a2_a2_a2 SO_s_DrawRightColours (by kernel_rfl) Try.func16 Try.ntmps16 rfl (by kernel_rfl) ?_
  intro W pvs avs rs hargs hrun
  unfold run_s_DrawRightColours at hrun
  split at hrun
  · simp only [Option.some.injEq, Prod.mk.injEq] at hrun
    obtain ⟨hp, rfl⟩ := hrun
    rename_i coden codel
    exact ⟨_, _, _, hargs, rfl, (eq_s_DrawRightColours coden codel).trans (tot_s_DrawRightColours coden codel hp)⟩
  · cases hrun

abbrev k19_0 (coden : Nat) (codel : List Int) : Int × (Int × Int) × (Int × Int) × Int × Int := (s_DrawRightColours coden codel)
abbrev k19_1 (coden : Nat) (codel : List Int) : Int := (s_l01Code ((k19_0 coden codel).1) [((k19_0 coden codel).2.1), ((k19_0 coden codel).2.2.1), ((k19_0 coden codel).2.2.2)])
abbrev k19_2 (coden : Nat) (codel : List Int) : Int × Nat × List Int × Int × Int := (s_l01Next coden codel (s_l01From coden codel) 2)
abbrev k19_3 (coden : Nat) (codel : List Int) : Int × Nat × List Int × Int × Int := (s_l01Next coden codel ((k19_2 coden codel).2.2.2) 3)
abbrev k19_4 (coden : Nat) (codel : List Int) : Int × Nat × List Int × Int × Int := (s_l01Next coden codel ((k19_3 coden codel).2.2.2) ((k19_0 coden codel).1))
abbrev k19_5 (coden : Nat) (codel : List Int) : Nat × List Int := (s_l02At ((k19_0 coden codel).1) ((k19_3 coden codel).1) ((k19_0 coden codel).2.1) ((k19_4 coden codel).1))
abbrev k19_6 (coden : Nat) (codel : List Int) : Int × Nat × List Int × Int × Int := (s_l01Next coden codel ((k19_4 coden codel).2.2.2) (((k19_5 coden codel).1 : Nat) : Int))
def S_s_DrawEqualColours : Sums := ⟨tblS [(16, run_s_DrawRightColours), (66, run_s_l01Code), (48, run_s_l02At)], tblM [(42, .src run_s_l01From), (69, .box run_s_l01Next)]⟩
theorem SO_s_DrawEqualColours : SumsOK Try.prog S_s_DrawEqualColours := ⟨tblS_ok ⟨⟨Try.call16, sound_s_DrawRightColours⟩, ⟨Try.call66, sound_s_l01Code⟩, ⟨Try.call48, sound_s_l02At⟩, True.intro⟩, tblM_ok ⟨⟨Try.call42, sound_s_l01From⟩, ⟨Try.call69, sound_s_l01Next⟩, True.intro⟩⟩
def Fo_s_DrawEqualColours (coden : Nat) (codel : List Int) : Option (Int × (Int × Int) × (Int × Int) × Int × Int) :=
  (if (codeB coden codel) = true then (if (codeB coden codel) = true then (if ((k19_1 coden codel) == 0) = true then (if (srcB coden codel (s_l01From coden codel)) = true then (if (((k19_2 coden codel).1) == 0) = true then (if (srcB coden codel ((k19_2 coden codel).2.2.2)) = true then (if (srcB coden codel ((k19_3 coden codel).2.2.2)) = true then (if (prB ((k19_0 coden codel).1)) = true then (if (decide ((((k19_5 coden codel).1 : Nat) : Int) > 0)) = true then (if (decide (0 ≤ 0) && decide (0 < (((k19_5 coden codel).1 : Nat) : Int))) = true then (if (Nat.ble (2) (((k19_5 coden codel).2).length)) = true then (if (srcB coden codel ((k19_4 coden codel).2.2.2)) = true then (if (decide (0 ≤ (k19_6 coden codel).1) && decide ((k19_6 coden codel).1 < (((k19_5 coden codel).1 : Nat) : Int))) = true then (if (Nat.ble ((((k19_6 coden codel).1).toNat) * 2 + 2) (((k19_5 coden codel).2).length)) = true then some ((k19_0 coden codel).1, ((k19_0 coden codel).2.1), (((k19_5 coden codel).2).getD 0 0, ((k19_5 coden codel).2).getD 1 0), (((k19_5 coden codel).2).getD ((((k19_6 coden codel).1).toNat) * 2 + 0) 0, ((k19_5 coden codel).2).getD ((((k19_6 coden codel).1).toNat) * 2 + 1) 0)) else none) else none) else none) else none) else none) else some ((k19_0 coden codel).1, ((k19_0 coden codel).2.1), ((k19_0 coden codel).2.2.1), ((k19_0 coden codel).2.2.2))) else none) else none) else none) else some ((k19_0 coden codel).1, ((k19_0 coden codel).2.1), ((k19_0 coden codel).2.2.1), ((k19_0 coden codel).2.2.2))) else none) else some ((k19_0 coden codel).1, ((k19_0 coden codel).2.1), ((k19_0 coden codel).2.2.1), ((k19_0 coden codel).2.2.2))) else none) else none)
theorem eq_s_DrawEqualColours (coden : Nat) (codel : List Int) : execT Try.prog S_s_DrawEqualColours 19 58 (fun _ => 1000000) dec_i_a2_a2_a2 [.s coden (.byts codel)] = Fo_s_DrawEqualColours coden codel := by
  kernel_rfl
def s_DrawEqualColours_d (coden : Nat) (codel : List Int) : Int × (Int × Int) × (Int × Int) × Int × Int :=
  (if ((k19_1 coden codel) == 0) = true then (if (((k19_2 coden codel).1) == 0) = true then (if (decide ((((k19_5 coden codel).1 : Nat) : Int) > 0)) = true then ((k19_0 coden codel).1, ((k19_0 coden codel).2.1), (((k19_5 coden codel).2).getD 0 0, ((k19_5 coden codel).2).getD 1 0), (((k19_5 coden codel).2).getD ((((k19_6 coden codel).1).toNat) * 2 + 0) 0, ((k19_5 coden codel).2).getD ((((k19_6 coden codel).1).toNat) * 2 + 1) 0)) else ((k19_0 coden codel).1, ((k19_0 coden codel).2.1), ((k19_0 coden codel).2.2.1), ((k19_0 coden codel).2.2.2))) else ((k19_0 coden codel).1, ((k19_0 coden codel).2.1), ((k19_0 coden codel).2.2.1), ((k19_0 coden codel).2.2.2))) else ((k19_0 coden codel).1, ((k19_0 coden codel).2.1), ((k19_0 coden codel).2.2.1), ((k19_0 coden codel).2.2.2)))
def s_DrawEqualColours : (Nat) → (List Int) → (Int × (Int × Int) × (Int × Int) × Int × Int) := shut s_DrawEqualColours_d
theorem s_DrawEqualColours_eq (coden : Nat) (codel : List Int) : s_DrawEqualColours coden codel = s_DrawEqualColours_d coden codel := by
  unfold s_DrawEqualColours
  rw [shut_eq]
theorem tot_s_DrawEqualColours (coden : Nat) (codel : List Int) (hp : (codeB coden codel) = true) : Fo_s_DrawEqualColours coden codel = some (s_DrawEqualColours coden codel) := by
  have hc := hp
  rw [s_DrawEqualColours_eq]
  unfold Fo_s_DrawEqualColours s_DrawEqualColours_d
  (try simp only [wI_eq])
  repeat' (first | with_reducible rfl | refine chk_opt (by first | (with_reducible assumption) | ((repeat (with_reducible first | assumption | exact s_l01From_src hc | apply post_s_l01Next)); done) | (with_reducible exact field_prB9 _ _ _ (by ((repeat (with_reducible first | assumption | exact s_l01From_src hc | apply post_s_l01Next)); done))) | (with_reducible exact l01Code_prB ‹_›) | (with_reducible exact l01Code_prB0 ‹_›) | exact pos_idx ‹_› | exact and_two (by ((repeat (with_reducible first | assumption | exact s_l01From_src hc | apply post_s_l01Next)); done)) (by (first | (with_reducible assumption) | with_reducible exact field_prB9 _ _ _ (by ((repeat (with_reducible first | assumption | exact s_l01From_src hc | apply post_s_l01Next)); done)) | (with_reducible exact l01Code_prB ‹_›) | (with_reducible exact l01Code_prB0 ‹_›) | rfl)) | exact pos_cell ‹_› (by (first | exact flat2_len _ | exact flat3_len _)) | exact idx_ok (next_rng _ _ _ _ (by ((repeat (with_reducible first | assumption | exact s_l01From_src hc | apply post_s_l01Next)); done)) (by decide)) | exact ble_ok (next_ble _ _ _ _ (by ((repeat (with_reducible first | assumption | exact s_l01From_src hc | apply post_s_l01Next)); done)) (by decide) (by decide)) | exact ble_ok (next_ble0 _ _ _ _ (by ((repeat (with_reducible first | assumption | exact s_l01From_src hc | apply post_s_l01Next)); done)) (by decide) (by decide)) | exact idx_ok (next_rng _ _ _ _ (by ((repeat (with_reducible first | assumption | exact s_l01From_src hc | apply post_s_l01Next)); done)) (pos_one ‹_›)) | exact next_cell (by ((repeat (with_reducible first | assumption | exact s_l01From_src hc | apply post_s_l01Next)); done)) ‹_› (by (first | exact flat2_len _ | exact flat3_len _))) ?_ | refine ite_opt (fun _ => ?_) (fun _ => ?_) | rfl)
def run_s_DrawEqualColours : List PV → Option (Bool × List TR)
  | [.s coden (.byts codel)] => some (codeB coden codel, enc_i_a2_a2_a2 (s_DrawEqualColours coden codel))
  | _ => none
theorem sound_s_DrawEqualColours : Sound Try.prog 19 run_s_DrawEqualColours := by
  refine sound_of de_i_a2_a2_a2 SO_s_DrawEqualColours (by kernel_rfl) Try.func19 Try.ntmps19 rfl (by kernel_rfl) ?_
  intro W pvs avs rs hargs hrun
  unfold run_s_DrawEqualColours at hrun
  split at hrun
  · simp only [Option.some.injEq, Prod.mk.injEq] at hrun
    obtain ⟨hp, rfl⟩ := hrun
    rename_i coden codel
    exact ⟨_, _, _, hargs, rfl, (eq_s_DrawEqualColours coden codel).trans (tot_s_DrawEqualColours coden codel hp)⟩
  · cases hrun

abbrev k6_0 (coden : Nat) (codel : List Int) : Int × Nat × List Int × Int × Int := (s_l01DrawField coden codel (s_l01From coden codel))
abbrev k6_1 (coden : Nat) (codel : List Int) : Int × Nat × List Int × Int × Int := (s_l01BadField coden codel ((k6_0 coden codel).2.2.2) ((k6_0 coden codel).1))
def S_s_DrawUnitCounts : Sums := ⟨tblS [], tblM [(42, .src run_s_l01From), (44, .box run_s_l01DrawField), (43, .box run_s_l01BadField)]⟩
theorem SO_s_DrawUnitCounts : SumsOK Try.prog S_s_DrawUnitCounts := ⟨tblS_ok True.intro, tblM_ok ⟨⟨Try.call42, sound_s_l01From⟩, ⟨Try.call44, sound_s_l01DrawField⟩, ⟨Try.call43, sound_s_l01BadField⟩, True.intro⟩⟩
def Fo_s_DrawUnitCounts (coden : Nat) (codel : List Int) : Option (Int) :=
  (if (codeB coden codel) = true then (if (srcB coden codel (s_l01From coden codel)) = true then (if (srcB coden codel ((k6_0 coden codel).2.2.2) && prB ((k6_0 coden codel).1)) = true then some ((k6_1 coden codel).1) else none) else none) else none)
theorem eq_s_DrawUnitCounts (coden : Nat) (codel : List Int) : execT Try.prog S_s_DrawUnitCounts 6 10 (fun _ => 1000000) dec_i [.s coden (.byts codel)] = Fo_s_DrawUnitCounts coden codel := by
  kernel_rfl
def s_DrawUnitCounts_d (coden : Nat) (codel : List Int) : Int :=
  (k6_1 coden codel).1
def s_DrawUnitCounts : (Nat) → (List Int) → (Int) := shut s_DrawUnitCounts_d
theorem s_DrawUnitCounts_eq (coden : Nat) (codel : List Int) : s_DrawUnitCounts coden codel = s_DrawUnitCounts_d coden codel := by
  unfold s_DrawUnitCounts
  rw [shut_eq]
theorem tot_s_DrawUnitCounts (coden : Nat) (codel : List Int) (hp : (codeB coden codel) = true) : Fo_s_DrawUnitCounts coden codel = some (s_DrawUnitCounts coden codel) := by
  have hc := hp
  rw [s_DrawUnitCounts_eq]
  unfold Fo_s_DrawUnitCounts s_DrawUnitCounts_d
  (try simp only [wI_eq])
  repeat' (first | with_reducible rfl | refine chk_opt (by first | (with_reducible assumption) | ((repeat (with_reducible first | assumption | exact s_l01From_src hc | apply post_s_l01DrawField | apply post_s_l01BadField)); done) | (with_reducible exact field_prB9 _ _ _ (by ((repeat (with_reducible first | assumption | exact s_l01From_src hc | apply post_s_l01DrawField | apply post_s_l01BadField)); done))) | fail | exact pos_idx ‹_› | exact and_two (by ((repeat (with_reducible first | assumption | exact s_l01From_src hc | apply post_s_l01DrawField | apply post_s_l01BadField)); done)) (by (first | (with_reducible assumption) | with_reducible exact field_prB9 _ _ _ (by ((repeat (with_reducible first | assumption | exact s_l01From_src hc | apply post_s_l01DrawField | apply post_s_l01BadField)); done)) | fail | rfl)) | exact pos_cell ‹_› (by (first | exact flat2_len _ | exact flat3_len _)) | exact idx_ok (next_rng _ _ _ _ (by ((repeat (with_reducible first | assumption | exact s_l01From_src hc | apply post_s_l01DrawField | apply post_s_l01BadField)); done)) (by decide)) | exact ble_ok (next_ble _ _ _ _ (by ((repeat (with_reducible first | assumption | exact s_l01From_src hc | apply post_s_l01DrawField | apply post_s_l01BadField)); done)) (by decide) (by decide)) | exact ble_ok (next_ble0 _ _ _ _ (by ((repeat (with_reducible first | assumption | exact s_l01From_src hc | apply post_s_l01DrawField | apply post_s_l01BadField)); done)) (by decide) (by decide)) | exact idx_ok (next_rng _ _ _ _ (by ((repeat (with_reducible first | assumption | exact s_l01From_src hc | apply post_s_l01DrawField | apply post_s_l01BadField)); done)) (pos_one ‹_›)) | exact next_cell (by ((repeat (with_reducible first | assumption | exact s_l01From_src hc | apply post_s_l01DrawField | apply post_s_l01BadField)); done)) ‹_› (by (first | exact flat2_len _ | exact flat3_len _))) ?_ | refine ite_opt (fun _ => ?_) (fun _ => ?_) | rfl)
def run_s_DrawUnitCounts : List PV → Option (Bool × List TR)
  | [.s coden (.byts codel)] => some (codeB coden codel, enc_i (s_DrawUnitCounts coden codel))
  | _ => none
theorem sound_s_DrawUnitCounts : Sound Try.prog 6 run_s_DrawUnitCounts := by
  refine sound_of de_i SO_s_DrawUnitCounts (by kernel_rfl) Try.func6 Try.ntmps6 rfl (by kernel_rfl) ?_
  intro W pvs avs rs hargs hrun
  unfold run_s_DrawUnitCounts at hrun
  split at hrun
  · simp only [Option.some.injEq, Prod.mk.injEq] at hrun
    obtain ⟨hp, rfl⟩ := hrun
    rename_i coden codel
    exact ⟨_, _, _, hargs, rfl, (eq_s_DrawUnitCounts coden codel).trans (tot_s_DrawUnitCounts coden codel hp)⟩
  · cases hrun

def S_s_DrawThreeFeet : Sums := ⟨tblS [(49, run_s_l02Flag)], tblM []⟩
theorem SO_s_DrawThreeFeet : SumsOK Try.prog S_s_DrawThreeFeet := ⟨tblS_ok ⟨⟨Try.call49, sound_s_l02Flag⟩, True.intro⟩, tblM_ok True.intro⟩
def Fo_s_DrawThreeFeet (coden : Nat) (codel : List Int) : Option (Int × (Int × Int) × Int × Int × Int) :=
  (if (codeB coden codel) = true then some ((s_l02Flag coden codel).1, ((s_l02Flag coden codel).2.2.1), ((s_l02Flag coden codel).2.2.2)) else none)
theorem eq_s_DrawThreeFeet (coden : Nat) (codel : List Int) : execT Try.prog S_s_DrawThreeFeet 10 19 (fun _ => 1000000) dec_i_a2_a3 [.s coden (.byts codel)] = Fo_s_DrawThreeFeet coden codel := by
  kernel_rfl
def s_DrawThreeFeet_d (coden : Nat) (codel : List Int) : Int × (Int × Int) × Int × Int × Int :=
  ((s_l02Flag coden codel).1, ((s_l02Flag coden codel).2.2.1), ((s_l02Flag coden codel).2.2.2))
def s_DrawThreeFeet : (Nat) → (List Int) → (Int × (Int × Int) × Int × Int × Int) := shut s_DrawThreeFeet_d
theorem s_DrawThreeFeet_eq (coden : Nat) (codel : List Int) : s_DrawThreeFeet coden codel = s_DrawThreeFeet_d coden codel := by
  unfold s_DrawThreeFeet
  rw [shut_eq]
theorem tot_s_DrawThreeFeet (coden : Nat) (codel : List Int) (hp : (codeB coden codel) = true) : Fo_s_DrawThreeFeet coden codel = some (s_DrawThreeFeet coden codel) := by
  have hc := hp
  rw [s_DrawThreeFeet_eq]
  unfold Fo_s_DrawThreeFeet s_DrawThreeFeet_d
  (try simp only [wI_eq])
  repeat' (first | with_reducible rfl | refine chk_opt (by first | (with_reducible assumption) | ((repeat (with_reducible first | assumption)); done) | (with_reducible exact field_prB9 _ _ _ (by ((repeat (with_reducible first | assumption)); done))) | fail | exact pos_idx ‹_› | exact and_two (by ((repeat (with_reducible first | assumption)); done)) (by (first | (with_reducible assumption) | with_reducible exact field_prB9 _ _ _ (by ((repeat (with_reducible first | assumption)); done)) | fail | rfl)) | exact pos_cell ‹_› (by (first | exact flat2_len _ | exact flat3_len _)) | exact idx_ok (next_rng _ _ _ _ (by ((repeat (with_reducible first | assumption)); done)) (by decide)) | exact ble_ok (next_ble _ _ _ _ (by ((repeat (with_reducible first | assumption)); done)) (by decide) (by decide)) | exact ble_ok (next_ble0 _ _ _ _ (by ((repeat (with_reducible first | assumption)); done)) (by decide) (by decide)) | exact idx_ok (next_rng _ _ _ _ (by ((repeat (with_reducible first | assumption)); done)) (pos_one ‹_›)) | exact next_cell (by ((repeat (with_reducible first | assumption)); done)) ‹_› (by (first | exact flat2_len _ | exact flat3_len _))) ?_ | refine ite_opt (fun _ => ?_) (fun _ => ?_) | rfl)
def run_s_DrawThreeFeet : List PV → Option (Bool × List TR)
  | [.s coden (.byts codel)] => some (codeB coden codel, enc_i_a2_a3 (s_DrawThreeFeet coden codel))
  | _ => none
theorem sound_s_DrawThreeFeet : Sound Try.prog 10 run_s_DrawThreeFeet := by
  refine sound_of de_i_a2_a3 SO_s_DrawThreeFeet (by kernel_rfl) Try.func10 Try.ntmps10 rfl (by kernel_rfl) ?_
  intro W pvs avs rs hargs hrun
  unfold run_s_DrawThreeFeet at hrun
  split at hrun
  · simp only [Option.some.injEq, Prod.mk.injEq] at hrun
    obtain ⟨hp, rfl⟩ := hrun
    rename_i coden codel
    exact ⟨_, _, _, hargs, rfl, (eq_s_DrawThreeFeet coden codel).trans (tot_s_DrawThreeFeet coden codel hp)⟩
  · cases hrun

abbrev k142_0 (sn : Nat) (sl : List Int) (ss : Int × Int) (p : Int) : (Int × Int) × Nat × List Int × Int × Int := (s_l01DrawPoint sn sl ((s_l01DrawPoint sn sl ss p).2.2.2) p)
abbrev k142_1 (sn : Nat) (sl : List Int) (ss : Int × Int) (p : Int) : (Int × Int) × Nat × List Int × Int × Int := (s_l01DrawPoint sn sl ((k142_0 sn sl ss p).2.2.2) p)
abbrev k142_2 (sn : Nat) (sl : List Int) (ss : Int × Int) (p : Int) : Int := (s_l01Area p ((s_l01DrawPoint sn sl ss p).1) ((k142_0 sn sl ss p).1) ((k142_1 sn sl ss p).1))
abbrev k142_3 (sn : Nat) (sl : List Int) (ss : Int × Int) (p : Int) : (Int × Int) × Nat × List Int × Int × Int := (s_l01DrawPoint sn sl ((k142_1 sn sl ss p).2.2.2) p)
abbrev k142_4 (sn : Nat) (sl : List Int) (ss : Int × Int) (p : Int) : (Int × Int) × Nat × List Int × Int × Int := (s_l01DrawPoint sn sl ((k142_3 sn sl ss p).2.2.2) p)
def S_s_l04DrawOf : Sums := ⟨tblS [(91, run_s_l01Area)], tblM [(104, .box run_s_l01DrawPoint)]⟩
theorem SO_s_l04DrawOf : SumsOK Try.prog S_s_l04DrawOf := ⟨tblS_ok ⟨⟨Try.call91, sound_s_l01Area⟩, True.intro⟩, tblM_ok ⟨⟨Try.call104, sound_s_l01DrawPoint⟩, True.intro⟩⟩
def T_s_l04DrawOf_0 (sn : Nat) (sl : List Int) (ss : Int × Int) (p : Int) (v0_1 : Int) (v0_2 : Int) (v32_0 : Int) (v32_1 : Int) (v36_0 : Int) (v36_1 : Int) (k : Int) : Tab := ⟨[.ptr 0 0, .val (.int .i64 p), .junk, .junk, .ptr 16 0, .ptr 20 0, .ptr 24 0, .ptr 28 0, .ptr 32 0, .ptr 36 0, .val (.int .i64 k), .ptr 0 0, .val (.int .i64 p), .val (.agg ⟨[.int .i64 (((s_l01DrawPoint sn sl ss p).1).1), .int .i64 (((s_l01DrawPoint sn sl ss p).1).2)]⟩), .ptr 0 0, .val (.int .i64 p), .val (.agg ⟨[.int .i64 (((k142_0 sn sl ss p).1).1), .int .i64 (((k142_0 sn sl ss p).1).2)]⟩), .ptr 0 0, .val (.int .i64 p), .val (.agg ⟨[.int .i64 (((k142_1 sn sl ss p).1).1), .int .i64 (((k142_1 sn sl ss p).1).2)]⟩), .junk, .junk, .junk, .junk, .junk, .junk, .junk, .junk, .junk, .junk, .junk, .junk, .junk, .junk, .junk, .junk, .junk, .junk, .junk, .junk, .junk], [(0, .box 104 [.row 1, .val (.int .i64 v0_1), .val (.int .u64 v0_2)]), (1, .ros sn (.byts sl)), (16, .box 30 [.val (.int .i64 0), .val (.int .i64 0)]), (20, .box 30 [.val (.int .i64 0), .val (.int .i64 0)]), (24, .box 30 [.val (.int .i64 0), .val (.int .i64 0)]), (28, .box 30 [.val (.int .i64 (((s_l01DrawPoint sn sl ss p).1).1)), .val (.int .i64 (((s_l01DrawPoint sn sl ss p).1).2))]), (32, .box 30 [.val (.int .i64 v32_0), .val (.int .i64 v32_1)]), (36, .box 30 [.val (.int .i64 v36_0), .val (.int .i64 v36_1)])]⟩
def X_s_l04DrawOf_0 (P : Program) (fu : Nat) (sn : Nat) (sl : List Int) (ss : Int × Int) (p : Int) (f : Nat) (v0_1 : Int) (v0_2 : Int) (v32_0 : Int) (v32_1 : Int) (v36_0 : Int) (v36_1 : Int) (k : Int) : Option ((Int × Int) × (Int × Int) × (Int × Int) × Nat × List Int × Int × Int) := loopK (exec P S_s_l04DrawOf 41 (fun _ => fu + 100) (Code.sub [1, 1, 0, 1, 0, 0] (bodyF P 142))) f (T_s_l04DrawOf_0 sn sl ss p v0_1 v0_2 v32_0 v32_1 v36_0 v36_1 k) (kBlock 0 (kSeq (fun s => exec P S_s_l04DrawOf 41 (fun _ => fu + 100) (Code.sub [1, 1, 1] (bodyF P 142)) s (finP P 142 104 [.s sn (.byts sl), .v (.int .i64 ss.1), .v (.int .u64 ss.2)] dec_P104_a2_a2_a2)) (finP P 142 104 [.s sn (.byts sl), .v (.int .i64 ss.1), .v (.int .u64 ss.2)] dec_P104_a2_a2_a2)))
def B_s_l04DrawOf_0 (sn : Nat) (sl : List Int) (ss : Int × Int) (p : Int) (rec0 : Int → Int → Int → Int → Int → Int → Int → Option ((Int × Int) × (Int × Int) × (Int × Int) × Nat × List Int × Int × Int)) (v0_1 : Int) (v0_2 : Int) (v32_0 : Int) (v32_1 : Int) (v36_0 : Int) (v36_1 : Int) (k : Int) : Option ((Int × Int) × (Int × Int) × (Int × Int) × Nat × List Int × Int × Int) :=
  (if (decide (k < 6)) = true then (if (prB p) = true then (if ((s_l01Area p ((s_l01DrawPoint sn sl ss p).1) (v32_0, v32_1) (v36_0, v36_1)) == 0) = true then (if (srcB sn sl (v0_1, v0_2) && prB p) = true then (if (srcB sn sl ((s_l01DrawPoint sn sl (v0_1, v0_2) p).2.2.2) && prB p) = true then rec0 ((s_l01DrawPoint sn sl ((s_l01DrawPoint sn sl (v0_1, v0_2) p).2.2.2) p).2.2.2.1) ((s_l01DrawPoint sn sl ((s_l01DrawPoint sn sl (v0_1, v0_2) p).2.2.2) p).2.2.2.2) (((s_l01DrawPoint sn sl (v0_1, v0_2) p).1).1) (((s_l01DrawPoint sn sl (v0_1, v0_2) p).1).2) (((s_l01DrawPoint sn sl ((s_l01DrawPoint sn sl (v0_1, v0_2) p).2.2.2) p).1).1) (((s_l01DrawPoint sn sl ((s_l01DrawPoint sn sl (v0_1, v0_2) p).2.2.2) p).1).2) (wI (k + 1)) else none) else none) else some (((s_l01DrawPoint sn sl ss p).1), (v32_0, v32_1), (v36_0, v36_1), sn, sl, v0_1, v0_2)) else none) else some (((s_l01DrawPoint sn sl ss p).1), (v32_0, v32_1), (v36_0, v36_1), sn, sl, v0_1, v0_2))
def L_s_l04DrawOf_0 (fu : Nat) (sn : Nat) (sl : List Int) (ss : Int × Int) (p : Int) : Nat → Int → Int → Int → Int → Int → Int → Int → Option ((Int × Int) × (Int × Int) × (Int × Int) × Nat × List Int × Int × Int)
  | 0, _, _, _, _, _, _, _ => none
  | f + 1, v0_1, v0_2, v32_0, v32_1, v36_0, v36_1, k => B_s_l04DrawOf_0 sn sl ss p (L_s_l04DrawOf_0 fu sn sl ss p f) v0_1 v0_2 v32_0 v32_1 v36_0 v36_1 k
theorem loop_s_l04DrawOf_0 (fu : Nat) (sn : Nat) (sl : List Int) (ss : Int × Int) (p : Int) : ∀ (f : Nat) (v0_1 : Int) (v0_2 : Int) (v32_0 : Int) (v32_1 : Int) (v36_0 : Int) (v36_1 : Int) (k : Int), X_s_l04DrawOf_0 Try.prog fu sn sl ss p f v0_1 v0_2 v32_0 v32_1 v36_0 v36_1 k = L_s_l04DrawOf_0 fu sn sl ss p f v0_1 v0_2 v32_0 v32_1 v36_0 v36_1 k := by
  intro f
  induction f with
  | zero => intros; rfl
  | succ f ih =>
    intro v0_1 v0_2 v32_0 v32_1 v36_0 v36_1 k
    have h1 : X_s_l04DrawOf_0 Try.prog fu sn sl ss p (f + 1) v0_1 v0_2 v32_0 v32_1 v36_0 v36_1 k = B_s_l04DrawOf_0 sn sl ss p (X_s_l04DrawOf_0 Try.prog fu sn sl ss p f) v0_1 v0_2 v32_0 v32_1 v36_0 v36_1 k := by kernel_rfl
    have h2 : X_s_l04DrawOf_0 Try.prog fu sn sl ss p f = L_s_l04DrawOf_0 fu sn sl ss p f := by funext v0_1 v0_2 v32_0 v32_1 v36_0 v36_1 k; exact ih v0_1 v0_2 v32_0 v32_1 v36_0 v36_1 k
    rw [h1, h2]
    rfl
def G_s_l04DrawOf (sn : Nat) (sl : List Int) (ss : Int × Int) (p : Int) (lo0 : Int → Int → Int → Int → Int → Int → Int → Option ((Int × Int) × (Int × Int) × (Int × Int) × Nat × List Int × Int × Int)) : Option ((Int × Int) × (Int × Int) × (Int × Int) × Nat × List Int × Int × Int) :=
  (if (srcB sn sl ss && prB p) = true then (if (srcB sn sl ((s_l01DrawPoint sn sl ss p).2.2.2) && prB p) = true then (if (srcB sn sl ((k142_0 sn sl ss p).2.2.2) && prB p) = true then lo0 ((k142_1 sn sl ss p).2.2.2.1) ((k142_1 sn sl ss p).2.2.2.2) (((k142_0 sn sl ss p).1).1) (((k142_0 sn sl ss p).1).2) (((k142_1 sn sl ss p).1).1) (((k142_1 sn sl ss p).1).2) 0 else none) else none) else none)
def Fo_s_l04DrawOf (fu : Nat) (sn : Nat) (sl : List Int) (ss : Int × Int) (p : Int) : Option ((Int × Int) × (Int × Int) × (Int × Int) × Nat × List Int × Int × Int) := G_s_l04DrawOf sn sl ss p (L_s_l04DrawOf_0 fu sn sl ss p (fu + 100))
theorem eqg_s_l04DrawOf (fu : Nat) (sn : Nat) (sl : List Int) (ss : Int × Int) (p : Int) : execP Try.prog S_s_l04DrawOf 142 41 (fun _ => fu + 100) dec_P104_a2_a2_a2 104 [.s sn (.byts sl), .v (.int .i64 ss.1), .v (.int .u64 ss.2)] [.v (.int .i64 p)] = G_s_l04DrawOf sn sl ss p (L_s_l04DrawOf_0 fu sn sl ss p (fu + 100)) := by
  have h1 : execP Try.prog S_s_l04DrawOf 142 41 (fun _ => fu + 100) dec_P104_a2_a2_a2 104 [.s sn (.byts sl), .v (.int .i64 ss.1), .v (.int .u64 ss.2)] [.v (.int .i64 p)] = G_s_l04DrawOf sn sl ss p (X_s_l04DrawOf_0 Try.prog fu sn sl ss p (fu + 100)) := by kernel_rfl
  have c0 : X_s_l04DrawOf_0 Try.prog fu sn sl ss p (fu + 100) = L_s_l04DrawOf_0 fu sn sl ss p (fu + 100) := by funext v0_1 v0_2 v32_0 v32_1 v36_0 v36_1 k; exact loop_s_l04DrawOf_0 fu sn sl ss p (fu + 100) v0_1 v0_2 v32_0 v32_1 v36_0 v36_1 k
  rw [h1, c0]
theorem eq_s_l04DrawOf (fu : Nat) (sn : Nat) (sl : List Int) (ss : Int × Int) (p : Int) : execP Try.prog S_s_l04DrawOf 142 41 (fun _ => fu + 100) dec_P104_a2_a2_a2 104 [.s sn (.byts sl), .v (.int .i64 ss.1), .v (.int .u64 ss.2)] [.v (.int .i64 p)] = Fo_s_l04DrawOf fu sn sl ss p := eqg_s_l04DrawOf fu sn sl ss p
def s_l04DrawOf_d (sn : Nat) (sl : List Int) (ss : Int × Int) (p : Int) : (Int × Int) × (Int × Int) × (Int × Int) × Nat × List Int × Int × Int := (Fo_s_l04DrawOf 1000000 sn sl ss p).getD ((0, 0), (0, 0), (0, 0), sn, sl, ss.1, ss.2)
def s_l04DrawOf : (Nat) → (List Int) → (Int × Int) → (Int) → ((Int × Int) × (Int × Int) × (Int × Int) × Nat × List Int × Int × Int) := shut s_l04DrawOf_d
theorem s_l04DrawOf_eq (sn : Nat) (sl : List Int) (ss : Int × Int) (p : Int) : s_l04DrawOf sn sl ss p = s_l04DrawOf_d sn sl ss p := by
  unfold s_l04DrawOf
  rw [shut_eq]
theorem s_l04DrawOf_ex (sn : Nat) (sl : List Int) (ss : Int × Int) (p : Int) (hp : (srcB sn sl ss && prB p) = true) : ∃ r, Fo_s_l04DrawOf 1000000 sn sl ss p = some r ∧ srcB sn sl r.2.2.2.2.2 = true := by
  have hs := and_l hp
  have hq := and_r hp
  have key : ∀ (f : Nat) (x y a b c d k : Int), 0 ≤ k ∧ k ≤ 6 → 6 - k < f → srcB sn sl (x, y) = true → ∃ r, L_s_l04DrawOf_0 1000000 sn sl ss p f x y a b c d k = some r ∧ srcB sn sl r.2.2.2.2.2 = true := by
    intro f
    induction f with
    | zero =>
      intro x y a b c d k h0 h1 h2
      omega
    | succ f ih =>
      intro x y a b c d k h0 h1 h2
      show ∃ r, B_s_l04DrawOf_0 sn sl ss p (L_s_l04DrawOf_0 1000000 sn sl ss p f) x y a b c d k = some r ∧ srcB sn sl r.2.2.2.2.2 = true
      unfold B_s_l04DrawOf_0
      by_cases hk : k < 6
      · rw [if_pos (decide_eq_true hk), if_pos hq]
        by_cases hz : (s_l01Area p ((s_l01DrawPoint sn sl ss p).1) (a, b) (c, d) == 0) = true
        · have s1 := post_s_l01DrawPoint sn sl (x, y) p h2
          have s2 := post_s_l01DrawPoint sn sl _ p s1
          rw [if_pos hz, if_pos (and_two h2 hq), if_pos (and_two s1 hq), wI_eq, show wrap64 (k + 1) = k + 1 by unfold wrap64; omega]
          exact ih _ _ _ _ _ _ _ (by omega) (by omega) s2
        · rw [if_neg hz]
          exact ⟨_, rfl, h2⟩
      · rw [if_neg (by simp [hk])]
        exact ⟨_, rfl, h2⟩
  have s0 := post_s_l01DrawPoint sn sl ss p hs
  have s1 := post_s_l01DrawPoint sn sl _ p s0
  have s2 := post_s_l01DrawPoint sn sl _ p s1
  unfold Fo_s_l04DrawOf G_s_l04DrawOf
  rw [if_pos hp, if_pos (and_two s0 hq), if_pos (and_two s1 hq)]
  exact key _ _ _ _ _ _ _ _ (by decide) (by decide) s2
theorem tot_s_l04DrawOf (sn : Nat) (sl : List Int) (ss : Int × Int) (p : Int) (hp : (srcB sn sl ss && prB p) = true) : Fo_s_l04DrawOf 1000000 sn sl ss p = some (s_l04DrawOf sn sl ss p) := by
  obtain ⟨r, e, _⟩ := s_l04DrawOf_ex sn sl ss p hp
  rw [s_l04DrawOf_eq]
  unfold s_l04DrawOf_d
  rw [e]
  rfl
def run_s_l04DrawOf : PRun
  | 104, [.s sn (.byts sl), .v (.int .i64 s_1), .v (.int .u64 s_2)], [.v (.int .i64 p)] => some (srcB sn sl (s_1, s_2) && prB p, enc_P104_a2_a2_a2 (s_l04DrawOf sn sl (s_1, s_2) p))
  | _, _, _ => none
theorem sound_s_l04DrawOf : SoundP Try.prog 142 run_s_l04DrawOf := by
  refine soundP_of de_P104_a2_a2_a2 SO_s_l04DrawOf (by kernel_rfl) Try.func142 Try.ntmps142 rfl (by kernel_rfl) ?_
  intro e bcs pvs rs bcs' hrun
  unfold run_s_l04DrawOf at hrun
  split at hrun
  · simp only [Option.some.injEq, Prod.mk.injEq] at hrun
    obtain ⟨hp, hrun⟩ := hrun
    rename_i sn sl s_1 s_2 p
    exact ⟨_, s_l04DrawOf sn sl (s_1, s_2) p, by first | exact hrun.symm | exact (Prod.ext hrun.1 hrun.2).symm, (eq_s_l04DrawOf _ sn sl (s_1, s_2) p).trans (tot_s_l04DrawOf sn sl (s_1, s_2) p hp)⟩
  · cases hrun

theorem post_s_l04DrawOf (sn : Nat) (sl : List Int) (ss : Int × Int) (p : Int) (hs : srcB sn sl ss = true) : srcB sn sl (s_l04DrawOf sn sl ss p).2.2.2.2.2 = true := by
  by_cases hq : prB p = true
  · obtain ⟨r, e, h⟩ := s_l04DrawOf_ex sn sl ss p (and_two hs hq)
    rw [s_l04DrawOf_eq]
    unfold s_l04DrawOf_d
    rw [e]
    exact h
  · have e : Fo_s_l04DrawOf 1000000 sn sl ss p = none := by
      unfold Fo_s_l04DrawOf G_s_l04DrawOf
      rw [if_neg (by simp [hq])]
    rw [s_l04DrawOf_eq]
    unfold s_l04DrawOf_d
    rw [e]
    exact hs
abbrev k126_0 (coden : Nat) (codel : List Int) : Int × Nat × List Int × Int × Int := (s_l01DrawField coden codel (s_l01From coden codel))
abbrev k126_1 (coden : Nat) (codel : List Int) : (Int × Int) × (Int × Int) × (Int × Int) × Nat × List Int × Int × Int := (s_l04DrawOf coden codel ((k126_0 coden codel).2.2.2) ((k126_0 coden codel).1))
abbrev k126_2 (coden : Nat) (codel : List Int) : Int × Nat × List Int × Int × Int := (s_l02DrawColour coden codel ((k126_1 coden codel).2.2.2.2.2))
abbrev k126_3 (coden : Nat) (codel : List Int) : Int × Nat × List Int × Int × Int := (s_l01Next coden codel ((k126_2 coden codel).2.2.2) 24)
abbrev k126_4 (coden : Nat) (codel : List Int) : Int × Int := (s_l01Middle ((k126_0 coden codel).1) ((k126_1 coden codel).1) ((k126_1 coden codel).2.1))
abbrev k126_5 (coden : Nat) (codel : List Int) : Int × Nat × List Int × Int × Int := (s_l01BadField coden codel ((k126_3 coden codel).2.2.2) ((k126_0 coden codel).1))
abbrev k126_6 (coden : Nat) (codel : List Int) : (Int × Int) × Nat × List Int × Int × Int := (s_l01BadPoint coden codel ((k126_5 coden codel).2.2.2) ((k126_0 coden codel).1) ((k126_1 coden codel).1))
abbrev k126_7 (coden : Nat) (codel : List Int) : (Int × Int) × Nat × List Int × Int × Int := (s_l01BadPoint coden codel ((k126_6 coden codel).2.2.2) ((k126_0 coden codel).1) ((k126_1 coden codel).2.1))
abbrev k126_8 (coden : Nat) (codel : List Int) : (Int × Int) × Nat × List Int × Int × Int := (s_l01BadPoint coden codel ((k126_7 coden codel).2.2.2) ((k126_0 coden codel).1) (k126_4 coden codel))
abbrev k126_9 (coden : Nat) (codel : List Int) : (Int × Int) × Nat × List Int × Int × Int := (s_l01BadPoint coden codel ((k126_7 coden codel).2.2.2) ((k126_0 coden codel).1) ((k126_1 coden codel).2.2.1))
def S_s_l04Draw : Sums := ⟨tblS [(131, run_s_l01Middle)], tblM [(42, .src run_s_l01From), (44, .box run_s_l01DrawField), (142, .box run_s_l04DrawOf), (106, .box run_s_l02DrawColour), (69, .box run_s_l01Next), (43, .box run_s_l01BadField), (108, .box run_s_l01BadPoint)]⟩
theorem SO_s_l04Draw : SumsOK Try.prog S_s_l04Draw := ⟨tblS_ok ⟨⟨Try.call131, sound_s_l01Middle⟩, True.intro⟩, tblM_ok ⟨⟨Try.call42, sound_s_l01From⟩, ⟨Try.call44, sound_s_l01DrawField⟩, ⟨Try.call142, sound_s_l04DrawOf⟩, ⟨Try.call106, sound_s_l02DrawColour⟩, ⟨Try.call69, sound_s_l01Next⟩, ⟨Try.call43, sound_s_l01BadField⟩, ⟨Try.call108, sound_s_l01BadPoint⟩, True.intro⟩⟩
def Fo_s_l04Draw (coden : Nat) (codel : List Int) : Option (Int × Int × (Int × Int) × (Int × Int) × Int × Int) :=
  (if (codeB coden codel) = true then (if (srcB coden codel (s_l01From coden codel)) = true then (if (srcB coden codel ((k126_0 coden codel).2.2.2) && prB ((k126_0 coden codel).1)) = true then (if (srcB coden codel ((k126_1 coden codel).2.2.2.2.2)) = true then (if (srcB coden codel ((k126_2 coden codel).2.2.2)) = true then (if (((k126_3 coden codel).1) == 0) = true then (if (prB ((k126_0 coden codel).1)) = true then (if (srcB coden codel ((k126_3 coden codel).2.2.2) && prB ((k126_0 coden codel).1)) = true then (if (srcB coden codel ((k126_5 coden codel).2.2.2) && prB ((k126_0 coden codel).1)) = true then (if (srcB coden codel ((k126_6 coden codel).2.2.2) && prB ((k126_0 coden codel).1)) = true then (if (srcB coden codel ((k126_7 coden codel).2.2.2) && prB ((k126_0 coden codel).1)) = true then some ((k126_5 coden codel).1, (k126_2 coden codel).1, ((k126_6 coden codel).1), ((k126_7 coden codel).1), ((k126_8 coden codel).1)) else none) else none) else none) else none) else none) else (if (srcB coden codel ((k126_3 coden codel).2.2.2) && prB ((k126_0 coden codel).1)) = true then (if (srcB coden codel ((k126_5 coden codel).2.2.2) && prB ((k126_0 coden codel).1)) = true then (if (srcB coden codel ((k126_6 coden codel).2.2.2) && prB ((k126_0 coden codel).1)) = true then (if (srcB coden codel ((k126_7 coden codel).2.2.2) && prB ((k126_0 coden codel).1)) = true then some ((k126_5 coden codel).1, (k126_2 coden codel).1, ((k126_6 coden codel).1), ((k126_7 coden codel).1), ((k126_9 coden codel).1)) else none) else none) else none) else none)) else none) else none) else none) else none) else none)
theorem eq_s_l04Draw (coden : Nat) (codel : List Int) : execT Try.prog S_s_l04Draw 126 49 (fun _ => 1000000) dec_i_i_a2_a2_a2 [.s coden (.byts codel)] = Fo_s_l04Draw coden codel := by
  kernel_rfl
def s_l04Draw_d (coden : Nat) (codel : List Int) : Int × Int × (Int × Int) × (Int × Int) × Int × Int :=
  (if (((k126_3 coden codel).1) == 0) = true then ((k126_5 coden codel).1, (k126_2 coden codel).1, ((k126_6 coden codel).1), ((k126_7 coden codel).1), ((k126_8 coden codel).1)) else ((k126_5 coden codel).1, (k126_2 coden codel).1, ((k126_6 coden codel).1), ((k126_7 coden codel).1), ((k126_9 coden codel).1)))
def s_l04Draw : (Nat) → (List Int) → (Int × Int × (Int × Int) × (Int × Int) × Int × Int) := shut s_l04Draw_d
theorem s_l04Draw_eq (coden : Nat) (codel : List Int) : s_l04Draw coden codel = s_l04Draw_d coden codel := by
  unfold s_l04Draw
  rw [shut_eq]
theorem tot_s_l04Draw (coden : Nat) (codel : List Int) (hp : (codeB coden codel) = true) : Fo_s_l04Draw coden codel = some (s_l04Draw coden codel) := by
  have hc := hp
  rw [s_l04Draw_eq]
  unfold Fo_s_l04Draw s_l04Draw_d
  (try simp only [wI_eq])
  repeat' (first | with_reducible rfl | refine chk_opt (by first | (with_reducible assumption) | ((repeat (with_reducible first | assumption | exact s_l01From_src hc | apply post_s_l01DrawField | apply post_s_l04DrawOf | apply post_s_l02DrawColour | apply post_s_l01Next | apply post_s_l01BadField | apply post_s_l01BadPoint)); done) | (with_reducible exact field_prB9 _ _ _ (by ((repeat (with_reducible first | assumption | exact s_l01From_src hc | apply post_s_l01DrawField | apply post_s_l04DrawOf | apply post_s_l02DrawColour | apply post_s_l01Next | apply post_s_l01BadField | apply post_s_l01BadPoint)); done))) | fail | exact pos_idx ‹_› | exact and_two (by ((repeat (with_reducible first | assumption | exact s_l01From_src hc | apply post_s_l01DrawField | apply post_s_l04DrawOf | apply post_s_l02DrawColour | apply post_s_l01Next | apply post_s_l01BadField | apply post_s_l01BadPoint)); done)) (by (first | (with_reducible assumption) | with_reducible exact field_prB9 _ _ _ (by ((repeat (with_reducible first | assumption | exact s_l01From_src hc | apply post_s_l01DrawField | apply post_s_l04DrawOf | apply post_s_l02DrawColour | apply post_s_l01Next | apply post_s_l01BadField | apply post_s_l01BadPoint)); done)) | fail | rfl)) | exact pos_cell ‹_› (by (first | exact flat2_len _ | exact flat3_len _)) | exact idx_ok (next_rng _ _ _ _ (by ((repeat (with_reducible first | assumption | exact s_l01From_src hc | apply post_s_l01DrawField | apply post_s_l04DrawOf | apply post_s_l02DrawColour | apply post_s_l01Next | apply post_s_l01BadField | apply post_s_l01BadPoint)); done)) (by decide)) | exact ble_ok (next_ble _ _ _ _ (by ((repeat (with_reducible first | assumption | exact s_l01From_src hc | apply post_s_l01DrawField | apply post_s_l04DrawOf | apply post_s_l02DrawColour | apply post_s_l01Next | apply post_s_l01BadField | apply post_s_l01BadPoint)); done)) (by decide) (by decide)) | exact ble_ok (next_ble0 _ _ _ _ (by ((repeat (with_reducible first | assumption | exact s_l01From_src hc | apply post_s_l01DrawField | apply post_s_l04DrawOf | apply post_s_l02DrawColour | apply post_s_l01Next | apply post_s_l01BadField | apply post_s_l01BadPoint)); done)) (by decide) (by decide)) | exact idx_ok (next_rng _ _ _ _ (by ((repeat (with_reducible first | assumption | exact s_l01From_src hc | apply post_s_l01DrawField | apply post_s_l04DrawOf | apply post_s_l02DrawColour | apply post_s_l01Next | apply post_s_l01BadField | apply post_s_l01BadPoint)); done)) (pos_one ‹_›)) | exact next_cell (by ((repeat (with_reducible first | assumption | exact s_l01From_src hc | apply post_s_l01DrawField | apply post_s_l04DrawOf | apply post_s_l02DrawColour | apply post_s_l01Next | apply post_s_l01BadField | apply post_s_l01BadPoint)); done)) ‹_› (by (first | exact flat2_len _ | exact flat3_len _))) ?_ | refine ite_opt (fun _ => ?_) (fun _ => ?_) | rfl)
def run_s_l04Draw : List PV → Option (Bool × List TR)
  | [.s coden (.byts codel)] => some (codeB coden codel, enc_i_i_a2_a2_a2 (s_l04Draw coden codel))
  | _ => none
theorem sound_s_l04Draw : Sound Try.prog 126 run_s_l04Draw := by
  refine sound_of de_i_i_a2_a2_a2 SO_s_l04Draw (by kernel_rfl) Try.func126 Try.ntmps126 rfl (by kernel_rfl) ?_
  intro W pvs avs rs hargs hrun
  unfold run_s_l04Draw at hrun
  split at hrun
  · simp only [Option.some.injEq, Prod.mk.injEq] at hrun
    obtain ⟨hp, rfl⟩ := hrun
    rename_i coden codel
    exact ⟨_, _, _, hargs, rfl, (eq_s_l04Draw coden codel).trans (tot_s_l04Draw coden codel hp)⟩
  · cases hrun

def S_s_DrawMedianOf : Sums := ⟨tblS [(126, run_s_l04Draw)], tblM []⟩
theorem SO_s_DrawMedianOf : SumsOK Try.prog S_s_DrawMedianOf := ⟨tblS_ok ⟨⟨Try.call126, sound_s_l04Draw⟩, True.intro⟩, tblM_ok True.intro⟩
def Fo_s_DrawMedianOf (coden : Nat) (codel : List Int) : Option (Int × (Int × Int) × (Int × Int) × Int × Int) :=
  (if (codeB coden codel) = true then some ((s_l04Draw coden codel).1, ((s_l04Draw coden codel).2.2.1), ((s_l04Draw coden codel).2.2.2.1), ((s_l04Draw coden codel).2.2.2.2)) else none)
theorem eq_s_DrawMedianOf (coden : Nat) (codel : List Int) : execT Try.prog S_s_DrawMedianOf 80 23 (fun _ => 1000000) dec_i_a2_a2_a2 [.s coden (.byts codel)] = Fo_s_DrawMedianOf coden codel := by
  kernel_rfl
def s_DrawMedianOf_d (coden : Nat) (codel : List Int) : Int × (Int × Int) × (Int × Int) × Int × Int :=
  ((s_l04Draw coden codel).1, ((s_l04Draw coden codel).2.2.1), ((s_l04Draw coden codel).2.2.2.1), ((s_l04Draw coden codel).2.2.2.2))
def s_DrawMedianOf : (Nat) → (List Int) → (Int × (Int × Int) × (Int × Int) × Int × Int) := shut s_DrawMedianOf_d
theorem s_DrawMedianOf_eq (coden : Nat) (codel : List Int) : s_DrawMedianOf coden codel = s_DrawMedianOf_d coden codel := by
  unfold s_DrawMedianOf
  rw [shut_eq]
theorem tot_s_DrawMedianOf (coden : Nat) (codel : List Int) (hp : (codeB coden codel) = true) : Fo_s_DrawMedianOf coden codel = some (s_DrawMedianOf coden codel) := by
  have hc := hp
  rw [s_DrawMedianOf_eq]
  unfold Fo_s_DrawMedianOf s_DrawMedianOf_d
  (try simp only [wI_eq])
  repeat' (first | with_reducible rfl | refine chk_opt (by first | (with_reducible assumption) | ((repeat (with_reducible first | assumption)); done) | (with_reducible exact field_prB9 _ _ _ (by ((repeat (with_reducible first | assumption)); done))) | fail | exact pos_idx ‹_› | exact and_two (by ((repeat (with_reducible first | assumption)); done)) (by (first | (with_reducible assumption) | with_reducible exact field_prB9 _ _ _ (by ((repeat (with_reducible first | assumption)); done)) | fail | rfl)) | exact pos_cell ‹_› (by (first | exact flat2_len _ | exact flat3_len _)) | exact idx_ok (next_rng _ _ _ _ (by ((repeat (with_reducible first | assumption)); done)) (by decide)) | exact ble_ok (next_ble _ _ _ _ (by ((repeat (with_reducible first | assumption)); done)) (by decide) (by decide)) | exact ble_ok (next_ble0 _ _ _ _ (by ((repeat (with_reducible first | assumption)); done)) (by decide) (by decide)) | exact idx_ok (next_rng _ _ _ _ (by ((repeat (with_reducible first | assumption)); done)) (pos_one ‹_›)) | exact next_cell (by ((repeat (with_reducible first | assumption)); done)) ‹_› (by (first | exact flat2_len _ | exact flat3_len _))) ?_ | refine ite_opt (fun _ => ?_) (fun _ => ?_) | rfl)
def run_s_DrawMedianOf : List PV → Option (Bool × List TR)
  | [.s coden (.byts codel)] => some (codeB coden codel, enc_i_a2_a2_a2 (s_DrawMedianOf coden codel))
  | _ => none
theorem sound_s_DrawMedianOf : Sound Try.prog 80 run_s_DrawMedianOf := by
  refine sound_of de_i_a2_a2_a2 SO_s_DrawMedianOf (by kernel_rfl) Try.func80 Try.ntmps80 rfl (by kernel_rfl) ?_
  intro W pvs avs rs hargs hrun
  unfold run_s_DrawMedianOf at hrun
  split at hrun
  · simp only [Option.some.injEq, Prod.mk.injEq] at hrun
    obtain ⟨hp, rfl⟩ := hrun
    rename_i coden codel
    exact ⟨_, _, _, hargs, rfl, (eq_s_DrawMedianOf coden codel).trans (tot_s_DrawMedianOf coden codel hp)⟩
  · cases hrun

def S_s_DrawOmegaPoints : Sums := ⟨tblS [(80, run_s_DrawMedianOf)], tblM []⟩
theorem SO_s_DrawOmegaPoints : SumsOK Try.prog S_s_DrawOmegaPoints := ⟨tblS_ok ⟨⟨Try.call80, sound_s_DrawMedianOf⟩, True.intro⟩, tblM_ok True.intro⟩
def Fo_s_DrawOmegaPoints (coden : Nat) (codel : List Int) : Option (Int × (Int × Int) × (Int × Int) × Int × Int) :=
  (if (codeB coden codel) = true then some ((s_DrawMedianOf coden codel).1, ((s_DrawMedianOf coden codel).2.1), ((s_DrawMedianOf coden codel).2.2.1), ((s_DrawMedianOf coden codel).2.2.2)) else none)
theorem eq_s_DrawOmegaPoints (coden : Nat) (codel : List Int) : execT Try.prog S_s_DrawOmegaPoints 26 12 (fun _ => 1000000) dec_i_a2_a2_a2 [.s coden (.byts codel)] = Fo_s_DrawOmegaPoints coden codel := by
  kernel_rfl
def s_DrawOmegaPoints_d (coden : Nat) (codel : List Int) : Int × (Int × Int) × (Int × Int) × Int × Int :=
  ((s_DrawMedianOf coden codel).1, ((s_DrawMedianOf coden codel).2.1), ((s_DrawMedianOf coden codel).2.2.1), ((s_DrawMedianOf coden codel).2.2.2))
def s_DrawOmegaPoints : (Nat) → (List Int) → (Int × (Int × Int) × (Int × Int) × Int × Int) := shut s_DrawOmegaPoints_d
theorem s_DrawOmegaPoints_eq (coden : Nat) (codel : List Int) : s_DrawOmegaPoints coden codel = s_DrawOmegaPoints_d coden codel := by
  unfold s_DrawOmegaPoints
  rw [shut_eq]
theorem tot_s_DrawOmegaPoints (coden : Nat) (codel : List Int) (hp : (codeB coden codel) = true) : Fo_s_DrawOmegaPoints coden codel = some (s_DrawOmegaPoints coden codel) := by
  have hc := hp
  rw [s_DrawOmegaPoints_eq]
  unfold Fo_s_DrawOmegaPoints s_DrawOmegaPoints_d
  (try simp only [wI_eq])
  repeat' (first | with_reducible rfl | refine chk_opt (by first | (with_reducible assumption) | ((repeat (with_reducible first | assumption)); done) | (with_reducible exact field_prB9 _ _ _ (by ((repeat (with_reducible first | assumption)); done))) | fail | exact pos_idx ‹_› | exact and_two (by ((repeat (with_reducible first | assumption)); done)) (by (first | (with_reducible assumption) | with_reducible exact field_prB9 _ _ _ (by ((repeat (with_reducible first | assumption)); done)) | fail | rfl)) | exact pos_cell ‹_› (by (first | exact flat2_len _ | exact flat3_len _)) | exact idx_ok (next_rng _ _ _ _ (by ((repeat (with_reducible first | assumption)); done)) (by decide)) | exact ble_ok (next_ble _ _ _ _ (by ((repeat (with_reducible first | assumption)); done)) (by decide) (by decide)) | exact ble_ok (next_ble0 _ _ _ _ (by ((repeat (with_reducible first | assumption)); done)) (by decide) (by decide)) | exact idx_ok (next_rng _ _ _ _ (by ((repeat (with_reducible first | assumption)); done)) (pos_one ‹_›)) | exact next_cell (by ((repeat (with_reducible first | assumption)); done)) ‹_› (by (first | exact flat2_len _ | exact flat3_len _))) ?_ | refine ite_opt (fun _ => ?_) (fun _ => ?_) | rfl)
def run_s_DrawOmegaPoints : List PV → Option (Bool × List TR)
  | [.s coden (.byts codel)] => some (codeB coden codel, enc_i_a2_a2_a2 (s_DrawOmegaPoints coden codel))
  | _ => none
theorem sound_s_DrawOmegaPoints : Sound Try.prog 26 run_s_DrawOmegaPoints := by
  refine sound_of de_i_a2_a2_a2 SO_s_DrawOmegaPoints (by kernel_rfl) Try.func26 Try.ntmps26 rfl (by kernel_rfl) ?_
  intro W pvs avs rs hargs hrun
  unfold run_s_DrawOmegaPoints at hrun
  split at hrun
  · simp only [Option.some.injEq, Prod.mk.injEq] at hrun
    obtain ⟨hp, rfl⟩ := hrun
    rename_i coden codel
    exact ⟨_, _, _, hargs, rfl, (eq_s_DrawOmegaPoints coden codel).trans (tot_s_DrawOmegaPoints coden codel hp)⟩
  · cases hrun

abbrev k92_0 (coden : Nat) (codel : List Int) : Int × Nat × List Int × Int × Int := (s_l01DrawField coden codel (s_l01From coden codel))
abbrev k92_1 (coden : Nat) (codel : List Int) : (Int × Int) × Nat × List Int × Int × Int := (s_l01DrawPoint coden codel ((k92_0 coden codel).2.2.2) ((k92_0 coden codel).1))
abbrev k92_2 (coden : Nat) (codel : List Int) : (Int × Int) × Nat × List Int × Int × Int := (s_l01DrawPoint coden codel ((k92_1 coden codel).2.2.2) ((k92_0 coden codel).1))
abbrev k92_3 (coden : Nat) (codel : List Int) : Int × Nat × List Int × Int × Int := (s_l02DrawColour coden codel ((k92_2 coden codel).2.2.2))
abbrev k92_4 (coden : Nat) (codel : List Int) : Int × Nat × List Int × Int × Int := (s_l01BadField coden codel ((k92_3 coden codel).2.2.2) ((k92_0 coden codel).1))
abbrev k92_5 (coden : Nat) (codel : List Int) : (Int × Int) × Nat × List Int × Int × Int := (s_l01BadPoint coden codel ((k92_4 coden codel).2.2.2) ((k92_0 coden codel).1) ((k92_1 coden codel).1))
abbrev k92_6 (coden : Nat) (codel : List Int) : (Int × Int) × Nat × List Int × Int × Int := (s_l01BadPoint coden codel ((k92_5 coden codel).2.2.2) ((k92_0 coden codel).1) ((k92_2 coden codel).1))
def S_s_l02Two : Sums := ⟨tblS [], tblM [(42, .src run_s_l01From), (44, .box run_s_l01DrawField), (104, .box run_s_l01DrawPoint), (106, .box run_s_l02DrawColour), (43, .box run_s_l01BadField), (108, .box run_s_l01BadPoint)]⟩
theorem SO_s_l02Two : SumsOK Try.prog S_s_l02Two := ⟨tblS_ok True.intro, tblM_ok ⟨⟨Try.call42, sound_s_l01From⟩, ⟨Try.call44, sound_s_l01DrawField⟩, ⟨Try.call104, sound_s_l01DrawPoint⟩, ⟨Try.call106, sound_s_l02DrawColour⟩, ⟨Try.call43, sound_s_l01BadField⟩, ⟨Try.call108, sound_s_l01BadPoint⟩, True.intro⟩⟩
def Fo_s_l02Two (coden : Nat) (codel : List Int) : Option (Int × Int × (Int × Int) × Int × Int) :=
  (if (codeB coden codel) = true then (if (srcB coden codel (s_l01From coden codel)) = true then (if (srcB coden codel ((k92_0 coden codel).2.2.2) && prB ((k92_0 coden codel).1)) = true then (if (srcB coden codel ((k92_1 coden codel).2.2.2) && prB ((k92_0 coden codel).1)) = true then (if (srcB coden codel ((k92_2 coden codel).2.2.2)) = true then (if (srcB coden codel ((k92_3 coden codel).2.2.2) && prB ((k92_0 coden codel).1)) = true then (if (srcB coden codel ((k92_4 coden codel).2.2.2) && prB ((k92_0 coden codel).1)) = true then (if (srcB coden codel ((k92_5 coden codel).2.2.2) && prB ((k92_0 coden codel).1)) = true then some ((k92_4 coden codel).1, (k92_3 coden codel).1, ((k92_5 coden codel).1), ((k92_6 coden codel).1)) else none) else none) else none) else none) else none) else none) else none) else none)
theorem eq_s_l02Two (coden : Nat) (codel : List Int) : execT Try.prog S_s_l02Two 92 35 (fun _ => 1000000) dec_i_i_a2_a2 [.s coden (.byts codel)] = Fo_s_l02Two coden codel := by
  kernel_rfl
def s_l02Two_d (coden : Nat) (codel : List Int) : Int × Int × (Int × Int) × Int × Int :=
  ((k92_4 coden codel).1, (k92_3 coden codel).1, ((k92_5 coden codel).1), ((k92_6 coden codel).1))
def s_l02Two : (Nat) → (List Int) → (Int × Int × (Int × Int) × Int × Int) := shut s_l02Two_d
theorem s_l02Two_eq (coden : Nat) (codel : List Int) : s_l02Two coden codel = s_l02Two_d coden codel := by
  unfold s_l02Two
  rw [shut_eq]
theorem tot_s_l02Two (coden : Nat) (codel : List Int) (hp : (codeB coden codel) = true) : Fo_s_l02Two coden codel = some (s_l02Two coden codel) := by
  have hc := hp
  rw [s_l02Two_eq]
  unfold Fo_s_l02Two s_l02Two_d
  (try simp only [wI_eq])
  repeat' (first | with_reducible rfl | refine chk_opt (by first | (with_reducible assumption) | ((repeat (with_reducible first | assumption | exact s_l01From_src hc | apply post_s_l01DrawField | apply post_s_l01DrawPoint | apply post_s_l02DrawColour | apply post_s_l01BadField | apply post_s_l01BadPoint)); done) | (with_reducible exact field_prB9 _ _ _ (by ((repeat (with_reducible first | assumption | exact s_l01From_src hc | apply post_s_l01DrawField | apply post_s_l01DrawPoint | apply post_s_l02DrawColour | apply post_s_l01BadField | apply post_s_l01BadPoint)); done))) | fail | exact pos_idx ‹_› | exact and_two (by ((repeat (with_reducible first | assumption | exact s_l01From_src hc | apply post_s_l01DrawField | apply post_s_l01DrawPoint | apply post_s_l02DrawColour | apply post_s_l01BadField | apply post_s_l01BadPoint)); done)) (by (first | (with_reducible assumption) | with_reducible exact field_prB9 _ _ _ (by ((repeat (with_reducible first | assumption | exact s_l01From_src hc | apply post_s_l01DrawField | apply post_s_l01DrawPoint | apply post_s_l02DrawColour | apply post_s_l01BadField | apply post_s_l01BadPoint)); done)) | fail | rfl)) | exact pos_cell ‹_› (by (first | exact flat2_len _ | exact flat3_len _)) | exact idx_ok (next_rng _ _ _ _ (by ((repeat (with_reducible first | assumption | exact s_l01From_src hc | apply post_s_l01DrawField | apply post_s_l01DrawPoint | apply post_s_l02DrawColour | apply post_s_l01BadField | apply post_s_l01BadPoint)); done)) (by decide)) | exact ble_ok (next_ble _ _ _ _ (by ((repeat (with_reducible first | assumption | exact s_l01From_src hc | apply post_s_l01DrawField | apply post_s_l01DrawPoint | apply post_s_l02DrawColour | apply post_s_l01BadField | apply post_s_l01BadPoint)); done)) (by decide) (by decide)) | exact ble_ok (next_ble0 _ _ _ _ (by ((repeat (with_reducible first | assumption | exact s_l01From_src hc | apply post_s_l01DrawField | apply post_s_l01DrawPoint | apply post_s_l02DrawColour | apply post_s_l01BadField | apply post_s_l01BadPoint)); done)) (by decide) (by decide)) | exact idx_ok (next_rng _ _ _ _ (by ((repeat (with_reducible first | assumption | exact s_l01From_src hc | apply post_s_l01DrawField | apply post_s_l01DrawPoint | apply post_s_l02DrawColour | apply post_s_l01BadField | apply post_s_l01BadPoint)); done)) (pos_one ‹_›)) | exact next_cell (by ((repeat (with_reducible first | assumption | exact s_l01From_src hc | apply post_s_l01DrawField | apply post_s_l01DrawPoint | apply post_s_l02DrawColour | apply post_s_l01BadField | apply post_s_l01BadPoint)); done)) ‹_› (by (first | exact flat2_len _ | exact flat3_len _))) ?_ | refine ite_opt (fun _ => ?_) (fun _ => ?_) | rfl)
def run_s_l02Two : List PV → Option (Bool × List TR)
  | [.s coden (.byts codel)] => some (codeB coden codel, enc_i_i_a2_a2 (s_l02Two coden codel))
  | _ => none
theorem sound_s_l02Two : Sound Try.prog 92 run_s_l02Two := by
  refine sound_of de_i_i_a2_a2 SO_s_l02Two (by kernel_rfl) Try.func92 Try.ntmps92 rfl (by kernel_rfl) ?_
  intro W pvs avs rs hargs hrun
  unfold run_s_l02Two at hrun
  split at hrun
  · simp only [Option.some.injEq, Prod.mk.injEq] at hrun
    obtain ⟨hp, rfl⟩ := hrun
    rename_i coden codel
    exact ⟨_, _, _, hargs, rfl, (eq_s_l02Two coden codel).trans (tot_s_l02Two coden codel hp)⟩
  · cases hrun

def S_s_DrawThreeQuadrances : Sums := ⟨tblS [(92, run_s_l02Two)], tblM []⟩
theorem SO_s_DrawThreeQuadrances : SumsOK Try.prog S_s_DrawThreeQuadrances := ⟨tblS_ok ⟨⟨Try.call92, sound_s_l02Two⟩, True.intro⟩, tblM_ok True.intro⟩
def Fo_s_DrawThreeQuadrances (coden : Nat) (codel : List Int) : Option (Int × (Int × Int) × Int × Int) :=
  (if (codeB coden codel) = true then some ((s_l02Two coden codel).1, ((s_l02Two coden codel).2.2.1), ((s_l02Two coden codel).2.2.2)) else none)
theorem eq_s_DrawThreeQuadrances (coden : Nat) (codel : List Int) : execT Try.prog S_s_DrawThreeQuadrances 36 19 (fun _ => 1000000) dec_i_a2_a2 [.s coden (.byts codel)] = Fo_s_DrawThreeQuadrances coden codel := by
  kernel_rfl
def s_DrawThreeQuadrances_d (coden : Nat) (codel : List Int) : Int × (Int × Int) × Int × Int :=
  ((s_l02Two coden codel).1, ((s_l02Two coden codel).2.2.1), ((s_l02Two coden codel).2.2.2))
def s_DrawThreeQuadrances : (Nat) → (List Int) → (Int × (Int × Int) × Int × Int) := shut s_DrawThreeQuadrances_d
theorem s_DrawThreeQuadrances_eq (coden : Nat) (codel : List Int) : s_DrawThreeQuadrances coden codel = s_DrawThreeQuadrances_d coden codel := by
  unfold s_DrawThreeQuadrances
  rw [shut_eq]
theorem tot_s_DrawThreeQuadrances (coden : Nat) (codel : List Int) (hp : (codeB coden codel) = true) : Fo_s_DrawThreeQuadrances coden codel = some (s_DrawThreeQuadrances coden codel) := by
  have hc := hp
  rw [s_DrawThreeQuadrances_eq]
  unfold Fo_s_DrawThreeQuadrances s_DrawThreeQuadrances_d
  (try simp only [wI_eq])
  repeat' (first | with_reducible rfl | refine chk_opt (by first | (with_reducible assumption) | ((repeat (with_reducible first | assumption)); done) | (with_reducible exact field_prB9 _ _ _ (by ((repeat (with_reducible first | assumption)); done))) | fail | exact pos_idx ‹_› | exact and_two (by ((repeat (with_reducible first | assumption)); done)) (by (first | (with_reducible assumption) | with_reducible exact field_prB9 _ _ _ (by ((repeat (with_reducible first | assumption)); done)) | fail | rfl)) | exact pos_cell ‹_› (by (first | exact flat2_len _ | exact flat3_len _)) | exact idx_ok (next_rng _ _ _ _ (by ((repeat (with_reducible first | assumption)); done)) (by decide)) | exact ble_ok (next_ble _ _ _ _ (by ((repeat (with_reducible first | assumption)); done)) (by decide) (by decide)) | exact ble_ok (next_ble0 _ _ _ _ (by ((repeat (with_reducible first | assumption)); done)) (by decide) (by decide)) | exact idx_ok (next_rng _ _ _ _ (by ((repeat (with_reducible first | assumption)); done)) (pos_one ‹_›)) | exact next_cell (by ((repeat (with_reducible first | assumption)); done)) ‹_› (by (first | exact flat2_len _ | exact flat3_len _))) ?_ | refine ite_opt (fun _ => ?_) (fun _ => ?_) | rfl)
def run_s_DrawThreeQuadrances : List PV → Option (Bool × List TR)
  | [.s coden (.byts codel)] => some (codeB coden codel, enc_i_a2_a2 (s_DrawThreeQuadrances coden codel))
  | _ => none
theorem sound_s_DrawThreeQuadrances : Sound Try.prog 36 run_s_DrawThreeQuadrances := by
  refine sound_of de_i_a2_a2 SO_s_DrawThreeQuadrances (by kernel_rfl) Try.func36 Try.ntmps36 rfl (by kernel_rfl) ?_
  intro W pvs avs rs hargs hrun
  unfold run_s_DrawThreeQuadrances at hrun
  split at hrun
  · simp only [Option.some.injEq, Prod.mk.injEq] at hrun
    obtain ⟨hp, rfl⟩ := hrun
    rename_i coden codel
    exact ⟨_, _, _, hargs, rfl, (eq_s_DrawThreeQuadrances coden codel).trans (tot_s_DrawThreeQuadrances coden codel hp)⟩
  · cases hrun


end

end Go.Proofs.Ytpopgdmnajngjaa
