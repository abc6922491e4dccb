import Derived.Test.YtnijajjdldijpaaQs
import Derived.Test.YtnijajjdldijpaaQm
import Derived.Test.YtnijajjdldijpaaQn
import Derived.Test.YtnijajjdldijpaaProg
set_option linter.unusedSimpArgs false
set_option linter.unusedVariables false
namespace Go.Proofs.Ytnijajjdldijpaa
open Go.RowKit
noncomputable section
def S_l_big : Sums := ⟨tblS [], tblM []⟩
theorem SO_l_big : SumsOK Try.prog S_l_big := ⟨tblS_ok True.intro, tblM_ok True.intro⟩
def Fo_l_big (coden : Nat) (codel : List Int) : Option (Bool) :=
  some (decide (((coden : Nat) : Int) > 4096))
theorem eq_l_big (coden : Nat) (codel : List Int) : execT Try.prog S_l_big 5 6 (fun _ => 1000000) dec_b [.s coden (.byts codel)] = Fo_l_big coden codel := by
  kernel_rfl
def l_big (coden : Nat) (codel : List Int) : Bool :=
  decide (((coden : Nat) : Int) > 4096)
theorem tot_l_big (coden : Nat) (codel : List Int) : Fo_l_big coden codel = some (l_big coden codel) := by
  unfold Fo_l_big l_big
  (try simp only [wI_eq])
  repeat' (first | with_reducible rfl | refine ite_opt (fun _ => ?_) (fun _ => ?_) | rfl)
def run_l_big : List PV → Option (Bool × List TR)
  | [.s coden (.byts codel)] => some (true, enc_b (l_big coden codel))
  | _ => none
theorem sound_l_big : Sound Try.prog 5 run_l_big := by
  refine sound_of de_b SO_l_big (by kernel_rfl) Try.func5 Try.ntmps5 rfl (by kernel_rfl) ?_
  intro W pvs avs rs hargs hrun
  unfold run_l_big at hrun
  split at hrun
  · simp only [Option.some.injEq, Prod.mk.injEq] at hrun
    obtain ⟨hp, rfl⟩ := hrun
    rename_i coden codel
    exact ⟨_, _, _, hargs, rfl, (eq_l_big coden codel).trans (tot_l_big coden codel)⟩
  · cases hrun

def dec_B86 : TypeId × List Value → Option (Int × Int)
  | (86, [.int .i64 c0, .int .u64 c1]) => some (c0, c1)
  | _ => none
def enc_B86 : Int × Int → TypeId × List Value
  | (c0, c1) => (86, [.int .i64 c0, .int .u64 c1])
theorem de_B86 (rs : TypeId × List Value) (x : Int × Int) (h : dec_B86 rs = some x) : rs = enc_B86 x := by
  unfold dec_B86 at h
  split at h
  · simp only [Option.some.injEq] at h
    subst h
    rfl
  · cases h
def S_s_l01From : Sums := ⟨tblS [], tblM []⟩
theorem SO_s_l01From : SumsOK Try.prog S_s_l01From := ⟨tblS_ok True.intro, tblM_ok True.intro⟩
def T_s_l01From_0 (coden : Nat) (codel : List Int) (v44_2 : Int) (i : Int) : Tab := ⟨[.row 1, .junk, .val (.pointer none), .ptr 44 0, .val (.int .i64 i), .row 1, .row 1, .val (.int .i64 ((coden : Nat) : Int)), .val (.int .u64 (IntKind.u64.wrap (((coden : Nat) : Int)))), .val (.int .u64 (IntKind.u64.wrap (13701 + (IntKind.u64.wrap (((coden : Nat) : Int)))))), .junk, .ptr 44 0, .junk, .junk, .junk, .junk, .junk, .junk, .junk, .junk, .junk, .junk, .junk, .junk, .junk, .junk, .junk, .junk, .junk, .junk, .junk, .junk, .junk, .junk, .junk, .junk, .junk, .junk], [(0, .ros 0 (.ints [])), (1, .ros coden (.byts codel)), (44, .box 86 [.row 1, .val (.int .i64 0), .val (.int .u64 v44_2)])]⟩
def X_s_l01From_0 (P : Program) (fu : Nat) (coden : Nat) (codel : List Int) (f : Nat) (v44_2 : Int) (i : Int) : Option (Int × Int) := loopK (exec P S_s_l01From 38 (fun _ => fu + 100) (Code.sub [1, 1, 0, 1, 0, 0] (bodyF P 63))) f (T_s_l01From_0 coden codel v44_2 i) (kBlock 0 (kSeq (fun s => exec P S_s_l01From 38 (fun _ => fu + 100) (Code.sub [1, 1, 1] (bodyF P 63)) s (finB P 63 dec_B86)) (finB P 63 dec_B86)))
def B_s_l01From_0 (coden : Nat) (codel : List Int) (rec0 : Int → Int → Option (Int × Int)) (v44_2 : Int) (i : Int) : Option (Int × Int) :=
  (if (decide (i < ((coden : Nat) : Int))) = true then (if (decide (i < 4096)) = true then (if (decide (0 ≤ i) && decide (i < ((coden : Nat) : Int))) = true then (if (Nat.ble (i.toNat * 1 + 1) codel.length) = true then rec0 (IntKind.u64.wrap ((IntKind.u64.wrap ((IntKind.u64.wrap (v44_2 * 1099511628211)) + (IntKind.u64.wrap (codel.getD (i.toNat * 1) 0)))) + 199)) (wI (i + 1)) else none) else none) else some (0, v44_2)) else some (0, v44_2))
def L_s_l01From_0 (fu : Nat) (coden : Nat) (codel : List Int) : Nat → Int → Int → Option (Int × Int)
  | 0, _, _ => none
  | f + 1, v44_2, i => B_s_l01From_0 coden codel (L_s_l01From_0 fu coden codel f) v44_2 i
theorem loop_s_l01From_0 (fu : Nat) (coden : Nat) (codel : List Int) : ∀ (f : Nat) (v44_2 : Int) (i : Int), X_s_l01From_0 Try.prog fu coden codel f v44_2 i = L_s_l01From_0 fu coden codel f v44_2 i := by
  intro f
  induction f with
  | zero => intros; rfl
  | succ f ih =>
    intro v44_2 i
    have h1 : X_s_l01From_0 Try.prog fu coden codel (f + 1) v44_2 i = B_s_l01From_0 coden codel (X_s_l01From_0 Try.prog fu coden codel f) v44_2 i := by kernel_rfl
    have h2 : X_s_l01From_0 Try.prog fu coden codel f = L_s_l01From_0 fu coden codel f := by funext v44_2 i; exact ih v44_2 i
    rw [h1, h2]
    rfl
def G_s_l01From (coden : Nat) (codel : List Int) (lo0 : Int → Int → Option (Int × Int)) : Option (Int × Int) :=
  lo0 (IntKind.u64.wrap (13701 + (IntKind.u64.wrap (((coden : Nat) : Int))))) 0
def Fo_s_l01From (fu : Nat) (coden : Nat) (codel : List Int) : Option (Int × Int) := G_s_l01From coden codel (L_s_l01From_0 fu coden codel (fu + 100))
theorem eqg_s_l01From (fu : Nat) (coden : Nat) (codel : List Int) : execB Try.prog S_s_l01From 63 38 (fun _ => fu + 100) dec_B86 coden (.byts codel) = G_s_l01From coden codel (L_s_l01From_0 fu coden codel (fu + 100)) := by
  have h1 : execB Try.prog S_s_l01From 63 38 (fun _ => fu + 100) dec_B86 coden (.byts codel) = G_s_l01From coden codel (X_s_l01From_0 Try.prog fu coden codel (fu + 100)) := by kernel_rfl
  have c0 : X_s_l01From_0 Try.prog fu coden codel (fu + 100) = L_s_l01From_0 fu coden codel (fu + 100) := by funext v44_2 i; exact loop_s_l01From_0 fu coden codel (fu + 100) v44_2 i
  rw [h1, c0]
theorem eq_s_l01From (fu : Nat) (coden : Nat) (codel : List Int) : execB Try.prog S_s_l01From 63 38 (fun _ => fu + 100) dec_B86 coden (.byts codel) = Fo_s_l01From fu coden codel := eqg_s_l01From fu coden codel
theorem from_go (fu n : Nat) (l : List Int) (hc : codeB n l = true) : ∀ (f : Nat) (v i : Int), 0 ≤ i → i ≤ 4096 → 4096 - i < f → ∃ h, L_s_l01From_0 fu n l f v i = some (0, h)
  | 0, v, i, _, h1, h2 => by omega
  | f + 1, v, i, h0, h1, h2 => by
    rw [show L_s_l01From_0 fu n l (f + 1) v i = B_s_l01From_0 n l (L_s_l01From_0 fu n l f) v i from rfl]
    unfold B_s_l01From_0
    by_cases hn : i < (n : Int)
    · by_cases hk : i < 4096
      · rw [if_pos (decide_eq_true hn), if_pos (decide_eq_true hk), if_pos (idx_ok ⟨h0, hn⟩), if_pos (ble_ok (by obtain ⟨e, _⟩ := codeB_ok hc; omega)), wI_eq, show wrap64 (i + 1) = i + 1 by unfold wrap64; omega]
        exact from_go fu n l hc f _ _ (by omega) (by omega) (by omega)
      · rw [if_pos (decide_eq_true hn), if_neg (by simp [hk])]
        exact ⟨_, rfl⟩
    · rw [if_neg (by simp [hn])]
      exact ⟨_, rfl⟩
theorem from_some {n : Nat} {l : List Int} (hc : codeB n l = true) : ∃ h, Fo_s_l01From 1000000 n l = some (0, h) := by
  unfold Fo_s_l01From G_s_l01From
  exact from_go _ n l hc _ _ _ (by decide) (by decide) (by decide)
def s_l01From (coden : Nat) (codel : List Int) : Int × Int := (Fo_s_l01From 1000000 coden codel).getD (0, 0)
theorem tot_s_l01From (coden : Nat) (codel : List Int) (hp : (codeB coden codel) = true) : Fo_s_l01From 1000000 coden codel = some (s_l01From coden codel) := by
  obtain ⟨h, e⟩ := from_some hp
  unfold s_l01From
  rw [e]
  rfl
def run_s_l01From : BRun
  | [.s coden (.byts codel)] => some (codeB coden codel, enc_B86 (s_l01From coden codel))
  | _ => none
theorem sound_s_l01From : SoundB Try.prog 63 run_s_l01From := by
  refine soundB_of de_B86 SO_s_l01From (by kernel_rfl) Try.func63 Try.ntmps63 rfl (by kernel_rfl) ?_
  intro m c e vals hrun
  unfold run_s_l01From at hrun
  split at hrun
  · rename_i heq
    simp only [List.cons.injEq, PV.s.injEq, and_true] at heq
    obtain ⟨rfl, rfl⟩ := heq
    simp only [Option.some.injEq, Prod.mk.injEq] at hrun
    obtain ⟨hp, hrun⟩ := hrun
    exact ⟨_, s_l01From _ _, by first | exact hrun.symm | exact (Prod.ext hrun.1 hrun.2).symm, (eq_s_l01From _ _ _).trans (tot_s_l01From _ _ hp)⟩
  · cases hrun

theorem s_l01From_src {n : Nat} {l : List Int} (hc : codeB n l = true) : srcB n l (s_l01From n l) = true := by
  obtain ⟨h, e⟩ := from_some hc
  refine srcB_mk hc ?_
  unfold s_l01From
  rw [e]
  exact Int.le_refl 0
abbrev k64_0 (sn : Nat) (sl : List Int) (ss : Int × Int) (p : Int) : Int × Nat × List Int × Int × Int := (s_l01Pick sn sl ((s_l01Next sn sl ss 40).2.2.2) 8 [2, 1, 0, (-3), 9, 15, 37, 1099511627776])
def S_s_l01BadField : Sums := ⟨tblS [], tblM [(91, .box run_s_l01Next), (73, .box run_s_l01Pick)]⟩
theorem SO_s_l01BadField : SumsOK Try.prog S_s_l01BadField := ⟨tblS_ok True.intro, tblM_ok ⟨⟨Try.call91, sound_s_l01Next⟩, ⟨Try.call73, sound_s_l01Pick⟩, True.intro⟩⟩
def Fo_s_l01BadField (sn : Nat) (sl : List Int) (ss : Int × Int) (p : Int) : Option (Int × Nat × List Int × Int × Int) :=
  (if (srcB sn sl ss) = true then (if (((s_l01Next sn sl ss 40).1) == 0) = true then (if (srcB sn sl ((s_l01Next sn sl ss 40).2.2.2) && (lenB 8 1 ([2, 1, 0, (-3), 9, 15, 37, 1099511627776]) && Nat.blt 0 8)) = true then some ((k64_0 sn sl ss p).1, sn, sl, (k64_0 sn sl ss p).2.2.2) else none) else some (p, sn, sl, (s_l01Next sn sl ss 40).2.2.2)) else none)
theorem eq_s_l01BadField (sn : Nat) (sl : List Int) (ss : Int × Int) (p : Int) : execP Try.prog S_s_l01BadField 64 12 (fun _ => 1000000) dec_P86_i 86 [.s sn (.byts sl), .v (.int .i64 ss.1), .v (.int .u64 ss.2)] [.v (.int .i64 p)] = Fo_s_l01BadField sn sl ss p := by
  kernel_rfl
def s_l01BadField_d (sn : Nat) (sl : List Int) (ss : Int × Int) (p : Int) : Int × Nat × List Int × Int × Int :=
  (if (((s_l01Next sn sl ss 40).1) == 0) = true then ((k64_0 sn sl ss p).1, sn, sl, (k64_0 sn sl ss p).2.2.2) else (p, sn, sl, (s_l01Next sn sl ss 40).2.2.2))
def s_l01BadField : (Nat) → (List Int) → (Int × Int) → (Int) → (Int × Nat × List Int × Int × Int) := shut s_l01BadField_d
theorem s_l01BadField_eq (sn : Nat) (sl : List Int) (ss : Int × Int) (p : Int) : s_l01BadField sn sl ss p = s_l01BadField_d sn sl ss p := by
  unfold s_l01BadField
  rw [shut_eq]
theorem tot_s_l01BadField (sn : Nat) (sl : List Int) (ss : Int × Int) (p : Int) (hp : (srcB sn sl ss && prB p) = true) : Fo_s_l01BadField sn sl ss p = some (s_l01BadField sn sl ss p) := by
  have hs := and_l hp
  have hc := (srcB_ok hs).1
  have hq := and_r hp
  have h0 := prB_ne hq
  rw [s_l01BadField_eq]
  unfold Fo_s_l01BadField s_l01BadField_d
  (try simp only [wI_eq])
  repeat' (first | with_reducible rfl | refine chk_opt (by first | (with_reducible assumption) | ((repeat (with_reducible first | assumption | apply post_s_l01Next | apply post_s_l01Pick)); done) | (with_reducible exact field_prB9 _ _ _ (by ((repeat (with_reducible first | assumption | apply post_s_l01Next | apply post_s_l01Pick)); done))) | fail | exact pos_idx ‹_› | exact and_two (by ((repeat (with_reducible first | assumption | apply post_s_l01Next | apply post_s_l01Pick)); done)) (by (first | (with_reducible assumption) | with_reducible exact field_prB9 _ _ _ (by ((repeat (with_reducible first | assumption | apply post_s_l01Next | apply post_s_l01Pick)); done)) | fail | rfl)) | exact pos_cell ‹_› (by (first | exact flat2_len _ | exact flat3_len _)) | exact idx_ok (next_rng _ _ _ _ (by ((repeat (with_reducible first | assumption | apply post_s_l01Next | apply post_s_l01Pick)); done)) (by decide)) | exact ble_ok (next_ble _ _ _ _ (by ((repeat (with_reducible first | assumption | apply post_s_l01Next | apply post_s_l01Pick)); done)) (by decide) (by decide)) | exact ble_ok (next_ble0 _ _ _ _ (by ((repeat (with_reducible first | assumption | apply post_s_l01Next | apply post_s_l01Pick)); done)) (by decide) (by decide)) | exact idx_ok (next_rng _ _ _ _ (by ((repeat (with_reducible first | assumption | apply post_s_l01Next | apply post_s_l01Pick)); done)) (pos_one ‹_›)) | exact next_cell (by ((repeat (with_reducible first | assumption | apply post_s_l01Next | apply post_s_l01Pick)); done)) ‹_› (by (first | exact flat2_len _ | exact flat3_len _))) ?_ | refine ite_opt (fun _ => ?_) (fun _ => ?_) | rfl)
theorem post_s_l01BadField (sn : Nat) (sl : List Int) (ss : Int × Int) (p : Int) (hs : srcB sn sl ss = true) : srcB sn sl (s_l01BadField sn sl ss p).2.2.2 = true := by
  have hc := (srcB_ok hs).1
  rw [s_l01BadField_eq]
  unfold s_l01BadField_d
  repeat' (first | (with_reducible first | assumption | apply post_s_l01Next | apply post_s_l01Pick) | refine ite_ind (P := fun r : Int × Nat × List Int × Int × Int => srcB sn sl r.2.2.2 = true) ?_ ?_ | dsimp only)
def run_s_l01BadField : PRun
  | 86, [.s sn (.byts sl), .v (.int .i64 s_1), .v (.int .u64 s_2)], [.v (.int .i64 p)] => some (srcB sn sl (s_1, s_2) && prB p, enc_P86_i (s_l01BadField sn sl (s_1, s_2) p))
  | _, _, _ => none
theorem sound_s_l01BadField : SoundP Try.prog 64 run_s_l01BadField := by
  refine soundP_of de_P86_i SO_s_l01BadField (by kernel_rfl) Try.func64 Try.ntmps64 rfl (by kernel_rfl) ?_
  intro e bcs pvs rs bcs' hrun
  unfold run_s_l01BadField at hrun
  split at hrun
  · simp only [Option.some.injEq, Prod.mk.injEq] at hrun
    obtain ⟨hp, hrun⟩ := hrun
    rename_i sn sl s_1 s_2 p
    exact ⟨_, s_l01BadField sn sl (s_1, s_2) p, by first | exact hrun.symm | exact (Prod.ext hrun.1 hrun.2).symm, (eq_s_l01BadField sn sl (s_1, s_2) p).trans (tot_s_l01BadField sn sl (s_1, s_2) p hp)⟩
  · cases hrun

abbrev k92_0 (sn : Nat) (sl : List Int) (ss : Int × Int) (p : Int) (a : Int × Int × Int) : Int × Nat × List Int × Int × Int := (s_l01Next sn sl ((s_l01Next sn sl ss 40).2.2.2) 3)
abbrev k92_1 (sn : Nat) (sl : List Int) (ss : Int × Int) (p : Int) (a : Int × Int × Int) : Int × Nat × List Int × Int × Int := (s_l01Pick sn sl ((k92_0 sn sl ss p a).2.2.2) 2 [(-1), p])
abbrev k92_2 (sn : Nat) (sl : List Int) (ss : Int × Int) (p : Int) (a : Int × Int × Int) : Int × Nat × List Int × Int × Int := (s_l01Pick sn sl ((s_l01Next sn sl ss 40).2.2.2) 2 [0, 2])
def S_s_l09Bad : Sums := ⟨tblS [], tblM [(91, .box run_s_l01Next), (73, .box run_s_l01Pick)]⟩
theorem SO_s_l09Bad : SumsOK Try.prog S_s_l09Bad := ⟨tblS_ok True.intro, tblM_ok ⟨⟨Try.call91, sound_s_l01Next⟩, ⟨Try.call73, sound_s_l01Pick⟩, True.intro⟩⟩
def Fo_s_l09Bad (sn : Nat) (sl : List Int) (ss : Int × Int) (p : Int) (a : Int × Int × Int) : Option ((Int × Int × Int) × Nat × List Int × Int × Int) :=
  (if (srcB sn sl ss) = true then (if (((s_l01Next sn sl ss 40).1) == 0) = true then (if (srcB sn sl ((s_l01Next sn sl ss 40).2.2.2)) = true then (if (srcB sn sl ((k92_0 sn sl ss p a).2.2.2) && (lenB 2 1 ([(-1), p]) && Nat.blt 0 2)) = true then (if (decide (0 ≤ (k92_0 sn sl ss p a).1) && decide ((k92_0 sn sl ss p a).1 < ((3 : Nat) : Int))) = true then (if (Nat.ble (0 + ((((k92_0 sn sl ss p a).1).toNat) * 1) + 1) 3) = true then some ((bif Nat.beq (0 + ((((k92_0 sn sl ss p a).1).toNat) * 1)) 0 then ((k92_1 sn sl ss p a).1) else a.1, bif Nat.beq (0 + ((((k92_0 sn sl ss p a).1).toNat) * 1)) 1 then ((k92_1 sn sl ss p a).1) else a.2.1, bif Nat.beq (0 + ((((k92_0 sn sl ss p a).1).toNat) * 1)) 2 then ((k92_1 sn sl ss p a).1) else a.2.2), sn, sl, (k92_1 sn sl ss p a).2.2.2) else none) else none) else none) else none) else (if (((s_l01Next sn sl ss 40).1) == 1) = true then (if (srcB sn sl ((s_l01Next sn sl ss 40).2.2.2) && (lenB 2 1 ([0, 2]) && Nat.blt 0 2)) = true then some ((0, (k92_2 sn sl ss p a).1, 0), sn, sl, (k92_2 sn sl ss p a).2.2.2) else none) else some (a, sn, sl, (s_l01Next sn sl ss 40).2.2.2))) else none)
theorem eq_s_l09Bad (sn : Nat) (sl : List Int) (ss : Int × Int) (p : Int) (a : Int × Int × Int) : execP Try.prog S_s_l09Bad 92 25 (fun _ => 1000000) dec_P86_a3 86 [.s sn (.byts sl), .v (.int .i64 ss.1), .v (.int .u64 ss.2)] [.v (.int .i64 p), .v (.agg ⟨[.int .i64 a.1, .int .i64 a.2.1, .int .i64 a.2.2]⟩)] = Fo_s_l09Bad sn sl ss p a := by
  kernel_rfl
def s_l09Bad_d (sn : Nat) (sl : List Int) (ss : Int × Int) (p : Int) (a : Int × Int × Int) : (Int × Int × Int) × Nat × List Int × Int × Int :=
  (if (((s_l01Next sn sl ss 40).1) == 0) = true then ((bif Nat.beq (0 + ((((k92_0 sn sl ss p a).1).toNat) * 1)) 0 then ((k92_1 sn sl ss p a).1) else a.1, bif Nat.beq (0 + ((((k92_0 sn sl ss p a).1).toNat) * 1)) 1 then ((k92_1 sn sl ss p a).1) else a.2.1, bif Nat.beq (0 + ((((k92_0 sn sl ss p a).1).toNat) * 1)) 2 then ((k92_1 sn sl ss p a).1) else a.2.2), sn, sl, (k92_1 sn sl ss p a).2.2.2) else (if (((s_l01Next sn sl ss 40).1) == 1) = true then ((0, (k92_2 sn sl ss p a).1, 0), sn, sl, (k92_2 sn sl ss p a).2.2.2) else (a, sn, sl, (s_l01Next sn sl ss 40).2.2.2)))
def s_l09Bad : (Nat) → (List Int) → (Int × Int) → (Int) → (Int × Int × Int) → ((Int × Int × Int) × Nat × List Int × Int × Int) := shut s_l09Bad_d
theorem s_l09Bad_eq (sn : Nat) (sl : List Int) (ss : Int × Int) (p : Int) (a : Int × Int × Int) : s_l09Bad sn sl ss p a = s_l09Bad_d sn sl ss p a := by
  unfold s_l09Bad
  rw [shut_eq]
theorem tot_s_l09Bad (sn : Nat) (sl : List Int) (ss : Int × Int) (p : Int) (a : Int × Int × Int) (hp : (srcB sn sl ss && prB p) = true) : Fo_s_l09Bad sn sl ss p a = some (s_l09Bad sn sl ss p a) := by
  have hs := and_l hp
  have hc := (srcB_ok hs).1
  have hq := and_r hp
  have h0 := prB_ne hq
  rw [s_l09Bad_eq]
  unfold Fo_s_l09Bad s_l09Bad_d
  (try simp only [wI_eq])
  repeat' (first | with_reducible rfl | refine chk_opt (by first | (with_reducible assumption) | ((repeat (with_reducible first | assumption | apply post_s_l01Next | apply post_s_l01Pick)); done) | (with_reducible exact field_prB9 _ _ _ (by ((repeat (with_reducible first | assumption | apply post_s_l01Next | apply post_s_l01Pick)); done))) | fail | exact pos_idx ‹_› | exact and_two (by ((repeat (with_reducible first | assumption | apply post_s_l01Next | apply post_s_l01Pick)); done)) (by (first | (with_reducible assumption) | with_reducible exact field_prB9 _ _ _ (by ((repeat (with_reducible first | assumption | apply post_s_l01Next | apply post_s_l01Pick)); done)) | fail | rfl)) | exact pos_cell ‹_› (by (first | exact flat2_len _ | exact flat3_len _)) | exact idx_ok (next_rng _ _ _ _ (by ((repeat (with_reducible first | assumption | apply post_s_l01Next | apply post_s_l01Pick)); done)) (by decide)) | exact ble_ok (next_ble _ _ _ _ (by ((repeat (with_reducible first | assumption | apply post_s_l01Next | apply post_s_l01Pick)); done)) (by decide) (by decide)) | exact ble_ok (next_ble0 _ _ _ _ (by ((repeat (with_reducible first | assumption | apply post_s_l01Next | apply post_s_l01Pick)); done)) (by decide) (by decide)) | exact idx_ok (next_rng _ _ _ _ (by ((repeat (with_reducible first | assumption | apply post_s_l01Next | apply post_s_l01Pick)); done)) (pos_one ‹_›)) | exact next_cell (by ((repeat (with_reducible first | assumption | apply post_s_l01Next | apply post_s_l01Pick)); done)) ‹_› (by (first | exact flat2_len _ | exact flat3_len _))) ?_ | refine ite_opt (fun _ => ?_) (fun _ => ?_) | rfl)
theorem post_s_l09Bad (sn : Nat) (sl : List Int) (ss : Int × Int) (p : Int) (a : Int × Int × Int) (hs : srcB sn sl ss = true) : srcB sn sl (s_l09Bad sn sl ss p a).2.2.2 = true := by
  have hc := (srcB_ok hs).1
  rw [s_l09Bad_eq]
  unfold s_l09Bad_d
  repeat' (first | (with_reducible first | assumption | apply post_s_l01Next | apply post_s_l01Pick) | refine ite_ind (P := fun r : (Int × Int × Int) × Nat × List Int × Int × Int => srcB sn sl r.2.2.2 = true) ?_ ?_ | dsimp only)
def run_s_l09Bad : PRun
  | 86, [.s sn (.byts sl), .v (.int .i64 s_1), .v (.int .u64 s_2)], [.v (.int .i64 p), .v (.agg ⟨[.int .i64 a0, .int .i64 a1, .int .i64 a2]⟩)] => some (srcB sn sl (s_1, s_2) && prB p, enc_P86_a3 (s_l09Bad sn sl (s_1, s_2) p (a0, a1, a2)))
  | _, _, _ => none
theorem sound_s_l09Bad : SoundP Try.prog 92 run_s_l09Bad := by
  refine soundP_of de_P86_a3 SO_s_l09Bad (by kernel_rfl) Try.func92 Try.ntmps92 rfl (by kernel_rfl) ?_
  intro e bcs pvs rs bcs' hrun
  unfold run_s_l09Bad at hrun
  split at hrun
  · simp only [Option.some.injEq, Prod.mk.injEq] at hrun
    obtain ⟨hp, hrun⟩ := hrun
    rename_i sn sl s_1 s_2 p a0 a1 a2
    exact ⟨_, s_l09Bad sn sl (s_1, s_2) p (a0, a1, a2), by first | exact hrun.symm | exact (Prod.ext hrun.1 hrun.2).symm, (eq_s_l09Bad sn sl (s_1, s_2) p (a0, a1, a2)).trans (tot_s_l09Bad sn sl (s_1, s_2) p (a0, a1, a2) hp)⟩
  · cases hrun

def dec_i_a3_a3_a3 : List TR → Option (Int × (Int × Int × Int) × (Int × Int × Int) × Int × Int × Int)
  | [.v (.int .i64 x0), .v (.agg ⟨[.int .i64 x1_0, .int .i64 x1_1, .int .i64 x1_2]⟩), .v (.agg ⟨[.int .i64 x2_0, .int .i64 x2_1, .int .i64 x2_2]⟩), .v (.agg ⟨[.int .i64 x3_0, .int .i64 x3_1, .int .i64 x3_2]⟩)] => some (x0, (x1_0, x1_1, x1_2), (x2_0, x2_1, x2_2), (x3_0, x3_1, x3_2))
  | _ => none
def enc_i_a3_a3_a3 : Int × (Int × Int × Int) × (Int × Int × Int) × Int × Int × Int → List TR
  | (x0, (x1_0, x1_1, x1_2), (x2_0, x2_1, x2_2), (x3_0, x3_1, x3_2)) => [.v (.int .i64 x0), .v (.agg ⟨[.int .i64 x1_0, .int .i64 x1_1, .int .i64 x1_2]⟩), .v (.agg ⟨[.int .i64 x2_0, .int .i64 x2_1, .int .i64 x2_2]⟩), .v (.agg ⟨[.int .i64 x3_0, .int .i64 x3_1, .int .i64 x3_2]⟩)]
theorem de_i_a3_a3_a3 (rs : List TR) (x : Int × (Int × Int × Int) × (Int × Int × Int) × Int × Int × Int) (h : dec_i_a3_a3_a3 rs = some x) : rs = enc_i_a3_a3_a3 x := by
  unfold dec_i_a3_a3_a3 at h
  split at h
  · simp only [Option.some.injEq] at h
    subst h
    rfl
  · cases h
abbrev k45_0 (coden : Nat) (codel : List Int) : Int × Nat × List Int × Int × Int := (s_l01DrawField coden codel (s_l01From coden codel))
abbrev k45_1 (coden : Nat) (codel : List Int) : (Int × Int × Int) × Nat × List Int × Int × Int := (s_l09DrawPlace coden codel ((k45_0 coden codel).2.2.2) ((k45_0 coden codel).1))
abbrev k45_2 (coden : Nat) (codel : List Int) : (Int × Int × Int) × Nat × List Int × Int × Int := (s_l09DrawPlace coden codel ((k45_1 coden codel).2.2.2) ((k45_0 coden codel).1))
abbrev k45_3 (coden : Nat) (codel : List Int) : (Int × Int × Int) × Nat × List Int × Int × Int := (s_l09DrawPlace coden codel ((k45_2 coden codel).2.2.2) ((k45_0 coden codel).1))
abbrev k45_4 (coden : Nat) (codel : List Int) : Int × Nat × List Int × Int × Int := (s_l01Next coden codel ((k45_3 coden codel).2.2.2) 5)
abbrev k45_5 (coden : Nat) (codel : List Int) : Int × Int × Int := (s_l09Join ((k45_0 coden codel).1) ((k45_1 coden codel).1) ((k45_2 coden codel).1))
abbrev k45_6 (coden : Nat) (codel : List Int) : Nat × List Int := (s_l09On ((k45_0 coden codel).1) (k45_5 coden codel))
abbrev k45_7 (coden : Nat) (codel : List Int) : Int × Nat × List Int × Int × Int := (s_l01Next coden codel ((k45_4 coden codel).2.2.2) (((k45_6 coden codel).1 : Nat) : Int))
abbrev k45_8 (coden : Nat) (codel : List Int) : Int × Nat × List Int × Int × Int := (s_l01BadField coden codel ((k45_7 coden codel).2.2.2) ((k45_0 coden codel).1))
abbrev k45_9 (coden : Nat) (codel : List Int) : (Int × Int × Int) × Nat × List Int × Int × Int := (s_l09Bad coden codel ((k45_8 coden codel).2.2.2) ((k45_0 coden codel).1) ((k45_1 coden codel).1))
abbrev k45_10 (coden : Nat) (codel : List Int) : (Int × Int × Int) × Nat × List Int × Int × Int := (s_l09Bad coden codel ((k45_9 coden codel).2.2.2) ((k45_0 coden codel).1) ((k45_2 coden codel).1))
abbrev k45_11 (coden : Nat) (codel : List Int) : (Int × Int × Int) × Nat × List Int × Int × Int := (s_l09Bad coden codel ((k45_10 coden codel).2.2.2) ((k45_0 coden codel).1) (((k45_6 coden codel).2).getD ((((k45_7 coden codel).1).toNat) * 3 + 0) 0, ((k45_6 coden codel).2).getD ((((k45_7 coden codel).1).toNat) * 3 + 1) 0, ((k45_6 coden codel).2).getD ((((k45_7 coden codel).1).toNat) * 3 + 2) 0))
abbrev k45_12 (coden : Nat) (codel : List Int) : Int × Nat × List Int × Int × Int := (s_l01BadField coden codel ((k45_4 coden codel).2.2.2) ((k45_0 coden codel).1))
abbrev k45_13 (coden : Nat) (codel : List Int) : (Int × Int × Int) × Nat × List Int × Int × Int := (s_l09Bad coden codel ((k45_12 coden codel).2.2.2) ((k45_0 coden codel).1) ((k45_1 coden codel).1))
abbrev k45_14 (coden : Nat) (codel : List Int) : (Int × Int × Int) × Nat × List Int × Int × Int := (s_l09Bad coden codel ((k45_13 coden codel).2.2.2) ((k45_0 coden codel).1) ((k45_2 coden codel).1))
abbrev k45_15 (coden : Nat) (codel : List Int) : (Int × Int × Int) × Nat × List Int × Int × Int := (s_l09Bad coden codel ((k45_14 coden codel).2.2.2) ((k45_0 coden codel).1) ((k45_3 coden codel).1))
abbrev k45_16 (coden : Nat) (codel : List Int) : Int × Nat × List Int × Int × Int := (s_l01Next coden codel ((k45_4 coden codel).2.2.2) 3)
abbrev k45_17 (coden : Nat) (codel : List Int) : Int × Nat × List Int × Int × Int := (s_l01BadField coden codel ((k45_16 coden codel).2.2.2) ((k45_0 coden codel).1))
abbrev k45_18 (coden : Nat) (codel : List Int) : (Int × Int × Int) × Nat × List Int × Int × Int := (s_l09Bad coden codel ((k45_17 coden codel).2.2.2) ((k45_0 coden codel).1) ((k45_1 coden codel).1))
abbrev k45_19 (coden : Nat) (codel : List Int) : (Int × Int × Int) × Nat × List Int × Int × Int := (s_l09Bad coden codel ((k45_18 coden codel).2.2.2) ((k45_0 coden codel).1) ((k45_1 coden codel).1))
abbrev k45_20 (coden : Nat) (codel : List Int) : (Int × Int × Int) × Nat × List Int × Int × Int := (s_l09Bad coden codel ((k45_19 coden codel).2.2.2) ((k45_0 coden codel).1) ((k45_3 coden codel).1))
abbrev k45_21 (coden : Nat) (codel : List Int) : (Int × Int × Int) × Nat × List Int × Int × Int := (s_l09Bad coden codel ((k45_18 coden codel).2.2.2) ((k45_0 coden codel).1) ((k45_2 coden codel).1))
abbrev k45_22 (coden : Nat) (codel : List Int) : (Int × Int × Int) × Nat × List Int × Int × Int := (s_l09Bad coden codel ((k45_21 coden codel).2.2.2) ((k45_0 coden codel).1) ((k45_3 coden codel).1))
def S_s_l09Three : Sums := ⟨tblS [(51, run_s_l09Join), (71, run_s_l09On)], tblM [(63, .src run_s_l01From), (65, .box run_s_l01DrawField), (90, .box run_s_l09DrawPlace), (91, .box run_s_l01Next), (64, .box run_s_l01BadField), (92, .box run_s_l09Bad)]⟩
theorem SO_s_l09Three : SumsOK Try.prog S_s_l09Three := ⟨tblS_ok ⟨⟨Try.call51, sound_s_l09Join⟩, ⟨Try.call71, sound_s_l09On⟩, True.intro⟩, tblM_ok ⟨⟨Try.call63, sound_s_l01From⟩, ⟨Try.call65, sound_s_l01DrawField⟩, ⟨Try.call90, sound_s_l09DrawPlace⟩, ⟨Try.call91, sound_s_l01Next⟩, ⟨Try.call64, sound_s_l01BadField⟩, ⟨Try.call92, sound_s_l09Bad⟩, True.intro⟩⟩
def Fo_s_l09Three (coden : Nat) (codel : List Int) : Option (Int × (Int × Int × Int) × (Int × Int × Int) × Int × Int × Int) :=
  (if (codeB coden codel) = true then (if (srcB coden codel (s_l01From coden codel)) = true then (if (srcB coden codel ((k45_0 coden codel).2.2.2) && prB ((k45_0 coden codel).1)) = true then (if (srcB coden codel ((k45_1 coden codel).2.2.2) && prB ((k45_0 coden codel).1)) = true then (if (srcB coden codel ((k45_2 coden codel).2.2.2) && prB ((k45_0 coden codel).1)) = true then (if (srcB coden codel ((k45_3 coden codel).2.2.2)) = true then (if (((k45_4 coden codel).1) == 0) = true then (if (((k45_4 coden codel).1) == 0) = true then (if (!(((k45_1 coden codel).1) == ((k45_2 coden codel).1))) = true then (if (prB ((k45_0 coden codel).1)) = true then (if (prB ((k45_0 coden codel).1)) = true then (if (srcB coden codel ((k45_4 coden codel).2.2.2)) = true then (if (decide (0 ≤ (k45_7 coden codel).1) && decide ((k45_7 coden codel).1 < (((k45_6 coden codel).1 : Nat) : Int))) = true then (if (Nat.ble ((((k45_7 coden codel).1).toNat) * 3 + 3) (((k45_6 coden codel).2).length)) = true then (if (srcB coden codel ((k45_7 coden codel).2.2.2) && prB ((k45_0 coden codel).1)) = true then (if (srcB coden codel ((k45_8 coden codel).2.2.2) && prB ((k45_0 coden codel).1)) = true then (if (srcB coden codel ((k45_9 coden codel).2.2.2) && prB ((k45_0 coden codel).1)) = true then (if (srcB coden codel ((k45_10 coden codel).2.2.2) && prB ((k45_0 coden codel).1)) = true then some ((k45_8 coden codel).1, ((k45_9 coden codel).1), ((k45_10 coden codel).1), ((k45_11 coden codel).1)) else none) else none) else none) else none) else none) else none) else none) else none) else none) else (if (srcB coden codel ((k45_4 coden codel).2.2.2) && prB ((k45_0 coden codel).1)) = true then (if (srcB coden codel ((k45_12 coden codel).2.2.2) && prB ((k45_0 coden codel).1)) = true then (if (srcB coden codel ((k45_13 coden codel).2.2.2) && prB ((k45_0 coden codel).1)) = true then (if (srcB coden codel ((k45_14 coden codel).2.2.2) && prB ((k45_0 coden codel).1)) = true then some ((k45_12 coden codel).1, ((k45_13 coden codel).1), ((k45_14 coden codel).1), ((k45_15 coden codel).1)) else none) else none) else none) else none)) else (if (((k45_4 coden codel).1) == 2) = true then (if (srcB coden codel ((k45_4 coden codel).2.2.2)) = true then (if (((k45_16 coden codel).1) == 0) = true then (if (srcB coden codel ((k45_16 coden codel).2.2.2) && prB ((k45_0 coden codel).1)) = true then (if (srcB coden codel ((k45_17 coden codel).2.2.2) && prB ((k45_0 coden codel).1)) = true then (if (srcB coden codel ((k45_18 coden codel).2.2.2) && prB ((k45_0 coden codel).1)) = true then (if (srcB coden codel ((k45_19 coden codel).2.2.2) && prB ((k45_0 coden codel).1)) = true then some ((k45_17 coden codel).1, ((k45_18 coden codel).1), ((k45_19 coden codel).1), ((k45_20 coden codel).1)) else none) else none) else none) else none) else (if (srcB coden codel ((k45_16 coden codel).2.2.2) && prB ((k45_0 coden codel).1)) = true then (if (srcB coden codel ((k45_17 coden codel).2.2.2) && prB ((k45_0 coden codel).1)) = true then (if (srcB coden codel ((k45_18 coden codel).2.2.2) && prB ((k45_0 coden codel).1)) = true then (if (srcB coden codel ((k45_21 coden codel).2.2.2) && prB ((k45_0 coden codel).1)) = true then some ((k45_17 coden codel).1, ((k45_18 coden codel).1), ((k45_21 coden codel).1), ((k45_22 coden codel).1)) else none) else none) else none) else none)) else none) else (if (srcB coden codel ((k45_4 coden codel).2.2.2) && prB ((k45_0 coden codel).1)) = true then (if (srcB coden codel ((k45_12 coden codel).2.2.2) && prB ((k45_0 coden codel).1)) = true then (if (srcB coden codel ((k45_13 coden codel).2.2.2) && prB ((k45_0 coden codel).1)) = true then (if (srcB coden codel ((k45_14 coden codel).2.2.2) && prB ((k45_0 coden codel).1)) = true then some ((k45_12 coden codel).1, ((k45_13 coden codel).1), ((k45_14 coden codel).1), ((k45_15 coden codel).1)) else none) else none) else none) else none))) else (if (((k45_4 coden codel).1) == 1) = true then (if (!(((k45_1 coden codel).1) == ((k45_2 coden codel).1))) = true then (if (prB ((k45_0 coden codel).1)) = true then (if (prB ((k45_0 coden codel).1)) = true then (if (srcB coden codel ((k45_4 coden codel).2.2.2)) = true then (if (decide (0 ≤ (k45_7 coden codel).1) && decide ((k45_7 coden codel).1 < (((k45_6 coden codel).1 : Nat) : Int))) = true then (if (Nat.ble ((((k45_7 coden codel).1).toNat) * 3 + 3) (((k45_6 coden codel).2).length)) = true then (if (srcB coden codel ((k45_7 coden codel).2.2.2) && prB ((k45_0 coden codel).1)) = true then (if (srcB coden codel ((k45_8 coden codel).2.2.2) && prB ((k45_0 coden codel).1)) = true then (if (srcB coden codel ((k45_9 coden codel).2.2.2) && prB ((k45_0 coden codel).1)) = true then (if (srcB coden codel ((k45_10 coden codel).2.2.2) && prB ((k45_0 coden codel).1)) = true then some ((k45_8 coden codel).1, ((k45_9 coden codel).1), ((k45_10 coden codel).1), ((k45_11 coden codel).1)) else none) else none) else none) else none) else none) else none) else none) else none) else none) else (if (srcB coden codel ((k45_4 coden codel).2.2.2) && prB ((k45_0 coden codel).1)) = true then (if (srcB coden codel ((k45_12 coden codel).2.2.2) && prB ((k45_0 coden codel).1)) = true then (if (srcB coden codel ((k45_13 coden codel).2.2.2) && prB ((k45_0 coden codel).1)) = true then (if (srcB coden codel ((k45_14 coden codel).2.2.2) && prB ((k45_0 coden codel).1)) = true then some ((k45_12 coden codel).1, ((k45_13 coden codel).1), ((k45_14 coden codel).1), ((k45_15 coden codel).1)) else none) else none) else none) else none)) else (if (((k45_4 coden codel).1) == 2) = true then (if (srcB coden codel ((k45_4 coden codel).2.2.2)) = true then (if (((k45_16 coden codel).1) == 0) = true then (if (srcB coden codel ((k45_16 coden codel).2.2.2) && prB ((k45_0 coden codel).1)) = true then (if (srcB coden codel ((k45_17 coden codel).2.2.2) && prB ((k45_0 coden codel).1)) = true then (if (srcB coden codel ((k45_18 coden codel).2.2.2) && prB ((k45_0 coden codel).1)) = true then (if (srcB coden codel ((k45_19 coden codel).2.2.2) && prB ((k45_0 coden codel).1)) = true then some ((k45_17 coden codel).1, ((k45_18 coden codel).1), ((k45_19 coden codel).1), ((k45_20 coden codel).1)) else none) else none) else none) else none) else (if (srcB coden codel ((k45_16 coden codel).2.2.2) && prB ((k45_0 coden codel).1)) = true then (if (srcB coden codel ((k45_17 coden codel).2.2.2) && prB ((k45_0 coden codel).1)) = true then (if (srcB coden codel ((k45_18 coden codel).2.2.2) && prB ((k45_0 coden codel).1)) = true then (if (srcB coden codel ((k45_21 coden codel).2.2.2) && prB ((k45_0 coden codel).1)) = true then some ((k45_17 coden codel).1, ((k45_18 coden codel).1), ((k45_21 coden codel).1), ((k45_22 coden codel).1)) else none) else none) else none) else none)) else none) else (if (srcB coden codel ((k45_4 coden codel).2.2.2) && prB ((k45_0 coden codel).1)) = true then (if (srcB coden codel ((k45_12 coden codel).2.2.2) && prB ((k45_0 coden codel).1)) = true then (if (srcB coden codel ((k45_13 coden codel).2.2.2) && prB ((k45_0 coden codel).1)) = true then (if (srcB coden codel ((k45_14 coden codel).2.2.2) && prB ((k45_0 coden codel).1)) = true then some ((k45_12 coden codel).1, ((k45_13 coden codel).1), ((k45_14 coden codel).1), ((k45_15 coden codel).1)) else none) else none) else none) else none)))) else none) else none) else none) else none) else none) else none)
theorem eq_s_l09Three (coden : Nat) (codel : List Int) : execT Try.prog S_s_l09Three 45 67 (fun _ => 1000000) dec_i_a3_a3_a3 [.s coden (.byts codel)] = Fo_s_l09Three coden codel := by
  kernel_rfl
def s_l09Three_d (coden : Nat) (codel : List Int) : Int × (Int × Int × Int) × (Int × Int × Int) × Int × Int × Int :=
  (if (((k45_4 coden codel).1) == 0) = true then (if (((k45_4 coden codel).1) == 0) = true then (if (!(((k45_1 coden codel).1) == ((k45_2 coden codel).1))) = true then ((k45_8 coden codel).1, ((k45_9 coden codel).1), ((k45_10 coden codel).1), ((k45_11 coden codel).1)) else ((k45_12 coden codel).1, ((k45_13 coden codel).1), ((k45_14 coden codel).1), ((k45_15 coden codel).1))) else (if (((k45_4 coden codel).1) == 2) = true then (if (((k45_16 coden codel).1) == 0) = true then ((k45_17 coden codel).1, ((k45_18 coden codel).1), ((k45_19 coden codel).1), ((k45_20 coden codel).1)) else ((k45_17 coden codel).1, ((k45_18 coden codel).1), ((k45_21 coden codel).1), ((k45_22 coden codel).1))) else ((k45_12 coden codel).1, ((k45_13 coden codel).1), ((k45_14 coden codel).1), ((k45_15 coden codel).1)))) else (if (((k45_4 coden codel).1) == 1) = true then (if (!(((k45_1 coden codel).1) == ((k45_2 coden codel).1))) = true then ((k45_8 coden codel).1, ((k45_9 coden codel).1), ((k45_10 coden codel).1), ((k45_11 coden codel).1)) else ((k45_12 coden codel).1, ((k45_13 coden codel).1), ((k45_14 coden codel).1), ((k45_15 coden codel).1))) else (if (((k45_4 coden codel).1) == 2) = true then (if (((k45_16 coden codel).1) == 0) = true then ((k45_17 coden codel).1, ((k45_18 coden codel).1), ((k45_19 coden codel).1), ((k45_20 coden codel).1)) else ((k45_17 coden codel).1, ((k45_18 coden codel).1), ((k45_21 coden codel).1), ((k45_22 coden codel).1))) else ((k45_12 coden codel).1, ((k45_13 coden codel).1), ((k45_14 coden codel).1), ((k45_15 coden codel).1)))))
def s_l09Three : (Nat) → (List Int) → (Int × (Int × Int × Int) × (Int × Int × Int) × Int × Int × Int) := shut s_l09Three_d
theorem s_l09Three_eq (coden : Nat) (codel : List Int) : s_l09Three coden codel = s_l09Three_d coden codel := by
  unfold s_l09Three
  rw [shut_eq]
theorem tot_s_l09Three (coden : Nat) (codel : List Int) (hp : (codeB coden codel) = true) : Fo_s_l09Three coden codel = some (s_l09Three coden codel) := by
  have hc := hp
  rw [s_l09Three_eq]
  unfold Fo_s_l09Three s_l09Three_d
  (try simp only [wI_eq])
  repeat' (first | with_reducible rfl | refine chk_opt (by first | (with_reducible assumption) | ((repeat (with_reducible first | assumption | exact s_l01From_src hc | apply post_s_l01DrawField | apply post_s_l09DrawPlace | apply post_s_l01Next | apply post_s_l01BadField | apply post_s_l09Bad)); done) | (with_reducible exact field_prB9 _ _ _ (by ((repeat (with_reducible first | assumption | exact s_l01From_src hc | apply post_s_l01DrawField | apply post_s_l09DrawPlace | apply post_s_l01Next | apply post_s_l01BadField | apply post_s_l09Bad)); done))) | fail | (with_reducible exact idx_ok (next_rng _ _ _ _ (by ((repeat (with_reducible first | assumption | exact s_l01From_src hc | apply post_s_l01DrawField | apply post_s_l09DrawPlace | apply post_s_l01Next | apply post_s_l01BadField | apply post_s_l09Bad)); done)) (on_pos (field_is9 _ _ _ (by ((repeat (with_reducible first | assumption | exact s_l01From_src hc | apply post_s_l01DrawField | apply post_s_l09DrawPlace | apply post_s_l01Next | apply post_s_l01BadField | apply post_s_l09Bad)); done))) (drawPlace_ok _ _ _ (by ((repeat (with_reducible first | assumption | exact s_l01From_src hc | apply post_s_l01DrawField | apply post_s_l09DrawPlace | apply post_s_l01Next | apply post_s_l01BadField | apply post_s_l09Bad)); done)) (field_is9 _ _ _ (by ((repeat (with_reducible first | assumption | exact s_l01From_src hc | apply post_s_l01DrawField | apply post_s_l09DrawPlace | apply post_s_l01Next | apply post_s_l01BadField | apply post_s_l09Bad)); done)))) (drawPlace_ok _ _ _ (by ((repeat (with_reducible first | assumption | exact s_l01From_src hc | apply post_s_l01DrawField | apply post_s_l09DrawPlace | apply post_s_l01Next | apply post_s_l01BadField | apply post_s_l09Bad)); done)) (field_is9 _ _ _ (by ((repeat (with_reducible first | assumption | exact s_l01From_src hc | apply post_s_l01DrawField | apply post_s_l09DrawPlace | apply post_s_l01Next | apply post_s_l01BadField | apply post_s_l09Bad)); done)))) (by assumption)).1)) | (with_reducible exact ble_ok (on_ble (by ((repeat (with_reducible first | assumption | exact s_l01From_src hc | apply post_s_l01DrawField | apply post_s_l09DrawPlace | apply post_s_l01Next | apply post_s_l01BadField | apply post_s_l09Bad)); done)) (on_pos (field_is9 _ _ _ (by ((repeat (with_reducible first | assumption | exact s_l01From_src hc | apply post_s_l01DrawField | apply post_s_l09DrawPlace | apply post_s_l01Next | apply post_s_l01BadField | apply post_s_l09Bad)); done))) (drawPlace_ok _ _ _ (by ((repeat (with_reducible first | assumption | exact s_l01From_src hc | apply post_s_l01DrawField | apply post_s_l09DrawPlace | apply post_s_l01Next | apply post_s_l01BadField | apply post_s_l09Bad)); done)) (field_is9 _ _ _ (by ((repeat (with_reducible first | assumption | exact s_l01From_src hc | apply post_s_l01DrawField | apply post_s_l09DrawPlace | apply post_s_l01Next | apply post_s_l01BadField | apply post_s_l09Bad)); done)))) (drawPlace_ok _ _ _ (by ((repeat (with_reducible first | assumption | exact s_l01From_src hc | apply post_s_l01DrawField | apply post_s_l09DrawPlace | apply post_s_l01Next | apply post_s_l01BadField | apply post_s_l09Bad)); done)) (field_is9 _ _ _ (by ((repeat (with_reducible first | assumption | exact s_l01From_src hc | apply post_s_l01DrawField | apply post_s_l09DrawPlace | apply post_s_l01Next | apply post_s_l01BadField | apply post_s_l09Bad)); done)))) (by assumption)))) | exact pos_idx ‹_› | exact and_two (by ((repeat (with_reducible first | assumption | exact s_l01From_src hc | apply post_s_l01DrawField | apply post_s_l09DrawPlace | apply post_s_l01Next | apply post_s_l01BadField | apply post_s_l09Bad)); done)) (by (first | (with_reducible assumption) | with_reducible exact field_prB9 _ _ _ (by ((repeat (with_reducible first | assumption | exact s_l01From_src hc | apply post_s_l01DrawField | apply post_s_l09DrawPlace | apply post_s_l01Next | apply post_s_l01BadField | apply post_s_l09Bad)); done)) | fail | rfl)) | exact pos_cell ‹_› (by (first | exact flat2_len _ | exact flat3_len _)) | exact idx_ok (next_rng _ _ _ _ (by ((repeat (with_reducible first | assumption | exact s_l01From_src hc | apply post_s_l01DrawField | apply post_s_l09DrawPlace | apply post_s_l01Next | apply post_s_l01BadField | apply post_s_l09Bad)); done)) (by decide)) | exact ble_ok (next_ble _ _ _ _ (by ((repeat (with_reducible first | assumption | exact s_l01From_src hc | apply post_s_l01DrawField | apply post_s_l09DrawPlace | apply post_s_l01Next | apply post_s_l01BadField | apply post_s_l09Bad)); done)) (by decide) (by decide)) | exact ble_ok (next_ble0 _ _ _ _ (by ((repeat (with_reducible first | assumption | exact s_l01From_src hc | apply post_s_l01DrawField | apply post_s_l09DrawPlace | apply post_s_l01Next | apply post_s_l01BadField | apply post_s_l09Bad)); done)) (by decide) (by decide)) | exact idx_ok (next_rng _ _ _ _ (by ((repeat (with_reducible first | assumption | exact s_l01From_src hc | apply post_s_l01DrawField | apply post_s_l09DrawPlace | apply post_s_l01Next | apply post_s_l01BadField | apply post_s_l09Bad)); done)) (pos_one ‹_›)) | exact next_cell (by ((repeat (with_reducible first | assumption | exact s_l01From_src hc | apply post_s_l01DrawField | apply post_s_l09DrawPlace | apply post_s_l01Next | apply post_s_l01BadField | apply post_s_l09Bad)); done)) ‹_› (by (first | exact flat2_len _ | exact flat3_len _))) ?_ | refine ite_opt (fun _ => ?_) (fun _ => ?_) | rfl)
def run_s_l09Three : List PV → Option (Bool × List TR)
  | [.s coden (.byts codel)] => some (codeB coden codel, enc_i_a3_a3_a3 (s_l09Three coden codel))
  | _ => none
theorem sound_s_l09Three : Sound Try.prog 45 run_s_l09Three := by
  refine sound_of de_i_a3_a3_a3 SO_s_l09Three (by kernel_rfl) Try.func45 Try.ntmps45 rfl (by kernel_rfl) ?_
  intro W pvs avs rs hargs hrun
  unfold run_s_l09Three at hrun
  split at hrun
  · simp only [Option.some.injEq, Prod.mk.injEq] at hrun
    obtain ⟨hp, rfl⟩ := hrun
    rename_i coden codel
    exact ⟨_, _, _, hargs, rfl, (eq_s_l09Three coden codel).trans (tot_s_l09Three coden codel hp)⟩
  · cases hrun

def dec_i_a3_a3 : List TR → Option (Int × (Int × Int × Int) × Int × Int × Int)
  | [.v (.int .i64 x0), .v (.agg ⟨[.int .i64 x1_0, .int .i64 x1_1, .int .i64 x1_2]⟩), .v (.agg ⟨[.int .i64 x2_0, .int .i64 x2_1, .int .i64 x2_2]⟩)] => some (x0, (x1_0, x1_1, x1_2), (x2_0, x2_1, x2_2))
  | _ => none
def enc_i_a3_a3 : Int × (Int × Int × Int) × Int × Int × Int → List TR
  | (x0, (x1_0, x1_1, x1_2), (x2_0, x2_1, x2_2)) => [.v (.int .i64 x0), .v (.agg ⟨[.int .i64 x1_0, .int .i64 x1_1, .int .i64 x1_2]⟩), .v (.agg ⟨[.int .i64 x2_0, .int .i64 x2_1, .int .i64 x2_2]⟩)]
theorem de_i_a3_a3 (rs : List TR) (x : Int × (Int × Int × Int) × Int × Int × Int) (h : dec_i_a3_a3 rs = some x) : rs = enc_i_a3_a3 x := by
  unfold dec_i_a3_a3 at h
  split at h
  · simp only [Option.some.injEq] at h
    subst h
    rfl
  · cases h
def S_s_DrawJoinOf : Sums := ⟨tblS [(45, run_s_l09Three)], tblM []⟩
theorem SO_s_DrawJoinOf : SumsOK Try.prog S_s_DrawJoinOf := ⟨tblS_ok ⟨⟨Try.call45, sound_s_l09Three⟩, True.intro⟩, tblM_ok True.intro⟩
def Fo_s_DrawJoinOf (coden : Nat) (codel : List Int) : Option (Int × (Int × Int × Int) × Int × Int × Int) :=
  (if (codeB coden codel) = true then some ((s_l09Three coden codel).1, ((s_l09Three coden codel).2.1), ((s_l09Three coden codel).2.2.1)) else none)
theorem eq_s_DrawJoinOf (coden : Nat) (codel : List Int) : execT Try.prog S_s_DrawJoinOf 6 19 (fun _ => 1000000) dec_i_a3_a3 [.s coden (.byts codel)] = Fo_s_DrawJoinOf coden codel := by
  kernel_rfl
def s_DrawJoinOf_d (coden : Nat) (codel : List Int) : Int × (Int × Int × Int) × Int × Int × Int :=
  ((s_l09Three coden codel).1, ((s_l09Three coden codel).2.1), ((s_l09Three coden codel).2.2.1))
def s_DrawJoinOf : (Nat) → (List Int) → (Int × (Int × Int × Int) × Int × Int × Int) := shut s_DrawJoinOf_d
theorem s_DrawJoinOf_eq (coden : Nat) (codel : List Int) : s_DrawJoinOf coden codel = s_DrawJoinOf_d coden codel := by
  unfold s_DrawJoinOf
  rw [shut_eq]
theorem tot_s_DrawJoinOf (coden : Nat) (codel : List Int) (hp : (codeB coden codel) = true) : Fo_s_DrawJoinOf coden codel = some (s_DrawJoinOf coden codel) := by
  have hc := hp
  rw [s_DrawJoinOf_eq]
  unfold Fo_s_DrawJoinOf s_DrawJoinOf_d
  (try simp only [wI_eq])
  repeat' (first | with_reducible rfl | refine chk_opt (by first | (with_reducible assumption) | ((repeat (with_reducible first | assumption)); done) | (with_reducible exact field_prB9 _ _ _ (by ((repeat (with_reducible first | assumption)); done))) | fail | exact pos_idx ‹_› | exact and_two (by ((repeat (with_reducible first | assumption)); done)) (by (first | (with_reducible assumption) | with_reducible exact field_prB9 _ _ _ (by ((repeat (with_reducible first | assumption)); done)) | fail | rfl)) | exact pos_cell ‹_› (by (first | exact flat2_len _ | exact flat3_len _)) | exact idx_ok (next_rng _ _ _ _ (by ((repeat (with_reducible first | assumption)); done)) (by decide)) | exact ble_ok (next_ble _ _ _ _ (by ((repeat (with_reducible first | assumption)); done)) (by decide) (by decide)) | exact ble_ok (next_ble0 _ _ _ _ (by ((repeat (with_reducible first | assumption)); done)) (by decide) (by decide)) | exact idx_ok (next_rng _ _ _ _ (by ((repeat (with_reducible first | assumption)); done)) (pos_one ‹_›)) | exact next_cell (by ((repeat (with_reducible first | assumption)); done)) ‹_› (by (first | exact flat2_len _ | exact flat3_len _))) ?_ | refine ite_opt (fun _ => ?_) (fun _ => ?_) | rfl)
def run_s_DrawJoinOf : List PV → Option (Bool × List TR)
  | [.s coden (.byts codel)] => some (codeB coden codel, enc_i_a3_a3 (s_DrawJoinOf coden codel))
  | _ => none
theorem sound_s_DrawJoinOf : Sound Try.prog 6 run_s_DrawJoinOf := by
  refine sound_of de_i_a3_a3 SO_s_DrawJoinOf (by kernel_rfl) Try.func6 Try.ntmps6 rfl (by kernel_rfl) ?_
  intro W pvs avs rs hargs hrun
  unfold run_s_DrawJoinOf at hrun
  split at hrun
  · simp only [Option.some.injEq, Prod.mk.injEq] at hrun
    obtain ⟨hp, rfl⟩ := hrun
    rename_i coden codel
    exact ⟨_, _, _, hargs, rfl, (eq_s_DrawJoinOf coden codel).trans (tot_s_DrawJoinOf coden codel hp)⟩
  · cases hrun

abbrev k15_0 (coden : Nat) (codel : List Int) : Int × Nat × List Int × Int × Int := (s_l01DrawField coden codel (s_l01From coden codel))
abbrev k15_1 (coden : Nat) (codel : List Int) : Int × Nat × List Int × Int × Int := (s_l01BadField coden codel ((k15_0 coden codel).2.2.2) ((k15_0 coden codel).1))
def S_s_DrawNullPlaces : Sums := ⟨tblS [], tblM [(63, .src run_s_l01From), (65, .box run_s_l01DrawField), (64, .box run_s_l01BadField)]⟩
theorem SO_s_DrawNullPlaces : SumsOK Try.prog S_s_DrawNullPlaces := ⟨tblS_ok True.intro, tblM_ok ⟨⟨Try.call63, sound_s_l01From⟩, ⟨Try.call65, sound_s_l01DrawField⟩, ⟨Try.call64, sound_s_l01BadField⟩, True.intro⟩⟩
def Fo_s_DrawNullPlaces (coden : Nat) (codel : List Int) : Option (Int) :=
  (if (codeB coden codel) = true then (if (srcB coden codel (s_l01From coden codel)) = true then (if (srcB coden codel ((k15_0 coden codel).2.2.2) && prB ((k15_0 coden codel).1)) = true then some ((k15_1 coden codel).1) else none) else none) else none)
theorem eq_s_DrawNullPlaces (coden : Nat) (codel : List Int) : execT Try.prog S_s_DrawNullPlaces 15 10 (fun _ => 1000000) dec_i [.s coden (.byts codel)] = Fo_s_DrawNullPlaces coden codel := by
  kernel_rfl
def s_DrawNullPlaces_d (coden : Nat) (codel : List Int) : Int :=
  (k15_1 coden codel).1
def s_DrawNullPlaces : (Nat) → (List Int) → (Int) := shut s_DrawNullPlaces_d
theorem s_DrawNullPlaces_eq (coden : Nat) (codel : List Int) : s_DrawNullPlaces coden codel = s_DrawNullPlaces_d coden codel := by
  unfold s_DrawNullPlaces
  rw [shut_eq]
theorem tot_s_DrawNullPlaces (coden : Nat) (codel : List Int) (hp : (codeB coden codel) = true) : Fo_s_DrawNullPlaces coden codel = some (s_DrawNullPlaces coden codel) := by
  have hc := hp
  rw [s_DrawNullPlaces_eq]
  unfold Fo_s_DrawNullPlaces s_DrawNullPlaces_d
  (try simp only [wI_eq])
  repeat' (first | with_reducible rfl | refine chk_opt (by first | (with_reducible assumption) | ((repeat (with_reducible first | assumption | exact s_l01From_src hc | apply post_s_l01DrawField | apply post_s_l01BadField)); done) | (with_reducible exact field_prB9 _ _ _ (by ((repeat (with_reducible first | assumption | exact s_l01From_src hc | apply post_s_l01DrawField | apply post_s_l01BadField)); done))) | fail | exact pos_idx ‹_› | exact and_two (by ((repeat (with_reducible first | assumption | exact s_l01From_src hc | apply post_s_l01DrawField | apply post_s_l01BadField)); done)) (by (first | (with_reducible assumption) | with_reducible exact field_prB9 _ _ _ (by ((repeat (with_reducible first | assumption | exact s_l01From_src hc | apply post_s_l01DrawField | apply post_s_l01BadField)); done)) | fail | rfl)) | exact pos_cell ‹_› (by (first | exact flat2_len _ | exact flat3_len _)) | exact idx_ok (next_rng _ _ _ _ (by ((repeat (with_reducible first | assumption | exact s_l01From_src hc | apply post_s_l01DrawField | apply post_s_l01BadField)); done)) (by decide)) | exact ble_ok (next_ble _ _ _ _ (by ((repeat (with_reducible first | assumption | exact s_l01From_src hc | apply post_s_l01DrawField | apply post_s_l01BadField)); done)) (by decide) (by decide)) | exact ble_ok (next_ble0 _ _ _ _ (by ((repeat (with_reducible first | assumption | exact s_l01From_src hc | apply post_s_l01DrawField | apply post_s_l01BadField)); done)) (by decide) (by decide)) | exact idx_ok (next_rng _ _ _ _ (by ((repeat (with_reducible first | assumption | exact s_l01From_src hc | apply post_s_l01DrawField | apply post_s_l01BadField)); done)) (pos_one ‹_›)) | exact next_cell (by ((repeat (with_reducible first | assumption | exact s_l01From_src hc | apply post_s_l01DrawField | apply post_s_l01BadField)); done)) ‹_› (by (first | exact flat2_len _ | exact flat3_len _))) ?_ | refine ite_opt (fun _ => ?_) (fun _ => ?_) | rfl)
def run_s_DrawNullPlaces : List PV → Option (Bool × List TR)
  | [.s coden (.byts codel)] => some (codeB coden codel, enc_i (s_DrawNullPlaces coden codel))
  | _ => none
theorem sound_s_DrawNullPlaces : Sound Try.prog 15 run_s_DrawNullPlaces := by
  refine sound_of de_i SO_s_DrawNullPlaces (by kernel_rfl) Try.func15 Try.ntmps15 rfl (by kernel_rfl) ?_
  intro W pvs avs rs hargs hrun
  unfold run_s_DrawNullPlaces at hrun
  split at hrun
  · simp only [Option.some.injEq, Prod.mk.injEq] at hrun
    obtain ⟨hp, rfl⟩ := hrun
    rename_i coden codel
    exact ⟨_, _, _, hargs, rfl, (eq_s_DrawNullPlaces coden codel).trans (tot_s_DrawNullPlaces coden codel hp)⟩
  · cases hrun

def S_l_places5 : Sums := ⟨tblS [], tblM []⟩
theorem SO_l_places5 : SumsOK Try.prog S_l_places5 := ⟨tblS_ok True.intro, tblM_ok True.intro⟩
def T_l_places5_0 (an : Nat) (al : List Int) (bn : Nat) (bl : List Int) (i : Int) : Tab := ⟨[.row 0, .row 4, .junk, .junk, .val (.bool false), .val (.int .i64 i), .row 0, .val (.int .i64 ((an : Nat) : Int)), .row 4, .val (.int .i64 ((bn : Nat) : Int)), .val (.bool (((an : Nat) : Int) != ((bn : Nat) : Int))), .junk, .junk, .junk, .junk, .junk, .junk, .junk, .junk, .junk, .junk, .junk, .junk, .junk, .junk, .junk], [(0, .ros an (.ints al)), (4, .ros bn (.ints bl))]⟩
def X_l_places5_0 (P : Program) (fu : Nat) (an : Nat) (al : List Int) (bn : Nat) (bl : List Int) (f : Nat) (i : Int) : Option (Bool) := loopK (exec P S_l_places5 26 (fun _ => fu + 100) (Code.sub [1, 1, 0, 1, 0, 0] (bodyF P 18))) f (T_l_places5_0 an al bn bl i) (kBlock 0 (kSeq (fun s => exec P S_l_places5 26 (fun _ => fu + 100) (Code.sub [1, 1, 1] (bodyF P 18)) s (finT P 18 dec_b)) (finT P 18 dec_b)))
def B_l_places5_0 (an : Nat) (al : List Int) (bn : Nat) (bl : List Int) (rec0 : Int → Option (Bool)) (i : Int) : Option (Bool) :=
  (if (decide (i < ((an : Nat) : Int))) = true then (if (decide (0 ≤ i) && decide (i < ((an : Nat) : Int))) = true then (if (Nat.ble (i.toNat * 3 + 3) al.length) = true then (if (decide (0 ≤ i) && decide (i < ((bn : Nat) : Int))) = true then (if (Nat.ble (i.toNat * 3 + 3) bl.length) = true then (if (!((al.getD (i.toNat * 3 + 0) 0, al.getD (i.toNat * 3 + 1) 0, al.getD (i.toNat * 3 + 2) 0) == (bl.getD (i.toNat * 3 + 0) 0, bl.getD (i.toNat * 3 + 1) 0, bl.getD (i.toNat * 3 + 2) 0))) = true then some false else rec0 (wI (i + 1))) else none) else none) else none) else none) else some true)
def L_l_places5_0 (fu : Nat) (an : Nat) (al : List Int) (bn : Nat) (bl : List Int) : Nat → Int → Option (Bool)
  | 0, _ => none
  | f + 1, i => B_l_places5_0 an al bn bl (L_l_places5_0 fu an al bn bl f) i
theorem loop_l_places5_0 (fu : Nat) (an : Nat) (al : List Int) (bn : Nat) (bl : List Int) : ∀ (f : Nat) (i : Int), X_l_places5_0 Try.prog fu an al bn bl f i = L_l_places5_0 fu an al bn bl f i := by
  intro f
  induction f with
  | zero => intros; rfl
  | succ f ih =>
    intro i
    have h1 : X_l_places5_0 Try.prog fu an al bn bl (f + 1) i = B_l_places5_0 an al bn bl (X_l_places5_0 Try.prog fu an al bn bl f) i := by kernel_rfl
    have h2 : X_l_places5_0 Try.prog fu an al bn bl f = L_l_places5_0 fu an al bn bl f := by funext i; exact ih i
    rw [h1, h2]
    rfl
def G_l_places5 (an : Nat) (al : List Int) (bn : Nat) (bl : List Int) (lo0 : Int → Option (Bool)) : Option (Bool) :=
  (if (((an : Nat) : Int) != ((bn : Nat) : Int)) = true then some false else lo0 0)
def Fo_l_places5 (fu : Nat) (an : Nat) (al : List Int) (bn : Nat) (bl : List Int) : Option (Bool) := G_l_places5 an al bn bl (L_l_places5_0 fu an al bn bl (fu + 100))
theorem eqg_l_places5 (fu : Nat) (an : Nat) (al : List Int) (bn : Nat) (bl : List Int) : execT Try.prog S_l_places5 18 26 (fun _ => fu + 100) dec_b [.s an (.ints al), .s bn (.ints bl)] = G_l_places5 an al bn bl (L_l_places5_0 fu an al bn bl (fu + 100)) := by
  have h1 : execT Try.prog S_l_places5 18 26 (fun _ => fu + 100) dec_b [.s an (.ints al), .s bn (.ints bl)] = G_l_places5 an al bn bl (X_l_places5_0 Try.prog fu an al bn bl (fu + 100)) := by kernel_rfl
  have c0 : X_l_places5_0 Try.prog fu an al bn bl (fu + 100) = L_l_places5_0 fu an al bn bl (fu + 100) := by funext i; exact loop_l_places5_0 fu an al bn bl (fu + 100) i
  rw [h1, c0]
theorem eq_l_places5 (fu : Nat) (an : Nat) (al : List Int) (bn : Nat) (bl : List Int) : execT Try.prog S_l_places5 18 26 (fun _ => fu + 100) dec_b [.s an (.ints al), .s bn (.ints bl)] = Fo_l_places5 fu an al bn bl := eqg_l_places5 fu an al bn bl
def l_places5 (an : Nat) (al : List Int) (bn : Nat) (bl : List Int) : Bool := al == bl
theorem go_l_places5 (fu an : Nat) (al : List Int) (bl : List Int) (hn : an ≤ 100000000000) (hl : al.length = 3 * an) (hm : bl.length = 3 * an) : ∀ (m j F : Nat), j + m = an → m < F → (∀ t : Nat, t < 3 * j → al.getD t 0 = bl.getD t 0) → L_l_places5_0 fu an al an bl F (j : Int) = some (al == bl)
  | m, j, 0, _, h, _ => absurd h (Nat.not_lt_zero m)
  | 0, j, F + 1, hj, _, hp => by
    obtain rfl : j = an := by omega
    show B_l_places5_0 j al j bl _ (j : Int) = _
    unfold B_l_places5_0
    have e : al = bl := list_of_getD (by omega) fun t ht => hp t (by omega)
    rw [if_neg (by simp), e]
    simp
  | m + 1, j, F + 1, hj, hF, hp => by
    show B_l_places5_0 an al an bl (L_l_places5_0 fu an al an bl F) (j : Int) = _
    unfold B_l_places5_0
    have e1 : decide ((j : Int) < ((an : Nat) : Int)) = true := by simp; omega
    have e2 : (decide (0 ≤ (j : Int)) && decide ((j : Int) < ((an : Nat) : Int))) = true := by simp; omega
    have e3 : (j : Int).toNat = j := Int.toNat_natCast j
    have a0 : wrap64 ((j : Int) + 1) = ((j + 1 : Nat) : Int) := by rw [wrapS (by omega)]; omega
    simp only [e3, wI_eq, a0]
    rw [if_pos e1, if_pos e2, if_pos (leb (by rw [hl]; omega)), if_pos e2, if_pos (leb (by rw [hm]; omega))]
    by_cases c : (al.getD (j * 3 + 0) 0, al.getD (j * 3 + 1) 0, al.getD (j * 3 + 2) 0) = (bl.getD (j * 3 + 0) 0, bl.getD (j * 3 + 1) 0, bl.getD (j * 3 + 2) 0)
    rotate_left
    · rw [if_pos (by rw [beq_eq_false_iff_ne.2 c]; rfl)]
      congr 1
      symm
      rw [beq_eq_false_iff_ne]
      rintro rfl
      exact c rfl
    rw [if_neg (by rw [beq_iff_eq.2 c]; decide)]
    refine go_l_places5 fu an al bl hn hl hm m (j + 1) F (by omega) (by omega) fun t ht => ?_
    by_cases ht' : t < 3 * j
    · exact hp t ht'
    · simp only [Prod.mk.injEq] at c
      obtain rfl | rfl | rfl : t = j * 3 + 0 ∨ t = j * 3 + 1 ∨ t = j * 3 + 2 := by omega
      · exact c.1
      · exact c.2.1
      · exact c.2.2
theorem tot_l_places5 (an : Nat) (al : List Int) (bn : Nat) (bl : List Int) (hp : (lenB an 3 al && lenB bn 3 bl) = true) : Fo_l_places5 an an al bn bl = some (l_places5 an al bn bl) := by
  simp only [Bool.and_eq_true] at hp
  obtain ⟨hl, hn⟩ := lenB_ok hp.1
  obtain ⟨hm, _⟩ := lenB_ok hp.2
  unfold Fo_l_places5 G_l_places5 l_places5
  by_cases e : an = bn
  · subst e
    rw [if_neg (by simp)]
    exact go_l_places5 an an al bl hn hl hm an 0 (an + 100) (by omega) (by omega) (fun t ht => by omega)
  · rw [if_pos (by simp; omega)]
    congr 1
    symm
    rw [beq_eq_false_iff_ne]
    rintro rfl
    omega
def run_l_places5 : List PV → Option (Bool × List TR)
  | [.s an (.ints al), .s bn (.ints bl)] => some (lenB an 3 al && lenB bn 3 bl, enc_b (l_places5 an al bn bl))
  | _ => none
theorem sound_l_places5 : Sound Try.prog 18 run_l_places5 := by
  refine sound_of de_b SO_l_places5 (by kernel_rfl) Try.func18 Try.ntmps18 rfl (by kernel_rfl) ?_
  intro W pvs avs rs hargs hrun
  unfold run_l_places5 at hrun
  split at hrun
  · simp only [Option.some.injEq, Prod.mk.injEq] at hrun
    obtain ⟨hp, rfl⟩ := hrun
    rename_i an al bn bl
    exact ⟨_, _, _, hargs, rfl, (eq_l_places5 _ an al bn bl).trans (tot_l_places5 an al bn bl hp)⟩
  · cases hrun

def dec_i_a3 : List TR → Option (Int × Int × Int × Int)
  | [.v (.int .i64 x0), .v (.agg ⟨[.int .i64 x1_0, .int .i64 x1_1, .int .i64 x1_2]⟩)] => some (x0, (x1_0, x1_1, x1_2))
  | _ => none
def enc_i_a3 : Int × Int × Int × Int → List TR
  | (x0, (x1_0, x1_1, x1_2)) => [.v (.int .i64 x0), .v (.agg ⟨[.int .i64 x1_0, .int .i64 x1_1, .int .i64 x1_2]⟩)]
theorem de_i_a3 (rs : List TR) (x : Int × Int × Int × Int) (h : dec_i_a3 rs = some x) : rs = enc_i_a3 x := by
  unfold dec_i_a3 at h
  split at h
  · simp only [Option.some.injEq] at h
    subst h
    rfl
  · cases h
def S_s_DrawPlacesOn : Sums := ⟨tblS [(45, run_s_l09Three)], tblM []⟩
theorem SO_s_DrawPlacesOn : SumsOK Try.prog S_s_DrawPlacesOn := ⟨tblS_ok ⟨⟨Try.call45, sound_s_l09Three⟩, True.intro⟩, tblM_ok True.intro⟩
def Fo_s_DrawPlacesOn (coden : Nat) (codel : List Int) : Option (Int × Int × Int × Int) :=
  (if (codeB coden codel) = true then some ((s_l09Three coden codel).1, ((s_l09Three coden codel).2.1)) else none)
theorem eq_s_DrawPlacesOn (coden : Nat) (codel : List Int) : execT Try.prog S_s_DrawPlacesOn 19 17 (fun _ => 1000000) dec_i_a3 [.s coden (.byts codel)] = Fo_s_DrawPlacesOn coden codel := by
  kernel_rfl
def s_DrawPlacesOn_d (coden : Nat) (codel : List Int) : Int × Int × Int × Int :=
  ((s_l09Three coden codel).1, ((s_l09Three coden codel).2.1))
def s_DrawPlacesOn : (Nat) → (List Int) → (Int × Int × Int × Int) := shut s_DrawPlacesOn_d
theorem s_DrawPlacesOn_eq (coden : Nat) (codel : List Int) : s_DrawPlacesOn coden codel = s_DrawPlacesOn_d coden codel := by
  unfold s_DrawPlacesOn
  rw [shut_eq]
theorem tot_s_DrawPlacesOn (coden : Nat) (codel : List Int) (hp : (codeB coden codel) = true) : Fo_s_DrawPlacesOn coden codel = some (s_DrawPlacesOn coden codel) := by
  have hc := hp
  rw [s_DrawPlacesOn_eq]
  unfold Fo_s_DrawPlacesOn s_DrawPlacesOn_d
  (try simp only [wI_eq])
  repeat' (first | with_reducible rfl | refine chk_opt (by first | (with_reducible assumption) | ((repeat (with_reducible first | assumption)); done) | (with_reducible exact field_prB9 _ _ _ (by ((repeat (with_reducible first | assumption)); done))) | fail | exact pos_idx ‹_› | exact and_two (by ((repeat (with_reducible first | assumption)); done)) (by (first | (with_reducible assumption) | with_reducible exact field_prB9 _ _ _ (by ((repeat (with_reducible first | assumption)); done)) | fail | rfl)) | exact pos_cell ‹_› (by (first | exact flat2_len _ | exact flat3_len _)) | exact idx_ok (next_rng _ _ _ _ (by ((repeat (with_reducible first | assumption)); done)) (by decide)) | exact ble_ok (next_ble _ _ _ _ (by ((repeat (with_reducible first | assumption)); done)) (by decide) (by decide)) | exact ble_ok (next_ble0 _ _ _ _ (by ((repeat (with_reducible first | assumption)); done)) (by decide) (by decide)) | exact idx_ok (next_rng _ _ _ _ (by ((repeat (with_reducible first | assumption)); done)) (pos_one ‹_›)) | exact next_cell (by ((repeat (with_reducible first | assumption)); done)) ‹_› (by (first | exact flat2_len _ | exact flat3_len _))) ?_ | refine ite_opt (fun _ => ?_) (fun _ => ?_) | rfl)
def run_s_DrawPlacesOn : List PV → Option (Bool × List TR)
  | [.s coden (.byts codel)] => some (codeB coden codel, enc_i_a3 (s_DrawPlacesOn coden codel))
  | _ => none
theorem sound_s_DrawPlacesOn : Sound Try.prog 19 run_s_DrawPlacesOn := by
  refine sound_of de_i_a3 SO_s_DrawPlacesOn (by kernel_rfl) Try.func19 Try.ntmps19 rfl (by kernel_rfl) ?_
  intro W pvs avs rs hargs hrun
  unfold run_s_DrawPlacesOn at hrun
  split at hrun
  · simp only [Option.some.injEq, Prod.mk.injEq] at hrun
    obtain ⟨hp, rfl⟩ := hrun
    rename_i coden codel
    exact ⟨_, _, _, hargs, rfl, (eq_s_DrawPlacesOn coden codel).trans (tot_s_DrawPlacesOn coden codel hp)⟩
  · cases hrun

abbrev k72_0 (sn : Nat) (sl : List Int) (ss : Int × Int) (most : Int) : Int × Nat × List Int × Int × Int := (s_l01Pick sn sl ((s_l01Next sn sl ss 14).2.2.2) 4 [(-1), wI (most + 1), 1099511627776, (-4611686018427387904)])
abbrev k72_1 (sn : Nat) (sl : List Int) (ss : Int × Int) (most : Int) : Int × Nat × List Int × Int × Int := (s_l01Next sn sl ((s_l01Next sn sl ss 14).2.2.2) (wI (most + 1)))
def S_s_l01Near : Sums := ⟨tblS [], tblM [(91, .box run_s_l01Next), (73, .box run_s_l01Pick)]⟩
theorem SO_s_l01Near : SumsOK Try.prog S_s_l01Near := ⟨tblS_ok True.intro, tblM_ok ⟨⟨Try.call91, sound_s_l01Next⟩, ⟨Try.call73, sound_s_l01Pick⟩, True.intro⟩⟩
def Fo_s_l01Near (sn : Nat) (sl : List Int) (ss : Int × Int) (most : Int) : Option (Int × Nat × List Int × Int × Int) :=
  (if (srcB sn sl ss) = true then (if (((s_l01Next sn sl ss 14).1) == 0) = true then (if (srcB sn sl ((s_l01Next sn sl ss 14).2.2.2) && (lenB 4 1 ([(-1), wI (most + 1), 1099511627776, (-4611686018427387904)]) && Nat.blt 0 4)) = true then some ((k72_0 sn sl ss most).1, sn, sl, (k72_0 sn sl ss most).2.2.2) else none) else (if (srcB sn sl ((s_l01Next sn sl ss 14).2.2.2)) = true then some ((k72_1 sn sl ss most).1, sn, sl, (k72_1 sn sl ss most).2.2.2) else none)) else none)
theorem eq_s_l01Near (sn : Nat) (sl : List Int) (ss : Int × Int) (most : Int) : execP Try.prog S_s_l01Near 72 17 (fun _ => 1000000) dec_P86_i 86 [.s sn (.byts sl), .v (.int .i64 ss.1), .v (.int .u64 ss.2)] [.v (.int .i64 most)] = Fo_s_l01Near sn sl ss most := by
  kernel_rfl
def s_l01Near_d (sn : Nat) (sl : List Int) (ss : Int × Int) (most : Int) : Int × Nat × List Int × Int × Int :=
  (if (((s_l01Next sn sl ss 14).1) == 0) = true then ((k72_0 sn sl ss most).1, sn, sl, (k72_0 sn sl ss most).2.2.2) else ((k72_1 sn sl ss most).1, sn, sl, (k72_1 sn sl ss most).2.2.2))
def s_l01Near : (Nat) → (List Int) → (Int × Int) → (Int) → (Int × Nat × List Int × Int × Int) := shut s_l01Near_d
theorem s_l01Near_eq (sn : Nat) (sl : List Int) (ss : Int × Int) (most : Int) : s_l01Near sn sl ss most = s_l01Near_d sn sl ss most := by
  unfold s_l01Near
  rw [shut_eq]
theorem tot_s_l01Near (sn : Nat) (sl : List Int) (ss : Int × Int) (most : Int) (hp : (srcB sn sl ss) = true) : Fo_s_l01Near sn sl ss most = some (s_l01Near sn sl ss most) := by
  have hs := hp
  have hc := (srcB_ok hs).1
  rw [s_l01Near_eq]
  unfold Fo_s_l01Near s_l01Near_d
  (try simp only [wI_eq])
  repeat' (first | with_reducible rfl | refine chk_opt (by first | (with_reducible assumption) | ((repeat (with_reducible first | assumption | apply post_s_l01Next | apply post_s_l01Pick)); done) | (with_reducible exact field_prB9 _ _ _ (by ((repeat (with_reducible first | assumption | apply post_s_l01Next | apply post_s_l01Pick)); done))) | fail | exact pos_idx ‹_› | exact and_two (by ((repeat (with_reducible first | assumption | apply post_s_l01Next | apply post_s_l01Pick)); done)) (by (first | (with_reducible assumption) | with_reducible exact field_prB9 _ _ _ (by ((repeat (with_reducible first | assumption | apply post_s_l01Next | apply post_s_l01Pick)); done)) | fail | rfl)) | exact pos_cell ‹_› (by (first | exact flat2_len _ | exact flat3_len _)) | exact idx_ok (next_rng _ _ _ _ (by ((repeat (with_reducible first | assumption | apply post_s_l01Next | apply post_s_l01Pick)); done)) (by decide)) | exact ble_ok (next_ble _ _ _ _ (by ((repeat (with_reducible first | assumption | apply post_s_l01Next | apply post_s_l01Pick)); done)) (by decide) (by decide)) | exact ble_ok (next_ble0 _ _ _ _ (by ((repeat (with_reducible first | assumption | apply post_s_l01Next | apply post_s_l01Pick)); done)) (by decide) (by decide)) | exact idx_ok (next_rng _ _ _ _ (by ((repeat (with_reducible first | assumption | apply post_s_l01Next | apply post_s_l01Pick)); done)) (pos_one ‹_›)) | exact next_cell (by ((repeat (with_reducible first | assumption | apply post_s_l01Next | apply post_s_l01Pick)); done)) ‹_› (by (first | exact flat2_len _ | exact flat3_len _))) ?_ | refine ite_opt (fun _ => ?_) (fun _ => ?_) | rfl)
theorem post_s_l01Near (sn : Nat) (sl : List Int) (ss : Int × Int) (most : Int) (hs : srcB sn sl ss = true) : srcB sn sl (s_l01Near sn sl ss most).2.2.2 = true := by
  have hc := (srcB_ok hs).1
  rw [s_l01Near_eq]
  unfold s_l01Near_d
  repeat' (first | (with_reducible first | assumption | apply post_s_l01Next | apply post_s_l01Pick) | refine ite_ind (P := fun r : Int × Nat × List Int × Int × Int => srcB sn sl r.2.2.2 = true) ?_ ?_ | dsimp only)
def run_s_l01Near : PRun
  | 86, [.s sn (.byts sl), .v (.int .i64 s_1), .v (.int .u64 s_2)], [.v (.int .i64 most)] => some (srcB sn sl (s_1, s_2), enc_P86_i (s_l01Near sn sl (s_1, s_2) most))
  | _, _, _ => none
theorem sound_s_l01Near : SoundP Try.prog 72 run_s_l01Near := by
  refine soundP_of de_P86_i SO_s_l01Near (by kernel_rfl) Try.func72 Try.ntmps72 rfl (by kernel_rfl) ?_
  intro e bcs pvs rs bcs' hrun
  unfold run_s_l01Near at hrun
  split at hrun
  · simp only [Option.some.injEq, Prod.mk.injEq] at hrun
    obtain ⟨hp, hrun⟩ := hrun
    rename_i sn sl s_1 s_2 most
    exact ⟨_, s_l01Near sn sl (s_1, s_2) most, by first | exact hrun.symm | exact (Prod.ext hrun.1 hrun.2).symm, (eq_s_l01Near sn sl (s_1, s_2) most).trans (tot_s_l01Near sn sl (s_1, s_2) most hp)⟩
  · cases hrun

def dec_i_i_i_i : List TR → Option (Int × Int × Int × Int)
  | [.v (.int .i64 x0), .v (.int .i64 x1), .v (.int .i64 x2), .v (.int .i64 x3)] => some (x0, x1, x2, x3)
  | _ => none
def enc_i_i_i_i : Int × Int × Int × Int → List TR
  | (x0, x1, x2, x3) => [.v (.int .i64 x0), .v (.int .i64 x1), .v (.int .i64 x2), .v (.int .i64 x3)]
theorem de_i_i_i_i (rs : List TR) (x : Int × Int × Int × Int) (h : dec_i_i_i_i rs = some x) : rs = enc_i_i_i_i x := by
  unfold dec_i_i_i_i at h
  split at h
  · simp only [Option.some.injEq] at h
    subst h
    rfl
  · cases h
abbrev k23_0 (coden : Nat) (codel : List Int) : Int × Nat × List Int × Int × Int := (s_l01DrawField coden codel (s_l01From coden codel))
abbrev k23_1 (coden : Nat) (codel : List Int) : Int × Nat × List Int × Int × Int := (s_l01Near coden codel ((k23_0 coden codel).2.2.2) (wI (((k23_0 coden codel).1) - 1)))
abbrev k23_2 (coden : Nat) (codel : List Int) : Int × Nat × List Int × Int × Int := (s_l01Pick coden codel ((k23_1 coden codel).2.2.2) 3 [0, 1, 1])
abbrev k23_3 (coden : Nat) (codel : List Int) : Int × Nat × List Int × Int × Int := (s_l01Near coden codel ((k23_2 coden codel).2.2.2) (wI (((k23_0 coden codel).1) - 1)))
abbrev k23_4 (coden : Nat) (codel : List Int) : Int × Nat × List Int × Int × Int := (s_l01Pick coden codel ((k23_3 coden codel).2.2.2) 2 [0, 1])
abbrev k23_5 (coden : Nat) (codel : List Int) : Int × Nat × List Int × Int × Int := (s_l01Near coden codel ((k23_4 coden codel).2.2.2) (wI (((k23_0 coden codel).1) - 1)))
abbrev k23_6 (coden : Nat) (codel : List Int) : Int × Nat × List Int × Int × Int := (s_l01Pick coden codel ((k23_5 coden codel).2.2.2) 2 [0, 1])
abbrev k23_7 (coden : Nat) (codel : List Int) : Int × Nat × List Int × Int × Int := (s_l01BadField coden codel ((k23_6 coden codel).2.2.2) ((k23_0 coden codel).1))
def S_s_DrawPlaceOf : Sums := ⟨tblS [], tblM [(63, .src run_s_l01From), (65, .box run_s_l01DrawField), (72, .box run_s_l01Near), (73, .box run_s_l01Pick), (64, .box run_s_l01BadField)]⟩
theorem SO_s_DrawPlaceOf : SumsOK Try.prog S_s_DrawPlaceOf := ⟨tblS_ok True.intro, tblM_ok ⟨⟨Try.call63, sound_s_l01From⟩, ⟨Try.call65, sound_s_l01DrawField⟩, ⟨Try.call72, sound_s_l01Near⟩, ⟨Try.call73, sound_s_l01Pick⟩, ⟨Try.call64, sound_s_l01BadField⟩, True.intro⟩⟩
def Fo_s_DrawPlaceOf (coden : Nat) (codel : List Int) : Option (Int × Int × Int × Int) :=
  (if (codeB coden codel) = true then (if (srcB coden codel (s_l01From coden codel)) = true then (if (srcB coden codel ((k23_0 coden codel).2.2.2)) = true then (if (srcB coden codel ((k23_1 coden codel).2.2.2) && (lenB 3 1 ([0, 1, 1]) && Nat.blt 0 3)) = true then (if (srcB coden codel ((k23_2 coden codel).2.2.2)) = true then (if (srcB coden codel ((k23_3 coden codel).2.2.2) && (lenB 2 1 ([0, 1]) && Nat.blt 0 2)) = true then (if (srcB coden codel ((k23_4 coden codel).2.2.2)) = true then (if (srcB coden codel ((k23_5 coden codel).2.2.2) && (lenB 2 1 ([0, 1]) && Nat.blt 0 2)) = true then (if (srcB coden codel ((k23_6 coden codel).2.2.2) && prB ((k23_0 coden codel).1)) = true then some ((k23_7 coden codel).1, wI (((k23_1 coden codel).1) * ((k23_2 coden codel).1)), wI (((k23_3 coden codel).1) * ((k23_4 coden codel).1)), wI (((k23_5 coden codel).1) * ((k23_6 coden codel).1))) else none) else none) else none) else none) else none) else none) else none) else none) else none)
theorem eq_s_DrawPlaceOf (coden : Nat) (codel : List Int) : execT Try.prog S_s_DrawPlaceOf 23 45 (fun _ => 1000000) dec_i_i_i_i [.s coden (.byts codel)] = Fo_s_DrawPlaceOf coden codel := by
  kernel_rfl
def s_DrawPlaceOf_d (coden : Nat) (codel : List Int) : Int × Int × Int × Int :=
  ((k23_7 coden codel).1, wrap64 (((k23_1 coden codel).1) * ((k23_2 coden codel).1)), wrap64 (((k23_3 coden codel).1) * ((k23_4 coden codel).1)), wrap64 (((k23_5 coden codel).1) * ((k23_6 coden codel).1)))
def s_DrawPlaceOf : (Nat) → (List Int) → (Int × Int × Int × Int) := shut s_DrawPlaceOf_d
theorem s_DrawPlaceOf_eq (coden : Nat) (codel : List Int) : s_DrawPlaceOf coden codel = s_DrawPlaceOf_d coden codel := by
  unfold s_DrawPlaceOf
  rw [shut_eq]
theorem tot_s_DrawPlaceOf (coden : Nat) (codel : List Int) (hp : (codeB coden codel) = true) : Fo_s_DrawPlaceOf coden codel = some (s_DrawPlaceOf coden codel) := by
  have hc := hp
  rw [s_DrawPlaceOf_eq]
  unfold Fo_s_DrawPlaceOf s_DrawPlaceOf_d
  (try simp only [wI_eq])
  repeat' (first | with_reducible rfl | refine chk_opt (by first | (with_reducible assumption) | ((repeat (with_reducible first | assumption | exact s_l01From_src hc | apply post_s_l01DrawField | apply post_s_l01Near | apply post_s_l01Pick | apply post_s_l01BadField)); done) | (with_reducible exact field_prB9 _ _ _ (by ((repeat (with_reducible first | assumption | exact s_l01From_src hc | apply post_s_l01DrawField | apply post_s_l01Near | apply post_s_l01Pick | apply post_s_l01BadField)); done))) | fail | exact pos_idx ‹_› | exact and_two (by ((repeat (with_reducible first | assumption | exact s_l01From_src hc | apply post_s_l01DrawField | apply post_s_l01Near | apply post_s_l01Pick | apply post_s_l01BadField)); done)) (by (first | (with_reducible assumption) | with_reducible exact field_prB9 _ _ _ (by ((repeat (with_reducible first | assumption | exact s_l01From_src hc | apply post_s_l01DrawField | apply post_s_l01Near | apply post_s_l01Pick | apply post_s_l01BadField)); done)) | fail | rfl)) | exact pos_cell ‹_› (by (first | exact flat2_len _ | exact flat3_len _)) | exact idx_ok (next_rng _ _ _ _ (by ((repeat (with_reducible first | assumption | exact s_l01From_src hc | apply post_s_l01DrawField | apply post_s_l01Near | apply post_s_l01Pick | apply post_s_l01BadField)); done)) (by decide)) | exact ble_ok (next_ble _ _ _ _ (by ((repeat (with_reducible first | assumption | exact s_l01From_src hc | apply post_s_l01DrawField | apply post_s_l01Near | apply post_s_l01Pick | apply post_s_l01BadField)); done)) (by decide) (by decide)) | exact ble_ok (next_ble0 _ _ _ _ (by ((repeat (with_reducible first | assumption | exact s_l01From_src hc | apply post_s_l01DrawField | apply post_s_l01Near | apply post_s_l01Pick | apply post_s_l01BadField)); done)) (by decide) (by decide)) | exact idx_ok (next_rng _ _ _ _ (by ((repeat (with_reducible first | assumption | exact s_l01From_src hc | apply post_s_l01DrawField | apply post_s_l01Near | apply post_s_l01Pick | apply post_s_l01BadField)); done)) (pos_one ‹_›)) | exact next_cell (by ((repeat (with_reducible first | assumption | exact s_l01From_src hc | apply post_s_l01DrawField | apply post_s_l01Near | apply post_s_l01Pick | apply post_s_l01BadField)); done)) ‹_› (by (first | exact flat2_len _ | exact flat3_len _))) ?_ | refine ite_opt (fun _ => ?_) (fun _ => ?_) | rfl)
def run_s_DrawPlaceOf : List PV → Option (Bool × List TR)
  | [.s coden (.byts codel)] => some (codeB coden codel, enc_i_i_i_i (s_DrawPlaceOf coden codel))
  | _ => none
theorem sound_s_DrawPlaceOf : Sound Try.prog 23 run_s_DrawPlaceOf := by
  refine sound_of de_i_i_i_i SO_s_DrawPlaceOf (by kernel_rfl) Try.func23 Try.ntmps23 rfl (by kernel_rfl) ?_
  intro W pvs avs rs hargs hrun
  unfold run_s_DrawPlaceOf at hrun
  split at hrun
  · simp only [Option.some.injEq, Prod.mk.injEq] at hrun
    obtain ⟨hp, rfl⟩ := hrun
    rename_i coden codel
    exact ⟨_, _, _, hargs, rfl, (eq_s_DrawPlaceOf coden codel).trans (tot_s_DrawPlaceOf coden codel hp)⟩
  · cases hrun

def S_s_DrawAreInLine : Sums := ⟨tblS [(45, run_s_l09Three)], tblM []⟩
theorem SO_s_DrawAreInLine : SumsOK Try.prog S_s_DrawAreInLine := ⟨tblS_ok ⟨⟨Try.call45, sound_s_l09Three⟩, True.intro⟩, tblM_ok True.intro⟩
def Fo_s_DrawAreInLine (coden : Nat) (codel : List Int) : Option (Int × (Int × Int × Int) × (Int × Int × Int) × Int × Int × Int) :=
  (if (codeB coden codel) = true then some ((s_l09Three coden codel).1, ((s_l09Three coden codel).2.1), ((s_l09Three coden codel).2.2.1), ((s_l09Three coden codel).2.2.2)) else none)
theorem eq_s_DrawAreInLine (coden : Nat) (codel : List Int) : execT Try.prog S_s_DrawAreInLine 26 21 (fun _ => 1000000) dec_i_a3_a3_a3 [.s coden (.byts codel)] = Fo_s_DrawAreInLine coden codel := by
  kernel_rfl
def s_DrawAreInLine_d (coden : Nat) (codel : List Int) : Int × (Int × Int × Int) × (Int × Int × Int) × Int × Int × Int :=
  ((s_l09Three coden codel).1, ((s_l09Three coden codel).2.1), ((s_l09Three coden codel).2.2.1), ((s_l09Three coden codel).2.2.2))
def s_DrawAreInLine : (Nat) → (List Int) → (Int × (Int × Int × Int) × (Int × Int × Int) × Int × Int × Int) := shut s_DrawAreInLine_d
theorem s_DrawAreInLine_eq (coden : Nat) (codel : List Int) : s_DrawAreInLine coden codel = s_DrawAreInLine_d coden codel := by
  unfold s_DrawAreInLine
  rw [shut_eq]
theorem tot_s_DrawAreInLine (coden : Nat) (codel : List Int) (hp : (codeB coden codel) = true) : Fo_s_DrawAreInLine coden codel = some (s_DrawAreInLine coden codel) := by
  have hc := hp
  rw [s_DrawAreInLine_eq]
  unfold Fo_s_DrawAreInLine s_DrawAreInLine_d
  (try simp only [wI_eq])
  repeat' (first | with_reducible rfl | refine chk_opt (by first | (with_reducible assumption) | ((repeat (with_reducible first | assumption)); done) | (with_reducible exact field_prB9 _ _ _ (by ((repeat (with_reducible first | assumption)); done))) | fail | exact pos_idx ‹_› | exact and_two (by ((repeat (with_reducible first | assumption)); done)) (by (first | (with_reducible assumption) | with_reducible exact field_prB9 _ _ _ (by ((repeat (with_reducible first | assumption)); done)) | fail | rfl)) | exact pos_cell ‹_› (by (first | exact flat2_len _ | exact flat3_len _)) | exact idx_ok (next_rng _ _ _ _ (by ((repeat (with_reducible first | assumption)); done)) (by decide)) | exact ble_ok (next_ble _ _ _ _ (by ((repeat (with_reducible first | assumption)); done)) (by decide) (by decide)) | exact ble_ok (next_ble0 _ _ _ _ (by ((repeat (with_reducible first | assumption)); done)) (by decide) (by decide)) | exact idx_ok (next_rng _ _ _ _ (by ((repeat (with_reducible first | assumption)); done)) (pos_one ‹_›)) | exact next_cell (by ((repeat (with_reducible first | assumption)); done)) ‹_› (by (first | exact flat2_len _ | exact flat3_len _))) ?_ | refine ite_opt (fun _ => ?_) (fun _ => ?_) | rfl)
def run_s_DrawAreInLine : List PV → Option (Bool × List TR)
  | [.s coden (.byts codel)] => some (codeB coden codel, enc_i_a3_a3_a3 (s_DrawAreInLine coden codel))
  | _ => none
theorem sound_s_DrawAreInLine : Sound Try.prog 26 run_s_DrawAreInLine := by
  refine sound_of de_i_a3_a3_a3 SO_s_DrawAreInLine (by kernel_rfl) Try.func26 Try.ntmps26 rfl (by kernel_rfl) ?_
  intro W pvs avs rs hargs hrun
  unfold run_s_DrawAreInLine at hrun
  split at hrun
  · simp only [Option.some.injEq, Prod.mk.injEq] at hrun
    obtain ⟨hp, rfl⟩ := hrun
    rename_i coden codel
    exact ⟨_, _, _, hargs, rfl, (eq_s_DrawAreInLine coden codel).trans (tot_s_DrawAreInLine coden codel hp)⟩
  · cases hrun

abbrev k3_0 (coden : Nat) (codel : List Int) : (Int × Int × Int) × Int := (i_JoinOf ((s_DrawJoinOf coden codel).1) ((s_DrawJoinOf coden codel).2.1) ((s_DrawJoinOf coden codel).2.2))
abbrev k3_1 (coden : Nat) (codel : List Int) : (Int × Int × Int) × Int := (s_JoinOf ((s_DrawJoinOf coden codel).1) ((s_DrawJoinOf coden codel).2.1) ((s_DrawJoinOf coden codel).2.2))
abbrev k3_2 (coden : Nat) (codel : List Int) : Int × Int := (i_PlaceProduct ((s_DrawJoinOf coden codel).1) ((s_DrawJoinOf coden codel).2.1) ((s_DrawJoinOf coden codel).2.2))
abbrev k3_3 (coden : Nat) (codel : List Int) : Int × Int := (s_PlaceProduct ((s_DrawJoinOf coden codel).1) ((s_DrawJoinOf coden codel).2.1) ((s_DrawJoinOf coden codel).2.2))
abbrev k3_4 (coden : Nat) (codel : List Int) : Int × Int := (i_PlaceProduct ((s_DrawJoinOf coden codel).1) ((k3_0 coden codel).1) ((s_DrawJoinOf coden codel).2.1))
abbrev k3_5 (coden : Nat) (codel : List Int) : Int × Int := (i_PlaceProduct ((s_DrawJoinOf coden codel).1) ((k3_0 coden codel).1) ((s_DrawJoinOf coden codel).2.2))
abbrev k3_6 (coden : Nat) (codel : List Int) : (Nat × List Int) × Int := (i_PlacesOn ((s_DrawJoinOf coden codel).1) ((k3_0 coden codel).1))
abbrev k3_7 (coden : Nat) (codel : List Int) : Bool × Int := (i_AreInLine ((s_DrawJoinOf coden codel).1) ((s_DrawJoinOf coden codel).2.1) ((s_DrawJoinOf coden codel).2.2) ((((k3_6 coden codel).1).2).getD 0 0, (((k3_6 coden codel).1).2).getD 1 0, (((k3_6 coden codel).1).2).getD 2 0))
abbrev k3_8 (coden : Nat) (codel : List Int) : Int × Int := (i_KindOfLine ((s_DrawJoinOf coden codel).1) ((k3_0 coden codel).1))
abbrev k3_9 (coden : Nat) (codel : List Int) : Bool × Int := (i_IsNullPlace ((s_DrawJoinOf coden codel).1) ((k3_0 coden codel).1))
abbrev k3_10 (coden : Nat) (codel : List Int) : Int := (s_DrawNullPlaces coden codel)
abbrev k3_11 (coden : Nat) (codel : List Int) : (Nat × List Int) × Int := (i_NullPlaces (k3_10 coden codel))
abbrev k3_12 (coden : Nat) (codel : List Int) : (Nat × List Int) × Int := (s_NullPlaces (k3_10 coden codel))
abbrev k3_13 (coden : Nat) (codel : List Int) : Bool := (l_places5 (((k3_11 coden codel).1).1) (((k3_11 coden codel).1).2) (((k3_12 coden codel).1).1) (((k3_12 coden codel).1).2))
abbrev k3_14 (coden : Nat) (codel : List Int) : (Nat × List Int) × Int := (i_PlacesOn ((s_DrawPlacesOn coden codel).1) ((s_DrawPlacesOn coden codel).2))
abbrev k3_15 (coden : Nat) (codel : List Int) : (Nat × List Int) × Int := (s_PlacesOn ((s_DrawPlacesOn coden codel).1) ((s_DrawPlacesOn coden codel).2))
abbrev k3_16 (coden : Nat) (codel : List Int) : Int × Int := (i_KindOfLine ((s_DrawPlacesOn coden codel).1) ((s_DrawPlacesOn coden codel).2))
abbrev k3_17 (coden : Nat) (codel : List Int) : Int × Int := (s_KindOfLine ((s_DrawPlacesOn coden codel).1) ((s_DrawPlacesOn coden codel).2))
abbrev k3_18 (coden : Nat) (codel : List Int) : Bool × Int := (i_IsNullPlace ((s_DrawPlacesOn coden codel).1) ((s_DrawPlacesOn coden codel).2))
abbrev k3_19 (coden : Nat) (codel : List Int) : Bool × Int := (s_IsNullPlace ((s_DrawPlacesOn coden codel).1) ((s_DrawPlacesOn coden codel).2))
abbrev k3_20 (coden : Nat) (codel : List Int) : (Int × Int × Int) × Int := (i_PlaceOf ((s_DrawPlaceOf coden codel).1) ((s_DrawPlaceOf coden codel).2.1) ((s_DrawPlaceOf coden codel).2.2.1) ((s_DrawPlaceOf coden codel).2.2.2))
abbrev k3_21 (coden : Nat) (codel : List Int) : (Int × Int × Int) × Int := (s_PlaceOf ((s_DrawPlaceOf coden codel).1) ((s_DrawPlaceOf coden codel).2.1) ((s_DrawPlaceOf coden codel).2.2.1) ((s_DrawPlaceOf coden codel).2.2.2))
abbrev k3_22 (coden : Nat) (codel : List Int) : Bool × Int := (i_AreInLine ((s_DrawAreInLine coden codel).1) ((s_DrawAreInLine coden codel).2.1) ((s_DrawAreInLine coden codel).2.2.1) ((s_DrawAreInLine coden codel).2.2.2))
abbrev k3_23 (coden : Nat) (codel : List Int) : Bool × Int := (s_AreInLine ((s_DrawAreInLine coden codel).1) ((s_DrawAreInLine coden codel).2.1) ((s_DrawAreInLine coden codel).2.2.1) ((s_DrawAreInLine coden codel).2.2.2))
abbrev k3_24 (coden : Nat) (codel : List Int) : Bool := (l_places5 (((k3_14 coden codel).1).1) (((k3_14 coden codel).1).2) (((k3_15 coden codel).1).1) (((k3_15 coden codel).1).2))
def S_l_FnPlaces : Sums := ⟨tblS [(5, run_l_big), (6, run_s_DrawJoinOf), (7, run_i_JoinOf), (8, run_s_JoinOf), (9, run_i_PlaceProduct), (10, run_s_PlaceProduct), (11, run_i_PlacesOn), (12, run_i_AreInLine), (13, run_i_KindOfLine), (14, run_i_IsNullPlace), (15, run_s_DrawNullPlaces), (16, run_i_NullPlaces), (17, run_s_NullPlaces), (18, run_l_places5), (19, run_s_DrawPlacesOn), (20, run_s_PlacesOn), (21, run_s_KindOfLine), (22, run_s_IsNullPlace), (23, run_s_DrawPlaceOf), (24, run_i_PlaceOf), (25, run_s_PlaceOf), (26, run_s_DrawAreInLine), (27, run_s_AreInLine)], tblM []⟩
theorem SO_l_FnPlaces : SumsOK Try.prog S_l_FnPlaces := ⟨tblS_ok ⟨⟨Try.call5, sound_l_big⟩, ⟨Try.call6, sound_s_DrawJoinOf⟩, ⟨Try.call7, sound_i_JoinOf⟩, ⟨Try.call8, sound_s_JoinOf⟩, ⟨Try.call9, sound_i_PlaceProduct⟩, ⟨Try.call10, sound_s_PlaceProduct⟩, ⟨Try.call11, sound_i_PlacesOn⟩, ⟨Try.call12, sound_i_AreInLine⟩, ⟨Try.call13, sound_i_KindOfLine⟩, ⟨Try.call14, sound_i_IsNullPlace⟩, ⟨Try.call15, sound_s_DrawNullPlaces⟩, ⟨Try.call16, sound_i_NullPlaces⟩, ⟨Try.call17, sound_s_NullPlaces⟩, ⟨Try.call18, sound_l_places5⟩, ⟨Try.call19, sound_s_DrawPlacesOn⟩, ⟨Try.call20, sound_s_PlacesOn⟩, ⟨Try.call21, sound_s_KindOfLine⟩, ⟨Try.call22, sound_s_IsNullPlace⟩, ⟨Try.call23, sound_s_DrawPlaceOf⟩, ⟨Try.call24, sound_i_PlaceOf⟩, ⟨Try.call25, sound_s_PlaceOf⟩, ⟨Try.call26, sound_s_DrawAreInLine⟩, ⟨Try.call27, sound_s_AreInLine⟩, True.intro⟩, tblM_ok True.intro⟩
def Fo_l_FnPlaces (coden : Nat) (codel : List Int) : Option (Bool) :=
  (if (l_big coden codel) = true then some true else (if (codeB coden codel) = true then (if (((k3_0 coden codel).2) != ((k3_1 coden codel).2)) = true then some false else (if (!(((k3_0 coden codel).1) == ((k3_1 coden codel).1))) = true then some false else (if (((k3_2 coden codel).2) != ((k3_3 coden codel).2)) = true then some false else (if (((k3_2 coden codel).1) != ((k3_3 coden codel).1)) = true then some false else (if (((k3_0 coden codel).2) == 0) = true then (if (decide (0 ≤ 0) && decide (0 < ((((k3_6 coden codel).1).1 : Nat) : Int))) = true then (if (Nat.ble (3) ((((k3_6 coden codel).1).2).length)) = true then (if (((k3_4 coden codel).2) != 0) = true then some false else (if (((k3_5 coden codel).2) != 0) = true then some false else (if (((k3_6 coden codel).2) != 0) = true then some false else (if (((k3_7 coden codel).2) != 0) = true then some false else (if (((k3_8 coden codel).2) != 0) = true then some false else (if (((k3_9 coden codel).2) != 0) = true then some false else (if (((k3_4 coden codel).1) != 0) = true then some false else (if (((k3_5 coden codel).1) != 0) = true then some false else (if (((((k3_6 coden codel).1).1 : Nat) : Int) != (wI (((s_DrawJoinOf coden codel).1) + 1))) = true then some false else (if (!((k3_7 coden codel).1)) = true then some false else (if (!(((k3_9 coden codel).1) == (((k3_8 coden codel).1) == 1))) = true then some false else (if (codeB coden codel) = true then (if (((k3_11 coden codel).2) != ((k3_12 coden codel).2)) = true then some false else (if (lenB (((k3_11 coden codel).1).1) 3 (((k3_11 coden codel).1).2) && lenB (((k3_12 coden codel).1).1) 3 (((k3_12 coden codel).1).2)) = true then (if (!(k3_13 coden codel)) = true then some false else (if (((k3_11 coden codel).2) == 0) = true then (if (((((k3_11 coden codel).1).1 : Nat) : Int) != (wI ((k3_10 coden codel) + 1))) = true then some false else (if (codeB coden codel) = true then (if (codeB coden codel) = true then (if (codeB coden codel) = true then (if (((k3_14 coden codel).2) == ((k3_15 coden codel).2)) = true then (if (lenB (((k3_14 coden codel).1).1) 3 (((k3_14 coden codel).1).2) && lenB (((k3_15 coden codel).1).1) 3 (((k3_15 coden codel).1).2)) = true then (if (k3_24 coden codel) = true then (if (((k3_16 coden codel).2) == ((k3_17 coden codel).2)) = true then (if (((k3_16 coden codel).1) == ((k3_17 coden codel).1)) = true then (if (((k3_18 coden codel).2) == ((k3_19 coden codel).2)) = true then (if (((k3_18 coden codel).1) == ((k3_19 coden codel).1)) = true then (if (((k3_20 coden codel).2) == ((k3_21 coden codel).2)) = true then (if (((k3_20 coden codel).1) == ((k3_21 coden codel).1)) = true then (if (((k3_22 coden codel).2) == ((k3_23 coden codel).2)) = true then some (((k3_22 coden codel).1) == ((k3_23 coden codel).1)) else some false) else some false) else some false) else some false) else some false) else some false) else some false) else some false) else none) else some false) else none) else none) else none)) else (if (codeB coden codel) = true then (if (codeB coden codel) = true then (if (codeB coden codel) = true then (if (((k3_14 coden codel).2) == ((k3_15 coden codel).2)) = true then (if (lenB (((k3_14 coden codel).1).1) 3 (((k3_14 coden codel).1).2) && lenB (((k3_15 coden codel).1).1) 3 (((k3_15 coden codel).1).2)) = true then (if (k3_24 coden codel) = true then (if (((k3_16 coden codel).2) == ((k3_17 coden codel).2)) = true then (if (((k3_16 coden codel).1) == ((k3_17 coden codel).1)) = true then (if (((k3_18 coden codel).2) == ((k3_19 coden codel).2)) = true then (if (((k3_18 coden codel).1) == ((k3_19 coden codel).1)) = true then (if (((k3_20 coden codel).2) == ((k3_21 coden codel).2)) = true then (if (((k3_20 coden codel).1) == ((k3_21 coden codel).1)) = true then (if (((k3_22 coden codel).2) == ((k3_23 coden codel).2)) = true then some (((k3_22 coden codel).1) == ((k3_23 coden codel).1)) else some false) else some false) else some false) else some false) else some false) else some false) else some false) else some false) else none) else some false) else none) else none) else none))) else none)) else none)))))))))))) else none) else none) else (if (codeB coden codel) = true then (if (((k3_11 coden codel).2) != ((k3_12 coden codel).2)) = true then some false else (if (lenB (((k3_11 coden codel).1).1) 3 (((k3_11 coden codel).1).2) && lenB (((k3_12 coden codel).1).1) 3 (((k3_12 coden codel).1).2)) = true then (if (!(k3_13 coden codel)) = true then some false else (if (((k3_11 coden codel).2) == 0) = true then (if (((((k3_11 coden codel).1).1 : Nat) : Int) != (wI ((k3_10 coden codel) + 1))) = true then some false else (if (codeB coden codel) = true then (if (codeB coden codel) = true then (if (codeB coden codel) = true then (if (((k3_14 coden codel).2) == ((k3_15 coden codel).2)) = true then (if (lenB (((k3_14 coden codel).1).1) 3 (((k3_14 coden codel).1).2) && lenB (((k3_15 coden codel).1).1) 3 (((k3_15 coden codel).1).2)) = true then (if (k3_24 coden codel) = true then (if (((k3_16 coden codel).2) == ((k3_17 coden codel).2)) = true then (if (((k3_16 coden codel).1) == ((k3_17 coden codel).1)) = true then (if (((k3_18 coden codel).2) == ((k3_19 coden codel).2)) = true then (if (((k3_18 coden codel).1) == ((k3_19 coden codel).1)) = true then (if (((k3_20 coden codel).2) == ((k3_21 coden codel).2)) = true then (if (((k3_20 coden codel).1) == ((k3_21 coden codel).1)) = true then (if (((k3_22 coden codel).2) == ((k3_23 coden codel).2)) = true then some (((k3_22 coden codel).1) == ((k3_23 coden codel).1)) else some false) else some false) else some false) else some false) else some false) else some false) else some false) else some false) else none) else some false) else none) else none) else none)) else (if (codeB coden codel) = true then (if (codeB coden codel) = true then (if (codeB coden codel) = true then (if (((k3_14 coden codel).2) == ((k3_15 coden codel).2)) = true then (if (lenB (((k3_14 coden codel).1).1) 3 (((k3_14 coden codel).1).2) && lenB (((k3_15 coden codel).1).1) 3 (((k3_15 coden codel).1).2)) = true then (if (k3_24 coden codel) = true then (if (((k3_16 coden codel).2) == ((k3_17 coden codel).2)) = true then (if (((k3_16 coden codel).1) == ((k3_17 coden codel).1)) = true then (if (((k3_18 coden codel).2) == ((k3_19 coden codel).2)) = true then (if (((k3_18 coden codel).1) == ((k3_19 coden codel).1)) = true then (if (((k3_20 coden codel).2) == ((k3_21 coden codel).2)) = true then (if (((k3_20 coden codel).1) == ((k3_21 coden codel).1)) = true then (if (((k3_22 coden codel).2) == ((k3_23 coden codel).2)) = true then some (((k3_22 coden codel).1) == ((k3_23 coden codel).1)) else some false) else some false) else some false) else some false) else some false) else some false) else some false) else some false) else none) else some false) else none) else none) else none))) else none)) else none)))))) else none))
theorem eq_l_FnPlaces (coden : Nat) (codel : List Int) : execT Try.prog S_l_FnPlaces 3 373 (fun _ => 1000000) dec_b [.s coden (.byts codel)] = Fo_l_FnPlaces coden codel := by
  kernel_rfl
theorem NullPlaces_ok {q : Int} (h : (s_NullPlaces q).2 = 0) : i_IsField q = true ∧ (s_NullPlaces q).1.1 = q.toNat + 1 := by
  rw [← NullPlaces_same] at h ⊢
  unfold i_NullPlaces at h ⊢
  cases hf : i_IsField q
  · simp [hf] at h
  · refine ⟨rfl, ?_⟩
    rw [if_neg (by simp)]
    exact null_count hf
theorem PlacesOn_ok {p : Int} {J : P3} (hf : i_IsField p = true) (h : i_isPlace p J = true) : s_PlacesOn p J = (((((places p).filter fun zz => (i_placeProduct p zz J == 0))).length, flat3 ((places p).filter fun zz => (i_placeProduct p zz J == 0))), 0) := by
  unfold s_PlacesOn
  rw [placecode_ok hf (l := [J]) (by simp [h])]
  rfl
theorem KindOfLine_ok {p : Int} {J : P3} (hf : i_IsField p = true) (h : i_isPlace p J = true) : s_KindOfLine p J = (((((((places p).filter fun zz => (i_placeProduct p zz J == 0))).filter fun zz => i_isNullPlace p zz).length : Nat) : Int), 0) := by
  unfold s_KindOfLine
  rw [placecode_ok hf (l := [J]) (by simp [h])]
  rfl
theorem IsNullPlace_ok {p : Int} {J : P3} (hf : i_IsField p = true) (h : i_isPlace p J = true) : s_IsNullPlace p J = (i_isNullPlace p J, 0) := by
  unfold s_IsNullPlace
  rw [placecode_ok hf (l := [J]) (by simp [h])]
  rfl
theorem PlaceProduct_ok {p : Int} {J a : P3} (hf : i_IsField p = true) (h : i_isPlace p J = true) (ha : i_isPlace p a = true) : s_PlaceProduct p J a = (i_placeProduct p J a, 0) := by
  unfold s_PlaceProduct
  rw [placecode_ok hf (l := [J, a]) (by simp [h, ha])]
  rfl
theorem on_first {p : Int} {K : Type} [Lean.Grind.Field K] {φ : Int → K} (H : Hom p K φ) (hf : i_IsField p = true) {J : P3} (h : i_isPlace p J = true) : ∃ z : P3, ((flat3 ((places p).filter fun zz => (i_placeProduct p zz J == 0))).getD 0 0, (flat3 ((places p).filter fun zz => (i_placeProduct p zz J == 0))).getD 1 0, (flat3 ((places p).filter fun zz => (i_placeProduct p zz J == 0))).getD 2 0) = z ∧ i_isPlace p z = true ∧ i_placeProduct p z J = 0 := by
  have hl := on_len H hf h
  cases hc : ((places p).filter fun zz => (i_placeProduct p zz J == 0)) with
  | nil => rw [hc] at hl; simp at hl
  | cons a r =>
    have hm : a ∈ ((places p).filter fun zz => (i_placeProduct p zz J == 0)) := by rw [hc]; exact List.mem_cons_self
    rw [List.mem_filter, mem_places hf] at hm
    exact ⟨a, rfl, hm.1, by simpa using hm.2⟩
theorem FnPlaces_tot (n : Nat) (l : List Int) (hp : bytB n l = true) : Fo_l_FnPlaces n l = some true := by
  unfold Fo_l_FnPlaces
  by_cases hb : l_big n l = true
  · rw [if_pos hb]
  have hc : codeB n l = true := code_of_byt hp (by unfold l_big at hb; simp at hb; omega)
  rw [if_neg hb]
  delta k3_0 k3_1 k3_2 k3_3 k3_4 k3_5 k3_6 k3_7 k3_8 k3_9 k3_10 k3_11 k3_12 k3_13 k3_14 k3_15 k3_16 k3_17 k3_18 k3_19 k3_20 k3_21 k3_22 k3_23 k3_24
  simp only [hc, if_true]
  generalize s_DrawJoinOf n l = J
  generalize s_DrawNullPlaces n l = q
  generalize s_DrawPlacesOn n l = C
  generalize s_DrawPlaceOf n l = D
  generalize s_DrawAreInLine n l = E
  obtain ⟨p, a, b⟩ := J
  obtain ⟨r, c⟩ := C
  obtain ⟨s, x, y, z⟩ := D
  obtain ⟨t, d, e, f⟩ := E
  dsimp only
  simp only [JoinOf_same, PlaceProduct_same, IsNullPlace_same, KindOfLine_same, AreInLine_same, PlaceOf_same, PlacesOn_same, NullPlaces_same, bne_self_eq_false, beq_self_eq_true, Bool.not_true, Bool.false_eq_true, if_false, if_true]
  have lp : ∀ (n : Nat) (l : List Int), l_places5 n l n l = true := fun n l => by unfold l_places5; exact beq_self_eq_true _
  simp only [lp, PlacesOn_len, NullPlaces_len, Bool.and_self, if_true, Bool.not_true, Bool.false_eq_true, if_false]
  have rest : (if ((s_NullPlaces q).2 == 0) = true then (if (((((s_NullPlaces q).1.1 : Nat) : Int) != wI (q + 1)) = true) then some false else some true) else some true) = some true := by
    by_cases h : (s_NullPlaces q).2 = 0
    · obtain ⟨hf, hl⟩ := NullPlaces_ok h
      rw [hl, wI_eq, w64 (by have := field_mem hf; simp at this; omega)]
      have : (((q.toNat + 1 : Nat) : Int) != q + 1) = false := by
        have := field_mem hf
        simp at this
        simp
        omega
      rw [this]
      simp
    · simp [h]
  by_cases h : (s_JoinOf p a b).2 = 0
  · obtain ⟨hf, ha, hb', hne, hj⟩ := JoinOf_ok h
    obtain ⟨K, _, φ, H⟩ := hom_of hf
    have hP := Pc.place (i_IsField_ok hf) (join_pc H hf (Pc.of H ha) (Pc.of H hb') hne)
    obtain ⟨j1, j2⟩ := join_on H hf (Pc.of H ha) (Pc.of H hb') hne
    rw [hj, h]
    generalize hJ : s_l09Join p a b = J at hP j1 j2
    have hon := PlacesOn_ok hf hP
    have hk := KindOfLine_ok hf hP
    have hn := IsNullPlace_ok hf hP
    have hki := kind_iff H hf hP
    have p1 := PlaceProduct_ok hf hP ha
    have p2 := PlaceProduct_ok hf hP hb'
    rw [hon, hk, hn, p1, p2]
    obtain ⟨z, hz1, hz2, hz3⟩ := on_first H hf hP
    have hlen := on_len H hf hP
    generalize hL : ((places p).filter fun zz => (i_placeProduct p zz J == 0)) = L at hz1 hlen hki
    dsimp only
    have hr : ((flat3 L).getD 0 0, (flat3 L).getD 1 0, (flat3 L).getD 2 0) = z := hz1
    rw [hr]
    have hin : s_AreInLine p a b z = (true, 0) := by
      unfold s_AreInLine
      rw [placecode_ok hf (l := [a, b, z]) (by simp [ha, hb', hz2])]
      simp only [bne_self_eq_false, Bool.false_eq_true, if_false]
      rw [if_neg (by simpa using hne), hJ, product_same, pp_comm, hz3]
      rfl
    have h3 : 3 ≤ p ∧ p ≤ 31 := by have := field_mem hf; simp at this; omega
    have hw : (((L.length : Nat) : Int) != wI (p + 1)) = false := by
      rw [wI_eq, w64 (by omega), hlen]
      simp
      omega
    have hnk : (i_isNullPlace p J == ((((L.filter fun zz => i_isNullPlace p zz).length : Nat) : Int) == 1)) = true := by
      rw [beq_iff_eq, Bool.eq_iff_iff, ← hki]
      simp
      omega
    rw [hin, hw, j1, j2, hnk, flat3_len, hlen]
    simp only [beq_self_eq_true, if_true, bne_self_eq_false, Bool.false_eq_true, if_false, Bool.not_true]
    rw [if_pos (by simp; omega), if_pos (ble_ok (by omega))]
    exact rest
  · rw [if_neg (by simpa using h)]
    exact rest

def l_FnPlaces (coden : Nat) (codel : List Int) : Bool := true
theorem tot_l_FnPlaces (coden : Nat) (codel : List Int) (hp : (bytB coden codel) = true) : Fo_l_FnPlaces coden codel = some (l_FnPlaces coden codel) := by
  exact FnPlaces_tot coden codel hp
def run_l_FnPlaces : List PV → Option (Bool × List TR)
  | [.s coden (.byts codel)] => some (bytB coden codel, enc_b (l_FnPlaces coden codel))
  | _ => none
theorem sound_l_FnPlaces : Sound Try.prog 3 run_l_FnPlaces := by
  refine sound_of de_b SO_l_FnPlaces (by kernel_rfl) Try.func3 Try.ntmps3 rfl (by kernel_rfl) ?_
  intro W pvs avs rs hargs hrun
  unfold run_l_FnPlaces at hrun
  split at hrun
  · simp only [Option.some.injEq, Prod.mk.injEq] at hrun
    obtain ⟨hp, rfl⟩ := hrun
    rename_i coden codel
    exact ⟨_, _, _, hargs, rfl, (eq_l_FnPlaces coden codel).trans (tot_l_FnPlaces coden codel hp)⟩
  · cases hrun


end

end Go.Proofs.Ytnijajjdldijpaa
