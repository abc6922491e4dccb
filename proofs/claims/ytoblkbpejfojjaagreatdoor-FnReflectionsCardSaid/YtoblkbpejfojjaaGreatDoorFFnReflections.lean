import Derived.Test.YtoblkbpejfojjaaGreatDoorFFnReflectionsa
set_option linter.unusedSimpArgs false
set_option linter.unusedVariables false
namespace Go.Proofs.YtoblkbpejfojjaaGreatDoor
open Go.RowKit
noncomputable section
theorem badField_mem (sn : Nat) (sl : List Int) (ss : Int × Int) (p : Int) (hs : srcB sn sl ss = true) : (s_l01BadField sn sl ss p).1 = p ∨ (s_l01BadField sn sl ss p).1 ∈ ([2, 1, 0, -3, 9, 15, 37, 1099511627776] : List Int) := by
  rw [s_l01BadField_eq]
  unfold s_l01BadField_d
  split
  · exact Or.inr (pick_mem _ _ _ _ _ (by (repeat (with_reducible first | assumption | apply post_s_l01Next))) rfl)
  · exact Or.inl rfl
theorem between_p (n : Nat) (l : List Int) (hc : codeB n l = true) (hf : i_IsField (s_DrawMovesBetween n l).1 = true) : (s_DrawMovesBetween n l).1 ∈ ([3, 5, 7, 11, 13] : List Int) := by
  have key : ∀ (ss : Int × Int) (p : Int), srcB n l ss = true → p ∈ ([3, 5, 7, 7, 11, 13] : List Int) → i_IsField (s_l01BadField n l ss p).1 = true → (s_l01BadField n l ss p).1 ∈ ([3, 5, 7, 11, 13] : List Int) := by
    intro ss p hs hp hf
    rcases badField_mem n l ss p hs with e | e
    · rw [e]
      simp at hp ⊢
      omega
    · have := field_mem hf
      simp at this e
      omega
  rw [s_DrawMovesBetween_eq] at hf ⊢
  unfold s_DrawMovesBetween_d at hf ⊢
  split at hf
  · rename_i h
    rw [if_pos h]
    exact key _ _ (by (repeat (with_reducible first | assumption | exact s_l01From_src hc | apply post_s_l01Pick | apply post_s_l01Next | apply post_s_l01DrawPoint | apply post_s_l07DrawOf | apply post_s_l01BadField))) (pickN_mem _ _ _ (by (repeat (with_reducible first | assumption | exact s_l01From_src hc | apply post_s_l01Pick | apply post_s_l01Next | apply post_s_l01DrawPoint | apply post_s_l07DrawOf | apply post_s_l01BadField)))) hf
  · rename_i h
    rw [if_neg h]
    exact key _ _ (by (repeat (with_reducible first | assumption | exact s_l01From_src hc | apply post_s_l01Pick | apply post_s_l01Next | apply post_s_l01DrawPoint | apply post_s_l07DrawOf | apply post_s_l01BadField))) (pickN_mem _ _ _ (by (repeat (with_reducible first | assumption | exact s_l01From_src hc | apply post_s_l01Pick | apply post_s_l01Next | apply post_s_l01DrawPoint | apply post_s_l07DrawOf | apply post_s_l01BadField)))) hf
theorem FixedPoints_lenR (p : Int) (m : P6) : lenB (i_FixedPoints p m).1.1 2 (i_FixedPoints p m).1.2 = true := by
  unfold i_FixedPoints
  split
  · rfl
  · rename_i h
    have h0 : i_asked p true (i_FixedPoints_c1 p m) = 0 := by simpa using h
    obtain ⟨hf, _⟩ := asked_zero h0
    rw [← fixed_is]
    unfold s_l07Fixed
    exact lenB2 (Nat.le_trans (List.length_filter_le _ _) (Nat.le_trans (pts_len (Pr_prB (i_IsField_ok hf))) (by decide)))
theorem turns_len (p c : Int) (a : P2) : (i_TurnsAbout p c a).1.2.length = 6 * (i_TurnsAbout p c a).1.1 ∧ (i_TurnsAbout p c a).1.1 ≤ 400 := by
  by_cases hz : i_asked p true (i_TurnsAbout_c1 c p a) = 0
  · obtain ⟨hf, hc, ha⟩ := turn_zero hz
    obtain ⟨K, U, V, F⟩ := facts_all hf hc
    rw [i_TurnsAbout_of (ITurns_at hz F)]
    have h := flat6_len (U.map fun m => s_l07About p m a)
    rw [List.length_map] at h
    exact ⟨h, by have := F.kn; have := F.ku; show U.length ≤ 400; omega⟩
  · have e1 : Fo_i_TurnsAbout p c a = some ((0, []), i_asked p true (i_TurnsAbout_c1 c p a)) := by
      unfold Fo_i_TurnsAbout
      rw [if_pos (Bool.true_or _), if_pos (bne_iff_ne.2 hz)]
    rw [i_TurnsAbout_of e1]
    exact ⟨rfl, Nat.zero_le _⟩
theorem between_len (p c : Int) (a b d e : P2) : (i_MovesBetween p c a b d e).1.2.length = 6 * (i_MovesBetween p c a b d e).1.1 ∧ (i_MovesBetween p c a b d e).1.1 ≤ 400 := by
  by_cases h : i_asked p true (i_MovesBetween_c1 c p a b d e) = 0
  · by_cases hq : i_quadrance p c a b = 0 ∨ i_quadrance p c a b ≠ i_quadrance p c d e
    · rw [i_MovesBetween_of (IBetween_five h hq)]
      exact ⟨rfl, Nat.zero_le _⟩
    · have q1 : i_quadrance p c a b ≠ 0 := fun e => hq (Or.inl e)
      have q2 : i_quadrance p c a b = i_quadrance p c d e := Decidable.byContradiction fun e => hq (Or.inr e)
      obtain ⟨hf, hc, ha, hb, hd, he⟩ := between_zero h
      obtain ⟨K, U, V, F⟩ := facts_all hf hc
      rw [i_MovesBetween_of (IBetween_at h q1 q2 F)]
      have h6 := flat6_len (sort6 ((K.filter fun m => i_MovesBetween_c2 m p (i_less p b a) (i_less p e d)).map (shiftM p a d)))
      rw [sort6_len] at h6
      refine ⟨h6, ?_⟩
      show ((K.filter fun m => i_MovesBetween_c2 m p (i_less p b a) (i_less p e d)).map (shiftM p a d)).length ≤ 400
      rw [List.length_map]
      exact Nat.le_trans (List.length_filter_le _ _) F.kn
  · rw [i_MovesBetween_of (IBetween_low h)]
    exact ⟨rfl, Nat.zero_le _⟩
theorem row6_ok {l : List Int} {n k : Nat} (h : l.length = 6 * n) (hk : k < n) : Nat.ble (k * 6 + 6) l.length = true := Nat.ble_eq_true_of_le (by omega)
theorem refl_m1 (n : Nat) (l : List Int) (i : Int) (r : Int → Option Bool) {F : Nat} (hF : (k4_18 n l).1.1 < F) : L_l_FnReflections_1 1000000 n l i r F 0 = some true := by
  have hlen := between_len (k4_17 n l).1 (k4_17 n l).2.1 (k4_17 n l).2.2.1 (k4_17 n l).2.2.2.1 (k4_17 n l).2.2.2.2.1 (k4_17 n l).2.2.2.2.2
  refine walk_loop (L := fun f x => L_l_FnReflections_1 1000000 n l i r f x) (n := (k4_18 n l).1.1) hF (fun f k hk hr => ?_) (fun f => ?_)
  · show B_l_FnReflections_1 n l i r (L_l_FnReflections_1 1000000 n l i r f) (k : Int) = some true
    unfold B_l_FnReflections_1
    rw [wrap_add1 hk (Nat.le_trans hlen.2 (by decide))]
    obtain ⟨m, e, g1, g2⟩ := between_each (k4_17 n l).1 (k4_17 n l).2.1 (k4_17 n l).2.2.1 (k4_17 n l).2.2.2.1 (k4_17 n l).2.2.2.2.1 (k4_17 n l).2.2.2.2.2 k hk
    refine ck_step (cnd hk) (ck_step (cnd2 hk) (ck_step (by rw [Int.toNat_natCast]; exact row6_ok hlen.1 hk) (ck_step (cnd2 hk) (ck_step (by rw [Int.toNat_natCast]; exact row6_ok hlen.1 hk) ?_))))
    rw [Int.toNat_natCast]
    have e' := e.symm
    refine ne_step (by rw [e, g1]) (ne_step (by rw [e, g2]) (nt_step (by rw [e, g1]; exact beq_self_eq_true _) (nt_step (by rw [e, g2]; exact beq_self_eq_true _) ?_)))
    exact hr
  · show B_l_FnReflections_1 n l i r (L_l_FnReflections_1 1000000 n l i r f) (((k4_18 n l).1.1 : Nat) : Int) = some true
    unfold B_l_FnReflections_1
    exact no_step (cndE _) rfl
theorem refl_m2 (n : Nat) (l : List Int) (i : Int) (r : Int → Option Bool) {F : Nat} (hF : (k4_18 n l).1.1 < F) : L_l_FnReflections_2 1000000 n l i r F 0 = some true := by
  have hlen := between_len (k4_17 n l).1 (k4_17 n l).2.1 (k4_17 n l).2.2.1 (k4_17 n l).2.2.2.1 (k4_17 n l).2.2.2.2.1 (k4_17 n l).2.2.2.2.2
  refine walk_loop (L := fun f x => L_l_FnReflections_2 1000000 n l i r f x) (n := (k4_18 n l).1.1) hF (fun f k hk hr => ?_) (fun f => ?_)
  · show B_l_FnReflections_2 n l i r (L_l_FnReflections_2 1000000 n l i r f) (k : Int) = some true
    unfold B_l_FnReflections_2 B_l_FnReflections_1
    rw [wrap_add1 hk (Nat.le_trans hlen.2 (by decide))]
    obtain ⟨m, e, g1, g2⟩ := between_each (k4_17 n l).1 (k4_17 n l).2.1 (k4_17 n l).2.2.1 (k4_17 n l).2.2.2.1 (k4_17 n l).2.2.2.2.1 (k4_17 n l).2.2.2.2.2 k hk
    refine ck_step (cnd hk) (ck_step (cnd2 hk) (ck_step (by rw [Int.toNat_natCast]; exact row6_ok hlen.1 hk) (ck_step (cnd2 hk) (ck_step (by rw [Int.toNat_natCast]; exact row6_ok hlen.1 hk) ?_))))
    rw [Int.toNat_natCast]
    have e' := e.symm
    refine ne_step (by rw [e, g1]) (ne_step (by rw [e, g2]) (nt_step (by rw [e, g1]; exact beq_self_eq_true _) (nt_step (by rw [e, g2]; exact beq_self_eq_true _) ?_)))
    exact hr
  · show B_l_FnReflections_2 n l i r (L_l_FnReflections_2 1000000 n l i r f) (((k4_18 n l).1.1 : Nat) : Int) = some true
    unfold B_l_FnReflections_2 B_l_FnReflections_1
    exact no_step (cndE _) rfl
theorem refl_m4 (n : Nat) (l : List Int) (i : Int) (r : Int → Option Bool) {F : Nat} (hF : (k4_18 n l).1.1 < F) : L_l_FnReflections_4 1000000 n l i r F 0 = some true := by
  have hlen := between_len (k4_17 n l).1 (k4_17 n l).2.1 (k4_17 n l).2.2.1 (k4_17 n l).2.2.2.1 (k4_17 n l).2.2.2.2.1 (k4_17 n l).2.2.2.2.2
  refine walk_loop (L := fun f x => L_l_FnReflections_4 1000000 n l i r f x) (n := (k4_18 n l).1.1) hF (fun f k hk hr => ?_) (fun f => ?_)
  · show B_l_FnReflections_4 n l i r (L_l_FnReflections_4 1000000 n l i r f) (k : Int) = some true
    unfold B_l_FnReflections_4 B_l_FnReflections_1
    rw [wrap_add1 hk (Nat.le_trans hlen.2 (by decide))]
    obtain ⟨m, e, g1, g2⟩ := between_each (k4_17 n l).1 (k4_17 n l).2.1 (k4_17 n l).2.2.1 (k4_17 n l).2.2.2.1 (k4_17 n l).2.2.2.2.1 (k4_17 n l).2.2.2.2.2 k hk
    refine ck_step (cnd hk) (ck_step (cnd2 hk) (ck_step (by rw [Int.toNat_natCast]; exact row6_ok hlen.1 hk) (ck_step (cnd2 hk) (ck_step (by rw [Int.toNat_natCast]; exact row6_ok hlen.1 hk) ?_))))
    rw [Int.toNat_natCast]
    have e' := e.symm
    refine ne_step (by rw [e, g1]) (ne_step (by rw [e, g2]) (nt_step (by rw [e, g1]; exact beq_self_eq_true _) (nt_step (by rw [e, g2]; exact beq_self_eq_true _) ?_)))
    exact hr
  · show B_l_FnReflections_4 n l i r (L_l_FnReflections_4 1000000 n l i r f) (((k4_18 n l).1.1 : Nat) : Int) = some true
    unfold B_l_FnReflections_4 B_l_FnReflections_1
    exact no_step (cndE _) rfl
theorem refl_m5 (n : Nat) (l : List Int) (i : Int) (r : Int → Option Bool) {F : Nat} (hF : (k4_18 n l).1.1 < F) : L_l_FnReflections_5 1000000 n l i r F 0 = some true := by
  have hlen := between_len (k4_17 n l).1 (k4_17 n l).2.1 (k4_17 n l).2.2.1 (k4_17 n l).2.2.2.1 (k4_17 n l).2.2.2.2.1 (k4_17 n l).2.2.2.2.2
  refine walk_loop (L := fun f x => L_l_FnReflections_5 1000000 n l i r f x) (n := (k4_18 n l).1.1) hF (fun f k hk hr => ?_) (fun f => ?_)
  · show B_l_FnReflections_5 n l i r (L_l_FnReflections_5 1000000 n l i r f) (k : Int) = some true
    unfold B_l_FnReflections_5 B_l_FnReflections_1
    rw [wrap_add1 hk (Nat.le_trans hlen.2 (by decide))]
    obtain ⟨m, e, g1, g2⟩ := between_each (k4_17 n l).1 (k4_17 n l).2.1 (k4_17 n l).2.2.1 (k4_17 n l).2.2.2.1 (k4_17 n l).2.2.2.2.1 (k4_17 n l).2.2.2.2.2 k hk
    refine ck_step (cnd hk) (ck_step (cnd2 hk) (ck_step (by rw [Int.toNat_natCast]; exact row6_ok hlen.1 hk) (ck_step (cnd2 hk) (ck_step (by rw [Int.toNat_natCast]; exact row6_ok hlen.1 hk) ?_))))
    rw [Int.toNat_natCast]
    have e' := e.symm
    refine ne_step (by rw [e, g1]) (ne_step (by rw [e, g2]) (nt_step (by rw [e, g1]; exact beq_self_eq_true _) (nt_step (by rw [e, g2]; exact beq_self_eq_true _) ?_)))
    exact hr
  · show B_l_FnReflections_5 n l i r (L_l_FnReflections_5 1000000 n l i r f) (((k4_18 n l).1.1 : Nat) : Int) = some true
    unfold B_l_FnReflections_5 B_l_FnReflections_1
    exact no_step (cndE _) rfl
theorem refl_m9 (n : Nat) (l : List Int) (i : Int) (r : Int → Option Bool) {F : Nat} (hF : (k4_18 n l).1.1 < F) : L_l_FnReflections_9 1000000 n l i r F 0 = some true := by
  have hlen := between_len (k4_17 n l).1 (k4_17 n l).2.1 (k4_17 n l).2.2.1 (k4_17 n l).2.2.2.1 (k4_17 n l).2.2.2.2.1 (k4_17 n l).2.2.2.2.2
  refine walk_loop (L := fun f x => L_l_FnReflections_9 1000000 n l i r f x) (n := (k4_18 n l).1.1) hF (fun f k hk hr => ?_) (fun f => ?_)
  · show B_l_FnReflections_9 n l i r (L_l_FnReflections_9 1000000 n l i r f) (k : Int) = some true
    unfold B_l_FnReflections_9 B_l_FnReflections_1
    rw [wrap_add1 hk (Nat.le_trans hlen.2 (by decide))]
    obtain ⟨m, e, g1, g2⟩ := between_each (k4_17 n l).1 (k4_17 n l).2.1 (k4_17 n l).2.2.1 (k4_17 n l).2.2.2.1 (k4_17 n l).2.2.2.2.1 (k4_17 n l).2.2.2.2.2 k hk
    refine ck_step (cnd hk) (ck_step (cnd2 hk) (ck_step (by rw [Int.toNat_natCast]; exact row6_ok hlen.1 hk) (ck_step (cnd2 hk) (ck_step (by rw [Int.toNat_natCast]; exact row6_ok hlen.1 hk) ?_))))
    rw [Int.toNat_natCast]
    have e' := e.symm
    refine ne_step (by rw [e, g1]) (ne_step (by rw [e, g2]) (nt_step (by rw [e, g1]; exact beq_self_eq_true _) (nt_step (by rw [e, g2]; exact beq_self_eq_true _) ?_)))
    exact hr
  · show B_l_FnReflections_9 n l i r (L_l_FnReflections_9 1000000 n l i r f) (((k4_18 n l).1.1 : Nat) : Int) = some true
    unfold B_l_FnReflections_9 B_l_FnReflections_1
    exact no_step (cndE _) rfl
theorem refl_m10 (n : Nat) (l : List Int) (i : Int) (r : Int → Option Bool) {F : Nat} (hF : (k4_18 n l).1.1 < F) : L_l_FnReflections_10 1000000 n l i r F 0 = some true := by
  have hlen := between_len (k4_17 n l).1 (k4_17 n l).2.1 (k4_17 n l).2.2.1 (k4_17 n l).2.2.2.1 (k4_17 n l).2.2.2.2.1 (k4_17 n l).2.2.2.2.2
  refine walk_loop (L := fun f x => L_l_FnReflections_10 1000000 n l i r f x) (n := (k4_18 n l).1.1) hF (fun f k hk hr => ?_) (fun f => ?_)
  · show B_l_FnReflections_10 n l i r (L_l_FnReflections_10 1000000 n l i r f) (k : Int) = some true
    unfold B_l_FnReflections_10 B_l_FnReflections_1
    rw [wrap_add1 hk (Nat.le_trans hlen.2 (by decide))]
    obtain ⟨m, e, g1, g2⟩ := between_each (k4_17 n l).1 (k4_17 n l).2.1 (k4_17 n l).2.2.1 (k4_17 n l).2.2.2.1 (k4_17 n l).2.2.2.2.1 (k4_17 n l).2.2.2.2.2 k hk
    refine ck_step (cnd hk) (ck_step (cnd2 hk) (ck_step (by rw [Int.toNat_natCast]; exact row6_ok hlen.1 hk) (ck_step (cnd2 hk) (ck_step (by rw [Int.toNat_natCast]; exact row6_ok hlen.1 hk) ?_))))
    rw [Int.toNat_natCast]
    have e' := e.symm
    refine ne_step (by rw [e, g1]) (ne_step (by rw [e, g2]) (nt_step (by rw [e, g1]; exact beq_self_eq_true _) (nt_step (by rw [e, g2]; exact beq_self_eq_true _) ?_)))
    exact hr
  · show B_l_FnReflections_10 n l i r (L_l_FnReflections_10 1000000 n l i r f) (((k4_18 n l).1.1 : Nat) : Int) = some true
    unfold B_l_FnReflections_10 B_l_FnReflections_1
    exact no_step (cndE _) rfl
theorem refl_m12 (n : Nat) (l : List Int) (i : Int) (r : Int → Option Bool) {F : Nat} (hF : (k4_18 n l).1.1 < F) : L_l_FnReflections_12 1000000 n l i r F 0 = some true := by
  have hlen := between_len (k4_17 n l).1 (k4_17 n l).2.1 (k4_17 n l).2.2.1 (k4_17 n l).2.2.2.1 (k4_17 n l).2.2.2.2.1 (k4_17 n l).2.2.2.2.2
  refine walk_loop (L := fun f x => L_l_FnReflections_12 1000000 n l i r f x) (n := (k4_18 n l).1.1) hF (fun f k hk hr => ?_) (fun f => ?_)
  · show B_l_FnReflections_12 n l i r (L_l_FnReflections_12 1000000 n l i r f) (k : Int) = some true
    unfold B_l_FnReflections_12 B_l_FnReflections_1
    rw [wrap_add1 hk (Nat.le_trans hlen.2 (by decide))]
    obtain ⟨m, e, g1, g2⟩ := between_each (k4_17 n l).1 (k4_17 n l).2.1 (k4_17 n l).2.2.1 (k4_17 n l).2.2.2.1 (k4_17 n l).2.2.2.2.1 (k4_17 n l).2.2.2.2.2 k hk
    refine ck_step (cnd hk) (ck_step (cnd2 hk) (ck_step (by rw [Int.toNat_natCast]; exact row6_ok hlen.1 hk) (ck_step (cnd2 hk) (ck_step (by rw [Int.toNat_natCast]; exact row6_ok hlen.1 hk) ?_))))
    rw [Int.toNat_natCast]
    have e' := e.symm
    refine ne_step (by rw [e, g1]) (ne_step (by rw [e, g2]) (nt_step (by rw [e, g1]; exact beq_self_eq_true _) (nt_step (by rw [e, g2]; exact beq_self_eq_true _) ?_)))
    exact hr
  · show B_l_FnReflections_12 n l i r (L_l_FnReflections_12 1000000 n l i r f) (((k4_18 n l).1.1 : Nat) : Int) = some true
    unfold B_l_FnReflections_12 B_l_FnReflections_1
    exact no_step (cndE _) rfl
theorem refl_m13 (n : Nat) (l : List Int) (i : Int) (r : Int → Option Bool) {F : Nat} (hF : (k4_18 n l).1.1 < F) : L_l_FnReflections_13 1000000 n l i r F 0 = some true := by
  have hlen := between_len (k4_17 n l).1 (k4_17 n l).2.1 (k4_17 n l).2.2.1 (k4_17 n l).2.2.2.1 (k4_17 n l).2.2.2.2.1 (k4_17 n l).2.2.2.2.2
  refine walk_loop (L := fun f x => L_l_FnReflections_13 1000000 n l i r f x) (n := (k4_18 n l).1.1) hF (fun f k hk hr => ?_) (fun f => ?_)
  · show B_l_FnReflections_13 n l i r (L_l_FnReflections_13 1000000 n l i r f) (k : Int) = some true
    unfold B_l_FnReflections_13 B_l_FnReflections_1
    rw [wrap_add1 hk (Nat.le_trans hlen.2 (by decide))]
    obtain ⟨m, e, g1, g2⟩ := between_each (k4_17 n l).1 (k4_17 n l).2.1 (k4_17 n l).2.2.1 (k4_17 n l).2.2.2.1 (k4_17 n l).2.2.2.2.1 (k4_17 n l).2.2.2.2.2 k hk
    refine ck_step (cnd hk) (ck_step (cnd2 hk) (ck_step (by rw [Int.toNat_natCast]; exact row6_ok hlen.1 hk) (ck_step (cnd2 hk) (ck_step (by rw [Int.toNat_natCast]; exact row6_ok hlen.1 hk) ?_))))
    rw [Int.toNat_natCast]
    have e' := e.symm
    refine ne_step (by rw [e, g1]) (ne_step (by rw [e, g2]) (nt_step (by rw [e, g1]; exact beq_self_eq_true _) (nt_step (by rw [e, g2]; exact beq_self_eq_true _) ?_)))
    exact hr
  · show B_l_FnReflections_13 n l i r (L_l_FnReflections_13 1000000 n l i r f) (((k4_18 n l).1.1 : Nat) : Int) = some true
    unfold B_l_FnReflections_13 B_l_FnReflections_1
    exact no_step (cndE _) rfl
theorem refl_m6 (n : Nat) (l : List Int) {F : Nat} (hF : (k4_18 n l).1.1 < F) : L_l_FnReflections_6 1000000 n l F 0 = some true := by
  have hlen := between_len (k4_17 n l).1 (k4_17 n l).2.1 (k4_17 n l).2.2.1 (k4_17 n l).2.2.2.1 (k4_17 n l).2.2.2.2.1 (k4_17 n l).2.2.2.2.2
  refine walk_loop (L := fun f x => L_l_FnReflections_6 1000000 n l f x) (n := (k4_18 n l).1.1) hF (fun f k hk hr => ?_) (fun f => ?_)
  · show B_l_FnReflections_6 n l (L_l_FnReflections_6 1000000 n l f) (k : Int) = some true
    unfold B_l_FnReflections_6
    rw [wrap_add1 hk (Nat.le_trans hlen.2 (by decide))]
    obtain ⟨m, e, g1, g2⟩ := between_each (k4_17 n l).1 (k4_17 n l).2.1 (k4_17 n l).2.2.1 (k4_17 n l).2.2.2.1 (k4_17 n l).2.2.2.2.1 (k4_17 n l).2.2.2.2.2 k hk
    refine ck_step (cnd hk) (ck_step (cnd2 hk) (ck_step (by rw [Int.toNat_natCast]; exact row6_ok hlen.1 hk) (ck_step (cnd2 hk) (ck_step (by rw [Int.toNat_natCast]; exact row6_ok hlen.1 hk) ?_))))
    rw [Int.toNat_natCast]
    have e' := e.symm
    refine ne_step (by rw [e, g1]) (ne_step (by rw [e, g2]) (nt_step (by rw [e, g1]; exact beq_self_eq_true _) (nt_step (by rw [e, g2]; exact beq_self_eq_true _) ?_)))
    exact hr
  · show B_l_FnReflections_6 n l (L_l_FnReflections_6 1000000 n l f) (((k4_18 n l).1.1 : Nat) : Int) = some true
    unfold B_l_FnReflections_6
    exact no_step (cndE _) rfl
theorem refl_m7 (n : Nat) (l : List Int) {F : Nat} (hF : (k4_18 n l).1.1 < F) : L_l_FnReflections_7 1000000 n l F 0 = some true := by
  have hlen := between_len (k4_17 n l).1 (k4_17 n l).2.1 (k4_17 n l).2.2.1 (k4_17 n l).2.2.2.1 (k4_17 n l).2.2.2.2.1 (k4_17 n l).2.2.2.2.2
  refine walk_loop (L := fun f x => L_l_FnReflections_7 1000000 n l f x) (n := (k4_18 n l).1.1) hF (fun f k hk hr => ?_) (fun f => ?_)
  · show B_l_FnReflections_7 n l (L_l_FnReflections_7 1000000 n l f) (k : Int) = some true
    unfold B_l_FnReflections_7 B_l_FnReflections_6
    rw [wrap_add1 hk (Nat.le_trans hlen.2 (by decide))]
    obtain ⟨m, e, g1, g2⟩ := between_each (k4_17 n l).1 (k4_17 n l).2.1 (k4_17 n l).2.2.1 (k4_17 n l).2.2.2.1 (k4_17 n l).2.2.2.2.1 (k4_17 n l).2.2.2.2.2 k hk
    refine ck_step (cnd hk) (ck_step (cnd2 hk) (ck_step (by rw [Int.toNat_natCast]; exact row6_ok hlen.1 hk) (ck_step (cnd2 hk) (ck_step (by rw [Int.toNat_natCast]; exact row6_ok hlen.1 hk) ?_))))
    rw [Int.toNat_natCast]
    have e' := e.symm
    refine ne_step (by rw [e, g1]) (ne_step (by rw [e, g2]) (nt_step (by rw [e, g1]; exact beq_self_eq_true _) (nt_step (by rw [e, g2]; exact beq_self_eq_true _) ?_)))
    exact hr
  · show B_l_FnReflections_7 n l (L_l_FnReflections_7 1000000 n l f) (((k4_18 n l).1.1 : Nat) : Int) = some true
    unfold B_l_FnReflections_7 B_l_FnReflections_6
    exact no_step (cndE _) rfl
theorem refl_m14 (n : Nat) (l : List Int) {F : Nat} (hF : (k4_18 n l).1.1 < F) : L_l_FnReflections_14 1000000 n l F 0 = some true := by
  have hlen := between_len (k4_17 n l).1 (k4_17 n l).2.1 (k4_17 n l).2.2.1 (k4_17 n l).2.2.2.1 (k4_17 n l).2.2.2.2.1 (k4_17 n l).2.2.2.2.2
  refine walk_loop (L := fun f x => L_l_FnReflections_14 1000000 n l f x) (n := (k4_18 n l).1.1) hF (fun f k hk hr => ?_) (fun f => ?_)
  · show B_l_FnReflections_14 n l (L_l_FnReflections_14 1000000 n l f) (k : Int) = some true
    unfold B_l_FnReflections_14 B_l_FnReflections_6
    rw [wrap_add1 hk (Nat.le_trans hlen.2 (by decide))]
    obtain ⟨m, e, g1, g2⟩ := between_each (k4_17 n l).1 (k4_17 n l).2.1 (k4_17 n l).2.2.1 (k4_17 n l).2.2.2.1 (k4_17 n l).2.2.2.2.1 (k4_17 n l).2.2.2.2.2 k hk
    refine ck_step (cnd hk) (ck_step (cnd2 hk) (ck_step (by rw [Int.toNat_natCast]; exact row6_ok hlen.1 hk) (ck_step (cnd2 hk) (ck_step (by rw [Int.toNat_natCast]; exact row6_ok hlen.1 hk) ?_))))
    rw [Int.toNat_natCast]
    have e' := e.symm
    refine ne_step (by rw [e, g1]) (ne_step (by rw [e, g2]) (nt_step (by rw [e, g1]; exact beq_self_eq_true _) (nt_step (by rw [e, g2]; exact beq_self_eq_true _) ?_)))
    exact hr
  · show B_l_FnReflections_14 n l (L_l_FnReflections_14 1000000 n l f) (((k4_18 n l).1.1 : Nat) : Int) = some true
    unfold B_l_FnReflections_14 B_l_FnReflections_6
    exact no_step (cndE _) rfl
theorem refl_m15 (n : Nat) (l : List Int) {F : Nat} (hF : (k4_18 n l).1.1 < F) : L_l_FnReflections_15 1000000 n l F 0 = some true := by
  have hlen := between_len (k4_17 n l).1 (k4_17 n l).2.1 (k4_17 n l).2.2.1 (k4_17 n l).2.2.2.1 (k4_17 n l).2.2.2.2.1 (k4_17 n l).2.2.2.2.2
  refine walk_loop (L := fun f x => L_l_FnReflections_15 1000000 n l f x) (n := (k4_18 n l).1.1) hF (fun f k hk hr => ?_) (fun f => ?_)
  · show B_l_FnReflections_15 n l (L_l_FnReflections_15 1000000 n l f) (k : Int) = some true
    unfold B_l_FnReflections_15 B_l_FnReflections_6
    rw [wrap_add1 hk (Nat.le_trans hlen.2 (by decide))]
    obtain ⟨m, e, g1, g2⟩ := between_each (k4_17 n l).1 (k4_17 n l).2.1 (k4_17 n l).2.2.1 (k4_17 n l).2.2.2.1 (k4_17 n l).2.2.2.2.1 (k4_17 n l).2.2.2.2.2 k hk
    refine ck_step (cnd hk) (ck_step (cnd2 hk) (ck_step (by rw [Int.toNat_natCast]; exact row6_ok hlen.1 hk) (ck_step (cnd2 hk) (ck_step (by rw [Int.toNat_natCast]; exact row6_ok hlen.1 hk) ?_))))
    rw [Int.toNat_natCast]
    have e' := e.symm
    refine ne_step (by rw [e, g1]) (ne_step (by rw [e, g2]) (nt_step (by rw [e, g1]; exact beq_self_eq_true _) (nt_step (by rw [e, g2]; exact beq_self_eq_true _) ?_)))
    exact hr
  · show B_l_FnReflections_15 n l (L_l_FnReflections_15 1000000 n l f) (((k4_18 n l).1.1 : Nat) : Int) = some true
    unfold B_l_FnReflections_15 B_l_FnReflections_6
    exact no_step (cndE _) rfl
structure ReflB (n : Nat) (l : List Int) : Prop where
  hc : codeB n l = true
  e18 : (k4_18 n l).2 = (k4_19 n l).2
  l18 : (lenB (k4_18 n l).1.1 6 (k4_18 n l).1.2 && lenB (k4_19 n l).1.1 6 (k4_19 n l).1.2) = true
  p20 : k4_20 n l = true
  two : ((k4_18 n l).2 == 0) = true → (((k4_18 n l).1.1 : Nat) : Int) = 2
  max : (k4_18 n l).1.1 < 1000000 + 100
theorem refl_b (n : Nat) (l : List Int) (hc : codeB n l = true) : ReflB n l := by
  have E : k4_18 n l = k4_19 n l := MovesBetween_same _ _ _ _ _ _
  have hl := between_len (k4_17 n l).1 (k4_17 n l).2.1 (k4_17 n l).2.2.1 (k4_17 n l).2.2.2.1 (k4_17 n l).2.2.2.2.1 (k4_17 n l).2.2.2.2.2
  have hB : lenB (k4_18 n l).1.1 6 (k4_18 n l).1.2 = true := lenB_of hl.1 (Nat.le_trans hl.2 (by decide))
  refine ⟨hc, congrArg Prod.snd E, ?_, ?_, ?_, Nat.lt_of_le_of_lt hl.2 (by decide)⟩
  · rw [← E]
    exact and_two hB hB
  · delta k4_20
    rw [← E]
    exact moves5_self _ _
  · intro h
    have := between_two (between_p n l hc) (eq_of_beq h : (i_MovesBetween _ _ _ _ _ _).2 = 0)
    have e : (k4_18 n l).1.1 = 2 := this
    rw [e]
    rfl
theorem refl_t0 (n : Nat) (l : List Int) (B : ReflB n l) (h10 : ((k4_10 n l).2 == 0) = true) : L_l_FnReflections_0 1000000 n l (1000000 + 100) 0 = some true := by
  have hlen := turns_len (k4_9 n l).1 (k4_9 n l).2.1 (k4_9 n l).2.2
  refine walk_loop (L := fun f x => L_l_FnReflections_0 1000000 n l f x) (n := (k4_10 n l).1.1) (Nat.lt_of_le_of_lt hlen.2 (by decide)) (fun f k hk hr => ?_) (fun f => ?_)
  · show B_l_FnReflections_0 n l (L_l_FnReflections_1 1000000 n l (k : Int) (L_l_FnReflections_0 1000000 n l f) (1000000 + 100)) (L_l_FnReflections_2 1000000 n l (k : Int) (L_l_FnReflections_0 1000000 n l f) (1000000 + 100)) (L_l_FnReflections_0 1000000 n l f) (k : Int) = some true
    unfold B_l_FnReflections_0
    rw [wrap_add1 hk (Nat.le_trans hlen.2 (by decide))]
    obtain ⟨m, e, g1, g2⟩ := turns_each (eq_of_beq h10 : (i_TurnsAbout (k4_9 n l).1 (k4_9 n l).2.1 (k4_9 n l).2.2).2 = 0) k hk
    refine ck_step (cnd hk) (ck_step (cnd2 hk) (ck_step (by rw [Int.toNat_natCast]; exact row6_ok hlen.1 hk) (ck_step (cnd2 hk) (ck_step (by rw [Int.toNat_natCast]; exact row6_ok hlen.1 hk) ?_))))
    rw [Int.toNat_natCast]
    refine ne_step (by rw [e, g1]) (ne_step (by rw [e]; rcases g2 with g | g <;> rw [g]) (nt_step (by rw [e, g1]; exact beq_self_eq_true _) (br_step (fun hh => ne_step ?_ hr) (fun _ => hr))))
    rw [e] at hh ⊢
    rcases g2 with g | g
    · rw [g] at hh; exact absurd hh (by decide)
    · rw [g]
  · show B_l_FnReflections_0 n l (L_l_FnReflections_1 1000000 n l (((k4_10 n l).1.1 : Nat) : Int) (L_l_FnReflections_0 1000000 n l f) (1000000 + 100)) (L_l_FnReflections_2 1000000 n l (((k4_10 n l).1.1 : Nat) : Int) (L_l_FnReflections_0 1000000 n l f) (1000000 + 100)) (L_l_FnReflections_0 1000000 n l f) (((k4_10 n l).1.1 : Nat) : Int) = some true
    unfold B_l_FnReflections_0
    refine no_step (cndE _) (ck_step B.hc (ne_step B.e18 (ck_step B.l18 (nt_step B.p20 (br_step (fun h => ne_step (B.two h) ?_) (fun _ => ?_))))))
    · exact refl_m1 n l _ _ B.max
    · exact refl_m2 n l _ _ B.max
theorem refl_t3 (n : Nat) (l : List Int) (B : ReflB n l) (h10 : ((k4_10 n l).2 == 0) = true) : L_l_FnReflections_3 1000000 n l (1000000 + 100) 0 = some true := by
  have hlen := turns_len (k4_9 n l).1 (k4_9 n l).2.1 (k4_9 n l).2.2
  refine walk_loop (L := fun f x => L_l_FnReflections_3 1000000 n l f x) (n := (k4_10 n l).1.1) (Nat.lt_of_le_of_lt hlen.2 (by decide)) (fun f k hk hr => ?_) (fun f => ?_)
  · show B_l_FnReflections_3 n l (L_l_FnReflections_4 1000000 n l (k : Int) (L_l_FnReflections_3 1000000 n l f) (1000000 + 100)) (L_l_FnReflections_5 1000000 n l (k : Int) (L_l_FnReflections_3 1000000 n l f) (1000000 + 100)) (L_l_FnReflections_3 1000000 n l f) (k : Int) = some true
    unfold B_l_FnReflections_3 B_l_FnReflections_0
    rw [wrap_add1 hk (Nat.le_trans hlen.2 (by decide))]
    obtain ⟨m, e, g1, g2⟩ := turns_each (eq_of_beq h10 : (i_TurnsAbout (k4_9 n l).1 (k4_9 n l).2.1 (k4_9 n l).2.2).2 = 0) k hk
    refine ck_step (cnd hk) (ck_step (cnd2 hk) (ck_step (by rw [Int.toNat_natCast]; exact row6_ok hlen.1 hk) (ck_step (cnd2 hk) (ck_step (by rw [Int.toNat_natCast]; exact row6_ok hlen.1 hk) ?_))))
    rw [Int.toNat_natCast]
    refine ne_step (by rw [e, g1]) (ne_step (by rw [e]; rcases g2 with g | g <;> rw [g]) (nt_step (by rw [e, g1]; exact beq_self_eq_true _) (br_step (fun hh => ne_step ?_ hr) (fun _ => hr))))
    rw [e] at hh ⊢
    rcases g2 with g | g
    · rw [g] at hh; exact absurd hh (by decide)
    · rw [g]
  · show B_l_FnReflections_3 n l (L_l_FnReflections_4 1000000 n l (((k4_10 n l).1.1 : Nat) : Int) (L_l_FnReflections_3 1000000 n l f) (1000000 + 100)) (L_l_FnReflections_5 1000000 n l (((k4_10 n l).1.1 : Nat) : Int) (L_l_FnReflections_3 1000000 n l f) (1000000 + 100)) (L_l_FnReflections_3 1000000 n l f) (((k4_10 n l).1.1 : Nat) : Int) = some true
    unfold B_l_FnReflections_3 B_l_FnReflections_0
    refine no_step (cndE _) (ck_step B.hc (ne_step B.e18 (ck_step B.l18 (nt_step B.p20 (br_step (fun h => ne_step (B.two h) ?_) (fun _ => ?_))))))
    · exact refl_m4 n l _ _ B.max
    · exact refl_m5 n l _ _ B.max
theorem refl_t8 (n : Nat) (l : List Int) (B : ReflB n l) (h10 : ((k4_10 n l).2 == 0) = true) : L_l_FnReflections_8 1000000 n l (1000000 + 100) 0 = some true := by
  have hlen := turns_len (k4_9 n l).1 (k4_9 n l).2.1 (k4_9 n l).2.2
  refine walk_loop (L := fun f x => L_l_FnReflections_8 1000000 n l f x) (n := (k4_10 n l).1.1) (Nat.lt_of_le_of_lt hlen.2 (by decide)) (fun f k hk hr => ?_) (fun f => ?_)
  · show B_l_FnReflections_8 n l (L_l_FnReflections_9 1000000 n l (k : Int) (L_l_FnReflections_8 1000000 n l f) (1000000 + 100)) (L_l_FnReflections_10 1000000 n l (k : Int) (L_l_FnReflections_8 1000000 n l f) (1000000 + 100)) (L_l_FnReflections_8 1000000 n l f) (k : Int) = some true
    unfold B_l_FnReflections_8 B_l_FnReflections_0
    rw [wrap_add1 hk (Nat.le_trans hlen.2 (by decide))]
    obtain ⟨m, e, g1, g2⟩ := turns_each (eq_of_beq h10 : (i_TurnsAbout (k4_9 n l).1 (k4_9 n l).2.1 (k4_9 n l).2.2).2 = 0) k hk
    refine ck_step (cnd hk) (ck_step (cnd2 hk) (ck_step (by rw [Int.toNat_natCast]; exact row6_ok hlen.1 hk) (ck_step (cnd2 hk) (ck_step (by rw [Int.toNat_natCast]; exact row6_ok hlen.1 hk) ?_))))
    rw [Int.toNat_natCast]
    refine ne_step (by rw [e, g1]) (ne_step (by rw [e]; rcases g2 with g | g <;> rw [g]) (nt_step (by rw [e, g1]; exact beq_self_eq_true _) (br_step (fun hh => ne_step ?_ hr) (fun _ => hr))))
    rw [e] at hh ⊢
    rcases g2 with g | g
    · rw [g] at hh; exact absurd hh (by decide)
    · rw [g]
  · show B_l_FnReflections_8 n l (L_l_FnReflections_9 1000000 n l (((k4_10 n l).1.1 : Nat) : Int) (L_l_FnReflections_8 1000000 n l f) (1000000 + 100)) (L_l_FnReflections_10 1000000 n l (((k4_10 n l).1.1 : Nat) : Int) (L_l_FnReflections_8 1000000 n l f) (1000000 + 100)) (L_l_FnReflections_8 1000000 n l f) (((k4_10 n l).1.1 : Nat) : Int) = some true
    unfold B_l_FnReflections_8 B_l_FnReflections_0
    refine no_step (cndE _) (ck_step B.hc (ne_step B.e18 (ck_step B.l18 (nt_step B.p20 (br_step (fun h => ne_step (B.two h) ?_) (fun _ => ?_))))))
    · exact refl_m9 n l _ _ B.max
    · exact refl_m10 n l _ _ B.max
theorem refl_t11 (n : Nat) (l : List Int) (B : ReflB n l) (h10 : ((k4_10 n l).2 == 0) = true) : L_l_FnReflections_11 1000000 n l (1000000 + 100) 0 = some true := by
  have hlen := turns_len (k4_9 n l).1 (k4_9 n l).2.1 (k4_9 n l).2.2
  refine walk_loop (L := fun f x => L_l_FnReflections_11 1000000 n l f x) (n := (k4_10 n l).1.1) (Nat.lt_of_le_of_lt hlen.2 (by decide)) (fun f k hk hr => ?_) (fun f => ?_)
  · show B_l_FnReflections_11 n l (L_l_FnReflections_12 1000000 n l (k : Int) (L_l_FnReflections_11 1000000 n l f) (1000000 + 100)) (L_l_FnReflections_13 1000000 n l (k : Int) (L_l_FnReflections_11 1000000 n l f) (1000000 + 100)) (L_l_FnReflections_11 1000000 n l f) (k : Int) = some true
    unfold B_l_FnReflections_11 B_l_FnReflections_0
    rw [wrap_add1 hk (Nat.le_trans hlen.2 (by decide))]
    obtain ⟨m, e, g1, g2⟩ := turns_each (eq_of_beq h10 : (i_TurnsAbout (k4_9 n l).1 (k4_9 n l).2.1 (k4_9 n l).2.2).2 = 0) k hk
    refine ck_step (cnd hk) (ck_step (cnd2 hk) (ck_step (by rw [Int.toNat_natCast]; exact row6_ok hlen.1 hk) (ck_step (cnd2 hk) (ck_step (by rw [Int.toNat_natCast]; exact row6_ok hlen.1 hk) ?_))))
    rw [Int.toNat_natCast]
    refine ne_step (by rw [e, g1]) (ne_step (by rw [e]; rcases g2 with g | g <;> rw [g]) (nt_step (by rw [e, g1]; exact beq_self_eq_true _) (br_step (fun hh => ne_step ?_ hr) (fun _ => hr))))
    rw [e] at hh ⊢
    rcases g2 with g | g
    · rw [g] at hh; exact absurd hh (by decide)
    · rw [g]
  · show B_l_FnReflections_11 n l (L_l_FnReflections_12 1000000 n l (((k4_10 n l).1.1 : Nat) : Int) (L_l_FnReflections_11 1000000 n l f) (1000000 + 100)) (L_l_FnReflections_13 1000000 n l (((k4_10 n l).1.1 : Nat) : Int) (L_l_FnReflections_11 1000000 n l f) (1000000 + 100)) (L_l_FnReflections_11 1000000 n l f) (((k4_10 n l).1.1 : Nat) : Int) = some true
    unfold B_l_FnReflections_11 B_l_FnReflections_0
    refine no_step (cndE _) (ck_step B.hc (ne_step B.e18 (ck_step B.l18 (nt_step B.p20 (br_step (fun h => ne_step (B.two h) ?_) (fun _ => ?_))))))
    · exact refl_m12 n l _ _ B.max
    · exact refl_m13 n l _ _ B.max
theorem FnReflections_tot (n : Nat) (l : List Int) (hp : bytB n l = true) : Fo_l_FnReflections 1000000 n l = some true := by
  unfold Fo_l_FnReflections G_l_FnReflections
  refine br_step (fun _ => rfl) (fun hb => ?_)
  have hc := code_big hp hb
  have B := refl_b n l hc
  have E1 : k4_1 n l = k4_2 n l := ReflectionIn_same _ _ _
  have E10 : k4_10 n l = k4_11 n l := TurnsAbout_same _ _ _
  have E12 : k4_12 n l = k4_13 n l := CountTurns_same _ _
  have E1a := congrArg Prod.fst E1; have E1b := congrArg Prod.snd E1
  have E1n : ((k4_1 n l).1 == (k4_2 n l).1) = true := by rw [E1a]; exact beq_self_eq_true _
  have E10b := congrArg Prod.snd E10
  have E12a := congrArg Prod.fst E12; have E12b := congrArg Prod.snd E12
  have hl := turns_len (k4_9 n l).1 (k4_9 n l).2.1 (k4_9 n l).2.2
  have hB : lenB (k4_10 n l).1.1 6 (k4_10 n l).1.2 = true := lenB_of hl.1 (Nat.le_trans hl.2 (by decide))
  have L10 : (lenB (k4_10 n l).1.1 6 (k4_10 n l).1.2 && lenB (k4_11 n l).1.1 6 (k4_11 n l).1.2) = true := by rw [← E10]; exact and_two hB hB
  have P14 : k4_14 n l = true := by
    delta k4_14
    rw [← E10]
    exact moves5_self _ _
  have C10 : ((k4_10 n l).2 == 0) = true → (((k4_10 n l).1.1 : Nat) : Int) = (k4_12 n l).1 ∧ ((k4_12 n l).1 = (k4_9 n l).1 - 1 ∨ (k4_12 n l).1 = (k4_9 n l).1 + 1) := fun h => turns_count (eq_of_beq h)
  have C12 : ((k4_10 n l).2 == 0) = true → ((k4_12 n l).1 != wI ((k4_9 n l).1 - 1)) = true → (k4_12 n l).1 = wI ((k4_9 n l).1 + 1) := by
    intro h q
    have hz : i_asked (k4_9 n l).1 true (i_TurnsAbout_c1 (k4_9 n l).2.1 (k4_9 n l).1 (k4_9 n l).2.2) = 0 := by
      refine Decidable.byContradiction fun hz => ?_
      have e1 : Fo_i_TurnsAbout (k4_9 n l).1 (k4_9 n l).2.1 (k4_9 n l).2.2 = some ((0, []), i_asked (k4_9 n l).1 true (i_TurnsAbout_c1 (k4_9 n l).2.1 (k4_9 n l).1 (k4_9 n l).2.2)) := by
        unfold Fo_i_TurnsAbout
        rw [if_pos (Bool.true_or _), if_pos (bne_iff_ne.2 hz)]
      have h2 : (i_TurnsAbout (k4_9 n l).1 (k4_9 n l).2.1 (k4_9 n l).2.2).2 = 0 := eq_of_beq h
      rw [i_TurnsAbout_of e1] at h2
      exact hz h2
    have hr := pr_nat (Pr_prB (i_IsField_ok (turn_zero hz).1))
    have hm := field_mem (turn_zero hz).1
    have w1 : wI ((k4_9 n l).1 - 1) = (k4_9 n l).1 - 1 := by
      rw [wI_eq]; exact w64 (by simp only [List.mem_cons, List.not_mem_nil, or_false] at hm; rcases hm with e | e | e | e | e | e | e | e | e | e <;> rw [e] <;> decide)
    have w2 : wI ((k4_9 n l).1 + 1) = (k4_9 n l).1 + 1 := by
      rw [wI_eq]; exact w64 (by simp only [List.mem_cons, List.not_mem_nil, or_false] at hm; rcases hm with e | e | e | e | e | e | e | e | e | e <;> rw [e] <;> decide)
    rw [w1] at q
    rw [w2]
    rcases (C10 h).2 with g | g
    · rw [g] at q
      exact absurd rfl (bne_iff_ne.1 q)
    · exact g
  refine ck_step hc (ne_step E1b (nt_step E1n (br_step (fun h1 => ?_) (fun _ => ?_))))
  · obtain ⟨hz, h3, h6, h7, h4, h5, h45⟩ := refl_law (eq_of_beq h1 : (i_ReflectionIn (k4_0 n l).1 (k4_0 n l).2.1 (k4_0 n l).2.2).2 = 0)
    have Z3 : (k4_3 n l) = (3, 0) := h3
    have Z6 : (k4_6 n l) = (oneM, 0) := h6
    have Z7 : (k4_7 n l) = (0, 0) := by
      show i_KindOfMove _ _ (k4_6 n l).1 = (0, 0)
      rw [Z6]
      exact h7
    have Z4 : (k4_4 n l).2 = 0 := h4
    have Z5 : (k4_5 n l).2 = 0 := h5
    have Z45 : (k4_4 n l).1 = (k4_5 n l).1 := h45
    have hF := FixedPoints_lenR (k4_0 n l).1 (k4_1 n l).1
    have L4 : (lenB (k4_4 n l).1.1 2 (k4_4 n l).1.2 && lenB (k4_5 n l).1.1 2 (k4_5 n l).1.2) = true := by rw [← Z45]; exact and_two hF hF
    have P8 : k4_8 n l = true := by
      delta k4_8
      rw [← Z45]
      exact points5_self _ _
    exact ne_step (congrArg Prod.snd Z3) (ne_step Z4 (ne_step Z5 (ne_step (congrArg Prod.snd Z6) (ne_step (congrArg Prod.snd Z7) (ne_step (congrArg Prod.fst Z3) (ne_step (congrArg Prod.fst Z7) (ck_step L4 (nt_step P8 (ck_step hc (ne_step E10b (ck_step L10 (nt_step P14 (ne_step E12b (ne_step E12a (br_step (fun h => ne_step (C10 h).1 (br_step (fun q => ne_step (C12 h q) (refl_t0 n l B h)) (fun _ => refl_t3 n l B h)))
      (fun _ => ck_step hc (ne_step B.e18 (ck_step B.l18 (nt_step B.p20 (br_step (fun h => ne_step (B.two h) (refl_m6 n l B.max)) (fun _ => refl_m7 n l B.max)))))))))))))))))))))
  · exact (ck_step hc (ne_step E10b (ck_step L10 (nt_step P14 (ne_step E12b (ne_step E12a (br_step (fun h => ne_step (C10 h).1 (br_step (fun q => ne_step (C12 h q) (refl_t8 n l B h)) (fun _ => refl_t11 n l B h)))
      (fun _ => ck_step hc (ne_step B.e18 (ck_step B.l18 (nt_step B.p20 (br_step (fun h => ne_step (B.two h) (refl_m14 n l B.max)) (fun _ => refl_m15 n l B.max)))))))))))))

def l_FnReflections (coden : Nat) (codel : List Int) : Bool := true
theorem tot_l_FnReflections (coden : Nat) (codel : List Int) (hp : (bytB coden codel) = true) : Fo_l_FnReflections 1000000 coden codel = some (l_FnReflections coden codel) := by
  exact FnReflections_tot coden codel hp
def run_l_FnReflections : List PV → Option (Bool × List TR)
  | [.s coden (.byts codel)] => some (bytB coden codel, enc_b (l_FnReflections coden codel))
  | _ => none
theorem sound_l_FnReflections : Sound Tryz.prog 4 run_l_FnReflections := by
  refine sound_of de_b SO_l_FnReflections (by kernel_rfl) Tryz.func4 Tryz.ntmps4 rfl (by kernel_rfl) ?_
  intro W pvs avs rs hargs hrun
  unfold run_l_FnReflections at hrun
  split at hrun
  · simp only [Option.some.injEq, Prod.mk.injEq] at hrun
    obtain ⟨hp, rfl⟩ := hrun
    rename_i coden codel
    exact ⟨_, _, _, hargs, rfl, (eq_l_FnReflections _ coden codel).trans (tot_l_FnReflections coden codel hp)⟩
  · cases hrun


end

end Go.Proofs.YtoblkbpejfojjaaGreatDoor
