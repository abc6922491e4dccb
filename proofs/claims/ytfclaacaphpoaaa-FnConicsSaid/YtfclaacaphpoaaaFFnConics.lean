import Derived.Test.YtfclaacaphpoaaaFFnConicsb
set_option linter.unusedSimpArgs false
set_option linter.unusedVariables false
namespace Go.Proofs.Ytfclaacaphpoaaa
open Go.RowKit
noncomputable section
def G_l_FnConics (coden : Nat) (codel : List Int) (lo0 : Int → Option (Bool)) (lo3 : Int → Option (Bool)) (lo6 : Int → Int → Option (Bool)) (lo7 : Int → Option (Bool)) (lo10 : Int → Option (Bool)) (lo13 : Int → Int → Option (Bool)) : Option (Bool) :=
  (if (l_big coden codel) = true then some true else (if (codeB coden codel) = true then (if (((k3_0 coden codel).2) != ((k3_1 coden codel).2)) = true then some false else (if (!(((k3_0 coden codel).1) == ((k3_1 coden codel).1))) = true then some false else (if (codeB coden codel) = true then (if (((k3_2 coden codel).2) != ((k3_3 coden codel).2)) = true then some false else (if (!(((k3_2 coden codel).1) == ((k3_3 coden codel).1))) = true then some false else (if (((k3_4 coden codel).2) != ((k3_5 coden codel).2)) = true then some false else (if (lenB (((k3_4 coden codel).1).1) 2 (((k3_4 coden codel).1).2) && lenB (((k3_5 coden codel).1).1) 2 (((k3_5 coden codel).1).2)) = true then (if (!(k3_6 coden codel)) = true then some false else (if (((k3_7 coden codel).2) != ((k3_8 coden codel).2)) = true then some false else (if (((k3_7 coden codel).1) != ((k3_8 coden codel).1)) = true then some false else (if (((k3_9 coden codel).2) != ((k3_10 coden codel).2)) = true then some false else (if (((k3_9 coden codel).1) != ((k3_10 coden codel).1)) = true then some false else (if (codeB coden codel) = true then (if (((k3_11 coden codel).2) != ((k3_12 coden codel).2)) = true then some false else (if (!(((k3_11 coden codel).1) == ((k3_12 coden codel).1))) = true then some false else (if (((k3_13 coden codel).2) != ((k3_14 coden codel).2)) = true then some false else (if (!(((k3_13 coden codel).1) == ((k3_14 coden codel).1))) = true then some false else (if (((k3_11 coden codel).2) == 0) = true then (if (((k3_15 coden codel).2) != 0) = true then some false else (if (!(((k3_15 coden codel).1) == ((s_DrawPoleOf coden codel).2.2))) = true then some false else (if (((k3_4 coden codel).2) == 0) = true then (if (((k3_7 coden codel).2) != 0) = true then some false else (if (((k3_9 coden codel).2) != 0) = true then some false else (if (!((((k3_2 coden codel).2) == 0) == (((k3_7 coden codel).1) != 0))) = true then some false else (if (((k3_9 coden codel).1) != 0) = true then (if (((((k3_4 coden codel).1).1 : Nat) : Int) != (wI (((s_DrawCentreOf coden codel).1) - ((k3_7 coden codel).1)))) = true then some false else lo0 0) else lo3 0)))) else (if (((k3_0 coden codel).2) != 0) = true then some (((k3_0 coden codel).1) == (0, 0, 0)) else lo6 0 0)))) else (if (((k3_4 coden codel).2) == 0) = true then (if (((k3_7 coden codel).2) != 0) = true then some false else (if (((k3_9 coden codel).2) != 0) = true then some false else (if (!((((k3_2 coden codel).2) == 0) == (((k3_7 coden codel).1) != 0))) = true then some false else (if (((k3_9 coden codel).1) != 0) = true then (if (((((k3_4 coden codel).1).1 : Nat) : Int) != (wI (((s_DrawCentreOf coden codel).1) - ((k3_7 coden codel).1)))) = true then some false else lo7 0) else lo10 0)))) else (if (((k3_0 coden codel).2) != 0) = true then some (((k3_0 coden codel).1) == (0, 0, 0)) else lo13 0 0))))))) else none)))))) else none)))) else none))) else none))
def Fo_l_FnConics (fu : Nat) (coden : Nat) (codel : List Int) : Option (Bool) := G_l_FnConics coden codel (L_l_FnConics_0 fu coden codel (fu + 100)) (L_l_FnConics_3 fu coden codel (fu + 100)) (L_l_FnConics_6 fu coden codel (fu + 100)) (L_l_FnConics_7 fu coden codel (fu + 100)) (L_l_FnConics_10 fu coden codel (fu + 100)) (L_l_FnConics_13 fu coden codel (fu + 100))
theorem eqg_l_FnConics (fu : Nat) (coden : Nat) (codel : List Int) : execT Try.prog S_l_FnConics 3 346 (fun _ => fu + 100) dec_b [.s coden (.byts codel)] = G_l_FnConics coden codel (L_l_FnConics_0 fu coden codel (fu + 100)) (L_l_FnConics_3 fu coden codel (fu + 100)) (L_l_FnConics_6 fu coden codel (fu + 100)) (L_l_FnConics_7 fu coden codel (fu + 100)) (L_l_FnConics_10 fu coden codel (fu + 100)) (L_l_FnConics_13 fu coden codel (fu + 100)) := by
  have h1 : execT Try.prog S_l_FnConics 3 346 (fun _ => fu + 100) dec_b [.s coden (.byts codel)] = G_l_FnConics coden codel (X_l_FnConics_0 Try.prog fu coden codel (fu + 100)) (X_l_FnConics_3 Try.prog fu coden codel (fu + 100)) (X_l_FnConics_6 Try.prog fu coden codel (fu + 100)) (X_l_FnConics_7 Try.prog fu coden codel (fu + 100)) (X_l_FnConics_10 Try.prog fu coden codel (fu + 100)) (X_l_FnConics_13 Try.prog fu coden codel (fu + 100)) := by kernel_rfl
  have c0 : X_l_FnConics_0 Try.prog fu coden codel (fu + 100) = L_l_FnConics_0 fu coden codel (fu + 100) := by funext i; exact loop_l_FnConics_0 fu coden codel (fu + 100) i
  have c3 : X_l_FnConics_3 Try.prog fu coden codel (fu + 100) = L_l_FnConics_3 fu coden codel (fu + 100) := by funext i; exact loop_l_FnConics_3 fu coden codel (fu + 100) i
  have c6 : X_l_FnConics_6 Try.prog fu coden codel (fu + 100) = L_l_FnConics_6 fu coden codel (fu + 100) := by funext count i; exact loop_l_FnConics_6 fu coden codel (fu + 100) count i
  have c7 : X_l_FnConics_7 Try.prog fu coden codel (fu + 100) = L_l_FnConics_7 fu coden codel (fu + 100) := by funext i; exact loop_l_FnConics_7 fu coden codel (fu + 100) i
  have c10 : X_l_FnConics_10 Try.prog fu coden codel (fu + 100) = L_l_FnConics_10 fu coden codel (fu + 100) := by funext i; exact loop_l_FnConics_10 fu coden codel (fu + 100) i
  have c13 : X_l_FnConics_13 Try.prog fu coden codel (fu + 100) = L_l_FnConics_13 fu coden codel (fu + 100) := by funext count i; exact loop_l_FnConics_13 fu coden codel (fu + 100) count i
  rw [h1, c0, c3, c6, c7, c10, c13]
theorem eq_l_FnConics (fu : Nat) (coden : Nat) (codel : List Int) : execT Try.prog S_l_FnConics 3 346 (fun _ => fu + 100) dec_b [.s coden (.byts codel)] = Fo_l_FnConics fu coden codel := eqg_l_FnConics fu coden codel
theorem pt_at {P : List P2} {k : Nat} (h : k < P.length) : ∃ z, z ∈ P ∧ ((flat2 P).getD (((k : Nat) : Int).toNat * 2 + 0) 0, (flat2 P).getD (((k : Nat) : Int).toNat * 2 + 1) 0) = z ∧ R2 (flat2 P) k = z := by
  have hg := R2_flat P k
  rw [List.getD_eq_getElem?_getD, List.getElem?_eq_getElem h] at hg
  exact ⟨P[k], List.getElem_mem h, hg, hg⟩
theorem conic_lenB (p : Int) (k : P6) : lenB (i_ConicPoints p k).1.1 2 (i_ConicPoints p k).1.2 = true := by
  rw [ConicPoints_same]
  exact ConicPoints_len p k
theorem pts_le {p : Int} (hf : i_IsField p = true) (q : P2 → Bool) : ((pts p).filter q).length ≤ 961 := Nat.le_trans (List.length_filter_le _ _) (pts_len (Pr_prB (i_IsField_ok hf)))
theorem own_walk {p : Int} {k : P6} {a : P2} (h0 : (i_TangentOf p k a).2 = 0) {L : Nat → Int → Int → Option Bool} {F : Nat} (hF : 2000 < F)
    (hL : ∀ f c i, L (f + 1) c i = (if (decide (i < (((i_ConicPoints p k).1.1 : Nat) : Int))) = true then (if (decide (0 ≤ i) && decide (i < (((i_ConicPoints p k).1.1 : Nat) : Int))) = true then (if (Nat.ble (i.toNat * 2 + 2) ((i_ConicPoints p k).1.2).length) = true then (if ((i_IsOnLine p (((i_ConicPoints p k).1.2).getD (i.toNat * 2 + 0) 0, ((i_ConicPoints p k).1.2).getD (i.toNat * 2 + 1) 0) (i_TangentOf p k a).1).2 != 0) = true then some false else (if (i_IsOnLine p (((i_ConicPoints p k).1.2).getD (i.toNat * 2 + 0) 0, ((i_ConicPoints p k).1.2).getD (i.toNat * 2 + 1) 0) (i_TangentOf p k a).1).1 = true then L f (wI (c + 1)) (wI (i + 1)) else L f c (wI (i + 1)))) else none) else none) else (if ((i_ConicPoints p k).2 == 0) = true then (if (c == 1) = true then (if ((i_PolarOf p k a).2 == 0) = true then some ((i_PolarOf p k a).1 == (i_TangentOf p k a).1) else some false) else some false) else some false))) : L F 0 0 = some true := by
  obtain ⟨hf, hk, ha, hd, ho, hl, he⟩ := TangentOf_ok h0
  rw [ConicPoints_is hf hk, he, PolarOf_ok hf hk ha hl] at hL
  have hT := tangent_one hf hk ha hd ho hl
  have hli := polar_isLine hf hk ha hl
  have hP : ∀ z, z ∈ ((pts p).filter fun a => i_isOnConic p a k) → i_isPoint p z = true := fun z hz => isPoint_mem (List.mem_filter.1 hz).1
  have hlen := pts_le hf (fun a => i_isOnConic p a k)
  generalize ((pts p).filter fun a => i_isOnConic p a k) = P at *
  generalize (i_polarLine p k a).1 = t at *
  dsimp only at hL
  refine walk_count (n := P.length) (q := fun j => i_isOn p (R2 (flat2 P) j) t) (T := 1) (by omega) (fun f c j hj _ _ => ?_) (fun f => ?_) P.length 0 F 0 (by omega) (by omega) (by omega) (by omega) ?_
  · rw [hL, if_pos (cnd hj), if_pos (cnd2 hj), if_pos (by rw [Int.toNat_natCast]; exact row2_ok (flat2_len P) hj)]
    obtain ⟨z, hz, e1, e2⟩ := pt_at hj
    rw [e1, IsOnLine_is hf (hP z hz) hli, e2]
    rfl
  · rw [hL, if_neg (by simp)]
    simp
  · rw [← List.range_eq_range', count2 P.length (flat2 P) (fun z => i_isOn p z t), rows2_flat2, hT]
    rfl
theorem conic_le {p : Int} {k : P6} (hf : i_IsField p = true) (hk : i_isConic p k = true) : (i_ConicPoints p k).1.1 ≤ 961 ∧ (i_ConicPoints p k).1.2.length = 2 * (i_ConicPoints p k).1.1 := by
  rw [ConicPoints_is hf hk]
  exact ⟨pts_le hf _, flat2_len _⟩
theorem conic_wI {p : Int} {k : P6} (hf : i_IsField p = true) (hk : i_isConic p k = true) (hd : i_determinant p k ≠ 0) : (((i_ConicPoints p k).1.1 : Nat) : Int) = wI (p - i_conicKind p k) := by
  have h := (conic_le hf hk).1
  have r : (((i_ConicPoints p k).1.1 : Nat) : Int) = p - i_conicKind p k := by
    rw [ConicPoints_is hf hk]
    exact conic_count2 hf hk hd
  rw [← r, wI_eq, w64 (by omega)]
theorem other_at {p : Int} {k : P6} {c : P2} (hf : i_IsField p = true) (hk : i_isConic p k = true) (hc : i_isPoint p c = true) (c1 : (i_polar p k c).1 = 0) (c2 : (i_polar p k c).2.1 = 0) {i : Nat} (hi : i < (i_ConicPoints p k).1.1) :
    l_hasPoint9 (i_ConicPoints p k).1.1 (i_ConicPoints p k).1.2 ((wI (wI (wI (2 * c.1) + p) - (i_ConicPoints p k).1.2.getD (((i : Nat) : Int).toNat * 2 + 0) 0)).tmod p, (wI (wI (wI (2 * c.2) + p) - (i_ConicPoints p k).1.2.getD (((i : Nat) : Int).toNat * 2 + 1) 0)).tmod p) = true := by
  rw [ConicPoints_is hf hk] at hi ⊢
  exact other_has hf hk hc c1 c2 hi
theorem FnConics_tot (n : Nat) (l : List Int) (hp : bytB n l = true) : Fo_l_FnConics 1000000 n l = some true := by
  unfold Fo_l_FnConics G_l_FnConics
  refine br_step (fun _ => rfl) (fun hb => ?_)
  have hc := code_big hp hb
  have E0 : k3_0 n l = k3_1 n l := TangentOf_same _ _ _
  have E2 : k3_2 n l = k3_3 n l := CentreOf_same _ _
  have E4 : k3_4 n l = k3_5 n l := ConicPoints_same _ _
  have E7 : k3_7 n l = k3_8 n l := KindOf_same _ _
  have E9 : k3_9 n l = k3_10 n l := DeterminantOf_same _ _
  have E11 : k3_11 n l = k3_12 n l := PoleOf_same _ _ _
  have E13 : k3_13 n l = k3_14 n l := PolarOf_same _ _ _
  have E0b := congrArg Prod.snd E0; have E2b := congrArg Prod.snd E2; have E4b := congrArg Prod.snd E4; have E7b := congrArg Prod.snd E7; have E9b := congrArg Prod.snd E9; have E11b := congrArg Prod.snd E11; have E13b := congrArg Prod.snd E13
  have E7a := congrArg Prod.fst E7; have E9a := congrArg Prod.fst E9
  have E0n : ((k3_0 n l).1 == (k3_1 n l).1) = true := by rw [E0]; exact beq_self_eq_true _
  have E2n : ((k3_2 n l).1 == (k3_3 n l).1) = true := by rw [E2]; exact beq_self_eq_true _
  have E11n : ((k3_11 n l).1 == (k3_12 n l).1) = true := by rw [E11]; exact beq_self_eq_true _
  have E13n : ((k3_13 n l).1 == (k3_14 n l).1) = true := by rw [E13]; exact beq_self_eq_true _
  have L4 : lenB (k3_4 n l).1.1 2 (k3_4 n l).1.2 = true := conic_lenB _ _
  have L4b : (lenB (k3_4 n l).1.1 2 (k3_4 n l).1.2 && lenB (k3_5 n l).1.1 2 (k3_5 n l).1.2) = true := by rw [← E4]; exact and_two L4 L4
  have H6 : k3_6 n l = true := by
    show l_points9 (k3_4 n l).1.1 (k3_4 n l).1.2 (k3_5 n l).1.1 (k3_5 n l).1.2 = true
    rw [← E4]
    exact points9_self _ _
  have P11 : ((k3_11 n l).2 == 0) = true → k3_15 n l = ((s_DrawPoleOf n l).2.2, 0) := fun h => PoleOf_ok (by simpa using h)
  have P11b : ((k3_11 n l).2 == 0) = true → (k3_15 n l).2 = 0 := fun h => by rw [P11 h]
  have P11a : ((k3_11 n l).2 == 0) = true → ((k3_15 n l).1 == (s_DrawPoleOf n l).2.2) = true := fun h => by rw [P11 h]; exact beq_self_eq_true _
  have tail : ∀ lo : Int → Int → Option Bool, ((k3_0 n l).2 = 0 → lo 0 0 = some true) → (if ((k3_0 n l).2 != 0) = true then some ((k3_0 n l).1 == (0, 0, 0)) else lo 0 0) = some true := fun lo h => br_step (fun h1 => by
    have h2 : (k3_0 n l).1 = (0, 0, 0) := TangentOf_bad (by simpa using h1)
    rw [h2]
    rfl) (fun h1 => h (by simpa using h1))
  have own : ∀ (L : Nat → Int → Int → Option Bool) (F : Nat), (∀ f c i, L (f + 1) c i = B_l_FnConics_6 n l (L f) c i) → 2000 < F → (k3_0 n l).2 = 0 → L F 0 0 = some true := fun L F hL hF h0 => own_walk h0 hF hL
  have C : ((k3_4 n l).2 == 0) = true → i_IsField (s_DrawCentreOf n l).1 = true ∧ i_isConic (s_DrawCentreOf n l).1 (s_DrawCentreOf n l).2 = true := fun h => ConicPoints_ok (by simpa using h)
  have mid : ∀ (L : Nat → Int → Option Bool) (F : Nat), ((k3_4 n l).2 == 0) = true → (∀ f i, ∃ lo1 lo2 : Int → Int → Option Bool, L (f + 1) i = B_l_FnConics_0 n l lo1 lo2 (L f) i ∧ ((k3_0 n l).2 = 0 → lo1 0 0 = some true) ∧ ((k3_0 n l).2 = 0 → lo2 0 0 = some true)) → 2000 < F → L F 0 = some true := by
    intro L F h4 hL hF
    obtain ⟨hf, hk⟩ := C h4
    obtain ⟨hlen, hl2⟩ : (k3_4 n l).1.1 ≤ 961 ∧ (k3_4 n l).1.2.length = 2 * (k3_4 n l).1.1 := conic_le hf hk
    have hne : (!((s_DrawCentreOf n l).1 == 0)) = true := by
      have := field_mem hf
      simp at this
      simp
      omega
    by_cases h2 : (k3_2 n l).2 = 0
    · obtain ⟨c0, c1, c2⟩ := (CentreOf_is hf hk).2 h2
      refine walk_loop (L := L) (n := (k3_4 n l).1.1) (by omega) (fun f k hk' hr => ?_) (fun f => ?_)
      · obtain ⟨lo1, lo2, h, _, _⟩ := hL f (k : Int)
        rw [h]
        unfold B_l_FnConics_0
        have b1 : Nat.ble (((k : Nat) : Int).toNat * 2 + 0 + 1) (k3_4 n l).1.2.length = true := by
          rw [Int.toNat_natCast]
          exact ble_ok (by omega)
        have b2 : Nat.ble (((k : Nat) : Int).toNat * 2 + 1 + 1) (k3_4 n l).1.2.length = true := by
          rw [Int.toNat_natCast]
          exact ble_ok (by omega)
        have b3 : l_hasPoint9 (k3_4 n l).1.1 (k3_4 n l).1.2 ((wI (wI (wI (2 * (k3_2 n l).1.1) + (s_DrawCentreOf n l).1) - (k3_4 n l).1.2.getD (((k : Nat) : Int).toNat * 2 + 0) 0)).tmod (s_DrawCentreOf n l).1, (wI (wI (wI (2 * (k3_2 n l).1.2) + (s_DrawCentreOf n l).1) - (k3_4 n l).1.2.getD (((k : Nat) : Int).toNat * 2 + 1) 0)).tmod (s_DrawCentreOf n l).1) = true := other_at hf hk c0 c1 c2 hk'
        refine ck_step (cnd hk') ?_
        refine ck_step (by rw [h2]; rfl) ?_
        refine ck_step (cnd2 hk') ?_
        refine ck_step b1 ?_
        refine ck_step hne ?_
        refine ck_step (cnd2 hk') ?_
        refine ck_step b2 ?_
        refine ck_step hne ?_
        refine ck_step L4 ?_
        refine nt_step b3 ?_
        rw [wrap_add1 hk' (by omega)]
        exact hr
      · obtain ⟨lo1, lo2, h, h3, h5⟩ := hL f (((k3_4 n l).1.1 : Nat) : Int)
        rw [h]
        unfold B_l_FnConics_0
        refine no_step (cndE _) ?_
        exact tail _ (by assumption)
    · obtain ⟨f, rfl⟩ : ∃ f, F = f + 1 := ⟨F - 1, by omega⟩
      obtain ⟨lo1, lo2, h, h3, h5⟩ := hL f 0
      rw [h]
      unfold B_l_FnConics_0
      refine br_step (fun _ => ?_) (fun _ => tail _ (by assumption))
      refine no_step (by simpa using h2) ?_
      exact tail _ (by assumption)
  have C7 : ((k3_4 n l).2 == 0) = true → (k3_7 n l).2 = 0 := fun h => by
    have e : k3_7 n l = _ := KindOf_is (C h).1 (C h).2
    rw [e]
  have C9 : ((k3_4 n l).2 == 0) = true → (k3_9 n l).2 = 0 := fun h => by
    have e : k3_9 n l = _ := DeterminantOf_is (C h).1 (C h).2
    rw [e]
  have C2 : ((k3_4 n l).2 == 0) = true → ((((k3_2 n l).2) == 0) == (((k3_7 n l).1) != 0)) = true := fun h => by
    have e : k3_7 n l = _ := KindOf_is (C h).1 (C h).2
    have e2 : ((k3_2 n l).2 = 0 ↔ _) := (CentreOf_is (C h).1 (C h).2).1
    rw [e]
    rw [beq_iff_eq, Bool.eq_iff_iff, beq_iff_eq, e2]
    simp
  have CL : ((k3_4 n l).2 == 0) = true → ((k3_9 n l).1 != 0) = true → (((k3_4 n l).1.1 : Nat) : Int) = wI ((s_DrawCentreOf n l).1 - (k3_7 n l).1) := fun h hd => by
    have e7 : k3_7 n l = _ := KindOf_is (C h).1 (C h).2
    have e9 : k3_9 n l = _ := DeterminantOf_is (C h).1 (C h).2
    rw [e9] at hd
    rw [e7]
    exact conic_wI (C h).1 (C h).2 (by simpa using hd)
  repeat' (first
    | with_reducible refine ck_step hc ?_
    | with_reducible refine ne_step E0b ?_
    | with_reducible refine nt_step E0n ?_
    | with_reducible refine ne_step E2b ?_
    | with_reducible refine nt_step E2n ?_
    | with_reducible refine ne_step E4b ?_
    | with_reducible refine ck_step L4b ?_
    | with_reducible refine nt_step H6 ?_
    | with_reducible refine ne_step E7b ?_
    | with_reducible refine ne_step E7a ?_
    | with_reducible refine ne_step E9b ?_
    | with_reducible refine ne_step E9a ?_
    | with_reducible refine ne_step E11b ?_
    | with_reducible refine nt_step E11n ?_
    | with_reducible refine ne_step E13b ?_
    | with_reducible refine nt_step E13n ?_
    | with_reducible refine ne_step (P11b ‹((k3_11 n l).2 == 0) = true›) ?_
    | with_reducible refine nt_step (P11a ‹((k3_11 n l).2 == 0) = true›) ?_
    | with_reducible refine ne_step (C7 ‹((k3_4 n l).2 == 0) = true›) ?_
    | with_reducible refine ne_step (C9 ‹((k3_4 n l).2 == 0) = true›) ?_
    | with_reducible refine nt_step (C2 ‹((k3_4 n l).2 == 0) = true›) ?_
    | with_reducible refine ne_step (CL ‹((k3_4 n l).2 == 0) = true› ‹((k3_9 n l).1 != 0) = true›) ?_
    | (refine mid (fun f i => L_l_FnConics_0 1000000 n l f i) _ ‹((k3_4 n l).2 == 0) = true› (fun f i => ⟨_, _, rfl, own (fun f c j => L_l_FnConics_1 1000000 n l i (L_l_FnConics_0 1000000 n l _) f c j) _ (fun _ _ _ => rfl) (by decide), own (fun f c j => L_l_FnConics_2 1000000 n l i (L_l_FnConics_0 1000000 n l _) f c j) _ (fun _ _ _ => rfl) (by decide)⟩) (by decide); done)
    | (refine mid (fun f i => L_l_FnConics_3 1000000 n l f i) _ ‹((k3_4 n l).2 == 0) = true› (fun f i => ⟨_, _, rfl, own (fun f c j => L_l_FnConics_4 1000000 n l i (L_l_FnConics_3 1000000 n l _) f c j) _ (fun _ _ _ => rfl) (by decide), own (fun f c j => L_l_FnConics_5 1000000 n l i (L_l_FnConics_3 1000000 n l _) f c j) _ (fun _ _ _ => rfl) (by decide)⟩) (by decide); done)
    | (refine mid (fun f i => L_l_FnConics_7 1000000 n l f i) _ ‹((k3_4 n l).2 == 0) = true› (fun f i => ⟨_, _, rfl, own (fun f c j => L_l_FnConics_8 1000000 n l i (L_l_FnConics_7 1000000 n l _) f c j) _ (fun _ _ _ => rfl) (by decide), own (fun f c j => L_l_FnConics_9 1000000 n l i (L_l_FnConics_7 1000000 n l _) f c j) _ (fun _ _ _ => rfl) (by decide)⟩) (by decide); done)
    | (refine mid (fun f i => L_l_FnConics_10 1000000 n l f i) _ ‹((k3_4 n l).2 == 0) = true› (fun f i => ⟨_, _, rfl, own (fun f c j => L_l_FnConics_11 1000000 n l i (L_l_FnConics_10 1000000 n l _) f c j) _ (fun _ _ _ => rfl) (by decide), own (fun f c j => L_l_FnConics_12 1000000 n l i (L_l_FnConics_10 1000000 n l _) f c j) _ (fun _ _ _ => rfl) (by decide)⟩) (by decide); done)
    | with_reducible exact tail _ (own (fun f c i => L_l_FnConics_6 1000000 n l f c i) _ (fun _ _ _ => rfl) (by decide))
    | with_reducible exact tail _ (own (fun f c i => L_l_FnConics_13 1000000 n l f c i) _ (fun _ _ _ => rfl) (by decide))
    | with_reducible refine br_step (fun h => ?_) (fun h => ?_))

def l_FnConics (coden : Nat) (codel : List Int) : Bool := true
theorem tot_l_FnConics (coden : Nat) (codel : List Int) (hp : (bytB coden codel) = true) : Fo_l_FnConics 1000000 coden codel = some (l_FnConics coden codel) := by
  exact FnConics_tot coden codel hp
def run_l_FnConics : List PV → Option (Bool × List TR)
  | [.s coden (.byts codel)] => some (bytB coden codel, enc_b (l_FnConics coden codel))
  | _ => none
theorem sound_l_FnConics : Sound Try.prog 3 run_l_FnConics := by
  refine sound_of de_b SO_l_FnConics (by kernel_rfl) Try.func3 Try.ntmps3 rfl (by kernel_rfl) ?_
  intro W pvs avs rs hargs hrun
  unfold run_l_FnConics at hrun
  split at hrun
  · simp only [Option.some.injEq, Prod.mk.injEq] at hrun
    obtain ⟨hp, rfl⟩ := hrun
    rename_i coden codel
    exact ⟨_, _, _, hargs, rfl, (eq_l_FnConics _ coden codel).trans (tot_l_FnConics coden codel hp)⟩
  · cases hrun


end

end Go.Proofs.Ytfclaacaphpoaaa
