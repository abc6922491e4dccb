import Derived.Test.YtjdpbaefonekmaaQv
set_option linter.unusedSimpArgs false
set_option linter.unusedVariables false
namespace Go.Proofs.Ytjdpbaefonekmaa
open Go.RowKit
/-! Rounds: the program and the reference. -/
theorem xl_at' {p s : Int} {n m k : Nat} (h : k < m) : (xl p n s m).getD (k * 1) 0 = xx p n s k := by rw [Nat.mul_one, xl_at h]
theorem ir_in {p s n : Int} {M : Nat} (hM : M ≤ 1000) (hw : i_walk p n s (wI ((wI (2 * p)) + 2)) = (M, xl p n.toNat s M)) (a : Nat) (ha : a < M) (rec2 : Int → Option (Int × Int × Int)) :
    ∀ (d k f : Nat), k + d = M → d < f → (∀ c, a < c → xx p n.toNat s c ≠ xx p n.toNat s a) → a < k → L_i_WalkRound_3 1000000 p n s (a : Int) rec2 f (k : Int) = rec2 ((a + 1 : Nat) : Int)
  | d, k, 0, _, h, _, _ => absurd h (Nat.not_lt_zero d)
  | 0, k, f + 1, hk, _, hd, hak => by
    obtain rfl : k = M := by omega
    show B_i_WalkRound_3 p n s (a : Int) rec2 (L_i_WalkRound_3 1000000 p n s (a : Int) rec2 f) (k : Int) = _
    unfold B_i_WalkRound_3
    rw [hw, if_neg (by simp), wrap_add1 ha (by omega)]
  | d + 1, k, f + 1, hk, hf, hd, hak => by
    show B_i_WalkRound_3 p n s (a : Int) rec2 (L_i_WalkRound_3 1000000 p n s (a : Int) rec2 f) (k : Int) = _
    unfold B_i_WalkRound_3
    have hkM : k < M := by omega
    have hne : ¬ (xx p n.toNat s k == xx p n.toNat s a) = true := by simpa using hd k hak
    rw [hw, if_pos (cnd hkM), if_pos (cnd2 hkM), Int.toNat_natCast, if_pos (row1_ok (xl_len _ _ _ _) hkM), if_pos (cnd2 ha), Int.toNat_natCast, if_pos (row1_ok (xl_len _ _ _ _) ha), xl_at' hkM, xl_at' ha, if_neg hne, wrap_add1 hkM (by omega)]
    exact ir_in hM hw a ha rec2 d (k + 1) f (by omega) (by omega) hd (by omega)
theorem ir_hit {p s n : Int} {M : Nat} (hM : M ≤ 1000) (hw : i_walk p n s (wI ((wI (2 * p)) + 2)) = (M, xl p n.toNat s M)) {j t : Nat} (hjt : j < t) (htM : t < M) (he : xx p n.toNat s t = xx p n.toNat s j) (hd : ∀ a b, a < b → b < t → xx p n.toNat s a ≠ xx p n.toNat s b) (rec2 : Int → Option (Int × Int × Int)) :
    ∀ (d k f : Nat), k + d = t → d < f → j < k → L_i_WalkRound_3 1000000 p n s (j : Int) rec2 f (k : Int) = some ((j : Int), (t : Int) - (j : Int), 0)
  | d, k, 0, _, h, _ => absurd h (Nat.not_lt_zero d)
  | 0, k, f + 1, hk, _, hjk => by
    obtain rfl : k = t := by omega
    have hj : j < M := by omega
    show B_i_WalkRound_3 p n s (j : Int) rec2 (L_i_WalkRound_3 1000000 p n s (j : Int) rec2 f) (k : Int) = _
    unfold B_i_WalkRound_3
    rw [hw, if_pos (cnd htM), if_pos (cnd2 htM), Int.toNat_natCast, if_pos (row1_ok (xl_len _ _ _ _) htM), if_pos (cnd2 hj), Int.toNat_natCast, if_pos (row1_ok (xl_len _ _ _ _) hj), xl_at' htM, xl_at' hj, he, if_pos (beq_self_eq_true _), wI_eq, w64 (by omega)]
  | d + 1, k, f + 1, hk, hf, hjk => by
    have hj : j < M := by omega
    have hkM : k < M := by omega
    have hne : ¬ (xx p n.toNat s k == xx p n.toNat s j) = true := by
      have := hd j k hjk (by omega)
      simp
      omega
    show B_i_WalkRound_3 p n s (j : Int) rec2 (L_i_WalkRound_3 1000000 p n s (j : Int) rec2 f) (k : Int) = _
    unfold B_i_WalkRound_3
    rw [hw, if_pos (cnd hkM), if_pos (cnd2 hkM), Int.toNat_natCast, if_pos (row1_ok (xl_len _ _ _ _) hkM), if_pos (cnd2 hj), Int.toNat_natCast, if_pos (row1_ok (xl_len _ _ _ _) hj), xl_at' hkM, xl_at' hj, if_neg hne, wrap_add1 hkM (by omega)]
    exact ir_hit hM hw hjt htM he hd rec2 d (k + 1) f (by omega) (by omega) (by omega)
theorem ir_out {p s n : Int} {M : Nat} (hM : M ≤ 1000) (hw : i_walk p n s (wI ((wI (2 * p)) + 2)) = (M, xl p n.toNat s M)) {j t : Nat} (hjt : j < t) (htM : t < M) (he : xx p n.toNat s t = xx p n.toNat s j) (hd : ∀ a b, a < b → b < t → xx p n.toNat s a ≠ xx p n.toNat s b) :
    ∀ (d a f : Nat), a + d = j → d < f → L_i_WalkRound_2 1000000 p n s f (a : Int) = some ((j : Int), (t : Int) - (j : Int), 0)
  | d, a, 0, _, h => absurd h (Nat.not_lt_zero d)
  | 0, a, f + 1, ha, _ => by
    obtain rfl : a = j := by omega
    have haM : a < M := by omega
    show B_i_WalkRound_2 p n s (L_i_WalkRound_3 1000000 p n s (a : Int) (L_i_WalkRound_2 1000000 p n s f) (1000000 + 100)) (L_i_WalkRound_2 1000000 p n s f) (a : Int) = _
    unfold B_i_WalkRound_2
    rw [hw, if_pos (cnd haM), wrap_add1 haM (by omega)]
    exact ir_hit hM hw hjt htM he hd _ (t - (a + 1)) (a + 1) (1000000 + 100) (by omega) (by omega) (by omega)
  | d + 1, a, f + 1, ha, hf => by
    have haM : a < M := by omega
    show B_i_WalkRound_2 p n s (L_i_WalkRound_3 1000000 p n s (a : Int) (L_i_WalkRound_2 1000000 p n s f) (1000000 + 100)) (L_i_WalkRound_2 1000000 p n s f) (a : Int) = _
    unfold B_i_WalkRound_2
    rw [hw, if_pos (cnd haM), wrap_add1 haM (by omega), ir_in hM hw a haM _ (M - (a + 1)) (a + 1) (1000000 + 100) (by omega) (by omega) (fun c hc => rho_tail hjt he hd (by omega) hc) (by omega)]
    exact ir_out hM hw hjt htM he hd d (a + 1) f (by omega) (by omega)
theorem ir_code (p n s : Int) : i_asked p true (i_WalkRound_c1 p s n) = ncode p n s := by
  have e : i_WalkRound_c1 p s n = (decide (0 ≤ s) && decide (s < p) && decide (0 ≤ n) && decide (n ≤ 1000)) := by
    unfold i_WalkRound_c1 i_isNumber i_isIndex
    by_cases h1 : 0 ≤ s <;> by_cases h2 : s < p <;> by_cases h3 : 0 ≤ n <;> simp [h1, h2, h3]
  unfold i_asked ncode
  rw [e]
theorem sr_fill {p s n : Int} {R : Option (Int × Int × Int)} (hp : prB p = true) (key : ∀ (l : List Int) (t25 : Int) (rec0 : List Int → Int → Option (Int × Int × Int)), l.length = p.toNat → (∀ y, y < p.toNat → l.getD y 0 = -1) → L_s_WalkRound_1 1000000 p n s l t25 rec0 (1000000 + 100) l 0 s = R) :
    ∀ (d k f : Nat) (l : List Int), k + d = p.toNat → d < f → l.length = p.toNat → (∀ y, y < k → l.getD y 0 = -1) → L_s_WalkRound_0 1000000 p n s f l (k : Int) = R
  | d, k, 0, l, _, h, _, _ => absurd h (Nat.not_lt_zero d)
  | 0, k, f + 1, l, hk, _, hl, hy => by
    obtain rfl : k = p.toNat := by omega
    show B_s_WalkRound_0 p n s (L_s_WalkRound_1 1000000 p n s l ((p.toNat : Nat) : Int) (L_s_WalkRound_0 1000000 p n s f) (1000000 + 100)) (L_s_WalkRound_0 1000000 p n s f) l ((p.toNat : Nat) : Int) = _
    unfold B_s_WalkRound_0
    rw [if_neg (by simp)]
    exact key l _ _ hl hy
  | d + 1, k, f + 1, l, hk, hf, hl, hy => by
    have h31 := (prB_nat hp).1
    have hkp : k < p.toNat := by omega
    show B_s_WalkRound_0 p n s (L_s_WalkRound_1 1000000 p n s l (k : Int) (L_s_WalkRound_0 1000000 p n s f) (1000000 + 100)) (L_s_WalkRound_0 1000000 p n s f) l (k : Int) = _
    unfold B_s_WalkRound_0
    rw [if_pos (cnd hkp), if_pos (cnd2 hkp), Int.toNat_natCast, if_pos (row1_ok hl hkp), wrap_add1 hkp (by omega)]
    refine sr_fill hp key d (k + 1) f _ (by omega) (by omega) (by rw [List.length_set, hl]) fun y h => ?_
    rw [getD_set (by omega)]
    split
    · rfl
    · exact hy y (by omega)
theorem sr_go {p s n : Int} (hp : prB p = true) (hs : 0 ≤ s ∧ s < p) (hn : 0 ≤ n ∧ n ≤ 1000) {j t : Nat} (hjt : j < t) (ht : t ≤ p.toNat) (he : xx p n.toNat s t = xx p n.toNat s j) (hd : ∀ a b, a < b → b < t → xx p n.toNat s a ≠ xx p n.toNat s b) (l0 : List Int) (t25 : Int) (rec0 : List Int → Int → Option (Int × Int × Int)) :
    ∀ (d k f : Nat) (l : List Int), k + d = t → d < f → l.length = p.toNat → (∀ i, i < k → l.getD (xx p n.toNat s i).toNat 0 = (i : Int)) → (∀ y, y < p.toNat → (∀ i, i < k → (xx p n.toNat s i).toNat ≠ y) → l.getD y 0 = -1) →
      L_s_WalkRound_1 1000000 p n s l0 t25 rec0 f l (k : Int) (xx p n.toNat s k) = some ((j : Int), (t : Int) - (j : Int), 0)
  | d, k, 0, l, _, h, _, _, _ => absurd h (Nat.not_lt_zero d)
  | 0, k, f + 1, l, hk, _, hl, h1, h2 => by
    obtain ⟨h31, h0, hpn⟩ := prB_nat hp
    obtain rfl : k = t := by omega
    have hx := xx_b (n := n.toNat) hs k
    have e : l.getD ((xx p n.toNat s k).toNat * 1) 0 = (j : Int) := by rw [Nat.mul_one, he]; exact h1 j hjt
    have hi : (decide (0 ≤ xx p n.toNat s k) && decide (xx p n.toNat s k < ((p.toNat : Nat) : Int))) = true := idx_ok (by omega)
    have hb : Nat.ble ((xx p n.toNat s k).toNat * 1 + 1) l.length = true := ble_ok (by omega)
    show B_s_WalkRound_1 p n s l0 t25 rec0 (L_s_WalkRound_1 1000000 p n s l0 t25 rec0 f) l (k : Int) (xx p n.toNat s k) = _
    unfold B_s_WalkRound_1
    rw [if_pos hi, if_pos hb, e, if_neg (by simp), if_pos hi, if_pos hb, if_pos hi, if_pos hb, wI_eq, w64 (by omega)]
  | d + 1, k, f + 1, l, hk, hf, hl, h1, h2 => by
    obtain ⟨h31, h0, hpn⟩ := prB_nat hp
    have hx := xx_b (n := n.toNat) hs k
    have hn2 : 0 ≤ n ∧ n ≤ 1000000 := by omega
    have e : l.getD ((xx p n.toNat s k).toNat * 1) 0 = -1 := by
      rw [Nat.mul_one]
      refine h2 _ (by omega) fun i hi hc => ?_
      have := xx_b (n := n.toNat) hs i
      exact hd i k hi (by omega) (by omega)
    have hi : (decide (0 ≤ xx p n.toNat s k) && decide (xx p n.toNat s k < ((p.toNat : Nat) : Int))) = true := idx_ok (by omega)
    have hb : Nat.ble ((xx p n.toNat s k).toNat * 1 + 1) l.length = true := ble_ok (by omega)
    have ev : vv p (xx p n.toNat s k) n.toNat = xx p n.toNat s (k + 1) := rfl
    show B_s_WalkRound_1 p n s l0 t25 rec0 (L_s_WalkRound_1 1000000 p n s l0 t25 rec0 f) l (k : Int) (xx p n.toNat s k) = _
    unfold B_s_WalkRound_1
    rw [if_pos hi, if_pos hb, e, if_pos (by decide), if_pos hi, if_pos hb, if_pos (some_of (value_eq hp hx hn2)), value_is hp hx hn2, ev, wrap_add1 (n := k + 1) (by omega) (by omega)]
    refine sr_go hp hs hn hjt ht he hd l0 t25 rec0 d (k + 1) f _ (by omega) (by omega) (by rw [List.length_set, hl]) (fun i hi => ?_) (fun y hy hc => ?_)
    · rw [getD_set (by omega)]
      by_cases hik : i = k
      · rw [hik, if_pos (by omega)]
      · have hxi := xx_b (n := n.toNat) hs i
        have hne := hd i k (by omega) (by omega)
        rw [if_neg (by omega)]
        exact h1 i (by omega)
    · rw [getD_set (by omega), if_neg (by have := hc k (by omega); omega)]
      exact h2 y hy fun i hi => hc i (by omega)
theorem round_both (p n s : Int) : ∃ r : Int × Int × Int, Fo_i_WalkRound 1000000 p n s = some r ∧ Fo_s_WalkRound 1000000 p n s = some r ∧ (r.2.2 = 0 → ∃ j t : Nat, i_IsField p = true ∧ (0 ≤ s ∧ s < p) ∧ (0 ≤ n ∧ n ≤ 1000) ∧ j < t ∧ t ≤ 31 ∧ xx p n.toNat s t = xx p n.toNat s j ∧ r = ((j : Int), (t : Int) - (j : Int), 0)) := by
  by_cases h : ncode p n s = 0
  · obtain ⟨hf, hs, hn⟩ := ncode_zero h
    have hp := Pr_prB (i_IsField_ok hf)
    obtain ⟨h31, h0, hpn⟩ := prB_nat hp
    obtain ⟨j, t, hjt, ht, he, hd⟩ := rho (n := n.toNat) hs
    have e2 : wI ((wI (2 * p)) + 2) = ((2 * p.toNat + 2 : Nat) : Int) := by
      simp only [wI_eq]
      rw [w64 (n := 2 * p) (by omega), w64 (by omega)]
      omega
    have hwk : 0 ≤ wI ((wI (2 * p)) + 2) ∧ wI ((wI (2 * p)) + 2) ≤ 1000 := by rw [e2]; omega
    have hn2 : 0 ≤ n ∧ n ≤ 100000 := by omega
    have hw := walk_is hp hs hn2 hwk
    have hM : (wI ((wI (2 * p)) + 2)).toNat + 1 = 2 * p.toNat + 3 := by rw [e2, Int.toNat_natCast]
    refine ⟨((j : Int), (t : Int) - (j : Int), 0), ?_, ?_, fun _ => ⟨j, t, hf, hs, hn, hjt, by omega, he, rfl⟩⟩
    · unfold Fo_i_WalkRound G_i_WalkRound
      rw [if_pos (Bool.true_or _), ir_code, h, if_neg (by decide), if_pos (some_of (walk_eq hp hs hn2 hwk))]
      rw [hM] at hw
      exact ir_out (M := 2 * p.toNat + 3) (by omega) hw hjt (by omega) he hd j 0 (1000000 + 100) (by omega) (by omega)
    · unfold Fo_s_WalkRound G_s_WalkRound
      rw [code51, h]
      rw [if_neg (by decide), if_pos (mk_ok hp)]
      exact sr_fill hp (fun l t25 rec0 hl hy => sr_go hp hs hn hjt ht he hd l t25 rec0 t 0 (1000000 + 100) l (by omega) (by omega) hl (fun i hi => absurd hi (Nat.not_lt_zero i)) (fun y hy' _ => hy y hy')) p.toNat 0 (1000000 + 100) _ (by omega) (by omega) (by simp) (fun y hy => absurd hy (Nat.not_lt_zero y))
  · refine ⟨(0, 0, ncode p n s), ?_, ?_, fun hc => absurd hc h⟩
    · unfold Fo_i_WalkRound G_i_WalkRound
      rw [if_pos (Bool.true_or _), ir_code, if_pos (by simpa using h)]
    · unfold Fo_s_WalkRound G_s_WalkRound
      rw [code51, if_pos (by simpa using h)]

end Go.Proofs.Ytjdpbaefonekmaa
