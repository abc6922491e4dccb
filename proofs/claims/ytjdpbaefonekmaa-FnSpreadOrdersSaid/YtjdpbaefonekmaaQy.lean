import Derived.Test.YtjdpbaefonekmaaQu
import Derived.Test.YtjdpbaefonekmaaQx
set_option linter.unusedSimpArgs false
set_option linter.unusedVariables false
namespace Go.Proofs.Ytjdpbaefonekmaa
open Go.RowKit
/-! What the law asks of orders, counts and rounds. -/
theorem code_so {p n : Int} (hf : i_IsField p = true) (hn : 1 ≤ n ∧ n ≤ 1000) : i_SpreadsOfOrder p n = (((ofOrd p n).length, ofOrd p n), 0) := by
  have e : i_asked p true (i_SpreadsOfOrder_c1 n) = 0 := by
    unfold i_asked i_SpreadsOfOrder_c1
    simp [hf, hn]
  rw [isoo_is, e]
  rfl
theorem ofOrd_max (p n : Int) : (ofOrd p n).length ≤ p.toNat := by
  unfold ofOrd
  exact Nat.le_trans (List.length_filter_le _ _) (by rw [nums_len]; exact Nat.le_refl _)
theorem so_len (p n : Int) : lenB (i_SpreadsOfOrder p n).1.1 1 (i_SpreadsOfOrder p n).1.2 = true := by
  rw [isoo_is]
  by_cases h : i_asked p true (i_SpreadsOfOrder_c1 n) = 0
  · rw [if_neg (by simp [h])]
    have h31 := (prB_nat (Pr_prB (i_IsField_ok (asked_zero h).1))).1
    have := ofOrd_max p n
    exact lenB_of (by simp) (by dsimp only; omega)
  · rw [if_pos (by simpa using h)]
    rfl
theorem first_ok {p s : Int} (h : ((i_OrderOfSpread p s).2 == 0) = true) : ok_i_SpreadPolynomial p (wI ((i_PeriodOfSpread p s).1 + 1)) s = true ∧ (i_SpreadsOfOrder p (i_OrderOfSpread p s).1).2 = 0 ∧ (i_SpreadPolynomial p (wI ((i_PeriodOfSpread p s).1 + 1)) s).2 = 0 ∧ decide ((i_OrderOfSpread p s).1 < 1) = false ∧ (!((i_OrderOfSpread p s).1 == 0)) = true ∧ ((i_PeriodOfSpread p s).1).tmod (i_OrderOfSpread p s).1 = 0 ∧ l_hasInt (i_SpreadsOfOrder p (i_OrderOfSpread p s).1).1.1 (i_SpreadsOfOrder p (i_OrderOfSpread p s).1).1.2 s = true ∧ (i_SpreadPolynomial p (wI ((i_PeriodOfSpread p s).1 + 1)) s).1 = s := by
  rw [iord_is] at h
  obtain ⟨hf, hs, e⟩ := ord_of (by simpa using h)
  have h31 := (prB_nat (Pr_prB (i_IsField_ok hf))).1
  obtain ⟨o1, o2, o3, o4, o5⟩ := ord_ok hf hs
  rw [iord_is, iper_is, e]
  dsimp only
  have ew : wI ((ordN p s : Int) + 1) = ((ordN p s + 1 : Nat) : Int) := wrap_add1 (n := ordN p s + 1) (by omega) (by omega)
  have hn : 0 ≤ ((ordN p s + 1 : Nat) : Int) ∧ ((ordN p s + 1 : Nat) : Int) ≤ 1000 := by omega
  rw [ew, poly_is hf hs hn, code_so hf (by omega), Int.toNat_natCast]
  refine ⟨ok_i_SpreadPolynomial_of (poly_eq hf hs hn), rfl, rfl, by simp; omega, by simp; omega, Int.tmod_self, ?_, o5⟩
  unfold l_hasInt
  rw [List.any_eq_true]
  exact ⟨s, List.mem_filter.2 ⟨nums_mem.2 hs, by simp⟩, by simp⟩
theorem OL_len {p : Int} (hf : i_IsField p = true) : (OL p).length ≤ 32 := by
  have h31 := (prB_nat (Pr_prB (i_IsField_ok hf))).1
  unfold OL
  have := List.length_filter_le (pos p) (List.range' 1 (p.toNat + 1))
  rw [List.length_range'] at this
  omega
theorem round_is (p n s : Int) : ok_i_WalkRound p n s = true ∧ ok_s_WalkRound p n s = true ∧ i_WalkRound p n s = s_WalkRound p n s := by
  obtain ⟨r, h1, h2, _⟩ := round_both p n s
  exact ⟨ok_i_WalkRound_of h1, ok_s_WalkRound_of h2, (i_WalkRound_of h1).trans (s_WalkRound_of h2).symm⟩
theorem walkR_len (p n s k : Int) : lenB (walkR p n s k).1.1 1 (walkR p n s k).1.2 = true := by
  unfold walkR
  by_cases h : wcode p n s k = 0
  · obtain ⟨_, _, _, hk⟩ := wcode_zero h
    rw [if_pos h]
    exact lenB_of (by rw [xl_len, Nat.one_mul]) (by dsimp only; omega)
  · rw [if_neg h]
    rfl
theorem third_ok {p n s : Int} (h : ((i_WalkRound p n s).2.2 == 0) = true) : (i_WalkOf p n s (wI ((i_WalkRound p n s).1 + (i_WalkRound p n s).2.1))).2 = 0 ∧ decide ((i_WalkRound p n s).2.1 < 1) = false ∧ (((i_WalkOf p n s (wI ((i_WalkRound p n s).1 + (i_WalkRound p n s).2.1))).1.1 : Nat) : Int) = wI ((wI ((i_WalkRound p n s).1 + (i_WalkRound p n s).2.1)) + 1) ∧
    (decide (0 ≤ (i_WalkRound p n s).1) && decide ((i_WalkRound p n s).1 < (((i_WalkOf p n s (wI ((i_WalkRound p n s).1 + (i_WalkRound p n s).2.1))).1.1 : Nat) : Int))) = true ∧
    Nat.ble (((i_WalkRound p n s).1.toNat) * 1 + 1) (i_WalkOf p n s (wI ((i_WalkRound p n s).1 + (i_WalkRound p n s).2.1))).1.2.length = true ∧
    (decide (0 ≤ wI ((i_WalkRound p n s).1 + (i_WalkRound p n s).2.1)) && decide (wI ((i_WalkRound p n s).1 + (i_WalkRound p n s).2.1) < (((i_WalkOf p n s (wI ((i_WalkRound p n s).1 + (i_WalkRound p n s).2.1))).1.1 : Nat) : Int))) = true ∧
    Nat.ble (((wI ((i_WalkRound p n s).1 + (i_WalkRound p n s).2.1)).toNat) * 1 + 1) (i_WalkOf p n s (wI ((i_WalkRound p n s).1 + (i_WalkRound p n s).2.1))).1.2.length = true ∧
    (i_WalkOf p n s (wI ((i_WalkRound p n s).1 + (i_WalkRound p n s).2.1))).1.2.getD (((i_WalkRound p n s).1.toNat) * 1) 0 = (i_WalkOf p n s (wI ((i_WalkRound p n s).1 + (i_WalkRound p n s).2.1))).1.2.getD (((wI ((i_WalkRound p n s).1 + (i_WalkRound p n s).2.1)).toNat) * 1) 0 := by
  obtain ⟨r, h1, _, h3⟩ := round_both p n s
  have e : i_WalkRound p n s = r := i_WalkRound_of h1
  rw [e] at h ⊢
  obtain ⟨j, t, hf, hs, hn, hjt, ht, he, rfl⟩ := h3 (by simpa using h)
  have ew : wI ((j : Int) + ((t : Int) - (j : Int))) = (t : Int) := by rw [wI_eq, w64 (by omega)]; omega
  have hk : 0 ≤ (t : Int) ∧ (t : Int) ≤ 100 := by omega
  dsimp only
  rw [ew, iwalkOf_is]
  unfold walkR
  rw [if_pos (wcode_of hf hs hn hk), wrap_add1 (n := t + 1) (by omega) (by omega)]
  dsimp only
  simp only [Int.toNat_natCast, xl_len]
  refine ⟨trivial, by simp; omega, trivial, cnd2 (by omega), ble_ok (by omega), cnd2 (by omega), ble_ok (by omega), ?_⟩
  rw [xl_at' (by omega), xl_at' (by omega), he]

end Go.Proofs.Ytjdpbaefonekmaa
