import Derived.Test.YtjdpbaefonekmaaQs
set_option linter.unusedSimpArgs false
set_option linter.unusedVariables false
namespace Go.Proofs.Ytjdpbaefonekmaa
open Go.RowKit
/-! Numbers by their orders. -/
def nums (p : Int) : List Int := (List.range p.toNat).map fun k : Nat => (k : Int)
theorem nums_mem {p x : Int} : x ∈ nums p ↔ 0 ≤ x ∧ x < p := by
  unfold nums
  rw [List.mem_map]
  constructor
  · rintro ⟨k, h, rfl⟩
    have := List.mem_range.1 h
    omega
  · intro h
    exact ⟨x.toNat, List.mem_range.2 (by omega), by omega⟩
theorem nums_len (p : Int) : (nums p).length = p.toNat := by simp [nums]
theorem with_eq {p : Int} (hp : prB p = true) {hk hh : Int → Bool} (h : ∀ x, 0 ≤ x ∧ x < p → hk x = true) : Fo_i_numbersWith 1000000 p hk hh = some (((nums p).filter hh).length, (nums p).filter hh) := by
  obtain ⟨h31, h0, hpn⟩ := prB_nat hp
  have hf : ((List.range p.toNat).flatMap fun k : Nat => if hh (k : Int) = true then [(k : Int)] else []) = (nums p).filter hh := by
    rw [← filter_flat, nums, List.flatMap_map]
  unfold Fo_i_numbersWith G_i_numbersWith
  refine gather (flat := id) flat1_app rfl (L := fun f l m i => L_i_numbersWith_0 1000000 p hk hh f l m i) (n := p.toNat) (b := 1) (M := 0) (fun k : Nat => if hh (k : Int) = true then [(k : Int)] else []) (fun k _ => by split <;> simp)
    (fun f k l m hk' hm => ?_) (fun f _ => ?_) (by omega) (Nat.le_refl 0)
  · show B_i_numbersWith_0 p hk hh (L_i_numbersWith_0 1000000 p hk hh f) l m (k : Int) = _
    unfold B_i_numbersWith_0
    rw [if_pos (cndp hk'), if_pos (h _ (by omega)), if_pos (ap_ok (by omega)), wrap_add1 hk' (by omega)]
    cases hh (k : Int)
    · simp only [Bool.false_eq_true, if_false]
      show _ = L_i_numbersWith_0 1000000 p hk hh f (l ++ []) (m + 0) _
      rw [List.append_nil]
      rfl
    · rfl
  · show B_i_numbersWith_0 p hk hh (L_i_numbersWith_0 1000000 p hk hh f) _ _ ((p.toNat : Nat) : Int) = _
    unfold B_i_numbersWith_0
    rw [if_neg (by simp; omega), hf, Nat.zero_add]
    rfl
theorem with_is {p : Int} (hp : prB p = true) {hk hh : Int → Bool} (h : ∀ x, 0 ≤ x ∧ x < p → hk x = true) : i_numbersWith p hk hh = (((nums p).filter hh).length, (nums p).filter hh) := by
  unfold i_numbersWith
  rw [with_eq hp h]
  rfl
def ofOrd (p n : Int) : List Int := (nums p).filter fun s => (ordN p s : Int) == n
theorem isoo (p n : Int) : Fo_i_SpreadsOfOrder p n = some (if (i_asked p true (i_SpreadsOfOrder_c1 n) != 0) = true then ((0, []), i_asked p true (i_SpreadsOfOrder_c1 n)) else (((ofOrd p n).length, ofOrd p n), 0)) := by
  unfold Fo_i_SpreadsOfOrder
  rw [if_pos (Bool.true_or _)]
  by_cases h : i_asked p true (i_SpreadsOfOrder_c1 n) = 0
  · have hf := (asked_zero h).1
    have hp := Pr_prB (i_IsField_ok hf)
    have hn : ¬ (i_asked p true (i_SpreadsOfOrder_c1 n) != 0) = true := by simp [h]
    have hk : ∀ x, 0 ≤ x ∧ x < p → (Fo_i_SpreadsOfOrder_c2 x p n).isSome = true := fun x hx => by
      unfold Fo_i_SpreadsOfOrder_c2
      rw [if_pos (some_of (orderOf_eq hf hx))]
      rfl
    have hc : (nums p).filter (fun a0 => i_SpreadsOfOrder_c2 a0 p n) = ofOrd p n := filter_same fun x hx => by
      have hx' := nums_mem.1 hx
      unfold i_SpreadsOfOrder_c2 Fo_i_SpreadsOfOrder_c2
      rw [if_pos (some_of (orderOf_eq hf hx')), orderOf_is hf hx']
      rfl
    rw [if_neg hn, if_neg hn, if_pos (some_of (with_eq hp hk)), with_is hp hk, hc]
  · have hn : (i_asked p true (i_SpreadsOfOrder_c1 n) != 0) = true := by simpa using h
    rw [if_pos hn, if_pos hn]
theorem isoo_is (p n : Int) : i_SpreadsOfOrder p n = (if (i_asked p true (i_SpreadsOfOrder_c1 n) != 0) = true then ((0, []), i_asked p true (i_SpreadsOfOrder_c1 n)) else (((ofOrd p n).length, ofOrd p n), 0)) := i_SpreadsOfOrder_of (isoo p n)
theorem num0 (p : Int) : s_l01Numbers p [] = if i_IsField p = true then 0 else 1 := rfl
theorem code5 (p n : Int) : s_l05Code p n 0 [] = (if i_IsField p = true then (if (decide (0 ≤ n) && decide (n ≤ 1000)) = true then 0 else 2) else 1) := by
  unfold s_l05Code
  rw [num0]
  unfold s_l01In
  cases i_IsField p
  · rfl
  · by_cases h1 : 0 ≤ n <;> by_cases h2 : n ≤ 1000 <;> simp [h1, h2]
theorem soo_lo {p : Int} (n : Int) (hf : i_IsField p = true) : L_s_SpreadsOfOrder_0 1000000 p n (1000000 + 100) [] 0 0 = some (((ofOrd p n).length, ofOrd p n), 0) := by
  have hp := Pr_prB (i_IsField_ok hf)
  obtain ⟨h31, h0, hpn⟩ := prB_nat hp
  have hfl : ((List.range p.toNat).flatMap fun k : Nat => if ((ordN p (k : Int) : Int) == n) = true then [(k : Int)] else []) = ofOrd p n := by
    rw [ofOrd, ← filter_flat, nums, List.flatMap_map]
  refine gather (flat := id) flat1_app rfl (L := fun f l m i => L_s_SpreadsOfOrder_0 1000000 p n f l m i) (n := p.toNat) (b := 1) (M := 0) (fun k : Nat => if ((ordN p (k : Int) : Int) == n) = true then [(k : Int)] else []) (fun k _ => by split <;> simp)
    (fun f k l m hk' hm => ?_) (fun f _ => ?_) (by omega) (Nat.le_refl 0)
  · show B_s_SpreadsOfOrder_0 p n (L_s_SpreadsOfOrder_0 1000000 p n f) l m (k : Int) = _
    unfold B_s_SpreadsOfOrder_0
    have hs : 0 ≤ (k : Int) ∧ (k : Int) < p := by omega
    rw [if_pos (cndp hk'), if_pos (some_of (sorder_eq hf hs)), sorder_is hf hs, if_pos (ap_ok (by omega)), wrap_add1 hk' (by omega)]
    cases ((ordN p (k : Int) : Int) == n)
    · simp only [Bool.false_eq_true, if_false]
      show _ = L_s_SpreadsOfOrder_0 1000000 p n f (l ++ []) (m + 0) _
      rw [List.append_nil]
      rfl
    · rfl
  · show B_s_SpreadsOfOrder_0 p n (L_s_SpreadsOfOrder_0 1000000 p n f) _ _ ((p.toNat : Nat) : Int) = _
    unfold B_s_SpreadsOfOrder_0
    rw [if_neg (by simp; omega), hfl, Nat.zero_add]
    rfl
theorem soo_eq (p n : Int) : Fo_s_SpreadsOfOrder 1000000 p n = some (i_SpreadsOfOrder p n) := by
  rw [isoo_is]
  unfold Fo_s_SpreadsOfOrder G_s_SpreadsOfOrder
  have hlo := soo_lo (p := p) n
  generalize L_s_SpreadsOfOrder_0 1000000 p n (1000000 + 100) = Z0 at *
  generalize L_s_SpreadsOfOrder_1 1000000 p n (1000000 + 100) = Z1
  rw [code5]
  have ec : i_SpreadsOfOrder_c1 n = (decide (1 ≤ n) && decide (n ≤ 1000)) := by
    unfold i_SpreadsOfOrder_c1
    by_cases h : 1 ≤ n <;> simp [h]
  unfold i_asked
  cases hf : i_IsField p
  · rfl
  · rw [hlo hf, ec]
    by_cases h1 : 0 ≤ n ∧ n ≤ 1000
    · have e5 : (decide (0 ≤ n) && decide (n ≤ 1000)) = true := by simp [h1]
      by_cases h2 : n < 1
      · have e7 : (decide (1 ≤ n) && decide (n ≤ 1000)) = false := by
          have : ¬ 1 ≤ n := by omega
          simp [this]
        rw [e5, e7]
        show (if decide (n < 1) = true then some ((0, []), 2) else _) = some ((0, []), 2)
        rw [if_pos (by simpa using h2)]
      · have h3 : 1 ≤ n := by omega
        have e6 : (decide (1 ≤ n) && decide (n ≤ 1000)) = true := by simp [h3, h1.2]
        rw [e5, e6]
        show (if decide (n < 1) = true then some ((0, []), 2) else some (((ofOrd p n).length, ofOrd p n), 0)) = some (((ofOrd p n).length, ofOrd p n), 0)
        rw [if_neg (by simpa using h2)]
    · have h3 : (decide (0 ≤ n) && decide (n ≤ 1000)) = false := by
        by_cases a : 0 ≤ n
        · have : ¬ n ≤ 1000 := fun b => h1 ⟨a, b⟩
          simp [this]
        · simp [a]
      have h4 : (decide (1 ≤ n) && decide (n ≤ 1000)) = false := by
        by_cases a : 1 ≤ n
        · have : ¬ n ≤ 1000 := fun b => h1 ⟨by omega, b⟩
          simp [this]
        · simp [a]
      rw [h3, h4]
      rfl
theorem soo_is (p n : Int) : s_SpreadsOfOrder p n = i_SpreadsOfOrder p n := s_SpreadsOfOrder_of (soo_eq p n)
/-! Orders and periods. -/
theorem num1 (p s : Int) : s_l01Numbers p [s] = i_asked p true (i_isNumber p s) := by
  show (if i_IsField p = true then (if ([s].all fun x => s_l01In x 0 (wrap64 (p - 1))) = true then 0 else 2) else 1) = (if i_IsField p = true then (if i_isNumber p s = true then (0 : Int) else 2) else 1)
  cases h : i_IsField p
  · rfl
  · have hp := i_IsField_ok h
    unfold Pr at hp
    have e : ([s].all fun x => s_l01In x 0 (wrap64 (p - 1))) = i_isNumber p s := by
      rw [w64 (by omega)]
      unfold s_l01In i_isNumber
      have e2 : decide (s ≤ p - 1) = decide (s < p) := decide_eq_decide.2 (by omega)
      by_cases h1 : 0 ≤ s <;> simp [h1, e2]
    rw [e]
theorem asked_num {p s : Int} {k : Bool} (h : i_asked p k (i_isNumber p s) = 0) : i_IsField p = true ∧ 0 ≤ s ∧ s < p := by
  obtain ⟨hf, h2⟩ := asked_zero h
  unfold i_isNumber at h2
  refine ⟨hf, ?_⟩
  by_cases h3 : 0 ≤ s <;> simp [h3] at h2 ⊢
  exact h2
theorem c1_ord (p s : Int) : i_OrderOfSpread_c1 p s = i_isNumber p s := rfl
theorem c1_per (p s : Int) : i_PeriodOfSpread_c1 p s = i_isNumber p s := rfl
def ordR (p s : Int) : Int × Int := if (i_asked p true (i_isNumber p s) != 0) = true then (0, i_asked p true (i_isNumber p s)) else ((ordN p s : Int), 0)
theorem iord_eq (p s : Int) : Fo_i_OrderOfSpread p s = some (ordR p s) := by
  unfold Fo_i_OrderOfSpread ordR
  rw [if_pos (Bool.true_or _), c1_ord]
  by_cases h : i_asked p true (i_isNumber p s) = 0
  · obtain ⟨hf, hs⟩ := asked_num h
    have hn : ¬ (i_asked p true (i_isNumber p s) != 0) = true := by simp [h]
    rw [if_neg hn, if_neg hn, if_pos (some_of (orderOf_eq hf hs)), orderOf_is hf hs]
  · have hn : (i_asked p true (i_isNumber p s) != 0) = true := by simpa using h
    rw [if_pos hn, if_pos hn]
theorem iper_eq (p s : Int) : Fo_i_PeriodOfSpread p s = some (ordR p s) := by
  unfold Fo_i_PeriodOfSpread ordR
  rw [if_pos (Bool.true_or _), c1_per]
  by_cases h : i_asked p true (i_isNumber p s) = 0
  · obtain ⟨hf, hs⟩ := asked_num h
    have hn : ¬ (i_asked p true (i_isNumber p s) != 0) = true := by simp [h]
    rw [if_neg hn, if_neg hn, if_pos (some_of (orderOf_eq hf hs)), orderOf_is hf hs]
  · have hn : (i_asked p true (i_isNumber p s) != 0) = true := by simpa using h
    rw [if_pos hn, if_pos hn]
theorem sord_eq (p s : Int) : Fo_s_OrderOfSpread p s = some (ordR p s) := by
  unfold Fo_s_OrderOfSpread ordR
  rw [num1]
  by_cases h : i_asked p true (i_isNumber p s) = 0
  · obtain ⟨hf, hs⟩ := asked_num h
    have hn : ¬ (i_asked p true (i_isNumber p s) != 0) = true := by simp [h]
    rw [if_neg hn, if_neg hn, if_pos (some_of (sorder_eq hf hs)), sorder_is hf hs]
  · have hn : (i_asked p true (i_isNumber p s) != 0) = true := by simpa using h
    rw [if_pos hn, if_pos hn]
theorem sper_eq (p s : Int) : Fo_s_PeriodOfSpread 1000000 p s = some (ordR p s) := by
  unfold Fo_s_PeriodOfSpread G_s_PeriodOfSpread ordR
  rw [num1]
  by_cases h : i_asked p true (i_isNumber p s) = 0
  · obtain ⟨hf, hs⟩ := asked_num h
    have hn : ¬ (i_asked p true (i_isNumber p s) != 0) = true := by simp [h]
    have h31 := (prB_nat (Pr_prB (i_IsField_ok hf))).1
    obtain ⟨a, b, _⟩ := ord_ok hf hs
    rw [if_neg hn, if_neg hn]
    exact sper_go hf hs (ordN p s - 1) 1 (1000000 + 100) (by omega) (by omega) (by omega)
  · have hn : (i_asked p true (i_isNumber p s) != 0) = true := by simpa using h
    rw [if_pos hn, if_pos hn]
theorem iord_is (p s : Int) : i_OrderOfSpread p s = ordR p s := i_OrderOfSpread_of (iord_eq p s)
theorem iper_is (p s : Int) : i_PeriodOfSpread p s = ordR p s := i_PeriodOfSpread_of (iper_eq p s)
theorem sord_is (p s : Int) : s_OrderOfSpread p s = ordR p s := s_OrderOfSpread_of (sord_eq p s)
theorem sper_is (p s : Int) : s_PeriodOfSpread p s = ordR p s := s_PeriodOfSpread_of (sper_eq p s)
theorem ord_of {p s : Int} (h : (ordR p s).2 = 0) : i_IsField p = true ∧ (0 ≤ s ∧ s < p) ∧ ordR p s = ((ordN p s : Int), 0) := by
  unfold ordR at h ⊢
  by_cases h0 : i_asked p true (i_isNumber p s) = 0
  · obtain ⟨hf, hs⟩ := asked_num h0
    exact ⟨hf, hs, by rw [if_neg (by simp [h0])]⟩
  · rw [if_pos (by simpa using h0)] at h
    exact absurd h h0
theorem poly_eq {p s n : Int} (hf : i_IsField p = true) (hs : 0 ≤ s ∧ s < p) (hn : 0 ≤ n ∧ n ≤ 1000) : Fo_i_SpreadPolynomial p n s = some (vv p s n.toNat, 0) := by
  have hp := Pr_prB (i_IsField_ok hf)
  have e : i_asked p true (i_SpreadPolynomial_c1 p s n) = 0 := by
    unfold i_asked i_SpreadPolynomial_c1 i_isNumber i_isIndex
    simp [hf, hs.1, hs.2, hn.1, hn.2]
  have hn2 : 0 ≤ n ∧ n ≤ 100000 := by omega
  unfold Fo_i_SpreadPolynomial
  rw [if_pos (Bool.true_or _), e, if_neg (by decide), if_pos (some_of (spreadOf_eq hp hs hn2)), spreadOf_is hp hs hn2]
theorem poly_is {p s n : Int} (hf : i_IsField p = true) (hs : 0 ≤ s ∧ s < p) (hn : 0 ≤ n ∧ n ≤ 1000) : i_SpreadPolynomial p n s = (vv p s n.toNat, 0) := i_SpreadPolynomial_of (poly_eq hf hs hn)

end Go.Proofs.Ytjdpbaefonekmaa
