import Derived.Test.YtjdpbaefonekmaaQt
set_option linter.unusedSimpArgs false
set_option linter.unusedVariables false
namespace Go.Proofs.Ytjdpbaefonekmaa
open Go.RowKit
/-! Walks. -/
def xx (p : Int) (n : Nat) (s : Int) : Nat → Int
  | 0 => s
  | k + 1 => vv p (xx p n s k) n
theorem xx_b {p s : Int} {n : Nat} (hs : 0 ≤ s ∧ s < p) : ∀ k, 0 ≤ xx p n s k ∧ xx p n s k < p
  | 0 => hs
  | k + 1 => (vv_b (xx_b hs k) n).1
def xl (p : Int) (n : Nat) (s : Int) (m : Nat) : List Int := (List.range m).map (xx p n s)
theorem xl_len (p : Int) (n : Nat) (s : Int) (m : Nat) : (xl p n s m).length = m := by simp [xl]
theorem xl_at {p s : Int} {n m k : Nat} (h : k < m) : (xl p n s m).getD k 0 = xx p n s k := by
  unfold xl
  rw [List.getD_eq_getElem?_getD, List.getElem?_map, List.getElem?_range h]
  rfl
theorem xl_add (p : Int) (n : Nat) (s : Int) (m : Nat) : xl p n s m ++ [xx p n s m] = xl p n s (m + 1) := by
  unfold xl
  rw [List.range_succ, List.map_append]
  rfl
theorem iwalk_go {p s n : Int} (hp : prB p = true) (hs : 0 ≤ s ∧ s < p) (hn : 0 ≤ n ∧ n ≤ 100000) (K : Int) : ∀ (j k f : Nat), j < f → k + j ≤ 1000 → L_i_walk_0 1000000 p n s K f (xl p n.toNat s (k + 1)) (k + 1) (xx p n.toNat s k) (j : Int) = some (k + j + 1, xl p n.toNat s (k + j + 1))
  | j, k, 0, h, _ => absurd h (Nat.not_lt_zero j)
  | 0, k, f + 1, _, _ => by
    show B_i_walk_0 p n s K (L_i_walk_0 1000000 p n s K f) (xl p n.toNat s (k + 1)) (k + 1) (xx p n.toNat s k) ((0 : Nat) : Int) = _
    unfold B_i_walk_0
    rw [if_neg (by decide)]
  | j + 1, k, f + 1, hj, hk => by
    obtain ⟨h31, h0, hpn⟩ := prB_nat hp
    have hx := xx_b (n := n.toNat) hs k
    have e : wI (((j + 1 : Nat) : Int) - 1) = (j : Int) := by rw [wI_eq, w64 (by omega)]; omega
    have ev : (vtab p n.toNat).getD (xx p n.toNat s k).toNat 0 = xx p n.toNat s (k + 1) := by
      rw [vtab_at (by omega), Int.toNat_of_nonneg hx.1]
      rfl
    show B_i_walk_0 p n s K (L_i_walk_0 1000000 p n s K f) (xl p n.toNat s (k + 1)) (k + 1) (xx p n.toNat s k) ((j + 1 : Nat) : Int) = _
    unfold B_i_walk_0
    rw [valuesOf_is hp hn, if_pos (by rw [decide_eq_true_eq]; omega), if_pos (idxN (a := (xx p n.toNat s k).toNat) (by omega) (by omega)), if_pos (ble_ok (by rw [vtab_len]; omega)), if_pos (ap_ok (by omega)), Nat.mul_one, ev, xl_add, e, show k + (j + 1) + 1 = k + 1 + j + 1 by omega]
    exact iwalk_go hp hs hn K j (k + 1) f (by omega) (by omega)
theorem walk_eq {p s n k : Int} (hp : prB p = true) (hs : 0 ≤ s ∧ s < p) (hn : 0 ≤ n ∧ n ≤ 100000) (hk : 0 ≤ k ∧ k ≤ 1000) : Fo_i_walk 1000000 p n s k = some (k.toNat + 1, xl p n.toNat s (k.toNat + 1)) := by
  unfold Fo_i_walk G_i_walk
  have h := iwalk_go hp hs hn k k.toNat 0 (1000000 + 100) (by omega) (by omega)
  rw [Int.toNat_of_nonneg hk.1, Nat.zero_add k.toNat] at h
  rw [if_pos (some_of (valuesOf_eq hp hn))]
  exact h
theorem walk_is {p s n k : Int} (hp : prB p = true) (hs : 0 ≤ s ∧ s < p) (hn : 0 ≤ n ∧ n ≤ 100000) (hk : 0 ≤ k ∧ k ≤ 1000) : i_walk p n s k = (k.toNat + 1, xl p n.toNat s (k.toNat + 1)) := by
  unfold i_walk
  rw [walk_eq hp hs hn hk]
  rfl
def wcode (p n s k : Int) : Int := if i_IsField p = true then (if (decide (0 ≤ s) && decide (s < p) && decide (0 ≤ n) && decide (n ≤ 1000) && decide (0 ≤ k) && decide (k ≤ 100)) = true then 0 else 2) else 1
def walkR (p n s k : Int) : (Nat × List Int) × Int := if wcode p n s k = 0 then ((k.toNat + 1, xl p n.toNat s (k.toNat + 1)), 0) else ((0, []), wcode p n s k)
theorem wcode_zero {p n s k : Int} (h : wcode p n s k = 0) : i_IsField p = true ∧ (0 ≤ s ∧ s < p) ∧ (0 ≤ n ∧ n ≤ 1000) ∧ (0 ≤ k ∧ k ≤ 100) := by
  unfold wcode at h
  by_cases hf : i_IsField p = true
  · rw [if_pos hf] at h
    by_cases hb : (decide (0 ≤ s) && decide (s < p) && decide (0 ≤ n) && decide (n ≤ 1000) && decide (0 ≤ k) && decide (k ≤ 100)) = true
    · simp at hb
      exact ⟨hf, by omega, by omega, by omega⟩
    · rw [if_neg hb] at h
      exact absurd h (by decide)
  · rw [if_neg hf] at h
    exact absurd h (by decide)
theorem wcode_of {p n s k : Int} (hf : i_IsField p = true) (hs : 0 ≤ s ∧ s < p) (hn : 0 ≤ n ∧ n ≤ 1000) (hk : 0 ≤ k ∧ k ≤ 100) : wcode p n s k = 0 := by
  unfold wcode
  rw [if_pos hf, if_pos (by simp [hs, hn, hk])]
theorem iw_code (p n s k : Int) : i_asked p true (i_WalkOf_c1 p s n k) = wcode p n s k := by
  have e : i_WalkOf_c1 p s n k = (decide (0 ≤ s) && decide (s < p) && decide (0 ≤ n) && decide (n ≤ 1000) && decide (0 ≤ k) && decide (k ≤ 100)) := by
    unfold i_WalkOf_c1 i_isNumber i_isIndex
    by_cases h1 : 0 ≤ s <;> by_cases h2 : s < p <;> by_cases h3 : 0 ≤ n <;> by_cases h4 : n ≤ 1000 <;> by_cases h5 : 0 ≤ k <;> simp [h1, h2, h3, h4, h5]
  unfold i_asked wcode
  rw [e]
theorem iwalkOf_eq (p n s k : Int) : Fo_i_WalkOf p n s k = some (walkR p n s k) := by
  unfold Fo_i_WalkOf walkR
  rw [if_pos (Bool.true_or _), iw_code]
  by_cases h : wcode p n s k = 0
  · obtain ⟨hf, hs, hn, hk⟩ := wcode_zero h
    have hp := Pr_prB (i_IsField_ok hf)
    have hn2 : 0 ≤ n ∧ n ≤ 100000 := by omega
    have hk2 : 0 ≤ k ∧ k ≤ 1000 := by omega
    rw [if_neg (by simp [h]), if_pos h, if_pos (some_of (walk_eq hp hs hn2 hk2)), walk_is hp hs hn2 hk2]
  · rw [if_pos (by simpa using h), if_neg h]
theorem iwalkOf_is (p n s k : Int) : i_WalkOf p n s k = walkR p n s k := i_WalkOf_of (iwalkOf_eq p n s k)
def ncode (p n s : Int) : Int := if i_IsField p = true then (if (decide (0 ≤ s) && decide (s < p) && decide (0 ≤ n) && decide (n ≤ 1000)) = true then 0 else 2) else 1
theorem ncode_zero {p n s : Int} (h : ncode p n s = 0) : i_IsField p = true ∧ (0 ≤ s ∧ s < p) ∧ (0 ≤ n ∧ n ≤ 1000) := by
  unfold ncode at h
  by_cases hf : i_IsField p = true
  · rw [if_pos hf] at h
    by_cases hb : (decide (0 ≤ s) && decide (s < p) && decide (0 ≤ n) && decide (n ≤ 1000)) = true
    · simp at hb
      exact ⟨hf, by omega, by omega⟩
    · rw [if_neg hb] at h
      exact absurd h (by decide)
  · rw [if_neg hf] at h
    exact absurd h (by decide)
theorem code51 (p n s : Int) : s_l05Code p n 1 [s] = ncode p n s := by
  unfold s_l05Code ncode
  rw [num1]
  unfold i_asked s_l01In
  have e : i_isNumber p s = (decide (0 ≤ s) && decide (s < p)) := by
    unfold i_isNumber
    by_cases h1 : 0 ≤ s <;> simp [h1]
  rw [e]
  cases i_IsField p
  · rfl
  · by_cases h1 : 0 ≤ s <;> by_cases h2 : s < p <;> by_cases h3 : 0 ≤ n <;> by_cases h4 : n ≤ 1000 <;> simp [h1, h2, h3, h4]
theorem swalk_go {p s n : Int} (hp : prB p = true) (hs : 0 ≤ s ∧ s < p) (hn : 0 ≤ n ∧ n ≤ 100000) (K : Int) : ∀ (j k f : Nat), j < f → k + j ≤ 1000 → L_s_WalkOf_0 1000000 p n s K f (xl p n.toNat s (k + 1)) (k + 1) (xx p n.toNat s k) (j : Int) = some ((k + j + 1, xl p n.toNat s (k + j + 1)), 0)
  | j, k, 0, h, _ => absurd h (Nat.not_lt_zero j)
  | 0, k, f + 1, _, _ => by
    show B_s_WalkOf_0 p n s K (L_s_WalkOf_0 1000000 p n s K f) (xl p n.toNat s (k + 1)) (k + 1) (xx p n.toNat s k) ((0 : Nat) : Int) = _
    unfold B_s_WalkOf_0
    rw [if_neg (by decide)]
  | j + 1, k, f + 1, hj, hk => by
    have hx := xx_b (n := n.toNat) hs k
    have e : wI (((j + 1 : Nat) : Int) - 1) = (j : Int) := by rw [wI_eq, w64 (by omega)]; omega
    have hn2 : 0 ≤ n ∧ n ≤ 1000000 := by omega
    have ev : vv p (xx p n.toNat s k) n.toNat = xx p n.toNat s (k + 1) := rfl
    show B_s_WalkOf_0 p n s K (L_s_WalkOf_0 1000000 p n s K f) (xl p n.toNat s (k + 1)) (k + 1) (xx p n.toNat s k) ((j + 1 : Nat) : Int) = _
    unfold B_s_WalkOf_0
    rw [if_pos (by rw [decide_eq_true_eq]; omega), if_pos (some_of (value_eq hp hx hn2)), value_is hp hx hn2, if_pos (ap_ok (by omega)), ev, xl_add, e, show k + (j + 1) + 1 = k + 1 + j + 1 by omega]
    exact swalk_go hp hs hn K j (k + 1) f (by omega) (by omega)
theorem swalkOf_eq (p n s k : Int) : Fo_s_WalkOf 1000000 p n s k = some (walkR p n s k) := by
  unfold Fo_s_WalkOf G_s_WalkOf walkR
  rw [code51]
  have hlo : ncode p n s = 0 → (0 ≤ k ∧ k ≤ 100) → L_s_WalkOf_0 1000000 p n s k (1000000 + 100) [s] 1 s k = some ((k.toNat + 1, xl p n.toNat s (k.toNat + 1)), 0) := fun h hk => by
    obtain ⟨hf, hs, hn⟩ := ncode_zero h
    have := swalk_go (Pr_prB (i_IsField_ok hf)) hs (show 0 ≤ n ∧ n ≤ 100000 by omega) k k.toNat 0 (1000000 + 100) (by omega) (by omega)
    rw [Int.toNat_of_nonneg hk.1, Nat.zero_add k.toNat] at this
    exact this
  generalize L_s_WalkOf_0 1000000 p n s k (1000000 + 100) [s] 1 s k = Z0 at *
  generalize L_s_WalkOf_1 1000000 p n s k (1000000 + 100) [s] 1 s k = Z1
  by_cases h : ncode p n s = 0
  · obtain ⟨hf, hs, hn⟩ := ncode_zero h
    rw [h, if_pos (show ((0 : Int) == 0) = true by decide)]
    by_cases hk : 0 ≤ k ∧ k ≤ 100
    · have e1 : s_l01In k 0 100 = true := by unfold s_l01In; simp [hk]
      rw [e1, if_neg (show ¬ (!true) = true by decide), if_neg (show ¬ ((0 : Int) != 0) = true by decide), if_pos (wcode_of hf hs hn hk)]
      exact hlo h hk
    · have e1 : s_l01In k 0 100 = false := by
        unfold s_l01In
        by_cases a : 0 ≤ k
        · have : ¬ k ≤ 100 := fun b => hk ⟨a, b⟩
          simp [this]
        · simp [a]
      have e2 : wcode p n s k = 2 := by
        unfold wcode
        rw [if_pos hf, if_neg (by simp; omega)]
      rw [e1, if_pos (show (!false) = true from rfl), e2]
      rfl
  · have e2 : wcode p n s k = ncode p n s := by
      unfold ncode at h ⊢
      unfold wcode
      cases hf : i_IsField p
      · rfl
      · rw [hf, if_pos rfl] at h
        rw [if_pos rfl, if_pos rfl]
        by_cases hb : (decide (0 ≤ s) && decide (s < p) && decide (0 ≤ n) && decide (n ≤ 1000)) = true
        · rw [if_pos hb] at h
          exact absurd rfl h
        · rw [if_neg hb, if_neg (by
            intro hc
            rw [Bool.and_eq_true, Bool.and_eq_true] at hc
            exact hb hc.1.1)]
    rw [if_neg (by simpa using h), if_pos (by simpa using h), e2, if_neg h]
theorem swalkOf_is (p n s k : Int) : s_WalkOf p n s k = walkR p n s k := s_WalkOf_of (swalkOf_eq p n s k)
/-! Rounds. -/
theorem pigeon : ∀ (p : Nat) (f : Nat → Nat), (∀ i, i ≤ p → f i < p) → ∃ i j, i < j ∧ j ≤ p ∧ f i = f j
  | 0, f, h => absurd (h 0 (Nat.le_refl 0)) (Nat.not_lt_zero _)
  | p + 1, f, h => by
    by_cases hx : ∃ i, i ≤ p ∧ f i = f (p + 1)
    · obtain ⟨i, h1, h2⟩ := hx
      exact ⟨i, p + 1, by omega, Nat.le_refl _, h2⟩
    · have hne : ∀ i, i ≤ p → f i ≠ f (p + 1) := fun i h1 h2 => hx ⟨i, h1, h2⟩
      obtain ⟨i, j, h1, h2, h3⟩ := pigeon p (fun i => if f (p + 1) < f i then f i - 1 else f i) (fun i hi => by
        have a := h i (by omega)
        have b := hne i hi
        have c := h (p + 1) (Nat.le_refl _)
        split <;> omega)
      refine ⟨i, j, h1, by omega, ?_⟩
      have a := hne i (by omega)
      have b := hne j h2
      split at h3 <;> split at h3 <;> omega
theorem least {P : Nat → Prop} : ∀ n, P n → ∃ m, m ≤ n ∧ P m ∧ ∀ k, k < m → ¬ P k := by
  intro n
  induction n using Nat.strongRecOn with
  | ind n ih =>
    intro h
    by_cases hx : ∃ k, k < n ∧ P k
    · obtain ⟨k, h1, h2⟩ := hx
      obtain ⟨m, h3, h4, h5⟩ := ih k h1 h2
      exact ⟨m, by omega, h4, h5⟩
    · exact ⟨n, Nat.le_refl n, h, fun k h1 h2 => hx ⟨k, h1, h2⟩⟩
theorem rho {p s : Int} {n : Nat} (hs : 0 ≤ s ∧ s < p) : ∃ j t, j < t ∧ t ≤ p.toNat ∧ xx p n s t = xx p n s j ∧ ∀ a b, a < b → b < t → xx p n s a ≠ xx p n s b := by
  obtain ⟨i, j, h1, h2, h3⟩ := pigeon p.toNat (fun i => (xx p n s i).toNat) (fun i _ => by
    have := xx_b (n := n) hs i
    omega)
  obtain ⟨t, h4, ⟨a, h5, h6⟩, h7⟩ := least (P := fun t => ∃ a, a < t ∧ xx p n s a = xx p n s t) j ⟨i, h1, by
    have := xx_b (n := n) hs i
    have := xx_b (n := n) hs j
    omega⟩
  exact ⟨a, t, h5, by omega, h6.symm, fun a b hab hb he => h7 b hb ⟨a, hab, he⟩⟩
theorem rho_far {p s : Int} {n j t : Nat} (hj : j < t) (he : xx p n s t = xx p n s j) : ∀ k, j ≤ k → ∃ i, j ≤ i ∧ i < t ∧ xx p n s k = xx p n s i := by
  intro k
  induction k using Nat.strongRecOn with
  | ind k ih =>
    intro hk
    by_cases h : k < t
    · exact ⟨k, hk, h, rfl⟩
    · by_cases h2 : k = t
      · exact ⟨j, Nat.le_refl j, hj, by rw [h2, he]⟩
      · obtain ⟨c, rfl⟩ : ∃ c, k = c + 1 := ⟨k - 1, by omega⟩
        obtain ⟨i, h3, h4, h5⟩ := ih c (by omega) (by omega)
        by_cases h6 : i + 1 < t
        · exact ⟨i + 1, by omega, h6, by show vv p (xx p n s c) n = vv p (xx p n s i) n; rw [h5]⟩
        · obtain rfl : i + 1 = t := by omega
          refine ⟨j, Nat.le_refl j, hj, ?_⟩
          rw [← he]
          show vv p (xx p n s c) n = vv p (xx p n s i) n
          rw [h5]
theorem rho_tail {p s : Int} {n j t a k : Nat} (hj : j < t) (he : xx p n s t = xx p n s j) (hd : ∀ a b, a < b → b < t → xx p n s a ≠ xx p n s b) (ha : a < j) (hk : a < k) : xx p n s k ≠ xx p n s a := by
  intro h
  by_cases h2 : k < t
  · exact hd a k hk h2 h.symm
  · obtain ⟨i, h3, h4, h5⟩ := rho_far hj he k (by omega)
    exact hd a i (by omega) h4 (by rw [← h5, h])

end Go.Proofs.Ytjdpbaefonekmaa
