import Derived.Test.YtfclaacaphpoaaaQv
set_option linter.unusedSimpArgs false
set_option linter.unusedVariables false
namespace Go.Proofs.Ytfclaacaphpoaaa
open Go.RowKit
/-! Loops of laws; counts. -/
theorem walk_go {L : Nat → Int → Option Bool} {n : Nat} (hL : ∀ f k : Nat, k < n → L f ((k + 1 : Nat) : Int) = some true → L (f + 1) (k : Int) = some true) (hE : ∀ f : Nat, L (f + 1) (n : Int) = some true) : ∀ (m k F : Nat), k + m = n → m < F → L F (k : Int) = some true
  | m, k, 0, _, h => absurd h (Nat.not_lt_zero m)
  | 0, k, F + 1, h, _ => by
    obtain rfl : k = n := by omega
    exact hE F
  | m + 1, k, F + 1, h, hF => hL F k (by omega) (walk_go hL hE m (k + 1) F (by omega) (by omega))
theorem walk_loop {L : Nat → Int → Option Bool} {n F : Nat} (hF : n < F) (hL : ∀ f k : Nat, k < n → L f ((k + 1 : Nat) : Int) = some true → L (f + 1) (k : Int) = some true) (hE : ∀ f : Nat, L (f + 1) (n : Int) = some true) : L F 0 = some true := walk_go hL hE n 0 F (by omega) hF
def sumZ (l : List Int) : Int := l.foldr (fun x s => x + s) 0
theorem sumZ_set : ∀ (l : List Int) (i : Nat) (v : Int), i < l.length → sumZ (l.set i v) = sumZ l - l.getD i 0 + v
  | [], i, v, h => by simp at h
  | x :: l, 0, v, h => by simp [sumZ]; omega
  | x :: l, i + 1, v, h => by
    have := sumZ_set l i v (by simpa using h)
    simp only [List.set_cons_succ, List.getD_cons_succ]
    unfold sumZ at this ⊢
    simp only [List.foldr_cons]
    omega
theorem sumZ_nn : ∀ (l : List Int), (∀ x ∈ l, 0 ≤ x) → 0 ≤ sumZ l
  | [], _ => Int.le_refl 0
  | x :: l, h => by
    have h1 := sumZ_nn l fun y hy => h y (by simp [hy])
    have h2 := h x (by simp)
    unfold sumZ at h1 ⊢
    simp only [List.foldr_cons]
    omega
theorem fold_sum : ∀ (l : List Int) (s : Int), (∀ x ∈ l, 0 ≤ x) → 0 ≤ s → s + sumZ l ≤ 1000000000 → l.foldl (fun s x => wI (s + x)) s = s + sumZ l
  | [], s, _, _, _ => by simp [sumZ]
  | x :: l, s, h, h0, h1 => by
    have h2 := h x (by simp)
    have h3 := sumZ_nn l fun y hy => h y (by simp [hy])
    have e : sumZ (x :: l) = x + sumZ l := rfl
    rw [List.foldl_cons, wI_eq, w64 (by omega), fold_sum l (s + x) (fun y hy => h y (by simp [hy])) (by omega) (by omega), e]
    omega
theorem mem_set {l : List Int} {i : Nat} {v x : Int} (h : x ∈ l.set i v) : x ∈ l ∨ x = v := by
  rcases List.mem_or_eq_of_mem_set h with h | h
  · exact .inl h
  · exact .inr h
theorem fold_bump {T : Type} (f : T → Nat) {N : Nat} : ∀ (r : List T) (l : List Int) (M : Int), l.length = N → (∀ a ∈ r, f a < N) → (∀ x ∈ l, 0 ≤ x ∧ x ≤ M) → M + r.length ≤ 1000000000 →
    sumZ (r.foldl (fun s a => bump s (f a)) l) = sumZ l + r.length ∧ (∀ x ∈ r.foldl (fun s a => bump s (f a)) l, 0 ≤ x ∧ x ≤ 1000000000) ∧ ∀ j, (r.foldl (fun s a => bump s (f a)) l).getD j 0 = l.getD j 0 + ((r.filter fun a => Nat.beq (f a) j).length : Nat)
  | [], l, M, hl, _, hx, hM => ⟨by simp, fun x h => by have := hx x h; simp at hM; omega, fun j => by simp⟩
  | a :: r, l, M, hl, hf, hx, hM => by
    have ha : f a < l.length := by rw [hl]; exact hf a (by simp)
    have hv := hx _ (getD_mem ha)
    rw [List.length_cons] at hM
    have e : bump l (f a) = l.set (f a) (l.getD (f a) 0 + 1) := by unfold bump; rw [wI_eq, w64 (by omega)]
    obtain ⟨h1, h2, h3⟩ := fold_bump f r (bump l (f a)) (M + 1) (by rw [bump_len, hl]) (fun b hb => hf b (by simp [hb])) (fun x hxx => by
      rw [e] at hxx
      rcases mem_set hxx with h | rfl
      · have := hx x h; omega
      · omega) (by omega)
    refine ⟨?_, h2, fun j => ?_⟩
    · rw [List.foldl_cons, h1, e, sumZ_set _ _ _ ha, List.length_cons]
      omega
    · rw [List.foldl_cons, h3, e, getD_set ha, List.filter_cons]
      by_cases hj : f a = j
      · subst hj
        simp
        omega
      · have : Nat.beq (f a) j = false := by
          cases hb : Nat.beq (f a) j
          · rfl
          · exact absurd (Nat.eq_of_beq_eq_true hb) hj
        simp [hj, this]
theorem rep_mem {N : Nat} {x : Int} (h : x ∈ List.replicate N (0 : Int)) : 0 ≤ x ∧ x ≤ 0 := by
  rw [List.eq_of_mem_replicate h]
  decide
theorem rep_sum : ∀ N : Nat, sumZ (List.replicate N 0) = 0
  | 0 => rfl
  | N + 1 => by
    have := rep_sum N
    unfold sumZ at this ⊢
    rw [List.replicate_succ, List.foldr_cons, this]
    rfl
theorem rep_getD (N j : Nat) : (List.replicate N (0 : Int)).getD j 0 = 0 := by
  rw [List.getD_eq_getElem?_getD, List.getElem?_replicate]
  split <;> rfl
theorem getD_ge {l : List Int} {i : Nat} (h : l.length ≤ i) : l.getD i 0 = 0 := by
  rw [List.getD_eq_getElem?_getD, List.getElem?_eq_none h]
  rfl

end Go.Proofs.Ytfclaacaphpoaaa
