import Derived.Test.YtnijajjdldijpaaQg
set_option linter.unusedSimpArgs false
set_option linter.unusedVariables false
namespace Go.Proofs.Ytnijajjdldijpaa
open Go.RowKit
/-! Lists of places: members, no place twice, and how many are on a line. -/
theorem isPlace_mk3 {p x y z : Int} (hp : Pr p) (h0 : 0 ≤ x ∧ x < p) (h1 : 0 ≤ y ∧ y < p) (h2 : 0 ≤ z ∧ z < p) (hf : PlForm (x, y, z)) : i_isPlace p (x, y, z) = true := isPlace_mk hp h0 h1 h2 hf
theorem mem_places {p : Int} (hf : i_IsField p = true) {a : P3} : a ∈ places p ↔ i_isPlace p a = true := by
  have hp := i_IsField_ok hf
  have h3 : 3 ≤ p := by have := field_mem hf; simp at this; omega
  have hq : ((p.toNat : Nat) : Int) = p := by unfold Pr at hp; omega
  obtain ⟨x, y, z⟩ := a
  unfold places
  simp only [List.mem_cons, List.mem_append, List.mem_map, List.mem_flatMap, List.mem_range, Prod.mk.injEq]
  constructor
  · rintro (⟨rfl, rfl, rfl⟩ | ⟨k, hk, rfl, rfl, rfl⟩ | ⟨j, hj, k, hk, rfl, rfl, rfl⟩)
    · exact isPlace_mk3 hp (by omega) (by omega) (by omega) (Or.inr ⟨rfl, Or.inr ⟨rfl, rfl⟩⟩)
    · exact isPlace_mk3 hp (by omega) (by omega) (by omega) (Or.inr ⟨rfl, Or.inl rfl⟩)
    · exact isPlace_mk3 hp (by omega) (by omega) (by omega) (Or.inl rfl)
  · intro h
    obtain ⟨h0, h1, h2⟩ := isPlace_num h
    dsimp only at h0 h1 h2
    rcases isPlace_form h with e | ⟨e, e' | ⟨e', e''⟩⟩
    · exact Or.inr (Or.inr ⟨y.toNat, by omega, z.toNat, by omega, e.symm, by omega, by omega⟩)
    · exact Or.inr (Or.inl ⟨z.toNat, by omega, e.symm, e'.symm, by omega⟩)
    · exact Or.inl ⟨e, e', e''⟩
theorem nodup_map {α β : Type} {f : α → β} {l : List α} (h : l.Nodup) (hf : ∀ a ∈ l, ∀ b ∈ l, f a = f b → a = b) : (l.map f).Nodup := by
  induction l with
  | nil => exact List.nodup_nil
  | cons a l ih =>
    rw [List.nodup_cons] at h
    rw [List.map_cons, List.nodup_cons]
    refine ⟨?_, ih h.2 fun b hb c hc e => hf b (List.mem_cons_of_mem _ hb) c (List.mem_cons_of_mem _ hc) e⟩
    intro hm
    obtain ⟨b, hb, e⟩ := List.mem_map.1 hm
    have := hf b (List.mem_cons_of_mem _ hb) a List.mem_cons_self e
    subst this
    exact h.1 hb
theorem nodup_flatMap {α β : Type} {f : α → List β} {l : List α} (h : l.Nodup) (hf : ∀ a ∈ l, (f a).Nodup) (hd : ∀ a ∈ l, ∀ b ∈ l, ∀ x, x ∈ f a → x ∈ f b → a = b) : (l.flatMap f).Nodup := by
  induction l with
  | nil => exact List.nodup_nil
  | cons a l ih =>
    rw [List.nodup_cons] at h
    rw [List.flatMap_cons, List.nodup_append]
    refine ⟨hf a List.mem_cons_self, ih h.2 (fun b hb => hf b (List.mem_cons_of_mem _ hb)) fun b hb c hc x h1 h2 => hd b (List.mem_cons_of_mem _ hb) c (List.mem_cons_of_mem _ hc) x h1 h2, ?_⟩
    intro x hx y hy e
    subst e
    obtain ⟨b, hb, hxb⟩ := List.mem_flatMap.1 hy
    have := hd a List.mem_cons_self b (List.mem_cons_of_mem _ hb) x hx hxb
    subst this
    exact h.1 hb
theorem places_nodup (p : Int) : (places p).Nodup := by
  unfold places
  rw [List.nodup_cons, List.nodup_append]
  refine ⟨?_, nodup_map List.nodup_range ?_, nodup_flatMap List.nodup_range (fun a _ => nodup_map List.nodup_range ?_) ?_, ?_⟩
  · simp
  · intro a _ b _ e; simp at e; omega
  · intro a _ b _ e; simp at e; omega
  · intro a _ b _ x h1 h2
    simp only [List.mem_map] at h1 h2
    obtain ⟨_, _, rfl⟩ := h1
    obtain ⟨_, _, e⟩ := h2
    simp at e; omega
  · intro x hx y hy e
    subst e
    simp only [List.mem_map, List.mem_flatMap] at hx hy
    obtain ⟨_, _, rfl⟩ := hx
    obtain ⟨_, _, _, _, e⟩ := hy
    simp at e
/-- Counts over ranges. -/
theorem count_none {n : Nat} {g : Nat → Bool} (h : ∀ z, z < n → g z = false) : (List.range n).countP g = 0 := by
  rw [List.countP_eq_zero]
  intro z hz
  rw [h z (List.mem_range.1 hz)]
  decide
theorem count_all {n : Nat} {g : Nat → Bool} (h : ∀ z, z < n → g z = true) : (List.range n).countP g = n := by
  have := List.countP_eq_length (p := g) (l := List.range n) |>.2 fun z hz => h z (List.mem_range.1 hz)
  rw [this, List.length_range]
theorem count_one {n z0 : Nat} {g : Nat → Bool} (h0 : z0 < n) (h : ∀ z, z < n → (g z = true ↔ z = z0)) : (List.range n).countP g = 1 := by
  induction n with
  | zero => omega
  | succ n ih =>
    rw [List.range_succ, List.countP_append]
    by_cases e : z0 = n
    · subst e
      rw [count_none fun z hz => by
        cases hg : g z
        · rfl
        · have := (h z (by omega)).1 hg
          omega]
      simp [List.countP_cons, (h z0 (by omega)).2 rfl]
    · rw [ih (by omega) fun z hz => h z (by omega)]
      have : g n = false := by
        cases hg : g n
        · rfl
        · have := (h n (by omega)).1 hg
          omega
      simp [List.countP_cons, this]
theorem sum_same {n c : Nat} {g : Nat → Nat} (h : ∀ z, z < n → g z = c) : ((List.range n).map g).sum = n * c := by
  induction n with
  | zero => simp
  | succ n ih =>
    rw [List.range_succ, List.map_append, List.sum_append, ih fun z hz => h z (by omega)]
    simp [h n (by omega), Nat.add_mul]
theorem sum_one {n c z0 : Nat} {g : Nat → Nat} (h0 : z0 < n) (h1 : g z0 = c) (h : ∀ z, z < n → z ≠ z0 → g z = 0) : ((List.range n).map g).sum = c := by
  induction n with
  | zero => omega
  | succ n ih =>
    rw [List.range_succ, List.map_append, List.sum_append]
    by_cases e : z0 = n
    · subst e
      rw [sum_same (c := 0) fun z hz => h z (by omega) (by omega)]
      simp [h1]
    · rw [ih (by omega) fun z hz hne => h z (by omega) hne]
      simp [h n (by omega) (by omega)]
theorem count_places (p : Int) (f : P3 → Bool) : ((places p).filter f).length = (if f (0, 0, 1) = true then 1 else 0) + (List.range p.toNat).countP (fun z : Nat => f (0, 1, (z : Int))) + ((List.range p.toNat).map fun y : Nat => (List.range p.toNat).countP fun z : Nat => f (1, (y : Int), (z : Int))).sum := by
  rw [← List.countP_eq_length_filter]
  unfold places
  rw [List.countP_cons, List.countP_append, List.countP_map, List.countP_flatMap]
  simp only [Function.comp_def, List.countP_map]
  omega
section
variable {p : Int} {K : Type} [Lean.Grind.Field K] {φ : Int → K}
/-- The number whose value is k. -/
theorem Hom.nat (H : Hom p K φ) (k : K) : ∃ z : Nat, z < p.toNat ∧ φ (z : Int) = k ∧ ∀ w : Nat, w < p.toNat → φ (w : Int) = k → w = z := by
  obtain ⟨x, h0, h1, e⟩ := H.sur k
  refine ⟨x.toNat, by omega, by rw [Int.toNat_of_nonneg h0]; exact e, fun w hw e2 => ?_⟩
  have := (H.iff (w : Int) x).1 (e2.trans e.symm)
  rw [mod_id (by omega), mod_id ⟨h0, h1⟩] at this
  omega
/-- A linear form that is not 0 has p + 1 places. -/
theorem linear_count (H : Hom p K φ) (hq : i_IsField p = true) {X Y Z : K} (hn : X ≠ 0 ∨ Y ≠ 0 ∨ Z ≠ 0) {f : P3 → Bool} (hf : ∀ a, i_isPlace p a = true → (f a = true ↔ φ a.1 * X + φ a.2.1 * Y + φ a.2.2 * Z = 0)) : ((places p).filter f).length = p.toNat + 1 := by
  have hp := i_IsField_ok hq
  have hn' : ((p.toNat : Nat) : Int) = p := by unfold Pr at hp; omega
  have p0 : 0 < p.toNat := by unfold Pr at hp; omega
  have i1 : f (0, 0, 1) = true ↔ Z = 0 := by
    rw [hf _ ((mem_places hq).1 (by unfold places; exact List.mem_cons_self))]
    dsimp only
    rw [H.zero, H.one]
    grind
  have i2 : ∀ z : Nat, z < p.toNat → (f (0, 1, (z : Int)) = true ↔ Y + φ (z : Int) * Z = 0) := fun z hz => by
    rw [hf _ ((mem_places hq).1 (by unfold places; exact List.mem_cons_of_mem _ (List.mem_append_left _ (List.mem_map.2 ⟨z, List.mem_range.2 hz, rfl⟩))))]
    dsimp only
    rw [H.zero, H.one]
    grind
  have i3 : ∀ y : Nat, y < p.toNat → ∀ z : Nat, z < p.toNat → (f (1, (y : Int), (z : Int)) = true ↔ X + φ (y : Int) * Y + φ (z : Int) * Z = 0) := fun y hy z hz => by
    rw [hf _ ((mem_places hq).1 (by unfold places; exact List.mem_cons_of_mem _ (List.mem_append_right _ (List.mem_flatMap.2 ⟨y, List.mem_range.2 hy, List.mem_map.2 ⟨z, List.mem_range.2 hz, rfl⟩⟩))))]
    dsimp only
    rw [H.one]
    grind
  have no : ∀ {b : Bool} {q : Prop}, (b = true ↔ q) → ¬ q → b = false := fun {b q} h hq => by
    cases b
    · rfl
    · exact absurd (h.1 rfl) hq
  rw [count_places]
  by_cases hz : Z = 0
  · rw [if_pos (i1.2 hz)]
    by_cases hy : Y = 0
    · have hx : X ≠ 0 := by grind
      rw [count_all fun z hz' => (i2 z hz').2 (by grind), sum_same (c := 0) fun y hy' => count_none fun z hz' => no (i3 y hy' z hz') (by grind)]
      omega
    · obtain ⟨y0, h0, e0, u0⟩ := H.nat (-(X * Y⁻¹))
      rw [count_none fun z hz' => no (i2 z hz') (by grind), sum_one (c := p.toNat) (z0 := y0) h0 (count_all fun z hz' => (i3 y0 h0 z hz').2 (by grind)) fun y hy' hne => count_none fun z hz' => no (i3 y hy' z hz') fun e => hne (u0 y hy' (by grind))]
      omega
  · rw [if_neg fun e => hz (i1.1 e)]
    have one : ∀ c : K, ∀ g : Nat → Bool, (∀ z, z < p.toNat → (g z = true ↔ c + φ (z : Int) * Z = 0)) → (List.range p.toNat).countP g = 1 := fun c g hg => by
      obtain ⟨z0, h0, e0, u0⟩ := H.nat (-(c * Z⁻¹))
      exact count_one h0 fun z hz' => (hg z hz').trans ⟨fun e => u0 z hz' (by grind), fun e => by subst e; grind⟩
    rw [one Y _ i2, sum_same (c := 1) fun y hy' => one (X + φ (y : Int) * Y) _ fun z hz' => i3 y hy' z hz']
    omega
end

end Go.Proofs.Ytnijajjdldijpaa
