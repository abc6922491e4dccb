import Derived.Test.YtoblkbpejfojjaaGreatDoorQa
set_option linter.unusedSimpArgs false
set_option linter.unusedVariables false
namespace Go.Proofs.YtoblkbpejfojjaaGreatDoor
open Go.RowKit
/-! Points, lines and products in the field. -/
def isC (c : Int) : Prop := c = 0 ∨ c = 1 ∨ c = 2
theorem isC_of {c : Int} (h : i_isColour c = true) : isC c := by
  unfold i_isColour at h; unfold isC; simp at h; omega
theorem isPoint_num {p : Int} {a : P2} (h : i_isPoint p a = true) : (0 ≤ a.1 ∧ a.1 < p) ∧ (0 ≤ a.2 ∧ a.2 < p) := by
  unfold i_isPoint at h
  simpa [i_areNumbers, isNumber_iff] using h
theorem isLine_num {p : Int} {l : P3} (h : i_isLine p l = true) : ((0 ≤ l.1 ∧ l.1 < p) ∧ (0 ≤ l.2.1 ∧ l.2.1 < p) ∧ (0 ≤ l.2.2 ∧ l.2.2 < p)) ∧ (l.1 = 1 ∨ l.1 = 0 ∧ l.2.1 = 1) := by
  unfold i_isLine at h
  simp [i_areNumbers, isNumber_iff] at h
  refine ⟨h.1, ?_⟩
  have h2 := h.2
  omega
section
variable {p : Int} {K : Type} [Lean.Grind.Field K] {φ : Int → K}
/-- The colours' products. -/
def prodK (c : Int) (x1 y1 x2 y2 : K) : K := if c = 0 then x1 * x2 + y1 * y2 else if c = 1 then x1 * x2 - y1 * y2 else x1 * y2 + y1 * x2
/-- The numbers by which a product with x, y is made. -/
def frU (c : Int) (x y : K) : K := if c = 2 then y else x
def frV (c : Int) (x y : K) : K := if c = 0 then y else if c = 1 then -y else x
theorem prodK_fr {c : Int} (hc : isC c) (x1 y1 x2 y2 : K) : prodK c x1 y1 x2 y2 = frU c x1 y1 * x2 + frV c x1 y1 * y2 := by
  rcases hc with rfl | rfl | rfl <;> simp [prodK, frU, frV] <;> grind
theorem vl_product (H : Hom p K φ) (hf : i_IsField p = true) {c : Int} (hc : isC c) {a b : P2} {x1 y1 x2 y2 : K} (h1 : Vl p φ a.1 x1) (h2 : Vl p φ a.2 y1) (h3 : Vl p φ b.1 x2) (h4 : Vl p φ b.2 y2) :
    Vl p φ (i_product p c a b) (prodK c x1 y1 x2 y2) := by
  have hp := i_IsField_ok hf
  rcases hc with rfl | rfl | rfl
  · show Vl p φ (i_rest p (wrap64 (wrap64 (a.1 * b.1) + wrap64 (a.2 * b.2)))) (x1 * x2 + y1 * y2)
    (repeat' (first | assumption | exact Vl.rw hp (by assumption) | exact Rw.lit _ (by decide) | exact Rw.nlit _ (by decide) | with_reducible apply Vl.rest H hp | with_reducible apply Vl.smod H hp | with_reducible apply Vl.div H hf | with_reducible apply Vl.inv H hf | with_reducible apply Vl.sinvV H hf | with_reducible apply Vl.sinvR H hf | with_reducible apply Rw.tmod H hp | with_reducible apply Rw.mul H | with_reducible apply Rw.neg0 H | with_reducible apply Rw.sub H | with_reducible apply Rw.add H | with_reducible apply Vl.rw hp | decide))
  · show Vl p φ (i_rest p (wrap64 (wrap64 (a.1 * b.1) - wrap64 (a.2 * b.2)))) (x1 * x2 - y1 * y2)
    (repeat' (first | assumption | exact Vl.rw hp (by assumption) | exact Rw.lit _ (by decide) | exact Rw.nlit _ (by decide) | with_reducible apply Vl.rest H hp | with_reducible apply Vl.smod H hp | with_reducible apply Vl.div H hf | with_reducible apply Vl.inv H hf | with_reducible apply Vl.sinvV H hf | with_reducible apply Vl.sinvR H hf | with_reducible apply Rw.tmod H hp | with_reducible apply Rw.mul H | with_reducible apply Rw.neg0 H | with_reducible apply Rw.sub H | with_reducible apply Rw.add H | with_reducible apply Vl.rw hp | decide))
  · show Vl p φ (i_rest p (wrap64 (wrap64 (a.1 * b.2) + wrap64 (a.2 * b.1)))) (x1 * y2 + y1 * x2)
    (repeat' (first | assumption | exact Vl.rw hp (by assumption) | exact Rw.lit _ (by decide) | exact Rw.nlit _ (by decide) | with_reducible apply Vl.rest H hp | with_reducible apply Vl.smod H hp | with_reducible apply Vl.div H hf | with_reducible apply Vl.inv H hf | with_reducible apply Vl.sinvV H hf | with_reducible apply Vl.sinvR H hf | with_reducible apply Rw.tmod H hp | with_reducible apply Rw.mul H | with_reducible apply Rw.neg0 H | with_reducible apply Rw.sub H | with_reducible apply Rw.add H | with_reducible apply Vl.rw hp | decide))
theorem vl_less1 (H : Hom p K φ) (hf : i_IsField p = true) {a b : P2} {x1 x2 : K} (h1 : Vl p φ a.1 x1) (h3 : Vl p φ b.1 x2) : Vl p φ (i_less p a b).1 (x1 - x2) := by
  have hp := i_IsField_ok hf
  unfold i_less
  dsimp only
  (repeat' (first | assumption | exact Vl.rw hp (by assumption) | exact Rw.lit _ (by decide) | exact Rw.nlit _ (by decide) | with_reducible apply Vl.rest H hp | with_reducible apply Vl.smod H hp | with_reducible apply Vl.div H hf | with_reducible apply Vl.inv H hf | with_reducible apply Vl.sinvV H hf | with_reducible apply Vl.sinvR H hf | with_reducible apply Rw.tmod H hp | with_reducible apply Rw.mul H | with_reducible apply Rw.neg0 H | with_reducible apply Rw.sub H | with_reducible apply Rw.add H | with_reducible apply Vl.rw hp | decide))
theorem vl_less2 (H : Hom p K φ) (hf : i_IsField p = true) {a b : P2} {x1 x2 : K} (h1 : Vl p φ a.2 x1) (h3 : Vl p φ b.2 x2) : Vl p φ (i_less p a b).2 (x1 - x2) := by
  have hp := i_IsField_ok hf
  unfold i_less
  dsimp only
  (repeat' (first | assumption | exact Vl.rw hp (by assumption) | exact Rw.lit _ (by decide) | exact Rw.nlit _ (by decide) | with_reducible apply Vl.rest H hp | with_reducible apply Vl.smod H hp | with_reducible apply Vl.div H hf | with_reducible apply Vl.inv H hf | with_reducible apply Vl.sinvV H hf | with_reducible apply Vl.sinvR H hf | with_reducible apply Rw.tmod H hp | with_reducible apply Rw.mul H | with_reducible apply Rw.neg0 H | with_reducible apply Rw.sub H | with_reducible apply Rw.add H | with_reducible apply Vl.rw hp | decide))
theorem vl_quadrance (H : Hom p K φ) (hf : i_IsField p = true) {c : Int} (hc : isC c) {a b : P2} {x1 y1 x2 y2 : K} (h1 : Vl p φ a.1 x1) (h2 : Vl p φ a.2 y1) (h3 : Vl p φ b.1 x2) (h4 : Vl p φ b.2 y2) :
    Vl p φ (i_quadrance p c a b) (prodK c (x1 - x2) (y1 - y2) (x1 - x2) (y1 - y2)) :=
  vl_product H hf hc (vl_less1 H hf h1 h3) (vl_less2 H hf h2 h4) (vl_less1 H hf h1 h3) (vl_less2 H hf h2 h4)
theorem prodK_neg {c : Int} (hc : isC c) (x1 y1 x2 y2 : K) : prodK c (x1 - x2) (y1 - y2) (x1 - x2) (y1 - y2) = prodK c (x2 - x1) (y2 - y1) (x2 - x1) (y2 - y1) := by
  rcases hc with rfl | rfl | rfl <;> simp [prodK] <;> grind
/-- A line in normal form with numbers that a, b, c make. -/
def Ln (p : Int) (φ : Int → K) (l : P3) (a b c : K) : Prop := ∃ t : K, t ≠ 0 ∧ Vl p φ l.1 (a * t) ∧ Vl p φ l.2.1 (b * t) ∧ Vl p φ l.2.2 (c * t) ∧ (l.1 = 1 ∨ l.1 = 0 ∧ l.2.1 = 1)
theorem Ln.of (H : Hom p K φ) {l : P3} (h : i_isLine p l = true) : Ln p φ l (φ l.1) (φ l.2.1) (φ l.2.2) := by
  obtain ⟨⟨h0, h1, h2⟩, h3⟩ := isLine_num h
  refine ⟨1, H.one_ne, ?_, ?_, ?_, h3⟩
  · exact (Vl.of h0).conv (by grind)
  · exact (Vl.of h1).conv (by grind)
  · exact (Vl.of h2).conv (by grind)
theorem Ln.scale {l : P3} {a b c : K} (s : K) (hs : s ≠ 0) {a' b' c' : K} (ea : a = s * a') (eb : b = s * b') (ec : c = s * c') (h : Ln p φ l a b c) : Ln p φ l a' b' c' := by
  obtain ⟨t, ht, h1, h2, h3, h4⟩ := h
  exact ⟨s * t, by grind, h1.conv (by grind), h2.conv (by grind), h3.conv (by grind), h4⟩
theorem Ln.inj (H : Hom p K φ) {l m : P3} {a b c : K} (h1 : Ln p φ l a b c) (h2 : Ln p φ m a b c) : l = m := by
  obtain ⟨t, ht, l0, l1, l2, lk⟩ := h1
  obtain ⟨s, hs, m0, m1, m2, mk⟩ := h2
  have e : t = s := by
    have z0 := Vl.zero_iff H l0; have z0' := Vl.zero_iff H m0
    rcases lk with e1 | ⟨e1, e2⟩ <;> rcases mk with f1 | ⟨f1, f2⟩
    · have v1 := l0.2; have v2 := m0.2
      rw [e1, H.one] at v1; rw [f1, H.one] at v2
      grind
    · have v1 := l0.2
      rw [e1, H.one] at v1
      have := z0'.1 f1
      grind
    · have v2 := m0.2
      rw [f1, H.one] at v2
      have := z0.1 e1
      grind
    · have v1 := l1.2; have v2 := m1.2
      rw [e2, H.one] at v1; rw [f2, H.one] at v2
      grind
  subst e
  obtain ⟨l0', l1', l2'⟩ := l
  obtain ⟨m0', m1', m2'⟩ := m
  have e0 := Vl.inj H l0 m0; have e1 := Vl.inj H l1 m1; have e2 := Vl.inj H l2 m2
  dsimp only at e0 e1 e2
  rw [e0, e1, e2]
end

/-! Perpendiculars, meets, feet. -/
theorem vl_way2 {p : Int} {K : Type} {φ : Int → K} {l : P3} {x : K} (h : Vl p φ l.1 x) : Vl p φ (i_way p l).2 x := h
section
variable {p : Int} {K : Type} [Lean.Grind.Field K] {φ : Int → K}
theorem vl_way1 (H : Hom p K φ) (hf : i_IsField p = true) {l : P3} {y : K} (h : Vl p φ l.2.1 y) : Vl p φ (i_way p l).1 (-y) := by
  have hp := i_IsField_ok hf
  unfold i_way
  dsimp only
  (repeat' (first | assumption | exact Vl.rw hp (by assumption) | exact Rw.lit _ (by decide) | exact Rw.nlit _ (by decide) | with_reducible apply Vl.rest H hp | with_reducible apply Vl.smod H hp | with_reducible apply Vl.div H hf | with_reducible apply Vl.inv H hf | with_reducible apply Vl.sinvV H hf | with_reducible apply Vl.sinvR H hf | with_reducible apply Rw.tmod H hp | with_reducible apply Rw.mul H | with_reducible apply Rw.neg0 H | with_reducible apply Rw.sub H | with_reducible apply Rw.add H | with_reducible apply Vl.rw hp | decide))
theorem fr_ne {c : Int} (hc : isC c) {x y : K} (h : x ≠ 0 ∨ y ≠ 0) : frU c x y ≠ 0 ∨ frV c x y ≠ 0 := by
  rcases hc with rfl | rfl | rfl <;> simp [frU, frV] <;> grind
theorem mem_linesT {p : Int} {a : P2} {m : P3} : m ∈ linesT p a ↔ m = (0, 1, i_rest p (wrap64 (0 - a.2))) ∨ ∃ b : Int, (0 ≤ b ∧ b < p) ∧ m = (1, b, i_rest p (wrap64 (wrap64 (0 - a.1) - wrap64 (b * a.2)))) := by
  unfold linesT
  simp only [List.mem_cons, List.mem_map, List.mem_range]
  constructor
  · rintro (h | ⟨k, hk, rfl⟩)
    · exact Or.inl h
    · exact Or.inr ⟨k, by omega, rfl⟩
  · rintro (h | ⟨b, hb, rfl⟩)
    · exact Or.inl h
    · exact Or.inr ⟨b.toNat, by omega, by rw [show ((b.toNat : Nat) : Int) = b from by omega]⟩
/-- Each line through a point is told by its direction's numbers. -/
theorem ln_lines (H : Hom p K φ) (hf : i_IsField p = true) {a : P2} {x y : K} (h3 : Vl p φ a.1 x) (h4 : Vl p φ a.2 y) {m : P3} (hm : m ∈ linesT p a) : ∃ u v : K, (u ≠ 0 ∨ v ≠ 0) ∧ Ln p φ m u v (-(u * x + v * y)) ∧ Vl p φ m.1 u ∧ Vl p φ m.2.1 v := by
  have hp := i_IsField_ok hf
  rcases mem_linesT.1 hm with rfl | ⟨b, hb, rfl⟩
  · have v : Vl p φ (i_rest p (wrap64 (0 - a.2))) (-y) := by (repeat' (first | assumption | exact Vl.rw hp (by assumption) | exact Rw.lit _ (by decide) | exact Rw.nlit _ (by decide) | with_reducible apply Vl.rest H hp | with_reducible apply Vl.smod H hp | with_reducible apply Vl.div H hf | with_reducible apply Vl.inv H hf | with_reducible apply Vl.sinvV H hf | with_reducible apply Vl.sinvR H hf | with_reducible apply Rw.tmod H hp | with_reducible apply Rw.mul H | with_reducible apply Rw.neg0 H | with_reducible apply Rw.sub H | with_reducible apply Rw.add H | with_reducible apply Vl.rw hp | decide))
    refine ⟨0, 1, Or.inr H.one_ne, ⟨1, H.one_ne, (Vl.zero H hp).conv (by grind), (Vl.one H hf).conv (by grind), v.conv (by grind), Or.inr ⟨rfl, rfl⟩⟩, Vl.zero H hp, Vl.one H hf⟩
  · have hb' : Vl p φ b (φ b) := Vl.of hb
    have v : Vl p φ (i_rest p (wrap64 (wrap64 (0 - a.1) - wrap64 (b * a.2)))) (-x - φ b * y) := by (repeat' (first | assumption | exact Vl.rw hp (by assumption) | exact Rw.lit _ (by decide) | exact Rw.nlit _ (by decide) | with_reducible apply Vl.rest H hp | with_reducible apply Vl.smod H hp | with_reducible apply Vl.div H hf | with_reducible apply Vl.inv H hf | with_reducible apply Vl.sinvV H hf | with_reducible apply Vl.sinvR H hf | with_reducible apply Rw.tmod H hp | with_reducible apply Rw.mul H | with_reducible apply Rw.neg0 H | with_reducible apply Rw.sub H | with_reducible apply Rw.add H | with_reducible apply Vl.rw hp | decide))
    refine ⟨1, φ b, Or.inl H.one_ne, ⟨1, H.one_ne, (Vl.one H hf).conv (by grind), hb'.conv (by grind), v.conv (by grind), Or.inl rfl⟩, Vl.one H hf, hb'⟩
theorem lines_ln (H : Hom p K φ) (hf : i_IsField p = true) {a : P2} {x y : K} (h3 : Vl p φ a.1 x) (h4 : Vl p φ a.2 y) (u v : K) (hn : u ≠ 0 ∨ v ≠ 0) : ∃ m ∈ linesT p a, Ln p φ m u v (-(u * x + v * y)) := by
  have hp := i_IsField_ok hf
  by_cases hu : u = 0
  · have hv : v ≠ 0 := by grind
    refine ⟨_, mem_linesT.2 (Or.inl rfl), ?_⟩
    have w : Vl p φ (i_rest p (wrap64 (0 - a.2))) (-y) := by (repeat' (first | assumption | exact Vl.rw hp (by assumption) | exact Rw.lit _ (by decide) | exact Rw.nlit _ (by decide) | with_reducible apply Vl.rest H hp | with_reducible apply Vl.smod H hp | with_reducible apply Vl.div H hf | with_reducible apply Vl.inv H hf | with_reducible apply Vl.sinvV H hf | with_reducible apply Vl.sinvR H hf | with_reducible apply Rw.tmod H hp | with_reducible apply Rw.mul H | with_reducible apply Rw.neg0 H | with_reducible apply Rw.sub H | with_reducible apply Rw.add H | with_reducible apply Vl.rw hp | decide))
    exact ⟨v⁻¹, by grind, (Vl.zero H hp).conv (by grind), (Vl.one H hf).conv (by grind), w.conv (by grind), Or.inr ⟨rfl, rfl⟩⟩
  · obtain ⟨b, b1, b2, b3⟩ := H.sur (v * u⁻¹)
    have hb' : Vl p φ b (v * u⁻¹) := ⟨⟨b1, b2⟩, b3⟩
    refine ⟨_, mem_linesT.2 (Or.inr ⟨b, ⟨b1, b2⟩, rfl⟩), ?_⟩
    have w : Vl p φ (i_rest p (wrap64 (wrap64 (0 - a.1) - wrap64 (b * a.2)))) (-x - v * u⁻¹ * y) := by (repeat' (first | assumption | exact Vl.rw hp (by assumption) | exact Rw.lit _ (by decide) | exact Rw.nlit _ (by decide) | with_reducible apply Vl.rest H hp | with_reducible apply Vl.smod H hp | with_reducible apply Vl.div H hf | with_reducible apply Vl.inv H hf | with_reducible apply Vl.sinvV H hf | with_reducible apply Vl.sinvR H hf | with_reducible apply Rw.tmod H hp | with_reducible apply Rw.mul H | with_reducible apply Rw.neg0 H | with_reducible apply Rw.sub H | with_reducible apply Rw.add H | with_reducible apply Vl.rw hp | decide))
    exact ⟨u⁻¹, by grind, (Vl.one H hf).conv (by grind), hb'.conv (by grind), w.conv (by grind), Or.inl rfl⟩
theorem perp_iff (H : Hom p K φ) (hf : i_IsField p = true) {c : Int} (hc : isC c) {l m : P3} {l1 l2 m1 m2 : K} (h1 : Vl p φ l.1 l1) (h2 : Vl p φ l.2.1 l2) (h3 : Vl p φ m.1 m1) (h4 : Vl p φ m.2.1 m2) :
    i_arePerpendicular p c l m = true ↔ prodK c (-l2) l1 (-m2) m1 = 0 := by
  have v := vl_product H hf hc (vl_way1 H hf h2) (vl_way2 h1) (vl_way1 H hf h4) (vl_way2 h3)
  unfold i_arePerpendicular
  rw [beq_iff_eq]
  exact Vl.zero_iff H v
/-- The search for a perpendicular comes to the line that the product tells. -/
theorem ln_perpendicular (H : Hom p K φ) (hf : i_IsField p = true) {c : Int} (hc : isC c) {l : P3} {a : P2} {l1 l2 x y : K} (h1 : Vl p φ l.1 l1) (h2 : Vl p φ l.2.1 l2) (h3 : Vl p φ a.1 x) (h4 : Vl p φ a.2 y) (hn : l1 ≠ 0 ∨ l2 ≠ 0) :
    Ln p φ (i_perpendicular p c l a) (frU c (-l2) l1) (frV c (-l2) l1) (-(frU c (-l2) l1 * x + frV c (-l2) l1 * y)) := by
  obtain ⟨m, hm, hl⟩ := lines_ln H hf h3 h4 (frU c (-l2) l1) (frV c (-l2) l1) (fr_ne hc (by grind))
  have hfind : (linesT p a).find? (fun zz => i_arePerpendicular p c l zz) = some m := by
    refine find_only hm ?_ ?_
    · obtain ⟨t, ht, m0, m1, m2, _⟩ := hl
      rw [perp_iff H hf hc h1 h2 m0 m1, prodK_fr hc]
      grind
    · intro b hb hq
      obtain ⟨u, v, huv, hlb, b0, b1⟩ := ln_lines H hf h3 h4 hb
      rw [perp_iff H hf hc h1 h2 b0 b1, prodK_fr hc] at hq
      have hne := fr_ne hc (show -l2 ≠ 0 ∨ l1 ≠ 0 by grind)
      refine Ln.inj H hlb (a := u) (b := v) (c := -(u * x + v * y)) ?_
      generalize frU c (-l2) l1 = U at hq hne hl
      generalize frV c (-l2) l1 = V at hq hne hl
      by_cases hU : U = 0
      · have hu : u = 0 := by grind
        refine Ln.scale (V * v⁻¹) (by grind) (by grind) (by grind) (by grind) hl
      · have hu : u ≠ 0 := by grind
        refine Ln.scale (U * u⁻¹) (by grind) (by grind) (by grind) (by grind) hl
  unfold i_perpendicular
  rw [find_if, hfind]
  exact hl
theorem vl_det (H : Hom p K φ) (hf : i_IsField p = true) {a b c d : Int} {x y z w : K} (h1 : Vl p φ a x) (h2 : Vl p φ b y) (h3 : Vl p φ c z) (h4 : Vl p φ d w) : Vl p φ (i_rest p (wrap64 (wrap64 (a * b) - wrap64 (c * d)))) (x * y - z * w) := by
  have hp := i_IsField_ok hf
  (repeat' (first | assumption | exact Vl.rw hp (by assumption) | exact Rw.lit _ (by decide) | exact Rw.nlit _ (by decide) | with_reducible apply Vl.rest H hp | with_reducible apply Vl.smod H hp | with_reducible apply Vl.div H hf | with_reducible apply Vl.inv H hf | with_reducible apply Vl.sinvV H hf | with_reducible apply Vl.sinvR H hf | with_reducible apply Rw.tmod H hp | with_reducible apply Rw.mul H | with_reducible apply Rw.neg0 H | with_reducible apply Rw.sub H | with_reducible apply Rw.add H | with_reducible apply Vl.rw hp | decide))
theorem vl_meet (H : Hom p K φ) (hf : i_IsField p = true) {l m : P3} {l0 l1 l2 m0 m1 m2 : K} (h0 : Vl p φ l.1 l0) (h1 : Vl p φ l.2.1 l1) (h2 : Vl p φ l.2.2 l2) (g0 : Vl p φ m.1 m0) (g1 : Vl p φ m.2.1 m1) (g2 : Vl p φ m.2.2 m2) :
    Vl p φ (i_meet p l m).1 ((l1 * m2 - l2 * m1) * (l0 * m1 - l1 * m0)⁻¹) ∧ Vl p φ (i_meet p l m).2 ((l2 * m0 - l0 * m2) * (l0 * m1 - l1 * m0)⁻¹) := by
  have hp := i_IsField_ok hf
  unfold i_meet
  dsimp only
  have d := vl_det H hf h0 g1 h1 g0
  exact ⟨Vl.div H hf (Vl.rw hp (vl_det H hf h1 g2 h2 g1)) d (by decide), Vl.div H hf (Vl.rw hp (vl_det H hf h2 g0 h0 g2)) d (by decide)⟩
end

/-! Codes of points, lines, triangles; altitudes, orthocentres, circumcentres. -/
theorem point_eq {p : Int} (hp : Pr p) (a : P2) : s_l01Point p a = i_isPoint p a := by
  unfold s_l01Point i_isPoint
  simp [in_eq hp, i_areNumbers]
theorem line_is {p : Int} (hp : Pr p) (l : P3) : s_l01Line p l = i_isLine p l := by
  unfold s_l01Line i_isLine
  simp only [in_eq hp]
  cases h0 : i_isNumber p l.1 <;> cases h1 : i_isNumber p l.2.1 <;> cases h2 : i_isNumber p l.2.2 <;> simp [i_areNumbers, h0, h1, h2]
theorem pointcode (p : Int) (k : Bool) (l : List P2) : s_l01Code p l = i_asked p k (i_arePoints p l) := by
  unfold s_l01Code i_asked s_l01Field
  cases h : i_IsField p
  · rfl
  · have e : l.all (fun x => s_l01Point p x) = i_arePoints p l := by unfold i_arePoints; congr 1; funext a; exact point_eq (i_IsField_ok h) a
    rw [e]
theorem linecode (p : Int) (k : Bool) (l : P3) : s_l01Lines p [l] = i_asked p k (i_isLine p l) := by
  unfold s_l01Lines i_asked s_l01Field
  cases h : i_IsField p
  · rfl
  · simp [line_is (i_IsField_ok h)]
section
variable {p : Int} {K : Type} [Lean.Grind.Field K] {φ : Int → K}
end

theorem quad_same {p : Int} (hf : i_IsField p = true) {c : Int} (hc : isC c) {a b : P2} (ha : i_isPoint p a = true) (hb : i_isPoint p b = true) : s_l02Quadrance p c a b = i_quadrance p c a b := by
  obtain ⟨K, inst, φ, H⟩ := hom_of hf
  have a1 := Vl.of (φ := φ) (isPoint_num ha).1; have a2 := Vl.of (φ := φ) (isPoint_num ha).2
  have b1 := Vl.of (φ := φ) (isPoint_num hb).1; have b2 := Vl.of (φ := φ) (isPoint_num hb).2
  have v := vl_quadrance H hf hc b1 b2 a1 a2
  have w := vl_quadrance H hf hc a1 a2 b1 b2
  rw [prodK_neg hc] at v
  exact Vl.inj H (show Vl p φ (s_l02Quadrance p c a b) _ from v) w
/-! Counts over the rests. -/
section
variable {K : Type} {p : Int} {φ : Int → K}
def zz (p : Int) (φ : Int → K) : List K := (List.range p.toNat).map fun n : Nat => φ (n : Int)
theorem count_eq {q r : K → Bool} (h : ∀ k, q k = r k) : (zz p φ).countP q = (zz p φ).countP r := by rw [show q = r from funext h]
theorem sum_eq2 {f g : K → Nat} (h : ∀ k, f k = g k) : ((zz p φ).map f).sum = ((zz p φ).map g).sum := by rw [show f = g from funext h]
theorem count_none {q : K → Bool} (h : ∀ k, q k = false) : (zz p φ).countP q = 0 := by
  rw [List.countP_eq_zero]
  intro y _ e
  rw [h y] at e
  cases e
theorem zz_len : (zz p φ).length = p.toNat := by simp [zz]
theorem sum_const (c : Nat) : ((zz p φ).map fun _ => c).sum = p.toNat * c := by
  rw [List.map_const', List.sum_replicate_nat, zz_len]
end
section
variable {K : Type} [Lean.Grind.Field K] {p : Int} {φ : Int → K}
theorem phi_inj (H : Hom p K φ) {x y : Int} (hx : 0 ≤ x ∧ x < p) (hy : 0 ≤ y ∧ y < p) (e : φ x = φ y) : x = y := by
  have h := (H.iff x y).1 e
  rwa [Int.emod_eq_of_lt hx.1 hx.2, Int.emod_eq_of_lt hy.1 hy.2] at h
theorem zz_nodup (H : Hom p K φ) : (zz p φ).Nodup := by
  unfold zz List.Nodup
  rw [List.pairwise_map]
  refine List.Pairwise.imp_of_mem (fun {a b} ha hb hab e => hab ?_) (List.nodup_range (n := p.toNat))
  have h1 := List.mem_range.1 ha
  have h2 := List.mem_range.1 hb
  have := phi_inj H (x := (a : Int)) (y := (b : Int)) (by omega) (by omega) e
  omega
theorem zz_mem (H : Hom p K φ) (k : K) : k ∈ zz p φ := by
  obtain ⟨x, h0, h1, rfl⟩ := H.sur k
  exact List.mem_map.2 ⟨x.toNat, List.mem_range.2 (by omega), by rw [Int.toNat_of_nonneg h0]⟩
theorem count_one (H : Hom p K φ) {q : K → Bool} (a : K) (h : ∀ k, q k = true ↔ k = a) : (zz p φ).countP q = 1 := by
  have hn := zz_nodup H
  have hm := zz_mem H a
  generalize zz p φ = l at *
  induction l with
  | nil => cases hm
  | cons x l ih =>
    unfold List.Nodup at hn
    rw [List.pairwise_cons] at hn
    by_cases hx : x = a
    · have h0 : l.countP q = 0 := by
        rw [List.countP_eq_zero]
        intro y hy e
        exact hn.1 y hy (by rw [hx, (h y).1 e])
      rw [List.countP_cons, if_pos ((h x).2 hx), h0]
    · rw [List.countP_cons, if_neg (fun e => hx ((h x).1 e)), ih hn.2 (by
        rcases List.mem_cons.1 hm with e | e
        · exact absurd e.symm hx
        · exact e)]
end
/-! Sums over rests. -/
section
variable {K : Type} {p : Int} {φ : Int → K}
theorem zz_sum (R : K → K → Bool) : ((zz p φ).map fun u => (zz p φ).countP (R u)).sum = ((List.range p.toNat).map fun u : Nat => (List.range p.toNat).countP fun z : Nat => R (φ (u : Int)) (φ (z : Int))).sum := by
  unfold zz
  rw [List.map_map]
  congr 1
  refine List.map_congr_left fun u _ => ?_
  show List.countP (R (φ (u : Int))) (List.map (fun n : Nat => φ (n : Int)) (List.range p.toNat)) = _
  rw [List.countP_map]
  rfl
end
theorem if_sum {K : Type} (q : K → Bool) (g : K → Nat) (c : Nat) (h : ∀ x, g x = if q x = true then c else 0) : ∀ l : List K, (l.map g).sum = c * l.countP q
  | [] => rfl
  | x :: l => by
    have ih := if_sum q g c h l
    rw [List.map_cons, List.sum_cons, ih, h x, List.countP_cons]
    split <;> simp [Nat.mul_add] <;> omega
theorem boolOf {K : Type} (P : K → K → Prop) : ∃ Q : K → K → Bool, ∀ X Y, Q X Y = true ↔ P X Y := ⟨fun X Y => @decide (P X Y) (Classical.propDecidable _), fun X Y => by simp⟩
theorem boolOf1 {K : Type} (P : K → Prop) : ∃ Q : K → Bool, ∀ X, Q X = true ↔ P X := ⟨fun X => @decide (P X) (Classical.propDecidable _), fun X => by simp⟩

/-! The points of a plane, counted by lists of rests. -/
section
variable {K : Type} {p : Int} {φ : Int → K}
theorem pts_count (h0 : 0 ≤ p) (q : P2 → Bool) (Q : K → K → Bool) (h : ∀ x y, (0 ≤ x ∧ x < p) → (0 ≤ y ∧ y < p) → q (x, y) = Q (φ x) (φ y)) : ((pts p).filter q).length = ((zz p φ).map fun x => (zz p φ).countP (Q x)).sum := by
  rw [zz_sum, ← List.countP_eq_length_filter]
  unfold pts
  rw [List.countP_flatMap]
  congr 1
  refine List.map_congr_left fun x hx => ?_
  have hx' := List.mem_range.1 hx
  show List.countP q (List.map (fun y : Nat => ((x : Int), (y : Int))) (List.range p.toNat)) = _
  rw [List.countP_map]
  refine List.countP_congr fun y hy => ?_
  have hy' := List.mem_range.1 hy
  show q ((x : Int), (y : Int)) = true ↔ _
  rw [h (x : Int) (y : Int) (by omega) (by omega)]
end

end Go.Proofs.YtoblkbpejfojjaaGreatDoor
