import Derived.Test.YtoblkbpejfojjaaGreatDoorQg
set_option linter.unusedSimpArgs false
set_option linter.unusedVariables false
namespace Go.Proofs.YtoblkbpejfojjaaGreatDoor
open Go.RowKit
/-! Perpendiculars, meets, feet. -/
theorem vl_way2 {p : Int} {K : Type} {φ : Int → K} {l : P3} {x : K} (h : Vl p φ l.1 x) : Vl p φ (i_way p l).2 x := h
section
variable {p : Int} {K : Type} [Lean.Grind.Field K] {φ : Int → K}
theorem vl_way1 (H : Hom p K φ) (hf : i_IsField p = true) {l : P3} {y : K} (h : Vl p φ l.2.1 y) : Vl p φ (i_way p l).1 (-y) := by
  have hp := i_IsField_ok hf
  unfold i_way
  dsimp only
  (repeat' (first | assumption | exact Vl.rw hp (by assumption) | exact Rw.lit _ (by decide) | exact Rw.nlit _ (by decide) | with_reducible apply Vl.rest H hp | with_reducible apply Vl.smod H hp | with_reducible apply Vl.div H hf | with_reducible apply Vl.inv H hf | with_reducible apply Vl.sinvV H hf | with_reducible apply Vl.sinvR H hf | with_reducible apply Rw.tmod H hp | with_reducible apply Rw.mul H | with_reducible apply Rw.neg0 H | with_reducible apply Rw.sub H | with_reducible apply Rw.add H | with_reducible apply Vl.rw hp | decide))
theorem fr_ne {c : Int} (hc : isC c) {x y : K} (h : x ≠ 0 ∨ y ≠ 0) : frU c x y ≠ 0 ∨ frV c x y ≠ 0 := by
  rcases hc with rfl | rfl | rfl <;> simp [frU, frV] <;> grind
theorem mem_linesT {p : Int} {a : P2} {m : P3} : m ∈ linesT p a ↔ m = (0, 1, i_rest p (wrap64 (0 - a.2))) ∨ ∃ b : Int, (0 ≤ b ∧ b < p) ∧ m = (1, b, i_rest p (wrap64 (wrap64 (0 - a.1) - wrap64 (b * a.2)))) := by
  unfold linesT
  simp only [List.mem_cons, List.mem_map, List.mem_range]
  constructor
  · rintro (h | ⟨k, hk, rfl⟩)
    · exact Or.inl h
    · exact Or.inr ⟨k, by omega, rfl⟩
  · rintro (h | ⟨b, hb, rfl⟩)
    · exact Or.inl h
    · exact Or.inr ⟨b.toNat, by omega, by rw [show ((b.toNat : Nat) : Int) = b from by omega]⟩
/-- Each line through a point is told by its direction's numbers. -/
theorem ln_lines (H : Hom p K φ) (hf : i_IsField p = true) {a : P2} {x y : K} (h3 : Vl p φ a.1 x) (h4 : Vl p φ a.2 y) {m : P3} (hm : m ∈ linesT p a) : ∃ u v : K, (u ≠ 0 ∨ v ≠ 0) ∧ Ln p φ m u v (-(u * x + v * y)) ∧ Vl p φ m.1 u ∧ Vl p φ m.2.1 v := by
  have hp := i_IsField_ok hf
  rcases mem_linesT.1 hm with rfl | ⟨b, hb, rfl⟩
  · have v : Vl p φ (i_rest p (wrap64 (0 - a.2))) (-y) := by (repeat' (first | assumption | exact Vl.rw hp (by assumption) | exact Rw.lit _ (by decide) | exact Rw.nlit _ (by decide) | with_reducible apply Vl.rest H hp | with_reducible apply Vl.smod H hp | with_reducible apply Vl.div H hf | with_reducible apply Vl.inv H hf | with_reducible apply Vl.sinvV H hf | with_reducible apply Vl.sinvR H hf | with_reducible apply Rw.tmod H hp | with_reducible apply Rw.mul H | with_reducible apply Rw.neg0 H | with_reducible apply Rw.sub H | with_reducible apply Rw.add H | with_reducible apply Vl.rw hp | decide))
    refine ⟨0, 1, Or.inr H.one_ne, ⟨1, H.one_ne, (Vl.zero H hp).conv (by grind), (Vl.one H hf).conv (by grind), v.conv (by grind), Or.inr ⟨rfl, rfl⟩⟩, Vl.zero H hp, Vl.one H hf⟩
  · have hb' : Vl p φ b (φ b) := Vl.of hb
    have v : Vl p φ (i_rest p (wrap64 (wrap64 (0 - a.1) - wrap64 (b * a.2)))) (-x - φ b * y) := by (repeat' (first | assumption | exact Vl.rw hp (by assumption) | exact Rw.lit _ (by decide) | exact Rw.nlit _ (by decide) | with_reducible apply Vl.rest H hp | with_reducible apply Vl.smod H hp | with_reducible apply Vl.div H hf | with_reducible apply Vl.inv H hf | with_reducible apply Vl.sinvV H hf | with_reducible apply Vl.sinvR H hf | with_reducible apply Rw.tmod H hp | with_reducible apply Rw.mul H | with_reducible apply Rw.neg0 H | with_reducible apply Rw.sub H | with_reducible apply Rw.add H | with_reducible apply Vl.rw hp | decide))
    refine ⟨1, φ b, Or.inl H.one_ne, ⟨1, H.one_ne, (Vl.one H hf).conv (by grind), hb'.conv (by grind), v.conv (by grind), Or.inl rfl⟩, Vl.one H hf, hb'⟩
theorem lines_ln (H : Hom p K φ) (hf : i_IsField p = true) {a : P2} {x y : K} (h3 : Vl p φ a.1 x) (h4 : Vl p φ a.2 y) (u v : K) (hn : u ≠ 0 ∨ v ≠ 0) : ∃ m ∈ linesT p a, Ln p φ m u v (-(u * x + v * y)) := by
  have hp := i_IsField_ok hf
  by_cases hu : u = 0
  · have hv : v ≠ 0 := by grind
    refine ⟨_, mem_linesT.2 (Or.inl rfl), ?_⟩
    have w : Vl p φ (i_rest p (wrap64 (0 - a.2))) (-y) := by (repeat' (first | assumption | exact Vl.rw hp (by assumption) | exact Rw.lit _ (by decide) | exact Rw.nlit _ (by decide) | with_reducible apply Vl.rest H hp | with_reducible apply Vl.smod H hp | with_reducible apply Vl.div H hf | with_reducible apply Vl.inv H hf | with_reducible apply Vl.sinvV H hf | with_reducible apply Vl.sinvR H hf | with_reducible apply Rw.tmod H hp | with_reducible apply Rw.mul H | with_reducible apply Rw.neg0 H | with_reducible apply Rw.sub H | with_reducible apply Rw.add H | with_reducible apply Vl.rw hp | decide))
    exact ⟨v⁻¹, by grind, (Vl.zero H hp).conv (by grind), (Vl.one H hf).conv (by grind), w.conv (by grind), Or.inr ⟨rfl, rfl⟩⟩
  · obtain ⟨b, b1, b2, b3⟩ := H.sur (v * u⁻¹)
    have hb' : Vl p φ b (v * u⁻¹) := ⟨⟨b1, b2⟩, b3⟩
    refine ⟨_, mem_linesT.2 (Or.inr ⟨b, ⟨b1, b2⟩, rfl⟩), ?_⟩
    have w : Vl p φ (i_rest p (wrap64 (wrap64 (0 - a.1) - wrap64 (b * a.2)))) (-x - v * u⁻¹ * y) := by (repeat' (first | assumption | exact Vl.rw hp (by assumption) | exact Rw.lit _ (by decide) | exact Rw.nlit _ (by decide) | with_reducible apply Vl.rest H hp | with_reducible apply Vl.smod H hp | with_reducible apply Vl.div H hf | with_reducible apply Vl.inv H hf | with_reducible apply Vl.sinvV H hf | with_reducible apply Vl.sinvR H hf | with_reducible apply Rw.tmod H hp | with_reducible apply Rw.mul H | with_reducible apply Rw.neg0 H | with_reducible apply Rw.sub H | with_reducible apply Rw.add H | with_reducible apply Vl.rw hp | decide))
    exact ⟨u⁻¹, by grind, (Vl.one H hf).conv (by grind), hb'.conv (by grind), w.conv (by grind), Or.inl rfl⟩
theorem perp_iff (H : Hom p K φ) (hf : i_IsField p = true) {c : Int} (hc : isC c) {l m : P3} {l1 l2 m1 m2 : K} (h1 : Vl p φ l.1 l1) (h2 : Vl p φ l.2.1 l2) (h3 : Vl p φ m.1 m1) (h4 : Vl p φ m.2.1 m2) :
    i_arePerpendicular p c l m = true ↔ prodK c (-l2) l1 (-m2) m1 = 0 := by
  have v := vl_product H hf hc (vl_way1 H hf h2) (vl_way2 h1) (vl_way1 H hf h4) (vl_way2 h3)
  unfold i_arePerpendicular
  rw [beq_iff_eq]
  exact Vl.zero_iff H v
/-- The search for a perpendicular comes to the line that the product tells. -/
theorem ln_perpendicular (H : Hom p K φ) (hf : i_IsField p = true) {c : Int} (hc : isC c) {l : P3} {a : P2} {l1 l2 x y : K} (h1 : Vl p φ l.1 l1) (h2 : Vl p φ l.2.1 l2) (h3 : Vl p φ a.1 x) (h4 : Vl p φ a.2 y) (hn : l1 ≠ 0 ∨ l2 ≠ 0) :
    Ln p φ (i_perpendicular p c l a) (frU c (-l2) l1) (frV c (-l2) l1) (-(frU c (-l2) l1 * x + frV c (-l2) l1 * y)) := by
  obtain ⟨m, hm, hl⟩ := lines_ln H hf h3 h4 (frU c (-l2) l1) (frV c (-l2) l1) (fr_ne hc (by grind))
  have hfind : (linesT p a).find? (fun zz => i_arePerpendicular p c l zz) = some m := by
    refine find_only hm ?_ ?_
    · obtain ⟨t, ht, m0, m1, m2, _⟩ := hl
      rw [perp_iff H hf hc h1 h2 m0 m1, prodK_fr hc]
      grind
    · intro b hb hq
      obtain ⟨u, v, huv, hlb, b0, b1⟩ := ln_lines H hf h3 h4 hb
      rw [perp_iff H hf hc h1 h2 b0 b1, prodK_fr hc] at hq
      have hne := fr_ne hc (show -l2 ≠ 0 ∨ l1 ≠ 0 by grind)
      refine Ln.inj H hlb (a := u) (b := v) (c := -(u * x + v * y)) ?_
      generalize frU c (-l2) l1 = U at hq hne hl
      generalize frV c (-l2) l1 = V at hq hne hl
      by_cases hU : U = 0
      · have hu : u = 0 := by grind
        refine Ln.scale (V * v⁻¹) (by grind) (by grind) (by grind) (by grind) hl
      · have hu : u ≠ 0 := by grind
        refine Ln.scale (U * u⁻¹) (by grind) (by grind) (by grind) (by grind) hl
  unfold i_perpendicular
  rw [find_if, hfind]
  exact hl
theorem vl_det (H : Hom p K φ) (hf : i_IsField p = true) {a b c d : Int} {x y z w : K} (h1 : Vl p φ a x) (h2 : Vl p φ b y) (h3 : Vl p φ c z) (h4 : Vl p φ d w) : Vl p φ (i_rest p (wrap64 (wrap64 (a * b) - wrap64 (c * d)))) (x * y - z * w) := by
  have hp := i_IsField_ok hf
  (repeat' (first | assumption | exact Vl.rw hp (by assumption) | exact Rw.lit _ (by decide) | exact Rw.nlit _ (by decide) | with_reducible apply Vl.rest H hp | with_reducible apply Vl.smod H hp | with_reducible apply Vl.div H hf | with_reducible apply Vl.inv H hf | with_reducible apply Vl.sinvV H hf | with_reducible apply Vl.sinvR H hf | with_reducible apply Rw.tmod H hp | with_reducible apply Rw.mul H | with_reducible apply Rw.neg0 H | with_reducible apply Rw.sub H | with_reducible apply Rw.add H | with_reducible apply Vl.rw hp | decide))
theorem vl_meet (H : Hom p K φ) (hf : i_IsField p = true) {l m : P3} {l0 l1 l2 m0 m1 m2 : K} (h0 : Vl p φ l.1 l0) (h1 : Vl p φ l.2.1 l1) (h2 : Vl p φ l.2.2 l2) (g0 : Vl p φ m.1 m0) (g1 : Vl p φ m.2.1 m1) (g2 : Vl p φ m.2.2 m2) :
    Vl p φ (i_meet p l m).1 ((l1 * m2 - l2 * m1) * (l0 * m1 - l1 * m0)⁻¹) ∧ Vl p φ (i_meet p l m).2 ((l2 * m0 - l0 * m2) * (l0 * m1 - l1 * m0)⁻¹) := by
  have hp := i_IsField_ok hf
  unfold i_meet
  dsimp only
  have d := vl_det H hf h0 g1 h1 g0
  exact ⟨Vl.div H hf (Vl.rw hp (vl_det H hf h1 g2 h2 g1)) d (by decide), Vl.div H hf (Vl.rw hp (vl_det H hf h2 g0 h0 g2)) d (by decide)⟩
theorem pair_eq {a b : P2} (h1 : a.1 = b.1) (h2 : a.2 = b.2) : a = b := Prod.ext h1 h2
/-- The line through two points. -/
theorem ln_lineThrough (H : Hom p K φ) (hf : i_IsField p = true) {a b : P2} {x1 y1 x2 y2 : K} (h1 : Vl p φ a.1 x1) (h2 : Vl p φ a.2 y1) (h3 : Vl p φ b.1 x2) (h4 : Vl p φ b.2 y2) (hn : x1 ≠ x2 ∨ y1 ≠ y2) :
    Ln p φ (i_lineThrough p a b) (y2 - y1) (x1 - x2) (x2 * y1 - x1 * y2) := by
  have hp := i_IsField_ok hf
  have d1 := vl_less1 H hf h3 h1
  have d2 := vl_less2 H hf h4 h2
  unfold i_lineThrough i_through
  have w1 : Rw φ (wrap64 (0 - (i_less p b a).1)) (-(x2 - x1)) 30 := Rw.neg0 H (Vl.rw hp d1) (by decide)
  have w2 : Rw φ (wrap64 (0 - wrap64 (wrap64 ((i_less p b a).2 * a.1) + wrap64 (wrap64 (0 - (i_less p b a).1) * a.2)))) (-((y2 - y1) * x1 + -(x2 - x1) * y1)) (30 * 30 + 30 * 30) := by (repeat' (first | assumption | exact Vl.rw hp (by assumption) | exact Rw.lit _ (by decide) | exact Rw.nlit _ (by decide) | with_reducible apply Vl.rest H hp | with_reducible apply Vl.smod H hp | with_reducible apply Vl.div H hf | with_reducible apply Vl.inv H hf | with_reducible apply Vl.sinvV H hf | with_reducible apply Vl.sinvR H hf | with_reducible apply Rw.tmod H hp | with_reducible apply Rw.mul H | with_reducible apply Rw.neg0 H | with_reducible apply Rw.sub H | with_reducible apply Rw.add H | with_reducible apply Vl.rw hp | decide))
  refine Ln.scale 1 H.one_ne (by grind) (by grind) (by grind) (ln_make H hf (Vl.rw hp d2) w1 w2 ?_)
  grind
theorem ln_sThrough (H : Hom p K φ) (hf : i_IsField p = true) {a b : P2} {x1 y1 x2 y2 : K} (h1 : Vl p φ a.1 x1) (h2 : Vl p φ a.2 y1) (h3 : Vl p φ b.1 x2) (h4 : Vl p φ b.2 y2) (hn : x1 ≠ x2 ∨ y1 ≠ y2) :
    Ln p φ (s_l01Through p a b) (y2 - y1) (x1 - x2) (x2 * y1 - x1 * y2) := by
  have hp := i_IsField_ok hf
  unfold s_l01Through
  have w1 : Rw φ (wrap64 (a.2 - b.2)) (y1 - y2) (30 + 30) := by (repeat' (first | assumption | exact Vl.rw hp (by assumption) | exact Rw.lit _ (by decide) | exact Rw.nlit _ (by decide) | with_reducible apply Vl.rest H hp | with_reducible apply Vl.smod H hp | with_reducible apply Vl.div H hf | with_reducible apply Vl.inv H hf | with_reducible apply Vl.sinvV H hf | with_reducible apply Vl.sinvR H hf | with_reducible apply Rw.tmod H hp | with_reducible apply Rw.mul H | with_reducible apply Rw.neg0 H | with_reducible apply Rw.sub H | with_reducible apply Rw.add H | with_reducible apply Vl.rw hp | decide))
  have w2 : Rw φ (wrap64 (b.1 - a.1)) (x2 - x1) (30 + 30) := by (repeat' (first | assumption | exact Vl.rw hp (by assumption) | exact Rw.lit _ (by decide) | exact Rw.nlit _ (by decide) | with_reducible apply Vl.rest H hp | with_reducible apply Vl.smod H hp | with_reducible apply Vl.div H hf | with_reducible apply Vl.inv H hf | with_reducible apply Vl.sinvV H hf | with_reducible apply Vl.sinvR H hf | with_reducible apply Rw.tmod H hp | with_reducible apply Rw.mul H | with_reducible apply Rw.neg0 H | with_reducible apply Rw.sub H | with_reducible apply Rw.add H | with_reducible apply Vl.rw hp | decide))
  have w3 : Rw φ (wrap64 (wrap64 (a.1 * b.2) - wrap64 (b.1 * a.2))) (x1 * y2 - x2 * y1) (30 * 30 + 30 * 30) := by (repeat' (first | assumption | exact Vl.rw hp (by assumption) | exact Rw.lit _ (by decide) | exact Rw.nlit _ (by decide) | with_reducible apply Vl.rest H hp | with_reducible apply Vl.smod H hp | with_reducible apply Vl.div H hf | with_reducible apply Vl.inv H hf | with_reducible apply Vl.sinvV H hf | with_reducible apply Vl.sinvR H hf | with_reducible apply Rw.tmod H hp | with_reducible apply Rw.mul H | with_reducible apply Rw.neg0 H | with_reducible apply Rw.sub H | with_reducible apply Rw.add H | with_reducible apply Vl.rw hp | decide))
  refine Ln.scale (-1) (by have := H.one_ne; grind) (by grind) (by grind) (by grind) (ln_normal H hf w1 w2 w3 (by decide) (by decide) (by decide) ?_)
  grind
theorem ne_of {a b : P2} {x1 y1 x2 y2 : K} (H : Hom p K φ) (h1 : Vl p φ a.1 x1) (h2 : Vl p φ a.2 y1) (h3 : Vl p φ b.1 x2) (h4 : Vl p φ b.2 y2) (h : a ≠ b) : x1 ≠ x2 ∨ y1 ≠ y2 := by
  by_cases e1 : x1 = x2
  · refine Or.inr fun e2 => h (pair_eq ?_ ?_)
    · exact (Vl.eq_iff H h1 h3).2 e1
    · exact (Vl.eq_iff H h2 h4).2 e2
  · exact Or.inl e1
end

end Go.Proofs.YtoblkbpejfojjaaGreatDoor
