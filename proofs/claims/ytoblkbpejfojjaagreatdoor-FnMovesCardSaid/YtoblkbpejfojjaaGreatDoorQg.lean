import Derived.Test.YtoblkbpejfojjaaGreatDoorQf
import Derived.Test.YtoblkbpejfojjaaGreatDoorFc
set_option linter.unusedSimpArgs false
set_option linter.unusedVariables false
namespace Go.Proofs.YtoblkbpejfojjaaGreatDoor
open Go.RowKit
/-! Points, lines and products in the field. -/
def isC (c : Int) : Prop := c = 0 ∨ c = 1 ∨ c = 2
theorem isC_of {c : Int} (h : i_isColour c = true) : isC c := by
  unfold i_isColour at h; unfold isC; simp at h; omega
theorem isPoint_num {p : Int} {a : P2} (h : i_isPoint p a = true) : (0 ≤ a.1 ∧ a.1 < p) ∧ (0 ≤ a.2 ∧ a.2 < p) := by
  unfold i_isPoint at h
  simpa [i_areNumbers, isNumber_iff] using h
theorem isLine_num {p : Int} {l : P3} (h : i_isLine p l = true) : ((0 ≤ l.1 ∧ l.1 < p) ∧ (0 ≤ l.2.1 ∧ l.2.1 < p) ∧ (0 ≤ l.2.2 ∧ l.2.2 < p)) ∧ (l.1 = 1 ∨ l.1 = 0 ∧ l.2.1 = 1) := by
  unfold i_isLine at h
  simp [i_areNumbers, isNumber_iff] at h
  refine ⟨h.1, ?_⟩
  have h2 := h.2
  omega
section
variable {p : Int} {K : Type} [Lean.Grind.Field K] {φ : Int → K}
/-- The colours' products. -/
def prodK (c : Int) (x1 y1 x2 y2 : K) : K := if c = 0 then x1 * x2 + y1 * y2 else if c = 1 then x1 * x2 - y1 * y2 else x1 * y2 + y1 * x2
/-- The numbers by which a product with x, y is made. -/
def frU (c : Int) (x y : K) : K := if c = 2 then y else x
def frV (c : Int) (x y : K) : K := if c = 0 then y else if c = 1 then -y else x
theorem prodK_fr {c : Int} (hc : isC c) (x1 y1 x2 y2 : K) : prodK c x1 y1 x2 y2 = frU c x1 y1 * x2 + frV c x1 y1 * y2 := by
  rcases hc with rfl | rfl | rfl <;> simp [prodK, frU, frV] <;> grind
theorem vl_product (H : Hom p K φ) (hf : i_IsField p = true) {c : Int} (hc : isC c) {a b : P2} {x1 y1 x2 y2 : K} (h1 : Vl p φ a.1 x1) (h2 : Vl p φ a.2 y1) (h3 : Vl p φ b.1 x2) (h4 : Vl p φ b.2 y2) :
    Vl p φ (i_product p c a b) (prodK c x1 y1 x2 y2) := by
  have hp := i_IsField_ok hf
  rcases hc with rfl | rfl | rfl
  · show Vl p φ (i_rest p (wrap64 (wrap64 (a.1 * b.1) + wrap64 (a.2 * b.2)))) (x1 * x2 + y1 * y2)
    (repeat' (first | assumption | exact Vl.rw hp (by assumption) | exact Rw.lit _ (by decide) | exact Rw.nlit _ (by decide) | with_reducible apply Vl.rest H hp | with_reducible apply Vl.smod H hp | with_reducible apply Vl.div H hf | with_reducible apply Vl.inv H hf | with_reducible apply Vl.sinvV H hf | with_reducible apply Vl.sinvR H hf | with_reducible apply Rw.tmod H hp | with_reducible apply Rw.mul H | with_reducible apply Rw.neg0 H | with_reducible apply Rw.sub H | with_reducible apply Rw.add H | with_reducible apply Vl.rw hp | decide))
  · show Vl p φ (i_rest p (wrap64 (wrap64 (a.1 * b.1) - wrap64 (a.2 * b.2)))) (x1 * x2 - y1 * y2)
    (repeat' (first | assumption | exact Vl.rw hp (by assumption) | exact Rw.lit _ (by decide) | exact Rw.nlit _ (by decide) | with_reducible apply Vl.rest H hp | with_reducible apply Vl.smod H hp | with_reducible apply Vl.div H hf | with_reducible apply Vl.inv H hf | with_reducible apply Vl.sinvV H hf | with_reducible apply Vl.sinvR H hf | with_reducible apply Rw.tmod H hp | with_reducible apply Rw.mul H | with_reducible apply Rw.neg0 H | with_reducible apply Rw.sub H | with_reducible apply Rw.add H | with_reducible apply Vl.rw hp | decide))
  · show Vl p φ (i_rest p (wrap64 (wrap64 (a.1 * b.2) + wrap64 (a.2 * b.1)))) (x1 * y2 + y1 * x2)
    (repeat' (first | assumption | exact Vl.rw hp (by assumption) | exact Rw.lit _ (by decide) | exact Rw.nlit _ (by decide) | with_reducible apply Vl.rest H hp | with_reducible apply Vl.smod H hp | with_reducible apply Vl.div H hf | with_reducible apply Vl.inv H hf | with_reducible apply Vl.sinvV H hf | with_reducible apply Vl.sinvR H hf | with_reducible apply Rw.tmod H hp | with_reducible apply Rw.mul H | with_reducible apply Rw.neg0 H | with_reducible apply Rw.sub H | with_reducible apply Rw.add H | with_reducible apply Vl.rw hp | decide))
theorem vl_less1 (H : Hom p K φ) (hf : i_IsField p = true) {a b : P2} {x1 x2 : K} (h1 : Vl p φ a.1 x1) (h3 : Vl p φ b.1 x2) : Vl p φ (i_less p a b).1 (x1 - x2) := by
  have hp := i_IsField_ok hf
  unfold i_less
  dsimp only
  (repeat' (first | assumption | exact Vl.rw hp (by assumption) | exact Rw.lit _ (by decide) | exact Rw.nlit _ (by decide) | with_reducible apply Vl.rest H hp | with_reducible apply Vl.smod H hp | with_reducible apply Vl.div H hf | with_reducible apply Vl.inv H hf | with_reducible apply Vl.sinvV H hf | with_reducible apply Vl.sinvR H hf | with_reducible apply Rw.tmod H hp | with_reducible apply Rw.mul H | with_reducible apply Rw.neg0 H | with_reducible apply Rw.sub H | with_reducible apply Rw.add H | with_reducible apply Vl.rw hp | decide))
theorem vl_less2 (H : Hom p K φ) (hf : i_IsField p = true) {a b : P2} {x1 x2 : K} (h1 : Vl p φ a.2 x1) (h3 : Vl p φ b.2 x2) : Vl p φ (i_less p a b).2 (x1 - x2) := by
  have hp := i_IsField_ok hf
  unfold i_less
  dsimp only
  (repeat' (first | assumption | exact Vl.rw hp (by assumption) | exact Rw.lit _ (by decide) | exact Rw.nlit _ (by decide) | with_reducible apply Vl.rest H hp | with_reducible apply Vl.smod H hp | with_reducible apply Vl.div H hf | with_reducible apply Vl.inv H hf | with_reducible apply Vl.sinvV H hf | with_reducible apply Vl.sinvR H hf | with_reducible apply Rw.tmod H hp | with_reducible apply Rw.mul H | with_reducible apply Rw.neg0 H | with_reducible apply Rw.sub H | with_reducible apply Rw.add H | with_reducible apply Vl.rw hp | decide))
theorem vl_quadrance (H : Hom p K φ) (hf : i_IsField p = true) {c : Int} (hc : isC c) {a b : P2} {x1 y1 x2 y2 : K} (h1 : Vl p φ a.1 x1) (h2 : Vl p φ a.2 y1) (h3 : Vl p φ b.1 x2) (h4 : Vl p φ b.2 y2) :
    Vl p φ (i_quadrance p c a b) (prodK c (x1 - x2) (y1 - y2) (x1 - x2) (y1 - y2)) :=
  vl_product H hf hc (vl_less1 H hf h1 h3) (vl_less2 H hf h2 h4) (vl_less1 H hf h1 h3) (vl_less2 H hf h2 h4)
theorem prodK_neg {c : Int} (hc : isC c) (x1 y1 x2 y2 : K) : prodK c (x1 - x2) (y1 - y2) (x1 - x2) (y1 - y2) = prodK c (x2 - x1) (y2 - y1) (x2 - x1) (y2 - y1) := by
  rcases hc with rfl | rfl | rfl <;> simp [prodK] <;> grind
/-- A line in normal form with numbers that a, b, c make. -/
def Ln (p : Int) (φ : Int → K) (l : P3) (a b c : K) : Prop := ∃ t : K, t ≠ 0 ∧ Vl p φ l.1 (a * t) ∧ Vl p φ l.2.1 (b * t) ∧ Vl p φ l.2.2 (c * t) ∧ (l.1 = 1 ∨ l.1 = 0 ∧ l.2.1 = 1)
theorem Ln.of (H : Hom p K φ) {l : P3} (h : i_isLine p l = true) : Ln p φ l (φ l.1) (φ l.2.1) (φ l.2.2) := by
  obtain ⟨⟨h0, h1, h2⟩, h3⟩ := isLine_num h
  refine ⟨1, H.one_ne, ?_, ?_, ?_, h3⟩
  · exact (Vl.of h0).conv (by grind)
  · exact (Vl.of h1).conv (by grind)
  · exact (Vl.of h2).conv (by grind)
theorem Ln.scale {l : P3} {a b c : K} (s : K) (hs : s ≠ 0) {a' b' c' : K} (ea : a = s * a') (eb : b = s * b') (ec : c = s * c') (h : Ln p φ l a b c) : Ln p φ l a' b' c' := by
  obtain ⟨t, ht, h1, h2, h3, h4⟩ := h
  exact ⟨s * t, by grind, h1.conv (by grind), h2.conv (by grind), h3.conv (by grind), h4⟩
theorem Ln.inj (H : Hom p K φ) {l m : P3} {a b c : K} (h1 : Ln p φ l a b c) (h2 : Ln p φ m a b c) : l = m := by
  obtain ⟨t, ht, l0, l1, l2, lk⟩ := h1
  obtain ⟨s, hs, m0, m1, m2, mk⟩ := h2
  have e : t = s := by
    have z0 := Vl.zero_iff H l0; have z0' := Vl.zero_iff H m0
    rcases lk with e1 | ⟨e1, e2⟩ <;> rcases mk with f1 | ⟨f1, f2⟩
    · have v1 := l0.2; have v2 := m0.2
      rw [e1, H.one] at v1; rw [f1, H.one] at v2
      grind
    · have v1 := l0.2
      rw [e1, H.one] at v1
      have := z0'.1 f1
      grind
    · have v2 := m0.2
      rw [f1, H.one] at v2
      have := z0.1 e1
      grind
    · have v1 := l1.2; have v2 := m1.2
      rw [e2, H.one] at v1; rw [f2, H.one] at v2
      grind
  subst e
  obtain ⟨l0', l1', l2'⟩ := l
  obtain ⟨m0', m1', m2'⟩ := m
  have e0 := Vl.inj H l0 m0; have e1 := Vl.inj H l1 m1; have e2 := Vl.inj H l2 m2
  dsimp only at e0 e1 e2
  rw [e0, e1, e2]
theorem ln_normal (H : Hom p K φ) (hf : i_IsField p = true) {a b c n1 n2 n3 : Int} {x y z : K} (h1 : Rw φ a x n1) (h2 : Rw φ b y n2) (h3 : Rw φ c z n3) (b1 : n1 * 30 ≤ 1000000000000) (b2 : n2 * 30 ≤ 1000000000000) (b3 : n3 * 30 ≤ 1000000000000) (hn : x ≠ 0 ∨ y ≠ 0) : Ln p φ (s_l01Normal p a b c) x y z := by
  have hp := i_IsField_ok hf
  have va : Vl p φ (s_l01Mod a p) x := Vl.smod H hp h1
  have vb : Vl p φ (s_l01Mod b p) y := Vl.smod H hp h2
  unfold s_l01Normal
  cases e : (s_l01Mod a p == 0) with
  | true =>
    rw [if_pos rfl]
    have hx : x = 0 := (Vl.zero_iff H va).1 (by simpa using e)
    have hy : y ≠ 0 := by grind
    have vi := Vl.sinvV H hf vb
    have w1 : Vl p φ (s_l01Mod (wrap64 (a * s_l01Inverse (s_l01Mod b p) p)) p) (x * y⁻¹) := Vl.smod H hp (Rw.mul H h1 (Vl.rw hp vi) b1)
    have w2 : Vl p φ (s_l01Mod (wrap64 (b * s_l01Inverse (s_l01Mod b p) p)) p) (y * y⁻¹) := Vl.smod H hp (Rw.mul H h2 (Vl.rw hp vi) b2)
    have w3 : Vl p φ (s_l01Mod (wrap64 (c * s_l01Inverse (s_l01Mod b p) p)) p) (z * y⁻¹) := Vl.smod H hp (Rw.mul H h3 (Vl.rw hp vi) b3)
    refine ⟨y⁻¹, by grind, w1, w2, w3, Or.inr ⟨?_, ?_⟩⟩
    · exact Vl.inj H (w1.conv (show x * y⁻¹ = 0 by grind)) (Vl.zero H hp)
    · exact Vl.inj H (w2.conv (show y * y⁻¹ = 1 by grind)) (Vl.one H hf)
  | false =>
    rw [if_neg (by simp)]
    have hx : x ≠ 0 := by
      intro h0
      have := (Vl.zero_iff H va).2 h0
      rw [this] at e
      cases e
    have vi := Vl.sinvV H hf va
    have w1 : Vl p φ (s_l01Mod (wrap64 (a * s_l01Inverse (s_l01Mod a p) p)) p) (x * x⁻¹) := Vl.smod H hp (Rw.mul H h1 (Vl.rw hp vi) b1)
    have w2 : Vl p φ (s_l01Mod (wrap64 (b * s_l01Inverse (s_l01Mod a p) p)) p) (y * x⁻¹) := Vl.smod H hp (Rw.mul H h2 (Vl.rw hp vi) b2)
    have w3 : Vl p φ (s_l01Mod (wrap64 (c * s_l01Inverse (s_l01Mod a p) p)) p) (z * x⁻¹) := Vl.smod H hp (Rw.mul H h3 (Vl.rw hp vi) b3)
    refine ⟨x⁻¹, by grind, w1, w2, w3, Or.inl ?_⟩
    exact Vl.inj H (w1.conv (show x * x⁻¹ = 1 by grind)) (Vl.one H hf)
theorem ln_make (H : Hom p K φ) (hf : i_IsField p = true) {a b c n1 n2 n3 : Int} {x y z : K} (h1 : Rw φ a x n1) (h2 : Rw φ b y n2) (h3 : Rw φ c z n3) (hn : x ≠ 0 ∨ y ≠ 0) : Ln p φ (i_makeLine p a b c) x y z := by
  have hp := i_IsField_ok hf
  have va : Vl p φ (i_rest p a) x := Vl.rest H hp h1
  have vb : Vl p φ (i_rest p b) y := Vl.rest H hp h2
  have vc : Vl p φ (i_rest p c) z := Vl.rest H hp h3
  unfold i_makeLine
  cases e : (i_rest p a == 0) with
  | true =>
    rw [if_pos rfl]
    have hx : x = 0 := (Vl.zero_iff H va).1 (by simpa using e)
    have hy : y ≠ 0 := by grind
    have w1 : Vl p φ (i_divide p (i_rest p a) (i_rest p b)) (x * y⁻¹) := Vl.div H hf (Vl.rw hp va) vb (by decide)
    have w2 : Vl p φ (i_divide p (i_rest p b) (i_rest p b)) (y * y⁻¹) := Vl.div H hf (Vl.rw hp vb) vb (by decide)
    have w3 : Vl p φ (i_divide p (i_rest p c) (i_rest p b)) (z * y⁻¹) := Vl.div H hf (Vl.rw hp vc) vb (by decide)
    refine ⟨y⁻¹, by grind, w1, w2, w3, Or.inr ⟨?_, ?_⟩⟩
    · exact Vl.inj H (w1.conv (show x * y⁻¹ = 0 by grind)) (Vl.zero H hp)
    · exact Vl.inj H (w2.conv (show y * y⁻¹ = 1 by grind)) (Vl.one H hf)
  | false =>
    rw [if_neg (by simp)]
    have hx : x ≠ 0 := by
      intro h0
      have := (Vl.zero_iff H va).2 h0
      rw [this] at e
      cases e
    have w1 : Vl p φ (i_divide p (i_rest p a) (i_rest p a)) (x * x⁻¹) := Vl.div H hf (Vl.rw hp va) va (by decide)
    have w2 : Vl p φ (i_divide p (i_rest p b) (i_rest p a)) (y * x⁻¹) := Vl.div H hf (Vl.rw hp vb) va (by decide)
    have w3 : Vl p φ (i_divide p (i_rest p c) (i_rest p a)) (z * x⁻¹) := Vl.div H hf (Vl.rw hp vc) va (by decide)
    refine ⟨x⁻¹, by grind, w1, w2, w3, Or.inl ?_⟩
    exact Vl.inj H (w1.conv (show x * x⁻¹ = 1 by grind)) (Vl.one H hf)
end

end Go.Proofs.YtoblkbpejfojjaaGreatDoor
