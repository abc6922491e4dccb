import Derived.Test.YtpffcfiojjgnlaaQk
import Derived.Test.YtpffcfiojjgnlaaFf
set_option linter.unusedSimpArgs false
set_option linter.unusedVariables false
namespace Go.Proofs.Ytpffcfiojjgnlaa
open Go.RowKit
/-! Lines of Euler, centroids, points on lines. -/
theorem tmod_iff {x p : Int} : x.tmod p = 0 ↔ x % p = 0 := by
  constructor
  · intro h
    exact Int.emod_eq_zero_of_dvd (Int.dvd_of_tmod_eq_zero h)
  · intro h
    obtain ⟨k, rfl⟩ := Int.dvd_of_emod_eq_zero h
    exact Int.mul_tmod_right p k
section
variable {p : Int} {K : Type} [Lean.Grind.Field K] {φ : Int → K}
theorem tmod_zero (H : Hom p K φ) {x : Int} : x.tmod p = 0 ↔ φ x = 0 := by
  rw [tmod_iff, ← H.zero, H.iff]
  simp
theorem on_iff (H : Hom p K φ) (hf : i_IsField p = true) {a : P2} {l : P3} {x y u v w : K} (h1 : Vl p φ a.1 x) (h2 : Vl p φ a.2 y) (h3 : Vl p φ l.1 u) (h4 : Vl p φ l.2.1 v) (h5 : Vl p φ l.2.2 w) : i_isOn p a l = true ↔ u * x + v * y + w = 0 := by
  have hp := i_IsField_ok hf
  unfold i_isOn
  rw [beq_iff_eq, tmod_zero H]
  have r := Rw.add H (Rw.add H (Rw.mul H (Vl.rw hp h3) (Vl.rw hp h1) (by decide)) (Rw.mul H (Vl.rw hp h4) (Vl.rw hp h2) (by decide)) (by decide)) (Vl.rw hp h5) (by decide)
  rw [r.2]
theorem Ln.line (hf : i_IsField p = true) {l : P3} {a b c : K} (h : Ln p φ l a b c) : i_isLine p l = true := by
  obtain ⟨t, _, h0, h1, h2, h3⟩ := h
  unfold i_isLine i_areNumbers
  simp [isNumber_iff.2 h0.1, isNumber_iff.2 h1.1, isNumber_iff.2 h2.1]
  omega
theorem IsOnLine_of (H : Hom p K φ) (hf : i_IsField p = true) {a : P2} {l : P3} {x y u v w : K} (h1 : Vl p φ a.1 x) (h2 : Vl p φ a.2 y) (hl : Ln p φ l u v w) (h : u * x + v * y + w = 0) : i_IsOnLine p a l = (true, 0) := by
  have ha := isPoint_of h1 h2
  have hl' := Ln.line hf hl
  obtain ⟨t, ht, h3, h4, h5, _⟩ := hl
  have ho := (on_iff H hf h1 h2 h3 h4 h5).2 (by grind)
  have e : i_asked p true true = 0 := by unfold i_asked; rw [hf]; rfl
  unfold i_IsOnLine i_IsOnLine_c1
  rw [ha, hl', if_pos rfl, e, ho]
  rfl
/-- The orthocentre and twice the circumcentre make the sum of the points. -/
theorem euler_id {c : Int} (hc : isC c) {x1 y1 x2 y2 x3 y3 X Y U V : K} (hn : Tri x1 y1 x2 y2 x3 y3) (o1 : prodK c (x2 - x3) (y2 - y3) (X - x1) (Y - y1) = 0) (o2 : prodK c (x1 - x3) (y1 - y3) (X - x2) (Y - y2) = 0)
    (c1 : prodK c (U - x1) (V - y1) (U - x1) (V - y1) = prodK c (U - x2) (V - y2) (U - x2) (V - y2)) (c2 : prodK c (U - x1) (V - y1) (U - x1) (V - y1) = prodK c (U - x3) (V - y3) (U - x3) (V - y3)) : X + 2 * U = x1 + x2 + x3 ∧ Y + 2 * V = y1 + y2 + y3 := by
  unfold Tri at hn
  have key : ∀ R S : K, prodK c (x2 - x3) (y2 - y3) R S = 0 → prodK c (x1 - x3) (y1 - y3) R S = 0 → R = 0 ∧ S = 0 := by
    intro R S e1 e2
    clear o1 o2 c1 c2
    rcases hc with rfl | rfl | rfl <;> simp [prodK] at e1 e2 <;> constructor <;> grind
  obtain ⟨k1, k2⟩ := key (X + 2 * U - (x1 + x2 + x3)) (Y + 2 * V - (y1 + y2 + y3)) (by
    clear hn key
    rcases hc with rfl | rfl | rfl <;> simp [prodK] at o1 o2 c1 c2 ⊢ <;> grind) (by
    clear hn key
    rcases hc with rfl | rfl | rfl <;> simp [prodK] at o1 o2 c1 c2 ⊢ <;> grind)
  exact ⟨by grind, by grind⟩
/-- The three orthocentres make the sum of the points. -/
theorem omega_id {x1 y1 x2 y2 x3 y3 X0 Y0 X1 Y1 X2 Y2 : K} (hn : Tri x1 y1 x2 y2 x3 y3) (a1 : prodK 0 (x2 - x3) (y2 - y3) (X0 - x1) (Y0 - y1) = 0) (a2 : prodK 0 (x1 - x3) (y1 - y3) (X0 - x2) (Y0 - y2) = 0)
    (b1 : prodK 1 (x2 - x3) (y2 - y3) (X1 - x1) (Y1 - y1) = 0) (b2 : prodK 1 (x1 - x3) (y1 - y3) (X1 - x2) (Y1 - y2) = 0) (c1 : prodK 2 (x2 - x3) (y2 - y3) (X2 - x1) (Y2 - y1) = 0) (c2 : prodK 2 (x1 - x3) (y1 - y3) (X2 - x2) (Y2 - y2) = 0) :
    X0 + X1 + X2 = x1 + x2 + x3 ∧ Y0 + Y1 + Y2 = y1 + y2 + y3 := by
  unfold Tri at hn
  simp [prodK] at a1 a2 b1 b2 c1 c2
  have e1 : X0 * ((x2 - x3) * (y1 - y3) - (y2 - y3) * (x1 - x3)) = ((x2 - x3) * x1 + (y2 - y3) * y1) * (y1 - y3) - ((x1 - x3) * x2 + (y1 - y3) * y2) * (y2 - y3) := by grind
  have e2 : X1 * ((x2 - x3) * (y1 - y3) - (y2 - y3) * (x1 - x3)) = ((x2 - x3) * x1 - (y2 - y3) * y1) * (y1 - y3) - ((x1 - x3) * x2 - (y1 - y3) * y2) * (y2 - y3) := by grind
  have e3 : X2 * ((x2 - x3) * (y1 - y3) - (y2 - y3) * (x1 - x3)) = ((y1 - y3) * x2 + (x1 - x3) * y2) * (x2 - x3) - ((y2 - y3) * x1 + (x2 - x3) * y1) * (x1 - x3) := by grind
  have f1 : Y0 * ((x2 - x3) * (y1 - y3) - (y2 - y3) * (x1 - x3)) = (x2 - x3) * ((x1 - x3) * x2 + (y1 - y3) * y2) - (x1 - x3) * ((x2 - x3) * x1 + (y2 - y3) * y1) := by grind
  have f2 : Y1 * ((x2 - x3) * (y1 - y3) - (y2 - y3) * (x1 - x3)) = (x1 - x3) * ((x2 - x3) * x1 - (y2 - y3) * y1) - (x2 - x3) * ((x1 - x3) * x2 - (y1 - y3) * y2) := by grind
  have f3 : Y2 * ((x2 - x3) * (y1 - y3) - (y2 - y3) * (x1 - x3)) = (y1 - y3) * ((y2 - y3) * x1 + (x2 - x3) * y1) - (y2 - y3) * ((y1 - y3) * x2 + (x1 - x3) * y2) := by grind
  have hd : (x2 - x3) * (y1 - y3) - (y2 - y3) * (x1 - x3) ≠ 0 := by
    intro e
    exact hn (by grind)
  clear a1 a2 b1 b2 c1 c2 hn
  generalize hD : (x2 - x3) * (y1 - y3) - (y2 - y3) * (x1 - x3) = D at *
  have g1 : (X0 + X1 + X2 - (x1 + x2 + x3)) * D = 0 := by
    have : (X0 + X1 + X2 - (x1 + x2 + x3)) * D = X0 * D + X1 * D + X2 * D - (x1 + x2 + x3) * D := by grind
    rw [this, e1, e2, e3, ← hD]
    grind
  have g2 : (Y0 + Y1 + Y2 - (y1 + y2 + y3)) * D = 0 := by
    have : (Y0 + Y1 + Y2 - (y1 + y2 + y3)) * D = Y0 * D + Y1 * D + Y2 * D - (y1 + y2 + y3) * D := by grind
    rw [this, f1, f2, f3, ← hD]
    grind
  clear e1 e2 e3 f1 f2 f3 hD
  exact ⟨by grind, by grind⟩
theorem Hom.three_ne (H : Hom p K φ) (h : i_IsField p = true) (h3 : p ≠ 3) : (3 : K) ≠ 0 := by
  rw [← H.three, ← H.zero]
  intro e
  have := (H.iff _ _).1 e
  have hm := field_mem h
  simp at hm
  rw [Int.emod_eq_of_lt (by omega) (by omega), Int.emod_eq_of_lt (by omega) (by omega)] at this
  omega
theorem centroid_of (H : Hom p K φ) (hf : i_IsField p = true) (h3 : p ≠ 3) {a b c : P2} {x1 y1 x2 y2 x3 y3 : K} (a1 : Vl p φ a.1 x1) (a2 : Vl p φ a.2 y1) (b1 : Vl p φ b.1 x2) (b2 : Vl p φ b.2 y2) (c1 : Vl p φ c.1 x3) (c2 : Vl p φ c.2 y3) (ht : i_triangle p 0 a b c = 0) :
    (i_CentroidOf p a b c).2 = 0 ∧ Vl p φ (i_CentroidOf p a b c).1.1 ((x1 + x2 + x3) * 3⁻¹) ∧ Vl p φ (i_CentroidOf p a b c).1.2 ((y1 + y2 + y3) * 3⁻¹) := by
  have hp := i_IsField_ok hf
  have hm := field_mem hf
  have three : Vl p φ (3 : Int) 3 := ⟨by simp at hm; omega, H.three⟩
  unfold i_CentroidOf
  rw [ht, if_neg (by decide), if_neg (by simpa using h3)]
  refine ⟨rfl, ?_, ?_⟩
  · dsimp only
    (repeat' (first | assumption | exact Vl.rw hp (by assumption) | exact Rw.lit _ (by decide) | exact Rw.nlit _ (by decide) | with_reducible apply Vl.rest H hp | with_reducible apply Vl.smod H hp | with_reducible apply Vl.div H hf | with_reducible apply Vl.inv H hf | with_reducible apply Vl.sinvV H hf | with_reducible apply Vl.sinvR H hf | with_reducible apply Rw.tmod H hp | with_reducible apply Rw.mul H | with_reducible apply Rw.neg0 H | with_reducible apply Rw.sub H | with_reducible apply Rw.add H | with_reducible apply Vl.rw hp | decide))
  · dsimp only
    (repeat' (first | assumption | exact Vl.rw hp (by assumption) | exact Rw.lit _ (by decide) | exact Rw.nlit _ (by decide) | with_reducible apply Vl.rest H hp | with_reducible apply Vl.smod H hp | with_reducible apply Vl.div H hf | with_reducible apply Vl.inv H hf | with_reducible apply Vl.sinvV H hf | with_reducible apply Vl.sinvR H hf | with_reducible apply Rw.tmod H hp | with_reducible apply Rw.mul H | with_reducible apply Rw.neg0 H | with_reducible apply Rw.sub H | with_reducible apply Rw.add H | with_reducible apply Vl.rw hp | decide))
end
theorem tri_any {p k j : Int} {a b d : P2} (hk : isC k) (hj : isC j) : i_triangle p k a b d = i_triangle p j a b d := by
  have e1 : i_isColour k = true := by rcases hk with rfl | rfl | rfl <;> rfl
  have e2 : i_isColour j = true := by rcases hj with rfl | rfl | rfl <;> rfl
  unfold i_triangle i_triangle_c1
  rw [e1, e2]
/-- The centroid is on each line of Euler. -/
theorem euler_on {p k : Int} {a b c : P2} (hk : isC k) (h3 : p ≠ 3) (h : (i_EulerLineOf p k a b c).2 = 0) : i_IsOnLine p (i_CentroidOf p a b c).1 (i_EulerLineOf p k a b c).1 = (true, 0) := by
  unfold i_EulerLineOf at h ⊢
  by_cases ht : i_triangle p k a b c = 0
  · rw [ht, if_neg (by decide)] at h ⊢
    by_cases e : (i_orthocentre p k a b c == i_circumcentre p k a b c) = true
    · rw [if_pos e] at h; simp at h
    · rw [if_neg e]
      have ht0 : i_triangle p 0 a b c = 0 := by rw [← tri_any hk isC0]; exact ht
      rw [ortho_eq ht0 hk, circum_eq ht0 hk] at e ⊢
      obtain ⟨hf, _, ha, hb, hc, hn⟩ := tri_zero ht
      obtain ⟨K, inst, φ, H⟩ := hom_of hf
      have a1 := Vl.of (φ := φ) (isPoint_num ha).1; have a2 := Vl.of (φ := φ) (isPoint_num ha).2
      have b1 := Vl.of (φ := φ) (isPoint_num hb).1; have b2 := Vl.of (φ := φ) (isPoint_num hb).2
      have c1 := Vl.of (φ := φ) (isPoint_num hc).1; have c2 := Vl.of (φ := φ) (isPoint_num hc).2
      have T := tri_of H ht
      obtain ⟨X, Y, v1, v2, o1, o2⟩ := vl_orthocentre H hf hk a1 a2 b1 b2 c1 c2 T
      obtain ⟨U, V, w1, w2, q1, q2⟩ := (circumcentre_same H hf hk a1 a2 b1 b2 c1 c2 T).2
      obtain ⟨e1, e2⟩ := euler_id hk T o1 o2 q1 q2
      obtain ⟨_, g1, g2⟩ := centroid_of H hf h3 a1 a2 b1 b2 c1 c2 ht0
      have hne := ne_of H v1 v2 w1 w2 (by simpa using e)
      have hl := ln_lineThrough H hf v1 v2 w1 w2 hne
      refine IsOnLine_of H hf g1 g2 hl ?_
      have t3 := H.three_ne hf h3
      have ti : (3 : K) * 3⁻¹ = 1 := Lean.Grind.Field.mul_inv_cancel t3
      rw [← e1, ← e2]
      generalize (3 : K)⁻¹ = i at ti
      clear o1 o2 q1 q2 e1 e2 g1 g2 hl hne T
      grind
  · rw [if_pos (by simpa using ht)] at h
    exact absurd h ht

end Go.Proofs.Ytpffcfiojjgnlaa
