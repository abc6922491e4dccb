import Derived.Test.YtpffcfiojjgnlaaQh
set_option linter.unusedSimpArgs false
set_option linter.unusedVariables false
namespace Go.Proofs.Ytpffcfiojjgnlaa
open Go.RowKit
/-! Codes of points, lines, triangles; altitudes, orthocentres, circumcentres. -/
theorem point_eq {p : Int} (hp : Pr p) (a : P2) : s_l01Point p a = i_isPoint p a := by
  unfold s_l01Point i_isPoint
  simp [in_eq hp, i_areNumbers]
theorem line_is {p : Int} (hp : Pr p) (l : P3) : s_l01Line p l = i_isLine p l := by
  unfold s_l01Line i_isLine
  simp only [in_eq hp]
  cases h0 : i_isNumber p l.1 <;> cases h1 : i_isNumber p l.2.1 <;> cases h2 : i_isNumber p l.2.2 <;> simp [i_areNumbers, h0, h1, h2]
theorem pointcode (p : Int) (k : Bool) (l : List P2) : s_l01Code p l = i_asked p k (i_arePoints p l) := by
  unfold s_l01Code i_asked s_l01Field
  cases h : i_IsField p
  · rfl
  · have e : l.all (fun x => s_l01Point p x) = i_arePoints p l := by unfold i_arePoints; congr 1; funext a; exact point_eq (i_IsField_ok h) a
    rw [e]
theorem linecode (p : Int) (k : Bool) (l : P3) : s_l01Lines p [l] = i_asked p k (i_isLine p l) := by
  unfold s_l01Lines i_asked s_l01Field
  cases h : i_IsField p
  · rfl
  · simp [line_is (i_IsField_ok h)]
theorem colour_eq (c : Int) : s_l02Colour c = i_isColour c := by
  unfold s_l02Colour i_isColour s_l01In
  rfl
theorem colourcode (p c : Int) (k : Bool) (n : Nat) (l : List Int) : s_l02Code p c n l = i_asked p k (if i_isColour c = true then i_arePoints p (rows2 n l) else false) := by
  unfold s_l02Code
  rw [pointcode p k, colour_eq]
  unfold i_asked
  cases i_IsField p <;> cases i_isColour c <;> cases i_arePoints p (rows2 n l) <;> rfl
theorem mul_flip (a b : Int) : (0 - a) * b = 0 - a * b := by rw [Int.sub_mul]; omega
theorem area_same (p : Int) (a b c : P2) (h : i_IsField p = true) (ha : i_isPoint p a = true) (hb : i_isPoint p b = true) (hc : i_isPoint p c = true) : s_l01Area p a b c = i_area p a b c := by
  have hp := i_IsField_ok h
  obtain ⟨K, inst, φ, H⟩ := hom_of h
  have a1 := Vl.of (φ := φ) (isPoint_num ha).1; have a2 := Vl.of (φ := φ) (isPoint_num ha).2
  have b1 := Vl.of (φ := φ) (isPoint_num hb).1; have b2 := Vl.of (φ := φ) (isPoint_num hb).2
  have c1 := Vl.of (φ := φ) (isPoint_num hc).1; have c2 := Vl.of (φ := φ) (isPoint_num hc).2
  have hf := h
  have v : Vl p φ (s_l01Area p a b c) ((φ b.1 - φ a.1) * (φ c.2 - φ a.2) - (φ b.2 - φ a.2) * (φ c.1 - φ a.1)) := by
    unfold s_l01Area
    (repeat' (first | assumption | exact Vl.rw hp (by assumption) | exact Rw.lit _ (by decide) | exact Rw.nlit _ (by decide) | with_reducible apply Vl.rest H hp | with_reducible apply Vl.smod H hp | with_reducible apply Vl.div H hf | with_reducible apply Vl.inv H hf | with_reducible apply Vl.sinvV H hf | with_reducible apply Vl.sinvR H hf | with_reducible apply Rw.tmod H hp | with_reducible apply Rw.mul H | with_reducible apply Rw.neg0 H | with_reducible apply Rw.sub H | with_reducible apply Rw.add H | with_reducible apply Vl.rw hp | decide))
  have w : Vl p φ (i_area p a b c) ((φ b.1 - φ a.1) * (φ c.2 - φ a.2) - (φ b.2 - φ a.2) * (φ c.1 - φ a.1)) := by
    have d1 := vl_less1 H hf b1 a1; have d2 := vl_less2 H hf b2 a2; have e1 := vl_less1 H hf c1 a1; have e2 := vl_less2 H hf c2 a2
    unfold i_area
    (repeat' (first | assumption | exact Vl.rw hp (by assumption) | exact Rw.lit _ (by decide) | exact Rw.nlit _ (by decide) | with_reducible apply Vl.rest H hp | with_reducible apply Vl.smod H hp | with_reducible apply Vl.div H hf | with_reducible apply Vl.inv H hf | with_reducible apply Vl.sinvV H hf | with_reducible apply Vl.sinvR H hf | with_reducible apply Rw.tmod H hp | with_reducible apply Rw.mul H | with_reducible apply Rw.neg0 H | with_reducible apply Rw.sub H | with_reducible apply Rw.add H | with_reducible apply Vl.rw hp | decide))
  exact Vl.inj H v w
/-- What three points that are no triangle's vertices in line say in the field. -/
def Tri {K : Type} [Lean.Grind.Field K] (x1 y1 x2 y2 x3 y3 : K) : Prop := (x2 - x1) * (y3 - y1) - (y2 - y1) * (x3 - x1) ≠ 0
section
variable {p : Int} {K : Type} [Lean.Grind.Field K] {φ : Int → K}
theorem vl_area (H : Hom p K φ) (hf : i_IsField p = true) {a b c : P2} {x1 y1 x2 y2 x3 y3 : K} (a1 : Vl p φ a.1 x1) (a2 : Vl p φ a.2 y1) (b1 : Vl p φ b.1 x2) (b2 : Vl p φ b.2 y2) (c1 : Vl p φ c.1 x3) (c2 : Vl p φ c.2 y3) :
    Vl p φ (i_area p a b c) ((x2 - x1) * (y3 - y1) - (y2 - y1) * (x3 - x1)) := by
  have hp := i_IsField_ok hf
  have d1 := vl_less1 H hf b1 a1; have d2 := vl_less2 H hf b2 a2; have e1 := vl_less1 H hf c1 a1; have e2 := vl_less2 H hf c2 a2
  unfold i_area
  (repeat' (first | assumption | exact Vl.rw hp (by assumption) | exact Rw.lit _ (by decide) | exact Rw.nlit _ (by decide) | with_reducible apply Vl.rest H hp | with_reducible apply Vl.smod H hp | with_reducible apply Vl.div H hf | with_reducible apply Vl.inv H hf | with_reducible apply Vl.sinvV H hf | with_reducible apply Vl.sinvR H hf | with_reducible apply Rw.tmod H hp | with_reducible apply Rw.mul H | with_reducible apply Rw.neg0 H | with_reducible apply Rw.sub H | with_reducible apply Rw.add H | with_reducible apply Vl.rw hp | decide))
theorem frU_scale {c : Int} (hc : isC c) (t x y : K) : frU c (x * t) (y * t) = frU c x y * t := by
  rcases hc with rfl | rfl | rfl <;> simp [frU]
theorem frV_scale {c : Int} (hc : isC c) (t x y : K) : frV c (x * t) (y * t) = frV c x y * t := by
  rcases hc with rfl | rfl | rfl <;> simp [frV] <;> grind
/-- The altitude from a on the line through b and c. -/
theorem altitude_same (H : Hom p K φ) (hf : i_IsField p = true) {c : Int} (hc : isC c) {a b d : P2} {x1 y1 x2 y2 x3 y3 : K} (a1 : Vl p φ a.1 x1) (a2 : Vl p φ a.2 y1) (b1 : Vl p φ b.1 x2) (b2 : Vl p φ b.2 y2) (c1 : Vl p φ d.1 x3) (c2 : Vl p φ d.2 y3) (hn : x2 ≠ x3 ∨ y2 ≠ y3) :
    i_altitude p c a b d = s_l04Altitude p c a b d ∧ Ln p φ (s_l04Altitude p c a b d) (frU c (x2 - x3) (y2 - y3)) (frV c (x2 - x3) (y2 - y3)) (-(frU c (x2 - x3) (y2 - y3) * x1 + frV c (x2 - x3) (y2 - y3) * y1)) := by
  have d1 : Vl p φ (s_l01Minus p b d).1 (x2 - x3) := vl_less1 H hf b1 c1
  have d2 : Vl p φ (s_l01Minus p b d).2 (y2 - y3) := vl_less2 H hf b2 c2
  have hs := ln_through H hf hc d1 d2 a1 a2 (by grind)
  obtain ⟨t, ht, l0, l1, l2, lk⟩ := ln_lineThrough H hf b1 b2 c1 c2 hn
  have hi := ln_perpendicular H hf hc l0 l1 a1 a2 (by grind)
  refine ⟨?_, hs⟩
  unfold i_altitude s_l04Altitude
  refine Ln.inj H (hi.scale (-t) (by grind) ?_ ?_ ?_) hs
  · rw [show -((x2 - x3) * t) = (x2 - x3) * (-t) by grind, show (y3 - y2) * t = (y2 - y3) * (-t) by grind, frU_scale hc]; grind
  · rw [show -((x2 - x3) * t) = (x2 - x3) * (-t) by grind, show (y3 - y2) * t = (y2 - y3) * (-t) by grind, frV_scale hc]; grind
  · rw [show -((x2 - x3) * t) = (x2 - x3) * (-t) by grind, show (y3 - y2) * t = (y2 - y3) * (-t) by grind, frU_scale hc, frV_scale hc]; grind
theorem tri_ne {x1 y1 x2 y2 x3 y3 : K} (h : Tri x1 y1 x2 y2 x3 y3) : (x2 ≠ x3 ∨ y2 ≠ y3) ∧ (x1 ≠ x3 ∨ y1 ≠ y3) ∧ (x1 ≠ x2 ∨ y1 ≠ y2) := by
  unfold Tri at h
  refine ⟨?_, ?_, ?_⟩ <;> grind
theorem orthocentre_same (H : Hom p K φ) (hf : i_IsField p = true) {c : Int} (hc : isC c) {a b d : P2} {x1 y1 x2 y2 x3 y3 : K} (a1 : Vl p φ a.1 x1) (a2 : Vl p φ a.2 y1) (b1 : Vl p φ b.1 x2) (b2 : Vl p φ b.2 y2) (c1 : Vl p φ d.1 x3) (c2 : Vl p φ d.2 y3) (hn : Tri x1 y1 x2 y2 x3 y3) :
    i_orthocentre p c a b d = s_l04Orthocentre p c a b d := by
  obtain ⟨n1, n2, n3⟩ := tri_ne hn
  obtain ⟨e1, s, hs, p0, p1, p2, pk⟩ := altitude_same H hf hc a1 a2 b1 b2 c1 c2 n1
  obtain ⟨e2, t, ht, q0, q1, q2, qk⟩ := altitude_same H hf hc b1 b2 a1 a2 c1 c2 n2
  unfold i_orthocentre s_l04Orthocentre
  rw [e1, e2]
  exact meet_same H hf p0 p1 p2 q0 q1 q2
/-- The orthocentre is on both altitudes. -/
theorem vl_orthocentre (H : Hom p K φ) (hf : i_IsField p = true) {c : Int} (hc : isC c) {a b d : P2} {x1 y1 x2 y2 x3 y3 : K} (a1 : Vl p φ a.1 x1) (a2 : Vl p φ a.2 y1) (b1 : Vl p φ b.1 x2) (b2 : Vl p φ b.2 y2) (c1 : Vl p φ d.1 x3) (c2 : Vl p φ d.2 y3) (hn : Tri x1 y1 x2 y2 x3 y3) :
    ∃ X Y : K, Vl p φ (s_l04Orthocentre p c a b d).1 X ∧ Vl p φ (s_l04Orthocentre p c a b d).2 Y ∧ prodK c (x2 - x3) (y2 - y3) (X - x1) (Y - y1) = 0 ∧ prodK c (x1 - x3) (y1 - y3) (X - x2) (Y - y2) = 0 := by
  obtain ⟨n1, n2, n3⟩ := tri_ne hn
  obtain ⟨e1, l1⟩ := altitude_same H hf hc a1 a2 b1 b2 c1 c2 n1
  obtain ⟨e2, l2⟩ := altitude_same H hf hc b1 b2 a1 a2 c1 c2 n2
  obtain ⟨_, _, X, Y, v1, v2, q1, q2⟩ := Ln.meet H hf l1 l2 (by unfold Tri at hn; rcases hc with rfl | rfl | rfl <;> simp [frU, frV] <;> grind)
  refine ⟨X, Y, v1, v2, ?_, ?_⟩
  · rw [prodK_fr hc]; grind
  · rw [prodK_fr hc]; grind
theorem vl_middle (H : Hom p K φ) (hf : i_IsField p = true) {a b : P2} {x1 y1 x2 y2 : K} (a1 : Vl p φ a.1 x1) (a2 : Vl p φ a.2 y1) (b1 : Vl p φ b.1 x2) (b2 : Vl p φ b.2 y2) : ∃ X Y : K, Vl p φ (s_l01Middle p a b).1 X ∧ Vl p φ (s_l01Middle p a b).2 Y ∧ 2 * X = x1 + x2 ∧ 2 * Y = y1 + y2 := by
  have hp := i_IsField_ok hf
  have hm := field_mem hf
  have hh : Vl p φ (wrap64 ((wrap64 (p + 1)).tdiv 2)) (φ ((p + 1) / 2)) := by
    have e : wrap64 ((wrap64 (p + 1)).tdiv 2) = (p + 1) / 2 := by
      have h2 := hp
      unfold Pr at h2
      rw [w64 (n := p + 1) (by omega), Int.tdiv_eq_ediv_of_nonneg (by omega), w64 (by omega)]
    rw [e]
    refine Vl.of ?_
    have h2 := hp
    unfold Pr at h2
    simp at hm
    omega
  have h2 : 2 * φ ((p + 1) / 2) = 1 := by
    rw [← H.two, ← H.mul]
    have e : (2 : Int) * ((p + 1) / 2) = p + 1 := by simp at hm; omega
    rw [e, H.add, H.self, H.one]
    grind
  have v1 : Vl p φ (s_l01Middle p a b).1 (φ ((p + 1) / 2) * (x1 + x2)) := by
    unfold s_l01Middle s_l01Times s_l01Plus
    dsimp only
    (repeat' (first | assumption | exact Vl.rw hp (by assumption) | exact Rw.lit _ (by decide) | exact Rw.nlit _ (by decide) | with_reducible apply Vl.rest H hp | with_reducible apply Vl.smod H hp | with_reducible apply Vl.div H hf | with_reducible apply Vl.inv H hf | with_reducible apply Vl.sinvV H hf | with_reducible apply Vl.sinvR H hf | with_reducible apply Rw.tmod H hp | with_reducible apply Rw.mul H | with_reducible apply Rw.neg0 H | with_reducible apply Rw.sub H | with_reducible apply Rw.add H | with_reducible apply Vl.rw hp | decide))
  have v2 : Vl p φ (s_l01Middle p a b).2 (φ ((p + 1) / 2) * (y1 + y2)) := by
    unfold s_l01Middle s_l01Times s_l01Plus
    dsimp only
    (repeat' (first | assumption | exact Vl.rw hp (by assumption) | exact Rw.lit _ (by decide) | exact Rw.nlit _ (by decide) | with_reducible apply Vl.rest H hp | with_reducible apply Vl.smod H hp | with_reducible apply Vl.div H hf | with_reducible apply Vl.inv H hf | with_reducible apply Vl.sinvV H hf | with_reducible apply Vl.sinvR H hf | with_reducible apply Rw.tmod H hp | with_reducible apply Rw.mul H | with_reducible apply Rw.neg0 H | with_reducible apply Rw.sub H | with_reducible apply Rw.add H | with_reducible apply Vl.rw hp | decide))
  exact ⟨_, _, v1, v2, by grind, by grind⟩
theorem quad_iff (H : Hom p K φ) (hf : i_IsField p = true) {c : Int} (hc : isC c) {x a b : P2} {X Y x1 y1 x2 y2 : K} (h1 : Vl p φ x.1 X) (h2 : Vl p φ x.2 Y) (a1 : Vl p φ a.1 x1) (a2 : Vl p φ a.2 y1) (b1 : Vl p φ b.1 x2) (b2 : Vl p φ b.2 y2) :
    (i_quadrance p c x a == i_quadrance p c x b) = true ↔ prodK c (X - x1) (Y - y1) (X - x1) (Y - y1) = prodK c (X - x2) (Y - y2) (X - x2) (Y - y2) := by
  rw [beq_iff_eq]
  exact Vl.eq_iff H (vl_quadrance H hf hc h1 h2 a1 a2) (vl_quadrance H hf hc h1 h2 b1 b2)
/-- The specification's circumcentre has equal quadrances, and the search comes to it. -/
theorem circumcentre_same (H : Hom p K φ) (hf : i_IsField p = true) {c : Int} (hc : isC c) {a b d : P2} {x1 y1 x2 y2 x3 y3 : K} (a1 : Vl p φ a.1 x1) (a2 : Vl p φ a.2 y1) (b1 : Vl p φ b.1 x2) (b2 : Vl p φ b.2 y2) (c1 : Vl p φ d.1 x3) (c2 : Vl p φ d.2 y3) (hn : Tri x1 y1 x2 y2 x3 y3) :
    i_circumcentre p c a b d = s_l04Circumcentre p c a b d ∧ ∃ X Y : K, Vl p φ (s_l04Circumcentre p c a b d).1 X ∧ Vl p φ (s_l04Circumcentre p c a b d).2 Y ∧ prodK c (X - x1) (Y - y1) (X - x1) (Y - y1) = prodK c (X - x2) (Y - y2) (X - x2) (Y - y2) ∧ prodK c (X - x1) (Y - y1) (X - x1) (Y - y1) = prodK c (X - x3) (Y - y3) (X - x3) (Y - y3) := by
  have h2ne := H.two_ne hf
  obtain ⟨n1, n2, n3⟩ := tri_ne hn
  obtain ⟨m1, k1, u1, u2, u3, u4⟩ := vl_middle H hf a1 a2 b1 b2
  obtain ⟨m2, k2, w1, w2, w3, w4⟩ := vl_middle H hf a1 a2 c1 c2
  have d1 : Vl p φ (s_l01Minus p a b).1 (x1 - x2) := vl_less1 H hf a1 b1
  have d2 : Vl p φ (s_l01Minus p a b).2 (y1 - y2) := vl_less2 H hf a2 b2
  have g1 : Vl p φ (s_l01Minus p a d).1 (x1 - x3) := vl_less1 H hf a1 c1
  have g2 : Vl p φ (s_l01Minus p a d).2 (y1 - y3) := vl_less2 H hf a2 c2
  have l1 := ln_through H hf hc d1 d2 u1 u2 (by grind)
  have l2 := ln_through H hf hc g1 g2 w1 w2 (by grind)
  obtain ⟨_, _, X, Y, v1, v2, q1, q2⟩ := Ln.meet H hf l1 l2 (by unfold Tri at hn; rcases hc with rfl | rfl | rfl <;> simp [frU, frV] <;> grind)
  have key : ∃ X Y : K, Vl p φ (s_l04Circumcentre p c a b d).1 X ∧ Vl p φ (s_l04Circumcentre p c a b d).2 Y ∧ prodK c (X - x1) (Y - y1) (X - x1) (Y - y1) = prodK c (X - x2) (Y - y2) (X - x2) (Y - y2) ∧ prodK c (X - x1) (Y - y1) (X - x1) (Y - y1) = prodK c (X - x3) (Y - y3) (X - x3) (Y - y3) := by
    refine ⟨X, Y, v1, v2, ?_, ?_⟩
    all_goals (clear v1 v2 l1 l2 u1 u2 w1 w2 d1 d2 g1 g2; clear hn n1 n2 n3; rcases hc with rfl | rfl | rfl <;> simp [prodK, frU, frV] at q1 q2 ⊢ <;> grind)
  clear v1 v2 q1 q2 l1 l2 X Y
  refine ⟨?_, key⟩
  obtain ⟨X, Y, vX, vY, e1, e2⟩ := key
  have hmem : s_l04Circumcentre p c a b d ∈ pts p := mem_pts.2 ⟨vX.1, vY.1⟩
  unfold i_circumcentre
  rw [find_if, find_only hmem]
  · rfl
  · rw [Bool.and_eq_true, quad_iff H hf hc vX vY a1 a2 b1 b2, quad_iff H hf hc vX vY a1 a2 c1 c2]
    exact ⟨e1, e2⟩
  · intro z hz hq
    have hz := mem_pts.1 hz
    have z1 := Vl.of (φ := φ) hz.1; have z2 := Vl.of (φ := φ) hz.2
    rw [Bool.and_eq_true, quad_iff H hf hc z1 z2 a1 a2 b1 b2, quad_iff H hf hc z1 z2 a1 a2 c1 c2] at hq
    have hxy : φ z.1 = X ∧ φ z.2 = Y := by
      generalize φ z.1 = Z at hq; generalize φ z.2 = W at hq
      obtain ⟨q1, q2⟩ := hq
      clear u1 u2 w1 w2 d1 d2 g1 g2 vX vY z1 z2 n1 n2 n3 u3 u4 w3 w4
      unfold Tri at hn
      rcases hc with rfl | rfl | rfl <;> simp [prodK] at e1 e2 q1 q2 <;> constructor <;> grind
    exact pair_eq ((Vl.eq_iff H z1 vX).2 hxy.1) ((Vl.eq_iff H z2 vY).2 hxy.2)
end

end Go.Proofs.Ytpffcfiojjgnlaa
