import Derived.Test.YtnijajjdldijpaaQf
set_option linter.unusedSimpArgs false
set_option linter.unusedVariables false
namespace Go.Proofs.Ytnijajjdldijpaa
open Go.RowKit
/-! Places in the field. -/
/-- A place in normal form. -/
def PlForm (a : P3) : Prop := a.1 = 1 ∨ a.1 = 0 ∧ (a.2.1 = 1 ∨ a.2.1 = 0 ∧ a.2.2 = 1)
theorem isPlace_form {p : Int} {a : P3} (h : i_isPlace p a = true) : PlForm a := by
  unfold i_isPlace at h
  unfold PlForm
  simp [i_areNumbers, isNumber_iff] at h
  have h2 := h.2
  by_cases c0 : a.1 = 0
  · by_cases c1 : a.2.1 = 0
    · simp [c0, c1] at h2
      exact Or.inr ⟨c0, Or.inr ⟨c1, h2.2⟩⟩
    · simp [c0, c1] at h2
      exact Or.inr ⟨c0, Or.inl h2⟩
  · simp [c0] at h2
    exact Or.inl h2
theorem isPlace_mk {p : Int} {a : P3} (hp : Pr p) (h0 : 0 ≤ a.1 ∧ a.1 < p) (h1 : 0 ≤ a.2.1 ∧ a.2.1 < p) (h2 : 0 ≤ a.2.2 ∧ a.2.2 < p) (hf : PlForm a) : i_isPlace p a = true := by
  unfold i_isPlace
  have e : i_areNumbers p [a.1, a.2.1, a.2.2] = true := by simp [i_areNumbers, isNumber_iff, h0, h1, h2]
  rw [e]
  obtain ⟨x, y, z⟩ := a
  rcases hf with rfl | ⟨rfl, rfl | ⟨rfl, rfl⟩⟩ <;> simp
section
variable {p : Int} {K : Type} [Lean.Grind.Field K] {φ : Int → K}
/-- A place that three numbers make. -/
def Pc (p : Int) (φ : Int → K) (a : P3) (x y z : K) : Prop := ∃ t : K, t ≠ 0 ∧ Vl p φ a.1 (x * t) ∧ Vl p φ a.2.1 (y * t) ∧ Vl p φ a.2.2 (z * t) ∧ PlForm a
theorem Pc.of (H : Hom p K φ) {a : P3} (h : i_isPlace p a = true) : Pc p φ a (φ a.1) (φ a.2.1) (φ a.2.2) := by
  obtain ⟨h0, h1, h2⟩ := isPlace_num h
  exact ⟨1, H.one_ne, (Vl.of h0).conv (by grind), (Vl.of h1).conv (by grind), (Vl.of h2).conv (by grind), isPlace_form h⟩
theorem Pc.place (hp : Pr p) {a : P3} {x y z : K} (h : Pc p φ a x y z) : i_isPlace p a = true := by
  obtain ⟨t, _, h0, h1, h2, hf⟩ := h
  exact isPlace_mk hp h0.1 h1.1 h2.1 hf
theorem Pc.ne (H : Hom p K φ) {a : P3} {x y z : K} (h : Pc p φ a x y z) : x ≠ 0 ∨ y ≠ 0 ∨ z ≠ 0 := by
  obtain ⟨t, _, h0, h1, h2, hf⟩ := h
  have o := H.one_ne
  have v0 := h0.2; have v1 := h1.2; have v2 := h2.2
  rcases hf with e | ⟨_, e | ⟨_, e⟩⟩
  · rw [e, H.one] at v0; grind
  · rw [e, H.one] at v1; grind
  · rw [e, H.one] at v2; grind
theorem Pc.inj (H : Hom p K φ) {a b : P3} {x y z : K} (h1 : Pc p φ a x y z) (h2 : Pc p φ b x y z) : a = b := by
  obtain ⟨t, ht, l0, l1, l2, lk⟩ := h1
  obtain ⟨s, hs, m0, m1, m2, mk⟩ := h2
  obtain ⟨a0, a1, a2⟩ := a
  obtain ⟨b0, b1, b2⟩ := b
  unfold PlForm at lk mk
  dsimp only at l0 l1 l2 lk m0 m1 m2 mk
  have o := H.one_ne
  have e : t = s := by
    have u0 := l0.2; have u1 := l1.2; have u2 := l2.2; have v0 := m0.2; have v1 := m1.2; have v2 := m2.2
    have z := H.zero; have w := H.one
    rcases lk with rfl | ⟨rfl, rfl | ⟨rfl, rfl⟩⟩ <;> rcases mk with rfl | ⟨rfl, rfl | ⟨rfl, rfl⟩⟩ <;> grind
  subst e
  rw [Vl.inj H l0 m0, Vl.inj H l1 m1, Vl.inj H l2 m2]
theorem Pc.par (H : Hom p K φ) {a : P3} {x y z X Y Z : K} (h : Pc p φ a x y z) (hn : X ≠ 0 ∨ Y ≠ 0 ∨ Z ≠ 0) (e1 : x * Y = y * X) (e2 : y * Z = z * Y) (e3 : x * Z = z * X) : Pc p φ a X Y Z := by
  have hx := Pc.ne H h
  obtain ⟨t, ht, l0, l1, l2, lk⟩ := h
  have key : ∃ r : K, r ≠ 0 ∧ x = r * X ∧ y = r * Y ∧ z = r * Z := by
    rcases hn with h | h | h
    · exact ⟨x * X⁻¹, by grind, by grind, by grind, by grind⟩
    · exact ⟨y * Y⁻¹, by grind, by grind, by grind, by grind⟩
    · exact ⟨z * Z⁻¹, by grind, by grind, by grind, by grind⟩
  obtain ⟨r, hr, rfl, rfl, rfl⟩ := key
  exact ⟨r * t, by grind, l0.conv (by grind), l1.conv (by grind), l2.conv (by grind), lk⟩
/-- Two places in proportion are one. -/
theorem Pc.eq_of (H : Hom p K φ) {a b : P3} {x y z X Y Z : K} (h : Pc p φ a x y z) (h' : Pc p φ b X Y Z) (e1 : x * Y = y * X) (e2 : y * Z = z * Y) (e3 : x * Z = z * X) : a = b :=
  Pc.inj H (Pc.par H h (Pc.ne H h') e1 e2 e3) h'
theorem vl_pp (H : Hom p K φ) (hf : i_IsField p = true) {a b : P3} {x y z X Y Z : K} (h0 : Vl p φ a.1 x) (h1 : Vl p φ a.2.1 y) (h2 : Vl p φ a.2.2 z) (g0 : Vl p φ b.1 X) (g1 : Vl p φ b.2.1 Y) (g2 : Vl p φ b.2.2 Z) :
    Vl p φ (i_placeProduct p a b) (x * X + y * Y - z * Z) := by
  have hp := i_IsField_ok hf
  unfold i_placeProduct
  (repeat' (first | assumption | exact Vl.rw hp (by assumption) | exact Rw.lit _ (by decide) | exact Rw.nlit _ (by decide) | with_reducible apply Vl.rest H hp | with_reducible apply Vl.smod H hp | with_reducible apply Vl.div H hf | with_reducible apply Vl.inv H hf | with_reducible apply Vl.sinvV H hf | with_reducible apply Vl.sinvR H hf | with_reducible apply Rw.tmod H hp | with_reducible apply Rw.mul H | with_reducible apply Rw.neg0 H | with_reducible apply Rw.sub H | with_reducible apply Rw.add H | with_reducible apply Vl.rw hp | decide))
theorem pp_zero (H : Hom p K φ) (hf : i_IsField p = true) {a b : P3} {x y z X Y Z : K} (h : Pc p φ a x y z) (g : Pc p φ b X Y Z) : i_placeProduct p a b = 0 ↔ x * X + y * Y - z * Z = 0 := by
  obtain ⟨t, ht, h0, h1, h2, _⟩ := h
  obtain ⟨s, hs, g0, g1, g2, _⟩ := g
  rw [Vl.zero_iff H (vl_pp H hf h0 h1 h2 g0 g1 g2)]
  constructor <;> intro e <;> grind
theorem made_pc (H : Hom p K φ) (hf : i_IsField p = true) {X Y Z n1 n2 n3 : Int} {x y z : K} (h1 : Rw φ X x n1) (h2 : Rw φ Y y n2) (h3 : Rw φ Z z n3) (hn : x ≠ 0 ∨ y ≠ 0 ∨ z ≠ 0) : Pc p φ (s_l09Made p X Y Z) x y z := by
  have hp := i_IsField_ok hf
  rw [made_make hf]
  have v1 : Vl p φ (X % p) x := ⟨rest_b hp X, by rw [H.mod, h1.2]⟩
  have v2 : Vl p φ (Y % p) y := ⟨rest_b hp Y, by rw [H.mod, h2.2]⟩
  have v3 : Vl p φ (Z % p) z := ⟨rest_b hp Z, by rw [H.mod, h3.2]⟩
  have o := H.one_ne
  have d : ∀ {a b : Int} {k l : K}, Vl p φ a k → Vl p φ b l → Vl p φ (i_divide p a b) (k * l⁻¹) := fun h g => Vl.div H hf (Vl.rw hp h) g (by decide)
  unfold i_makePlace
  dsimp only
  by_cases c1 : X % p = 0
  · rw [if_neg (by simpa using c1)]
    have hx : x = 0 := (Vl.zero_iff H v1).1 c1
    by_cases c2 : Y % p = 0
    · rw [if_neg (by simpa using c2)]
      have hy : y = 0 := (Vl.zero_iff H v2).1 c2
      have hz : z ≠ 0 := by grind
      have c3 : ¬ Z % p = 0 := fun e => hz ((Vl.zero_iff H v3).1 e)
      rw [if_pos (by simpa using c3)]
      refine ⟨z⁻¹, by grind, d v1 v3, d v2 v3, d v3 v3, Or.inr ⟨?_, Or.inr ⟨?_, ?_⟩⟩⟩
      · exact Vl.inj H ((d v1 v3).conv (show x * z⁻¹ = 0 by grind)) (Vl.zero H hp)
      · exact Vl.inj H ((d v2 v3).conv (show y * z⁻¹ = 0 by grind)) (Vl.zero H hp)
      · exact Vl.inj H ((d v3 v3).conv (show z * z⁻¹ = 1 by grind)) (Vl.one H hf)
    · rw [if_pos (by simpa using c2)]
      have hy : y ≠ 0 := fun e => c2 ((Vl.zero_iff H v2).2 e)
      refine ⟨y⁻¹, by grind, d v1 v2, d v2 v2, d v3 v2, Or.inr ⟨?_, Or.inl ?_⟩⟩
      · exact Vl.inj H ((d v1 v2).conv (show x * y⁻¹ = 0 by grind)) (Vl.zero H hp)
      · exact Vl.inj H ((d v2 v2).conv (show y * y⁻¹ = 1 by grind)) (Vl.one H hf)
  · rw [if_pos (by simpa using c1)]
    have hx : x ≠ 0 := fun e => c1 ((Vl.zero_iff H v1).2 e)
    refine ⟨x⁻¹, by grind, d v1 v1, d v2 v1, d v3 v1, Or.inl ?_⟩
    exact Vl.inj H ((d v1 v1).conv (show x * x⁻¹ = 1 by grind)) (Vl.one H hf)
theorem join_pc (H : Hom p K φ) (hf : i_IsField p = true) {a b : P3} {x y z X Y Z : K} (h : Pc p φ a x y z) (g : Pc p φ b X Y Z) (hn : a ≠ b) : Pc p φ (s_l09Join p a b) (y * Z - z * Y) (z * X - x * Z) (y * X - x * Y) := by
  have hp := i_IsField_ok hf
  have hne : y * Z - z * Y ≠ 0 ∨ z * X - x * Z ≠ 0 ∨ y * X - x * Y ≠ 0 := by
    by_cases e1 : y * Z - z * Y = 0
    · by_cases e2 : z * X - x * Z = 0
      · by_cases e3 : y * X - x * Y = 0
        · exact absurd (Pc.eq_of H h g (by grind) (by grind) (by grind)) hn
        · exact Or.inr (Or.inr e3)
      · exact Or.inr (Or.inl e2)
    · exact Or.inl e1
  obtain ⟨t, ht, h0, h1, h2, _⟩ := h
  obtain ⟨s, hs, g0, g1, g2, _⟩ := g
  have m : ∀ {a b c d : Int} {k l m n : K}, Vl p φ a k → Vl p φ b l → Vl p φ c m → Vl p φ d n → Rw φ (wrap64 (wrap64 (a * b) - wrap64 (c * d))) (k * l - m * n) (30 * 30 + 30 * 30) := fun h1 h2 h3 h4 =>
    Rw.sub H (Rw.mul H (Vl.rw hp h1) (Vl.rw hp h2) (by decide)) (Rw.mul H (Vl.rw hp h3) (Vl.rw hp h4) (by decide)) (by decide)
  have k := made_pc H hf (m h1 g2 h2 g1) (m h2 g0 h0 g2) (m h1 g0 h0 g1) (by grind)
  exact Pc.par H k hne (by grind) (by grind) (by grind)
/-- The join is on both places. -/
theorem join_on (H : Hom p K φ) (hf : i_IsField p = true) {a b : P3} {x y z X Y Z : K} (h : Pc p φ a x y z) (g : Pc p φ b X Y Z) (hn : a ≠ b) : i_placeProduct p (s_l09Join p a b) a = 0 ∧ i_placeProduct p (s_l09Join p a b) b = 0 :=
  ⟨(pp_zero H hf (join_pc H hf h g hn) h).2 (by grind), (pp_zero H hf (join_pc H hf h g hn) g).2 (by grind)⟩
/-- Two different places have one place that is perpendicular to both. -/
theorem perp_one (H : Hom p K φ) (hf : i_IsField p = true) {a b u : P3} {x y z X Y Z U V W : K} (h : Pc p φ a x y z) (g : Pc p φ b X Y Z) (k : Pc p φ u U V W) (hn : a ≠ b) (h1 : U * x + V * y - W * z = 0) (h2 : U * X + V * Y - W * Z = 0) : u = s_l09Join p a b :=
  Pc.eq_of H k (join_pc H hf h g hn) (by grind) (by grind) (by grind)
end

end Go.Proofs.Ytnijajjdldijpaa
