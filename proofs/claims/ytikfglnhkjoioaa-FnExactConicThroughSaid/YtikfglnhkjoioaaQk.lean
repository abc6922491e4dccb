import Derived.Test.YtikfglnhkjoioaaQg
set_option linter.unusedSimpArgs false
set_option linter.unusedVariables false
namespace Go.Proofs.Ytikfglnhkjoioaa
open Go.RowKit
/-! Conics in normal form; the parabola. -/
theorem Rx.conv {K : Type} {φ : Int → K} {x n : Int} {k l : K} (h : Rw φ x k n) (e : k = l) : ∃ n, Rw φ x l n := ⟨n, e ▸ h⟩
theorem isC0 : isC 0 := Or.inl rfl
theorem isC1 : isC 1 := Or.inr (Or.inl rfl)
theorem isC2 : isC 2 := Or.inr (Or.inr rfl)
section
variable {p : Int} {K : Type} [Lean.Grind.Field K] {φ : Int → K}
/-- A conic in normal form with numbers that a, .., f make. -/
def Cc (p : Int) (φ : Int → K) (k : P6) (a b c d e f : K) : Prop := ∃ t : K, t ≠ 0 ∧ (Vl p φ k.1 (a * t) ∧ Vl p φ k.2.1 (b * t) ∧ Vl p φ k.2.2.1 (c * t) ∧ Vl p φ k.2.2.2.1 (d * t) ∧ Vl p φ k.2.2.2.2.1 (e * t) ∧ Vl p φ k.2.2.2.2.2 (f * t)) ∧ (k.1 = 1 ∨ k.1 = 0 ∧ (k.2.1 = 1 ∨ k.2.1 = 0 ∧ k.2.2.1 = 1))
theorem Cc.scale {k : P6} {a b c d e f : K} (s : K) (hs : s ≠ 0) {a' b' c' d' e' f' : K} (ea : a = s * a') (eb : b = s * b') (ec : c = s * c') (ed : d = s * d') (ee : e = s * e') (ef : f = s * f') (h : Cc p φ k a b c d e f) : Cc p φ k a' b' c' d' e' f' := by
  obtain ⟨t, ht, ⟨h1, h2, h3, h4, h5, h6⟩, h7⟩ := h
  exact ⟨s * t, by grind, ⟨h1.conv (by grind), h2.conv (by grind), h3.conv (by grind), h4.conv (by grind), h5.conv (by grind), h6.conv (by grind)⟩, h7⟩
theorem Cc.inj (H : Hom p K φ) {k m : P6} {a b c d e f : K} (h1 : Cc p φ k a b c d e f) (h2 : Cc p φ m a b c d e f) : k = m := by
  obtain ⟨t, ht, ⟨k0, k1, k2, k3, k4, k5⟩, lk⟩ := h1
  obtain ⟨s, hs, ⟨m0, m1, m2, m3, m4, m5⟩, mk⟩ := h2
  have e : t = s := by
    have z0 := Vl.zero_iff H k0; have z0' := Vl.zero_iff H m0
    have z1 := Vl.zero_iff H k1; have z1' := Vl.zero_iff H m1
    have u0 := k0.2; have u1 := k1.2; have u2 := k2.2
    have w0 := m0.2; have w1 := m1.2; have w2 := m2.2
    by_cases ha : a = 0
    · have x0 := z0.2 (by grind); have x0' := z0'.2 (by grind)
      by_cases hb : b = 0
      · have x1 := z1.2 (by grind); have x1' := z1'.2 (by grind)
        rw [x0, x1] at lk; rw [x0', x1'] at mk
        simp at lk mk
        rw [lk, H.one] at u2; rw [mk, H.one] at w2
        grind
      · have x1 : k.2.1 ≠ 0 := fun h => by have := z1.1 h; grind
        have x1' : m.2.1 ≠ 0 := fun h => by have := z1'.1 h; grind
        rw [x0] at lk; rw [x0'] at mk
        simp [x1] at lk; simp [x1'] at mk
        rw [lk, H.one] at u1; rw [mk, H.one] at w1
        grind
    · have x0 : k.1 ≠ 0 := fun h => by have := z0.1 h; grind
      have x0' : m.1 ≠ 0 := fun h => by have := z0'.1 h; grind
      simp [x0] at lk; simp [x0'] at mk
      rw [lk, H.one] at u0; rw [mk, H.one] at w0
      grind
  subst e
  obtain ⟨q0, q1, q2, q3, q4, q5⟩ := k
  obtain ⟨r0, r1, r2, r3, r4, r5⟩ := m
  have e0 := Vl.inj H k0 m0; have e1 := Vl.inj H k1 m1; have e2 := Vl.inj H k2 m2
  have e3 := Vl.inj H k3 m3; have e4 := Vl.inj H k4 m4; have e5 := Vl.inj H k5 m5
  dsimp only at e0 e1 e2 e3 e4 e5
  rw [e0, e1, e2, e3, e4, e5]
theorem cc_make (H : Hom p K φ) (hf : i_IsField p = true) {l : P6} {a b c d e f : K} (h0 : ∃ n, Rw φ l.1 a n) (h1 : ∃ n, Rw φ l.2.1 b n) (h2 : ∃ n, Rw φ l.2.2.1 c n) (h3 : ∃ n, Rw φ l.2.2.2.1 d n) (h4 : ∃ n, Rw φ l.2.2.2.2.1 e n) (h5 : ∃ n, Rw φ l.2.2.2.2.2 f n) (hn : a ≠ 0 ∨ b ≠ 0 ∨ c ≠ 0) :
    (i_makeConic p l).2 = true ∧ Cc p φ (i_makeConic p l).1 a b c d e f := by
  have hp := i_IsField_ok hf
  obtain ⟨_, h0⟩ := h0; obtain ⟨_, h1⟩ := h1; obtain ⟨_, h2⟩ := h2; obtain ⟨_, h3⟩ := h3; obtain ⟨_, h4⟩ := h4; obtain ⟨_, h5⟩ := h5
  have v0 : Vl p φ (i_rest p l.1) a := Vl.rest H hp h0
  have v1 : Vl p φ (i_rest p l.2.1) b := Vl.rest H hp h1
  have v2 : Vl p φ (i_rest p l.2.2.1) c := Vl.rest H hp h2
  have v3 : Vl p φ (i_rest p l.2.2.2.1) d := Vl.rest H hp h3
  have v4 : Vl p φ (i_rest p l.2.2.2.2.1) e := Vl.rest H hp h4
  have v5 : Vl p φ (i_rest p l.2.2.2.2.2) f := Vl.rest H hp h5
  have z0 := Vl.zero_iff H v0; have z1 := Vl.zero_iff H v1; have z2 := Vl.zero_iff H v2
  have dv : ∀ {x y : Int} {u v : K}, Vl p φ x u → Vl p φ y v → Vl p φ (i_divide p x y) (u * v⁻¹) := fun hx hy => Vl.div H hf (Vl.rw hp hx) hy (by decide)
  unfold i_makeConic
  by_cases e0 : i_rest p l.1 = 0
  · have ha := z0.1 e0
    have t0 : (i_rest p l.1 == 0) = true := by simpa using e0
    by_cases e1 : i_rest p l.2.1 = 0
    · have hb := z1.1 e1
      have t1 : (i_rest p l.2.1 == 0) = true := by simpa using e1
      have hc : c ≠ 0 := by grind
      have e2 : ¬ i_rest p l.2.2.1 = 0 := fun h => hc (z2.1 h)
      have t2 : (i_rest p l.2.2.1 == 0) = false := by simpa using e2
      simp only [t0, t1, t2, if_true, Bool.false_eq_true, if_false]
      refine ⟨trivial, c⁻¹, by grind, ⟨dv v0 v2, dv v1 v2, dv v2 v2, dv v3 v2, dv v4 v2, dv v5 v2⟩, Or.inr ⟨?_, Or.inr ⟨?_, ?_⟩⟩⟩
      · exact Vl.inj H ((dv v0 v2).conv (show a * c⁻¹ = 0 by grind)) (Vl.zero H hp)
      · exact Vl.inj H ((dv v1 v2).conv (show b * c⁻¹ = 0 by grind)) (Vl.zero H hp)
      · exact Vl.inj H ((dv v2 v2).conv (show c * c⁻¹ = 1 by grind)) (Vl.one H hf)
    · have hb : b ≠ 0 := fun h => e1 (z1.2 h)
      have t1 : (i_rest p l.2.1 == 0) = false := by simpa using e1
      simp only [t0, t1, if_true, Bool.false_eq_true, if_false]
      refine ⟨trivial, b⁻¹, by grind, ⟨dv v0 v1, dv v1 v1, dv v2 v1, dv v3 v1, dv v4 v1, dv v5 v1⟩, Or.inr ⟨?_, Or.inl ?_⟩⟩
      · exact Vl.inj H ((dv v0 v1).conv (show a * b⁻¹ = 0 by grind)) (Vl.zero H hp)
      · exact Vl.inj H ((dv v1 v1).conv (show b * b⁻¹ = 1 by grind)) (Vl.one H hf)
  · have ha : a ≠ 0 := fun h => e0 (z0.2 h)
    have t0 : (i_rest p l.1 == 0) = false := by simpa using e0
    simp only [t0, if_true, Bool.false_eq_true, if_false]
    refine ⟨trivial, a⁻¹, by grind, ⟨dv v0 v0, dv v1 v0, dv v2 v0, dv v3 v0, dv v4 v0, dv v5 v0⟩, Or.inl ?_⟩
    exact Vl.inj H ((dv v0 v0).conv (show a * a⁻¹ = 1 by grind)) (Vl.one H hf)
theorem make_none (H : Hom p K φ) (hf : i_IsField p = true) {l : P6} {n0 n1 n2 : Int} {a b c : K} (h0 : Rw φ l.1 a n0) (h1 : Rw φ l.2.1 b n1) (h2 : Rw φ l.2.2.1 c n2) (ha : a = 0) (hb : b = 0) (hc : c = 0) : i_makeConic p l = ((0, 0, 0, 0, 0, 0), false) := by
  have hp := i_IsField_ok hf
  have t0 : (i_rest p l.1 == 0) = true := by simpa using (Vl.zero_iff H (Vl.rest H hp h0)).2 ha
  have t1 : (i_rest p l.2.1 == 0) = true := by simpa using (Vl.zero_iff H (Vl.rest H hp h1)).2 hb
  have t2 : (i_rest p l.2.2.1 == 0) = true := by simpa using (Vl.zero_iff H (Vl.rest H hp h2)).2 hc
  unfold i_makeConic
  simp only [t0, t1, t2, if_true]
/-- The specification's conic of six numbers. -/
theorem cc_made (H : Hom p K φ) (hf : i_IsField p = true) {x0 x1 x2 x3 x4 x5 : Int} {a b c d e f : K} (h0 : ∃ n, Rw φ x0 a n) (h1 : ∃ n, Rw φ x1 b n) (h2 : ∃ n, Rw φ x2 c n) (h3 : ∃ n, Rw φ x3 d n) (h4 : ∃ n, Rw φ x4 e n) (h5 : ∃ n, Rw φ x5 f n) (hn : a ≠ 0 ∨ b ≠ 0 ∨ c ≠ 0) :
    (s_l08Made p 6 [x0, x1, x2, x3, x4, x5]).2 = true ∧ Cc p φ (s_l08Made p 6 [x0, x1, x2, x3, x4, x5]).1 a b c d e f := by
  have hp := i_IsField_ok hf
  obtain ⟨_, h0⟩ := h0; obtain ⟨_, h1⟩ := h1; obtain ⟨_, h2⟩ := h2; obtain ⟨_, h3⟩ := h3; obtain ⟨_, h4⟩ := h4; obtain ⟨_, h5⟩ := h5
  have v0 : Vl p φ (s_l01Mod x0 p) a := Vl.smod H hp h0
  have v1 : Vl p φ (s_l01Mod x1 p) b := Vl.smod H hp h1
  have v2 : Vl p φ (s_l01Mod x2 p) c := Vl.smod H hp h2
  have z0 := Vl.zero_iff H v0; have z1 := Vl.zero_iff H v1; have z2 := Vl.zero_iff H v2
  have dv : ∀ {x y n : Int} {u v : K}, Rw φ x u n → Vl p φ y v → Vl p φ (s_l01Mod (wrap64 (x.tmod p * s_l01Inverse y p)) p) (u * v⁻¹) := fun hx hy => Vl.smod H hp (Rw.mul H (Rw.tmod H hp hx) (Vl.rw hp (Vl.sinvV H hf hy)) (by decide))
  have main : ∀ {y : Int} {v : K}, Vl p φ y v → v ≠ 0 → (Vl p φ (s_l01Mod (wrap64 (x0.tmod p * s_l01Inverse y p)) p) (a * v⁻¹) → Vl p φ (s_l01Mod (wrap64 (x1.tmod p * s_l01Inverse y p)) p) (b * v⁻¹) → Vl p φ (s_l01Mod (wrap64 (x2.tmod p * s_l01Inverse y p)) p) (c * v⁻¹) → (s_l01Mod (wrap64 (x0.tmod p * s_l01Inverse y p)) p = 1 ∨ s_l01Mod (wrap64 (x0.tmod p * s_l01Inverse y p)) p = 0 ∧ (s_l01Mod (wrap64 (x1.tmod p * s_l01Inverse y p)) p = 1 ∨ s_l01Mod (wrap64 (x1.tmod p * s_l01Inverse y p)) p = 0 ∧ s_l01Mod (wrap64 (x2.tmod p * s_l01Inverse y p)) p = 1))) →
      (madeOf p y [x0, x1, x2, x3, x4, x5]).2 = true ∧ Cc p φ (madeOf p y [x0, x1, x2, x3, x4, x5]).1 a b c d e f := by
    intro y v hy hv hl
    have hy0 : ¬ (y == 0) = true := by
      intro h
      exact hv ((Vl.zero_iff H hy).1 (by simpa using h))
    unfold madeOf
    rw [if_neg hy0]
    exact ⟨rfl, v⁻¹, by grind, ⟨dv h0 hy, dv h1 hy, dv h2 hy, dv h3 hy, dv h4 hy, dv h5 hy⟩, hl (dv h0 hy) (dv h1 hy) (dv h2 hy)⟩
  unfold s_l08Made madeFirst
  show (madeOf p (if (s_l01Mod x0 p == 0) = true then (if (s_l01Mod x1 p == 0) = true then s_l01Mod x2 p else s_l01Mod x1 p) else s_l01Mod x0 p) [x0, x1, x2, x3, x4, x5]).2 = true ∧ Cc p φ (madeOf p (if (s_l01Mod x0 p == 0) = true then (if (s_l01Mod x1 p == 0) = true then s_l01Mod x2 p else s_l01Mod x1 p) else s_l01Mod x0 p) [x0, x1, x2, x3, x4, x5]).1 a b c d e f
  by_cases e0 : s_l01Mod x0 p = 0
  · have ha := z0.1 e0
    by_cases e1 : s_l01Mod x1 p = 0
    · have hb := z1.1 e1
      rw [if_pos (by simpa using e0), if_pos (by simpa using e1)]
      have hc : c ≠ 0 := by grind
      exact main v2 hc fun w0 w1 w2 => Or.inr ⟨Vl.inj H (w0.conv (show a * c⁻¹ = 0 by grind)) (Vl.zero H hp), Or.inr ⟨Vl.inj H (w1.conv (show b * c⁻¹ = 0 by grind)) (Vl.zero H hp), Vl.inj H (w2.conv (show c * c⁻¹ = 1 by grind)) (Vl.one H hf)⟩⟩
    · have hb : b ≠ 0 := fun h => e1 (z1.2 h)
      rw [if_pos (by simpa using e0), if_neg (by simpa using e1)]
      exact main v1 hb fun w0 w1 w2 => Or.inr ⟨Vl.inj H (w0.conv (show a * b⁻¹ = 0 by grind)) (Vl.zero H hp), Or.inl (Vl.inj H (w1.conv (show b * b⁻¹ = 1 by grind)) (Vl.one H hf))⟩
  · have ha : a ≠ 0 := fun h => e0 (z0.2 h)
    rw [if_neg (by simpa using e0)]
    exact main v0 ha fun w0 w1 w2 => Or.inl (Vl.inj H (w0.conv (show a * a⁻¹ = 1 by grind)) (Vl.one H hf))
theorem made_none (H : Hom p K φ) (hf : i_IsField p = true) {x0 x1 x2 x3 x4 x5 n0 n1 n2 : Int} {a b c : K} (h0 : Rw φ x0 a n0) (h1 : Rw φ x1 b n1) (h2 : Rw φ x2 c n2) (ha : a = 0) (hb : b = 0) (hc : c = 0) : s_l08Made p 6 [x0, x1, x2, x3, x4, x5] = ((0, 0, 0, 0, 0, 0), false) := by
  have hp := i_IsField_ok hf
  have t0 : (s_l01Mod x0 p == 0) = true := by simpa using (Vl.zero_iff H (Vl.smod H hp h0)).2 ha
  have t1 : (s_l01Mod x1 p == 0) = true := by simpa using (Vl.zero_iff H (Vl.smod H hp h1)).2 hb
  have t2 : (s_l01Mod x2 p == 0) = true := by simpa using (Vl.zero_iff H (Vl.smod H hp h2)).2 hc
  unfold s_l08Made madeFirst madeOf
  show (if ((if (s_l01Mod x0 p == 0) = true then (if (s_l01Mod x1 p == 0) = true then s_l01Mod x2 p else s_l01Mod x1 p) else s_l01Mod x0 p) == 0) = true then ((0, 0, 0, 0, 0, 0), false) else _) = _
  rw [t0, t1, if_pos rfl, if_pos rfl, t2, if_pos rfl]
/-- The number by which the square of the line's value is divided. -/
def nK (c : Int) (l0 l1 : K) : K := if c = 0 then l0 * l0 + l1 * l1 else if c = 1 then l0 * l0 - l1 * l1 else 2 * l0 * l1
theorem null_nK {c : Int} (hc : isC c) (l0 l1 : K) : prodK c (-l1) l0 (-l1) l0 = 0 ↔ nK c l0 l1 = 0 := by
  rcases hc with rfl | rfl | rfl <;> simp [prodK, nK] <;> constructor <;> intro h <;> grind
end

end Go.Proofs.Ytikfglnhkjoioaa
