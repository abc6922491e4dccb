import Derived.Test.YtikfglnhkjoioaaQf
set_option linter.unusedSimpArgs false
set_option linter.unusedVariables false
namespace Go.Proofs.Ytikfglnhkjoioaa
open Go.RowKit
/-! Points, lines and products in the field. -/
def isC (c : Int) : Prop := c = 0 ∨ c = 1 ∨ c = 2
theorem isPoint_num {p : Int} {a : P2} (h : i_isPoint p a = true) : (0 ≤ a.1 ∧ a.1 < p) ∧ (0 ≤ a.2 ∧ a.2 < p) := by
  unfold i_isPoint at h
  simpa [i_areNumbers, isNumber_iff] using h
section
variable {p : Int} {K : Type} [Lean.Grind.Field K] {φ : Int → K}
/-- The colours' products. -/
def prodK (c : Int) (x1 y1 x2 y2 : K) : K := if c = 0 then x1 * x2 + y1 * y2 else if c = 1 then x1 * x2 - y1 * y2 else x1 * y2 + y1 * x2
/-- The numbers by which a product with x, y is made. -/
def frU (c : Int) (x y : K) : K := if c = 2 then y else x
def frV (c : Int) (x y : K) : K := if c = 0 then y else if c = 1 then -y else x
theorem prodK_fr {c : Int} (hc : isC c) (x1 y1 x2 y2 : K) : prodK c x1 y1 x2 y2 = frU c x1 y1 * x2 + frV c x1 y1 * y2 := by
  rcases hc with rfl | rfl | rfl <;> simp [prodK, frU, frV] <;> grind
theorem prodK_neg {c : Int} (hc : isC c) (x1 y1 x2 y2 : K) : prodK c (x1 - x2) (y1 - y2) (x1 - x2) (y1 - y2) = prodK c (x2 - x1) (y2 - y1) (x2 - x1) (y2 - y1) := by
  rcases hc with rfl | rfl | rfl <;> simp [prodK] <;> grind
/-- A line in normal form with numbers that a, b, c make. -/
def Ln (p : Int) (φ : Int → K) (l : P3) (a b c : K) : Prop := ∃ t : K, t ≠ 0 ∧ Vl p φ l.1 (a * t) ∧ Vl p φ l.2.1 (b * t) ∧ Vl p φ l.2.2 (c * t) ∧ (l.1 = 1 ∨ l.1 = 0 ∧ l.2.1 = 1)
theorem Ln.scale {l : P3} {a b c : K} (s : K) (hs : s ≠ 0) {a' b' c' : K} (ea : a = s * a') (eb : b = s * b') (ec : c = s * c') (h : Ln p φ l a b c) : Ln p φ l a' b' c' := by
  obtain ⟨t, ht, h1, h2, h3, h4⟩ := h
  exact ⟨s * t, by grind, h1.conv (by grind), h2.conv (by grind), h3.conv (by grind), h4⟩
theorem Ln.inj (H : Hom p K φ) {l m : P3} {a b c : K} (h1 : Ln p φ l a b c) (h2 : Ln p φ m a b c) : l = m := by
  obtain ⟨t, ht, l0, l1, l2, lk⟩ := h1
  obtain ⟨s, hs, m0, m1, m2, mk⟩ := h2
  have e : t = s := by
    have z0 := Vl.zero_iff H l0; have z0' := Vl.zero_iff H m0
    rcases lk with e1 | ⟨e1, e2⟩ <;> rcases mk with f1 | ⟨f1, f2⟩
    · have v1 := l0.2; have v2 := m0.2
      rw [e1, H.one] at v1; rw [f1, H.one] at v2
      grind
    · have v1 := l0.2
      rw [e1, H.one] at v1
      have := z0'.1 f1
      grind
    · have v2 := m0.2
      rw [f1, H.one] at v2
      have := z0.1 e1
      grind
    · have v1 := l1.2; have v2 := m1.2
      rw [e2, H.one] at v1; rw [f2, H.one] at v2
      grind
  subst e
  obtain ⟨l0', l1', l2'⟩ := l
  obtain ⟨m0', m1', m2'⟩ := m
  have e0 := Vl.inj H l0 m0; have e1 := Vl.inj H l1 m1; have e2 := Vl.inj H l2 m2
  dsimp only at e0 e1 e2
  rw [e0, e1, e2]
end

end Go.Proofs.Ytikfglnhkjoioaa
