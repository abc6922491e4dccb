import Derived.Test.YtfclaacaphpoaaaQf
set_option linter.unusedSimpArgs false
set_option linter.unusedVariables false
namespace Go.Proofs.Ytfclaacaphpoaaa
open Go.RowKit
def isC (c : Int) : Prop := c = 0 \/ c = 1 \/ c = 2
theorem Zv8 {c : Int} (h : Z0P c = true) : isC c := by
 unfold Z0P at h; unfold isC; simp at h; omega
theorem Z50 {p : Int} {l : P3} (h : Z0S p l = true) : ((0 <= l.1 /\ l.1 < p) /\ (0 <= l.2.1 /\ l.2.1 < p) /\ (0 <= l.2.2 /\ l.2.2 < p)) /\ (l.1 = 1 \/ l.1 = 0 /\ l.2.1 = 1) := by
 unfold Z0S at h
 simp [ZR, Z5v] at h
 refine ⟨h.1, ?_⟩
 have h2 := h.2
 omega
section
variable {p : Int} {K : Type} [Lean.Grind.Field K] {φ : Int -> K}
def Z4y (c : Int) (x1 y1 x2 y2 : K) : K := if c = 0 then x1 * x2 + y1 * y2 else if c = 1 then x1 * x2 - y1 * y2 else x1 * y2 + y1 * x2
def frU (c : Int) (x y : K) : K := if c = 2 then y else x
def frV (c : Int) (x y : K) : K := if c = 0 then y else if c = 1 then -y else x
theorem ZqW {c : Int} (hc : isC c) (x1 y1 x2 y2 : K) : Z4y c x1 y1 x2 y2 = frU c x1 y1 * x2 + frV c x1 y1 * y2 := by
 rcases hc with rfl | rfl | rfl <;> simp [Z4y, frU, frV] <;> grind
theorem Zmi (H : Hom p K φ) (hf : Zo p = true) {c : Int} (hc : isC c) {a b : P2} {x1 y1 x2 y2 : K} (h1 : Vl p φ a.1 x1) (h2 : Vl p φ a.2 y1) (h3 : Vl p φ b.1 x2) (h4 : Vl p φ b.2 y2) :
  Vl p φ (Z7p p c a b) (Z4y c x1 y1 x2 y2) := by
 have hp := Zx hf
 rcases hc with rfl | rfl | rfl
 ·show Vl p φ (Z1 p (wrap64 (wrap64 (a.1 * b.1) + wrap64 (a.2 * b.2)))) (x1 * x2 + y1 * y2)
  (with_reducible (repeat' (first | assumption | exact Vl.rw hp (by assumption) | exact Rw.lit _ (by decide) | exact Rw.nlit _ (by decide) | apply Vl.rest H hp | apply Vl.smod H hp | apply Vl.div H hf | apply Vl.inv H hf | apply Vl.sinvV H hf | apply Vl.sinvR H hf | apply Rw.tmod H hp | apply Rw.mul H | apply Rw.neg0 H | apply Rw.sub H | apply Rw.add H | apply Vl.rw hp | decide)))
 ·show Vl p φ (Z1 p (wrap64 (wrap64 (a.1 * b.1) - wrap64 (a.2 * b.2)))) (x1 * x2 - y1 * y2)
  (with_reducible (repeat' (first | assumption | exact Vl.rw hp (by assumption) | exact Rw.lit _ (by decide) | exact Rw.nlit _ (by decide) | apply Vl.rest H hp | apply Vl.smod H hp | apply Vl.div H hf | apply Vl.inv H hf | apply Vl.sinvV H hf | apply Vl.sinvR H hf | apply Rw.tmod H hp | apply Rw.mul H | apply Rw.neg0 H | apply Rw.sub H | apply Rw.add H | apply Vl.rw hp | decide)))
 ·show Vl p φ (Z1 p (wrap64 (wrap64 (a.1 * b.2) + wrap64 (a.2 * b.1)))) (x1 * y2 + y1 * x2)
  (with_reducible (repeat' (first | assumption | exact Vl.rw hp (by assumption) | exact Rw.lit _ (by decide) | exact Rw.nlit _ (by decide) | apply Vl.rest H hp | apply Vl.smod H hp | apply Vl.div H hf | apply Vl.inv H hf | apply Vl.sinvV H hf | apply Vl.sinvR H hf | apply Rw.tmod H hp | apply Rw.mul H | apply Rw.neg0 H | apply Rw.sub H | apply Rw.add H | apply Vl.rw hp | decide)))
theorem Zrh (H : Hom p K φ) (hf : Zo p = true) {a b : P2} {x1 x2 : K} (h1 : Vl p φ a.1 x1) (h3 : Vl p φ b.1 x2) : Vl p φ (Za1 p a b).1 (x1 - x2) := by
 have hp := Zx hf
 unfold Za1
 dsimp only
 (with_reducible (repeat' (first | assumption | exact Vl.rw hp (by assumption) | exact Rw.lit _ (by decide) | exact Rw.nlit _ (by decide) | apply Vl.rest H hp | apply Vl.smod H hp | apply Vl.div H hf | apply Vl.inv H hf | apply Vl.sinvV H hf | apply Vl.sinvR H hf | apply Rw.tmod H hp | apply Rw.mul H | apply Rw.neg0 H | apply Rw.sub H | apply Rw.add H | apply Vl.rw hp | decide)))
theorem Zri (H : Hom p K φ) (hf : Zo p = true) {a b : P2} {x1 x2 : K} (h1 : Vl p φ a.2 x1) (h3 : Vl p φ b.2 x2) : Vl p φ (Za1 p a b).2 (x1 - x2) := by
 have hp := Zx hf
 unfold Za1
 dsimp only
 (with_reducible (repeat' (first | assumption | exact Vl.rw hp (by assumption) | exact Rw.lit _ (by decide) | exact Rw.nlit _ (by decide) | apply Vl.rest H hp | apply Vl.smod H hp | apply Vl.div H hf | apply Vl.inv H hf | apply Vl.sinvV H hf | apply Vl.sinvR H hf | apply Rw.tmod H hp | apply Rw.mul H | apply Rw.neg0 H | apply Rw.sub H | apply Rw.add H | apply Vl.rw hp | decide)))
theorem Z9n (H : Hom p K φ) (hf : Zo p = true) {c : Int} (hc : isC c) {a b : P2} {x1 y1 x2 y2 : K} (h1 : Vl p φ a.1 x1) (h2 : Vl p φ a.2 y1) (h3 : Vl p φ b.1 x2) (h4 : Vl p φ b.2 y2) :
  Vl p φ (Z29 p c a b) (Z4y c (x1 - x2) (y1 - y2) (x1 - x2) (y1 - y2)) :=
 Zmi H hf hc (Zrh H hf h1 h3) (Zri H hf h2 h4) (Zrh H hf h1 h3) (Zri H hf h2 h4)
def Ln (p : Int) (φ : Int -> K) (l : P3) (a b c : K) : Prop := ∃ t : K, t ≠ 0 /\ Vl p φ l.1 (a * t) /\ Vl p φ l.2.1 (b * t) /\ Vl p φ l.2.2 (c * t) /\ (l.1 = 1 \/ l.1 = 0 /\ l.2.1 = 1)
theorem Ln.of (H : Hom p K φ) {l : P3} (h : Z0S p l = true) : Ln p φ l (φ l.1) (φ l.2.1) (φ l.2.2) := by
 obtain ⟨⟨h0, h1, h2⟩, h3⟩ := Z50 h
 refine ⟨1, H.one_ne, ?_, ?_, ?_, h3⟩
 ·exact (Vl.of h0).conv (by grind)
 ·exact (Vl.of h1).conv (by grind)
 ·exact (Vl.of h2).conv (by grind)
theorem Ln.scale {l : P3} {a b c : K} (s : K) (hs : s ≠ 0) {a' b' c' : K} (ea : a = s * a') (eb : b = s * b') (ec : c = s * c') (h : Ln p φ l a b c) : Ln p φ l a' b' c' := by
 obtain ⟨t, ht, h1, h2, h3, h4⟩ := h
 exact ⟨s * t, by grind, h1.conv (by grind), h2.conv (by grind), h3.conv (by grind), h4⟩
theorem Ln.inj (H : Hom p K φ) {l m : P3} {a b c : K} (h1 : Ln p φ l a b c) (h2 : Ln p φ m a b c) : l = m := by
 obtain ⟨t, ht, l0, l1, l2, lk⟩ := h1
 obtain ⟨s, hs, m0, m1, m2, mk⟩ := h2
 have e : t = s := by
  have z0 := Vl.zero_iff H l0; have z0' := Vl.zero_iff H m0
  rcases lk with e1 | ⟨e1, e2⟩ <;> rcases mk with f1 | ⟨f1, f2⟩
  ·have v1 := l0.2; have v2 := m0.2
   rw [e1, H.one] at v1; rw [f1, H.one] at v2
   grind
  ·have v1 := l0.2
   rw [e1, H.one] at v1
   have := z0'.1 f1
   grind
  ·have v2 := m0.2
   rw [f1, H.one] at v2
   have := z0.1 e1
   grind
  ·have v1 := l1.2; have v2 := m1.2
   rw [e2, H.one] at v1; rw [f2, H.one] at v2
   grind
 subst e
 obtain ⟨l0', l1', l2'⟩ := l
 obtain ⟨m0', m1', m2'⟩ := m
 have e0 := Vl.inj H l0 m0; have e1 := Vl.inj H l1 m1; have e2 := Vl.inj H l2 m2
 dsimp only at e0 e1 e2
 rw [e0, e1, e2]
end

end Go.Proofs.Ytfclaacaphpoaaa
