import Derived.Test.YtcdpfpfbilfpoaaGreatDoorQa
import Derived.Test.YtcdpfpfbilfpoaaGreatDoorFb
import Derived.Test.YtcdpfpfbilfpoaaGreatDoorFc
import Derived.Test.YtcdpfpfbilfpoaaGreatDoorFd
set_option linter.unusedSimpArgs false
set_option linter.unusedVariables false
namespace Go.Proofs.YtcdpfpfbilfpoaaGreatDoor
open Go.RowKit
def isC (c : Int) : Prop := c = 0 \/ c = 1 \/ c = 2
theorem ZKk {c : Int} (h : Z05 c = true) : isC c := by
 unfold Z05 at h; unfold isC; simp at h; omega
theorem Zo {p : Int} {a : P2} (h : Z5 p a = true) : (0 <= a.1 /\ a.1 < p) /\ (0 <= a.2 /\ a.2 < p) := by
 unfold Z5 at h
 simpa [ZM, Z1c] using h
theorem Zq7 {p : Int} {l : P3} (h : Z3c p l = true) : ((0 <= l.1 /\ l.1 < p) /\ (0 <= l.2.1 /\ l.2.1 < p) /\ (0 <= l.2.2 /\ l.2.2 < p)) /\ (l.1 = 1 \/ l.1 = 0 /\ l.2.1 = 1) := by
 unfold Z3c at h
 simp [ZM, Z1c] at h
 refine ⟨h.1, ?_⟩
 have h2 := h.2
 omega
section
variable {p : Int} {K : Type} [Lean.Grind.Field K] {φ : Int -> K}
def Z1j (c : Int) (x1 y1 x2 y2 : K) : K := if c = 0 then x1 * x2 + y1 * y2 else if c = 1 then x1 * x2 - y1 * y2 else x1 * y2 + y1 * x2
def frU (c : Int) (x y : K) : K := if c = 2 then y else x
def frV (c : Int) (x y : K) : K := if c = 0 then y else if c = 1 then -y else x
theorem Zn7 {c : Int} (hc : isC c) (x1 y1 x2 y2 : K) : Z1j c x1 y1 x2 y2 = frU c x1 y1 * x2 + frV c x1 y1 * y2 := by
 rcases hc with rfl | rfl | rfl <;> simp [Z1j, frU, frV] <;> grind
theorem Z9J (H : Hom p K φ) (hf : Z6 p = true) {c : Int} (hc : isC c) {a b : P2} {x1 y1 x2 y2 : K} (h1 : Vl p φ a.1 x1) (h2 : Vl p φ a.2 y1) (h3 : Vl p φ b.1 x2) (h4 : Vl p φ b.2 y2) :
  Vl p φ (Z2z p c a b) (Z1j c x1 y1 x2 y2) := by
 have hp := Zy hf
 rcases hc with rfl | rfl | rfl
 ·show Vl p φ (ZF p (wrap64 (wrap64 (a.1 * b.1) + wrap64 (a.2 * b.2)))) (x1 * x2 + y1 * y2)
  (with_reducible (repeat' (first | assumption | exact Vl.rw hp (by assumption) | exact Rw.lit _ (by decide) | exact Rw.nlit _ (by decide) | apply Vl.rest H hp | apply Vl.smod H hp | apply Vl.div H hf | apply Vl.inv H hf | apply Vl.sinvV H hf | apply Vl.sinvR H hf | apply Rw.tmod H hp | apply Rw.mul H | apply Rw.neg0 H | apply Rw.sub H | apply Rw.add H | apply Vl.rw hp | decide)))
 ·show Vl p φ (ZF p (wrap64 (wrap64 (a.1 * b.1) - wrap64 (a.2 * b.2)))) (x1 * x2 - y1 * y2)
  (with_reducible (repeat' (first | assumption | exact Vl.rw hp (by assumption) | exact Rw.lit _ (by decide) | exact Rw.nlit _ (by decide) | apply Vl.rest H hp | apply Vl.smod H hp | apply Vl.div H hf | apply Vl.inv H hf | apply Vl.sinvV H hf | apply Vl.sinvR H hf | apply Rw.tmod H hp | apply Rw.mul H | apply Rw.neg0 H | apply Rw.sub H | apply Rw.add H | apply Vl.rw hp | decide)))
 ·show Vl p φ (ZF p (wrap64 (wrap64 (a.1 * b.2) + wrap64 (a.2 * b.1)))) (x1 * y2 + y1 * x2)
  (with_reducible (repeat' (first | assumption | exact Vl.rw hp (by assumption) | exact Rw.lit _ (by decide) | exact Rw.nlit _ (by decide) | apply Vl.rest H hp | apply Vl.smod H hp | apply Vl.div H hf | apply Vl.inv H hf | apply Vl.sinvV H hf | apply Vl.sinvR H hf | apply Rw.tmod H hp | apply Rw.mul H | apply Rw.neg0 H | apply Rw.sub H | apply Rw.add H | apply Vl.rw hp | decide)))
theorem Z8o (H : Hom p K φ) (hf : Z6 p = true) {a b : P2} {x1 x2 : K} (h1 : Vl p φ a.1 x1) (h3 : Vl p φ b.1 x2) : Vl p φ (Z44 p a b).1 (x1 - x2) := by
 have hp := Zy hf
 unfold Z44
 dsimp only
 (with_reducible (repeat' (first | assumption | exact Vl.rw hp (by assumption) | exact Rw.lit _ (by decide) | exact Rw.nlit _ (by decide) | apply Vl.rest H hp | apply Vl.smod H hp | apply Vl.div H hf | apply Vl.inv H hf | apply Vl.sinvV H hf | apply Vl.sinvR H hf | apply Rw.tmod H hp | apply Rw.mul H | apply Rw.neg0 H | apply Rw.sub H | apply Rw.add H | apply Vl.rw hp | decide)))
theorem Z8p (H : Hom p K φ) (hf : Z6 p = true) {a b : P2} {x1 x2 : K} (h1 : Vl p φ a.2 x1) (h3 : Vl p φ b.2 x2) : Vl p φ (Z44 p a b).2 (x1 - x2) := by
 have hp := Zy hf
 unfold Z44
 dsimp only
 (with_reducible (repeat' (first | assumption | exact Vl.rw hp (by assumption) | exact Rw.lit _ (by decide) | exact Rw.nlit _ (by decide) | apply Vl.rest H hp | apply Vl.smod H hp | apply Vl.div H hf | apply Vl.inv H hf | apply Vl.sinvV H hf | apply Vl.sinvR H hf | apply Rw.tmod H hp | apply Rw.mul H | apply Rw.neg0 H | apply Rw.sub H | apply Rw.add H | apply Vl.rw hp | decide)))
theorem Z4s (H : Hom p K φ) (hf : Z6 p = true) {c : Int} (hc : isC c) {a b : P2} {x1 y1 x2 y2 : K} (h1 : Vl p φ a.1 x1) (h2 : Vl p φ a.2 y1) (h3 : Vl p φ b.1 x2) (h4 : Vl p φ b.2 y2) :
  Vl p φ (ZA p c a b) (Z1j c (x1 - x2) (y1 - y2) (x1 - x2) (y1 - y2)) :=
 Z9J H hf hc (Z8o H hf h1 h3) (Z8p H hf h2 h4) (Z8o H hf h1 h3) (Z8p H hf h2 h4)
theorem Zvn {c : Int} (hc : isC c) (x1 y1 x2 y2 : K) : Z1j c (x1 - x2) (y1 - y2) (x1 - x2) (y1 - y2) = Z1j c (x2 - x1) (y2 - y1) (x2 - x1) (y2 - y1) := by
 rcases hc with rfl | rfl | rfl <;> simp [Z1j] <;> grind
def Ln (p : Int) (φ : Int -> K) (l : P3) (a b c : K) : Prop := ∃ t : K, t ≠ 0 /\ Vl p φ l.1 (a * t) /\ Vl p φ l.2.1 (b * t) /\ Vl p φ l.2.2 (c * t) /\ (l.1 = 1 \/ l.1 = 0 /\ l.2.1 = 1)
theorem Ln.of (H : Hom p K φ) {l : P3} (h : Z3c p l = true) : Ln p φ l (φ l.1) (φ l.2.1) (φ l.2.2) := by
 obtain ⟨⟨h0, h1, h2⟩, h3⟩ := Zq7 h
 refine ⟨1, H.one_ne, ?_, ?_, ?_, h3⟩
 ·exact (Vl.of h0).conv (by grind)
 ·exact (Vl.of h1).conv (by grind)
 ·exact (Vl.of h2).conv (by grind)
theorem Ln.scale {l : P3} {a b c : K} (s : K) (hs : s ≠ 0) {a' b' c' : K} (ea : a = s * a') (eb : b = s * b') (ec : c = s * c') (h : Ln p φ l a b c) : Ln p φ l a' b' c' := by
 obtain ⟨t, ht, h1, h2, h3, h4⟩ := h
 exact ⟨s * t, by grind, h1.conv (by grind), h2.conv (by grind), h3.conv (by grind), h4⟩
theorem Ln.inj (H : Hom p K φ) {l m : P3} {a b c : K} (h1 : Ln p φ l a b c) (h2 : Ln p φ m a b c) : l = m := by
 obtain ⟨t, ht, l0, l1, l2, lk⟩ := h1
 obtain ⟨s, hs, m0, m1, m2, mk⟩ := h2
 have e : t = s := by
  have z0 := Vl.zero_iff H l0; have z0' := Vl.zero_iff H m0
  rcases lk with e1 | ⟨e1, e2⟩ <;> rcases mk with f1 | ⟨f1, f2⟩
  ·have v1 := l0.2; have v2 := m0.2
   rw [e1, H.one] at v1; rw [f1, H.one] at v2
   grind
  ·have v1 := l0.2
   rw [e1, H.one] at v1
   have := z0'.1 f1
   grind
  ·have v2 := m0.2
   rw [f1, H.one] at v2
   have := z0.1 e1
   grind
  ·have v1 := l1.2; have v2 := m1.2
   rw [e2, H.one] at v1; rw [f2, H.one] at v2
   grind
 subst e
 obtain ⟨l0', l1', l2'⟩ := l
 obtain ⟨m0', m1', m2'⟩ := m
 have e0 := Vl.inj H l0 m0; have e1 := Vl.inj H l1 m1; have e2 := Vl.inj H l2 m2
 dsimp only at e0 e1 e2
 rw [e0, e1, e2]
theorem ZnN (H : Hom p K φ) (hf : Z6 p = true) {a b c n1 n2 n3 : Int} {x y z : K} (h1 : Rw φ a x n1) (h2 : Rw φ b y n2) (h3 : Rw φ c z n3) (b1 : n1 * 30 <= 1000000000000) (b2 : n2 * 30 <= 1000000000000) (b3 : n3 * 30 <= 1000000000000) (hn : x ≠ 0 \/ y ≠ 0) : Ln p φ (ZP p a b c) x y z := by
 have hp := Zy hf
 have va : Vl p φ (Zi a p) x := Vl.smod H hp h1
 have vb : Vl p φ (Zi b p) y := Vl.smod H hp h2
 unfold ZP
 cases e : (Zi a p == 0) with
 | true =>
  rw [if_pos rfl]
  have hx : x = 0 := (Vl.zero_iff H va).1 (by simpa using e)
  have hy : y ≠ 0 := by grind
  have vi := Vl.sinvV H hf vb
  have w1 : Vl p φ (Zi (wrap64 (a * ZB (Zi b p) p)) p) (x * y⁻¹) := Vl.smod H hp (Rw.mul H h1 (Vl.rw hp vi) b1)
  have w2 : Vl p φ (Zi (wrap64 (b * ZB (Zi b p) p)) p) (y * y⁻¹) := Vl.smod H hp (Rw.mul H h2 (Vl.rw hp vi) b2)
  have w3 : Vl p φ (Zi (wrap64 (c * ZB (Zi b p) p)) p) (z * y⁻¹) := Vl.smod H hp (Rw.mul H h3 (Vl.rw hp vi) b3)
  refine ⟨y⁻¹, by grind, w1, w2, w3, Or.inr ⟨?_, ?_⟩⟩
  ·exact Vl.inj H (w1.conv (show x * y⁻¹ = 0 by grind)) (Vl.zero H hp)
  ·exact Vl.inj H (w2.conv (show y * y⁻¹ = 1 by grind)) (Vl.one H hf)
 | false =>
  rw [if_neg (by simp)]
  have hx : x ≠ 0 := by
   intro h0
   have := (Vl.zero_iff H va).2 h0
   rw [this] at e
   cases e
  have vi := Vl.sinvV H hf va
  have w1 : Vl p φ (Zi (wrap64 (a * ZB (Zi a p) p)) p) (x * x⁻¹) := Vl.smod H hp (Rw.mul H h1 (Vl.rw hp vi) b1)
  have w2 : Vl p φ (Zi (wrap64 (b * ZB (Zi a p) p)) p) (y * x⁻¹) := Vl.smod H hp (Rw.mul H h2 (Vl.rw hp vi) b2)
  have w3 : Vl p φ (Zi (wrap64 (c * ZB (Zi a p) p)) p) (z * x⁻¹) := Vl.smod H hp (Rw.mul H h3 (Vl.rw hp vi) b3)
  refine ⟨x⁻¹, by grind, w1, w2, w3, Or.inl ?_⟩
  exact Vl.inj H (w1.conv (show x * x⁻¹ = 1 by grind)) (Vl.one H hf)
theorem ZP9 (H : Hom p K φ) (hf : Z6 p = true) {a b c n1 n2 n3 : Int} {x y z : K} (h1 : Rw φ a x n1) (h2 : Rw φ b y n2) (h3 : Rw φ c z n3) (hn : x ≠ 0 \/ y ≠ 0) : Ln p φ (Zbi p a b c) x y z := by
 have hp := Zy hf
 have va : Vl p φ (ZF p a) x := Vl.rest H hp h1
 have vb : Vl p φ (ZF p b) y := Vl.rest H hp h2
 have vc : Vl p φ (ZF p c) z := Vl.rest H hp h3
 unfold Zbi
 cases e : (ZF p a == 0) with
 | true =>
  rw [if_pos rfl]
  have hx : x = 0 := (Vl.zero_iff H va).1 (by simpa using e)
  have hy : y ≠ 0 := by grind
  have w1 : Vl p φ (Z0L p (ZF p a) (ZF p b)) (x * y⁻¹) := Vl.div H hf (Vl.rw hp va) vb (by decide)
  have w2 : Vl p φ (Z0L p (ZF p b) (ZF p b)) (y * y⁻¹) := Vl.div H hf (Vl.rw hp vb) vb (by decide)
  have w3 : Vl p φ (Z0L p (ZF p c) (ZF p b)) (z * y⁻¹) := Vl.div H hf (Vl.rw hp vc) vb (by decide)
  refine ⟨y⁻¹, by grind, w1, w2, w3, Or.inr ⟨?_, ?_⟩⟩
  ·exact Vl.inj H (w1.conv (show x * y⁻¹ = 0 by grind)) (Vl.zero H hp)
  ·exact Vl.inj H (w2.conv (show y * y⁻¹ = 1 by grind)) (Vl.one H hf)
 | false =>
  rw [if_neg (by simp)]
  have hx : x ≠ 0 := by
   intro h0
   have := (Vl.zero_iff H va).2 h0
   rw [this] at e
   cases e
  have w1 : Vl p φ (Z0L p (ZF p a) (ZF p a)) (x * x⁻¹) := Vl.div H hf (Vl.rw hp va) va (by decide)
  have w2 : Vl p φ (Z0L p (ZF p b) (ZF p a)) (y * x⁻¹) := Vl.div H hf (Vl.rw hp vb) va (by decide)
  have w3 : Vl p φ (Z0L p (ZF p c) (ZF p a)) (z * x⁻¹) := Vl.div H hf (Vl.rw hp vc) va (by decide)
  refine ⟨x⁻¹, by grind, w1, w2, w3, Or.inl ?_⟩
  exact Vl.inj H (w1.conv (show x * x⁻¹ = 1 by grind)) (Vl.one H hf)
end

theorem ZfU {p : Int} {K : Type} {φ : Int -> K} {l : P3} {x : K} (h : Vl p φ l.1 x) : Vl p φ (Z7P p l).2 x := h
section
variable {p : Int} {K : Type} [Lean.Grind.Field K] {φ : Int -> K}
theorem Zkn (H : Hom p K φ) (hf : Z6 p = true) {c : Int} (hc : isC c) {d a : P2} {d1 d2 x y : K} (h1 : Vl p φ d.1 d1) (h2 : Vl p φ d.2 d2) (h3 : Vl p φ a.1 x) (h4 : Vl p φ a.2 y) (hn : d1 ≠ 0 \/ d2 ≠ 0) :
  Ln p φ (Z1V p c d a) (frU c d1 d2) (frV c d1 d2) (-(frU c d1 d2 * x + frV c d1 d2 * y)) := by
 have hp := Zy hf
 rcases hc with rfl | rfl | rfl
 ·show Ln p φ (ZP p d.1 d.2 (Zi (wrap64 (0 - wrap64 (wrap64 (d.1 * a.1) + wrap64 (d.2 * a.2)))) p)) d1 d2 (-(d1 * x + d2 * y))
  have v : Vl p φ (Zi (wrap64 (0 - wrap64 (wrap64 (d.1 * a.1) + wrap64 (d.2 * a.2)))) p) (-(d1 * x + d2 * y)) := by (with_reducible (repeat' (first | assumption | exact Vl.rw hp (by assumption) | exact Rw.lit _ (by decide) | exact Rw.nlit _ (by decide) | apply Vl.rest H hp | apply Vl.smod H hp | apply Vl.div H hf | apply Vl.inv H hf | apply Vl.sinvV H hf | apply Vl.sinvR H hf | apply Rw.tmod H hp | apply Rw.mul H | apply Rw.neg0 H | apply Rw.sub H | apply Rw.add H | apply Vl.rw hp | decide)))
  exact ZnN H hf (Vl.rw hp h1) (Vl.rw hp h2) (Vl.rw hp v) (by decide) (by decide) (by decide) hn
 ·show Ln p φ (ZP p d.1 (Zi (wrap64 (0 - d.2)) p) (Zi (wrap64 (0 - wrap64 (wrap64 (d.1 * a.1) + wrap64 (Zi (wrap64 (0 - d.2)) p * a.2)))) p)) d1 (-d2) (-(d1 * x + -d2 * y))
  have u : Vl p φ (Zi (wrap64 (0 - d.2)) p) (-d2) := by (with_reducible (repeat' (first | assumption | exact Vl.rw hp (by assumption) | exact Rw.lit _ (by decide) | exact Rw.nlit _ (by decide) | apply Vl.rest H hp | apply Vl.smod H hp | apply Vl.div H hf | apply Vl.inv H hf | apply Vl.sinvV H hf | apply Vl.sinvR H hf | apply Rw.tmod H hp | apply Rw.mul H | apply Rw.neg0 H | apply Rw.sub H | apply Rw.add H | apply Vl.rw hp | decide)))
  have v : Vl p φ (Zi (wrap64 (0 - wrap64 (wrap64 (d.1 * a.1) + wrap64 (Zi (wrap64 (0 - d.2)) p * a.2)))) p) (-(d1 * x + -d2 * y)) := by (with_reducible (repeat' (first | assumption | exact Vl.rw hp (by assumption) | exact Rw.lit _ (by decide) | exact Rw.nlit _ (by decide) | apply Vl.rest H hp | apply Vl.smod H hp | apply Vl.div H hf | apply Vl.inv H hf | apply Vl.sinvV H hf | apply Vl.sinvR H hf | apply Rw.tmod H hp | apply Rw.mul H | apply Rw.neg0 H | apply Rw.sub H | apply Rw.add H | apply Vl.rw hp | decide)))
  exact ZnN H hf (Vl.rw hp h1) (Vl.rw hp u) (Vl.rw hp v) (by decide) (by decide) (by decide) (by grind)
 ·show Ln p φ (ZP p d.2 d.1 (Zi (wrap64 (0 - wrap64 (wrap64 (d.2 * a.1) + wrap64 (d.1 * a.2)))) p)) d2 d1 (-(d2 * x + d1 * y))
  have v : Vl p φ (Zi (wrap64 (0 - wrap64 (wrap64 (d.2 * a.1) + wrap64 (d.1 * a.2)))) p) (-(d2 * x + d1 * y)) := by (with_reducible (repeat' (first | assumption | exact Vl.rw hp (by assumption) | exact Rw.lit _ (by decide) | exact Rw.nlit _ (by decide) | apply Vl.rest H hp | apply Vl.smod H hp | apply Vl.div H hf | apply Vl.inv H hf | apply Vl.sinvV H hf | apply Vl.sinvR H hf | apply Rw.tmod H hp | apply Rw.mul H | apply Rw.neg0 H | apply Rw.sub H | apply Rw.add H | apply Vl.rw hp | decide)))
  exact ZnN H hf (Vl.rw hp h2) (Vl.rw hp h1) (Vl.rw hp v) (by decide) (by decide) (by decide) (by grind)
theorem ZfT (H : Hom p K φ) (hf : Z6 p = true) {l : P3} {y : K} (h : Vl p φ l.2.1 y) : Vl p φ (Z7P p l).1 (-y) := by
 have hp := Zy hf
 unfold Z7P
 dsimp only
 (with_reducible (repeat' (first | assumption | exact Vl.rw hp (by assumption) | exact Rw.lit _ (by decide) | exact Rw.nlit _ (by decide) | apply Vl.rest H hp | apply Vl.smod H hp | apply Vl.div H hf | apply Vl.inv H hf | apply Vl.sinvV H hf | apply Vl.sinvR H hf | apply Rw.tmod H hp | apply Rw.mul H | apply Rw.neg0 H | apply Rw.sub H | apply Rw.add H | apply Vl.rw hp | decide)))
theorem ZPJ {c : Int} (hc : isC c) {x y : K} (h : x ≠ 0 \/ y ≠ 0) : frU c x y ≠ 0 \/ frV c x y ≠ 0 := by
 rcases hc with rfl | rfl | rfl <;> simp [frU, frV] <;> grind
theorem Zkp {p : Int} {a : P2} {m : P3} : m ∈ Z0c p a ↔ m = (0, 1, ZF p (wrap64 (0 - a.2))) \/ ∃ b : Int, (0 <= b /\ b < p) /\ m = (1, b, ZF p (wrap64 (wrap64 (0 - a.1) - wrap64 (b * a.2)))) := by
 unfold Z0c
 simp only [List.mem_cons, List.mem_map, List.mem_range]
 constructor
 ·rintro (h | ⟨k, hk, rfl⟩)
  ·exact Or.inl h
  ·exact Or.inr ⟨k, by omega, rfl⟩
 ·rintro (h | ⟨b, hb, rfl⟩)
  ·exact Or.inl h
  ·exact Or.inr ⟨b.toNat, by omega, by rw [show ((b.toNat : Nat) : Int) = b from by omega]⟩
theorem ZOj (H : Hom p K φ) (hf : Z6 p = true) {a : P2} {x y : K} (h3 : Vl p φ a.1 x) (h4 : Vl p φ a.2 y) {m : P3} (hm : m ∈ Z0c p a) : ∃ u v : K, (u ≠ 0 \/ v ≠ 0) /\ Ln p φ m u v (-(u * x + v * y)) /\ Vl p φ m.1 u /\ Vl p φ m.2.1 v := by
 have hp := Zy hf
 rcases Zkp.1 hm with rfl | ⟨b, hb, rfl⟩
 ·have v : Vl p φ (ZF p (wrap64 (0 - a.2))) (-y) := by (with_reducible (repeat' (first | assumption | exact Vl.rw hp (by assumption) | exact Rw.lit _ (by decide) | exact Rw.nlit _ (by decide) | apply Vl.rest H hp | apply Vl.smod H hp | apply Vl.div H hf | apply Vl.inv H hf | apply Vl.sinvV H hf | apply Vl.sinvR H hf | apply Rw.tmod H hp | apply Rw.mul H | apply Rw.neg0 H | apply Rw.sub H | apply Rw.add H | apply Vl.rw hp | decide)))
  refine ⟨0, 1, Or.inr H.one_ne, ⟨1, H.one_ne, (Vl.zero H hp).conv (by grind), (Vl.one H hf).conv (by grind), v.conv (by grind), Or.inr ⟨rfl, rfl⟩⟩, Vl.zero H hp, Vl.one H hf⟩
 ·have hb' : Vl p φ b (φ b) := Vl.of hb
  have v : Vl p φ (ZF p (wrap64 (wrap64 (0 - a.1) - wrap64 (b * a.2)))) (-x - φ b * y) := by (with_reducible (repeat' (first | assumption | exact Vl.rw hp (by assumption) | exact Rw.lit _ (by decide) | exact Rw.nlit _ (by decide) | apply Vl.rest H hp | apply Vl.smod H hp | apply Vl.div H hf | apply Vl.inv H hf | apply Vl.sinvV H hf | apply Vl.sinvR H hf | apply Rw.tmod H hp | apply Rw.mul H | apply Rw.neg0 H | apply Rw.sub H | apply Rw.add H | apply Vl.rw hp | decide)))
  refine ⟨1, φ b, Or.inl H.one_ne, ⟨1, H.one_ne, (Vl.one H hf).conv (by grind), hb'.conv (by grind), v.conv (by grind), Or.inl rfl⟩, Vl.one H hf, hb'⟩
theorem ZOi (H : Hom p K φ) (hf : Z6 p = true) {a : P2} {x y : K} (h3 : Vl p φ a.1 x) (h4 : Vl p φ a.2 y) (u v : K) (hn : u ≠ 0 \/ v ≠ 0) : ∃ m ∈ Z0c p a, Ln p φ m u v (-(u * x + v * y)) := by
 have hp := Zy hf
 by_cases hu : u = 0
 ·have hv : v ≠ 0 := by grind
  refine ⟨_, Zkp.2 (Or.inl rfl), ?_⟩
  have w : Vl p φ (ZF p (wrap64 (0 - a.2))) (-y) := by (with_reducible (repeat' (first | assumption | exact Vl.rw hp (by assumption) | exact Rw.lit _ (by decide) | exact Rw.nlit _ (by decide) | apply Vl.rest H hp | apply Vl.smod H hp | apply Vl.div H hf | apply Vl.inv H hf | apply Vl.sinvV H hf | apply Vl.sinvR H hf | apply Rw.tmod H hp | apply Rw.mul H | apply Rw.neg0 H | apply Rw.sub H | apply Rw.add H | apply Vl.rw hp | decide)))
  exact ⟨v⁻¹, by grind, (Vl.zero H hp).conv (by grind), (Vl.one H hf).conv (by grind), w.conv (by grind), Or.inr ⟨rfl, rfl⟩⟩
 ·obtain ⟨b, b1, b2, b3⟩ := H.sur (v * u⁻¹)
  have hb' : Vl p φ b (v * u⁻¹) := ⟨⟨b1, b2⟩, b3⟩
  refine ⟨_, Zkp.2 (Or.inr ⟨b, ⟨b1, b2⟩, rfl⟩), ?_⟩
  have w : Vl p φ (ZF p (wrap64 (wrap64 (0 - a.1) - wrap64 (b * a.2)))) (-x - v * u⁻¹ * y) := by (with_reducible (repeat' (first | assumption | exact Vl.rw hp (by assumption) | exact Rw.lit _ (by decide) | exact Rw.nlit _ (by decide) | apply Vl.rest H hp | apply Vl.smod H hp | apply Vl.div H hf | apply Vl.inv H hf | apply Vl.sinvV H hf | apply Vl.sinvR H hf | apply Rw.tmod H hp | apply Rw.mul H | apply Rw.neg0 H | apply Rw.sub H | apply Rw.add H | apply Vl.rw hp | decide)))
  exact ⟨u⁻¹, by grind, (Vl.one H hf).conv (by grind), hb'.conv (by grind), w.conv (by grind), Or.inl rfl⟩
theorem ZsH (H : Hom p K φ) (hf : Z6 p = true) {c : Int} (hc : isC c) {l m : P3} {l1 l2 m1 m2 : K} (h1 : Vl p φ l.1 l1) (h2 : Vl p φ l.2.1 l2) (h3 : Vl p φ m.1 m1) (h4 : Vl p φ m.2.1 m2) :
  Z0o p c l m = true ↔ Z1j c (-l2) l1 (-m2) m1 = 0 := by
 have v := Z9J H hf hc (ZfT H hf h2) (ZfU h1) (ZfT H hf h4) (ZfU h3)
 unfold Z0o
 rw [beq_iff_eq]
 exact Vl.zero_iff H v
theorem Zjg (H : Hom p K φ) (hf : Z6 p = true) {c : Int} (hc : isC c) {l : P3} {a : P2} {l1 l2 x y : K} (h1 : Vl p φ l.1 l1) (h2 : Vl p φ l.2.1 l2) (h3 : Vl p φ a.1 x) (h4 : Vl p φ a.2 y) (hn : l1 ≠ 0 \/ l2 ≠ 0) :
  Ln p φ (Z3T p c l a) (frU c (-l2) l1) (frV c (-l2) l1) (-(frU c (-l2) l1 * x + frV c (-l2) l1 * y)) := by
 obtain ⟨m, hm, hl⟩ := ZOi H hf h3 h4 (frU c (-l2) l1) (frV c (-l2) l1) (ZPJ hc (by grind))
 have hfind : (Z0c p a).find? (fun zz => Z0o p c l zz) = some m := by
  refine ZEL hm ?_ ?_
  ·obtain ⟨t, ht, m0, m1, m2, _⟩ := hl
   rw [ZsH H hf hc h1 h2 m0 m1, Zn7 hc]
   grind
  ·intro b hb hq
   obtain ⟨u, v, huv, hlb, b0, b1⟩ := ZOj H hf h3 h4 hb
   rw [ZsH H hf hc h1 h2 b0 b1, Zn7 hc] at hq
   have hne := ZPJ hc (show -l2 ≠ 0 \/ l1 ≠ 0 by grind)
   refine Ln.inj H hlb (a := u) (b := v) (c := -(u * x + v * y)) ?_
   generalize frU c (-l2) l1 = U at hq hne hl
   generalize frV c (-l2) l1 = V at hq hne hl
   by_cases hU : U = 0
   ·have hu : u = 0 := by grind
    refine Ln.scale (V * v⁻¹) (by grind) (by grind) (by grind) (by grind) hl
   ·have hu : u ≠ 0 := by grind
    refine Ln.scale (U * u⁻¹) (by grind) (by grind) (by grind) (by grind) hl
 unfold Z3T
 rw [ZLo, hfind]
 exact hl
theorem ZHA (H : Hom p K φ) (hf : Z6 p = true) {a b c d : Int} {x y z w : K} (h1 : Vl p φ a x) (h2 : Vl p φ b y) (h3 : Vl p φ c z) (h4 : Vl p φ d w) : Vl p φ (ZF p (wrap64 (wrap64 (a * b) - wrap64 (c * d)))) (x * y - z * w) := by
 have hp := Zy hf
 (with_reducible (repeat' (first | assumption | exact Vl.rw hp (by assumption) | exact Rw.lit _ (by decide) | exact Rw.nlit _ (by decide) | apply Vl.rest H hp | apply Vl.smod H hp | apply Vl.div H hf | apply Vl.inv H hf | apply Vl.sinvV H hf | apply Vl.sinvR H hf | apply Rw.tmod H hp | apply Rw.mul H | apply Rw.neg0 H | apply Rw.sub H | apply Rw.add H | apply Vl.rw hp | decide)))
theorem ZPE (H : Hom p K φ) (hf : Z6 p = true) {l m : P3} {l0 l1 l2 m0 m1 m2 : K} (h0 : Vl p φ l.1 l0) (h1 : Vl p φ l.2.1 l1) (h2 : Vl p φ l.2.2 l2) (g0 : Vl p φ m.1 m0) (g1 : Vl p φ m.2.1 m1) (g2 : Vl p φ m.2.2 m2) :
  Vl p φ (Zcc p l m).1 ((l1 * m2 - l2 * m1) * (l0 * m1 - l1 * m0)⁻¹) /\ Vl p φ (Zcc p l m).2 ((l2 * m0 - l0 * m2) * (l0 * m1 - l1 * m0)⁻¹) := by
 have hp := Zy hf
 unfold Zcc
 dsimp only
 have d := ZHA H hf h0 g1 h1 g0
 exact ⟨Vl.div H hf (Vl.rw hp (ZHA H hf h1 g2 h2 g1)) d (by decide), Vl.div H hf (Vl.rw hp (ZHA H hf h2 g0 h0 g2)) d (by decide)⟩
theorem ZCu (H : Hom p K φ) (hf : Z6 p = true) {l m : P3} {l0 l1 l2 m0 m1 m2 : K} (h0 : Vl p φ l.1 l0) (h1 : Vl p φ l.2.1 l1) (h2 : Vl p φ l.2.2 l2) (g0 : Vl p φ m.1 m0) (g1 : Vl p φ m.2.1 m1) (g2 : Vl p φ m.2.2 m2) :
  (Vl p φ (Z1N p l m).1.1 ((l1 * m2 - l2 * m1) * (l0 * m1 - l1 * m0)⁻¹) /\ Vl p φ (Z1N p l m).1.2 ((l2 * m0 - l0 * m2) * (l0 * m1 - l1 * m0)⁻¹)) /\ ((Z1N p l m).2 = true ↔ l0 * m1 - l1 * m0 ≠ 0) := by
 have hp := Zy hf
 have d : Vl p φ (Zi (wrap64 (wrap64 (l.1 * m.2.1) - wrap64 (l.2.1 * m.1))) p) (l0 * m1 - l1 * m0) := ZHA H hf h0 g1 h1 g0
 have z := Vl.zero_iff H d
 unfold Z1N
 cases e : (Zi (wrap64 (wrap64 (l.1 * m.2.1) - wrap64 (l.2.1 * m.1))) p == 0) with
 | true =>
  rw [if_pos rfl]
  have hd := z.1 (by simpa using e)
  rw [hd]
  refine ⟨⟨(Vl.zero H hp).conv (by grind), (Vl.zero H hp).conv (by grind)⟩, by simp⟩
 | false =>
  rw [if_neg (by simp)]
  have hd : l0 * m1 - l1 * m0 ≠ 0 := by
   intro h
   have := z.2 h
   rw [this] at e
   cases e
  have i := Vl.sinvV H hf d
  refine ⟨⟨?_, ?_⟩, by simpa using hd⟩
  ·have : Vl p φ (Zi (wrap64 ((wrap64 (wrap64 (l.2.1 * m.2.2) - wrap64 (m.2.1 * l.2.2))).tmod p * ZB (Zi (wrap64 (wrap64 (l.1 * m.2.1) - wrap64 (l.2.1 * m.1))) p) p)) p) ((l1 * m2 - m1 * l2) * (l0 * m1 - l1 * m0)⁻¹) := by (with_reducible (repeat' (first | assumption | exact Vl.rw hp (by assumption) | exact Rw.lit _ (by decide) | exact Rw.nlit _ (by decide) | apply Vl.rest H hp | apply Vl.smod H hp | apply Vl.div H hf | apply Vl.inv H hf | apply Vl.sinvV H hf | apply Vl.sinvR H hf | apply Rw.tmod H hp | apply Rw.mul H | apply Rw.neg0 H | apply Rw.sub H | apply Rw.add H | apply Vl.rw hp | decide)))
   exact this.conv (by grind)
  ·have : Vl p φ (Zi (wrap64 ((wrap64 (wrap64 (m.1 * l.2.2) - wrap64 (l.1 * m.2.2))).tmod p * ZB (Zi (wrap64 (wrap64 (l.1 * m.2.1) - wrap64 (l.2.1 * m.1))) p) p)) p) ((m0 * l2 - l0 * m2) * (l0 * m1 - l1 * m0)⁻¹) := by (with_reducible (repeat' (first | assumption | exact Vl.rw hp (by assumption) | exact Rw.lit _ (by decide) | exact Rw.nlit _ (by decide) | apply Vl.rest H hp | apply Vl.smod H hp | apply Vl.div H hf | apply Vl.inv H hf | apply Vl.sinvV H hf | apply Vl.sinvR H hf | apply Rw.tmod H hp | apply Rw.mul H | apply Rw.neg0 H | apply Rw.sub H | apply Rw.add H | apply Vl.rw hp | decide)))
   exact this.conv (by grind)
theorem ZH2 {a b : P2} (h1 : a.1 = b.1) (h2 : a.2 = b.2) : a = b := Prod.ext h1 h2
theorem Zvf (H : Hom p K φ) (hf : Z6 p = true) {l m : P3} {l0 l1 l2 m0 m1 m2 : K} (h0 : Vl p φ l.1 l0) (h1 : Vl p φ l.2.1 l1) (h2 : Vl p φ l.2.2 l2) (g0 : Vl p φ m.1 m0) (g1 : Vl p φ m.2.1 m1) (g2 : Vl p φ m.2.2 m2) : Zcc p l m = (Z1N p l m).1 := by
 have a := ZPE H hf h0 h1 h2 g0 g1 g2
 have b := (ZCu H hf h0 h1 h2 g0 g1 g2).1
 exact ZH2 (Vl.inj H a.1 b.1) (Vl.inj H a.2 b.2)
theorem Ln.meet (H : Hom p K φ) (hf : Z6 p = true) {l m : P3} {a b c a' b' c' : K} (h1 : Ln p φ l a b c) (h2 : Ln p φ m a' b' c') (hd : a * b' - b * a' ≠ 0) :
  Zcc p l m = (Z1N p l m).1 /\ (Z1N p l m).2 = true /\ ∃ X Y : K, Vl p φ (Z1N p l m).1.1 X /\ Vl p φ (Z1N p l m).1.2 Y /\ a * X + b * Y + c = 0 /\ a' * X + b' * Y + c' = 0 := by
 obtain ⟨s, hs, p0, p1, p2, pk⟩ := h1
 obtain ⟨t, ht, q0, q1, q2, qk⟩ := h2
 have v := ZCu H hf p0 p1 p2 q0 q1 q2
 have hst : s * t ≠ 0 := by grind
 have hdet : a * s * (b' * t) - b * s * (a' * t) ≠ 0 := by
  have e : a * s * (b' * t) - b * s * (a' * t) = (s * t) * (a * b' - b * a') := by grind
  rw [e]
  grind
 refine ⟨Zvf H hf p0 p1 p2 q0 q1 q2, v.2.2 hdet, _, _, v.1.1, v.1.2, ?_, ?_⟩
 ·generalize hD : a * s * (b' * t) - b * s * (a' * t) = D at hdet
  have hDi : D * D⁻¹ = 1 := Lean.Grind.Field.mul_inv_cancel hdet
  generalize D⁻¹ = E at hDi
  clear v p0 p1 p2 q0 q1 q2 pk qk
  have hs' : s * s⁻¹ = 1 := Lean.Grind.Field.mul_inv_cancel hs
  generalize s⁻¹ = s' at hs'
  grind
 ·generalize hD : a * s * (b' * t) - b * s * (a' * t) = D at hdet
  have hDi : D * D⁻¹ = 1 := Lean.Grind.Field.mul_inv_cancel hdet
  generalize D⁻¹ = E at hDi
  clear v p0 p1 p2 q0 q1 q2 pk qk
  have ht' : t * t⁻¹ = 1 := Lean.Grind.Field.mul_inv_cancel ht
  generalize t⁻¹ = t' at ht'
  grind
theorem Ln.par (H : Hom p K φ) (hf : Z6 p = true) {l m : P3} {a b c a' b' c' : K} (h1 : Ln p φ l a b c) (h2 : Ln p φ m a' b' c') : (Z1N p l m).2 = true ↔ a * b' - b * a' ≠ 0 := by
 obtain ⟨s, hs, p0, p1, p2, pk⟩ := h1
 obtain ⟨t, ht, q0, q1, q2, qk⟩ := h2
 rw [(ZCu H hf p0 p1 p2 q0 q1 q2).2]
 have hst : s * t ≠ 0 := by grind
 have e : a * s * (b' * t) - b * s * (a' * t) = (s * t) * (a * b' - b * a') := by grind
 rw [e]
 grind
theorem Z62 (H : Hom p K φ) (hf : Z6 p = true) {a b : P2} {x1 y1 x2 y2 : K} (h1 : Vl p φ a.1 x1) (h2 : Vl p φ a.2 y1) (h3 : Vl p φ b.1 x2) (h4 : Vl p φ b.2 y2) (hn : x1 ≠ x2 \/ y1 ≠ y2) :
  Ln p φ (Zr p a b) (y2 - y1) (x1 - x2) (x2 * y1 - x1 * y2) := by
 have hp := Zy hf
 have d1 := Z8o H hf h3 h1
 have d2 := Z8p H hf h4 h2
 unfold Zr ZfY
 have w1 : Rw φ (wrap64 (0 - (Z44 p b a).1)) (-(x2 - x1)) 30 := Rw.neg0 H (Vl.rw hp d1) (by decide)
 have w2 : Rw φ (wrap64 (0 - wrap64 (wrap64 ((Z44 p b a).2 * a.1) + wrap64 (wrap64 (0 - (Z44 p b a).1) * a.2)))) (-((y2 - y1) * x1 + -(x2 - x1) * y1)) (30 * 30 + 30 * 30) := by (with_reducible (repeat' (first | assumption | exact Vl.rw hp (by assumption) | exact Rw.lit _ (by decide) | exact Rw.nlit _ (by decide) | apply Vl.rest H hp | apply Vl.smod H hp | apply Vl.div H hf | apply Vl.inv H hf | apply Vl.sinvV H hf | apply Vl.sinvR H hf | apply Rw.tmod H hp | apply Rw.mul H | apply Rw.neg0 H | apply Rw.sub H | apply Rw.add H | apply Vl.rw hp | decide)))
 refine Ln.scale 1 H.one_ne (by grind) (by grind) (by grind) (ZP9 H hf (Vl.rw hp d2) w1 w2 ?_)
 grind
theorem ZIZ (H : Hom p K φ) (hf : Z6 p = true) {a b : P2} {x1 y1 x2 y2 : K} (h1 : Vl p φ a.1 x1) (h2 : Vl p φ a.2 y1) (h3 : Vl p φ b.1 x2) (h4 : Vl p φ b.2 y2) (hn : x1 ≠ x2 \/ y1 ≠ y2) :
  Ln p φ (Zx p a b) (y2 - y1) (x1 - x2) (x2 * y1 - x1 * y2) := by
 have hp := Zy hf
 unfold Zx
 have w1 : Rw φ (wrap64 (a.2 - b.2)) (y1 - y2) (30 + 30) := by (with_reducible (repeat' (first | assumption | exact Vl.rw hp (by assumption) | exact Rw.lit _ (by decide) | exact Rw.nlit _ (by decide) | apply Vl.rest H hp | apply Vl.smod H hp | apply Vl.div H hf | apply Vl.inv H hf | apply Vl.sinvV H hf | apply Vl.sinvR H hf | apply Rw.tmod H hp | apply Rw.mul H | apply Rw.neg0 H | apply Rw.sub H | apply Rw.add H | apply Vl.rw hp | decide)))
 have w2 : Rw φ (wrap64 (b.1 - a.1)) (x2 - x1) (30 + 30) := by (with_reducible (repeat' (first | assumption | exact Vl.rw hp (by assumption) | exact Rw.lit _ (by decide) | exact Rw.nlit _ (by decide) | apply Vl.rest H hp | apply Vl.smod H hp | apply Vl.div H hf | apply Vl.inv H hf | apply Vl.sinvV H hf | apply Vl.sinvR H hf | apply Rw.tmod H hp | apply Rw.mul H | apply Rw.neg0 H | apply Rw.sub H | apply Rw.add H | apply Vl.rw hp | decide)))
 have w3 : Rw φ (wrap64 (wrap64 (a.1 * b.2) - wrap64 (b.1 * a.2))) (x1 * y2 - x2 * y1) (30 * 30 + 30 * 30) := by (with_reducible (repeat' (first | assumption | exact Vl.rw hp (by assumption) | exact Rw.lit _ (by decide) | exact Rw.nlit _ (by decide) | apply Vl.rest H hp | apply Vl.smod H hp | apply Vl.div H hf | apply Vl.inv H hf | apply Vl.sinvV H hf | apply Vl.sinvR H hf | apply Rw.tmod H hp | apply Rw.mul H | apply Rw.neg0 H | apply Rw.sub H | apply Rw.add H | apply Vl.rw hp | decide)))
 refine Ln.scale (-1) (by have := H.one_ne; grind) (by grind) (by grind) (by grind) (ZnN H hf w1 w2 w3 (by decide) (by decide) (by decide) ?_)
 grind
theorem ZF3 {a b : P2} {x1 y1 x2 y2 : K} (H : Hom p K φ) (h1 : Vl p φ a.1 x1) (h2 : Vl p φ a.2 y1) (h3 : Vl p φ b.1 x2) (h4 : Vl p φ b.2 y2) (h : a ≠ b) : x1 ≠ x2 \/ y1 ≠ y2 := by
 by_cases e1 : x1 = x2
 ·refine Or.inr fun e2 => h (ZH2 ?_ ?_)
  ·exact (Vl.eq_iff H h1 h3).2 e1
  ·exact (Vl.eq_iff H h2 h4).2 e2
 ·exact Or.inl e1
end

theorem ZOx {p : Int} (hp : Pr p) (a : P2) : Z7d p a = Z5 p a := by
 unfold Z7d Z5
 simp [ZO8 hp, ZM]
theorem ZP8 {p : Int} (hp : Pr p) (l : P3) : Za6 p l = Z3c p l := by
 unfold Za6 Z3c
 simp only [ZO8 hp]
 cases h0 : Z0p p l.1 <;> cases h1 : Z0p p l.2.1 <;> cases h2 : Z0p p l.2.2 <;> simp [ZM, h0, h1, h2]
theorem pointcode (p : Int) (k : Bool) (l : List P2) : ZW p l = ZK p k (ZE p l) := by
 unfold ZW ZK Z06
 cases h : Z6 p
 ·rfl
 ·have e : l.all (fun x => Z7d p x) = ZE p l := by unfold ZE; congr 1; funext a; exact ZOx (Zy h) a
  rw [e]
theorem linecode (p : Int) (k : Bool) (l : P3) : Zbr p [l] = ZK p k (Z3c p l) := by
 unfold Zbr ZK Z06
 cases h : Z6 p
 ·rfl
 ·simp [ZP8 (Zy h)]
theorem bothcode (p : Int) (k : Bool) (a : P2) (l : P3) : Z0J p a l = ZK p k (if Z5 p a = true then Z3c p l else false) := by
 unfold Z0J
 rw [pointcode p k, linecode p k, show ZE p [a] = Z5 p a from by simp [ZE]]
 unfold ZK
 cases Z6 p <;> cases Z5 p a <;> cases Z3c p l <;> rfl
theorem ZfV (c : Int) : Z2a c = Z05 c := by
 unfold Z2a Z05 Z1U
 rfl
theorem colourcode (p c : Int) (k : Bool) (n : Nat) (l : List Int) : Z0e p c n l = ZK p k (if Z05 c = true then ZE p (Z5v n l) else false) := by
 unfold Z0e
 rw [pointcode p k, ZfV]
 unfold ZK
 cases Z6 p <;> cases Z05 c <;> cases ZE p (Z5v n l) <;> rfl
theorem ZEz (p : Int) (a b c : P2) (h : Z6 p = true) (ha : Z5 p a = true) (hb : Z5 p b = true) (hc : Z5 p c = true) : Z8L p a b c = Zcb p a b c := by
 have hp := Zy h
 obtain ⟨K, inst, φ, H⟩ := Z7C h
 have a1 := Vl.of (φ := φ) (Zo ha).1; have a2 := Vl.of (φ := φ) (Zo ha).2
 have b1 := Vl.of (φ := φ) (Zo hb).1; have b2 := Vl.of (φ := φ) (Zo hb).2
 have c1 := Vl.of (φ := φ) (Zo hc).1; have c2 := Vl.of (φ := φ) (Zo hc).2
 have hf := h
 have v : Vl p φ (Z8L p a b c) ((φ b.1 - φ a.1) * (φ c.2 - φ a.2) - (φ b.2 - φ a.2) * (φ c.1 - φ a.1)) := by
  unfold Z8L
  (with_reducible (repeat' (first | assumption | exact Vl.rw hp (by assumption) | exact Rw.lit _ (by decide) | exact Rw.nlit _ (by decide) | apply Vl.rest H hp | apply Vl.smod H hp | apply Vl.div H hf | apply Vl.inv H hf | apply Vl.sinvV H hf | apply Vl.sinvR H hf | apply Rw.tmod H hp | apply Rw.mul H | apply Rw.neg0 H | apply Rw.sub H | apply Rw.add H | apply Vl.rw hp | decide)))
 have w : Vl p φ (Zcb p a b c) ((φ b.1 - φ a.1) * (φ c.2 - φ a.2) - (φ b.2 - φ a.2) * (φ c.1 - φ a.1)) := by
  have d1 := Z8o H hf b1 a1; have d2 := Z8p H hf b2 a2; have e1 := Z8o H hf c1 a1; have e2 := Z8p H hf c2 a2
  unfold Zcb
  (with_reducible (repeat' (first | assumption | exact Vl.rw hp (by assumption) | exact Rw.lit _ (by decide) | exact Rw.nlit _ (by decide) | apply Vl.rest H hp | apply Vl.smod H hp | apply Vl.div H hf | apply Vl.inv H hf | apply Vl.sinvV H hf | apply Vl.sinvR H hf | apply Rw.tmod H hp | apply Rw.mul H | apply Rw.neg0 H | apply Rw.sub H | apply Rw.add H | apply Vl.rw hp | decide)))
 exact Vl.inj H v w
def Tri {K : Type} [Lean.Grind.Field K] (x1 y1 x2 y2 x3 y3 : K) : Prop := (x2 - x1) * (y3 - y1) - (y2 - y1) * (x3 - x1) ≠ 0
section
variable {p : Int} {K : Type} [Lean.Grind.Field K] {φ : Int -> K}
theorem ZPD (H : Hom p K φ) (hf : Z6 p = true) {a b c : P2} {x1 y1 x2 y2 x3 y3 : K} (a1 : Vl p φ a.1 x1) (a2 : Vl p φ a.2 y1) (b1 : Vl p φ b.1 x2) (b2 : Vl p φ b.2 y2) (c1 : Vl p φ c.1 x3) (c2 : Vl p φ c.2 y3) :
  Vl p φ (Zcb p a b c) ((x2 - x1) * (y3 - y1) - (y2 - y1) * (x3 - x1)) := by
 have hp := Zy hf
 have d1 := Z8o H hf b1 a1; have d2 := Z8p H hf b2 a2; have e1 := Z8o H hf c1 a1; have e2 := Z8p H hf c2 a2
 unfold Zcb
 (with_reducible (repeat' (first | assumption | exact Vl.rw hp (by assumption) | exact Rw.lit _ (by decide) | exact Rw.nlit _ (by decide) | apply Vl.rest H hp | apply Vl.smod H hp | apply Vl.div H hf | apply Vl.inv H hf | apply Vl.sinvV H hf | apply Vl.sinvR H hf | apply Rw.tmod H hp | apply Rw.mul H | apply Rw.neg0 H | apply Rw.sub H | apply Rw.add H | apply Vl.rw hp | decide)))
theorem ZEP {c : Int} (hc : isC c) (t x y : K) : frU c (x * t) (y * t) = frU c x y * t := by
 rcases hc with rfl | rfl | rfl <;> simp [frU]
theorem ZEQ {c : Int} (hc : isC c) (t x y : K) : frV c (x * t) (y * t) = frV c x y * t := by
 rcases hc with rfl | rfl | rfl <;> simp [frV] <;> grind
theorem ZaE (H : Hom p K φ) (hf : Z6 p = true) {c : Int} (hc : isC c) {a b d : P2} {x1 y1 x2 y2 x3 y3 : K} (a1 : Vl p φ a.1 x1) (a2 : Vl p φ a.2 y1) (b1 : Vl p φ b.1 x2) (b2 : Vl p φ b.2 y2) (c1 : Vl p φ d.1 x3) (c2 : Vl p φ d.2 y3) (hn : x2 ≠ x3 \/ y2 ≠ y3) :
  Z61 p c a b d = Z2u p c a b d /\ Ln p φ (Z2u p c a b d) (frU c (x2 - x3) (y2 - y3)) (frV c (x2 - x3) (y2 - y3)) (-(frU c (x2 - x3) (y2 - y3) * x1 + frV c (x2 - x3) (y2 - y3) * y1)) := by
 have d1 : Vl p φ (Zj p b d).1 (x2 - x3) := Z8o H hf b1 c1
 have d2 : Vl p φ (Zj p b d).2 (y2 - y3) := Z8p H hf b2 c2
 have hs := Zkn H hf hc d1 d2 a1 a2 (by grind)
 obtain ⟨t, ht, l0, l1, l2, lk⟩ := Z62 H hf b1 b2 c1 c2 hn
 have hi := Zjg H hf hc l0 l1 a1 a2 (by grind)
 refine ⟨?_, hs⟩
 unfold Z61 Z2u
 refine Ln.inj H (hi.scale (-t) (by grind) ?_ ?_ ?_) hs
 ·rw [show -((x2 - x3) * t) = (x2 - x3) * (-t) by grind, show (y3 - y2) * t = (y2 - y3) * (-t) by grind, ZEP hc]; grind
 ·rw [show -((x2 - x3) * t) = (x2 - x3) * (-t) by grind, show (y3 - y2) * t = (y2 - y3) * (-t) by grind, ZEQ hc]; grind
 ·rw [show -((x2 - x3) * t) = (x2 - x3) * (-t) by grind, show (y3 - y2) * t = (y2 - y3) * (-t) by grind, ZEP hc, ZEQ hc]; grind
theorem ZHy {x1 y1 x2 y2 x3 y3 : K} (h : Tri x1 y1 x2 y2 x3 y3) : (x2 ≠ x3 \/ y2 ≠ y3) /\ (x1 ≠ x3 \/ y1 ≠ y3) /\ (x1 ≠ x2 \/ y1 ≠ y2) := by
 unfold Tri at h
 refine ⟨?_, ?_, ?_⟩ <;> grind
theorem Zvk (H : Hom p K φ) (hf : Z6 p = true) {c : Int} (hc : isC c) {a b d : P2} {x1 y1 x2 y2 x3 y3 : K} (a1 : Vl p φ a.1 x1) (a2 : Vl p φ a.2 y1) (b1 : Vl p φ b.1 x2) (b2 : Vl p φ b.2 y2) (c1 : Vl p φ d.1 x3) (c2 : Vl p φ d.2 y3) (hn : Tri x1 y1 x2 y2 x3 y3) :
  Z0i p c a b d = Zc p c a b d := by
 obtain ⟨n1, n2, n3⟩ := ZHy hn
 obtain ⟨e1, s, hs, p0, p1, p2, pk⟩ := ZaE H hf hc a1 a2 b1 b2 c1 c2 n1
 obtain ⟨e2, t, ht, q0, q1, q2, qk⟩ := ZaE H hf hc b1 b2 a1 a2 c1 c2 n2
 unfold Z0i Zc
 rw [e1, e2]
 exact Zvf H hf p0 p1 p2 q0 q1 q2
theorem ZCt (H : Hom p K φ) (hf : Z6 p = true) {c : Int} (hc : isC c) {a b d : P2} {x1 y1 x2 y2 x3 y3 : K} (a1 : Vl p φ a.1 x1) (a2 : Vl p φ a.2 y1) (b1 : Vl p φ b.1 x2) (b2 : Vl p φ b.2 y2) (c1 : Vl p φ d.1 x3) (c2 : Vl p φ d.2 y3) (hn : Tri x1 y1 x2 y2 x3 y3) :
  ∃ X Y : K, Vl p φ (Zc p c a b d).1 X /\ Vl p φ (Zc p c a b d).2 Y /\ Z1j c (x2 - x3) (y2 - y3) (X - x1) (Y - y1) = 0 /\ Z1j c (x1 - x3) (y1 - y3) (X - x2) (Y - y2) = 0 := by
 obtain ⟨n1, n2, n3⟩ := ZHy hn
 obtain ⟨e1, l1⟩ := ZaE H hf hc a1 a2 b1 b2 c1 c2 n1
 obtain ⟨e2, l2⟩ := ZaE H hf hc b1 b2 a1 a2 c1 c2 n2
 obtain ⟨_, _, X, Y, v1, v2, q1, q2⟩ := Ln.meet H hf l1 l2 (by unfold Tri at hn; rcases hc with rfl | rfl | rfl <;> simp [frU, frV] <;> grind)
 refine ⟨X, Y, v1, v2, ?_, ?_⟩
 ·rw [Zn7 hc]; grind
 ·rw [Zn7 hc]; grind
theorem Zo2 (H : Hom p K φ) (hf : Z6 p = true) {a b : P2} {x1 y1 x2 y2 : K} (a1 : Vl p φ a.1 x1) (a2 : Vl p φ a.2 y1) (b1 : Vl p φ b.1 x2) (b2 : Vl p φ b.2 y2) : ∃ X Y : K, Vl p φ (Z1f p a b).1 X /\ Vl p φ (Z1f p a b).2 Y /\ 2 * X = x1 + x2 /\ 2 * Y = y1 + y2 := by
 have hp := Zy hf
 have hm := Z7B hf
 have hh : Vl p φ (wrap64 ((wrap64 (p + 1)).tdiv 2)) (φ ((p + 1) / 2)) := by
  have e : wrap64 ((wrap64 (p + 1)).tdiv 2) = (p + 1) / 2 := by
   have h2 := hp
   unfold Pr at h2
   rw [w64 (n := p + 1) (by omega), Int.tdiv_eq_ediv_of_nonneg (by omega), w64 (by omega)]
  rw [e]
  refine Vl.of ?_
  have h2 := hp
  unfold Pr at h2
  simp at hm
  omega
 have h2 : 2 * φ ((p + 1) / 2) = 1 := by
  rw [<- H.two, <- H.mul]
  have e : (2 : Int) * ((p + 1) / 2) = p + 1 := by simp at hm; omega
  rw [e, H.add, H.self, H.one]
  grind
 have v1 : Vl p φ (Z1f p a b).1 (φ ((p + 1) / 2) * (x1 + x2)) := by
  unfold Z1f Z0X Z0m
  dsimp only
  (with_reducible (repeat' (first | assumption | exact Vl.rw hp (by assumption) | exact Rw.lit _ (by decide) | exact Rw.nlit _ (by decide) | apply Vl.rest H hp | apply Vl.smod H hp | apply Vl.div H hf | apply Vl.inv H hf | apply Vl.sinvV H hf | apply Vl.sinvR H hf | apply Rw.tmod H hp | apply Rw.mul H | apply Rw.neg0 H | apply Rw.sub H | apply Rw.add H | apply Vl.rw hp | decide)))
 have v2 : Vl p φ (Z1f p a b).2 (φ ((p + 1) / 2) * (y1 + y2)) := by
  unfold Z1f Z0X Z0m
  dsimp only
  (with_reducible (repeat' (first | assumption | exact Vl.rw hp (by assumption) | exact Rw.lit _ (by decide) | exact Rw.nlit _ (by decide) | apply Vl.rest H hp | apply Vl.smod H hp | apply Vl.div H hf | apply Vl.inv H hf | apply Vl.sinvV H hf | apply Vl.sinvR H hf | apply Rw.tmod H hp | apply Rw.mul H | apply Rw.neg0 H | apply Rw.sub H | apply Rw.add H | apply Vl.rw hp | decide)))
 exact ⟨_, _, v1, v2, by grind, by grind⟩
theorem ZsL (H : Hom p K φ) (hf : Z6 p = true) {c : Int} (hc : isC c) {x a b : P2} {X Y x1 y1 x2 y2 : K} (h1 : Vl p φ x.1 X) (h2 : Vl p φ x.2 Y) (a1 : Vl p φ a.1 x1) (a2 : Vl p φ a.2 y1) (b1 : Vl p φ b.1 x2) (b2 : Vl p φ b.2 y2) :
  (ZA p c x a == ZA p c x b) = true ↔ Z1j c (X - x1) (Y - y1) (X - x1) (Y - y1) = Z1j c (X - x2) (Y - y2) (X - x2) (Y - y2) := by
 rw [beq_iff_eq]
 exact Vl.eq_iff H (Z4s H hf hc h1 h2 a1 a2) (Z4s H hf hc h1 h2 b1 b2)
theorem ZhE (H : Hom p K φ) (hf : Z6 p = true) {c : Int} (hc : isC c) {a b d : P2} {x1 y1 x2 y2 x3 y3 : K} (a1 : Vl p φ a.1 x1) (a2 : Vl p φ a.2 y1) (b1 : Vl p φ b.1 x2) (b2 : Vl p φ b.2 y2) (c1 : Vl p φ d.1 x3) (c2 : Vl p φ d.2 y3) (hn : Tri x1 y1 x2 y2 x3 y3) :
  Z0R p c a b d = Zb p c a b d /\ ∃ X Y : K, Vl p φ (Zb p c a b d).1 X /\ Vl p φ (Zb p c a b d).2 Y /\ Z1j c (X - x1) (Y - y1) (X - x1) (Y - y1) = Z1j c (X - x2) (Y - y2) (X - x2) (Y - y2) /\ Z1j c (X - x1) (Y - y1) (X - x1) (Y - y1) = Z1j c (X - x3) (Y - y3) (X - x3) (Y - y3) := by
 have h2ne := H.two_ne hf
 obtain ⟨n1, n2, n3⟩ := ZHy hn
 obtain ⟨m1, k1, u1, u2, u3, u4⟩ := Zo2 H hf a1 a2 b1 b2
 obtain ⟨m2, k2, w1, w2, w3, w4⟩ := Zo2 H hf a1 a2 c1 c2
 have d1 : Vl p φ (Zj p a b).1 (x1 - x2) := Z8o H hf a1 b1
 have d2 : Vl p φ (Zj p a b).2 (y1 - y2) := Z8p H hf a2 b2
 have g1 : Vl p φ (Zj p a d).1 (x1 - x3) := Z8o H hf a1 c1
 have g2 : Vl p φ (Zj p a d).2 (y1 - y3) := Z8p H hf a2 c2
 have l1 := Zkn H hf hc d1 d2 u1 u2 (by grind)
 have l2 := Zkn H hf hc g1 g2 w1 w2 (by grind)
 obtain ⟨_, _, X, Y, v1, v2, q1, q2⟩ := Ln.meet H hf l1 l2 (by unfold Tri at hn; rcases hc with rfl | rfl | rfl <;> simp [frU, frV] <;> grind)
 have key : ∃ X Y : K, Vl p φ (Zb p c a b d).1 X /\ Vl p φ (Zb p c a b d).2 Y /\ Z1j c (X - x1) (Y - y1) (X - x1) (Y - y1) = Z1j c (X - x2) (Y - y2) (X - x2) (Y - y2) /\ Z1j c (X - x1) (Y - y1) (X - x1) (Y - y1) = Z1j c (X - x3) (Y - y3) (X - x3) (Y - y3) := by
  refine ⟨X, Y, v1, v2, ?_, ?_⟩
  all_goals (clear v1 v2 l1 l2 u1 u2 w1 w2 d1 d2 g1 g2; clear hn n1 n2 n3; rcases hc with rfl | rfl | rfl <;> simp [Z1j, frU, frV] at q1 q2 ⊢ <;> grind)
 clear v1 v2 q1 q2 l1 l2 X Y
 refine ⟨?_, key⟩
 obtain ⟨X, Y, vX, vY, e1, e2⟩ := key
 have hmem : Zb p c a b d ∈ pts p := Zsu.2 ⟨vX.1, vY.1⟩
 unfold Z0R
 rw [ZLo, ZEL hmem]
 ·rfl
 ·rw [Bool.and_eq_true, ZsL H hf hc vX vY a1 a2 b1 b2, ZsL H hf hc vX vY a1 a2 c1 c2]
  exact ⟨e1, e2⟩
 ·intro z hz hq
  have hz := Zsu.1 hz
  have z1 := Vl.of (φ := φ) hz.1; have z2 := Vl.of (φ := φ) hz.2
  rw [Bool.and_eq_true, ZsL H hf hc z1 z2 a1 a2 b1 b2, ZsL H hf hc z1 z2 a1 a2 c1 c2] at hq
  have hxy : φ z.1 = X /\ φ z.2 = Y := by
   generalize φ z.1 = Z at hq; generalize φ z.2 = W at hq
   obtain ⟨q1, q2⟩ := hq
   clear u1 u2 w1 w2 d1 d2 g1 g2 vX vY z1 z2 n1 n2 n3 u3 u4 w3 w4
   unfold Tri at hn
   rcases hc with rfl | rfl | rfl <;> simp [Z1j] at e1 e2 q1 q2 <;> constructor <;> grind
  exact ZH2 ((Vl.eq_iff H z1 vX).2 hxy.1) ((Vl.eq_iff H z2 vY).2 hxy.2)
end

theorem Z6G {p : Int} (hf : Z6 p = true) {c : Int} (hc : isC c) {a b : P2} (ha : Z5 p a = true) (hb : Z5 p b = true) : Zp p c a b = ZA p c a b := by
 obtain ⟨K, inst, φ, H⟩ := Z7C hf
 have a1 := Vl.of (φ := φ) (Zo ha).1; have a2 := Vl.of (φ := φ) (Zo ha).2
 have b1 := Vl.of (φ := φ) (Zo hb).1; have b2 := Vl.of (φ := φ) (Zo hb).2
 have v := Z4s H hf hc b1 b2 a1 a2
 have w := Z4s H hf hc a1 a2 b1 b2
 rw [Zvn hc] at v
 exact Vl.inj H (show Vl p φ (Zp p c a b) _ from v) w
theorem isC0 : isC 0 := Or.inl rfl
theorem isC1 : isC 1 := Or.inr (Or.inl rfl)
theorem isC2 : isC 2 := Or.inr (Or.inr rfl)

theorem tricode (p c : Int) (a b d : P2) : ZQ p c a b d = Zk p c a b d := by
 unfold ZQ Zk Z24
 rw [colourcode p c true, show ZE p (Z5v 3 [a.1, a.2, b.1, b.2, d.1, d.2]) = ZE p [a, b, d] from rfl]
 by_cases h : ZK p true (if Z05 c = true then ZE p [a, b, d] else false) = 0
 ·obtain ⟨hf, hb⟩ := ZpM h
  have hb : ZE p [a, b, d] = true := by cases h1 : Z05 c <;> simp [h1] at hb; exact hb
  simp only [ZE, List.all_cons, List.all_nil, Bool.and_true, Bool.and_eq_true] at hb
  rw [ZEz p a b d hf hb.1 hb.2.1 hb.2.2]
 ·generalize ZK p true (if Z05 c = true then ZE p [a, b, d] else false) = X at h ⊢
  simp [h]
theorem Z2h {p c : Int} {a b d : P2} (h : Zk p c a b d = 0) : Z6 p = true /\ isC c /\ Z5 p a = true /\ Z5 p b = true /\ Z5 p d = true /\ Zcb p a b d ≠ 0 := by
 unfold Zk Z24 at h
 by_cases e : ZK p true (if Z05 c = true then ZE p [a, b, d] else false) = 0
 ·obtain ⟨hf, hb⟩ := ZpM e
  rw [if_pos (by simpa using e)] at h
  cases hc : Z05 c
  ·simp [hc] at hb
  ·simp [hc, ZE] at hb
   refine ⟨hf, ZKk hc, hb.1, hb.2.1, hb.2.2, ?_⟩
   intro ha
   simp [ha] at h
 ·rw [if_neg (by simpa using e)] at h
  exact absurd h e
theorem Zr9 {p : Int} {K : Type} [Lean.Grind.Field K] {φ : Int -> K} (H : Hom p K φ) {c : Int} {a b d : P2} (h : Zk p c a b d = 0) : Tri (φ a.1) (φ a.2) (φ b.1) (φ b.2) (φ d.1) (φ d.2) := by
 obtain ⟨hf, hc, ha, hb, hd, hn⟩ := Z2h h
 have v := ZPD H hf (Vl.of (φ := φ) (Zo ha).1) (Vl.of (φ := φ) (Zo ha).2) (Vl.of (φ := φ) (Zo hb).1) (Vl.of (φ := φ) (Zo hb).2) (Vl.of (φ := φ) (Zo hd).1) (Vl.of (φ := φ) (Zo hd).2)
 exact fun e => hn ((Vl.zero_iff H v).2 e)
theorem ZgU {p c0 : Int} {a b d : P2} (h : Zk p c0 a b d = 0) {c : Int} (hc : isC c) : Z0i p c a b d = Zc p c a b d := by
 obtain ⟨hf, _, ha, hb, hd, hn⟩ := Z2h h
 obtain ⟨K, inst, φ, H⟩ := Z7C hf
 exact Zvk H hf hc (Vl.of (φ := φ) (Zo ha).1) (Vl.of (φ := φ) (Zo ha).2) (Vl.of (φ := φ) (Zo hb).1) (Vl.of (φ := φ) (Zo hb).2) (Vl.of (φ := φ) (Zo hd).1) (Vl.of (φ := φ) (Zo hd).2) (Zr9 H h)
theorem Zj5 {p c0 : Int} {a b d : P2} (h : Zk p c0 a b d = 0) {c : Int} (hc : isC c) : Z0R p c a b d = Zb p c a b d := by
 obtain ⟨hf, _, ha, hb, hd, hn⟩ := Z2h h
 obtain ⟨K, inst, φ, H⟩ := Z7C hf
 exact (ZhE H hf hc (Vl.of (φ := φ) (Zo ha).1) (Vl.of (φ := φ) (Zo ha).2) (Vl.of (φ := φ) (Zo hb).1) (Vl.of (φ := φ) (Zo hb).2) (Vl.of (φ := φ) (Zo hd).1) (Vl.of (φ := φ) (Zo hd).2) (Zr9 H h)).1
theorem ZgP {p : Int} {a : P2} {K : Type} {φ : Int -> K} {X Y : K} (h1 : Vl p φ a.1 X) (h2 : Vl p φ a.2 Y) : Z5 p a = true := by
 have h3 := h1.1; have h4 := h2.1
 simp [Z5, ZM, Z0p]
 omega
theorem Z9s {p c0 : Int} {a b d : P2} (h : Zk p c0 a b d = 0) {c : Int} (hc : isC c) : Z5 p (Zc p c a b d) = true := by
 obtain ⟨hf, _, ha, hb, hd, hn⟩ := Z2h h
 obtain ⟨K, inst, φ, H⟩ := Z7C hf
 obtain ⟨X, Y, v1, v2, _⟩ := ZCt H hf hc (Vl.of (φ := φ) (Zo ha).1) (Vl.of (φ := φ) (Zo ha).2) (Vl.of (φ := φ) (Zo hb).1) (Vl.of (φ := φ) (Zo hb).2) (Vl.of (φ := φ) (Zo hd).1) (Vl.of (φ := φ) (Zo hd).2) (Zr9 H h)
 exact ZgP v1 v2
theorem Z9R {p c0 : Int} {a b d : P2} (h : Zk p c0 a b d = 0) {c : Int} (hc : isC c) : Z5 p (Zb p c a b d) = true := by
 obtain ⟨hf, _, ha, hb, hd, hn⟩ := Z2h h
 obtain ⟨K, inst, φ, H⟩ := Z7C hf
 obtain ⟨X, Y, v1, v2, _⟩ := (ZhE H hf hc (Vl.of (φ := φ) (Zo ha).1) (Vl.of (φ := φ) (Zo ha).2) (Vl.of (φ := φ) (Zo hb).1) (Vl.of (φ := φ) (Zo hb).2) (Vl.of (φ := φ) (Zo hd).1) (Vl.of (φ := φ) (Zo hd).2) (Zr9 H h)).2
 exact ZgP v1 v2
theorem Z8c {p : Int} (hf : Z6 p = true) {a b : P2} (ha : Z5 p a = true) (hb : Z5 p b = true) (h : a ≠ b) : Zr p a b = Zx p a b := by
 obtain ⟨K, inst, φ, H⟩ := Z7C hf
 have a1 := Vl.of (φ := φ) (Zo ha).1; have a2 := Vl.of (φ := φ) (Zo ha).2
 have b1 := Vl.of (φ := φ) (Zo hb).1; have b2 := Vl.of (φ := φ) (Zo hb).2
 have hn := ZF3 H a1 a2 b1 b2 h
 exact Ln.inj H (Z62 H hf a1 a2 b1 b2 hn) (ZIZ H hf a1 a2 b1 b2 hn)

end Go.Proofs.YtcdpfpfbilfpoaaGreatDoor
