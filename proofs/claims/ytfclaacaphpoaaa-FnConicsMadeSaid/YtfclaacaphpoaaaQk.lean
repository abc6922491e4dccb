import Derived.Test.YtfclaacaphpoaaaQj
set_option linter.unusedSimpArgs false
set_option linter.unusedVariables false
namespace Go.Proofs.Ytfclaacaphpoaaa
open Go.RowKit
theorem Rx.conv {K : Type} {φ : Int -> K} {x n : Int} {k l : K} (h : Rw φ x k n) (e : k = l) : ∃ n, Rw φ x l n := ⟨n, e ▸ h⟩
theorem isC0 : isC 0 := Or.inl rfl
theorem isC1 : isC 1 := Or.inr (Or.inl rfl)
theorem isC2 : isC 2 := Or.inr (Or.inr rfl)
section
variable {p : Int} {K : Type} [Lean.Grind.Field K] {φ : Int -> K}
def Cc (p : Int) (φ : Int -> K) (k : P6) (a b c d e f : K) : Prop := ∃ t : K, t ≠ 0 /\ (Vl p φ k.1 (a * t) /\ Vl p φ k.2.1 (b * t) /\ Vl p φ k.2.2.1 (c * t) /\ Vl p φ k.2.2.2.1 (d * t) /\ Vl p φ k.2.2.2.2.1 (e * t) /\ Vl p φ k.2.2.2.2.2 (f * t)) /\ (k.1 = 1 \/ k.1 = 0 /\ (k.2.1 = 1 \/ k.2.1 = 0 /\ k.2.2.1 = 1))
theorem Cc.scale {k : P6} {a b c d e f : K} (s : K) (hs : s ≠ 0) {a' b' c' d' e' f' : K} (ea : a = s * a') (eb : b = s * b') (ec : c = s * c') (ed : d = s * d') (ee : e = s * e') (ef : f = s * f') (h : Cc p φ k a b c d e f) : Cc p φ k a' b' c' d' e' f' := by
 obtain ⟨t, ht, ⟨h1, h2, h3, h4, h5, h6⟩, h7⟩ := h
 exact ⟨s * t, by grind, ⟨h1.conv (by grind), h2.conv (by grind), h3.conv (by grind), h4.conv (by grind), h5.conv (by grind), h6.conv (by grind)⟩, h7⟩
theorem Cc.inj (H : Hom p K φ) {k m : P6} {a b c d e f : K} (h1 : Cc p φ k a b c d e f) (h2 : Cc p φ m a b c d e f) : k = m := by
 obtain ⟨t, ht, ⟨k0, k1, k2, k3, k4, k5⟩, lk⟩ := h1
 obtain ⟨s, hs, ⟨m0, m1, m2, m3, m4, m5⟩, mk⟩ := h2
 have e : t = s := by
  have z0 := Vl.zero_iff H k0; have z0' := Vl.zero_iff H m0
  have z1 := Vl.zero_iff H k1; have z1' := Vl.zero_iff H m1
  have u0 := k0.2; have u1 := k1.2; have u2 := k2.2
  have w0 := m0.2; have w1 := m1.2; have w2 := m2.2
  by_cases ha : a = 0
  ·have x0 := z0.2 (by grind); have x0' := z0'.2 (by grind)
   by_cases hb : b = 0
   ·have x1 := z1.2 (by grind); have x1' := z1'.2 (by grind)
    rw [x0, x1] at lk; rw [x0', x1'] at mk
    simp at lk mk
    rw [lk, H.one] at u2; rw [mk, H.one] at w2
    grind
   ·have x1 : k.2.1 ≠ 0 := fun h => by have := z1.1 h; grind
    have x1' : m.2.1 ≠ 0 := fun h => by have := z1'.1 h; grind
    rw [x0] at lk; rw [x0'] at mk
    simp [x1] at lk; simp [x1'] at mk
    rw [lk, H.one] at u1; rw [mk, H.one] at w1
    grind
  ·have x0 : k.1 ≠ 0 := fun h => by have := z0.1 h; grind
   have x0' : m.1 ≠ 0 := fun h => by have := z0'.1 h; grind
   simp [x0] at lk; simp [x0'] at mk
   rw [lk, H.one] at u0; rw [mk, H.one] at w0
   grind
 subst e
 obtain ⟨q0, q1, q2, q3, q4, q5⟩ := k
 obtain ⟨r0, r1, r2, r3, r4, r5⟩ := m
 have e0 := Vl.inj H k0 m0; have e1 := Vl.inj H k1 m1; have e2 := Vl.inj H k2 m2
 have e3 := Vl.inj H k3 m3; have e4 := Vl.inj H k4 m4; have e5 := Vl.inj H k5 m5
 dsimp only at e0 e1 e2 e3 e4 e5
 rw [e0, e1, e2, e3, e4, e5]
theorem Zei (H : Hom p K φ) (hf : Zo p = true) {l : P6} {a b c d e f : K} (h0 : ∃ n, Rw φ l.1 a n) (h1 : ∃ n, Rw φ l.2.1 b n) (h2 : ∃ n, Rw φ l.2.2.1 c n) (h3 : ∃ n, Rw φ l.2.2.2.1 d n) (h4 : ∃ n, Rw φ l.2.2.2.2.1 e n) (h5 : ∃ n, Rw φ l.2.2.2.2.2 f n) (hn : a ≠ 0 \/ b ≠ 0 \/ c ≠ 0) :
  (Z02 p l).2 = true /\ Cc p φ (Z02 p l).1 a b c d e f := by
 have hp := Zx hf
 obtain ⟨_, h0⟩ := h0; obtain ⟨_, h1⟩ := h1; obtain ⟨_, h2⟩ := h2; obtain ⟨_, h3⟩ := h3; obtain ⟨_, h4⟩ := h4; obtain ⟨_, h5⟩ := h5
 have v0 : Vl p φ (Z1 p l.1) a := Vl.rest H hp h0
 have v1 : Vl p φ (Z1 p l.2.1) b := Vl.rest H hp h1
 have v2 : Vl p φ (Z1 p l.2.2.1) c := Vl.rest H hp h2
 have v3 : Vl p φ (Z1 p l.2.2.2.1) d := Vl.rest H hp h3
 have v4 : Vl p φ (Z1 p l.2.2.2.2.1) e := Vl.rest H hp h4
 have v5 : Vl p φ (Z1 p l.2.2.2.2.2) f := Vl.rest H hp h5
 have z0 := Vl.zero_iff H v0; have z1 := Vl.zero_iff H v1; have z2 := Vl.zero_iff H v2
 have dv : ∀ {x y : Int} {u v : K}, Vl p φ x u -> Vl p φ y v -> Vl p φ (Z5 p x y) (u * v⁻¹) := fun hx hy => Vl.div H hf (Vl.rw hp hx) hy (by decide)
 unfold Z02
 by_cases e0 : Z1 p l.1 = 0
 ·have ha := z0.1 e0
  have t0 : (Z1 p l.1 == 0) = true := by simpa using e0
  by_cases e1 : Z1 p l.2.1 = 0
  ·have hb := z1.1 e1
   have t1 : (Z1 p l.2.1 == 0) = true := by simpa using e1
   have hc : c ≠ 0 := by grind
   have e2 : ¬ Z1 p l.2.2.1 = 0 := fun h => hc (z2.1 h)
   have t2 : (Z1 p l.2.2.1 == 0) = false := by simpa using e2
   simp only [t0, t1, t2, if_true, Bool.false_eq_true, if_false]
   refine ⟨trivial, c⁻¹, by grind, ⟨dv v0 v2, dv v1 v2, dv v2 v2, dv v3 v2, dv v4 v2, dv v5 v2⟩, Or.inr ⟨?_, Or.inr ⟨?_, ?_⟩⟩⟩
   ·exact Vl.inj H ((dv v0 v2).conv (show a * c⁻¹ = 0 by grind)) (Vl.zero H hp)
   ·exact Vl.inj H ((dv v1 v2).conv (show b * c⁻¹ = 0 by grind)) (Vl.zero H hp)
   ·exact Vl.inj H ((dv v2 v2).conv (show c * c⁻¹ = 1 by grind)) (Vl.one H hf)
  ·have hb : b ≠ 0 := fun h => e1 (z1.2 h)
   have t1 : (Z1 p l.2.1 == 0) = false := by simpa using e1
   simp only [t0, t1, if_true, Bool.false_eq_true, if_false]
   refine ⟨trivial, b⁻¹, by grind, ⟨dv v0 v1, dv v1 v1, dv v2 v1, dv v3 v1, dv v4 v1, dv v5 v1⟩, Or.inr ⟨?_, Or.inl ?_⟩⟩
   ·exact Vl.inj H ((dv v0 v1).conv (show a * b⁻¹ = 0 by grind)) (Vl.zero H hp)
   ·exact Vl.inj H ((dv v1 v1).conv (show b * b⁻¹ = 1 by grind)) (Vl.one H hf)
 ·have ha : a ≠ 0 := fun h => e0 (z0.2 h)
  have t0 : (Z1 p l.1 == 0) = false := by simpa using e0
  simp only [t0, if_true, Bool.false_eq_true, if_false]
  refine ⟨trivial, a⁻¹, by grind, ⟨dv v0 v0, dv v1 v0, dv v2 v0, dv v3 v0, dv v4 v0, dv v5 v0⟩, Or.inl ?_⟩
  exact Vl.inj H ((dv v0 v0).conv (show a * a⁻¹ = 1 by grind)) (Vl.one H hf)
theorem Zib (H : Hom p K φ) (hf : Zo p = true) {l : P6} {n0 n1 n2 : Int} {a b c : K} (h0 : Rw φ l.1 a n0) (h1 : Rw φ l.2.1 b n1) (h2 : Rw φ l.2.2.1 c n2) (ha : a = 0) (hb : b = 0) (hc : c = 0) : Z02 p l = ((0, 0, 0, 0, 0, 0), false) := by
 have hp := Zx hf
 have t0 : (Z1 p l.1 == 0) = true := by simpa using (Vl.zero_iff H (Vl.rest H hp h0)).2 ha
 have t1 : (Z1 p l.2.1 == 0) = true := by simpa using (Vl.zero_iff H (Vl.rest H hp h1)).2 hb
 have t2 : (Z1 p l.2.2.1 == 0) = true := by simpa using (Vl.zero_iff H (Vl.rest H hp h2)).2 hc
 unfold Z02
 simp only [t0, t1, t2, if_true]
theorem Zan (H : Hom p K φ) (hf : Zo p = true) {x0 x1 x2 x3 x4 x5 : Int} {a b c d e f : K} (h0 : ∃ n, Rw φ x0 a n) (h1 : ∃ n, Rw φ x1 b n) (h2 : ∃ n, Rw φ x2 c n) (h3 : ∃ n, Rw φ x3 d n) (h4 : ∃ n, Rw φ x4 e n) (h5 : ∃ n, Rw φ x5 f n) (hn : a ≠ 0 \/ b ≠ 0 \/ c ≠ 0) :
  (ZO p 6 [x0, x1, x2, x3, x4, x5]).2 = true /\ Cc p φ (ZO p 6 [x0, x1, x2, x3, x4, x5]).1 a b c d e f := by
 have hp := Zx hf
 obtain ⟨_, h0⟩ := h0; obtain ⟨_, h1⟩ := h1; obtain ⟨_, h2⟩ := h2; obtain ⟨_, h3⟩ := h3; obtain ⟨_, h4⟩ := h4; obtain ⟨_, h5⟩ := h5
 have v0 : Vl p φ (Z4 x0 p) a := Vl.smod H hp h0
 have v1 : Vl p φ (Z4 x1 p) b := Vl.smod H hp h1
 have v2 : Vl p φ (Z4 x2 p) c := Vl.smod H hp h2
 have z0 := Vl.zero_iff H v0; have z1 := Vl.zero_iff H v1; have z2 := Vl.zero_iff H v2
 have dv : ∀ {x y n : Int} {u v : K}, Rw φ x u n -> Vl p φ y v -> Vl p φ (Z4 (wrap64 (x.tmod p * Zn y p)) p) (u * v⁻¹) := fun hx hy => Vl.smod H hp (Rw.mul H (Rw.tmod H hp hx) (Vl.rw hp (Vl.sinvV H hf hy)) (by decide))
 have main : ∀ {y : Int} {v : K}, Vl p φ y v -> v ≠ 0 -> (Vl p φ (Z4 (wrap64 (x0.tmod p * Zn y p)) p) (a * v⁻¹) -> Vl p φ (Z4 (wrap64 (x1.tmod p * Zn y p)) p) (b * v⁻¹) -> Vl p φ (Z4 (wrap64 (x2.tmod p * Zn y p)) p) (c * v⁻¹) -> (Z4 (wrap64 (x0.tmod p * Zn y p)) p = 1 \/ Z4 (wrap64 (x0.tmod p * Zn y p)) p = 0 /\ (Z4 (wrap64 (x1.tmod p * Zn y p)) p = 1 \/ Z4 (wrap64 (x1.tmod p * Zn y p)) p = 0 /\ Z4 (wrap64 (x2.tmod p * Zn y p)) p = 1))) ->
   (Z8W p y [x0, x1, x2, x3, x4, x5]).2 = true /\ Cc p φ (Z8W p y [x0, x1, x2, x3, x4, x5]).1 a b c d e f := by
  intro y v hy hv hl
  have hy0 : ¬ (y == 0) = true := by
   intro h
   exact hv ((Vl.zero_iff H hy).1 (by simpa using h))
  unfold Z8W
  rw [if_neg hy0]
  exact ⟨rfl, v⁻¹, by grind, ⟨dv h0 hy, dv h1 hy, dv h2 hy, dv h3 hy, dv h4 hy, dv h5 hy⟩, hl (dv h0 hy) (dv h1 hy) (dv h2 hy)⟩
 unfold ZO Zbq
 show (Z8W p (if (Z4 x0 p == 0) = true then (if (Z4 x1 p == 0) = true then Z4 x2 p else Z4 x1 p) else Z4 x0 p) [x0, x1, x2, x3, x4, x5]).2 = true /\ Cc p φ (Z8W p (if (Z4 x0 p == 0) = true then (if (Z4 x1 p == 0) = true then Z4 x2 p else Z4 x1 p) else Z4 x0 p) [x0, x1, x2, x3, x4, x5]).1 a b c d e f
 by_cases e0 : Z4 x0 p = 0
 ·have ha := z0.1 e0
  by_cases e1 : Z4 x1 p = 0
  ·have hb := z1.1 e1
   rw [if_pos (by simpa using e0), if_pos (by simpa using e1)]
   have hc : c ≠ 0 := by grind
   exact main v2 hc fun w0 w1 w2 => Or.inr ⟨Vl.inj H (w0.conv (show a * c⁻¹ = 0 by grind)) (Vl.zero H hp), Or.inr ⟨Vl.inj H (w1.conv (show b * c⁻¹ = 0 by grind)) (Vl.zero H hp), Vl.inj H (w2.conv (show c * c⁻¹ = 1 by grind)) (Vl.one H hf)⟩⟩
  ·have hb : b ≠ 0 := fun h => e1 (z1.2 h)
   rw [if_pos (by simpa using e0), if_neg (by simpa using e1)]
   exact main v1 hb fun w0 w1 w2 => Or.inr ⟨Vl.inj H (w0.conv (show a * b⁻¹ = 0 by grind)) (Vl.zero H hp), Or.inl (Vl.inj H (w1.conv (show b * b⁻¹ = 1 by grind)) (Vl.one H hf))⟩
 ·have ha : a ≠ 0 := fun h => e0 (z0.2 h)
  rw [if_neg (by simpa using e0)]
  exact main v0 ha fun w0 w1 w2 => Or.inl (Vl.inj H (w0.conv (show a * a⁻¹ = 1 by grind)) (Vl.one H hf))
theorem Zny (H : Hom p K φ) (hf : Zo p = true) {x0 x1 x2 x3 x4 x5 n0 n1 n2 : Int} {a b c : K} (h0 : Rw φ x0 a n0) (h1 : Rw φ x1 b n1) (h2 : Rw φ x2 c n2) (ha : a = 0) (hb : b = 0) (hc : c = 0) : ZO p 6 [x0, x1, x2, x3, x4, x5] = ((0, 0, 0, 0, 0, 0), false) := by
 have hp := Zx hf
 have t0 : (Z4 x0 p == 0) = true := by simpa using (Vl.zero_iff H (Vl.smod H hp h0)).2 ha
 have t1 : (Z4 x1 p == 0) = true := by simpa using (Vl.zero_iff H (Vl.smod H hp h1)).2 hb
 have t2 : (Z4 x2 p == 0) = true := by simpa using (Vl.zero_iff H (Vl.smod H hp h2)).2 hc
 unfold ZO Zbq Z8W
 show (if ((if (Z4 x0 p == 0) = true then (if (Z4 x1 p == 0) = true then Z4 x2 p else Z4 x1 p) else Z4 x0 p) == 0) = true then ((0, 0, 0, 0, 0, 0), false) else _) = _
 rw [t0, t1, if_pos rfl, if_pos rfl, t2, if_pos rfl]
def nK (c : Int) (l0 l1 : K) : K := if c = 0 then l0 * l0 + l1 * l1 else if c = 1 then l0 * l0 - l1 * l1 else 2 * l0 * l1
theorem Zax {c : Int} (hc : isC c) (l0 l1 : K) : Z4y c (-l1) l0 (-l1) l0 = 0 ↔ nK c l0 l1 = 0 := by
 rcases hc with rfl | rfl | rfl <;> simp [Z4y, nK] <;> constructor <;> intro h <;> grind
theorem Z2V (H : Hom p K φ) (hf : Zo p = true) {c : Int} (hc : isC c) {a : P2} {l : P3} (ha : ZI p a = true) (hl : Z0S p l = true) (hn : Z0T p c l = false) (x y : Int) {X Y : K} {n1 n2 : Int} (hx : Rw φ x X n1) (hy : Rw φ y Y n2) :
  Vl p φ (Zg x y p c a l) (Z4y c (X - φ a.1) (Y - φ a.2) (X - φ a.1) (Y - φ a.2) - (φ l.1 * X + φ l.2.1 * Y + φ l.2.2) * (φ l.1 * X + φ l.2.1 * Y + φ l.2.2) * (nK c (φ l.1) (φ l.2.1))⁻¹) := by
 have hp := Zx hf
 have a1 := Vl.of (φ := φ) (Z0d ha).1; have a2 := Vl.of (φ := φ) (Z0d ha).2
 obtain ⟨⟨m0, m1, m2⟩, hm⟩ := Z50 hl
 have l0 := Vl.of (φ := φ) m0; have l1 := Vl.of (φ := φ) m1; have l2 := Vl.of (φ := φ) m2
 have b1 : Vl p φ (Z1 p x) X := Vl.rest H hp hx
 have b2 : Vl p φ (Z1 p y) Y := Vl.rest H hp hy
 have hne : φ l.1 ≠ 0 \/ φ l.2.1 ≠ 0 := by
  have h1 := H.one_ne
  rcases hm with e | ⟨_, e⟩
  ·rw [e, H.one]; exact Or.inl h1
  ·rw [e, H.one]; exact Or.inr h1
 have hnn : nK c (φ l.1) (φ l.2.1) ≠ 0 := by
  intro h
  have hq := (Z6I H hf hc l0 l1 l0 l1).2 ((Zax hc _ _).2 h)
  have : Z0T p c l = true := hq
  rw [this] at hn
  cases hn
 have pi := Zbp H hf hc (a := (Z1 p x, Z1 p y)) l0 l1 b1 b2 hne
 have hln := Ln.of H hl
 obtain ⟨e1, _, FX, FY, w1, w2, q1, q2⟩ := Ln.meet H hf hln pi (by
  clear pi hln b1 b2 l0 l1 l2 a1 a2 hx hy
  rcases hc with rfl | rfl | rfl <;> simp [frU, frV, nK] at hnn ⊢ <;> grind)
 have qa := Z9n H hf hc (a := (Z1 p x, Z1 p y)) b1 b2 a1 a2
 have ef : Z8c p c (Z1 p x, Z1 p y) l = (Z5j p l (Z2Q p c l (Z1 p x, Z1 p y))).1 := e1
 have qf := Z9n H hf hc (a := (Z1 p x, Z1 p y)) b1 b2 w1 w2
 rw [<- ef] at qf
 have v : Vl p φ (Zg x y p c a l) (Z4y c (X - φ a.1) (Y - φ a.2) (X - φ a.1) (Y - φ a.2) - Z4y c (X - FX) (Y - FY) (X - FX) (Y - FY)) := by
  unfold Zg
  (with_reducible (repeat' (first | assumption | exact Vl.rw hp (by assumption) | exact Rw.lit _ (by decide) | exact Rw.nlit _ (by decide) | apply Vl.rest H hp | apply Vl.smod H hp | apply Vl.div H hf | apply Vl.inv H hf | apply Vl.sinvV H hf | apply Vl.sinvR H hf | apply Rw.tmod H hp | apply Rw.mul H | apply Rw.neg0 H | apply Rw.sub H | apply Rw.add H | apply Vl.rw hp | decide)))
 refine v.conv ?_
 have key : Z4y c (X - FX) (Y - FY) (X - FX) (Y - FY) * nK c (φ l.1) (φ l.2.1) = (φ l.1 * X + φ l.2.1 * Y + φ l.2.2) * (φ l.1 * X + φ l.2.1 * Y + φ l.2.2) := by
  clear v qf qa pi hln w1 w2 b1 b2 l0 l1 l2 a1 a2 hx hy hnn hne
  generalize φ l.1 = L0 at q1 q2 ⊢; generalize φ l.2.1 = L1 at q1 q2 ⊢; generalize φ l.2.2 = L2 at q1 q2 ⊢
  rcases hc with rfl | rfl | rfl <;> simp [Z4y, frU, frV, nK] at q1 q2 ⊢ <;> grind
 generalize nK c (φ l.1) (φ l.2.1) = N at hnn key ⊢
 generalize Z4y c (X - FX) (Y - FY) (X - FX) (Y - FY) = Q at key ⊢
 generalize Z4y c (X - φ a.1) (Y - φ a.2) (X - φ a.1) (Y - φ a.2) = R
 grind
end

end Go.Proofs.Ytfclaacaphpoaaa
