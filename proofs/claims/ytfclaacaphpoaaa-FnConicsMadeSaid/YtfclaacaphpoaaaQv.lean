import Derived.Test.YtfclaacaphpoaaaQu
set_option linter.unusedSimpArgs false
set_option linter.unusedVariables false
namespace Go.Proofs.Ytfclaacaphpoaaa
open Go.RowKit
theorem mz {K : Type} [Lean.Grind.Field K] {s F : K} (hs : s ≠ 0) (h : s * F = 0) : F = 0 := by grind
theorem ask0 {p : Int} (hf : Zo p = true) : Zt p true true = 0 := by simp [Zt, hf]
theorem ZwU {p : Int} {a : P2} (ha : a ∈ pts p) : ZI p a = true := by
 have ha := Zkp.1 ha
 simp [ZI, ZR, Z0Q]; omega
section
variable {p : Int} {K : Type} [Lean.Grind.Field K] {φ : Int -> K}
theorem ZxM (H : Hom p K φ) (hf : Zo p = true) {k : P6} {a : P2} (hk : Z0Z p k = true) (ha : ZI p a = true) : Vl p φ (Z0h p k a) (φ k.1 * φ a.1 * φ a.1 + φ k.2.1 * φ a.1 * φ a.2 + φ k.2.2.1 * φ a.2 * φ a.2 + φ k.2.2.2.1 * φ a.1 + φ k.2.2.2.2.1 * φ a.2 + φ k.2.2.2.2.2) := by
 have hp := Zx hf
 obtain ⟨k0, k1, k2, k3, k4, k5⟩ := Zj0 hk
 obtain ⟨a0, a1⟩ := Z0d ha
 have v0 := Vl.of (φ := φ) k0; have v1 := Vl.of (φ := φ) k1; have v2 := Vl.of (φ := φ) k2; have v3 := Vl.of (φ := φ) k3; have v4 := Vl.of (φ := φ) k4; have v5 := Vl.of (φ := φ) k5
 have w0 := Vl.of (φ := φ) a0; have w1 := Vl.of (φ := φ) a1
 unfold Z0h
 (with_reducible (repeat' (first | assumption | exact Vl.rw hp (by assumption) | exact Rw.lit _ (by decide) | exact Rw.nlit _ (by decide) | apply Vl.rest H hp | apply Vl.smod H hp | apply Vl.div H hf | apply Vl.inv H hf | apply Vl.sinvV H hf | apply Vl.sinvR H hf | apply Rw.tmod H hp | apply Rw.mul H | apply Rw.neg0 H | apply Rw.sub H | apply Rw.add H | apply Vl.rw hp | decide)))
theorem Zxh (H : Hom p K φ) (hf : Zo p = true) {k : P6} {a : P2} (hk : Z0Z p k = true) (ha : ZI p a = true) : Z1g p a k = true ↔ φ k.1 * φ a.1 * φ a.1 + φ k.2.1 * φ a.1 * φ a.2 + φ k.2.2.1 * φ a.2 * φ a.2 + φ k.2.2.2.1 * φ a.1 + φ k.2.2.2.2.1 * φ a.2 + φ k.2.2.2.2.2 = 0 := by
 rw [ZlK hf hk ha, beq_iff_eq]
 exact Vl.zero_iff H (ZxM H hf hk ha)
theorem Cc.isConic {k : P6} {a b c d e f : K} (h : Cc p φ k a b c d e f) : Z0Z p k = true := by
 obtain ⟨t, _, ⟨h1, h2, h3, h4, h5, h6⟩, h7⟩ := h
 have n1 := h1.1; have n2 := h2.1; have n3 := h3.1; have n4 := h4.1; have n5 := h5.1; have n6 := h6.1
 unfold Z0Z
 have hn : ZR p [k.1, k.2.1, k.2.2.1, k.2.2.2.1, k.2.2.2.2.1, k.2.2.2.2.2] = true := by simp [ZR, Z5v, n1, n2, n3, n4, n5, n6]
 rw [hn]
 rcases h7 with e | ⟨e, e' | ⟨e', e''⟩⟩
 ·rw [e]; rfl
 ·rw [e, e']; rfl
 ·rw [e, e', e'']; rfl
theorem Cc.on (H : Hom p K φ) (hf : Zo p = true) {k : P6} {a b c d e f : K} (h : Cc p φ k a b c d e f) {z : P2} (hz : ZI p z = true) : Z1g p z k = true ↔ a * φ z.1 * φ z.1 + b * φ z.1 * φ z.2 + c * φ z.2 * φ z.2 + d * φ z.1 + e * φ z.2 + f = 0 := by
 rw [Zxh H hf h.isConic hz]
 obtain ⟨t, ht, ⟨h1, h2, h3, h4, h5, h6⟩, _⟩ := h
 rw [h1.2, h2.2, h3.2, h4.2, h5.2, h6.2]
 clear h1 h2 h3 h4 h5 h6 hz
 generalize φ z.1 = X; generalize φ z.2 = Y
 constructor
 ·intro q
  exact mz ht (by grind)
 ·intro q
  grind
theorem Zxg (H : Hom p K φ) (hf : Zo p = true) {c : Int} (hc : isC c) {l : P3} (hl : Z0S p l = true) (hn : Z0T p c l = false) : nK c (φ l.1) (φ l.2.1) ≠ 0 := by
 obtain ⟨⟨m0, m1, m2⟩, hm⟩ := Z50 hl
 have l0 := Vl.of (φ := φ) m0; have l1 := Vl.of (φ := φ) m1
 intro h
 have hq := (Z6I H hf hc l0 l1 l0 l1).2 ((Zax hc _ _).2 h)
 have : Z0T p c l = true := hq
 rw [this] at hn
 cases hn
theorem ZrY (H : Hom p K φ) (hf : Zo p = true) {c : Int} (hc : isC c) {a : P2} {l : P3} (ha : ZI p a = true) (hl : Z0S p l = true) (hn : Z0T p c l = false) : (Z00 p c a l).2 = 0 /\ Z0Z p (Z00 p c a l).1 = true /\ ∀ z, ZI p z = true -> (Z1g p z (Z00 p c a l).1 = true ↔ nK c (φ l.1) (φ l.2.1) * Z4y c (φ z.1 - φ a.1) (φ z.2 - φ a.2) (φ z.1 - φ a.1) (φ z.2 - φ a.2) - (φ l.1 * φ z.1 + φ l.2.1 * φ z.2 + φ l.2.2) * (φ l.1 * φ z.1 + φ l.2.1 * φ z.2 + φ l.2.2) = 0) := by
 rcases hc with rfl | rfl | rfl
 ·obtain ⟨h1, h2⟩ := Zwn H hf ha hl hn
  refine ⟨h1, h2.isConic, fun z hz => ?_⟩
  rw [h2.on H hf hz]
  simp only [nK, Z4y, if_true, if_false, reduceIte, Int.reduceEq]
  generalize φ z.1 = X; generalize φ z.2 = Y; generalize φ l.1 = u; generalize φ l.2.1 = v; generalize φ l.2.2 = w; generalize φ a.1 = A; generalize φ a.2 = B
  constructor <;> intro h <;> grind
 ·obtain ⟨h1, h2⟩ := Zwo H hf ha hl hn
  refine ⟨h1, h2.isConic, fun z hz => ?_⟩
  rw [h2.on H hf hz]
  simp only [nK, Z4y, if_true, if_false, reduceIte, Int.reduceEq]
  generalize φ z.1 = X; generalize φ z.2 = Y; generalize φ l.1 = u; generalize φ l.2.1 = v; generalize φ l.2.2 = w; generalize φ a.1 = A; generalize φ a.2 = B
  constructor <;> intro h <;> grind
 ·obtain ⟨h1, h2⟩ := Zwp H hf ha hl hn
  refine ⟨h1, h2.isConic, fun z hz => ?_⟩
  rw [h2.on H hf hz]
  simp only [nK, Z4y, if_true, if_false, reduceIte, Int.reduceEq]
  generalize φ z.1 = X; generalize φ z.2 = Y; generalize φ l.1 = u; generalize φ l.2.1 = v; generalize φ l.2.2 = w; generalize φ a.1 = A; generalize φ a.2 = B
  constructor <;> intro h <;> grind
theorem ZuR (H : Hom p K φ) (hf : Zo p = true) {c : Int} (hc : isC c) {z : P2} {l : P3} (hz : ZI p z = true) (hl : Z0S p l = true) (hn : Z0T p c l = false) : ZI p (Z8c p c z l) = true /\ ∃ Q : K, Vl p φ (Z29 p c z (Z8c p c z l)) Q /\ nK c (φ l.1) (φ l.2.1) * Q = (φ l.1 * φ z.1 + φ l.2.1 * φ z.2 + φ l.2.2) * (φ l.1 * φ z.1 + φ l.2.1 * φ z.2 + φ l.2.2) := by
 have b1 := Vl.of (φ := φ) (Z0d hz).1; have b2 := Vl.of (φ := φ) (Z0d hz).2
 have hnn := Zxg H hf hc hl hn
 obtain ⟨⟨m0, m1, m2⟩, hm⟩ := Z50 hl
 have l0 := Vl.of (φ := φ) m0; have l1 := Vl.of (φ := φ) m1; have l2 := Vl.of (φ := φ) m2
 have hne : φ l.1 ≠ 0 \/ φ l.2.1 ≠ 0 := by
  have h1 := H.one_ne
  rcases hm with e | ⟨_, e⟩
  ·rw [e, H.one]; exact Or.inl h1
  ·rw [e, H.one]; exact Or.inr h1
 have pi := Zbp H hf hc l0 l1 b1 b2 hne
 have hln := Ln.of H hl
 obtain ⟨e1, _, FX, FY, w1, w2, q1, q2⟩ := Ln.meet H hf hln pi (by
  clear pi hln b1 b2 l0 l1 l2
  rcases hc with rfl | rfl | rfl <;> simp [frU, frV, nK] at hnn ⊢ <;> grind)
 have ef : Z8c p c z l = (Z5j p l (Z2Q p c l z)).1 := e1
 have qf := Z9n H hf hc b1 b2 w1 w2
 rw [<- ef] at qf w1 w2
 refine ⟨?_, _, qf, ?_⟩
 ·have n1 := w1.1; have n2 := w2.1
  simp [ZI, ZR, Z5v, n1, n2]
 ·clear qf pi hln w1 w2 b1 b2 l0 l1 l2 hnn hne hz hm m0 m1 m2
  generalize φ l.1 = L0 at q1 q2 ⊢; generalize φ l.2.1 = L1 at q1 q2 ⊢; generalize φ l.2.2 = L2 at q1 q2 ⊢
  generalize φ z.1 = X at q1 q2 ⊢; generalize φ z.2 = Y at q1 q2 ⊢
  rcases hc with rfl | rfl | rfl <;> simp [Z4y, frU, frV, nK] at q1 q2 ⊢ <;> grind
theorem ZxG (H : Hom p K φ) (hf : Zo p = true) {c : Int} (hc : isC c) {a : P2} {l : P3} (ha : ZI p a = true) (hl : Z0S p l = true) (hn : Z0T p c l = false) {z : P2} (hz : ZI p z = true) (ho : Z1g p z (Z00 p c a l).1 = true) : Z29 p c z a = Z29 p c z (Z8c p c z l) := by
 have ho := ((ZrY H hf hc ha hl hn).2.2 z hz).1 ho
 have hnn := Zxg H hf hc hl hn
 obtain ⟨_, Q, vq, e⟩ := ZuR H hf hc hz hl hn
 have va := Z9n H hf hc (Vl.of (φ := φ) (Z0d hz).1) (Vl.of (φ := φ) (Z0d hz).2) (Vl.of (φ := φ) (Z0d ha).1) (Vl.of (φ := φ) (Z0d ha).2)
 refine Vl.inj H va (vq.conv ?_)
 clear va vq
 generalize Z4y c (φ z.1 - φ a.1) (φ z.2 - φ a.2) (φ z.1 - φ a.1) (φ z.2 - φ a.2) = R at ho ⊢
 generalize nK c (φ l.1) (φ l.2.1) = N at ho hnn e
 generalize φ l.1 * φ z.1 + φ l.2.1 * φ z.2 + φ l.2.2 = V at ho e
 have : N * (Q - R) = 0 := by grind
 have := mz hnn this
 grind
theorem Zxn (H : Hom p K φ) (hf : Zo p = true) {c : Int} (hc : isC c) {a : P2} {l : P3} (ha : ZI p a = true) (hl : Z0S p l = true) (hn : Z0T p c l = false) : ∃ z, z ∈ pts p /\ Z1g p z (Z00 p c a l).1 = true := by
 have hnn := Zxg H hf hc hl hn
 have h2 := H.two_ne hf
 have hon := (ZrY H hf hc ha hl hn).2.2
 obtain ⟨s, hs⟩ : ∃ s, 2 * nK c (φ l.1) (φ l.2.1) * s = -(φ l.1 * φ a.1 + φ l.2.1 * φ a.2 + φ l.2.2) := by
  generalize nK c (φ l.1) (φ l.2.1) = N at hnn
  generalize -(φ l.1 * φ a.1 + φ l.2.1 * φ a.2 + φ l.2.2) = V
  exact ⟨V * (2 * N)⁻¹, by grind⟩
 have key : ∃ X Y : K, nK c (φ l.1) (φ l.2.1) * Z4y c (X - φ a.1) (Y - φ a.2) (X - φ a.1) (Y - φ a.2) - (φ l.1 * X + φ l.2.1 * Y + φ l.2.2) * (φ l.1 * X + φ l.2.1 * Y + φ l.2.2) = 0 := by
  clear hon hnn h2
  generalize φ l.1 = u at *; generalize φ l.2.1 = v at *; generalize φ l.2.2 = w at *; generalize φ a.1 = A at *; generalize φ a.2 = B at *
  rcases hc with rfl | rfl | rfl
  ·refine ⟨A + s * u, B + s * v, ?_⟩
   simp only [nK, Z4y, if_true, if_false, reduceIte, Int.reduceEq] at hs ⊢
   grind
  ·refine ⟨A + s * u, B - s * v, ?_⟩
   simp only [nK, Z4y, if_true, if_false, reduceIte, Int.reduceEq] at hs ⊢
   grind
  ·refine ⟨A + s * v, B + s * u, ?_⟩
   simp only [nK, Z4y, if_true, if_false, reduceIte, Int.reduceEq] at hs ⊢
   grind
 obtain ⟨X, Y, e⟩ := key
 obtain ⟨x, x0, x1, rfl⟩ := H.sur X
 obtain ⟨y, y0, y1, rfl⟩ := H.sur Y
 have hm : (x, y) ∈ pts p := Zkp.2 ⟨⟨x0, x1⟩, ⟨y0, y1⟩⟩
 exact ⟨(x, y), hm, (hon _ (ZwU hm)).2 e⟩
end
theorem ZvU {p c : Int} {z : P2} {l : P3} (hf : Zo p = true) (hc : Z0P c = true) (hz : ZI p z = true) (hl : Z0S p l = true) (hn : Z0T p c l = false) : Z4R p c z l = (Z8c p c z l, 0) := by
 unfold Z4R Z5m
 rw [hc, hz, hl, hn, if_pos rfl, if_pos rfl, ask0 hf]
 rfl
theorem Zsk {p c : Int} {a b : P2} (hf : Zo p = true) (hc : Z0P c = true) (ha : ZI p a = true) (hb : ZI p b = true) : Z1q p c a b = (Z29 p c a b, 0) := by
 have e : Z0c p [a, b] = true := by simp [Z0c, ha, hb]
 unfold Z1q Z3J
 rw [hc, if_pos rfl, e, ask0 hf]
 rfl
theorem Zxm {p c : Int} {a : P2} {l : P3} (h : (ZP p c a l).2 = 0) : Zo p = true /\ Z0P c = true /\ ZI p a = true /\ Z0S p l = true /\ Z0T p c l = false := by
 by_cases h1 : Zt p true (Z0x c p a l) = 0
 ·obtain ⟨hf, hb⟩ := Z9V h1
  unfold Z0x at hb
  cases hc : Z0P c
  ·rw [hc] at hb; cases hb
  ·cases ha : ZI p a
   ·rw [hc, ha] at hb; cases hb
   ·rw [hc, ha] at hb
    cases hn : Z0T p c l
    ·exact ⟨hf, rfl, rfl, hb, rfl⟩
    ·exfalso
     unfold ZP at h
     rw [h1, if_neg (by decide), if_pos hn] at h
     exact absurd h (show ¬ ((5 : Int) = 0) by decide)
 ·exfalso
  unfold ZP at h
  rw [if_pos (by simpa using h1)] at h
  exact h1 h
theorem ZnG {p c : Int} {a : P2} {l : P3} (h : (ZP p c a l).2 = 0) : Zo p = true /\ Z0Z p (ZP p c a l).1 = true /\ (∃ z, z ∈ pts p /\ Z1g p z (ZP p c a l).1 = true) /\ ∀ z, ZI p z = true -> Z1g p z (ZP p c a l).1 = true -> (Z4R p c z l).2 = 0 /\ (Z1q p c z a).2 = 0 /\ (Z1q p c z (Z4R p c z l).1).2 = 0 /\ (Z1q p c z a).1 = (Z1q p c z (Z4R p c z l).1).1 := by
 obtain ⟨hf, hc, ha, hl, hn⟩ := Zxm h
 rw [ZcC]
 obtain ⟨K, inst, φ, H⟩ := ZdH hf
 have hC := Zv8 hc
 refine ⟨hf, (ZrY H hf hC ha hl hn).2.1, Zxn H hf hC ha hl hn, fun z hz ho => ?_⟩
 have hq := ZxG H hf hC ha hl hn hz ho
 have hp := (ZuR H hf hC hz hl hn).1
 rw [ZvU hf hc hz hl hn, Zsk hf hc hz ha]
 dsimp only
 rw [Zsk hf hc hz hp]
 exact ⟨rfl, rfl, rfl, hq⟩
theorem Zq2 {p : Int} {n : Nat} {l : List Int} (hL : lenB n 1 l = true) (h : (Z5f p n l).2 = 0) : Zo p = true /\ Z0Z p (Z5f p n l).1 = true := by
 obtain ⟨hl, _⟩ := Z53 hL
 rw [Nat.one_mul] at hl
 by_cases h1 : Zt p true (Z18 n l p) = 0
 ·obtain ⟨hf, hb⟩ := Z9V h1
  refine ⟨hf, ?_⟩
  unfold Z5f at h ⊢
  rw [h1, if_neg (by decide)] at h ⊢
  cases hm : (Z02 p (l.getD 0 0, l.getD 1 0, l.getD 2 0, l.getD 3 0, l.getD 4 0, l.getD 5 0)).2
  ·rw [hm] at h
   exact absurd h (show ¬ ((5 : Int) = 0) by decide)
  ·rw [if_neg (by simp)]
   unfold Z18 at hb
   by_cases h6 : n = 6
   ·subst h6
    rw [if_pos (by decide)] at hb
    obtain ⟨a, b, c, d, e, f, rfl⟩ := Zvg hl
    obtain ⟨K, inst, φ, H⟩ := ZdH hf
    have hp := Zx hf
    unfold ZR at hb
    simp only [List.all_cons, List.all_nil, Bool.and_true, Bool.and_eq_true, Z5v] at hb
    obtain ⟨a1, a2, a3, a4, a5, a6⟩ := hb
    have r := fun (x : Int) (hx : 0 <= x /\ x < p) => Vl.rw hp (Vl.of (φ := φ) hx)
    by_cases hn : φ a ≠ 0 \/ φ b ≠ 0 \/ φ c ≠ 0
    ·exact (Zei H hf (l := (a, b, c, d, e, f)) ⟨_, r a a1⟩ ⟨_, r b a2⟩ ⟨_, r c a3⟩ ⟨_, r d a4⟩ ⟨_, r e a5⟩ ⟨_, r f a6⟩ hn).2.isConic
    ·have z : φ a = 0 /\ φ b = 0 /\ φ c = 0 := by grind
     have := Zib H hf (l := (a, b, c, d, e, f)) (r a a1) (r b a2) (r c a3) z.1 z.2.1 z.2.2
     have hm : (Z02 p (a, b, c, d, e, f)).2 = true := hm
     rw [this] at hm
     cases hm
   ·rw [if_neg (by simp; omega)] at hb
    cases hb
 ·exfalso
  unfold Z5f at h
  rw [if_pos (by simpa using h1)] at h
  exact h1 h
theorem Zrn {p : Int} {k : P6} (hf : Zo p = true) (hk : Z0Z p k = true) : Z6l p k = (true, 0) := by
 unfold Z6l
 rw [hf, hk]
 rfl
theorem Zrm (p : Int) (k : P6) : Z6l p k = Z9s p k := by
 unfold Z6l Z9s
 have e : Z0a p = Zo p := rfl
 rw [e]
 cases hf : Zo p
 ·rfl
 ·rw [Zq1 (Zx hf)]

end Go.Proofs.Ytfclaacaphpoaaa
