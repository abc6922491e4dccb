import Derived.Test.YtfclaacaphpoaaaQg
set_option linter.unusedSimpArgs false
set_option linter.unusedVariables false
namespace Go.Proofs.Ytfclaacaphpoaaa
open Go.RowKit
theorem Zts {p : Int} {K : Type} {φ : Int -> K} {l : P3} {x : K} (h : Vl p φ l.1 x) : Vl p φ (Zfi p l).2 x := h
section
variable {p : Int} {K : Type} [Lean.Grind.Field K] {φ : Int -> K}
theorem Ztr (H : Hom p K φ) (hf : Zo p = true) {l : P3} {y : K} (h : Vl p φ l.2.1 y) : Vl p φ (Zfi p l).1 (-y) := by
 have hp := Zx hf
 unfold Zfi
 dsimp only
 (with_reducible (repeat' (first | assumption | exact Vl.rw hp (by assumption) | exact Rw.lit _ (by decide) | exact Rw.nlit _ (by decide) | apply Vl.rest H hp | apply Vl.smod H hp | apply Vl.div H hf | apply Vl.inv H hf | apply Vl.sinvV H hf | apply Vl.sinvR H hf | apply Rw.tmod H hp | apply Rw.mul H | apply Rw.neg0 H | apply Rw.sub H | apply Rw.add H | apply Vl.rw hp | decide)))
theorem ZwN {c : Int} (hc : isC c) {x y : K} (h : x ≠ 0 \/ y ≠ 0) : frU c x y ≠ 0 \/ frV c x y ≠ 0 := by
 rcases hc with rfl | rfl | rfl <;> simp [frU, frV] <;> grind
theorem Zg3 {p : Int} {a : P2} {m : P3} : m ∈ Z3r p a ↔ m = (0, 1, Z1 p (wrap64 (0 - a.2))) \/ ∃ b : Int, (0 <= b /\ b < p) /\ m = (1, b, Z1 p (wrap64 (wrap64 (0 - a.1) - wrap64 (b * a.2)))) := by
 unfold Z3r
 simp only [List.mem_cons, List.mem_map, List.mem_range]
 constructor
 ·rintro (h | ⟨k, hk, rfl⟩)
  ·exact Or.inl h
  ·exact Or.inr ⟨k, by omega, rfl⟩
 ·rintro (h | ⟨b, hb, rfl⟩)
  ·exact Or.inl h
  ·exact Or.inr ⟨b.toNat, by omega, by rw [show ((b.toNat : Nat) : Int) = b from by omega]⟩
theorem Zvi (H : Hom p K φ) (hf : Zo p = true) {a : P2} {x y : K} (h3 : Vl p φ a.1 x) (h4 : Vl p φ a.2 y) {m : P3} (hm : m ∈ Z3r p a) : ∃ u v : K, (u ≠ 0 \/ v ≠ 0) /\ Ln p φ m u v (-(u * x + v * y)) /\ Vl p φ m.1 u /\ Vl p φ m.2.1 v := by
 have hp := Zx hf
 rcases Zg3.1 hm with rfl | ⟨b, hb, rfl⟩
 ·have v : Vl p φ (Z1 p (wrap64 (0 - a.2))) (-y) := by (with_reducible (repeat' (first | assumption | exact Vl.rw hp (by assumption) | exact Rw.lit _ (by decide) | exact Rw.nlit _ (by decide) | apply Vl.rest H hp | apply Vl.smod H hp | apply Vl.div H hf | apply Vl.inv H hf | apply Vl.sinvV H hf | apply Vl.sinvR H hf | apply Rw.tmod H hp | apply Rw.mul H | apply Rw.neg0 H | apply Rw.sub H | apply Rw.add H | apply Vl.rw hp | decide)))
  refine ⟨0, 1, Or.inr H.one_ne, ⟨1, H.one_ne, (Vl.zero H hp).conv (by grind), (Vl.one H hf).conv (by grind), v.conv (by grind), Or.inr ⟨rfl, rfl⟩⟩, Vl.zero H hp, Vl.one H hf⟩
 ·have hb' : Vl p φ b (φ b) := Vl.of hb
  have v : Vl p φ (Z1 p (wrap64 (wrap64 (0 - a.1) - wrap64 (b * a.2)))) (-x - φ b * y) := by (with_reducible (repeat' (first | assumption | exact Vl.rw hp (by assumption) | exact Rw.lit _ (by decide) | exact Rw.nlit _ (by decide) | apply Vl.rest H hp | apply Vl.smod H hp | apply Vl.div H hf | apply Vl.inv H hf | apply Vl.sinvV H hf | apply Vl.sinvR H hf | apply Rw.tmod H hp | apply Rw.mul H | apply Rw.neg0 H | apply Rw.sub H | apply Rw.add H | apply Vl.rw hp | decide)))
  refine ⟨1, φ b, Or.inl H.one_ne, ⟨1, H.one_ne, (Vl.one H hf).conv (by grind), hb'.conv (by grind), v.conv (by grind), Or.inl rfl⟩, Vl.one H hf, hb'⟩
theorem Zvh (H : Hom p K φ) (hf : Zo p = true) {a : P2} {x y : K} (h3 : Vl p φ a.1 x) (h4 : Vl p φ a.2 y) (u v : K) (hn : u ≠ 0 \/ v ≠ 0) : ∃ m ∈ Z3r p a, Ln p φ m u v (-(u * x + v * y)) := by
 have hp := Zx hf
 by_cases hu : u = 0
 ·have hv : v ≠ 0 := by grind
  refine ⟨_, Zg3.2 (Or.inl rfl), ?_⟩
  have w : Vl p φ (Z1 p (wrap64 (0 - a.2))) (-y) := by (with_reducible (repeat' (first | assumption | exact Vl.rw hp (by assumption) | exact Rw.lit _ (by decide) | exact Rw.nlit _ (by decide) | apply Vl.rest H hp | apply Vl.smod H hp | apply Vl.div H hf | apply Vl.inv H hf | apply Vl.sinvV H hf | apply Vl.sinvR H hf | apply Rw.tmod H hp | apply Rw.mul H | apply Rw.neg0 H | apply Rw.sub H | apply Rw.add H | apply Vl.rw hp | decide)))
  exact ⟨v⁻¹, by grind, (Vl.zero H hp).conv (by grind), (Vl.one H hf).conv (by grind), w.conv (by grind), Or.inr ⟨rfl, rfl⟩⟩
 ·obtain ⟨b, b1, b2, b3⟩ := H.sur (v * u⁻¹)
  have hb' : Vl p φ b (v * u⁻¹) := ⟨⟨b1, b2⟩, b3⟩
  refine ⟨_, Zg3.2 (Or.inr ⟨b, ⟨b1, b2⟩, rfl⟩), ?_⟩
  have w : Vl p φ (Z1 p (wrap64 (wrap64 (0 - a.1) - wrap64 (b * a.2)))) (-x - v * u⁻¹ * y) := by (with_reducible (repeat' (first | assumption | exact Vl.rw hp (by assumption) | exact Rw.lit _ (by decide) | exact Rw.nlit _ (by decide) | apply Vl.rest H hp | apply Vl.smod H hp | apply Vl.div H hf | apply Vl.inv H hf | apply Vl.sinvV H hf | apply Vl.sinvR H hf | apply Rw.tmod H hp | apply Rw.mul H | apply Rw.neg0 H | apply Rw.sub H | apply Rw.add H | apply Vl.rw hp | decide)))
  exact ⟨u⁻¹, by grind, (Vl.one H hf).conv (by grind), hb'.conv (by grind), w.conv (by grind), Or.inl rfl⟩
theorem Z6I (H : Hom p K φ) (hf : Zo p = true) {c : Int} (hc : isC c) {l m : P3} {l1 l2 m1 m2 : K} (h1 : Vl p φ l.1 l1) (h2 : Vl p φ l.2.1 l2) (h3 : Vl p φ m.1 m1) (h4 : Vl p φ m.2.1 m2) :
  Z0u p c l m = true ↔ Z4y c (-l2) l1 (-m2) m1 = 0 := by
 have v := Zmi H hf hc (Ztr H hf h2) (Zts h1) (Ztr H hf h4) (Zts h3)
 unfold Z0u
 rw [beq_iff_eq]
 exact Vl.zero_iff H v
theorem Zbp (H : Hom p K φ) (hf : Zo p = true) {c : Int} (hc : isC c) {l : P3} {a : P2} {l1 l2 x y : K} (h1 : Vl p φ l.1 l1) (h2 : Vl p φ l.2.1 l2) (h3 : Vl p φ a.1 x) (h4 : Vl p φ a.2 y) (hn : l1 ≠ 0 \/ l2 ≠ 0) :
  Ln p φ (Z2Q p c l a) (frU c (-l2) l1) (frV c (-l2) l1) (-(frU c (-l2) l1 * x + frV c (-l2) l1 * y)) := by
 obtain ⟨m, hm, hl⟩ := Zvh H hf h3 h4 (frU c (-l2) l1) (frV c (-l2) l1) (ZwN hc (by grind))
 have hfind : (Z3r p a).find? (fun zz => Z0u p c l zz) = some m := by
  refine ZtK hm ?_ ?_
  ·obtain ⟨t, ht, m0, m1, m2, _⟩ := hl
   rw [Z6I H hf hc h1 h2 m0 m1, ZqW hc]
   grind
  ·intro b hb hq
   obtain ⟨u, v, huv, hlb, b0, b1⟩ := Zvi H hf h3 h4 hb
   rw [Z6I H hf hc h1 h2 b0 b1, ZqW hc] at hq
   have hne := ZwN hc (show -l2 ≠ 0 \/ l1 ≠ 0 by grind)
   refine Ln.inj H hlb (a := u) (b := v) (c := -(u * x + v * y)) ?_
   generalize frU c (-l2) l1 = U at hq hne hl
   generalize frV c (-l2) l1 = V at hq hne hl
   by_cases hU : U = 0
   ·have hu : u = 0 := by grind
    refine Ln.scale (V * v⁻¹) (by grind) (by grind) (by grind) (by grind) hl
   ·have hu : u ≠ 0 := by grind
    refine Ln.scale (U * u⁻¹) (by grind) (by grind) (by grind) (by grind) hl
 unfold Z2Q
 rw [Zw7, hfind]
 exact hl
theorem ZpF (H : Hom p K φ) (hf : Zo p = true) {a b c d : Int} {x y z w : K} (h1 : Vl p φ a x) (h2 : Vl p φ b y) (h3 : Vl p φ c z) (h4 : Vl p φ d w) : Vl p φ (Z1 p (wrap64 (wrap64 (a * b) - wrap64 (c * d)))) (x * y - z * w) := by
 have hp := Zx hf
 (with_reducible (repeat' (first | assumption | exact Vl.rw hp (by assumption) | exact Rw.lit _ (by decide) | exact Rw.nlit _ (by decide) | apply Vl.rest H hp | apply Vl.smod H hp | apply Vl.div H hf | apply Vl.inv H hf | apply Vl.sinvV H hf | apply Vl.sinvR H hf | apply Rw.tmod H hp | apply Rw.mul H | apply Rw.neg0 H | apply Rw.sub H | apply Rw.add H | apply Vl.rw hp | decide)))
theorem ZwH (H : Hom p K φ) (hf : Zo p = true) {l m : P3} {l0 l1 l2 m0 m1 m2 : K} (h0 : Vl p φ l.1 l0) (h1 : Vl p φ l.2.1 l1) (h2 : Vl p φ l.2.2 l2) (g0 : Vl p φ m.1 m0) (g1 : Vl p φ m.2.1 m1) (g2 : Vl p φ m.2.2 m2) :
  Vl p φ (ZaX p l m).1 ((l1 * m2 - l2 * m1) * (l0 * m1 - l1 * m0)⁻¹) /\ Vl p φ (ZaX p l m).2 ((l2 * m0 - l0 * m2) * (l0 * m1 - l1 * m0)⁻¹) := by
 have hp := Zx hf
 unfold ZaX
 dsimp only
 have d := ZpF H hf h0 g1 h1 g0
 exact ⟨Vl.div H hf (Vl.rw hp (ZpF H hf h1 g2 h2 g1)) d (by decide), Vl.div H hf (Vl.rw hp (ZpF H hf h2 g0 h0 g2)) d (by decide)⟩
theorem Zrj (H : Hom p K φ) (hf : Zo p = true) {l m : P3} {l0 l1 l2 m0 m1 m2 : K} (h0 : Vl p φ l.1 l0) (h1 : Vl p φ l.2.1 l1) (h2 : Vl p φ l.2.2 l2) (g0 : Vl p φ m.1 m0) (g1 : Vl p φ m.2.1 m1) (g2 : Vl p φ m.2.2 m2) :
  (Vl p φ (Z5j p l m).1.1 ((l1 * m2 - l2 * m1) * (l0 * m1 - l1 * m0)⁻¹) /\ Vl p φ (Z5j p l m).1.2 ((l2 * m0 - l0 * m2) * (l0 * m1 - l1 * m0)⁻¹)) /\ ((Z5j p l m).2 = true ↔ l0 * m1 - l1 * m0 ≠ 0) := by
 have hp := Zx hf
 have d : Vl p φ (Z4 (wrap64 (wrap64 (l.1 * m.2.1) - wrap64 (l.2.1 * m.1))) p) (l0 * m1 - l1 * m0) := ZpF H hf h0 g1 h1 g0
 have z := Vl.zero_iff H d
 unfold Z5j
 cases e : (Z4 (wrap64 (wrap64 (l.1 * m.2.1) - wrap64 (l.2.1 * m.1))) p == 0) with
 | true =>
  rw [if_pos rfl]
  have hd := z.1 (by simpa using e)
  rw [hd]
  refine ⟨⟨(Vl.zero H hp).conv (by grind), (Vl.zero H hp).conv (by grind)⟩, by simp⟩
 | false =>
  rw [if_neg (by simp)]
  have hd : l0 * m1 - l1 * m0 ≠ 0 := by
   intro h
   have := z.2 h
   rw [this] at e
   cases e
  have i := Vl.sinvV H hf d
  refine ⟨⟨?_, ?_⟩, by simpa using hd⟩
  ·have : Vl p φ (Z4 (wrap64 ((wrap64 (wrap64 (l.2.1 * m.2.2) - wrap64 (m.2.1 * l.2.2))).tmod p * Zn (Z4 (wrap64 (wrap64 (l.1 * m.2.1) - wrap64 (l.2.1 * m.1))) p) p)) p) ((l1 * m2 - m1 * l2) * (l0 * m1 - l1 * m0)⁻¹) := by (with_reducible (repeat' (first | assumption | exact Vl.rw hp (by assumption) | exact Rw.lit _ (by decide) | exact Rw.nlit _ (by decide) | apply Vl.rest H hp | apply Vl.smod H hp | apply Vl.div H hf | apply Vl.inv H hf | apply Vl.sinvV H hf | apply Vl.sinvR H hf | apply Rw.tmod H hp | apply Rw.mul H | apply Rw.neg0 H | apply Rw.sub H | apply Rw.add H | apply Vl.rw hp | decide)))
   exact this.conv (by grind)
  ·have : Vl p φ (Z4 (wrap64 ((wrap64 (wrap64 (m.1 * l.2.2) - wrap64 (l.1 * m.2.2))).tmod p * Zn (Z4 (wrap64 (wrap64 (l.1 * m.2.1) - wrap64 (l.2.1 * m.1))) p) p)) p) ((m0 * l2 - l0 * m2) * (l0 * m1 - l1 * m0)⁻¹) := by (with_reducible (repeat' (first | assumption | exact Vl.rw hp (by assumption) | exact Rw.lit _ (by decide) | exact Rw.nlit _ (by decide) | apply Vl.rest H hp | apply Vl.smod H hp | apply Vl.div H hf | apply Vl.inv H hf | apply Vl.sinvV H hf | apply Vl.sinvR H hf | apply Rw.tmod H hp | apply Rw.mul H | apply Rw.neg0 H | apply Rw.sub H | apply Rw.add H | apply Vl.rw hp | decide)))
   exact this.conv (by grind)
theorem Zwm {a b : P2} (h1 : a.1 = b.1) (h2 : a.2 = b.2) : a = b := Prod.ext h1 h2
theorem ZtZ (H : Hom p K φ) (hf : Zo p = true) {l m : P3} {l0 l1 l2 m0 m1 m2 : K} (h0 : Vl p φ l.1 l0) (h1 : Vl p φ l.2.1 l1) (h2 : Vl p φ l.2.2 l2) (g0 : Vl p φ m.1 m0) (g1 : Vl p φ m.2.1 m1) (g2 : Vl p φ m.2.2 m2) : ZaX p l m = (Z5j p l m).1 := by
 have a := ZwH H hf h0 h1 h2 g0 g1 g2
 have b := (Zrj H hf h0 h1 h2 g0 g1 g2).1
 exact Zwm (Vl.inj H a.1 b.1) (Vl.inj H a.2 b.2)
theorem Ln.meet (H : Hom p K φ) (hf : Zo p = true) {l m : P3} {a b c a' b' c' : K} (h1 : Ln p φ l a b c) (h2 : Ln p φ m a' b' c') (hd : a * b' - b * a' ≠ 0) :
  ZaX p l m = (Z5j p l m).1 /\ (Z5j p l m).2 = true /\ ∃ X Y : K, Vl p φ (Z5j p l m).1.1 X /\ Vl p φ (Z5j p l m).1.2 Y /\ a * X + b * Y + c = 0 /\ a' * X + b' * Y + c' = 0 := by
 obtain ⟨s, hs, p0, p1, p2, pk⟩ := h1
 obtain ⟨t, ht, q0, q1, q2, qk⟩ := h2
 have v := Zrj H hf p0 p1 p2 q0 q1 q2
 have hst : s * t ≠ 0 := by grind
 have hdet : a * s * (b' * t) - b * s * (a' * t) ≠ 0 := by
  have e : a * s * (b' * t) - b * s * (a' * t) = (s * t) * (a * b' - b * a') := by grind
  rw [e]
  grind
 refine ⟨ZtZ H hf p0 p1 p2 q0 q1 q2, v.2.2 hdet, _, _, v.1.1, v.1.2, ?_, ?_⟩
 ·generalize hD : a * s * (b' * t) - b * s * (a' * t) = D at hdet
  have hDi : D * D⁻¹ = 1 := Lean.Grind.Field.mul_inv_cancel hdet
  generalize D⁻¹ = E at hDi
  clear v p0 p1 p2 q0 q1 q2 pk qk
  have hs' : s * s⁻¹ = 1 := Lean.Grind.Field.mul_inv_cancel hs
  generalize s⁻¹ = s' at hs'
  grind
 ·generalize hD : a * s * (b' * t) - b * s * (a' * t) = D at hdet
  have hDi : D * D⁻¹ = 1 := Lean.Grind.Field.mul_inv_cancel hdet
  generalize D⁻¹ = E at hDi
  clear v p0 p1 p2 q0 q1 q2 pk qk
  have ht' : t * t⁻¹ = 1 := Lean.Grind.Field.mul_inv_cancel ht
  generalize t⁻¹ = t' at ht'
  grind
end

end Go.Proofs.Ytfclaacaphpoaaa
