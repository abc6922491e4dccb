import Derived.Test.YtcdpfpfbilfpoaaGreatDoorQb
import Derived.Test.YtcdpfpfbilfpoaaGreatDoorTb
import Derived.Test.YtcdpfpfbilfpoaaGreatDoorDn
set_option linter.unusedSimpArgs false
set_option linter.unusedVariables false
namespace Go.Proofs.YtcdpfpfbilfpoaaGreatDoor
open Go.RowKit
section
variable {p : Int} {K : Type} [Lean.Grind.Field K] {φ : Int -> K}
theorem Ln.line (hf : Z6 p = true) {l : P3} {a b c : K} (h : Ln p φ l a b c) : Z3c p l = true := by
 obtain ⟨t, _, h0, h1, h2, h3⟩ := h
 unfold Z3c ZM
 simp [Z1c.2 h0.1, Z1c.2 h1.1, Z1c.2 h2.1]
 omega
end
theorem ZPz {p k j : Int} {a b d : P2} (hk : isC k) (hj : isC j) : Zk p k a b d = Zk p j a b d := by
 have e1 : Z05 k = true := by rcases hk with rfl | rfl | rfl <;> rfl
 have e2 : Z05 j = true := by rcases hj with rfl | rfl | rfl <;> rfl
 unfold Zk Z24
 rw [e1, e2]
theorem Zz2 {p : Int} (hf : Z6 p = true) {k : Int} (hk : isC k) {a : P2} {l : P3} (ha : Z5 p a = true) (hl : Z3c p l = true) : Z4H p k a l = (Z0K p k a l).1 /\ (Z0K p k a l).2 = !(Z1Y p k l) := by
 obtain ⟨K, inst, φ, H⟩ := Z7C hf
 have a1 := Vl.of (φ := φ) (Zo ha).1; have a2 := Vl.of (φ := φ) (Zo ha).2
 obtain ⟨⟨n0, n1, n2⟩, hn⟩ := Zq7 hl
 have l0 := Vl.of (φ := φ) n0; have l1 := Vl.of (φ := φ) n1
 have hne : φ l.1 ≠ 0 \/ φ l.2.1 ≠ 0 := by
  have h1 := H.one_ne
  rcases hn with e | ⟨_, e⟩
  ·rw [e, H.one]; exact Or.inl h1
  ·rw [e, H.one]; exact Or.inr h1
 have pi := Zjg H hf hk l0 l1 a1 a2 hne
 have ps := Zkn H hf hk (d := Z1K p l) (ZfT H hf l1) (ZfU l0) a1 a2 (by grind)
 have e := Ln.inj H pi ps
 have hln := Ln.of H hl
 refine ⟨?_, ?_⟩
 ·unfold Z4H Z0K
  rw [e]
  obtain ⟨s, hs, p0, p1, p2, pk⟩ := hln
  obtain ⟨t, ht, q0, q1, q2, qk⟩ := ps
  exact Zvf H hf p0 p1 p2 q0 q1 q2
 ·have hp := Ln.par H hf hln ps
  have hq := ZsH H hf hk l0 l1 l0 l1
  show (Z1N p l (Z1V p k (Z1K p l) a)).2 = !(Z0o p k l l)
  rw [Bool.eq_iff_iff, hp, Bool.not_eq_true', <- Bool.not_eq_true, hq]
  rw [Zn7 hk]
  generalize frU k (-φ l.2.1) (φ l.1) = U
  generalize frV k (-φ l.2.1) (φ l.1) = V
  constructor <;> intro h1 h2 <;> apply h1 <;> grind
theorem ZtK (p k : Int) (a b c : P2) : ZI p k a b c = Z0H p k a b c := by
 unfold ZI Z0H
 rw [tricode]
 by_cases h : Zk p k a b c = 0
 ·have hk := (Z2h h).2.1
  have h0 : Zk p 0 a b c = 0 := by rw [<- ZPz hk isC0]; exact h
  rw [ZgU h0 hk, Zj5 h0 hk, h]
  by_cases hx : Zc p k a b c = Zb p k a b c
  ·simp [hx]
  ·rw [Z8c (Z2h h).1 (Z9s h0 hk) (Z9R h0 hk) hx]
 ·simp [h]
theorem ZNd {p k : Int} {a b c : P2} (h : Zk p k a b c = 0) : a ≠ b /\ a ≠ c /\ b ≠ c := by
 obtain ⟨hf, hk, ha, hb, hc, hn⟩ := Z2h h
 obtain ⟨K, inst, φ, H⟩ := Z7C hf
 have T := Zr9 H h
 unfold Tri at T
 refine ⟨?_, ?_, ?_⟩ <;> rintro rfl <;> exact T (by grind)
theorem Z9q {p : Int} {a b : P2} (hf : Z6 p = true) (ha : Z5 p a = true) (hb : Z5 p b = true) (h : a ≠ b) : Z3c p (Zr p a b) = true := by
 obtain ⟨K, inst, φ, H⟩ := Z7C hf
 have a1 := Vl.of (φ := φ) (Zo ha).1; have a2 := Vl.of (φ := φ) (Zo ha).2
 have b1 := Vl.of (φ := φ) (Zo hb).1; have b2 := Vl.of (φ := φ) (Zo hb).2
 exact Ln.line hf (Z62 H hf a1 a2 b1 b2 (ZF3 H a1 a2 b1 b2 h))
theorem Zhq (p k : Int) (a b c : P2) : Z4F p k a b c = Z0D p k a b c := by
 unfold Z4F Z0D
 rw [tricode]
 by_cases h : Zk p k a b c = 0
 ·obtain ⟨hf, hk, ha, hb, hc, hn⟩ := Z2h h
  obtain ⟨n1, n2, n3⟩ := ZNd h
  rw [<- Z8c hf hb hc n3, <- Z8c hf ha hc n2, <- Z8c hf ha hb n1, h]
  obtain ⟨e1, e2⟩ := Zz2 hf hk ha (Z9q hf hb hc n3)
  obtain ⟨f1, f2⟩ := Zz2 hf hk hb (Z9q hf ha hc n2)
  obtain ⟨g1, g2⟩ := Zz2 hf hk hc (Z9q hf ha hb n1)
  rw [e1, e2, f1, f2, g1, g2]
  simp only [Bool.not_not]
 ·simp [h]
theorem ZJX (p x y z : Int) : Z6I p x y z = Z9W p x y z := rfl
theorem Zzh (p k : Int) (a b c : P2) : Z9n p k a b c = Z2n p k a b c := by
 unfold Z9n Z2n Za7
 rw [tricode]
 by_cases h : Zk p k a b c = 0
 ·obtain ⟨hf, hk, ha, hb, hc, hn⟩ := Z2h h
  rw [ZJX, Z6G hf hk hb hc, Z6G hf hk ha hc, Z6G hf hk ha hb]
 ·simp [h]
section
variable {p : Int} {K : Type} [Lean.Grind.Field K] {φ : Int -> K}
theorem ZOp (H : Hom p K φ) (hf : Z6 p = true) {c : Int} (hc : isC c) {l : P3} {l1 l2 : K} (h1 : Vl p φ l.1 l1) (h2 : Vl p φ l.2.1 l2) : Z1Y p c l = true ↔ Z1j c (-l2) l1 (-l2) l1 = 0 := ZsH H hf hc h1 h2 h1 h2
end

theorem ZtR (p : Int) (a b c : P2) : Z76 p a b c = Z0I p a b c := by
 unfold Z76 Z0I Z5u Z87
 rw [tricode]
 by_cases h : Zk p 0 a b c = 0
 ·rw [ZgU h isC0, ZgU h isC1, ZgU h isC2]
 ·simp [h]
theorem ZmA (p : Int) (a b c : P2) : Z3q p a b c = Z03 p a b c := by
 have ht : ∀ k, isC k -> Zk p k a b c = Zk p 0 a b c := by
  intro k hk
  unfold Zk Z24
  have : Z05 k = true := by rcases hk with rfl | rfl | rfl <;> rfl
  rw [this]
  rfl
 have e : ∀ k, isC k -> ZI p k a b c = if (Zk p 0 a b c != 0) = true then ((0, 0, 0), Zk p 0 a b c) else if (Zc p k a b c == Zb p k a b c) = true then ((0, 0, 0), 5) else (Zx p (Zc p k a b c) (Zb p k a b c), 0) := by
  intro k hk
  unfold ZI
  rw [ht k hk]
  by_cases h : Zk p 0 a b c = 0
  ·have hf := (Z2h h).1
   rw [ZgU h hk, Zj5 h hk]
   by_cases hx : Zc p k a b c = Zb p k a b c
   ·simp [h, hx]
   ·rw [Z8c hf (Z9s h hk) (Z9R h hk) hx]
  ·simp [h]
 unfold Z3q Z03
 rw [tricode, e 0 isC0, e 1 isC1, e 2 isC2]
 by_cases h : Zk p 0 a b c = 0
 ·simp only [h]
  by_cases h0 : Zc p 0 a b c = Zb p 0 a b c
  ·simp [h0]
  ·by_cases h1 : Zc p 1 a b c = Zb p 1 a b c
   ·simp [h0, h1]
   ·by_cases h2 : Zc p 2 a b c = Zb p 2 a b c
    ·simp [h0, h1, h2]
    ·simp [h0, h1, h2]
 ·simp [h]
theorem Zrb (p : Int) (a b c : P2) : Z60 p a b c = Z0s p a b c := by
 unfold Z60 Z0s Z2H Z5r Z2I
 rw [pointcode p true]
 have e : ∀ k, Z6E p k a b c = (Z04 p k (Zj p b a) (Zj p c a) == 0) := fun k => rfl
 simp only [e]
 repeat' split
 all_goals first
  | rfl
  | simp_all
theorem Zxz (p : Int) : Z2X p = Z0V p := by
 unfold Z2X Z0V
 cases h : Z6 p
 ·have h' : Z06 p = false := h
  rw [h']; rfl
 ·have h' : Z06 p = true := h
  rw [h']
  have e : ∀ c, isC c -> Z1R p c (0, 0) 1 = Z2D p c (0, 0) 1 := by
   intro c hc
   unfold Z1R Z6S Z2D Z4p
   have hh : (pts p).filter (fun zz => ZA p c (0, 0) zz == 1) = (pts p).filter (fun zz => Zp p c (0, 0) zz == 1) := by
    apply ZwG
    intro z hz
    have hz := Zsu.1 hz
    have z0 : Z5 p (0, 0) = true := by
     have := Zy h
     unfold Pr at this
     simp [Z5, ZM, Z0p]; omega
    have z1 : Z5 p z = true := by simp [Z5, ZM, Z0p]; omega
    rw [Z6G h hc z0 z1]
   dsimp only
   rw [hh]
  rw [e 0 isC0, e 1 isC1, e 2 isC2]
theorem Z7Z {p x : Int} (hf : Z6 p = true) (h : 0 <= x /\ x < p) : num1 x = true := by
 have hm := Z7B hf
 rw [Zjj]
 simp only [List.mem_cons, List.not_mem_nil, or_false] at hm
 omega
theorem Z7h {p : Int} {a : P2} (hf : Z6 p = true) (h : Z5 p a = true) : num2 a = true := by
 obtain ⟨h1, h2⟩ := Zo h
 exact Zkr (Z7Z hf h1) (Z7Z hf h2)
theorem Zsx {p : Int} {l : P3} (hf : Z6 p = true) (h : Z3c p l = true) : num3 l = true := by
 obtain ⟨⟨h1, h2, h3⟩, _⟩ := Zq7 h
 exact ZnP (Z7Z hf h1) (Z7Z hf h2) (Z7Z hf h3)
theorem ask1 {p : Int} {b : Bool} (hf : Z6 p = true) (hb : b = true) : ZK p true b = 0 := by rw [hb]; simp [ZK, hf]
theorem ask2 {p : Int} {b : Bool} (hf : Z6 p = true) (hb : b = false) : ZK p true b = 2 := by rw [hb]; simp [ZK, hf]
theorem Z8B {c : Int} (hc : isC c) : Z05 c = true := by rcases hc with rfl | rfl | rfl <;> rfl
theorem ZBr {p : Int} {a b : P2} (hf : Z6 p = true) (ha : Z5 p a = true) (hb : Z5 p b = true) : Z4Z p a b = Z1f p a b /\ Z5 p (Z1f p a b) = true := by
 obtain ⟨K, _, φ, H⟩ := Z7C hf
 have hp := Zy hf
 have n2 := H.two_ne hf
 obtain ⟨a1, a2⟩ := Zo ha; obtain ⟨b1, b2⟩ := Zo hb
 have A1 := Vl.of (φ := φ) a1; have A2 := Vl.of (φ := φ) a2; have B1 := Vl.of (φ := φ) b1; have B2 := Vl.of (φ := φ) b2
 obtain ⟨X, Y, v1, v2, e1, e2⟩ := Zo2 H hf A1 A2 B1 B2
 have two : Vl p φ 2 (2 : K) := ⟨by have hm := Z7B hf; simp at hm; omega, H.two⟩
 have iv := Vl.inv H hf two
 have hi := Lean.Grind.Field.mul_inv_cancel n2
 have w1 : Vl p φ (Z4Z p a b).1 (φ a.1 + (2 : K)⁻¹ * (φ b.1 - φ a.1)) := by
  unfold Z4Z Z1B
  dsimp only
  (with_reducible (repeat' (first | assumption | exact Vl.rw hp (by assumption) | exact Rw.lit _ (by decide) | exact Rw.nlit _ (by decide) | apply Vl.rest H hp | apply Vl.smod H hp | apply Vl.div H hf | apply Vl.inv H hf | apply Vl.sinvV H hf | apply Vl.sinvR H hf | apply Rw.tmod H hp | apply Rw.mul H | apply Rw.neg0 H | apply Rw.sub H | apply Rw.add H | apply Vl.rw hp | decide)))
 have w2 : Vl p φ (Z4Z p a b).2 (φ a.2 + (2 : K)⁻¹ * (φ b.2 - φ a.2)) := by
  unfold Z4Z Z1B
  dsimp only
  (with_reducible (repeat' (first | assumption | exact Vl.rw hp (by assumption) | exact Rw.lit _ (by decide) | exact Rw.nlit _ (by decide) | apply Vl.rest H hp | apply Vl.smod H hp | apply Vl.div H hf | apply Vl.inv H hf | apply Vl.sinvV H hf | apply Vl.sinvR H hf | apply Rw.tmod H hp | apply Rw.mul H | apply Rw.neg0 H | apply Rw.sub H | apply Rw.add H | apply Vl.rw hp | decide)))
 refine ⟨Prod.ext (Vl.inj H w1 (v1.conv ?_)) (Vl.inj H w2 (v2.conv ?_)), ZgP v1 v2⟩
 ·clear w1 w2 v1 v2 iv two; grind
 ·clear w1 w2 v1 v2 iv two; grind
theorem ZLd {p : Int} {a b : P2} (hf : Z6 p = true) (ha : Z5 p a = true) (hb : Z5 p b = true) : Z9V p a b = Z1w p a b /\ num2 (Z1w p a b).1 = true := by
 obtain ⟨e, h⟩ := ZBr hf ha hb
 have hz : ZK p true (ZE p [a, b]) = 0 := ask1 hf (by simp [ZE, ha, hb])
 unfold Z9V Z3R Z1w
 rw [pointcode p true, hz, e]
 exact ⟨rfl, Z7h hf h⟩
theorem ZAc {p : Int} {a b : P2} (hf : Z6 p = true) (ha : Z5 p a = true) (hb : Z5 p b = true) : Z75 p a b = ZT p a b /\ num3 (ZT p a b).1 = true /\ ((ZT p a b).2 = 0 -> Z3c p (ZT p a b).1 = true) := by
 have hz : ZK p true (ZE p [a, b]) = 0 := ask1 hf (by simp [ZE, ha, hb])
 unfold Z75 Z3b ZT
 rw [pointcode p true, hz]
 by_cases h : a = b
 ·subst h
  rw [if_neg (by decide), if_pos (beq_self_eq_true a), if_neg (by decide), if_pos (beq_self_eq_true a)]
  exact ⟨rfl, rfl, fun e => by cases e⟩
 ·have hl := Z9q hf ha hb h
  rw [if_neg (by decide), if_neg (by simpa using h), if_neg (by decide), if_neg (by simpa using h), <- Z8c hf ha hb h]
  exact ⟨rfl, Zsx hf hl, fun _ => hl⟩
theorem ZID {p c : Int} {a : P2} {l : P3} (hf : Z6 p = true) : num2 (Z4H p c a l) = true := by
 have hp := Zy hf
 unfold Z4H Zcc Z0L ZF
 exact Zkr (Z7Z hf (Zak hp _)) (Z7Z hf (Zak hp _))
theorem ZI8 {p c : Int} {a : P2} {l : P3} (hf : Z6 p = true) (hc : isC c) (ha : Z5 p a = true) (hl : Z3c p l = true) : Zeq p c a l = Z5a p c a l /\ num2 (Z5a p c a l).1 = true := by
 obtain ⟨e1, e2⟩ := Zz2 hf hc ha hl
 have hz : ZK p true (Z6R c p a l) = 0 := ask1 hf (by unfold Z6R; simp [Z8B hc, ha, hl])
 have hb : Z0J p a l = 0 := by rw [bothcode p true]; exact ask1 hf (by simp [ha, hl])
 have hq : Z0b p c l l = Z1Y p c l := rfl
 have hcc : Z2a c = true := by rw [ZfV]; exact Z8B hc
 unfold Zeq Z5a
 rw [hz, hb, hq, hcc, <- e1]
 cases hn : Z1Y p c l
 ·refine ⟨rfl, ?_⟩
  show num2 (Z4H p c a l) = true
  exact ZID hf
 ·exact ⟨rfl, rfl⟩
theorem ZpN {p c : Int} (a b d : P2) : Z4d p c a b d = Z0E p c a b d /\ num2 (Z0E p c a b d).1 = true := by
 unfold Z4d Z0E
 rw [tricode]
 by_cases h : Zk p c a b d = 0
 ·obtain ⟨hf, hc, _⟩ := Z2h h
  rw [h, Zj5 h hc]
  exact ⟨rfl, Z7h hf (Z9R h hc)⟩
 ·rw [if_pos (bne_iff_ne.2 h), if_pos (bne_iff_ne.2 h)]
  exact ⟨rfl, rfl⟩
theorem Zut {p c : Int} (a b d : P2) : Z4Y p c a b d = Z0N p c a b d /\ num2 (Z0N p c a b d).1 = true := by
 unfold Z4Y Z0N
 rw [tricode]
 by_cases h : Zk p c a b d = 0
 ·obtain ⟨hf, hc, _⟩ := Z2h h
  rw [h, ZgU h hc]
  exact ⟨rfl, Z7h hf (Z9s h hc)⟩
 ·rw [if_pos (bne_iff_ne.2 h), if_pos (bne_iff_ne.2 h)]
  exact ⟨rfl, rfl⟩
theorem ZNK {p : Int} {a b : P2} (hf : Z6 p = true) (ha : Z5 p a = true) (hb : Z5 p b = true) (t : Int) : Z1H p a b t = Z0M p a b t /\ num2 (Z0M p a b t).1 = true := by
 have hab : ZE p [a, b] = true := by simp [ZE, ha, hb]
 have hz : ZW p [a, b] = 0 := by rw [pointcode p true]; exact ask1 hf hab
 have hn : Z00 p [t] = ZK p true (ZM p [t]) := ZgR p true [t]
 have e1 : Z1Q p a b t = ZM p [t] := by unfold Z1Q; rw [hab, if_pos rfl]; simp [ZM]
 unfold Z1H Z0M
 rw [hz, hn, e1]
 cases h : ZM p [t]
 ·rw [ask2 hf rfl]
  exact ⟨rfl, rfl⟩
 ·rw [ask1 hf rfl]
  have ht : 0 <= t /\ t < p := by simpa [ZM, Z1c] using h
  obtain ⟨K, _, φ, H⟩ := Z7C hf
  have hp := Zy hf
  obtain ⟨a1, a2⟩ := Zo ha; obtain ⟨b1, b2⟩ := Zo hb
  have A1 := Vl.of (φ := φ) a1; have A2 := Vl.of (φ := φ) a2; have B1 := Vl.of (φ := φ) b1; have B2 := Vl.of (φ := φ) b2; have T := Vl.of (φ := φ) ht
  have w1 : Vl p φ (Z1B p a b t).1 (φ a.1 + φ t * (φ b.1 - φ a.1)) := by
   unfold Z1B
   dsimp only
   (with_reducible (repeat' (first | assumption | exact Vl.rw hp (by assumption) | exact Rw.lit _ (by decide) | exact Rw.nlit _ (by decide) | apply Vl.rest H hp | apply Vl.smod H hp | apply Vl.div H hf | apply Vl.inv H hf | apply Vl.sinvV H hf | apply Vl.sinvR H hf | apply Rw.tmod H hp | apply Rw.mul H | apply Rw.neg0 H | apply Rw.sub H | apply Rw.add H | apply Vl.rw hp | decide)))
  have w2 : Vl p φ (Z1B p a b t).2 (φ a.2 + φ t * (φ b.2 - φ a.2)) := by
   unfold Z1B
   dsimp only
   (with_reducible (repeat' (first | assumption | exact Vl.rw hp (by assumption) | exact Rw.lit _ (by decide) | exact Rw.nlit _ (by decide) | apply Vl.rest H hp | apply Vl.smod H hp | apply Vl.div H hf | apply Vl.inv H hf | apply Vl.sinvV H hf | apply Vl.sinvR H hf | apply Rw.tmod H hp | apply Rw.mul H | apply Rw.neg0 H | apply Rw.sub H | apply Rw.add H | apply Vl.rw hp | decide)))
  have m1 : Vl p φ (Zj p b a).1 (φ b.1 - φ a.1) := Z8o H hf B1 A1
  have m2 : Vl p φ (Zj p b a).2 (φ b.2 - φ a.2) := Z8p H hf B2 A2
  have u1 : Vl p φ (Z0X p t (Zj p b a)).1 (φ t * (φ b.1 - φ a.1)) := by
   unfold Z0X
   dsimp only
   (with_reducible (repeat' (first | assumption | exact Vl.rw hp (by assumption) | exact Rw.lit _ (by decide) | exact Rw.nlit _ (by decide) | apply Vl.rest H hp | apply Vl.smod H hp | apply Vl.div H hf | apply Vl.inv H hf | apply Vl.sinvV H hf | apply Vl.sinvR H hf | apply Rw.tmod H hp | apply Rw.mul H | apply Rw.neg0 H | apply Rw.sub H | apply Rw.add H | apply Vl.rw hp | decide)))
  have u2 : Vl p φ (Z0X p t (Zj p b a)).2 (φ t * (φ b.2 - φ a.2)) := by
   unfold Z0X
   dsimp only
   (with_reducible (repeat' (first | assumption | exact Vl.rw hp (by assumption) | exact Rw.lit _ (by decide) | exact Rw.nlit _ (by decide) | apply Vl.rest H hp | apply Vl.smod H hp | apply Vl.div H hf | apply Vl.inv H hf | apply Vl.sinvV H hf | apply Vl.sinvR H hf | apply Rw.tmod H hp | apply Rw.mul H | apply Rw.neg0 H | apply Rw.sub H | apply Rw.add H | apply Vl.rw hp | decide)))
  have v1 : Vl p φ (Z0m p a (Z0X p t (Zj p b a))).1 (φ a.1 + φ t * (φ b.1 - φ a.1)) := by
   unfold Z0m
   dsimp only
   (with_reducible (repeat' (first | assumption | exact Vl.rw hp (by assumption) | exact Rw.lit _ (by decide) | exact Rw.nlit _ (by decide) | apply Vl.rest H hp | apply Vl.smod H hp | apply Vl.div H hf | apply Vl.inv H hf | apply Vl.sinvV H hf | apply Vl.sinvR H hf | apply Rw.tmod H hp | apply Rw.mul H | apply Rw.neg0 H | apply Rw.sub H | apply Rw.add H | apply Vl.rw hp | decide)))
  have v2 : Vl p φ (Z0m p a (Z0X p t (Zj p b a))).2 (φ a.2 + φ t * (φ b.2 - φ a.2)) := by
   unfold Z0m
   dsimp only
   (with_reducible (repeat' (first | assumption | exact Vl.rw hp (by assumption) | exact Rw.lit _ (by decide) | exact Rw.nlit _ (by decide) | apply Vl.rest H hp | apply Vl.smod H hp | apply Vl.div H hf | apply Vl.inv H hf | apply Vl.sinvV H hf | apply Vl.sinvR H hf | apply Rw.tmod H hp | apply Rw.mul H | apply Rw.neg0 H | apply Rw.sub H | apply Rw.add H | apply Vl.rw hp | decide)))
  have e : Z1B p a b t = Z0m p a (Z0X p t (Zj p b a)) := Prod.ext (Vl.inj H w1 v1) (Vl.inj H w2 v2)
  rw [e]
  exact ⟨rfl, Z7h hf (ZgP v1 v2)⟩
theorem ZI7 {p : Int} {a b d : P2} (hf : Z6 p = true) (ha : Z5 p a = true) (hb : Z5 p b = true) (hd : Z5 p d = true) : Z8E p a b d = Z27 p a b d /\ num1 (Z27 p a b d).1 = true := by
 have hz : ZK p true (ZE p [a, b, d]) = 0 := ask1 hf (by simp [ZE, ha, hb, hd])
 unfold Z8E Z3a Z27
 rw [pointcode p true, hz, ZEz p a b d hf ha hb hd]
 refine ⟨rfl, ?_⟩
 show num1 (Zcb p a b d) = true
 exact Z7Z hf (Zak (Zy hf) _)
theorem ZBW (a b d : P2) : Z5v 3 [a.1, a.2, b.1, b.2, d.1, d.2] = [a, b, d] := rfl
theorem ZQC {p c : Int} {a b d : P2} (hf : Z6 p = true) (hc : isC c) (ha : Z5 p a = true) (hb : Z5 p b = true) (hd : Z5 p d = true) : Z0e p c 3 [a.1, a.2, b.1, b.2, d.1, d.2] = 0 := by
 rw [colourcode p c true, ZBW, Z8B hc, if_pos rfl]
 exact ask1 hf (by simp [ZE, ha, hb, hd])
theorem ZMB {p c : Int} {a b d : P2} (hf : Z6 p = true) (hc : isC c) (ha : Z5 p a = true) (hb : Z5 p b = true) (hd : Z5 p d = true) : Z53 p c a b d = (Z6E p c a b d, 0) := by
 unfold Z53
 rw [ZQC hf hc ha hb hd]
 rfl
theorem ZOM {p : Int} (hf : Z6 p = true) (h : p ≠ 3) : (3 : Int) < p := by
 have hm := Z7B hf
 simp only [List.mem_cons, List.not_mem_nil, or_false] at hm
 omega
theorem ZrT {p : Int} (a b d : P2) : Z9U p a b d = Z2B p a b d /\ num2 (Z2B p a b d).1 = true := by
 unfold Z9U Z2B
 rw [tricode]
 by_cases h : Zk p 0 a b d = 0
 ·obtain ⟨hf, _, ha, hb, hd, hn⟩ := Z2h h
  rw [h]
  by_cases h3 : p = 3
  ·subst h3; exact ⟨rfl, rfl⟩
  ·rw [if_neg (by decide), if_neg (by simpa using h3), if_neg (by decide), if_neg (by simpa using h3)]
   obtain ⟨K, _, φ, H⟩ := Z7C hf
   have hp := Zy hf
   have hlt := ZOM hf h3
   obtain ⟨a1, a2⟩ := Zo ha; obtain ⟨b1, b2⟩ := Zo hb; obtain ⟨d1, d2⟩ := Zo hd
   have A1 := Vl.of (φ := φ) a1; have A2 := Vl.of (φ := φ) a2; have B1 := Vl.of (φ := φ) b1; have B2 := Vl.of (φ := φ) b2; have D1 := Vl.of (φ := φ) d1; have D2 := Vl.of (φ := φ) d2
   have T : Vl p φ 3 (3 : K) := ⟨by omega, H.three⟩
   have et : (3 : Int).tmod p = 3 := by rw [Int.tmod_eq_emod_of_nonneg (by decide)]; exact Int.emod_eq_of_lt (by decide) hlt
   have w1 : Vl p φ (Z0L p (wrap64 ((wrap64 (a.1 + b.1)) + d.1)) 3) ((φ a.1 + φ b.1 + φ d.1) * (3 : K)⁻¹) := by (with_reducible (repeat' (first | assumption | exact Vl.rw hp (by assumption) | exact Rw.lit _ (by decide) | exact Rw.nlit _ (by decide) | apply Vl.rest H hp | apply Vl.smod H hp | apply Vl.div H hf | apply Vl.inv H hf | apply Vl.sinvV H hf | apply Vl.sinvR H hf | apply Rw.tmod H hp | apply Rw.mul H | apply Rw.neg0 H | apply Rw.sub H | apply Rw.add H | apply Vl.rw hp | decide)))
   have w2 : Vl p φ (Z0L p (wrap64 ((wrap64 (a.2 + b.2)) + d.2)) 3) ((φ a.2 + φ b.2 + φ d.2) * (3 : K)⁻¹) := by (with_reducible (repeat' (first | assumption | exact Vl.rw hp (by assumption) | exact Rw.lit _ (by decide) | exact Rw.nlit _ (by decide) | apply Vl.rest H hp | apply Vl.smod H hp | apply Vl.div H hf | apply Vl.inv H hf | apply Vl.sinvV H hf | apply Vl.sinvR H hf | apply Rw.tmod H hp | apply Rw.mul H | apply Rw.neg0 H | apply Rw.sub H | apply Rw.add H | apply Vl.rw hp | decide)))
   have iv : Vl p φ (ZB 3 p) (3 : K)⁻¹ := Vl.sinvV H hf T
   have q1 : Vl p φ (Z0m p b d).1 (φ b.1 + φ d.1) := by
    unfold Z0m
    dsimp only
    (with_reducible (repeat' (first | assumption | exact Vl.rw hp (by assumption) | exact Rw.lit _ (by decide) | exact Rw.nlit _ (by decide) | apply Vl.rest H hp | apply Vl.smod H hp | apply Vl.div H hf | apply Vl.inv H hf | apply Vl.sinvV H hf | apply Vl.sinvR H hf | apply Rw.tmod H hp | apply Rw.mul H | apply Rw.neg0 H | apply Rw.sub H | apply Rw.add H | apply Vl.rw hp | decide)))
   have q2 : Vl p φ (Z0m p b d).2 (φ b.2 + φ d.2) := by
    unfold Z0m
    dsimp only
    (with_reducible (repeat' (first | assumption | exact Vl.rw hp (by assumption) | exact Rw.lit _ (by decide) | exact Rw.nlit _ (by decide) | apply Vl.rest H hp | apply Vl.smod H hp | apply Vl.div H hf | apply Vl.inv H hf | apply Vl.sinvV H hf | apply Vl.sinvR H hf | apply Rw.tmod H hp | apply Rw.mul H | apply Rw.neg0 H | apply Rw.sub H | apply Rw.add H | apply Vl.rw hp | decide)))
   have r1 : Vl p φ (Z0m p a (Z0m p b d)).1 (φ a.1 + (φ b.1 + φ d.1)) := by
    unfold Z0m
    dsimp only
    (with_reducible (repeat' (first | assumption | exact Vl.rw hp (by assumption) | exact Rw.lit _ (by decide) | exact Rw.nlit _ (by decide) | apply Vl.rest H hp | apply Vl.smod H hp | apply Vl.div H hf | apply Vl.inv H hf | apply Vl.sinvV H hf | apply Vl.sinvR H hf | apply Rw.tmod H hp | apply Rw.mul H | apply Rw.neg0 H | apply Rw.sub H | apply Rw.add H | apply Vl.rw hp | decide)))
   have r2 : Vl p φ (Z0m p a (Z0m p b d)).2 (φ a.2 + (φ b.2 + φ d.2)) := by
    unfold Z0m
    dsimp only
    (with_reducible (repeat' (first | assumption | exact Vl.rw hp (by assumption) | exact Rw.lit _ (by decide) | exact Rw.nlit _ (by decide) | apply Vl.rest H hp | apply Vl.smod H hp | apply Vl.div H hf | apply Vl.inv H hf | apply Vl.sinvV H hf | apply Vl.sinvR H hf | apply Rw.tmod H hp | apply Rw.mul H | apply Rw.neg0 H | apply Rw.sub H | apply Rw.add H | apply Vl.rw hp | decide)))
   have v1 : Vl p φ (Z0X p (ZB 3 p) (Z0m p a (Z0m p b d))).1 ((3 : K)⁻¹ * (φ a.1 + (φ b.1 + φ d.1))) := by
    unfold Z0X
    dsimp only
    (with_reducible (repeat' (first | assumption | exact Vl.rw hp (by assumption) | exact Rw.lit _ (by decide) | exact Rw.nlit _ (by decide) | apply Vl.rest H hp | apply Vl.smod H hp | apply Vl.div H hf | apply Vl.inv H hf | apply Vl.sinvV H hf | apply Vl.sinvR H hf | apply Rw.tmod H hp | apply Rw.mul H | apply Rw.neg0 H | apply Rw.sub H | apply Rw.add H | apply Vl.rw hp | decide)))
   have v2 : Vl p φ (Z0X p (ZB 3 p) (Z0m p a (Z0m p b d))).2 ((3 : K)⁻¹ * (φ a.2 + (φ b.2 + φ d.2))) := by
    unfold Z0X
    dsimp only
    (with_reducible (repeat' (first | assumption | exact Vl.rw hp (by assumption) | exact Rw.lit _ (by decide) | exact Rw.nlit _ (by decide) | apply Vl.rest H hp | apply Vl.smod H hp | apply Vl.div H hf | apply Vl.inv H hf | apply Vl.sinvV H hf | apply Vl.sinvR H hf | apply Rw.tmod H hp | apply Rw.mul H | apply Rw.neg0 H | apply Rw.sub H | apply Rw.add H | apply Vl.rw hp | decide)))
   rw [et]
   refine ⟨?_, Z7h hf (ZgP v1 v2)⟩
   exact congrArg (fun z : P2 => (z, (0 : Int))) (Prod.ext (Vl.inj H w1 (v1.conv (by grind))) (Vl.inj H w2 (v2.conv (by grind))))
 ·rw [if_pos (bne_iff_ne.2 h), if_pos (bne_iff_ne.2 h)]
  exact ⟨rfl, rfl⟩
theorem ZAd {p : Int} (a b d : P2) : Zdr p a b d = Z2c p a b d /\ num3 (Z2c p a b d).1 = true := by
 unfold Zdr Z2c
 rw [tricode]
 by_cases h : Zk p 0 a b d = 0
 ·obtain ⟨hf, _, ha, hb, hd, hn⟩ := Z2h h
  obtain ⟨e, hm⟩ := ZBr hf hb hd
  have hne : a ≠ Z1f p b d := by
   intro q
   obtain ⟨K, _, φ, H⟩ := Z7C hf
   have ht := Zr9 H h
   obtain ⟨b1, b2⟩ := Zo hb; obtain ⟨d1, d2⟩ := Zo hd
   obtain ⟨X, Y, v1, v2, e1, e2⟩ := Zo2 H hf (Vl.of (φ := φ) b1) (Vl.of (φ := φ) b2) (Vl.of (φ := φ) d1) (Vl.of (φ := φ) d2)
   rw [<- q] at v1 v2
   have n2 := H.two_ne hf
   have x1 := v1.2; have x2 := v2.2
   refine ht ?_
   rw [x1, x2]
   have : 2 * ((φ b.1 - X) * (φ d.2 - Y) - (φ b.2 - Y) * (φ d.1 - X)) = 0 := by grind
   grind
  rw [h, e, <- Z8c hf ha hm hne]
  exact ⟨rfl, Zsx hf (Z9q hf ha hm hne)⟩
 ·rw [if_pos (bne_iff_ne.2 h), if_pos (bne_iff_ne.2 h)]
  exact ⟨rfl, rfl⟩
theorem ZrS {p c : Int} (a b d : P2) : Z9T p c a b d = Z1e p c a b d /\ num3 (Z1e p c a b d).1 = true := by
 unfold Z9T Z1e
 rw [tricode]
 by_cases h : Zk p c a b d = 0
 ·obtain ⟨hf, hc, ha, hb, hd, hn⟩ := Z2h h
  obtain ⟨K, _, φ, H⟩ := Z7C hf
  obtain ⟨a1, a2⟩ := Zo ha; obtain ⟨b1, b2⟩ := Zo hb; obtain ⟨d1, d2⟩ := Zo hd
  obtain ⟨e, hl⟩ := ZaE H hf hc (Vl.of (φ := φ) a1) (Vl.of (φ := φ) a2) (Vl.of (φ := φ) b1) (Vl.of (φ := φ) b2) (Vl.of (φ := φ) d1) (Vl.of (φ := φ) d2) (ZHy (Zr9 H h)).1
  rw [h, e]
  exact ⟨rfl, Zsx hf (hl.line hf)⟩
 ·rw [if_pos (bne_iff_ne.2 h), if_pos (bne_iff_ne.2 h)]
  exact ⟨rfl, rfl⟩
theorem ZAb {p c : Int} (a b d : P2) : Z6B p c a b d = ZC p c a b d /\ num3 (ZC p c a b d).1 = true := by
 unfold Z6B ZC Z6D Za8
 rw [tricode]
 by_cases h : Zk p c a b d = 0
 ·obtain ⟨hf, hc, ha, hb, hd, hn⟩ := Z2h h
  have hpt := Z9R h hc
  have hq := Z6G hf hc hpt ha
  rw [h, Zj5 h hc, hq]
  obtain ⟨x1, x2⟩ := Zo hpt
  refine ⟨rfl, ?_⟩
  show num3 ((Zb p c a b d).1, (Zb p c a b d).2, ZA p c (Zb p c a b d) a) = true
  obtain ⟨K, _, φ, H⟩ := Z7C hf
  obtain ⟨a1, a2⟩ := Zo ha
  have v := Z4s H hf hc (Vl.of (φ := φ) x1) (Vl.of (φ := φ) x2) (Vl.of (φ := φ) a1) (Vl.of (φ := φ) a2)
  exact ZnP (Z7Z hf x1) (Z7Z hf x2) (Z7Z hf v.1)
 ·rw [if_pos (bne_iff_ne.2 h), if_pos (bne_iff_ne.2 h)]
  exact ⟨rfl, rfl⟩
theorem ZwD {p c : Int} (a b d : P2) : Z9n p c a b d = Z2n p c a b d /\ num1 (Z2n p c a b d).1 = true := by
 refine ⟨Zzh p c a b d, ?_⟩
 unfold Z2n
 rw [tricode]
 by_cases h : Zk p c a b d = 0
 ·obtain ⟨hf, _⟩ := Z2h h
  rw [h]
  exact Z7Z hf (Zak (Zy hf) _)
 ·rw [if_pos (bne_iff_ne.2 h)]
  rfl
theorem ZKT {K : Type} [Lean.Grind.Field K] {c : Int} (hc : isC c) {t s u1 u2 v1 v2 : K} (ht : t ≠ 0) (hs : s ≠ 0) (hu : Z1j c u1 u2 u1 u2 ≠ 0) (hv : Z1j c v1 v2 v1 v2 ≠ 0) :
  Z1j c (u1 * t) (u2 * t) (v1 * s) (v2 * s) * Z1j c (u1 * t) (u2 * t) (v1 * s) (v2 * s) * (Z1j c (u1 * t) (u2 * t) (u1 * t) (u2 * t) * Z1j c (v1 * s) (v2 * s) (v1 * s) (v2 * s))⁻¹ = Z1j c u1 u2 v1 v2 * Z1j c u1 u2 v1 v2 * (Z1j c u1 u2 u1 u2 * Z1j c v1 v2 v1 v2)⁻¹ := by
 have e1 : Z1j c (u1 * t) (u2 * t) (v1 * s) (v2 * s) = Z1j c u1 u2 v1 v2 * (t * s) := by rcases hc with rfl | rfl | rfl <;> simp only [Z1j] <;> grind
 have e2 : Z1j c (u1 * t) (u2 * t) (u1 * t) (u2 * t) = Z1j c u1 u2 u1 u2 * (t * t) := by rcases hc with rfl | rfl | rfl <;> simp only [Z1j] <;> grind
 have e3 : Z1j c (v1 * s) (v2 * s) (v1 * s) (v2 * s) = Z1j c v1 v2 v1 v2 * (s * s) := by rcases hc with rfl | rfl | rfl <;> simp only [Z1j] <;> grind
 rw [e1, e2, e3]
 generalize Z1j c u1 u2 v1 v2 = A
 generalize Z1j c u1 u2 u1 u2 = B at *
 generalize Z1j c v1 v2 v1 v2 = C at *
 have h1 := Lean.Grind.Field.mul_inv_cancel (show B * C ≠ 0 by grind)
 have h2 := Lean.Grind.Field.mul_inv_cancel (show B * (t * t) * (C * (s * s)) ≠ 0 by grind)
 generalize (B * C)⁻¹ = x at *
 generalize (B * (t * t) * (C * (s * s)))⁻¹ = y at *
 have h3 : (t * s) * (t * s) * y = x := by grind
 grind
theorem ZL2 {p : Int} {K : Type} [Lean.Grind.Field K] {φ : Int -> K} (H : Hom p K φ) (hf : Z6 p = true) {c : Int} (hc : isC c) {l m : P3} {l1 l2 m1 m2 : K} (h1 : Vl p φ l.1 l1) (h2 : Vl p φ l.2.1 l2) (h3 : Vl p φ m.1 m1) (h4 : Vl p φ m.2.1 m2) :
  Vl p φ (Zer p c l m) (1 - Z1j c (-l2) l1 (-m2) m1 * Z1j c (-l2) l1 (-m2) m1 * (Z1j c (-l2) l1 (-l2) l1 * Z1j c (-m2) m1 (-m2) m1)⁻¹) := by
 have hp := Zy hf
 have d := Z9J H hf hc (ZfT H hf h2) (ZfU h1) (ZfT H hf h4) (ZfU h3)
 have u := Z9J H hf hc (ZfT H hf h2) (ZfU h1) (ZfT H hf h2) (ZfU h1)
 have v := Z9J H hf hc (ZfT H hf h4) (ZfU h3) (ZfT H hf h4) (ZfU h3)
 have one : Rw φ (1 : Int) 1 1 := ⟨by unfold AB; omega, H.one⟩
 have uv := Rw.mul H (Vl.rw hp u) (Vl.rw hp v) (by decide)
 have dd := Rw.mul H (Vl.rw hp d) (Vl.rw hp d) (by decide)
 exact Vl.rest H hp (Rw.sub H one (Vl.rw hp (Vl.div H hf dd (Vl.rest H hp uv) (by decide))) (by decide))
theorem ZJI {p : Int} {K : Type} [Lean.Grind.Field K] {φ : Int -> K} (H : Hom p K φ) (hf : Z6 p = true) {a b : P2} {x1 y1 x2 y2 : K} (h1 : Vl p φ a.1 x1) (h2 : Vl p φ a.2 y1) (h3 : Vl p φ b.1 x2) (h4 : Vl p φ b.2 y2) : Vl p φ (Zj p a b).1 (x1 - x2) /\ Vl p φ (Zj p a b).2 (y1 - y2) := ⟨Z8o H hf h1 h3, Z8p H hf h2 h4⟩
theorem ZPF {p : Int} {K : Type} [Lean.Grind.Field K] {φ : Int -> K} (H : Hom p K φ) (hf : Z6 p = true) {c : Int} (hc : isC c) {a b d : P2} {u1 u2 v1 v2 : K} (h1 : Vl p φ (Zj p b a).1 u1) (h2 : Vl p φ (Zj p b a).2 u2) (h3 : Vl p φ (Zj p d a).1 v1) (h4 : Vl p φ (Zj p d a).2 v2) :
  Vl p φ (ZfQ p c a b d) (1 - Z1j c u1 u2 v1 v2 * Z1j c u1 u2 v1 v2 * (Z1j c u1 u2 u1 u2 * Z1j c v1 v2 v1 v2)⁻¹) := by
 have hp := Zy hf
 have d' := Z9J H hf hc h1 h2 h3 h4
 have u := Z9J H hf hc h1 h2 h1 h2
 have v := Z9J H hf hc h3 h4 h3 h4
 have one : Rw φ (1 : Int) 1 1 := ⟨by unfold AB; omega, H.one⟩
 have uv := Rw.mul H (Vl.rw hp u) (Vl.rw hp v) (by decide)
 have dd := Rw.mul H (Vl.rw hp d') (Vl.rw hp d') (by decide)
 exact Vl.smod H hp (Rw.sub H one (Rw.mul H (Rw.tmod H hp dd) (Vl.rw hp (Vl.sinvR H hf uv)) (by decide)) (by decide))
theorem ZAg {p c : Int} {a b d : P2} (hf : Z6 p = true) (hc : isC c) (ha : Z5 p a = true) (hb : Z5 p b = true) (hd : Z5 p d = true) : Zds p c a b d = Z4g p c a b d /\ num1 (Z4g p c a b d).1 = true := by
 have hz : ZK p true (Z4o c p a b d) = 0 := ask1 hf (by unfold Z4o; simp [Z8B hc, ZE, ha, hb, hd])
 have hs : Z1y p c 3 [a.1, a.2, b.1, b.2, d.1, d.2] = 0 := by
  have hcode : ZW p [a, b, d] = 0 := by rw [pointcode p true]; exact ask1 hf (by simp [ZE, ha, hb, hd])
  unfold Z1y
  have hcc : Z1U c 0 2 = true := by rcases hc with rfl | rfl | rfl <;> rfl
  rw [ZBW, hcode, hcc]
  rfl
 obtain ⟨K, _, φ, H⟩ := Z7C hf
 obtain ⟨a1, a2⟩ := Zo ha; obtain ⟨b1, b2⟩ := Zo hb; obtain ⟨d1, d2⟩ := Zo hd
 have A1 := Vl.of (φ := φ) a1; have A2 := Vl.of (φ := φ) a2; have B1 := Vl.of (φ := φ) b1; have B2 := Vl.of (φ := φ) b2; have D1 := Vl.of (φ := φ) d1; have D2 := Vl.of (φ := φ) d2
 have qb := Z4s H hf hc A1 A2 B1 B2
 have qd := Z4s H hf hc A1 A2 D1 D2
 obtain ⟨u1, u2⟩ := ZJI H hf B1 B2 A1 A2
 obtain ⟨v1, v2⟩ := ZJI H hf D1 D2 A1 A2
 have vs := ZPF H hf hc u1 u2 v1 v2
 have null : ∀ {x : P2} {t X Y : K}, Vl p φ x.1 X -> Vl p φ x.2 Y -> t ≠ 0 -> Vl p φ (Zr p a x).1 ((Y - φ a.2) * t) -> Vl p φ (Zr p a x).2.1 ((φ a.1 - X) * t) -> (Z1Y p c (Zr p a x) = true ↔ ZA p c a x = 0) := by
  intro x t X Y hx1 hx2 ht h1 h2
  rw [ZOp H hf hc h1 h2, Vl.zero_iff H (Z4s H hf hc A1 A2 hx1 hx2)]
  have e : Z1j c (-((φ a.1 - X) * t)) ((Y - φ a.2) * t) (-((φ a.1 - X) * t)) ((Y - φ a.2) * t) = Z1j c (φ a.1 - X) (φ a.2 - Y) (φ a.1 - X) (φ a.2 - Y) * (t * t) := by rcases hc with rfl | rfl | rfl <;> simp only [Z1j] <;> grind
  rw [e]
  constructor
  ·intro q; grind
  ·intro q; rw [q]; grind
 have zero : ∀ {x : P2}, a = x -> ZA p c a x = 0 := by
  rintro x rfl
  exact (Vl.zero_iff H (Z4s H hf hc A1 A2 A1 A2)).2 (by rcases hc with rfl | rfl | rfl <;> simp only [Z1j] <;> grind)
 unfold Zds Z4g
 rw [hz, hs, Z6G hf hc ha hb, Z6G hf hc ha hd]
 have fin : ∀ r : Int × Bool, Z3s p c a b d = r -> r.2 = false -> (if (!(Z3s p c a b d).2) = true then ((0 : Int), (5 : Int)) else ((Z3s p c a b d).1, 0)) = (0, 5) := by
  intro r h1 h2
  rw [h1, h2]
  rfl
 have bad : ZA p c a b = 0 \/ ZA p c a d = 0 -> (Z3s p c a b d).2 = false := by
  intro hq
  unfold Z3s
  by_cases e1 : a = b
  ·rw [if_pos (by simpa using e1)]
  ·by_cases e2 : a = d
   ·rw [if_neg (by simpa using e1), if_pos (by simpa using e2)]
   ·obtain ⟨t, ht, l0, l1, _, _⟩ := Z62 H hf A1 A2 B1 B2 (ZF3 H A1 A2 B1 B2 e1)
    obtain ⟨s, hs', m0, m1, _, _⟩ := Z62 H hf A1 A2 D1 D2 (ZF3 H A1 A2 D1 D2 e2)
    rw [if_neg (by simpa using e1), if_neg (by simpa using e2)]
    by_cases n1 : Z1Y p c (Zr p a b) = true
    ·rw [if_pos n1]
    ·rw [if_neg n1]
     rcases hq with q | q
     ·exact absurd ((null B1 B2 ht l0 l1).2 q) n1
     ·rw [if_pos ((null D1 D2 hs' m0 m1).2 q)]
 by_cases h1 : ZA p c a b = 0
 ·rw [if_neg (by decide), fin _ rfl (bad (.inl h1)), if_pos (by decide), if_pos (by rw [h1]; rfl)]
  exact ⟨rfl, rfl⟩
 ·by_cases h2 : ZA p c a d = 0
  ·rw [if_neg (by decide), fin _ rfl (bad (.inr h2)), if_pos (by decide), if_neg (by simpa using h1), if_pos (by rw [h2]; rfl)]
   exact ⟨rfl, rfl⟩
  ·have e1 : a ≠ b := fun e => h1 (zero e)
   have e2 : a ≠ d := fun e => h2 (zero e)
   obtain ⟨t, ht, l0, l1, _, _⟩ := Z62 H hf A1 A2 B1 B2 (ZF3 H A1 A2 B1 B2 e1)
   obtain ⟨s, hs', m0, m1, _, _⟩ := Z62 H hf A1 A2 D1 D2 (ZF3 H A1 A2 D1 D2 e2)
   have n1 : ¬ Z1Y p c (Zr p a b) = true := fun q => h1 ((null B1 B2 ht l0 l1).1 q)
   have n2 : ¬ Z1Y p c (Zr p a d) = true := fun q => h2 ((null D1 D2 hs' m0 m1).1 q)
   have hsp : Z3s p c a b d = (Zer p c (Zr p a b) (Zr p a d), true) := by
    unfold Z3s
    rw [if_neg (by simpa using e1), if_neg (by simpa using e2), if_neg n1, if_neg n2]
   have w := ZL2 H hf hc l0 l1 m0 m1
   have hu : Z1j c (φ b.1 - φ a.1) (φ b.2 - φ a.2) (φ b.1 - φ a.1) (φ b.2 - φ a.2) ≠ 0 := fun q => h1 ((Vl.zero_iff H qb).2 (by rw [Zvn hc]; exact q))
   have hv : Z1j c (φ d.1 - φ a.1) (φ d.2 - φ a.2) (φ d.1 - φ a.1) (φ d.2 - φ a.2) ≠ 0 := fun q => h2 ((Vl.zero_iff H qd).2 (by rw [Zvn hc]; exact q))
   have al := ZKT hc ht hs' hu hv
   rw [show -((φ a.1 - φ b.1) * t) = (φ b.1 - φ a.1) * t by grind, show -((φ a.1 - φ d.1) * s) = (φ d.1 - φ a.1) * s by grind, al] at w
   have e : Zer p c (Zr p a b) (Zr p a d) = ZfQ p c a b d := Vl.inj H w vs
   rw [hsp, e]
   refine ⟨by simp [h1, h2], ?_⟩
   simp [h1, h2]
   exact Z7Z hf vs.1
theorem ZEM : ∀ {L : List P2}, (∀ a ∈ L, num2 a = true) -> (Z0G L).all num1 = true
 | [], _ => rfl
 | a :: L, h => by
  have h1 := h a (by simp)
  unfold num2 at h1
  rw [Bool.and_eq_true] at h1
  show ([a.1, a.2] ++ Z0G L).all num1 = true
  rw [List.all_append, ZEM fun x hx => h x (by simp [hx])]
  simp [h1.1, h1.2]
theorem ZEN : ∀ {L : List P3}, (∀ a ∈ L, num3 a = true) -> (Z1i L).all num1 = true
 | [], _ => rfl
 | a :: L, h => by
  have h1 := h a (by simp)
  unfold num3 at h1
  rw [Bool.and_eq_true, Bool.and_eq_true] at h1
  show ([a.1, a.2.1, a.2.2] ++ Z1i L).all num1 = true
  rw [List.all_append, ZEN fun x hx => h x (by simp [hx])]
  simp [h1.1, h1.2.1, h1.2.2]
theorem ZH5 {L : List P2} (hn : L.length <= 3000) (h : ∀ a ∈ L, num2 a = true) : ptsB L.length (Z0G L) = true := by
 unfold ptsB
 rw [ZQK (Nat.le_trans hn (by decide)), ZEM h, Nat.ble_eq_true_of_le hn]
 rfl
theorem ZLL {L : List P3} (hn : L.length <= 3000) (h : ∀ a ∈ L, num3 a = true) : lnsB L.length (Z1i L) = true := by
 unfold lnsB
 rw [ZQL (Nat.le_trans hn (by decide)), ZEN h, Nat.ble_eq_true_of_le hn]
 rfl
theorem Zvo {p : Int} {a : P2} (h : a ∈ pts p) : Z5 p a = true := by
 obtain ⟨h1, h2⟩ := Zsu.1 h
 unfold Z5
 simp [ZM, Z1c.2 h1, Z1c.2 h2]
theorem ZL9 {p c : Int} {a : P2} (hf : Z6 p = true) (hc : isC c) (ha : Z5 p a = true) (q : Int) : Z1R p c a q = Z2D p c a q /\ ptsB (Z2D p c a q).1 (Z2D p c a q).2 = true := by
 have hh : (pts p).filter (fun zz => ZA p c a zz == q) = (pts p).filter (fun zz => Zp p c a zz == q) := by
  apply ZwG
  intro z hz
  rw [Z6G hf hc ha (Zvo hz)]
 unfold Z1R Z6S Z2D Z4p
 dsimp only
 rw [hh]
 exact ⟨rfl, ZH5 (Nat.le_trans (List.length_filter_le _ _) (Nat.le_trans (ZH6 (Zgs (Zy hf))) (by decide))) fun x hx => Z7h hf (Zvo (List.mem_filter.1 hx).1)⟩
theorem ZOr (a : P2) : Z5v 1 [a.1, a.2] = [a] := rfl
theorem ZPI {p c : Int} {a : P2} (hf : Z6 p = true) (hc : isC c) (ha : Z5 p a = true) : Z0e p c 1 [a.1, a.2] = 0 := by
 rw [colourcode p c true, ZOr, Z8B hc, if_pos rfl]
 exact ask1 hf (by simp [ZE, ha])
theorem ZQ9 {p c : Int} {a : P2} (hf : Z6 p = true) (hc : isC c) (ha : Z5 p a = true) (q : Int) : Z31 p c a q = Z2d p c a q /\ ptsB (Z2d p c a q).1.1 (Z2d p c a q).1.2 = true := by
 obtain ⟨e, hb⟩ := ZL9 hf hc ha q
 have hn : Z00 p [q] = ZK p true (ZM p [q]) := ZgR p true [q]
 have e1 : Z4n c p a q = ZM p [q] := by unfold Z4n; simp [Z8B hc, ha, ZM]
 unfold Z31 Z2d
 rw [ZPI hf hc ha, hn, e1]
 cases h : ZM p [q]
 ·rw [ask2 hf rfl]
  exact ⟨rfl, rfl⟩
 ·rw [ask1 hf rfl, e]
  exact ⟨rfl, hb⟩
theorem ZMV {p : Int} (hf : Z6 p = true) {a : P2} (ha : Z5 p a = true) : ZP p 0 1 (wI (0 - a.2)) = (0, 1, ZF p (wrap64 (0 - a.2))) := by
 obtain ⟨K, _, φ, H⟩ := Z7C hf
 have hp := Zy hf
 obtain ⟨a1, a2⟩ := Zo ha
 have A2 := Vl.of (φ := φ) a2
 have one := Vl.one H hf
 have m1 : Zi 1 p = 1 := Vl.inj H (Vl.smod H hp (Vl.rw hp one)) one
 have m0 : Zi 0 p = 0 := by unfold Zi; exact Int.zero_emod p
 have iv : Vl p φ (ZB 1 p) (1 : K)⁻¹ := Vl.sinvV H hf one
 have h11 : (1 : K)⁻¹ = 1 := by have := Lean.Grind.Field.mul_inv_cancel H.one_ne; grind
 have z0 := Vl.zero H hp (K := K) (φ := φ)
 unfold ZP
 rw [m0, m1, if_pos (by decide), Zz]
 have w1 : Vl p φ (Zi (wrap64 (0 * (ZB 1 p))) p) ((0 : K) * (1 : K)⁻¹) := by (with_reducible (repeat' (first | assumption | exact Vl.rw hp (by assumption) | exact Rw.lit _ (by decide) | exact Rw.nlit _ (by decide) | apply Vl.rest H hp | apply Vl.smod H hp | apply Vl.div H hf | apply Vl.inv H hf | apply Vl.sinvV H hf | apply Vl.sinvR H hf | apply Rw.tmod H hp | apply Rw.mul H | apply Rw.neg0 H | apply Rw.sub H | apply Rw.add H | apply Vl.rw hp | decide)))
 have w2 : Vl p φ (Zi (wrap64 (1 * (ZB 1 p))) p) ((1 : K) * (1 : K)⁻¹) := by (with_reducible (repeat' (first | assumption | exact Vl.rw hp (by assumption) | exact Rw.lit _ (by decide) | exact Rw.nlit _ (by decide) | apply Vl.rest H hp | apply Vl.smod H hp | apply Vl.div H hf | apply Vl.inv H hf | apply Vl.sinvV H hf | apply Vl.sinvR H hf | apply Rw.tmod H hp | apply Rw.mul H | apply Rw.neg0 H | apply Rw.sub H | apply Rw.add H | apply Vl.rw hp | decide)))
 have n2 : Rw φ (wrap64 (0 - a.2)) (-φ a.2) 30 := Rw.neg0 H (Vl.rw hp A2) (by decide)
 have w3 : Vl p φ (Zi (wrap64 ((wrap64 (0 - a.2)) * (ZB 1 p))) p) (-φ a.2 * (1 : K)⁻¹) := by (with_reducible (repeat' (first | assumption | exact Vl.rw hp (by assumption) | exact Rw.lit _ (by decide) | exact Rw.nlit _ (by decide) | apply Vl.rest H hp | apply Vl.smod H hp | apply Vl.div H hf | apply Vl.inv H hf | apply Vl.sinvV H hf | apply Vl.sinvR H hf | apply Rw.tmod H hp | apply Rw.mul H | apply Rw.neg0 H | apply Rw.sub H | apply Rw.add H | apply Vl.rw hp | decide)))
 have w4 : Vl p φ (ZF p (wrap64 (0 - a.2))) (-φ a.2) := by (with_reducible (repeat' (first | assumption | exact Vl.rw hp (by assumption) | exact Rw.lit _ (by decide) | exact Rw.nlit _ (by decide) | apply Vl.rest H hp | apply Vl.smod H hp | apply Vl.div H hf | apply Vl.inv H hf | apply Vl.sinvV H hf | apply Vl.sinvR H hf | apply Rw.tmod H hp | apply Rw.mul H | apply Rw.neg0 H | apply Rw.sub H | apply Rw.add H | apply Vl.rw hp | decide)))
 rw [Vl.inj H w1 (z0.conv (by grind)), Vl.inj H w2 (one.conv (by grind)), Vl.inj H w3 (w4.conv (by grind))]
theorem ZKH {p : Int} (hf : Z6 p = true) {a : P2} (ha : Z5 p a = true) {k : Nat} (hk : k < p.toNat) : ZP p 1 (k : Int) (wI (0 - (wI (a.1 + (wI ((k : Int) * a.2)))))) = (1, (k : Int), ZF p (wrap64 (wrap64 (0 - a.1) - wrap64 ((k : Int) * a.2)))) := by
 obtain ⟨K, _, φ, H⟩ := Z7C hf
 have hp := Zy hf
 obtain ⟨a1, a2⟩ := Zo ha
 have A1 := Vl.of (φ := φ) a1; have A2 := Vl.of (φ := φ) a2
 have B := Vl.of (φ := φ) (p := p) (x := (k : Int)) (by omega)
 have one := Vl.one H hf
 have m1 : Zi 1 p = 1 := Vl.inj H (Vl.smod H hp (Vl.rw hp one)) one
 have iv : Vl p φ (ZB 1 p) (1 : K)⁻¹ := Vl.sinvV H hf one
 have h11 : (1 : K)⁻¹ = 1 := by have := Lean.Grind.Field.mul_inv_cancel H.one_ne; grind
 unfold ZP
 rw [m1, if_neg (by decide)]
 simp only [Zz]
 have w1 : Vl p φ (Zi (wrap64 (1 * (ZB 1 p))) p) ((1 : K) * (1 : K)⁻¹) := by (with_reducible (repeat' (first | assumption | exact Vl.rw hp (by assumption) | exact Rw.lit _ (by decide) | exact Rw.nlit _ (by decide) | apply Vl.rest H hp | apply Vl.smod H hp | apply Vl.div H hf | apply Vl.inv H hf | apply Vl.sinvV H hf | apply Vl.sinvR H hf | apply Rw.tmod H hp | apply Rw.mul H | apply Rw.neg0 H | apply Rw.sub H | apply Rw.add H | apply Vl.rw hp | decide)))
 have w2 : Vl p φ (Zi (wrap64 ((k : Int) * (ZB 1 p))) p) (φ (k : Int) * (1 : K)⁻¹) := by (with_reducible (repeat' (first | assumption | exact Vl.rw hp (by assumption) | exact Rw.lit _ (by decide) | exact Rw.nlit _ (by decide) | apply Vl.rest H hp | apply Vl.smod H hp | apply Vl.div H hf | apply Vl.inv H hf | apply Vl.sinvV H hf | apply Vl.sinvR H hf | apply Rw.tmod H hp | apply Rw.mul H | apply Rw.neg0 H | apply Rw.sub H | apply Rw.add H | apply Vl.rw hp | decide)))
 have n3 : Rw φ (wrap64 (0 - (wrap64 (a.1 + (wrap64 ((k : Int) * a.2)))))) (-(φ a.1 + φ (k : Int) * φ a.2)) (30 + 30 * 30) := Rw.neg0 H (Rw.add H (Vl.rw hp A1) (Rw.mul H (Vl.rw hp B) (Vl.rw hp A2) (by decide)) (by decide)) (by decide)
 have w3 : Vl p φ (Zi (wrap64 ((wrap64 (0 - (wrap64 (a.1 + (wrap64 ((k : Int) * a.2)))))) * (ZB 1 p))) p) (-(φ a.1 + φ (k : Int) * φ a.2) * (1 : K)⁻¹) := Vl.smod H hp (Rw.mul H n3 (Vl.rw hp iv) (by decide))
 have n4 : Rw φ (wrap64 (0 - a.1)) (-φ a.1) 30 := Rw.neg0 H (Vl.rw hp A1) (by decide)
 have w4 : Vl p φ (ZF p (wrap64 (wrap64 (0 - a.1) - wrap64 ((k : Int) * a.2)))) (-φ a.1 - φ (k : Int) * φ a.2) := Vl.rest H hp (Rw.sub H n4 (Rw.mul H (Vl.rw hp B) (Vl.rw hp A2) (by decide)) (by decide))
 rw [Vl.inj H w1 (one.conv (by grind)), Vl.inj H w2 (B.conv (by grind)), Vl.inj H w3 (w4.conv (by grind))]
theorem ZEB {p c : Int} {a : P2} (hf : Z6 p = true) (hc : isC c) (ha : Z5 p a = true) : ZbC p c a = Z1x p c a /\ lnsB (Z1x p c a).1.1 (Z1x p c a).1.2 = true := by
 have hz : ZK p true (Z3p c p a) = 0 := ask1 hf (by unfold Z3p; simp [Z8B hc, ha])
 have e : Zqt p c a = (Z0c p a).filter fun zz => Z4E zz p c := by
  unfold Zqt Z0c
  rw [ZMV hf ha]
  have em : ((List.range p.toNat).map fun k : Nat => ZP p 1 (k : Int) (wI (0 - (wI (a.1 + (wI ((k : Int) * a.2))))))) = (List.range p.toNat).map fun b : Nat => ((1 : Int), (b : Int), ZF p (wrap64 (wrap64 (0 - a.1) - wrap64 ((b : Int) * a.2)))) := List.map_congr_left fun k hk => ZKH hf ha (List.mem_range.1 hk)
  rw [em]
  rfl
 have hl : ∀ m ∈ Zqt p c a, num3 m = true := by
  intro m hm
  rw [e] at hm
  have hm := (List.mem_filter.1 hm).1
  have hp := Zy hf
  rcases Zkp.1 hm with rfl | ⟨b, hb, rfl⟩
  ·exact ZnP rfl rfl (Z7Z hf (Zak hp _))
  ·exact ZnP rfl (Z7Z hf hb) (Z7Z hf (Zak hp _))
 have hn : (Zqt p c a).length <= 3000 := by
  rw [e]
  exact Nat.le_trans (List.length_filter_le _ _) (Nat.le_trans (Zqe (Zgs (Zy hf)) a) (by decide))
 unfold ZbC Z1x Z9o
 rw [hz, ZPI hf hc ha, <- e]
 exact ⟨rfl, ZLL hn hl⟩
theorem ZED {p : Int} (a b d : P2) : Z3q p a b d = Z03 p a b d /\ lnsB (Z03 p a b d).1.1 (Z03 p a b d).1.2 = true := by
 refine ⟨ZmA p a b d, ?_⟩
 unfold Z03
 rw [tricode]
 by_cases h : Zk p 0 a b d = 0
 ·obtain ⟨hf, _⟩ := Z2h h
  have line : ∀ c, isC c -> ¬ (Zc p c a b d == Zb p c a b d) = true -> num3 (Zx p (Zc p c a b d) (Zb p c a b d)) = true := by
   intro c hc hne
   have hne : Zc p c a b d ≠ Zb p c a b d := by simpa using hne
   rw [<- Z8c hf (Z9s h hc) (Z9R h hc) hne]
   exact Zsx hf (Z9q hf (Z9s h hc) (Z9R h hc) hne)
  rw [h, if_neg (by decide)]
  split
  ·rfl
  ·split
   ·rfl
   ·split
    ·rfl
    ·rename_i n0 n1 n2
     exact ZLL (L := [Zx p (Zc p 0 a b d) (Zb p 0 a b d), Zx p (Zc p 1 a b d) (Zb p 1 a b d), Zx p (Zc p 2 a b d) (Zb p 2 a b d)]) (by simp) fun x hx => by
      simp only [List.mem_cons, List.not_mem_nil, or_false] at hx
      rcases hx with rfl | rfl | rfl
      ·exact line 0 isC0 n0
      ·exact line 1 isC1 n1
      ·exact line 2 isC2 n2
 ·rw [if_pos (bne_iff_ne.2 h)]
  rfl
theorem ZEC {p : Int} (a b d : P2) : Z76 p a b d = Z0I p a b d /\ ptsB (Z0I p a b d).1.1 (Z0I p a b d).1.2 = true := by
 refine ⟨ZtR p a b d, ?_⟩
 unfold Z0I Z87
 rw [tricode]
 by_cases h : Zk p 0 a b d = 0
 ·obtain ⟨hf, _⟩ := Z2h h
  rw [h, if_neg (by decide)]
  exact ZH5 (L := [Zc p 0 a b d, Zc p 1 a b d, Zc p 2 a b d]) (by simp) fun x hx => by
   simp only [List.mem_cons, List.not_mem_nil, or_false] at hx
   rcases hx with rfl | rfl | rfl
   ·exact Z7h hf (Z9s h isC0)
   ·exact Z7h hf (Z9s h isC1)
   ·exact Z7h hf (Z9s h isC2)
 ·rw [if_pos (bne_iff_ne.2 h)]
  rfl
theorem ZAf {p : Int} (a b d : P2) : Z60 p a b d = Z0s p a b d /\ numB (Z0s p a b d).1.1 (Z0s p a b d).1.2 = true := by
 refine ⟨Zrb p a b d, ?_⟩
 unfold Z0s
 repeat' split
 all_goals rfl
theorem ZAe {p c : Int} (a b d : P2) : Z4F p c a b d = Z0D p c a b d /\ ptsB (Z0D p c a b d).1.1 (Z0D p c a b d).1.2 = true := by
 refine ⟨Zhq p c a b d, ?_⟩
 rw [<- Zhq]
 unfold Z4F
 by_cases h : Zk p c a b d = 0
 ·obtain ⟨hf, _⟩ := Z2h h
  rw [h, if_neg (by decide)]
  repeat' split
  all_goals first
   | rfl
   | exact ZH5 (L := [Z4H p c a (Zr p b d), Z4H p c b (Zr p a d), Z4H p c d (Zr p a b)]) (by simp) (fun x hx => by
     simp only [List.mem_cons, List.not_mem_nil, or_false] at hx
     rcases hx with rfl | rfl | rfl <;> exact ZID hf)
 ·rw [if_pos (bne_iff_ne.2 h)]
  rfl
theorem ZEA {p c : Int} (a b d : P2) : ZI p c a b d = Z0H p c a b d /\ num3 (Z0H p c a b d).1 = true := by
 refine ⟨ZtK p c a b d, ?_⟩
 unfold Z0H
 rw [tricode]
 by_cases h : Zk p c a b d = 0
 ·obtain ⟨hf, hc, _⟩ := Z2h h
  rw [h, if_neg (by decide)]
  split
  ·rfl
  ·rename_i hne
   have hne : Zc p c a b d ≠ Zb p c a b d := by simpa using hne
   rw [<- Z8c hf (Z9s h hc) (Z9R h hc) hne]
   exact Zsx hf (Z9q hf (Z9s h hc) (Z9R h hc) hne)
 ·rw [if_pos (bne_iff_ne.2 h)]
  rfl

def ZFd (p c x y : Nat) : Nat := match c with
 | 0 => (x * x + y * y) % p
 | 1 => (x * x + (p - 1) * (y * y)) % p
 | _ => (x * y + y * x) % p
theorem ZI2 {p a b x y : Int} (hp : 0 <= p) (ha : 0 <= a) (hb : 0 <= b) (hx : 0 <= x) (hy : 0 <= y) : (((a.toNat * x.toNat + b.toNat * y.toNat) % p.toNat : Nat) : Int) = (a * x + b * y) % p := by
 obtain ⟨p, rfl⟩ := Int.eq_ofNat_of_zero_le hp
 obtain ⟨a, rfl⟩ := Int.eq_ofNat_of_zero_le ha
 obtain ⟨b, rfl⟩ := Int.eq_ofNat_of_zero_le hb
 obtain ⟨x, rfl⟩ := Int.eq_ofNat_of_zero_le hx
 obtain ⟨y, rfl⟩ := Int.eq_ofNat_of_zero_le hy
 simp only [Int.toNat_natCast]
 rfl
theorem ZNE {p x y : Int} (hp : 1 <= p) (hx : 0 <= x) (hy : 0 <= y) : (((x.toNat * x.toNat + (p.toNat - 1) * (y.toNat * y.toNat)) % p.toNat : Nat) : Int) = (x * x + (p - 1) * (y * y)) % p := by
 obtain ⟨q, hq⟩ := Int.eq_ofNat_of_zero_le (show 0 <= p - 1 by omega)
 obtain rfl : p = (q : Int) + 1 := by omega
 obtain ⟨x, rfl⟩ := Int.eq_ofNat_of_zero_le hx
 obtain ⟨y, rfl⟩ := Int.eq_ofNat_of_zero_le hy
 rw [show ((q : Int) + 1).toNat = q + 1 by omega, show (q : Int) + 1 - 1 = (q : Int) by omega, Nat.add_sub_cancel]
 simp only [Int.toNat_natCast]
 rfl
theorem ZOA {p c : Int} {K : Type} [Lean.Grind.Field K] {φ : Int -> K} (H : Hom p K φ) (hc : isC c) {x y : Int} (hx : 0 <= x /\ x < p) (hy : 0 <= y /\ y < p) : Vl p φ ((ZFd p.toNat c.toNat x.toNat y.toNat : Nat) : Int) (Z1j c (φ x) (φ y) (φ x) (φ y)) := by
 have hp : 0 < p := by omega
 rcases hc with rfl | rfl | rfl
 ·show Vl p φ (((x.toNat * x.toNat + y.toNat * y.toNat) % p.toNat : Nat) : Int) _
  rw [ZI2 (by omega) hx.1 hy.1 hx.1 hy.1]
  exact ⟨⟨Int.emod_nonneg _ (by omega), Int.emod_lt_of_pos _ hp⟩, by rw [H.mod, H.add, H.mul, H.mul]; rfl⟩
 ·show Vl p φ (((x.toNat * x.toNat + (p.toNat - 1) * (y.toNat * y.toNat)) % p.toNat : Nat) : Int) _
  rw [ZNE (by omega) hx.1 hy.1]
  refine ⟨⟨Int.emod_nonneg _ (by omega), Int.emod_lt_of_pos _ hp⟩, ?_⟩
  rw [H.mod, H.add, H.mul, H.mul, H.mul, H.sub, H.self, H.one]
  show _ = φ x * φ x - φ y * φ y
  grind
 ·show Vl p φ (((x.toNat * y.toNat + y.toNat * x.toNat) % p.toNat : Nat) : Int) _
  rw [ZI2 (by omega) hx.1 hy.1 hy.1 hx.1]
  exact ⟨⟨Int.emod_nonneg _ (by omega), Int.emod_lt_of_pos _ hp⟩, by rw [H.mod, H.add, H.mul, H.mul]; rfl⟩
def tabN (p c : Nat) : List Nat := (List.range p).flatMap fun x => (List.range p).map fun y => ZFd p c x y
def cntL (q : Nat) : List Nat -> Nat
 | [] => 0
 | x :: l => bif Nat.beq x q then Nat.succ (cntL q l) else cntL q l
def ZQB (p c : Nat) : Bool := (List.range p).all fun q => Nat.ble (cntL q (tabN p c)) 99
theorem ZP0 : (([3, 5, 7, 11, 13, 17, 19, 23, 29, 31] : List Nat).all fun p => ([0, 1, 2] : List Nat).all fun c => ZQB p c) = true := by decide +kernel
theorem ZLe (q : Nat) (f : P2 -> Nat) (g : P2 -> Bool) : ∀ L : List P2, (∀ z ∈ L, g z = Nat.beq (f z) q) -> (L.filter g).length = cntL q (L.map f)
 | [], _ => rfl
 | z :: L, h => by
  have ih := ZLe q f g L fun x hx => h x (by simp [hx])
  have hz := h z (by simp)
  rw [List.map_cons, cntL]
  cases hb : Nat.beq (f z) q
  ·rw [List.filter_cons_of_neg (by rw [hz, hb]; simp), ih]; rfl
  ·rw [List.filter_cons_of_pos (by rw [hz, hb]), List.length_cons, ih]; rfl
theorem ZPw {p : Int} (c : Nat) : (pts p).map (fun z => ZFd p.toNat c z.1.toNat z.2.toNat) = tabN p.toNat c := by
 unfold pts tabN
 rw [List.map_flatMap]
 congr 1
 funext x
 rw [List.map_map]
 rfl
theorem ZrV {p c : Int} (hf : Z6 p = true) (hc : isC c) {q : Int} (hq : 0 <= q /\ q < p) : (Z2D p c (0, 0) q).1 <= 99 := by
 obtain ⟨K, _, φ, H⟩ := Z7C hf
 have z0 : Z5 p (0, 0) = true := by
  have := Zy hf
  unfold Pr at this
  simp [Z5, ZM, Z0p]; omega
 have e := ZLe q.toNat (fun z => ZFd p.toNat c.toNat z.1.toNat z.2.toNat) (fun zz => Zp p c (0, 0) zz == q) (pts p) fun z hz => by
  obtain ⟨h1, h2⟩ := Zsu.1 hz
  have v := ZOA (φ := φ) H hc h1 h2
  obtain ⟨o1, o2⟩ := Zo z0
  have w := Z4s H hf hc (Vl.of (φ := φ) o1) (Vl.of (φ := φ) o2) (Vl.of (φ := φ) h1) (Vl.of (φ := φ) h2)
  rw [Z6G hf hc z0 (Zvo hz)]
  have : ZA p c (0, 0) z = ((ZFd p.toNat c.toNat z.1.toNat z.2.toNat : Nat) : Int) := by
   refine Vl.inj H (w.conv ?_) v
   have h0 : φ 0 = 0 := H.zero
   rw [h0]
   rcases hc with rfl | rfl | rfl <;> simp only [Z1j] <;> grind
  rw [this, Bool.eq_iff_iff, beq_iff_eq]
  constructor
  ·intro h; rw [show ZFd p.toNat c.toNat z.1.toNat z.2.toNat = q.toNat by omega]; exact Nat.beq_refl _
  ·intro h; have := Nat.eq_of_beq_eq_true h; omega
 have hm : p.toNat ∈ ([3, 5, 7, 11, 13, 17, 19, 23, 29, 31] : List Nat) := by
  have hm := Z7B hf
  simp only [List.mem_cons, List.not_mem_nil, or_false] at hm ⊢
  omega
 have hcm : c.toNat ∈ ([0, 1, 2] : List Nat) := by rcases hc with rfl | rfl | rfl <;> simp
 have hk := List.all_eq_true.1 (List.all_eq_true.1 (List.all_eq_true.1 ZP0 _ hm) _ hcm) q.toNat (List.mem_range.2 (by omega))
 show ((pts p).filter fun zz => Zp p c (0, 0) zz == q).length <= 99
 rw [e, ZPw]
 exact Nat.le_of_ble_eq_true hk
theorem Zz7 {n : Nat} (h : n <= 99) : num1 ((n : Nat) : Int) = true := by rw [Zjj]; omega
theorem ZMA {p c : Int} (hf : Z6 p = true) (hc : isC c) (q : Int) : Z6C p c q = Z5S p c q /\ num1 (Z5S p c q).1 = true := by
 have z0 : Z5 p (0, 0) = true := by
  have := Zy hf
  unfold Pr at this
  simp [Z5, ZM, Z0p]; omega
 have hn : Z00 p [q] = ZK p true (ZM p [q]) := ZgR p true [q]
 have e1 : Z5c c p q = ZM p [q] := by unfold Z5c; simp [Z8B hc, ZM]
 have hcc : Z2a c = true := by rw [ZfV]; exact Z8B hc
 unfold Z6C Z5S
 rw [hn, e1, hcc, (ZL9 hf hc z0 q).1]
 cases h : ZM p [q]
 ·rw [ask2 hf rfl]
  exact ⟨rfl, rfl⟩
 ·rw [ask1 hf rfl]
  have hq : 0 <= q /\ q < p := by simpa [ZM, Z1c] using h
  exact ⟨rfl, Zz7 (ZrV hf hc hq)⟩
theorem ZEE {p : Int} (hf : Z6 p = true) : Z2X p = Z0V p /\ numB (Z0V p).1.1 (Z0V p).1.2 = true := by
 refine ⟨Zxz p, ?_⟩
 have hf' : Z06 p = true := hf
 have h1 : (0 : Int) <= 1 /\ 1 < p := by have hm := Z7B hf; simp at hm; omega
 unfold Z0V
 rw [hf', if_neg (by decide)]
 have a0 := Zz7 (ZrV hf isC0 h1); have a1 := Zz7 (ZrV hf isC1 h1); have a2 := Zz7 (ZrV hf isC2 h1)
 unfold numB
 simp [a0, a1, a2, lenB]

end Go.Proofs.YtcdpfpfbilfpoaaGreatDoor
