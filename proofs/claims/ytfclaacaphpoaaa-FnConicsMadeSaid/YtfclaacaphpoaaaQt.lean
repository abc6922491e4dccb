import Derived.Test.YtfclaacaphpoaaaQs
set_option linter.unusedSimpArgs false
set_option linter.unusedVariables false
namespace Go.Proofs.Ytfclaacaphpoaaa
open Go.RowKit
section
variable {p : Int} {K : Type} [Lean.Grind.Field K] {φ : Int -> K}
set_option maxHeartbeats 4000000 in
theorem Zwn (H : Hom p K φ) (hf : Zo p = true) {a : P2} {l : P3} (ha : ZI p a = true) (hl : Z0S p l = true) (hn : Z0T p 0 l = false) : (Z00 p 0 a l).2 = 0 /\ Cc p φ (Z00 p 0 a l).1 ((φ l.1 * φ l.1 + φ l.2.1 * φ l.2.1) - (φ l.1) * (φ l.1)) (-(2 * (φ l.1) * (φ l.2.1))) ((φ l.1 * φ l.1 + φ l.2.1 * φ l.2.1) - (φ l.2.1) * (φ l.2.1)) (-(2 * (φ l.1 * φ l.1 + φ l.2.1 * φ l.2.1) * (φ a.1)) - 2 * (φ l.1) * (φ l.2.2)) (-(2 * (φ l.1 * φ l.1 + φ l.2.1 * φ l.2.1) * (φ a.2)) - 2 * (φ l.2.1) * (φ l.2.2)) ((φ l.1 * φ l.1 + φ l.2.1 * φ l.2.1) * ((φ a.1) * (φ a.1) + (φ a.2) * (φ a.2)) - (φ l.2.2) * (φ l.2.2)) := by
 have hp := Zx hf
 have hcc : Z0P 0 = true := rfl
 have h0 : Zt p true true = 0 := by simp [Zt, hf]
 have hn' : ZL p 0 l l = false := hn
 have h2 := H.two_ne hf
 have a1 := Vl.of (φ := φ) (Z0d ha).1; have a2 := Vl.of (φ := φ) (Z0d ha).2
 obtain ⟨⟨m0, m1, m2⟩, hm⟩ := Z50 hl
 have l0 := Vl.of (φ := φ) m0; have l1 := Vl.of (φ := φ) m1; have l2 := Vl.of (φ := φ) m2
 have hne : φ l.1 ≠ 0 \/ φ l.2.1 ≠ 0 := by
  have h1 := H.one_ne
  rcases hm with e | ⟨_, e⟩
  ·rw [e, H.one]; exact Or.inl h1
  ·rw [e, H.one]; exact Or.inr h1
 have hnn : nK 0 (φ l.1) (φ l.2.1) ≠ 0 := by
  intro h
  have hq := (Z6I H hf isC0 l0 l1 l0 l1).2 ((Zax isC0 _ _).2 h)
  have : Z0T p 0 l = true := hq
  rw [this] at hn
  cases hn
 unfold Z00
 rw [bothcode p true, ha, hl, Z5K, hcc, hn']
 simp only [if_true, h0, bne_self_eq_false, Bool.false_eq_true, if_false, BEq.rfl, Bool.not_true]
 simp only [nK, Z4y, if_true, if_false, reduceIte, Int.reduceEq, Int.reduceBEq, Bool.false_eq_true] at hnn ⊢
 generalize hS : ZO p 6 [_, _, _, _, _, _] = S
 have hlead : ((φ l.1 * φ l.1 + φ l.2.1 * φ l.2.1) - (φ l.1) * (φ l.1)) ≠ 0 \/ (-(2 * (φ l.1) * (φ l.2.1))) ≠ 0 \/ ((φ l.1 * φ l.1 + φ l.2.1 * φ l.2.1) - (φ l.2.1) * (φ l.2.1)) ≠ 0 := by
  clear hS a1 a2 l0 l1 l2 m0 m1 m2 hm
  generalize φ l.1 = u at hnn hne ⊢; generalize φ l.2.1 = v at hnn hne ⊢
  grind
 have hs : Cc p φ S.1 ((φ l.1 * φ l.1 + φ l.2.1 * φ l.2.1) - (φ l.1) * (φ l.1)) (-(2 * (φ l.1) * (φ l.2.1))) ((φ l.1 * φ l.1 + φ l.2.1 * φ l.2.1) - (φ l.2.1) * (φ l.2.1)) (-(2 * (φ l.1 * φ l.1 + φ l.2.1 * φ l.2.1) * (φ a.1)) - 2 * (φ l.1) * (φ l.2.2)) (-(2 * (φ l.1 * φ l.1 + φ l.2.1 * φ l.2.1) * (φ a.2)) - 2 * (φ l.2.1) * (φ l.2.2)) ((φ l.1 * φ l.1 + φ l.2.1 * φ l.2.1) * ((φ a.1) * (φ a.1) + (φ a.2) * (φ a.2)) - (φ l.2.2) * (φ l.2.2)) := by
  rw [<- hS]
  refine (Zan H hf (by
   apply Rx.conv
   ·(with_reducible (repeat' (first | assumption | exact Vl.rw hp (by assumption) | exact Rw.lit _ (by decide) | exact Rw.nlit _ (by decide) | apply Vl.rest H hp | apply Vl.smod H hp | apply Vl.div H hf | apply Vl.inv H hf | apply Vl.sinvV H hf | apply Vl.sinvR H hf | apply Rw.tmod H hp | apply Rw.mul H | apply Rw.neg0 H | apply Rw.sub H | apply Rw.add H | apply Vl.rw hp | decide)))
   ·clear hS a1 a2 l0 l1 l2 m0 m1 m2 hm hlead hnn hne
    (try simp only [H.two, H.neg, H.zero, H.one]) <;> grind) (by
   apply Rx.conv
   ·(with_reducible (repeat' (first | assumption | exact Vl.rw hp (by assumption) | exact Rw.lit _ (by decide) | exact Rw.nlit _ (by decide) | apply Vl.rest H hp | apply Vl.smod H hp | apply Vl.div H hf | apply Vl.inv H hf | apply Vl.sinvV H hf | apply Vl.sinvR H hf | apply Rw.tmod H hp | apply Rw.mul H | apply Rw.neg0 H | apply Rw.sub H | apply Rw.add H | apply Vl.rw hp | decide)))
   ·clear hS a1 a2 l0 l1 l2 m0 m1 m2 hm hlead hnn hne
    (try simp only [H.two, H.neg, H.zero, H.one]) <;> grind) (by
   apply Rx.conv
   ·(with_reducible (repeat' (first | assumption | exact Vl.rw hp (by assumption) | exact Rw.lit _ (by decide) | exact Rw.nlit _ (by decide) | apply Vl.rest H hp | apply Vl.smod H hp | apply Vl.div H hf | apply Vl.inv H hf | apply Vl.sinvV H hf | apply Vl.sinvR H hf | apply Rw.tmod H hp | apply Rw.mul H | apply Rw.neg0 H | apply Rw.sub H | apply Rw.add H | apply Vl.rw hp | decide)))
   ·clear hS a1 a2 l0 l1 l2 m0 m1 m2 hm hlead hnn hne
    (try simp only [H.two, H.neg, H.zero, H.one]) <;> grind) (by
   apply Rx.conv
   ·(with_reducible (repeat' (first | assumption | exact Vl.rw hp (by assumption) | exact Rw.lit _ (by decide) | exact Rw.nlit _ (by decide) | apply Vl.rest H hp | apply Vl.smod H hp | apply Vl.div H hf | apply Vl.inv H hf | apply Vl.sinvV H hf | apply Vl.sinvR H hf | apply Rw.tmod H hp | apply Rw.mul H | apply Rw.neg0 H | apply Rw.sub H | apply Rw.add H | apply Vl.rw hp | decide)))
   ·clear hS a1 a2 l0 l1 l2 m0 m1 m2 hm hlead hnn hne
    (try simp only [H.two, H.neg, H.zero, H.one]) <;> grind) (by
   apply Rx.conv
   ·(with_reducible (repeat' (first | assumption | exact Vl.rw hp (by assumption) | exact Rw.lit _ (by decide) | exact Rw.nlit _ (by decide) | apply Vl.rest H hp | apply Vl.smod H hp | apply Vl.div H hf | apply Vl.inv H hf | apply Vl.sinvV H hf | apply Vl.sinvR H hf | apply Rw.tmod H hp | apply Rw.mul H | apply Rw.neg0 H | apply Rw.sub H | apply Rw.add H | apply Vl.rw hp | decide)))
   ·clear hS a1 a2 l0 l1 l2 m0 m1 m2 hm hlead hnn hne
    (try simp only [H.two, H.neg, H.zero, H.one]) <;> grind) (by
   apply Rx.conv
   ·(with_reducible (repeat' (first | assumption | exact Vl.rw hp (by assumption) | exact Rw.lit _ (by decide) | exact Rw.nlit _ (by decide) | apply Vl.rest H hp | apply Vl.smod H hp | apply Vl.div H hf | apply Vl.inv H hf | apply Vl.sinvV H hf | apply Vl.sinvR H hf | apply Rw.tmod H hp | apply Rw.mul H | apply Rw.neg0 H | apply Rw.sub H | apply Rw.add H | apply Vl.rw hp | decide)))
   ·clear hS a1 a2 l0 l1 l2 m0 m1 m2 hm hlead hnn hne
    (try simp only [H.two, H.neg, H.zero, H.one]) <;> grind) hlead).2
 exact ⟨trivial, hs⟩
set_option maxHeartbeats 4000000 in
theorem Zwo (H : Hom p K φ) (hf : Zo p = true) {a : P2} {l : P3} (ha : ZI p a = true) (hl : Z0S p l = true) (hn : Z0T p 1 l = false) : (Z00 p 1 a l).2 = 0 /\ Cc p φ (Z00 p 1 a l).1 ((φ l.1 * φ l.1 - φ l.2.1 * φ l.2.1) - (φ l.1) * (φ l.1)) (-(2 * (φ l.1) * (φ l.2.1))) (-(φ l.1 * φ l.1 - φ l.2.1 * φ l.2.1) - (φ l.2.1) * (φ l.2.1)) (-(2 * (φ l.1 * φ l.1 - φ l.2.1 * φ l.2.1) * (φ a.1)) - 2 * (φ l.1) * (φ l.2.2)) (2 * (φ l.1 * φ l.1 - φ l.2.1 * φ l.2.1) * (φ a.2) - 2 * (φ l.2.1) * (φ l.2.2)) ((φ l.1 * φ l.1 - φ l.2.1 * φ l.2.1) * ((φ a.1) * (φ a.1) - (φ a.2) * (φ a.2)) - (φ l.2.2) * (φ l.2.2)) := by
 have hp := Zx hf
 have hcc : Z0P 1 = true := rfl
 have h0 : Zt p true true = 0 := by simp [Zt, hf]
 have hn' : ZL p 1 l l = false := hn
 have h2 := H.two_ne hf
 have a1 := Vl.of (φ := φ) (Z0d ha).1; have a2 := Vl.of (φ := φ) (Z0d ha).2
 obtain ⟨⟨m0, m1, m2⟩, hm⟩ := Z50 hl
 have l0 := Vl.of (φ := φ) m0; have l1 := Vl.of (φ := φ) m1; have l2 := Vl.of (φ := φ) m2
 have hne : φ l.1 ≠ 0 \/ φ l.2.1 ≠ 0 := by
  have h1 := H.one_ne
  rcases hm with e | ⟨_, e⟩
  ·rw [e, H.one]; exact Or.inl h1
  ·rw [e, H.one]; exact Or.inr h1
 have hnn : nK 1 (φ l.1) (φ l.2.1) ≠ 0 := by
  intro h
  have hq := (Z6I H hf isC1 l0 l1 l0 l1).2 ((Zax isC1 _ _).2 h)
  have : Z0T p 1 l = true := hq
  rw [this] at hn
  cases hn
 unfold Z00
 rw [bothcode p true, ha, hl, Z5K, hcc, hn']
 simp only [if_true, h0, bne_self_eq_false, Bool.false_eq_true, if_false, BEq.rfl, Bool.not_true]
 simp only [nK, Z4y, if_true, if_false, reduceIte, Int.reduceEq, Int.reduceBEq, Bool.false_eq_true] at hnn ⊢
 generalize hS : ZO p 6 [_, _, _, _, _, _] = S
 have hlead : ((φ l.1 * φ l.1 - φ l.2.1 * φ l.2.1) - (φ l.1) * (φ l.1)) ≠ 0 \/ (-(2 * (φ l.1) * (φ l.2.1))) ≠ 0 \/ (-(φ l.1 * φ l.1 - φ l.2.1 * φ l.2.1) - (φ l.2.1) * (φ l.2.1)) ≠ 0 := by
  clear hS a1 a2 l0 l1 l2 m0 m1 m2 hm
  generalize φ l.1 = u at hnn hne ⊢; generalize φ l.2.1 = v at hnn hne ⊢
  grind
 have hs : Cc p φ S.1 ((φ l.1 * φ l.1 - φ l.2.1 * φ l.2.1) - (φ l.1) * (φ l.1)) (-(2 * (φ l.1) * (φ l.2.1))) (-(φ l.1 * φ l.1 - φ l.2.1 * φ l.2.1) - (φ l.2.1) * (φ l.2.1)) (-(2 * (φ l.1 * φ l.1 - φ l.2.1 * φ l.2.1) * (φ a.1)) - 2 * (φ l.1) * (φ l.2.2)) (2 * (φ l.1 * φ l.1 - φ l.2.1 * φ l.2.1) * (φ a.2) - 2 * (φ l.2.1) * (φ l.2.2)) ((φ l.1 * φ l.1 - φ l.2.1 * φ l.2.1) * ((φ a.1) * (φ a.1) - (φ a.2) * (φ a.2)) - (φ l.2.2) * (φ l.2.2)) := by
  rw [<- hS]
  refine (Zan H hf (by
   apply Rx.conv
   ·(with_reducible (repeat' (first | assumption | exact Vl.rw hp (by assumption) | exact Rw.lit _ (by decide) | exact Rw.nlit _ (by decide) | apply Vl.rest H hp | apply Vl.smod H hp | apply Vl.div H hf | apply Vl.inv H hf | apply Vl.sinvV H hf | apply Vl.sinvR H hf | apply Rw.tmod H hp | apply Rw.mul H | apply Rw.neg0 H | apply Rw.sub H | apply Rw.add H | apply Vl.rw hp | decide)))
   ·clear hS a1 a2 l0 l1 l2 m0 m1 m2 hm hlead hnn hne
    (try simp only [H.two, H.neg, H.zero, H.one]) <;> grind) (by
   apply Rx.conv
   ·(with_reducible (repeat' (first | assumption | exact Vl.rw hp (by assumption) | exact Rw.lit _ (by decide) | exact Rw.nlit _ (by decide) | apply Vl.rest H hp | apply Vl.smod H hp | apply Vl.div H hf | apply Vl.inv H hf | apply Vl.sinvV H hf | apply Vl.sinvR H hf | apply Rw.tmod H hp | apply Rw.mul H | apply Rw.neg0 H | apply Rw.sub H | apply Rw.add H | apply Vl.rw hp | decide)))
   ·clear hS a1 a2 l0 l1 l2 m0 m1 m2 hm hlead hnn hne
    (try simp only [H.two, H.neg, H.zero, H.one]) <;> grind) (by
   apply Rx.conv
   ·(with_reducible (repeat' (first | assumption | exact Vl.rw hp (by assumption) | exact Rw.lit _ (by decide) | exact Rw.nlit _ (by decide) | apply Vl.rest H hp | apply Vl.smod H hp | apply Vl.div H hf | apply Vl.inv H hf | apply Vl.sinvV H hf | apply Vl.sinvR H hf | apply Rw.tmod H hp | apply Rw.mul H | apply Rw.neg0 H | apply Rw.sub H | apply Rw.add H | apply Vl.rw hp | decide)))
   ·clear hS a1 a2 l0 l1 l2 m0 m1 m2 hm hlead hnn hne
    (try simp only [H.two, H.neg, H.zero, H.one]) <;> grind) (by
   apply Rx.conv
   ·(with_reducible (repeat' (first | assumption | exact Vl.rw hp (by assumption) | exact Rw.lit _ (by decide) | exact Rw.nlit _ (by decide) | apply Vl.rest H hp | apply Vl.smod H hp | apply Vl.div H hf | apply Vl.inv H hf | apply Vl.sinvV H hf | apply Vl.sinvR H hf | apply Rw.tmod H hp | apply Rw.mul H | apply Rw.neg0 H | apply Rw.sub H | apply Rw.add H | apply Vl.rw hp | decide)))
   ·clear hS a1 a2 l0 l1 l2 m0 m1 m2 hm hlead hnn hne
    (try simp only [H.two, H.neg, H.zero, H.one]) <;> grind) (by
   apply Rx.conv
   ·(with_reducible (repeat' (first | assumption | exact Vl.rw hp (by assumption) | exact Rw.lit _ (by decide) | exact Rw.nlit _ (by decide) | apply Vl.rest H hp | apply Vl.smod H hp | apply Vl.div H hf | apply Vl.inv H hf | apply Vl.sinvV H hf | apply Vl.sinvR H hf | apply Rw.tmod H hp | apply Rw.mul H | apply Rw.neg0 H | apply Rw.sub H | apply Rw.add H | apply Vl.rw hp | decide)))
   ·clear hS a1 a2 l0 l1 l2 m0 m1 m2 hm hlead hnn hne
    (try simp only [H.two, H.neg, H.zero, H.one]) <;> grind) (by
   apply Rx.conv
   ·(with_reducible (repeat' (first | assumption | exact Vl.rw hp (by assumption) | exact Rw.lit _ (by decide) | exact Rw.nlit _ (by decide) | apply Vl.rest H hp | apply Vl.smod H hp | apply Vl.div H hf | apply Vl.inv H hf | apply Vl.sinvV H hf | apply Vl.sinvR H hf | apply Rw.tmod H hp | apply Rw.mul H | apply Rw.neg0 H | apply Rw.sub H | apply Rw.add H | apply Vl.rw hp | decide)))
   ·clear hS a1 a2 l0 l1 l2 m0 m1 m2 hm hlead hnn hne
    (try simp only [H.two, H.neg, H.zero, H.one]) <;> grind) hlead).2
 exact ⟨trivial, hs⟩
set_option maxHeartbeats 4000000 in
theorem Zwp (H : Hom p K φ) (hf : Zo p = true) {a : P2} {l : P3} (ha : ZI p a = true) (hl : Z0S p l = true) (hn : Z0T p 2 l = false) : (Z00 p 2 a l).2 = 0 /\ Cc p φ (Z00 p 2 a l).1 (-((φ l.1) * (φ l.1))) (2 * (2 * φ l.1 * φ l.2.1) - 2 * (φ l.1) * (φ l.2.1)) (-((φ l.2.1) * (φ l.2.1))) (-(2 * (2 * φ l.1 * φ l.2.1) * (φ a.2)) - 2 * (φ l.1) * (φ l.2.2)) (-(2 * (2 * φ l.1 * φ l.2.1) * (φ a.1)) - 2 * (φ l.2.1) * (φ l.2.2)) (2 * (2 * φ l.1 * φ l.2.1) * (φ a.1) * (φ a.2) - (φ l.2.2) * (φ l.2.2)) := by
 have hp := Zx hf
 have hcc : Z0P 2 = true := rfl
 have h0 : Zt p true true = 0 := by simp [Zt, hf]
 have hn' : ZL p 2 l l = false := hn
 have h2 := H.two_ne hf
 have a1 := Vl.of (φ := φ) (Z0d ha).1; have a2 := Vl.of (φ := φ) (Z0d ha).2
 obtain ⟨⟨m0, m1, m2⟩, hm⟩ := Z50 hl
 have l0 := Vl.of (φ := φ) m0; have l1 := Vl.of (φ := φ) m1; have l2 := Vl.of (φ := φ) m2
 have hne : φ l.1 ≠ 0 \/ φ l.2.1 ≠ 0 := by
  have h1 := H.one_ne
  rcases hm with e | ⟨_, e⟩
  ·rw [e, H.one]; exact Or.inl h1
  ·rw [e, H.one]; exact Or.inr h1
 have hnn : nK 2 (φ l.1) (φ l.2.1) ≠ 0 := by
  intro h
  have hq := (Z6I H hf isC2 l0 l1 l0 l1).2 ((Zax isC2 _ _).2 h)
  have : Z0T p 2 l = true := hq
  rw [this] at hn
  cases hn
 unfold Z00
 rw [bothcode p true, ha, hl, Z5K, hcc, hn']
 simp only [if_true, h0, bne_self_eq_false, Bool.false_eq_true, if_false, BEq.rfl, Bool.not_true]
 simp only [nK, Z4y, if_true, if_false, reduceIte, Int.reduceEq, Int.reduceBEq, Bool.false_eq_true] at hnn ⊢
 generalize hS : ZO p 6 [_, _, _, _, _, _] = S
 have hlead : (-((φ l.1) * (φ l.1))) ≠ 0 \/ (2 * (2 * φ l.1 * φ l.2.1) - 2 * (φ l.1) * (φ l.2.1)) ≠ 0 \/ (-((φ l.2.1) * (φ l.2.1))) ≠ 0 := by
  clear hS a1 a2 l0 l1 l2 m0 m1 m2 hm
  generalize φ l.1 = u at hnn hne ⊢; generalize φ l.2.1 = v at hnn hne ⊢
  grind
 have hs : Cc p φ S.1 (-((φ l.1) * (φ l.1))) (2 * (2 * φ l.1 * φ l.2.1) - 2 * (φ l.1) * (φ l.2.1)) (-((φ l.2.1) * (φ l.2.1))) (-(2 * (2 * φ l.1 * φ l.2.1) * (φ a.2)) - 2 * (φ l.1) * (φ l.2.2)) (-(2 * (2 * φ l.1 * φ l.2.1) * (φ a.1)) - 2 * (φ l.2.1) * (φ l.2.2)) (2 * (2 * φ l.1 * φ l.2.1) * (φ a.1) * (φ a.2) - (φ l.2.2) * (φ l.2.2)) := by
  rw [<- hS]
  refine (Zan H hf (by
   apply Rx.conv
   ·(with_reducible (repeat' (first | assumption | exact Vl.rw hp (by assumption) | exact Rw.lit _ (by decide) | exact Rw.nlit _ (by decide) | apply Vl.rest H hp | apply Vl.smod H hp | apply Vl.div H hf | apply Vl.inv H hf | apply Vl.sinvV H hf | apply Vl.sinvR H hf | apply Rw.tmod H hp | apply Rw.mul H | apply Rw.neg0 H | apply Rw.sub H | apply Rw.add H | apply Vl.rw hp | decide)))
   ·clear hS a1 a2 l0 l1 l2 m0 m1 m2 hm hlead hnn hne
    (try simp only [H.two, H.neg, H.zero, H.one]) <;> grind) (by
   apply Rx.conv
   ·(with_reducible (repeat' (first | assumption | exact Vl.rw hp (by assumption) | exact Rw.lit _ (by decide) | exact Rw.nlit _ (by decide) | apply Vl.rest H hp | apply Vl.smod H hp | apply Vl.div H hf | apply Vl.inv H hf | apply Vl.sinvV H hf | apply Vl.sinvR H hf | apply Rw.tmod H hp | apply Rw.mul H | apply Rw.neg0 H | apply Rw.sub H | apply Rw.add H | apply Vl.rw hp | decide)))
   ·clear hS a1 a2 l0 l1 l2 m0 m1 m2 hm hlead hnn hne
    (try simp only [H.two, H.neg, H.zero, H.one]) <;> grind) (by
   apply Rx.conv
   ·(with_reducible (repeat' (first | assumption | exact Vl.rw hp (by assumption) | exact Rw.lit _ (by decide) | exact Rw.nlit _ (by decide) | apply Vl.rest H hp | apply Vl.smod H hp | apply Vl.div H hf | apply Vl.inv H hf | apply Vl.sinvV H hf | apply Vl.sinvR H hf | apply Rw.tmod H hp | apply Rw.mul H | apply Rw.neg0 H | apply Rw.sub H | apply Rw.add H | apply Vl.rw hp | decide)))
   ·clear hS a1 a2 l0 l1 l2 m0 m1 m2 hm hlead hnn hne
    (try simp only [H.two, H.neg, H.zero, H.one]) <;> grind) (by
   apply Rx.conv
   ·(with_reducible (repeat' (first | assumption | exact Vl.rw hp (by assumption) | exact Rw.lit _ (by decide) | exact Rw.nlit _ (by decide) | apply Vl.rest H hp | apply Vl.smod H hp | apply Vl.div H hf | apply Vl.inv H hf | apply Vl.sinvV H hf | apply Vl.sinvR H hf | apply Rw.tmod H hp | apply Rw.mul H | apply Rw.neg0 H | apply Rw.sub H | apply Rw.add H | apply Vl.rw hp | decide)))
   ·clear hS a1 a2 l0 l1 l2 m0 m1 m2 hm hlead hnn hne
    (try simp only [H.two, H.neg, H.zero, H.one]) <;> grind) (by
   apply Rx.conv
   ·(with_reducible (repeat' (first | assumption | exact Vl.rw hp (by assumption) | exact Rw.lit _ (by decide) | exact Rw.nlit _ (by decide) | apply Vl.rest H hp | apply Vl.smod H hp | apply Vl.div H hf | apply Vl.inv H hf | apply Vl.sinvV H hf | apply Vl.sinvR H hf | apply Rw.tmod H hp | apply Rw.mul H | apply Rw.neg0 H | apply Rw.sub H | apply Rw.add H | apply Vl.rw hp | decide)))
   ·clear hS a1 a2 l0 l1 l2 m0 m1 m2 hm hlead hnn hne
    (try simp only [H.two, H.neg, H.zero, H.one]) <;> grind) (by
   apply Rx.conv
   ·(with_reducible (repeat' (first | assumption | exact Vl.rw hp (by assumption) | exact Rw.lit _ (by decide) | exact Rw.nlit _ (by decide) | apply Vl.rest H hp | apply Vl.smod H hp | apply Vl.div H hf | apply Vl.inv H hf | apply Vl.sinvV H hf | apply Vl.sinvR H hf | apply Rw.tmod H hp | apply Rw.mul H | apply Rw.neg0 H | apply Rw.sub H | apply Rw.add H | apply Vl.rw hp | decide)))
   ·clear hS a1 a2 l0 l1 l2 m0 m1 m2 hm hlead hnn hne
    (try simp only [H.two, H.neg, H.zero, H.one]) <;> grind) hlead).2
 exact ⟨trivial, hs⟩
end

end Go.Proofs.Ytfclaacaphpoaaa
