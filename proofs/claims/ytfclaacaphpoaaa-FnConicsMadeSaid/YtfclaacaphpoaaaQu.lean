import Derived.Test.YtfclaacaphpoaaaQt
set_option linter.unusedSimpArgs false
set_option linter.unusedVariables false
namespace Go.Proofs.Ytfclaacaphpoaaa
open Go.RowKit
set_option maxHeartbeats 4000000 in
theorem ZrZ {p : Int} (hf : Zo p = true) {a : P2} {l : P3} (ha : ZI p a = true) (hl : Z0S p l = true) (hn : Z0T p 0 l = false) : ZP p 0 a l = Z00 p 0 a l := by
 have hp := Zx hf
 have hcc : Z0P 0 = true := rfl
 have h0 : Zt p true true = 0 := by simp [Zt, hf]
 have hn' : ZL p 0 l l = false := hn
 obtain ⟨K, inst, φ, H⟩ := ZdH hf
 have h2 := H.two_ne hf
 have v00 := Z2V H hf isC0 ha hl hn 0 0 (Rw.lit 0 (by decide)) (Rw.lit 0 (by decide))
 have v10 := Z2V H hf isC0 ha hl hn 1 0 (Rw.lit 1 (by decide)) (Rw.lit 0 (by decide))
 have w10 := Z2V H hf isC0 ha hl hn (-1) 0 (Rw.nlit 1 (by decide)) (Rw.lit 0 (by decide))
 have v01 := Z2V H hf isC0 ha hl hn 0 1 (Rw.lit 0 (by decide)) (Rw.lit 1 (by decide))
 have w01 := Z2V H hf isC0 ha hl hn 0 (-1) (Rw.lit 0 (by decide)) (Rw.nlit 1 (by decide))
 have v11 := Z2V H hf isC0 ha hl hn 1 1 (Rw.lit 1 (by decide)) (Rw.lit 1 (by decide))
 simp only [H.neg, H.zero, H.one] at v00 v10 w10 v01 w01 v11
 have a1 := Vl.of (φ := φ) (Z0d ha).1; have a2 := Vl.of (φ := φ) (Z0d ha).2
 obtain ⟨⟨m0, m1, m2⟩, hm⟩ := Z50 hl
 have l0 := Vl.of (φ := φ) m0; have l1 := Vl.of (φ := φ) m1; have l2 := Vl.of (φ := φ) m2
 have hne : φ l.1 ≠ 0 \/ φ l.2.1 ≠ 0 := by
  have h1 := H.one_ne
  rcases hm with e | ⟨_, e⟩
  ·rw [e, H.one]; exact Or.inl h1
  ·rw [e, H.one]; exact Or.inr h1
 have hnn : nK 0 (φ l.1) (φ l.2.1) ≠ 0 := by
  intro h
  have hq := (Z6I H hf isC0 l0 l1 l0 l1).2 ((Zax isC0 _ _).2 h)
  have : Z0T p 0 l = true := hq
  rw [this] at hn
  cases hn
 have vh : Vl p φ (ZA p 2) (2 : K)⁻¹ := by
  have hm3 := Z7o hf
  have := Vl.inv H hf (Vl.of (φ := φ) (x := 2) (p := p) ⟨by decide, by simp at hm3; omega⟩)
  rwa [H.two] at this
 unfold ZP Z00 Z0x
 rw [bothcode p true, hcc, ha, hl, hn, Z5K, hcc, hn']
 simp only [if_true, h0, bne_self_eq_false, Bool.false_eq_true, if_false, BEq.rfl, Bool.not_true]
 generalize hM : Z02 p (_, _, _, _, _, _) = M
 simp only [nK, Z4y, if_true, if_false, reduceIte, Int.reduceEq, Int.reduceBEq, Bool.false_eq_true] at v00 v10 w10 v01 w01 v11 hnn ⊢
 generalize hS : ZO p 6 [_, _, _, _, _, _] = S
 have hlead : ((φ l.1 * φ l.1 + φ l.2.1 * φ l.2.1) - (φ l.1) * (φ l.1)) ≠ 0 \/ (-(2 * (φ l.1) * (φ l.2.1))) ≠ 0 \/ ((φ l.1 * φ l.1 + φ l.2.1 * φ l.2.1) - (φ l.2.1) * (φ l.2.1)) ≠ 0 := by
  clear hM hS v00 v10 w10 v01 w01 v11 a1 a2 l0 l1 l2 vh m0 m1 m2 hm
  generalize φ l.1 = u at hnn hne ⊢; generalize φ l.2.1 = v at hnn hne ⊢
  grind
 have hs : Cc p φ S.1 ((φ l.1 * φ l.1 + φ l.2.1 * φ l.2.1) - (φ l.1) * (φ l.1)) (-(2 * (φ l.1) * (φ l.2.1))) ((φ l.1 * φ l.1 + φ l.2.1 * φ l.2.1) - (φ l.2.1) * (φ l.2.1)) (-(2 * (φ l.1 * φ l.1 + φ l.2.1 * φ l.2.1) * (φ a.1)) - 2 * (φ l.1) * (φ l.2.2)) (-(2 * (φ l.1 * φ l.1 + φ l.2.1 * φ l.2.1) * (φ a.2)) - 2 * (φ l.2.1) * (φ l.2.2)) ((φ l.1 * φ l.1 + φ l.2.1 * φ l.2.1) * ((φ a.1) * (φ a.1) + (φ a.2) * (φ a.2)) - (φ l.2.2) * (φ l.2.2)) := by
  rw [<- hS]
  refine (Zan H hf (by
   apply Rx.conv
   ·(with_reducible (repeat' (first | assumption | exact Vl.rw hp (by assumption) | exact Rw.lit _ (by decide) | exact Rw.nlit _ (by decide) | apply Vl.rest H hp | apply Vl.smod H hp | apply Vl.div H hf | apply Vl.inv H hf | apply Vl.sinvV H hf | apply Vl.sinvR H hf | apply Rw.tmod H hp | apply Rw.mul H | apply Rw.neg0 H | apply Rw.sub H | apply Rw.add H | apply Vl.rw hp | decide)))
   ·clear hM hS v00 v10 w10 v01 w01 v11 a1 a2 l0 l1 l2 vh m0 m1 m2 hm hlead hnn hne
    (try simp only [H.two, H.neg, H.zero, H.one]) <;> grind) (by
   apply Rx.conv
   ·(with_reducible (repeat' (first | assumption | exact Vl.rw hp (by assumption) | exact Rw.lit _ (by decide) | exact Rw.nlit _ (by decide) | apply Vl.rest H hp | apply Vl.smod H hp | apply Vl.div H hf | apply Vl.inv H hf | apply Vl.sinvV H hf | apply Vl.sinvR H hf | apply Rw.tmod H hp | apply Rw.mul H | apply Rw.neg0 H | apply Rw.sub H | apply Rw.add H | apply Vl.rw hp | decide)))
   ·clear hM hS v00 v10 w10 v01 w01 v11 a1 a2 l0 l1 l2 vh m0 m1 m2 hm hlead hnn hne
    (try simp only [H.two, H.neg, H.zero, H.one]) <;> grind) (by
   apply Rx.conv
   ·(with_reducible (repeat' (first | assumption | exact Vl.rw hp (by assumption) | exact Rw.lit _ (by decide) | exact Rw.nlit _ (by decide) | apply Vl.rest H hp | apply Vl.smod H hp | apply Vl.div H hf | apply Vl.inv H hf | apply Vl.sinvV H hf | apply Vl.sinvR H hf | apply Rw.tmod H hp | apply Rw.mul H | apply Rw.neg0 H | apply Rw.sub H | apply Rw.add H | apply Vl.rw hp | decide)))
   ·clear hM hS v00 v10 w10 v01 w01 v11 a1 a2 l0 l1 l2 vh m0 m1 m2 hm hlead hnn hne
    (try simp only [H.two, H.neg, H.zero, H.one]) <;> grind) (by
   apply Rx.conv
   ·(with_reducible (repeat' (first | assumption | exact Vl.rw hp (by assumption) | exact Rw.lit _ (by decide) | exact Rw.nlit _ (by decide) | apply Vl.rest H hp | apply Vl.smod H hp | apply Vl.div H hf | apply Vl.inv H hf | apply Vl.sinvV H hf | apply Vl.sinvR H hf | apply Rw.tmod H hp | apply Rw.mul H | apply Rw.neg0 H | apply Rw.sub H | apply Rw.add H | apply Vl.rw hp | decide)))
   ·clear hM hS v00 v10 w10 v01 w01 v11 a1 a2 l0 l1 l2 vh m0 m1 m2 hm hlead hnn hne
    (try simp only [H.two, H.neg, H.zero, H.one]) <;> grind) (by
   apply Rx.conv
   ·(with_reducible (repeat' (first | assumption | exact Vl.rw hp (by assumption) | exact Rw.lit _ (by decide) | exact Rw.nlit _ (by decide) | apply Vl.rest H hp | apply Vl.smod H hp | apply Vl.div H hf | apply Vl.inv H hf | apply Vl.sinvV H hf | apply Vl.sinvR H hf | apply Rw.tmod H hp | apply Rw.mul H | apply Rw.neg0 H | apply Rw.sub H | apply Rw.add H | apply Vl.rw hp | decide)))
   ·clear hM hS v00 v10 w10 v01 w01 v11 a1 a2 l0 l1 l2 vh m0 m1 m2 hm hlead hnn hne
    (try simp only [H.two, H.neg, H.zero, H.one]) <;> grind) (by
   apply Rx.conv
   ·(with_reducible (repeat' (first | assumption | exact Vl.rw hp (by assumption) | exact Rw.lit _ (by decide) | exact Rw.nlit _ (by decide) | apply Vl.rest H hp | apply Vl.smod H hp | apply Vl.div H hf | apply Vl.inv H hf | apply Vl.sinvV H hf | apply Vl.sinvR H hf | apply Rw.tmod H hp | apply Rw.mul H | apply Rw.neg0 H | apply Rw.sub H | apply Rw.add H | apply Vl.rw hp | decide)))
   ·clear hM hS v00 v10 w10 v01 w01 v11 a1 a2 l0 l1 l2 vh m0 m1 m2 hm hlead hnn hne
    (try simp only [H.two, H.neg, H.zero, H.one]) <;> grind) hlead).2
 have hi : M.2 = true /\ Cc p φ M.1 ((φ l.1 * φ l.1 + φ l.2.1 * φ l.2.1)⁻¹ * ((φ l.1 * φ l.1 + φ l.2.1 * φ l.2.1) - (φ l.1) * (φ l.1))) ((φ l.1 * φ l.1 + φ l.2.1 * φ l.2.1)⁻¹ * (-(2 * (φ l.1) * (φ l.2.1)))) ((φ l.1 * φ l.1 + φ l.2.1 * φ l.2.1)⁻¹ * ((φ l.1 * φ l.1 + φ l.2.1 * φ l.2.1) - (φ l.2.1) * (φ l.2.1))) ((φ l.1 * φ l.1 + φ l.2.1 * φ l.2.1)⁻¹ * (-(2 * (φ l.1 * φ l.1 + φ l.2.1 * φ l.2.1) * (φ a.1)) - 2 * (φ l.1) * (φ l.2.2))) ((φ l.1 * φ l.1 + φ l.2.1 * φ l.2.1)⁻¹ * (-(2 * (φ l.1 * φ l.1 + φ l.2.1 * φ l.2.1) * (φ a.2)) - 2 * (φ l.2.1) * (φ l.2.2))) ((φ l.1 * φ l.1 + φ l.2.1 * φ l.2.1)⁻¹ * ((φ l.1 * φ l.1 + φ l.2.1 * φ l.2.1) * ((φ a.1) * (φ a.1) + (φ a.2) * (φ a.2)) - (φ l.2.2) * (φ l.2.2))) := by
  rw [<- hM]
  refine Zei H hf (by
   dsimp only
   apply Rx.conv
   ·(with_reducible (repeat' (first | assumption | exact Vl.rw hp (by assumption) | exact Rw.lit _ (by decide) | exact Rw.nlit _ (by decide) | apply Vl.rest H hp | apply Vl.smod H hp | apply Vl.div H hf | apply Vl.inv H hf | apply Vl.sinvV H hf | apply Vl.sinvR H hf | apply Rw.tmod H hp | apply Rw.mul H | apply Rw.neg0 H | apply Rw.sub H | apply Rw.add H | apply Vl.rw hp | decide)))
   ·try simp only [H.two]
    clear hM hS hs v00 v10 w10 v01 w01 v11 a1 a2 l0 l1 l2 vh m0 m1 m2 hm hlead hne
    have hh : (2 : K) * (2 : K)⁻¹ = 1 := Lean.Grind.Field.mul_inv_cancel h2
    have hi : (φ l.1 * φ l.1 + φ l.2.1 * φ l.2.1) * ((φ l.1 * φ l.1 + φ l.2.1 * φ l.2.1))⁻¹ = 1 := Lean.Grind.Field.mul_inv_cancel hnn
    generalize (2 : K)⁻¹ = half at hh ⊢
    generalize ((φ l.1 * φ l.1 + φ l.2.1 * φ l.2.1))⁻¹ = inv at hi ⊢
    clear hnn
    generalize φ l.1 = u at hi ⊢; generalize φ l.2.1 = v at hi ⊢; generalize φ l.2.2 = w; generalize φ a.1 = x; generalize φ a.2 = y
    grind) (by
   dsimp only
   apply Rx.conv
   ·(with_reducible (repeat' (first | assumption | exact Vl.rw hp (by assumption) | exact Rw.lit _ (by decide) | exact Rw.nlit _ (by decide) | apply Vl.rest H hp | apply Vl.smod H hp | apply Vl.div H hf | apply Vl.inv H hf | apply Vl.sinvV H hf | apply Vl.sinvR H hf | apply Rw.tmod H hp | apply Rw.mul H | apply Rw.neg0 H | apply Rw.sub H | apply Rw.add H | apply Vl.rw hp | decide)))
   ·try simp only [H.two]
    clear hM hS hs v00 v10 w10 v01 w01 v11 a1 a2 l0 l1 l2 vh m0 m1 m2 hm hlead hne
    have hh : (2 : K) * (2 : K)⁻¹ = 1 := Lean.Grind.Field.mul_inv_cancel h2
    have hi : (φ l.1 * φ l.1 + φ l.2.1 * φ l.2.1) * ((φ l.1 * φ l.1 + φ l.2.1 * φ l.2.1))⁻¹ = 1 := Lean.Grind.Field.mul_inv_cancel hnn
    generalize (2 : K)⁻¹ = half at hh ⊢
    generalize ((φ l.1 * φ l.1 + φ l.2.1 * φ l.2.1))⁻¹ = inv at hi ⊢
    clear hnn
    generalize φ l.1 = u at hi ⊢; generalize φ l.2.1 = v at hi ⊢; generalize φ l.2.2 = w; generalize φ a.1 = x; generalize φ a.2 = y
    grind) (by
   dsimp only
   apply Rx.conv
   ·(with_reducible (repeat' (first | assumption | exact Vl.rw hp (by assumption) | exact Rw.lit _ (by decide) | exact Rw.nlit _ (by decide) | apply Vl.rest H hp | apply Vl.smod H hp | apply Vl.div H hf | apply Vl.inv H hf | apply Vl.sinvV H hf | apply Vl.sinvR H hf | apply Rw.tmod H hp | apply Rw.mul H | apply Rw.neg0 H | apply Rw.sub H | apply Rw.add H | apply Vl.rw hp | decide)))
   ·try simp only [H.two]
    clear hM hS hs v00 v10 w10 v01 w01 v11 a1 a2 l0 l1 l2 vh m0 m1 m2 hm hlead hne
    have hh : (2 : K) * (2 : K)⁻¹ = 1 := Lean.Grind.Field.mul_inv_cancel h2
    have hi : (φ l.1 * φ l.1 + φ l.2.1 * φ l.2.1) * ((φ l.1 * φ l.1 + φ l.2.1 * φ l.2.1))⁻¹ = 1 := Lean.Grind.Field.mul_inv_cancel hnn
    generalize (2 : K)⁻¹ = half at hh ⊢
    generalize ((φ l.1 * φ l.1 + φ l.2.1 * φ l.2.1))⁻¹ = inv at hi ⊢
    clear hnn
    generalize φ l.1 = u at hi ⊢; generalize φ l.2.1 = v at hi ⊢; generalize φ l.2.2 = w; generalize φ a.1 = x; generalize φ a.2 = y
    grind) (by
   dsimp only
   apply Rx.conv
   ·(with_reducible (repeat' (first | assumption | exact Vl.rw hp (by assumption) | exact Rw.lit _ (by decide) | exact Rw.nlit _ (by decide) | apply Vl.rest H hp | apply Vl.smod H hp | apply Vl.div H hf | apply Vl.inv H hf | apply Vl.sinvV H hf | apply Vl.sinvR H hf | apply Rw.tmod H hp | apply Rw.mul H | apply Rw.neg0 H | apply Rw.sub H | apply Rw.add H | apply Vl.rw hp | decide)))
   ·try simp only [H.two]
    clear hM hS hs v00 v10 w10 v01 w01 v11 a1 a2 l0 l1 l2 vh m0 m1 m2 hm hlead hne
    have hh : (2 : K) * (2 : K)⁻¹ = 1 := Lean.Grind.Field.mul_inv_cancel h2
    have hi : (φ l.1 * φ l.1 + φ l.2.1 * φ l.2.1) * ((φ l.1 * φ l.1 + φ l.2.1 * φ l.2.1))⁻¹ = 1 := Lean.Grind.Field.mul_inv_cancel hnn
    generalize (2 : K)⁻¹ = half at hh ⊢
    generalize ((φ l.1 * φ l.1 + φ l.2.1 * φ l.2.1))⁻¹ = inv at hi ⊢
    clear hnn
    generalize φ l.1 = u at hi ⊢; generalize φ l.2.1 = v at hi ⊢; generalize φ l.2.2 = w; generalize φ a.1 = x; generalize φ a.2 = y
    grind) (by
   dsimp only
   apply Rx.conv
   ·(with_reducible (repeat' (first | assumption | exact Vl.rw hp (by assumption) | exact Rw.lit _ (by decide) | exact Rw.nlit _ (by decide) | apply Vl.rest H hp | apply Vl.smod H hp | apply Vl.div H hf | apply Vl.inv H hf | apply Vl.sinvV H hf | apply Vl.sinvR H hf | apply Rw.tmod H hp | apply Rw.mul H | apply Rw.neg0 H | apply Rw.sub H | apply Rw.add H | apply Vl.rw hp | decide)))
   ·try simp only [H.two]
    clear hM hS hs v00 v10 w10 v01 w01 v11 a1 a2 l0 l1 l2 vh m0 m1 m2 hm hlead hne
    have hh : (2 : K) * (2 : K)⁻¹ = 1 := Lean.Grind.Field.mul_inv_cancel h2
    have hi : (φ l.1 * φ l.1 + φ l.2.1 * φ l.2.1) * ((φ l.1 * φ l.1 + φ l.2.1 * φ l.2.1))⁻¹ = 1 := Lean.Grind.Field.mul_inv_cancel hnn
    generalize (2 : K)⁻¹ = half at hh ⊢
    generalize ((φ l.1 * φ l.1 + φ l.2.1 * φ l.2.1))⁻¹ = inv at hi ⊢
    clear hnn
    generalize φ l.1 = u at hi ⊢; generalize φ l.2.1 = v at hi ⊢; generalize φ l.2.2 = w; generalize φ a.1 = x; generalize φ a.2 = y
    grind) (by
   dsimp only
   apply Rx.conv
   ·(with_reducible (repeat' (first | assumption | exact Vl.rw hp (by assumption) | exact Rw.lit _ (by decide) | exact Rw.nlit _ (by decide) | apply Vl.rest H hp | apply Vl.smod H hp | apply Vl.div H hf | apply Vl.inv H hf | apply Vl.sinvV H hf | apply Vl.sinvR H hf | apply Rw.tmod H hp | apply Rw.mul H | apply Rw.neg0 H | apply Rw.sub H | apply Rw.add H | apply Vl.rw hp | decide)))
   ·try simp only [H.two]
    clear hM hS hs v00 v10 w10 v01 w01 v11 a1 a2 l0 l1 l2 vh m0 m1 m2 hm hlead hne
    have hh : (2 : K) * (2 : K)⁻¹ = 1 := Lean.Grind.Field.mul_inv_cancel h2
    have hi : (φ l.1 * φ l.1 + φ l.2.1 * φ l.2.1) * ((φ l.1 * φ l.1 + φ l.2.1 * φ l.2.1))⁻¹ = 1 := Lean.Grind.Field.mul_inv_cancel hnn
    generalize (2 : K)⁻¹ = half at hh ⊢
    generalize ((φ l.1 * φ l.1 + φ l.2.1 * φ l.2.1))⁻¹ = inv at hi ⊢
    clear hnn
    generalize φ l.1 = u at hi ⊢; generalize φ l.2.1 = v at hi ⊢; generalize φ l.2.2 = w; generalize φ a.1 = x; generalize φ a.2 = y
    grind) (by
  have hi : (φ l.1 * φ l.1 + φ l.2.1 * φ l.2.1)⁻¹ ≠ 0 := by grind
  clear hM hS hs v00 v10 w10 v01 w01 v11 a1 a2 l0 l1 l2 vh m0 m1 m2 hm hne
  grind)
 rw [hi.1]
 simp only [Bool.not_true, Bool.false_eq_true, if_false]
 have e := Cc.inj H (Cc.scale (φ l.1 * φ l.1 + φ l.2.1 * φ l.2.1)⁻¹ (by grind) rfl rfl rfl rfl rfl rfl hi.2) hs
 rw [e]
set_option maxHeartbeats 4000000 in
theorem Zs0 {p : Int} (hf : Zo p = true) {a : P2} {l : P3} (ha : ZI p a = true) (hl : Z0S p l = true) (hn : Z0T p 1 l = false) : ZP p 1 a l = Z00 p 1 a l := by
 have hp := Zx hf
 have hcc : Z0P 1 = true := rfl
 have h0 : Zt p true true = 0 := by simp [Zt, hf]
 have hn' : ZL p 1 l l = false := hn
 obtain ⟨K, inst, φ, H⟩ := ZdH hf
 have h2 := H.two_ne hf
 have v00 := Z2V H hf isC1 ha hl hn 0 0 (Rw.lit 0 (by decide)) (Rw.lit 0 (by decide))
 have v10 := Z2V H hf isC1 ha hl hn 1 0 (Rw.lit 1 (by decide)) (Rw.lit 0 (by decide))
 have w10 := Z2V H hf isC1 ha hl hn (-1) 0 (Rw.nlit 1 (by decide)) (Rw.lit 0 (by decide))
 have v01 := Z2V H hf isC1 ha hl hn 0 1 (Rw.lit 0 (by decide)) (Rw.lit 1 (by decide))
 have w01 := Z2V H hf isC1 ha hl hn 0 (-1) (Rw.lit 0 (by decide)) (Rw.nlit 1 (by decide))
 have v11 := Z2V H hf isC1 ha hl hn 1 1 (Rw.lit 1 (by decide)) (Rw.lit 1 (by decide))
 simp only [H.neg, H.zero, H.one] at v00 v10 w10 v01 w01 v11
 have a1 := Vl.of (φ := φ) (Z0d ha).1; have a2 := Vl.of (φ := φ) (Z0d ha).2
 obtain ⟨⟨m0, m1, m2⟩, hm⟩ := Z50 hl
 have l0 := Vl.of (φ := φ) m0; have l1 := Vl.of (φ := φ) m1; have l2 := Vl.of (φ := φ) m2
 have hne : φ l.1 ≠ 0 \/ φ l.2.1 ≠ 0 := by
  have h1 := H.one_ne
  rcases hm with e | ⟨_, e⟩
  ·rw [e, H.one]; exact Or.inl h1
  ·rw [e, H.one]; exact Or.inr h1
 have hnn : nK 1 (φ l.1) (φ l.2.1) ≠ 0 := by
  intro h
  have hq := (Z6I H hf isC1 l0 l1 l0 l1).2 ((Zax isC1 _ _).2 h)
  have : Z0T p 1 l = true := hq
  rw [this] at hn
  cases hn
 have vh : Vl p φ (ZA p 2) (2 : K)⁻¹ := by
  have hm3 := Z7o hf
  have := Vl.inv H hf (Vl.of (φ := φ) (x := 2) (p := p) ⟨by decide, by simp at hm3; omega⟩)
  rwa [H.two] at this
 unfold ZP Z00 Z0x
 rw [bothcode p true, hcc, ha, hl, hn, Z5K, hcc, hn']
 simp only [if_true, h0, bne_self_eq_false, Bool.false_eq_true, if_false, BEq.rfl, Bool.not_true]
 generalize hM : Z02 p (_, _, _, _, _, _) = M
 simp only [nK, Z4y, if_true, if_false, reduceIte, Int.reduceEq, Int.reduceBEq, Bool.false_eq_true] at v00 v10 w10 v01 w01 v11 hnn ⊢
 generalize hS : ZO p 6 [_, _, _, _, _, _] = S
 have hlead : ((φ l.1 * φ l.1 - φ l.2.1 * φ l.2.1) - (φ l.1) * (φ l.1)) ≠ 0 \/ (-(2 * (φ l.1) * (φ l.2.1))) ≠ 0 \/ (-(φ l.1 * φ l.1 - φ l.2.1 * φ l.2.1) - (φ l.2.1) * (φ l.2.1)) ≠ 0 := by
  clear hM hS v00 v10 w10 v01 w01 v11 a1 a2 l0 l1 l2 vh m0 m1 m2 hm
  generalize φ l.1 = u at hnn hne ⊢; generalize φ l.2.1 = v at hnn hne ⊢
  grind
 have hs : Cc p φ S.1 ((φ l.1 * φ l.1 - φ l.2.1 * φ l.2.1) - (φ l.1) * (φ l.1)) (-(2 * (φ l.1) * (φ l.2.1))) (-(φ l.1 * φ l.1 - φ l.2.1 * φ l.2.1) - (φ l.2.1) * (φ l.2.1)) (-(2 * (φ l.1 * φ l.1 - φ l.2.1 * φ l.2.1) * (φ a.1)) - 2 * (φ l.1) * (φ l.2.2)) (2 * (φ l.1 * φ l.1 - φ l.2.1 * φ l.2.1) * (φ a.2) - 2 * (φ l.2.1) * (φ l.2.2)) ((φ l.1 * φ l.1 - φ l.2.1 * φ l.2.1) * ((φ a.1) * (φ a.1) - (φ a.2) * (φ a.2)) - (φ l.2.2) * (φ l.2.2)) := by
  rw [<- hS]
  refine (Zan H hf (by
   apply Rx.conv
   ·(with_reducible (repeat' (first | assumption | exact Vl.rw hp (by assumption) | exact Rw.lit _ (by decide) | exact Rw.nlit _ (by decide) | apply Vl.rest H hp | apply Vl.smod H hp | apply Vl.div H hf | apply Vl.inv H hf | apply Vl.sinvV H hf | apply Vl.sinvR H hf | apply Rw.tmod H hp | apply Rw.mul H | apply Rw.neg0 H | apply Rw.sub H | apply Rw.add H | apply Vl.rw hp | decide)))
   ·clear hM hS v00 v10 w10 v01 w01 v11 a1 a2 l0 l1 l2 vh m0 m1 m2 hm hlead hnn hne
    (try simp only [H.two, H.neg, H.zero, H.one]) <;> grind) (by
   apply Rx.conv
   ·(with_reducible (repeat' (first | assumption | exact Vl.rw hp (by assumption) | exact Rw.lit _ (by decide) | exact Rw.nlit _ (by decide) | apply Vl.rest H hp | apply Vl.smod H hp | apply Vl.div H hf | apply Vl.inv H hf | apply Vl.sinvV H hf | apply Vl.sinvR H hf | apply Rw.tmod H hp | apply Rw.mul H | apply Rw.neg0 H | apply Rw.sub H | apply Rw.add H | apply Vl.rw hp | decide)))
   ·clear hM hS v00 v10 w10 v01 w01 v11 a1 a2 l0 l1 l2 vh m0 m1 m2 hm hlead hnn hne
    (try simp only [H.two, H.neg, H.zero, H.one]) <;> grind) (by
   apply Rx.conv
   ·(with_reducible (repeat' (first | assumption | exact Vl.rw hp (by assumption) | exact Rw.lit _ (by decide) | exact Rw.nlit _ (by decide) | apply Vl.rest H hp | apply Vl.smod H hp | apply Vl.div H hf | apply Vl.inv H hf | apply Vl.sinvV H hf | apply Vl.sinvR H hf | apply Rw.tmod H hp | apply Rw.mul H | apply Rw.neg0 H | apply Rw.sub H | apply Rw.add H | apply Vl.rw hp | decide)))
   ·clear hM hS v00 v10 w10 v01 w01 v11 a1 a2 l0 l1 l2 vh m0 m1 m2 hm hlead hnn hne
    (try simp only [H.two, H.neg, H.zero, H.one]) <;> grind) (by
   apply Rx.conv
   ·(with_reducible (repeat' (first | assumption | exact Vl.rw hp (by assumption) | exact Rw.lit _ (by decide) | exact Rw.nlit _ (by decide) | apply Vl.rest H hp | apply Vl.smod H hp | apply Vl.div H hf | apply Vl.inv H hf | apply Vl.sinvV H hf | apply Vl.sinvR H hf | apply Rw.tmod H hp | apply Rw.mul H | apply Rw.neg0 H | apply Rw.sub H | apply Rw.add H | apply Vl.rw hp | decide)))
   ·clear hM hS v00 v10 w10 v01 w01 v11 a1 a2 l0 l1 l2 vh m0 m1 m2 hm hlead hnn hne
    (try simp only [H.two, H.neg, H.zero, H.one]) <;> grind) (by
   apply Rx.conv
   ·(with_reducible (repeat' (first | assumption | exact Vl.rw hp (by assumption) | exact Rw.lit _ (by decide) | exact Rw.nlit _ (by decide) | apply Vl.rest H hp | apply Vl.smod H hp | apply Vl.div H hf | apply Vl.inv H hf | apply Vl.sinvV H hf | apply Vl.sinvR H hf | apply Rw.tmod H hp | apply Rw.mul H | apply Rw.neg0 H | apply Rw.sub H | apply Rw.add H | apply Vl.rw hp | decide)))
   ·clear hM hS v00 v10 w10 v01 w01 v11 a1 a2 l0 l1 l2 vh m0 m1 m2 hm hlead hnn hne
    (try simp only [H.two, H.neg, H.zero, H.one]) <;> grind) (by
   apply Rx.conv
   ·(with_reducible (repeat' (first | assumption | exact Vl.rw hp (by assumption) | exact Rw.lit _ (by decide) | exact Rw.nlit _ (by decide) | apply Vl.rest H hp | apply Vl.smod H hp | apply Vl.div H hf | apply Vl.inv H hf | apply Vl.sinvV H hf | apply Vl.sinvR H hf | apply Rw.tmod H hp | apply Rw.mul H | apply Rw.neg0 H | apply Rw.sub H | apply Rw.add H | apply Vl.rw hp | decide)))
   ·clear hM hS v00 v10 w10 v01 w01 v11 a1 a2 l0 l1 l2 vh m0 m1 m2 hm hlead hnn hne
    (try simp only [H.two, H.neg, H.zero, H.one]) <;> grind) hlead).2
 have hi : M.2 = true /\ Cc p φ M.1 ((φ l.1 * φ l.1 - φ l.2.1 * φ l.2.1)⁻¹ * ((φ l.1 * φ l.1 - φ l.2.1 * φ l.2.1) - (φ l.1) * (φ l.1))) ((φ l.1 * φ l.1 - φ l.2.1 * φ l.2.1)⁻¹ * (-(2 * (φ l.1) * (φ l.2.1)))) ((φ l.1 * φ l.1 - φ l.2.1 * φ l.2.1)⁻¹ * (-(φ l.1 * φ l.1 - φ l.2.1 * φ l.2.1) - (φ l.2.1) * (φ l.2.1))) ((φ l.1 * φ l.1 - φ l.2.1 * φ l.2.1)⁻¹ * (-(2 * (φ l.1 * φ l.1 - φ l.2.1 * φ l.2.1) * (φ a.1)) - 2 * (φ l.1) * (φ l.2.2))) ((φ l.1 * φ l.1 - φ l.2.1 * φ l.2.1)⁻¹ * (2 * (φ l.1 * φ l.1 - φ l.2.1 * φ l.2.1) * (φ a.2) - 2 * (φ l.2.1) * (φ l.2.2))) ((φ l.1 * φ l.1 - φ l.2.1 * φ l.2.1)⁻¹ * ((φ l.1 * φ l.1 - φ l.2.1 * φ l.2.1) * ((φ a.1) * (φ a.1) - (φ a.2) * (φ a.2)) - (φ l.2.2) * (φ l.2.2))) := by
  rw [<- hM]
  refine Zei H hf (by
   dsimp only
   apply Rx.conv
   ·(with_reducible (repeat' (first | assumption | exact Vl.rw hp (by assumption) | exact Rw.lit _ (by decide) | exact Rw.nlit _ (by decide) | apply Vl.rest H hp | apply Vl.smod H hp | apply Vl.div H hf | apply Vl.inv H hf | apply Vl.sinvV H hf | apply Vl.sinvR H hf | apply Rw.tmod H hp | apply Rw.mul H | apply Rw.neg0 H | apply Rw.sub H | apply Rw.add H | apply Vl.rw hp | decide)))
   ·try simp only [H.two]
    clear hM hS hs v00 v10 w10 v01 w01 v11 a1 a2 l0 l1 l2 vh m0 m1 m2 hm hlead hne
    have hh : (2 : K) * (2 : K)⁻¹ = 1 := Lean.Grind.Field.mul_inv_cancel h2
    have hi : (φ l.1 * φ l.1 - φ l.2.1 * φ l.2.1) * ((φ l.1 * φ l.1 - φ l.2.1 * φ l.2.1))⁻¹ = 1 := Lean.Grind.Field.mul_inv_cancel hnn
    generalize (2 : K)⁻¹ = half at hh ⊢
    generalize ((φ l.1 * φ l.1 - φ l.2.1 * φ l.2.1))⁻¹ = inv at hi ⊢
    clear hnn
    generalize φ l.1 = u at hi ⊢; generalize φ l.2.1 = v at hi ⊢; generalize φ l.2.2 = w; generalize φ a.1 = x; generalize φ a.2 = y
    grind) (by
   dsimp only
   apply Rx.conv
   ·(with_reducible (repeat' (first | assumption | exact Vl.rw hp (by assumption) | exact Rw.lit _ (by decide) | exact Rw.nlit _ (by decide) | apply Vl.rest H hp | apply Vl.smod H hp | apply Vl.div H hf | apply Vl.inv H hf | apply Vl.sinvV H hf | apply Vl.sinvR H hf | apply Rw.tmod H hp | apply Rw.mul H | apply Rw.neg0 H | apply Rw.sub H | apply Rw.add H | apply Vl.rw hp | decide)))
   ·try simp only [H.two]
    clear hM hS hs v00 v10 w10 v01 w01 v11 a1 a2 l0 l1 l2 vh m0 m1 m2 hm hlead hne
    have hh : (2 : K) * (2 : K)⁻¹ = 1 := Lean.Grind.Field.mul_inv_cancel h2
    have hi : (φ l.1 * φ l.1 - φ l.2.1 * φ l.2.1) * ((φ l.1 * φ l.1 - φ l.2.1 * φ l.2.1))⁻¹ = 1 := Lean.Grind.Field.mul_inv_cancel hnn
    generalize (2 : K)⁻¹ = half at hh ⊢
    generalize ((φ l.1 * φ l.1 - φ l.2.1 * φ l.2.1))⁻¹ = inv at hi ⊢
    clear hnn
    generalize φ l.1 = u at hi ⊢; generalize φ l.2.1 = v at hi ⊢; generalize φ l.2.2 = w; generalize φ a.1 = x; generalize φ a.2 = y
    grind) (by
   dsimp only
   apply Rx.conv
   ·(with_reducible (repeat' (first | assumption | exact Vl.rw hp (by assumption) | exact Rw.lit _ (by decide) | exact Rw.nlit _ (by decide) | apply Vl.rest H hp | apply Vl.smod H hp | apply Vl.div H hf | apply Vl.inv H hf | apply Vl.sinvV H hf | apply Vl.sinvR H hf | apply Rw.tmod H hp | apply Rw.mul H | apply Rw.neg0 H | apply Rw.sub H | apply Rw.add H | apply Vl.rw hp | decide)))
   ·try simp only [H.two]
    clear hM hS hs v00 v10 w10 v01 w01 v11 a1 a2 l0 l1 l2 vh m0 m1 m2 hm hlead hne
    have hh : (2 : K) * (2 : K)⁻¹ = 1 := Lean.Grind.Field.mul_inv_cancel h2
    have hi : (φ l.1 * φ l.1 - φ l.2.1 * φ l.2.1) * ((φ l.1 * φ l.1 - φ l.2.1 * φ l.2.1))⁻¹ = 1 := Lean.Grind.Field.mul_inv_cancel hnn
    generalize (2 : K)⁻¹ = half at hh ⊢
    generalize ((φ l.1 * φ l.1 - φ l.2.1 * φ l.2.1))⁻¹ = inv at hi ⊢
    clear hnn
    generalize φ l.1 = u at hi ⊢; generalize φ l.2.1 = v at hi ⊢; generalize φ l.2.2 = w; generalize φ a.1 = x; generalize φ a.2 = y
    grind) (by
   dsimp only
   apply Rx.conv
   ·(with_reducible (repeat' (first | assumption | exact Vl.rw hp (by assumption) | exact Rw.lit _ (by decide) | exact Rw.nlit _ (by decide) | apply Vl.rest H hp | apply Vl.smod H hp | apply Vl.div H hf | apply Vl.inv H hf | apply Vl.sinvV H hf | apply Vl.sinvR H hf | apply Rw.tmod H hp | apply Rw.mul H | apply Rw.neg0 H | apply Rw.sub H | apply Rw.add H | apply Vl.rw hp | decide)))
   ·try simp only [H.two]
    clear hM hS hs v00 v10 w10 v01 w01 v11 a1 a2 l0 l1 l2 vh m0 m1 m2 hm hlead hne
    have hh : (2 : K) * (2 : K)⁻¹ = 1 := Lean.Grind.Field.mul_inv_cancel h2
    have hi : (φ l.1 * φ l.1 - φ l.2.1 * φ l.2.1) * ((φ l.1 * φ l.1 - φ l.2.1 * φ l.2.1))⁻¹ = 1 := Lean.Grind.Field.mul_inv_cancel hnn
    generalize (2 : K)⁻¹ = half at hh ⊢
    generalize ((φ l.1 * φ l.1 - φ l.2.1 * φ l.2.1))⁻¹ = inv at hi ⊢
    clear hnn
    generalize φ l.1 = u at hi ⊢; generalize φ l.2.1 = v at hi ⊢; generalize φ l.2.2 = w; generalize φ a.1 = x; generalize φ a.2 = y
    grind) (by
   dsimp only
   apply Rx.conv
   ·(with_reducible (repeat' (first | assumption | exact Vl.rw hp (by assumption) | exact Rw.lit _ (by decide) | exact Rw.nlit _ (by decide) | apply Vl.rest H hp | apply Vl.smod H hp | apply Vl.div H hf | apply Vl.inv H hf | apply Vl.sinvV H hf | apply Vl.sinvR H hf | apply Rw.tmod H hp | apply Rw.mul H | apply Rw.neg0 H | apply Rw.sub H | apply Rw.add H | apply Vl.rw hp | decide)))
   ·try simp only [H.two]
    clear hM hS hs v00 v10 w10 v01 w01 v11 a1 a2 l0 l1 l2 vh m0 m1 m2 hm hlead hne
    have hh : (2 : K) * (2 : K)⁻¹ = 1 := Lean.Grind.Field.mul_inv_cancel h2
    have hi : (φ l.1 * φ l.1 - φ l.2.1 * φ l.2.1) * ((φ l.1 * φ l.1 - φ l.2.1 * φ l.2.1))⁻¹ = 1 := Lean.Grind.Field.mul_inv_cancel hnn
    generalize (2 : K)⁻¹ = half at hh ⊢
    generalize ((φ l.1 * φ l.1 - φ l.2.1 * φ l.2.1))⁻¹ = inv at hi ⊢
    clear hnn
    generalize φ l.1 = u at hi ⊢; generalize φ l.2.1 = v at hi ⊢; generalize φ l.2.2 = w; generalize φ a.1 = x; generalize φ a.2 = y
    grind) (by
   dsimp only
   apply Rx.conv
   ·(with_reducible (repeat' (first | assumption | exact Vl.rw hp (by assumption) | exact Rw.lit _ (by decide) | exact Rw.nlit _ (by decide) | apply Vl.rest H hp | apply Vl.smod H hp | apply Vl.div H hf | apply Vl.inv H hf | apply Vl.sinvV H hf | apply Vl.sinvR H hf | apply Rw.tmod H hp | apply Rw.mul H | apply Rw.neg0 H | apply Rw.sub H | apply Rw.add H | apply Vl.rw hp | decide)))
   ·try simp only [H.two]
    clear hM hS hs v00 v10 w10 v01 w01 v11 a1 a2 l0 l1 l2 vh m0 m1 m2 hm hlead hne
    have hh : (2 : K) * (2 : K)⁻¹ = 1 := Lean.Grind.Field.mul_inv_cancel h2
    have hi : (φ l.1 * φ l.1 - φ l.2.1 * φ l.2.1) * ((φ l.1 * φ l.1 - φ l.2.1 * φ l.2.1))⁻¹ = 1 := Lean.Grind.Field.mul_inv_cancel hnn
    generalize (2 : K)⁻¹ = half at hh ⊢
    generalize ((φ l.1 * φ l.1 - φ l.2.1 * φ l.2.1))⁻¹ = inv at hi ⊢
    clear hnn
    generalize φ l.1 = u at hi ⊢; generalize φ l.2.1 = v at hi ⊢; generalize φ l.2.2 = w; generalize φ a.1 = x; generalize φ a.2 = y
    grind) (by
  have hi : (φ l.1 * φ l.1 - φ l.2.1 * φ l.2.1)⁻¹ ≠ 0 := by grind
  clear hM hS hs v00 v10 w10 v01 w01 v11 a1 a2 l0 l1 l2 vh m0 m1 m2 hm hne
  grind)
 rw [hi.1]
 simp only [Bool.not_true, Bool.false_eq_true, if_false]
 have e := Cc.inj H (Cc.scale (φ l.1 * φ l.1 - φ l.2.1 * φ l.2.1)⁻¹ (by grind) rfl rfl rfl rfl rfl rfl hi.2) hs
 rw [e]
set_option maxHeartbeats 4000000 in
theorem Zs1 {p : Int} (hf : Zo p = true) {a : P2} {l : P3} (ha : ZI p a = true) (hl : Z0S p l = true) (hn : Z0T p 2 l = false) : ZP p 2 a l = Z00 p 2 a l := by
 have hp := Zx hf
 have hcc : Z0P 2 = true := rfl
 have h0 : Zt p true true = 0 := by simp [Zt, hf]
 have hn' : ZL p 2 l l = false := hn
 obtain ⟨K, inst, φ, H⟩ := ZdH hf
 have h2 := H.two_ne hf
 have v00 := Z2V H hf isC2 ha hl hn 0 0 (Rw.lit 0 (by decide)) (Rw.lit 0 (by decide))
 have v10 := Z2V H hf isC2 ha hl hn 1 0 (Rw.lit 1 (by decide)) (Rw.lit 0 (by decide))
 have w10 := Z2V H hf isC2 ha hl hn (-1) 0 (Rw.nlit 1 (by decide)) (Rw.lit 0 (by decide))
 have v01 := Z2V H hf isC2 ha hl hn 0 1 (Rw.lit 0 (by decide)) (Rw.lit 1 (by decide))
 have w01 := Z2V H hf isC2 ha hl hn 0 (-1) (Rw.lit 0 (by decide)) (Rw.nlit 1 (by decide))
 have v11 := Z2V H hf isC2 ha hl hn 1 1 (Rw.lit 1 (by decide)) (Rw.lit 1 (by decide))
 simp only [H.neg, H.zero, H.one] at v00 v10 w10 v01 w01 v11
 have a1 := Vl.of (φ := φ) (Z0d ha).1; have a2 := Vl.of (φ := φ) (Z0d ha).2
 obtain ⟨⟨m0, m1, m2⟩, hm⟩ := Z50 hl
 have l0 := Vl.of (φ := φ) m0; have l1 := Vl.of (φ := φ) m1; have l2 := Vl.of (φ := φ) m2
 have hne : φ l.1 ≠ 0 \/ φ l.2.1 ≠ 0 := by
  have h1 := H.one_ne
  rcases hm with e | ⟨_, e⟩
  ·rw [e, H.one]; exact Or.inl h1
  ·rw [e, H.one]; exact Or.inr h1
 have hnn : nK 2 (φ l.1) (φ l.2.1) ≠ 0 := by
  intro h
  have hq := (Z6I H hf isC2 l0 l1 l0 l1).2 ((Zax isC2 _ _).2 h)
  have : Z0T p 2 l = true := hq
  rw [this] at hn
  cases hn
 have vh : Vl p φ (ZA p 2) (2 : K)⁻¹ := by
  have hm3 := Z7o hf
  have := Vl.inv H hf (Vl.of (φ := φ) (x := 2) (p := p) ⟨by decide, by simp at hm3; omega⟩)
  rwa [H.two] at this
 unfold ZP Z00 Z0x
 rw [bothcode p true, hcc, ha, hl, hn, Z5K, hcc, hn']
 simp only [if_true, h0, bne_self_eq_false, Bool.false_eq_true, if_false, BEq.rfl, Bool.not_true]
 generalize hM : Z02 p (_, _, _, _, _, _) = M
 simp only [nK, Z4y, if_true, if_false, reduceIte, Int.reduceEq, Int.reduceBEq, Bool.false_eq_true] at v00 v10 w10 v01 w01 v11 hnn ⊢
 generalize hS : ZO p 6 [_, _, _, _, _, _] = S
 have hlead : (-((φ l.1) * (φ l.1))) ≠ 0 \/ (2 * (2 * φ l.1 * φ l.2.1) - 2 * (φ l.1) * (φ l.2.1)) ≠ 0 \/ (-((φ l.2.1) * (φ l.2.1))) ≠ 0 := by
  clear hM hS v00 v10 w10 v01 w01 v11 a1 a2 l0 l1 l2 vh m0 m1 m2 hm
  generalize φ l.1 = u at hnn hne ⊢; generalize φ l.2.1 = v at hnn hne ⊢
  grind
 have hs : Cc p φ S.1 (-((φ l.1) * (φ l.1))) (2 * (2 * φ l.1 * φ l.2.1) - 2 * (φ l.1) * (φ l.2.1)) (-((φ l.2.1) * (φ l.2.1))) (-(2 * (2 * φ l.1 * φ l.2.1) * (φ a.2)) - 2 * (φ l.1) * (φ l.2.2)) (-(2 * (2 * φ l.1 * φ l.2.1) * (φ a.1)) - 2 * (φ l.2.1) * (φ l.2.2)) (2 * (2 * φ l.1 * φ l.2.1) * (φ a.1) * (φ a.2) - (φ l.2.2) * (φ l.2.2)) := by
  rw [<- hS]
  refine (Zan H hf (by
   apply Rx.conv
   ·(with_reducible (repeat' (first | assumption | exact Vl.rw hp (by assumption) | exact Rw.lit _ (by decide) | exact Rw.nlit _ (by decide) | apply Vl.rest H hp | apply Vl.smod H hp | apply Vl.div H hf | apply Vl.inv H hf | apply Vl.sinvV H hf | apply Vl.sinvR H hf | apply Rw.tmod H hp | apply Rw.mul H | apply Rw.neg0 H | apply Rw.sub H | apply Rw.add H | apply Vl.rw hp | decide)))
   ·clear hM hS v00 v10 w10 v01 w01 v11 a1 a2 l0 l1 l2 vh m0 m1 m2 hm hlead hnn hne
    (try simp only [H.two, H.neg, H.zero, H.one]) <;> grind) (by
   apply Rx.conv
   ·(with_reducible (repeat' (first | assumption | exact Vl.rw hp (by assumption) | exact Rw.lit _ (by decide) | exact Rw.nlit _ (by decide) | apply Vl.rest H hp | apply Vl.smod H hp | apply Vl.div H hf | apply Vl.inv H hf | apply Vl.sinvV H hf | apply Vl.sinvR H hf | apply Rw.tmod H hp | apply Rw.mul H | apply Rw.neg0 H | apply Rw.sub H | apply Rw.add H | apply Vl.rw hp | decide)))
   ·clear hM hS v00 v10 w10 v01 w01 v11 a1 a2 l0 l1 l2 vh m0 m1 m2 hm hlead hnn hne
    (try simp only [H.two, H.neg, H.zero, H.one]) <;> grind) (by
   apply Rx.conv
   ·(with_reducible (repeat' (first | assumption | exact Vl.rw hp (by assumption) | exact Rw.lit _ (by decide) | exact Rw.nlit _ (by decide) | apply Vl.rest H hp | apply Vl.smod H hp | apply Vl.div H hf | apply Vl.inv H hf | apply Vl.sinvV H hf | apply Vl.sinvR H hf | apply Rw.tmod H hp | apply Rw.mul H | apply Rw.neg0 H | apply Rw.sub H | apply Rw.add H | apply Vl.rw hp | decide)))
   ·clear hM hS v00 v10 w10 v01 w01 v11 a1 a2 l0 l1 l2 vh m0 m1 m2 hm hlead hnn hne
    (try simp only [H.two, H.neg, H.zero, H.one]) <;> grind) (by
   apply Rx.conv
   ·(with_reducible (repeat' (first | assumption | exact Vl.rw hp (by assumption) | exact Rw.lit _ (by decide) | exact Rw.nlit _ (by decide) | apply Vl.rest H hp | apply Vl.smod H hp | apply Vl.div H hf | apply Vl.inv H hf | apply Vl.sinvV H hf | apply Vl.sinvR H hf | apply Rw.tmod H hp | apply Rw.mul H | apply Rw.neg0 H | apply Rw.sub H | apply Rw.add H | apply Vl.rw hp | decide)))
   ·clear hM hS v00 v10 w10 v01 w01 v11 a1 a2 l0 l1 l2 vh m0 m1 m2 hm hlead hnn hne
    (try simp only [H.two, H.neg, H.zero, H.one]) <;> grind) (by
   apply Rx.conv
   ·(with_reducible (repeat' (first | assumption | exact Vl.rw hp (by assumption) | exact Rw.lit _ (by decide) | exact Rw.nlit _ (by decide) | apply Vl.rest H hp | apply Vl.smod H hp | apply Vl.div H hf | apply Vl.inv H hf | apply Vl.sinvV H hf | apply Vl.sinvR H hf | apply Rw.tmod H hp | apply Rw.mul H | apply Rw.neg0 H | apply Rw.sub H | apply Rw.add H | apply Vl.rw hp | decide)))
   ·clear hM hS v00 v10 w10 v01 w01 v11 a1 a2 l0 l1 l2 vh m0 m1 m2 hm hlead hnn hne
    (try simp only [H.two, H.neg, H.zero, H.one]) <;> grind) (by
   apply Rx.conv
   ·(with_reducible (repeat' (first | assumption | exact Vl.rw hp (by assumption) | exact Rw.lit _ (by decide) | exact Rw.nlit _ (by decide) | apply Vl.rest H hp | apply Vl.smod H hp | apply Vl.div H hf | apply Vl.inv H hf | apply Vl.sinvV H hf | apply Vl.sinvR H hf | apply Rw.tmod H hp | apply Rw.mul H | apply Rw.neg0 H | apply Rw.sub H | apply Rw.add H | apply Vl.rw hp | decide)))
   ·clear hM hS v00 v10 w10 v01 w01 v11 a1 a2 l0 l1 l2 vh m0 m1 m2 hm hlead hnn hne
    (try simp only [H.two, H.neg, H.zero, H.one]) <;> grind) hlead).2
 have hi : M.2 = true /\ Cc p φ M.1 ((2 * φ l.1 * φ l.2.1)⁻¹ * (-((φ l.1) * (φ l.1)))) ((2 * φ l.1 * φ l.2.1)⁻¹ * (2 * (2 * φ l.1 * φ l.2.1) - 2 * (φ l.1) * (φ l.2.1))) ((2 * φ l.1 * φ l.2.1)⁻¹ * (-((φ l.2.1) * (φ l.2.1)))) ((2 * φ l.1 * φ l.2.1)⁻¹ * (-(2 * (2 * φ l.1 * φ l.2.1) * (φ a.2)) - 2 * (φ l.1) * (φ l.2.2))) ((2 * φ l.1 * φ l.2.1)⁻¹ * (-(2 * (2 * φ l.1 * φ l.2.1) * (φ a.1)) - 2 * (φ l.2.1) * (φ l.2.2))) ((2 * φ l.1 * φ l.2.1)⁻¹ * (2 * (2 * φ l.1 * φ l.2.1) * (φ a.1) * (φ a.2) - (φ l.2.2) * (φ l.2.2))) := by
  rw [<- hM]
  refine Zei H hf (by
   dsimp only
   apply Rx.conv
   ·(with_reducible (repeat' (first | assumption | exact Vl.rw hp (by assumption) | exact Rw.lit _ (by decide) | exact Rw.nlit _ (by decide) | apply Vl.rest H hp | apply Vl.smod H hp | apply Vl.div H hf | apply Vl.inv H hf | apply Vl.sinvV H hf | apply Vl.sinvR H hf | apply Rw.tmod H hp | apply Rw.mul H | apply Rw.neg0 H | apply Rw.sub H | apply Rw.add H | apply Vl.rw hp | decide)))
   ·try simp only [H.two]
    clear hM hS hs v00 v10 w10 v01 w01 v11 a1 a2 l0 l1 l2 vh m0 m1 m2 hm hlead hne
    have hh : (2 : K) * (2 : K)⁻¹ = 1 := Lean.Grind.Field.mul_inv_cancel h2
    have hi : (2 * φ l.1 * φ l.2.1) * ((2 * φ l.1 * φ l.2.1))⁻¹ = 1 := Lean.Grind.Field.mul_inv_cancel hnn
    generalize (2 : K)⁻¹ = half at hh ⊢
    generalize ((2 * φ l.1 * φ l.2.1))⁻¹ = inv at hi ⊢
    clear hnn
    generalize φ l.1 = u at hi ⊢; generalize φ l.2.1 = v at hi ⊢; generalize φ l.2.2 = w; generalize φ a.1 = x; generalize φ a.2 = y
    grind) (by
   dsimp only
   apply Rx.conv
   ·(with_reducible (repeat' (first | assumption | exact Vl.rw hp (by assumption) | exact Rw.lit _ (by decide) | exact Rw.nlit _ (by decide) | apply Vl.rest H hp | apply Vl.smod H hp | apply Vl.div H hf | apply Vl.inv H hf | apply Vl.sinvV H hf | apply Vl.sinvR H hf | apply Rw.tmod H hp | apply Rw.mul H | apply Rw.neg0 H | apply Rw.sub H | apply Rw.add H | apply Vl.rw hp | decide)))
   ·try simp only [H.two]
    clear hM hS hs v00 v10 w10 v01 w01 v11 a1 a2 l0 l1 l2 vh m0 m1 m2 hm hlead hne
    have hh : (2 : K) * (2 : K)⁻¹ = 1 := Lean.Grind.Field.mul_inv_cancel h2
    have hi : (2 * φ l.1 * φ l.2.1) * ((2 * φ l.1 * φ l.2.1))⁻¹ = 1 := Lean.Grind.Field.mul_inv_cancel hnn
    generalize (2 : K)⁻¹ = half at hh ⊢
    generalize ((2 * φ l.1 * φ l.2.1))⁻¹ = inv at hi ⊢
    clear hnn
    generalize φ l.1 = u at hi ⊢; generalize φ l.2.1 = v at hi ⊢; generalize φ l.2.2 = w; generalize φ a.1 = x; generalize φ a.2 = y
    grind) (by
   dsimp only
   apply Rx.conv
   ·(with_reducible (repeat' (first | assumption | exact Vl.rw hp (by assumption) | exact Rw.lit _ (by decide) | exact Rw.nlit _ (by decide) | apply Vl.rest H hp | apply Vl.smod H hp | apply Vl.div H hf | apply Vl.inv H hf | apply Vl.sinvV H hf | apply Vl.sinvR H hf | apply Rw.tmod H hp | apply Rw.mul H | apply Rw.neg0 H | apply Rw.sub H | apply Rw.add H | apply Vl.rw hp | decide)))
   ·try simp only [H.two]
    clear hM hS hs v00 v10 w10 v01 w01 v11 a1 a2 l0 l1 l2 vh m0 m1 m2 hm hlead hne
    have hh : (2 : K) * (2 : K)⁻¹ = 1 := Lean.Grind.Field.mul_inv_cancel h2
    have hi : (2 * φ l.1 * φ l.2.1) * ((2 * φ l.1 * φ l.2.1))⁻¹ = 1 := Lean.Grind.Field.mul_inv_cancel hnn
    generalize (2 : K)⁻¹ = half at hh ⊢
    generalize ((2 * φ l.1 * φ l.2.1))⁻¹ = inv at hi ⊢
    clear hnn
    generalize φ l.1 = u at hi ⊢; generalize φ l.2.1 = v at hi ⊢; generalize φ l.2.2 = w; generalize φ a.1 = x; generalize φ a.2 = y
    grind) (by
   dsimp only
   apply Rx.conv
   ·(with_reducible (repeat' (first | assumption | exact Vl.rw hp (by assumption) | exact Rw.lit _ (by decide) | exact Rw.nlit _ (by decide) | apply Vl.rest H hp | apply Vl.smod H hp | apply Vl.div H hf | apply Vl.inv H hf | apply Vl.sinvV H hf | apply Vl.sinvR H hf | apply Rw.tmod H hp | apply Rw.mul H | apply Rw.neg0 H | apply Rw.sub H | apply Rw.add H | apply Vl.rw hp | decide)))
   ·try simp only [H.two]
    clear hM hS hs v00 v10 w10 v01 w01 v11 a1 a2 l0 l1 l2 vh m0 m1 m2 hm hlead hne
    have hh : (2 : K) * (2 : K)⁻¹ = 1 := Lean.Grind.Field.mul_inv_cancel h2
    have hi : (2 * φ l.1 * φ l.2.1) * ((2 * φ l.1 * φ l.2.1))⁻¹ = 1 := Lean.Grind.Field.mul_inv_cancel hnn
    generalize (2 : K)⁻¹ = half at hh ⊢
    generalize ((2 * φ l.1 * φ l.2.1))⁻¹ = inv at hi ⊢
    clear hnn
    generalize φ l.1 = u at hi ⊢; generalize φ l.2.1 = v at hi ⊢; generalize φ l.2.2 = w; generalize φ a.1 = x; generalize φ a.2 = y
    grind) (by
   dsimp only
   apply Rx.conv
   ·(with_reducible (repeat' (first | assumption | exact Vl.rw hp (by assumption) | exact Rw.lit _ (by decide) | exact Rw.nlit _ (by decide) | apply Vl.rest H hp | apply Vl.smod H hp | apply Vl.div H hf | apply Vl.inv H hf | apply Vl.sinvV H hf | apply Vl.sinvR H hf | apply Rw.tmod H hp | apply Rw.mul H | apply Rw.neg0 H | apply Rw.sub H | apply Rw.add H | apply Vl.rw hp | decide)))
   ·try simp only [H.two]
    clear hM hS hs v00 v10 w10 v01 w01 v11 a1 a2 l0 l1 l2 vh m0 m1 m2 hm hlead hne
    have hh : (2 : K) * (2 : K)⁻¹ = 1 := Lean.Grind.Field.mul_inv_cancel h2
    have hi : (2 * φ l.1 * φ l.2.1) * ((2 * φ l.1 * φ l.2.1))⁻¹ = 1 := Lean.Grind.Field.mul_inv_cancel hnn
    generalize (2 : K)⁻¹ = half at hh ⊢
    generalize ((2 * φ l.1 * φ l.2.1))⁻¹ = inv at hi ⊢
    clear hnn
    generalize φ l.1 = u at hi ⊢; generalize φ l.2.1 = v at hi ⊢; generalize φ l.2.2 = w; generalize φ a.1 = x; generalize φ a.2 = y
    grind) (by
   dsimp only
   apply Rx.conv
   ·(with_reducible (repeat' (first | assumption | exact Vl.rw hp (by assumption) | exact Rw.lit _ (by decide) | exact Rw.nlit _ (by decide) | apply Vl.rest H hp | apply Vl.smod H hp | apply Vl.div H hf | apply Vl.inv H hf | apply Vl.sinvV H hf | apply Vl.sinvR H hf | apply Rw.tmod H hp | apply Rw.mul H | apply Rw.neg0 H | apply Rw.sub H | apply Rw.add H | apply Vl.rw hp | decide)))
   ·try simp only [H.two]
    clear hM hS hs v00 v10 w10 v01 w01 v11 a1 a2 l0 l1 l2 vh m0 m1 m2 hm hlead hne
    have hh : (2 : K) * (2 : K)⁻¹ = 1 := Lean.Grind.Field.mul_inv_cancel h2
    have hi : (2 * φ l.1 * φ l.2.1) * ((2 * φ l.1 * φ l.2.1))⁻¹ = 1 := Lean.Grind.Field.mul_inv_cancel hnn
    generalize (2 : K)⁻¹ = half at hh ⊢
    generalize ((2 * φ l.1 * φ l.2.1))⁻¹ = inv at hi ⊢
    clear hnn
    generalize φ l.1 = u at hi ⊢; generalize φ l.2.1 = v at hi ⊢; generalize φ l.2.2 = w; generalize φ a.1 = x; generalize φ a.2 = y
    grind) (by
  have hi : (2 * φ l.1 * φ l.2.1)⁻¹ ≠ 0 := by grind
  clear hM hS hs v00 v10 w10 v01 w01 v11 a1 a2 l0 l1 l2 vh m0 m1 m2 hm hne
  grind)
 rw [hi.1]
 simp only [Bool.not_true, Bool.false_eq_true, if_false]
 have e := Cc.inj H (Cc.scale (2 * φ l.1 * φ l.2.1)⁻¹ (by grind) rfl rfl rfl rfl rfl rfl hi.2) hs
 rw [e]
theorem ZmH {p : Int} (hf : Zo p = true) {c : Int} (hc : isC c) {a : P2} {l : P3} (ha : ZI p a = true) (hl : Z0S p l = true) (hn : Z0T p c l = false) : ZP p c a l = Z00 p c a l := by
 rcases hc with rfl | rfl | rfl
 ·exact ZrZ hf ha hl hn
 ·exact Zs0 hf ha hl hn
 ·exact Zs1 hf ha hl hn
theorem ZcC (p c : Int) (a : P2) (l : P3) : ZP p c a l = Z00 p c a l := by
 cases hf : Zo p
 ·unfold ZP Z00 Z0x
  rw [bothcode p true]
  simp [Zt, hf]
 ·cases hc : Z0P c
  ·unfold ZP Z00 Z0x
   rw [bothcode p true, Z5K, hc]
   cases ha : ZI p a <;> cases hl : Z0S p l <;> simp [Zt, hf]
  ·cases ha : ZI p a
   ·unfold ZP Z00 Z0x
    rw [bothcode p true, Z5K, hc, ha]
    simp [Zt, hf]
   ·cases hl : Z0S p l
    ·unfold ZP Z00 Z0x
     rw [bothcode p true, Z5K, hc, ha, hl]
     simp [Zt, hf]
    ·cases hn : Z0T p c l
     ·exact ZmH hf (Zv8 hc) ha hl hn
     ·unfold ZP Z00 Z0x
      have hn' : ZL p c l l = true := hn
      rw [bothcode p true, Z5K, hc, ha, hl, hn, hn']
      simp [Zt, hf]

end Go.Proofs.Ytfclaacaphpoaaa
