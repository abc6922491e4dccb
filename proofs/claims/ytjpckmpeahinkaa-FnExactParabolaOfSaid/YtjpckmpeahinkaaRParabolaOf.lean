/- Proved here: for every p, every colour, every point and every line the desk and the specification give the same parabola, with the same code of refusal. It holds for all arguments, without condition. -/
import Derived.Test.YtjpckmpeahinkaaSb
import Derived.Test.YtjpckmpeahinkaaJParabolaOf
import Derived.Test.YtjpckmpeahinkaaFParabolaOf
import Derived.Test.YtjpckmpeahinkaaQk
set_option linter.unusedSimpArgs false
set_option linter.unusedVariables false
namespace Go.Proofs.Ytjpckmpeahinkaa
open Go.RowKit Go.ChangeShapes Go.WideShapes Go.ChangeAt
set_option maxHeartbeats 4000000 in
theorem parabola_0 {p : Int} (hf : i_IsField p = true) {a : P2} {l : P3} (ha : i_isPoint p a = true) (hl : i_isLine p l = true) (hn : i_isNull p 0 l = false) : i_ParabolaOf p 0 a l = s_ParabolaOf p 0 a l := by
  have hp := i_IsField_ok hf
  have hcc : i_isColour 0 = true := rfl
  have h0 : i_asked p true true = 0 := by simp [i_asked, hf]
  have hn' : s_l02Perpendicular p 0 l l = false := hn
  obtain ⟨K, inst, φ, H⟩ := hom_of hf
  have h2 := H.two_ne hf
  have v00 := vl_value H hf isC0 ha hl hn 0 0 (Rw.lit 0 (by decide)) (Rw.lit 0 (by decide))
  have v10 := vl_value H hf isC0 ha hl hn 1 0 (Rw.lit 1 (by decide)) (Rw.lit 0 (by decide))
  have w10 := vl_value H hf isC0 ha hl hn (-1) 0 (Rw.nlit 1 (by decide)) (Rw.lit 0 (by decide))
  have v01 := vl_value H hf isC0 ha hl hn 0 1 (Rw.lit 0 (by decide)) (Rw.lit 1 (by decide))
  have w01 := vl_value H hf isC0 ha hl hn 0 (-1) (Rw.lit 0 (by decide)) (Rw.nlit 1 (by decide))
  have v11 := vl_value H hf isC0 ha hl hn 1 1 (Rw.lit 1 (by decide)) (Rw.lit 1 (by decide))
  simp only [H.neg, H.zero, H.one] at v00 v10 w10 v01 w01 v11
  have a1 := Vl.of (φ := φ) (isPoint_num ha).1; have a2 := Vl.of (φ := φ) (isPoint_num ha).2
  obtain ⟨⟨m0, m1, m2⟩, hm⟩ := isLine_num hl
  have l0 := Vl.of (φ := φ) m0; have l1 := Vl.of (φ := φ) m1; have l2 := Vl.of (φ := φ) m2
  have hne : φ l.1 ≠ 0 ∨ φ l.2.1 ≠ 0 := by
    have h1 := H.one_ne
    rcases hm with e | ⟨_, e⟩
    · rw [e, H.one]; exact Or.inl h1
    · rw [e, H.one]; exact Or.inr h1
  have hnn : nK 0 (φ l.1) (φ l.2.1) ≠ 0 := by
    intro h
    have hq := (perp_iff H hf isC0 l0 l1 l0 l1).2 ((null_nK isC0 _ _).2 h)
    have : i_isNull p 0 l = true := hq
    rw [this] at hn
    cases hn
  have vh : Vl p φ (i_inverse p 2) (2 : K)⁻¹ := by
    have hm3 := field_mem hf
    have := Vl.inv H hf (Vl.of (φ := φ) (x := 2) (p := p) ⟨by decide, by simp at hm3; omega⟩)
    rwa [H.two] at this
  unfold i_ParabolaOf s_ParabolaOf i_ParabolaOf_c1
  rw [bothcode p true, hcc, ha, hl, hn, colour_eq, hcc, hn']
  simp only [if_true, h0, bne_self_eq_false, Bool.false_eq_true, if_false, BEq.rfl, Bool.not_true]
  generalize hM : i_makeConic p (_, _, _, _, _, _) = M
  simp only [nK, prodK, if_true, if_false, reduceIte, Int.reduceEq, Int.reduceBEq, Bool.false_eq_true] at v00 v10 w10 v01 w01 v11 hnn ⊢
  generalize hS : s_l08Made p 6 [_, _, _, _, _, _] = S
  have hlead : ((φ l.1 * φ l.1 + φ l.2.1 * φ l.2.1) - (φ l.1) * (φ l.1)) ≠ 0 ∨ (-(2 * (φ l.1) * (φ l.2.1))) ≠ 0 ∨ ((φ l.1 * φ l.1 + φ l.2.1 * φ l.2.1) - (φ l.2.1) * (φ l.2.1)) ≠ 0 := by
    clear hM hS v00 v10 w10 v01 w01 v11 a1 a2 l0 l1 l2 vh m0 m1 m2 hm
    generalize φ l.1 = u at hnn hne ⊢; generalize φ l.2.1 = v at hnn hne ⊢
    grind
  have hs : Cc p φ S.1 ((φ l.1 * φ l.1 + φ l.2.1 * φ l.2.1) - (φ l.1) * (φ l.1)) (-(2 * (φ l.1) * (φ l.2.1))) ((φ l.1 * φ l.1 + φ l.2.1 * φ l.2.1) - (φ l.2.1) * (φ l.2.1)) (-(2 * (φ l.1 * φ l.1 + φ l.2.1 * φ l.2.1) * (φ a.1)) - 2 * (φ l.1) * (φ l.2.2)) (-(2 * (φ l.1 * φ l.1 + φ l.2.1 * φ l.2.1) * (φ a.2)) - 2 * (φ l.2.1) * (φ l.2.2)) ((φ l.1 * φ l.1 + φ l.2.1 * φ l.2.1) * ((φ a.1) * (φ a.1) + (φ a.2) * (φ a.2)) - (φ l.2.2) * (φ l.2.2)) := by
    rw [← hS]
    refine (cc_made H hf (by
      apply Rx.conv
      · (repeat' (first | assumption | exact Vl.rw hp (by assumption) | exact Rw.lit _ (by decide) | exact Rw.nlit _ (by decide) | with_reducible apply Vl.rest H hp | with_reducible apply Vl.smod H hp | with_reducible apply Vl.div H hf | with_reducible apply Vl.inv H hf | with_reducible apply Vl.sinvV H hf | with_reducible apply Vl.sinvR H hf | with_reducible apply Rw.tmod H hp | with_reducible apply Rw.mul H | with_reducible apply Rw.neg0 H | with_reducible apply Rw.sub H | with_reducible apply Rw.add H | with_reducible apply Vl.rw hp | decide))
      · clear hM hS v00 v10 w10 v01 w01 v11 a1 a2 l0 l1 l2 vh m0 m1 m2 hm hlead hnn hne
        (try simp only [H.two, H.neg, H.zero, H.one]) <;> grind) (by
      apply Rx.conv
      · (repeat' (first | assumption | exact Vl.rw hp (by assumption) | exact Rw.lit _ (by decide) | exact Rw.nlit _ (by decide) | with_reducible apply Vl.rest H hp | with_reducible apply Vl.smod H hp | with_reducible apply Vl.div H hf | with_reducible apply Vl.inv H hf | with_reducible apply Vl.sinvV H hf | with_reducible apply Vl.sinvR H hf | with_reducible apply Rw.tmod H hp | with_reducible apply Rw.mul H | with_reducible apply Rw.neg0 H | with_reducible apply Rw.sub H | with_reducible apply Rw.add H | with_reducible apply Vl.rw hp | decide))
      · clear hM hS v00 v10 w10 v01 w01 v11 a1 a2 l0 l1 l2 vh m0 m1 m2 hm hlead hnn hne
        (try simp only [H.two, H.neg, H.zero, H.one]) <;> grind) (by
      apply Rx.conv
      · (repeat' (first | assumption | exact Vl.rw hp (by assumption) | exact Rw.lit _ (by decide) | exact Rw.nlit _ (by decide) | with_reducible apply Vl.rest H hp | with_reducible apply Vl.smod H hp | with_reducible apply Vl.div H hf | with_reducible apply Vl.inv H hf | with_reducible apply Vl.sinvV H hf | with_reducible apply Vl.sinvR H hf | with_reducible apply Rw.tmod H hp | with_reducible apply Rw.mul H | with_reducible apply Rw.neg0 H | with_reducible apply Rw.sub H | with_reducible apply Rw.add H | with_reducible apply Vl.rw hp | decide))
      · clear hM hS v00 v10 w10 v01 w01 v11 a1 a2 l0 l1 l2 vh m0 m1 m2 hm hlead hnn hne
        (try simp only [H.two, H.neg, H.zero, H.one]) <;> grind) (by
      apply Rx.conv
      · (repeat' (first | assumption | exact Vl.rw hp (by assumption) | exact Rw.lit _ (by decide) | exact Rw.nlit _ (by decide) | with_reducible apply Vl.rest H hp | with_reducible apply Vl.smod H hp | with_reducible apply Vl.div H hf | with_reducible apply Vl.inv H hf | with_reducible apply Vl.sinvV H hf | with_reducible apply Vl.sinvR H hf | with_reducible apply Rw.tmod H hp | with_reducible apply Rw.mul H | with_reducible apply Rw.neg0 H | with_reducible apply Rw.sub H | with_reducible apply Rw.add H | with_reducible apply Vl.rw hp | decide))
      · clear hM hS v00 v10 w10 v01 w01 v11 a1 a2 l0 l1 l2 vh m0 m1 m2 hm hlead hnn hne
        (try simp only [H.two, H.neg, H.zero, H.one]) <;> grind) (by
      apply Rx.conv
      · (repeat' (first | assumption | exact Vl.rw hp (by assumption) | exact Rw.lit _ (by decide) | exact Rw.nlit _ (by decide) | with_reducible apply Vl.rest H hp | with_reducible apply Vl.smod H hp | with_reducible apply Vl.div H hf | with_reducible apply Vl.inv H hf | with_reducible apply Vl.sinvV H hf | with_reducible apply Vl.sinvR H hf | with_reducible apply Rw.tmod H hp | with_reducible apply Rw.mul H | with_reducible apply Rw.neg0 H | with_reducible apply Rw.sub H | with_reducible apply Rw.add H | with_reducible apply Vl.rw hp | decide))
      · clear hM hS v00 v10 w10 v01 w01 v11 a1 a2 l0 l1 l2 vh m0 m1 m2 hm hlead hnn hne
        (try simp only [H.two, H.neg, H.zero, H.one]) <;> grind) (by
      apply Rx.conv
      · (repeat' (first | assumption | exact Vl.rw hp (by assumption) | exact Rw.lit _ (by decide) | exact Rw.nlit _ (by decide) | with_reducible apply Vl.rest H hp | with_reducible apply Vl.smod H hp | with_reducible apply Vl.div H hf | with_reducible apply Vl.inv H hf | with_reducible apply Vl.sinvV H hf | with_reducible apply Vl.sinvR H hf | with_reducible apply Rw.tmod H hp | with_reducible apply Rw.mul H | with_reducible apply Rw.neg0 H | with_reducible apply Rw.sub H | with_reducible apply Rw.add H | with_reducible apply Vl.rw hp | decide))
      · clear hM hS v00 v10 w10 v01 w01 v11 a1 a2 l0 l1 l2 vh m0 m1 m2 hm hlead hnn hne
        (try simp only [H.two, H.neg, H.zero, H.one]) <;> grind) hlead).2
  have hi : M.2 = true ∧ Cc p φ M.1 ((φ l.1 * φ l.1 + φ l.2.1 * φ l.2.1)⁻¹ * ((φ l.1 * φ l.1 + φ l.2.1 * φ l.2.1) - (φ l.1) * (φ l.1))) ((φ l.1 * φ l.1 + φ l.2.1 * φ l.2.1)⁻¹ * (-(2 * (φ l.1) * (φ l.2.1)))) ((φ l.1 * φ l.1 + φ l.2.1 * φ l.2.1)⁻¹ * ((φ l.1 * φ l.1 + φ l.2.1 * φ l.2.1) - (φ l.2.1) * (φ l.2.1))) ((φ l.1 * φ l.1 + φ l.2.1 * φ l.2.1)⁻¹ * (-(2 * (φ l.1 * φ l.1 + φ l.2.1 * φ l.2.1) * (φ a.1)) - 2 * (φ l.1) * (φ l.2.2))) ((φ l.1 * φ l.1 + φ l.2.1 * φ l.2.1)⁻¹ * (-(2 * (φ l.1 * φ l.1 + φ l.2.1 * φ l.2.1) * (φ a.2)) - 2 * (φ l.2.1) * (φ l.2.2))) ((φ l.1 * φ l.1 + φ l.2.1 * φ l.2.1)⁻¹ * ((φ l.1 * φ l.1 + φ l.2.1 * φ l.2.1) * ((φ a.1) * (φ a.1) + (φ a.2) * (φ a.2)) - (φ l.2.2) * (φ l.2.2))) := by
    rw [← hM]
    refine cc_make H hf (by
      dsimp only
      apply Rx.conv
      · (repeat' (first | assumption | exact Vl.rw hp (by assumption) | exact Rw.lit _ (by decide) | exact Rw.nlit _ (by decide) | with_reducible apply Vl.rest H hp | with_reducible apply Vl.smod H hp | with_reducible apply Vl.div H hf | with_reducible apply Vl.inv H hf | with_reducible apply Vl.sinvV H hf | with_reducible apply Vl.sinvR H hf | with_reducible apply Rw.tmod H hp | with_reducible apply Rw.mul H | with_reducible apply Rw.neg0 H | with_reducible apply Rw.sub H | with_reducible apply Rw.add H | with_reducible apply Vl.rw hp | decide))
      · try simp only [H.two]
        clear hM hS hs v00 v10 w10 v01 w01 v11 a1 a2 l0 l1 l2 vh m0 m1 m2 hm hlead hne
        have hh : (2 : K) * (2 : K)⁻¹ = 1 := Lean.Grind.Field.mul_inv_cancel h2
        have hi : (φ l.1 * φ l.1 + φ l.2.1 * φ l.2.1) * ((φ l.1 * φ l.1 + φ l.2.1 * φ l.2.1))⁻¹ = 1 := Lean.Grind.Field.mul_inv_cancel hnn
        generalize (2 : K)⁻¹ = half at hh ⊢
        generalize ((φ l.1 * φ l.1 + φ l.2.1 * φ l.2.1))⁻¹ = inv at hi ⊢
        clear hnn
        generalize φ l.1 = u at hi ⊢; generalize φ l.2.1 = v at hi ⊢; generalize φ l.2.2 = w; generalize φ a.1 = x; generalize φ a.2 = y
        grind) (by
      dsimp only
      apply Rx.conv
      · (repeat' (first | assumption | exact Vl.rw hp (by assumption) | exact Rw.lit _ (by decide) | exact Rw.nlit _ (by decide) | with_reducible apply Vl.rest H hp | with_reducible apply Vl.smod H hp | with_reducible apply Vl.div H hf | with_reducible apply Vl.inv H hf | with_reducible apply Vl.sinvV H hf | with_reducible apply Vl.sinvR H hf | with_reducible apply Rw.tmod H hp | with_reducible apply Rw.mul H | with_reducible apply Rw.neg0 H | with_reducible apply Rw.sub H | with_reducible apply Rw.add H | with_reducible apply Vl.rw hp | decide))
      · try simp only [H.two]
        clear hM hS hs v00 v10 w10 v01 w01 v11 a1 a2 l0 l1 l2 vh m0 m1 m2 hm hlead hne
        have hh : (2 : K) * (2 : K)⁻¹ = 1 := Lean.Grind.Field.mul_inv_cancel h2
        have hi : (φ l.1 * φ l.1 + φ l.2.1 * φ l.2.1) * ((φ l.1 * φ l.1 + φ l.2.1 * φ l.2.1))⁻¹ = 1 := Lean.Grind.Field.mul_inv_cancel hnn
        generalize (2 : K)⁻¹ = half at hh ⊢
        generalize ((φ l.1 * φ l.1 + φ l.2.1 * φ l.2.1))⁻¹ = inv at hi ⊢
        clear hnn
        generalize φ l.1 = u at hi ⊢; generalize φ l.2.1 = v at hi ⊢; generalize φ l.2.2 = w; generalize φ a.1 = x; generalize φ a.2 = y
        grind) (by
      dsimp only
      apply Rx.conv
      · (repeat' (first | assumption | exact Vl.rw hp (by assumption) | exact Rw.lit _ (by decide) | exact Rw.nlit _ (by decide) | with_reducible apply Vl.rest H hp | with_reducible apply Vl.smod H hp | with_reducible apply Vl.div H hf | with_reducible apply Vl.inv H hf | with_reducible apply Vl.sinvV H hf | with_reducible apply Vl.sinvR H hf | with_reducible apply Rw.tmod H hp | with_reducible apply Rw.mul H | with_reducible apply Rw.neg0 H | with_reducible apply Rw.sub H | with_reducible apply Rw.add H | with_reducible apply Vl.rw hp | decide))
      · try simp only [H.two]
        clear hM hS hs v00 v10 w10 v01 w01 v11 a1 a2 l0 l1 l2 vh m0 m1 m2 hm hlead hne
        have hh : (2 : K) * (2 : K)⁻¹ = 1 := Lean.Grind.Field.mul_inv_cancel h2
        have hi : (φ l.1 * φ l.1 + φ l.2.1 * φ l.2.1) * ((φ l.1 * φ l.1 + φ l.2.1 * φ l.2.1))⁻¹ = 1 := Lean.Grind.Field.mul_inv_cancel hnn
        generalize (2 : K)⁻¹ = half at hh ⊢
        generalize ((φ l.1 * φ l.1 + φ l.2.1 * φ l.2.1))⁻¹ = inv at hi ⊢
        clear hnn
        generalize φ l.1 = u at hi ⊢; generalize φ l.2.1 = v at hi ⊢; generalize φ l.2.2 = w; generalize φ a.1 = x; generalize φ a.2 = y
        grind) (by
      dsimp only
      apply Rx.conv
      · (repeat' (first | assumption | exact Vl.rw hp (by assumption) | exact Rw.lit _ (by decide) | exact Rw.nlit _ (by decide) | with_reducible apply Vl.rest H hp | with_reducible apply Vl.smod H hp | with_reducible apply Vl.div H hf | with_reducible apply Vl.inv H hf | with_reducible apply Vl.sinvV H hf | with_reducible apply Vl.sinvR H hf | with_reducible apply Rw.tmod H hp | with_reducible apply Rw.mul H | with_reducible apply Rw.neg0 H | with_reducible apply Rw.sub H | with_reducible apply Rw.add H | with_reducible apply Vl.rw hp | decide))
      · try simp only [H.two]
        clear hM hS hs v00 v10 w10 v01 w01 v11 a1 a2 l0 l1 l2 vh m0 m1 m2 hm hlead hne
        have hh : (2 : K) * (2 : K)⁻¹ = 1 := Lean.Grind.Field.mul_inv_cancel h2
        have hi : (φ l.1 * φ l.1 + φ l.2.1 * φ l.2.1) * ((φ l.1 * φ l.1 + φ l.2.1 * φ l.2.1))⁻¹ = 1 := Lean.Grind.Field.mul_inv_cancel hnn
        generalize (2 : K)⁻¹ = half at hh ⊢
        generalize ((φ l.1 * φ l.1 + φ l.2.1 * φ l.2.1))⁻¹ = inv at hi ⊢
        clear hnn
        generalize φ l.1 = u at hi ⊢; generalize φ l.2.1 = v at hi ⊢; generalize φ l.2.2 = w; generalize φ a.1 = x; generalize φ a.2 = y
        grind) (by
      dsimp only
      apply Rx.conv
      · (repeat' (first | assumption | exact Vl.rw hp (by assumption) | exact Rw.lit _ (by decide) | exact Rw.nlit _ (by decide) | with_reducible apply Vl.rest H hp | with_reducible apply Vl.smod H hp | with_reducible apply Vl.div H hf | with_reducible apply Vl.inv H hf | with_reducible apply Vl.sinvV H hf | with_reducible apply Vl.sinvR H hf | with_reducible apply Rw.tmod H hp | with_reducible apply Rw.mul H | with_reducible apply Rw.neg0 H | with_reducible apply Rw.sub H | with_reducible apply Rw.add H | with_reducible apply Vl.rw hp | decide))
      · try simp only [H.two]
        clear hM hS hs v00 v10 w10 v01 w01 v11 a1 a2 l0 l1 l2 vh m0 m1 m2 hm hlead hne
        have hh : (2 : K) * (2 : K)⁻¹ = 1 := Lean.Grind.Field.mul_inv_cancel h2
        have hi : (φ l.1 * φ l.1 + φ l.2.1 * φ l.2.1) * ((φ l.1 * φ l.1 + φ l.2.1 * φ l.2.1))⁻¹ = 1 := Lean.Grind.Field.mul_inv_cancel hnn
        generalize (2 : K)⁻¹ = half at hh ⊢
        generalize ((φ l.1 * φ l.1 + φ l.2.1 * φ l.2.1))⁻¹ = inv at hi ⊢
        clear hnn
        generalize φ l.1 = u at hi ⊢; generalize φ l.2.1 = v at hi ⊢; generalize φ l.2.2 = w; generalize φ a.1 = x; generalize φ a.2 = y
        grind) (by
      dsimp only
      apply Rx.conv
      · (repeat' (first | assumption | exact Vl.rw hp (by assumption) | exact Rw.lit _ (by decide) | exact Rw.nlit _ (by decide) | with_reducible apply Vl.rest H hp | with_reducible apply Vl.smod H hp | with_reducible apply Vl.div H hf | with_reducible apply Vl.inv H hf | with_reducible apply Vl.sinvV H hf | with_reducible apply Vl.sinvR H hf | with_reducible apply Rw.tmod H hp | with_reducible apply Rw.mul H | with_reducible apply Rw.neg0 H | with_reducible apply Rw.sub H | with_reducible apply Rw.add H | with_reducible apply Vl.rw hp | decide))
      · try simp only [H.two]
        clear hM hS hs v00 v10 w10 v01 w01 v11 a1 a2 l0 l1 l2 vh m0 m1 m2 hm hlead hne
        have hh : (2 : K) * (2 : K)⁻¹ = 1 := Lean.Grind.Field.mul_inv_cancel h2
        have hi : (φ l.1 * φ l.1 + φ l.2.1 * φ l.2.1) * ((φ l.1 * φ l.1 + φ l.2.1 * φ l.2.1))⁻¹ = 1 := Lean.Grind.Field.mul_inv_cancel hnn
        generalize (2 : K)⁻¹ = half at hh ⊢
        generalize ((φ l.1 * φ l.1 + φ l.2.1 * φ l.2.1))⁻¹ = inv at hi ⊢
        clear hnn
        generalize φ l.1 = u at hi ⊢; generalize φ l.2.1 = v at hi ⊢; generalize φ l.2.2 = w; generalize φ a.1 = x; generalize φ a.2 = y
        grind) (by
    have hi : (φ l.1 * φ l.1 + φ l.2.1 * φ l.2.1)⁻¹ ≠ 0 := by grind
    clear hM hS hs v00 v10 w10 v01 w01 v11 a1 a2 l0 l1 l2 vh m0 m1 m2 hm hne
    grind)
  rw [hi.1]
  simp only [Bool.not_true, Bool.false_eq_true, if_false]
  have e := Cc.inj H (Cc.scale (φ l.1 * φ l.1 + φ l.2.1 * φ l.2.1)⁻¹ (by grind) rfl rfl rfl rfl rfl rfl hi.2) hs
  rw [e]
set_option maxHeartbeats 4000000 in
theorem parabola_1 {p : Int} (hf : i_IsField p = true) {a : P2} {l : P3} (ha : i_isPoint p a = true) (hl : i_isLine p l = true) (hn : i_isNull p 1 l = false) : i_ParabolaOf p 1 a l = s_ParabolaOf p 1 a l := by
  have hp := i_IsField_ok hf
  have hcc : i_isColour 1 = true := rfl
  have h0 : i_asked p true true = 0 := by simp [i_asked, hf]
  have hn' : s_l02Perpendicular p 1 l l = false := hn
  obtain ⟨K, inst, φ, H⟩ := hom_of hf
  have h2 := H.two_ne hf
  have v00 := vl_value H hf isC1 ha hl hn 0 0 (Rw.lit 0 (by decide)) (Rw.lit 0 (by decide))
  have v10 := vl_value H hf isC1 ha hl hn 1 0 (Rw.lit 1 (by decide)) (Rw.lit 0 (by decide))
  have w10 := vl_value H hf isC1 ha hl hn (-1) 0 (Rw.nlit 1 (by decide)) (Rw.lit 0 (by decide))
  have v01 := vl_value H hf isC1 ha hl hn 0 1 (Rw.lit 0 (by decide)) (Rw.lit 1 (by decide))
  have w01 := vl_value H hf isC1 ha hl hn 0 (-1) (Rw.lit 0 (by decide)) (Rw.nlit 1 (by decide))
  have v11 := vl_value H hf isC1 ha hl hn 1 1 (Rw.lit 1 (by decide)) (Rw.lit 1 (by decide))
  simp only [H.neg, H.zero, H.one] at v00 v10 w10 v01 w01 v11
  have a1 := Vl.of (φ := φ) (isPoint_num ha).1; have a2 := Vl.of (φ := φ) (isPoint_num ha).2
  obtain ⟨⟨m0, m1, m2⟩, hm⟩ := isLine_num hl
  have l0 := Vl.of (φ := φ) m0; have l1 := Vl.of (φ := φ) m1; have l2 := Vl.of (φ := φ) m2
  have hne : φ l.1 ≠ 0 ∨ φ l.2.1 ≠ 0 := by
    have h1 := H.one_ne
    rcases hm with e | ⟨_, e⟩
    · rw [e, H.one]; exact Or.inl h1
    · rw [e, H.one]; exact Or.inr h1
  have hnn : nK 1 (φ l.1) (φ l.2.1) ≠ 0 := by
    intro h
    have hq := (perp_iff H hf isC1 l0 l1 l0 l1).2 ((null_nK isC1 _ _).2 h)
    have : i_isNull p 1 l = true := hq
    rw [this] at hn
    cases hn
  have vh : Vl p φ (i_inverse p 2) (2 : K)⁻¹ := by
    have hm3 := field_mem hf
    have := Vl.inv H hf (Vl.of (φ := φ) (x := 2) (p := p) ⟨by decide, by simp at hm3; omega⟩)
    rwa [H.two] at this
  unfold i_ParabolaOf s_ParabolaOf i_ParabolaOf_c1
  rw [bothcode p true, hcc, ha, hl, hn, colour_eq, hcc, hn']
  simp only [if_true, h0, bne_self_eq_false, Bool.false_eq_true, if_false, BEq.rfl, Bool.not_true]
  generalize hM : i_makeConic p (_, _, _, _, _, _) = M
  simp only [nK, prodK, if_true, if_false, reduceIte, Int.reduceEq, Int.reduceBEq, Bool.false_eq_true] at v00 v10 w10 v01 w01 v11 hnn ⊢
  generalize hS : s_l08Made p 6 [_, _, _, _, _, _] = S
  have hlead : ((φ l.1 * φ l.1 - φ l.2.1 * φ l.2.1) - (φ l.1) * (φ l.1)) ≠ 0 ∨ (-(2 * (φ l.1) * (φ l.2.1))) ≠ 0 ∨ (-(φ l.1 * φ l.1 - φ l.2.1 * φ l.2.1) - (φ l.2.1) * (φ l.2.1)) ≠ 0 := by
    clear hM hS v00 v10 w10 v01 w01 v11 a1 a2 l0 l1 l2 vh m0 m1 m2 hm
    generalize φ l.1 = u at hnn hne ⊢; generalize φ l.2.1 = v at hnn hne ⊢
    grind
  have hs : Cc p φ S.1 ((φ l.1 * φ l.1 - φ l.2.1 * φ l.2.1) - (φ l.1) * (φ l.1)) (-(2 * (φ l.1) * (φ l.2.1))) (-(φ l.1 * φ l.1 - φ l.2.1 * φ l.2.1) - (φ l.2.1) * (φ l.2.1)) (-(2 * (φ l.1 * φ l.1 - φ l.2.1 * φ l.2.1) * (φ a.1)) - 2 * (φ l.1) * (φ l.2.2)) (2 * (φ l.1 * φ l.1 - φ l.2.1 * φ l.2.1) * (φ a.2) - 2 * (φ l.2.1) * (φ l.2.2)) ((φ l.1 * φ l.1 - φ l.2.1 * φ l.2.1) * ((φ a.1) * (φ a.1) - (φ a.2) * (φ a.2)) - (φ l.2.2) * (φ l.2.2)) := by
    rw [← hS]
    refine (cc_made H hf (by
      apply Rx.conv
      · (repeat' (first | assumption | exact Vl.rw hp (by assumption) | exact Rw.lit _ (by decide) | exact Rw.nlit _ (by decide) | with_reducible apply Vl.rest H hp | with_reducible apply Vl.smod H hp | with_reducible apply Vl.div H hf | with_reducible apply Vl.inv H hf | with_reducible apply Vl.sinvV H hf | with_reducible apply Vl.sinvR H hf | with_reducible apply Rw.tmod H hp | with_reducible apply Rw.mul H | with_reducible apply Rw.neg0 H | with_reducible apply Rw.sub H | with_reducible apply Rw.add H | with_reducible apply Vl.rw hp | decide))
      · clear hM hS v00 v10 w10 v01 w01 v11 a1 a2 l0 l1 l2 vh m0 m1 m2 hm hlead hnn hne
        (try simp only [H.two, H.neg, H.zero, H.one]) <;> grind) (by
      apply Rx.conv
      · (repeat' (first | assumption | exact Vl.rw hp (by assumption) | exact Rw.lit _ (by decide) | exact Rw.nlit _ (by decide) | with_reducible apply Vl.rest H hp | with_reducible apply Vl.smod H hp | with_reducible apply Vl.div H hf | with_reducible apply Vl.inv H hf | with_reducible apply Vl.sinvV H hf | with_reducible apply Vl.sinvR H hf | with_reducible apply Rw.tmod H hp | with_reducible apply Rw.mul H | with_reducible apply Rw.neg0 H | with_reducible apply Rw.sub H | with_reducible apply Rw.add H | with_reducible apply Vl.rw hp | decide))
      · clear hM hS v00 v10 w10 v01 w01 v11 a1 a2 l0 l1 l2 vh m0 m1 m2 hm hlead hnn hne
        (try simp only [H.two, H.neg, H.zero, H.one]) <;> grind) (by
      apply Rx.conv
      · (repeat' (first | assumption | exact Vl.rw hp (by assumption) | exact Rw.lit _ (by decide) | exact Rw.nlit _ (by decide) | with_reducible apply Vl.rest H hp | with_reducible apply Vl.smod H hp | with_reducible apply Vl.div H hf | with_reducible apply Vl.inv H hf | with_reducible apply Vl.sinvV H hf | with_reducible apply Vl.sinvR H hf | with_reducible apply Rw.tmod H hp | with_reducible apply Rw.mul H | with_reducible apply Rw.neg0 H | with_reducible apply Rw.sub H | with_reducible apply Rw.add H | with_reducible apply Vl.rw hp | decide))
      · clear hM hS v00 v10 w10 v01 w01 v11 a1 a2 l0 l1 l2 vh m0 m1 m2 hm hlead hnn hne
        (try simp only [H.two, H.neg, H.zero, H.one]) <;> grind) (by
      apply Rx.conv
      · (repeat' (first | assumption | exact Vl.rw hp (by assumption) | exact Rw.lit _ (by decide) | exact Rw.nlit _ (by decide) | with_reducible apply Vl.rest H hp | with_reducible apply Vl.smod H hp | with_reducible apply Vl.div H hf | with_reducible apply Vl.inv H hf | with_reducible apply Vl.sinvV H hf | with_reducible apply Vl.sinvR H hf | with_reducible apply Rw.tmod H hp | with_reducible apply Rw.mul H | with_reducible apply Rw.neg0 H | with_reducible apply Rw.sub H | with_reducible apply Rw.add H | with_reducible apply Vl.rw hp | decide))
      · clear hM hS v00 v10 w10 v01 w01 v11 a1 a2 l0 l1 l2 vh m0 m1 m2 hm hlead hnn hne
        (try simp only [H.two, H.neg, H.zero, H.one]) <;> grind) (by
      apply Rx.conv
      · (repeat' (first | assumption | exact Vl.rw hp (by assumption) | exact Rw.lit _ (by decide) | exact Rw.nlit _ (by decide) | with_reducible apply Vl.rest H hp | with_reducible apply Vl.smod H hp | with_reducible apply Vl.div H hf | with_reducible apply Vl.inv H hf | with_reducible apply Vl.sinvV H hf | with_reducible apply Vl.sinvR H hf | with_reducible apply Rw.tmod H hp | with_reducible apply Rw.mul H | with_reducible apply Rw.neg0 H | with_reducible apply Rw.sub H | with_reducible apply Rw.add H | with_reducible apply Vl.rw hp | decide))
      · clear hM hS v00 v10 w10 v01 w01 v11 a1 a2 l0 l1 l2 vh m0 m1 m2 hm hlead hnn hne
        (try simp only [H.two, H.neg, H.zero, H.one]) <;> grind) (by
      apply Rx.conv
      · (repeat' (first | assumption | exact Vl.rw hp (by assumption) | exact Rw.lit _ (by decide) | exact Rw.nlit _ (by decide) | with_reducible apply Vl.rest H hp | with_reducible apply Vl.smod H hp | with_reducible apply Vl.div H hf | with_reducible apply Vl.inv H hf | with_reducible apply Vl.sinvV H hf | with_reducible apply Vl.sinvR H hf | with_reducible apply Rw.tmod H hp | with_reducible apply Rw.mul H | with_reducible apply Rw.neg0 H | with_reducible apply Rw.sub H | with_reducible apply Rw.add H | with_reducible apply Vl.rw hp | decide))
      · clear hM hS v00 v10 w10 v01 w01 v11 a1 a2 l0 l1 l2 vh m0 m1 m2 hm hlead hnn hne
        (try simp only [H.two, H.neg, H.zero, H.one]) <;> grind) hlead).2
  have hi : M.2 = true ∧ Cc p φ M.1 ((φ l.1 * φ l.1 - φ l.2.1 * φ l.2.1)⁻¹ * ((φ l.1 * φ l.1 - φ l.2.1 * φ l.2.1) - (φ l.1) * (φ l.1))) ((φ l.1 * φ l.1 - φ l.2.1 * φ l.2.1)⁻¹ * (-(2 * (φ l.1) * (φ l.2.1)))) ((φ l.1 * φ l.1 - φ l.2.1 * φ l.2.1)⁻¹ * (-(φ l.1 * φ l.1 - φ l.2.1 * φ l.2.1) - (φ l.2.1) * (φ l.2.1))) ((φ l.1 * φ l.1 - φ l.2.1 * φ l.2.1)⁻¹ * (-(2 * (φ l.1 * φ l.1 - φ l.2.1 * φ l.2.1) * (φ a.1)) - 2 * (φ l.1) * (φ l.2.2))) ((φ l.1 * φ l.1 - φ l.2.1 * φ l.2.1)⁻¹ * (2 * (φ l.1 * φ l.1 - φ l.2.1 * φ l.2.1) * (φ a.2) - 2 * (φ l.2.1) * (φ l.2.2))) ((φ l.1 * φ l.1 - φ l.2.1 * φ l.2.1)⁻¹ * ((φ l.1 * φ l.1 - φ l.2.1 * φ l.2.1) * ((φ a.1) * (φ a.1) - (φ a.2) * (φ a.2)) - (φ l.2.2) * (φ l.2.2))) := by
    rw [← hM]
    refine cc_make H hf (by
      dsimp only
      apply Rx.conv
      · (repeat' (first | assumption | exact Vl.rw hp (by assumption) | exact Rw.lit _ (by decide) | exact Rw.nlit _ (by decide) | with_reducible apply Vl.rest H hp | with_reducible apply Vl.smod H hp | with_reducible apply Vl.div H hf | with_reducible apply Vl.inv H hf | with_reducible apply Vl.sinvV H hf | with_reducible apply Vl.sinvR H hf | with_reducible apply Rw.tmod H hp | with_reducible apply Rw.mul H | with_reducible apply Rw.neg0 H | with_reducible apply Rw.sub H | with_reducible apply Rw.add H | with_reducible apply Vl.rw hp | decide))
      · try simp only [H.two]
        clear hM hS hs v00 v10 w10 v01 w01 v11 a1 a2 l0 l1 l2 vh m0 m1 m2 hm hlead hne
        have hh : (2 : K) * (2 : K)⁻¹ = 1 := Lean.Grind.Field.mul_inv_cancel h2
        have hi : (φ l.1 * φ l.1 - φ l.2.1 * φ l.2.1) * ((φ l.1 * φ l.1 - φ l.2.1 * φ l.2.1))⁻¹ = 1 := Lean.Grind.Field.mul_inv_cancel hnn
        generalize (2 : K)⁻¹ = half at hh ⊢
        generalize ((φ l.1 * φ l.1 - φ l.2.1 * φ l.2.1))⁻¹ = inv at hi ⊢
        clear hnn
        generalize φ l.1 = u at hi ⊢; generalize φ l.2.1 = v at hi ⊢; generalize φ l.2.2 = w; generalize φ a.1 = x; generalize φ a.2 = y
        grind) (by
      dsimp only
      apply Rx.conv
      · (repeat' (first | assumption | exact Vl.rw hp (by assumption) | exact Rw.lit _ (by decide) | exact Rw.nlit _ (by decide) | with_reducible apply Vl.rest H hp | with_reducible apply Vl.smod H hp | with_reducible apply Vl.div H hf | with_reducible apply Vl.inv H hf | with_reducible apply Vl.sinvV H hf | with_reducible apply Vl.sinvR H hf | with_reducible apply Rw.tmod H hp | with_reducible apply Rw.mul H | with_reducible apply Rw.neg0 H | with_reducible apply Rw.sub H | with_reducible apply Rw.add H | with_reducible apply Vl.rw hp | decide))
      · try simp only [H.two]
        clear hM hS hs v00 v10 w10 v01 w01 v11 a1 a2 l0 l1 l2 vh m0 m1 m2 hm hlead hne
        have hh : (2 : K) * (2 : K)⁻¹ = 1 := Lean.Grind.Field.mul_inv_cancel h2
        have hi : (φ l.1 * φ l.1 - φ l.2.1 * φ l.2.1) * ((φ l.1 * φ l.1 - φ l.2.1 * φ l.2.1))⁻¹ = 1 := Lean.Grind.Field.mul_inv_cancel hnn
        generalize (2 : K)⁻¹ = half at hh ⊢
        generalize ((φ l.1 * φ l.1 - φ l.2.1 * φ l.2.1))⁻¹ = inv at hi ⊢
        clear hnn
        generalize φ l.1 = u at hi ⊢; generalize φ l.2.1 = v at hi ⊢; generalize φ l.2.2 = w; generalize φ a.1 = x; generalize φ a.2 = y
        grind) (by
      dsimp only
      apply Rx.conv
      · (repeat' (first | assumption | exact Vl.rw hp (by assumption) | exact Rw.lit _ (by decide) | exact Rw.nlit _ (by decide) | with_reducible apply Vl.rest H hp | with_reducible apply Vl.smod H hp | with_reducible apply Vl.div H hf | with_reducible apply Vl.inv H hf | with_reducible apply Vl.sinvV H hf | with_reducible apply Vl.sinvR H hf | with_reducible apply Rw.tmod H hp | with_reducible apply Rw.mul H | with_reducible apply Rw.neg0 H | with_reducible apply Rw.sub H | with_reducible apply Rw.add H | with_reducible apply Vl.rw hp | decide))
      · try simp only [H.two]
        clear hM hS hs v00 v10 w10 v01 w01 v11 a1 a2 l0 l1 l2 vh m0 m1 m2 hm hlead hne
        have hh : (2 : K) * (2 : K)⁻¹ = 1 := Lean.Grind.Field.mul_inv_cancel h2
        have hi : (φ l.1 * φ l.1 - φ l.2.1 * φ l.2.1) * ((φ l.1 * φ l.1 - φ l.2.1 * φ l.2.1))⁻¹ = 1 := Lean.Grind.Field.mul_inv_cancel hnn
        generalize (2 : K)⁻¹ = half at hh ⊢
        generalize ((φ l.1 * φ l.1 - φ l.2.1 * φ l.2.1))⁻¹ = inv at hi ⊢
        clear hnn
        generalize φ l.1 = u at hi ⊢; generalize φ l.2.1 = v at hi ⊢; generalize φ l.2.2 = w; generalize φ a.1 = x; generalize φ a.2 = y
        grind) (by
      dsimp only
      apply Rx.conv
      · (repeat' (first | assumption | exact Vl.rw hp (by assumption) | exact Rw.lit _ (by decide) | exact Rw.nlit _ (by decide) | with_reducible apply Vl.rest H hp | with_reducible apply Vl.smod H hp | with_reducible apply Vl.div H hf | with_reducible apply Vl.inv H hf | with_reducible apply Vl.sinvV H hf | with_reducible apply Vl.sinvR H hf | with_reducible apply Rw.tmod H hp | with_reducible apply Rw.mul H | with_reducible apply Rw.neg0 H | with_reducible apply Rw.sub H | with_reducible apply Rw.add H | with_reducible apply Vl.rw hp | decide))
      · try simp only [H.two]
        clear hM hS hs v00 v10 w10 v01 w01 v11 a1 a2 l0 l1 l2 vh m0 m1 m2 hm hlead hne
        have hh : (2 : K) * (2 : K)⁻¹ = 1 := Lean.Grind.Field.mul_inv_cancel h2
        have hi : (φ l.1 * φ l.1 - φ l.2.1 * φ l.2.1) * ((φ l.1 * φ l.1 - φ l.2.1 * φ l.2.1))⁻¹ = 1 := Lean.Grind.Field.mul_inv_cancel hnn
        generalize (2 : K)⁻¹ = half at hh ⊢
        generalize ((φ l.1 * φ l.1 - φ l.2.1 * φ l.2.1))⁻¹ = inv at hi ⊢
        clear hnn
        generalize φ l.1 = u at hi ⊢; generalize φ l.2.1 = v at hi ⊢; generalize φ l.2.2 = w; generalize φ a.1 = x; generalize φ a.2 = y
        grind) (by
      dsimp only
      apply Rx.conv
      · (repeat' (first | assumption | exact Vl.rw hp (by assumption) | exact Rw.lit _ (by decide) | exact Rw.nlit _ (by decide) | with_reducible apply Vl.rest H hp | with_reducible apply Vl.smod H hp | with_reducible apply Vl.div H hf | with_reducible apply Vl.inv H hf | with_reducible apply Vl.sinvV H hf | with_reducible apply Vl.sinvR H hf | with_reducible apply Rw.tmod H hp | with_reducible apply Rw.mul H | with_reducible apply Rw.neg0 H | with_reducible apply Rw.sub H | with_reducible apply Rw.add H | with_reducible apply Vl.rw hp | decide))
      · try simp only [H.two]
        clear hM hS hs v00 v10 w10 v01 w01 v11 a1 a2 l0 l1 l2 vh m0 m1 m2 hm hlead hne
        have hh : (2 : K) * (2 : K)⁻¹ = 1 := Lean.Grind.Field.mul_inv_cancel h2
        have hi : (φ l.1 * φ l.1 - φ l.2.1 * φ l.2.1) * ((φ l.1 * φ l.1 - φ l.2.1 * φ l.2.1))⁻¹ = 1 := Lean.Grind.Field.mul_inv_cancel hnn
        generalize (2 : K)⁻¹ = half at hh ⊢
        generalize ((φ l.1 * φ l.1 - φ l.2.1 * φ l.2.1))⁻¹ = inv at hi ⊢
        clear hnn
        generalize φ l.1 = u at hi ⊢; generalize φ l.2.1 = v at hi ⊢; generalize φ l.2.2 = w; generalize φ a.1 = x; generalize φ a.2 = y
        grind) (by
      dsimp only
      apply Rx.conv
      · (repeat' (first | assumption | exact Vl.rw hp (by assumption) | exact Rw.lit _ (by decide) | exact Rw.nlit _ (by decide) | with_reducible apply Vl.rest H hp | with_reducible apply Vl.smod H hp | with_reducible apply Vl.div H hf | with_reducible apply Vl.inv H hf | with_reducible apply Vl.sinvV H hf | with_reducible apply Vl.sinvR H hf | with_reducible apply Rw.tmod H hp | with_reducible apply Rw.mul H | with_reducible apply Rw.neg0 H | with_reducible apply Rw.sub H | with_reducible apply Rw.add H | with_reducible apply Vl.rw hp | decide))
      · try simp only [H.two]
        clear hM hS hs v00 v10 w10 v01 w01 v11 a1 a2 l0 l1 l2 vh m0 m1 m2 hm hlead hne
        have hh : (2 : K) * (2 : K)⁻¹ = 1 := Lean.Grind.Field.mul_inv_cancel h2
        have hi : (φ l.1 * φ l.1 - φ l.2.1 * φ l.2.1) * ((φ l.1 * φ l.1 - φ l.2.1 * φ l.2.1))⁻¹ = 1 := Lean.Grind.Field.mul_inv_cancel hnn
        generalize (2 : K)⁻¹ = half at hh ⊢
        generalize ((φ l.1 * φ l.1 - φ l.2.1 * φ l.2.1))⁻¹ = inv at hi ⊢
        clear hnn
        generalize φ l.1 = u at hi ⊢; generalize φ l.2.1 = v at hi ⊢; generalize φ l.2.2 = w; generalize φ a.1 = x; generalize φ a.2 = y
        grind) (by
    have hi : (φ l.1 * φ l.1 - φ l.2.1 * φ l.2.1)⁻¹ ≠ 0 := by grind
    clear hM hS hs v00 v10 w10 v01 w01 v11 a1 a2 l0 l1 l2 vh m0 m1 m2 hm hne
    grind)
  rw [hi.1]
  simp only [Bool.not_true, Bool.false_eq_true, if_false]
  have e := Cc.inj H (Cc.scale (φ l.1 * φ l.1 - φ l.2.1 * φ l.2.1)⁻¹ (by grind) rfl rfl rfl rfl rfl rfl hi.2) hs
  rw [e]
set_option maxHeartbeats 4000000 in
theorem parabola_2 {p : Int} (hf : i_IsField p = true) {a : P2} {l : P3} (ha : i_isPoint p a = true) (hl : i_isLine p l = true) (hn : i_isNull p 2 l = false) : i_ParabolaOf p 2 a l = s_ParabolaOf p 2 a l := by
  have hp := i_IsField_ok hf
  have hcc : i_isColour 2 = true := rfl
  have h0 : i_asked p true true = 0 := by simp [i_asked, hf]
  have hn' : s_l02Perpendicular p 2 l l = false := hn
  obtain ⟨K, inst, φ, H⟩ := hom_of hf
  have h2 := H.two_ne hf
  have v00 := vl_value H hf isC2 ha hl hn 0 0 (Rw.lit 0 (by decide)) (Rw.lit 0 (by decide))
  have v10 := vl_value H hf isC2 ha hl hn 1 0 (Rw.lit 1 (by decide)) (Rw.lit 0 (by decide))
  have w10 := vl_value H hf isC2 ha hl hn (-1) 0 (Rw.nlit 1 (by decide)) (Rw.lit 0 (by decide))
  have v01 := vl_value H hf isC2 ha hl hn 0 1 (Rw.lit 0 (by decide)) (Rw.lit 1 (by decide))
  have w01 := vl_value H hf isC2 ha hl hn 0 (-1) (Rw.lit 0 (by decide)) (Rw.nlit 1 (by decide))
  have v11 := vl_value H hf isC2 ha hl hn 1 1 (Rw.lit 1 (by decide)) (Rw.lit 1 (by decide))
  simp only [H.neg, H.zero, H.one] at v00 v10 w10 v01 w01 v11
  have a1 := Vl.of (φ := φ) (isPoint_num ha).1; have a2 := Vl.of (φ := φ) (isPoint_num ha).2
  obtain ⟨⟨m0, m1, m2⟩, hm⟩ := isLine_num hl
  have l0 := Vl.of (φ := φ) m0; have l1 := Vl.of (φ := φ) m1; have l2 := Vl.of (φ := φ) m2
  have hne : φ l.1 ≠ 0 ∨ φ l.2.1 ≠ 0 := by
    have h1 := H.one_ne
    rcases hm with e | ⟨_, e⟩
    · rw [e, H.one]; exact Or.inl h1
    · rw [e, H.one]; exact Or.inr h1
  have hnn : nK 2 (φ l.1) (φ l.2.1) ≠ 0 := by
    intro h
    have hq := (perp_iff H hf isC2 l0 l1 l0 l1).2 ((null_nK isC2 _ _).2 h)
    have : i_isNull p 2 l = true := hq
    rw [this] at hn
    cases hn
  have vh : Vl p φ (i_inverse p 2) (2 : K)⁻¹ := by
    have hm3 := field_mem hf
    have := Vl.inv H hf (Vl.of (φ := φ) (x := 2) (p := p) ⟨by decide, by simp at hm3; omega⟩)
    rwa [H.two] at this
  unfold i_ParabolaOf s_ParabolaOf i_ParabolaOf_c1
  rw [bothcode p true, hcc, ha, hl, hn, colour_eq, hcc, hn']
  simp only [if_true, h0, bne_self_eq_false, Bool.false_eq_true, if_false, BEq.rfl, Bool.not_true]
  generalize hM : i_makeConic p (_, _, _, _, _, _) = M
  simp only [nK, prodK, if_true, if_false, reduceIte, Int.reduceEq, Int.reduceBEq, Bool.false_eq_true] at v00 v10 w10 v01 w01 v11 hnn ⊢
  generalize hS : s_l08Made p 6 [_, _, _, _, _, _] = S
  have hlead : (-((φ l.1) * (φ l.1))) ≠ 0 ∨ (2 * (2 * φ l.1 * φ l.2.1) - 2 * (φ l.1) * (φ l.2.1)) ≠ 0 ∨ (-((φ l.2.1) * (φ l.2.1))) ≠ 0 := by
    clear hM hS v00 v10 w10 v01 w01 v11 a1 a2 l0 l1 l2 vh m0 m1 m2 hm
    generalize φ l.1 = u at hnn hne ⊢; generalize φ l.2.1 = v at hnn hne ⊢
    grind
  have hs : Cc p φ S.1 (-((φ l.1) * (φ l.1))) (2 * (2 * φ l.1 * φ l.2.1) - 2 * (φ l.1) * (φ l.2.1)) (-((φ l.2.1) * (φ l.2.1))) (-(2 * (2 * φ l.1 * φ l.2.1) * (φ a.2)) - 2 * (φ l.1) * (φ l.2.2)) (-(2 * (2 * φ l.1 * φ l.2.1) * (φ a.1)) - 2 * (φ l.2.1) * (φ l.2.2)) (2 * (2 * φ l.1 * φ l.2.1) * (φ a.1) * (φ a.2) - (φ l.2.2) * (φ l.2.2)) := by
    rw [← hS]
    refine (cc_made H hf (by
      apply Rx.conv
      · (repeat' (first | assumption | exact Vl.rw hp (by assumption) | exact Rw.lit _ (by decide) | exact Rw.nlit _ (by decide) | with_reducible apply Vl.rest H hp | with_reducible apply Vl.smod H hp | with_reducible apply Vl.div H hf | with_reducible apply Vl.inv H hf | with_reducible apply Vl.sinvV H hf | with_reducible apply Vl.sinvR H hf | with_reducible apply Rw.tmod H hp | with_reducible apply Rw.mul H | with_reducible apply Rw.neg0 H | with_reducible apply Rw.sub H | with_reducible apply Rw.add H | with_reducible apply Vl.rw hp | decide))
      · clear hM hS v00 v10 w10 v01 w01 v11 a1 a2 l0 l1 l2 vh m0 m1 m2 hm hlead hnn hne
        (try simp only [H.two, H.neg, H.zero, H.one]) <;> grind) (by
      apply Rx.conv
      · (repeat' (first | assumption | exact Vl.rw hp (by assumption) | exact Rw.lit _ (by decide) | exact Rw.nlit _ (by decide) | with_reducible apply Vl.rest H hp | with_reducible apply Vl.smod H hp | with_reducible apply Vl.div H hf | with_reducible apply Vl.inv H hf | with_reducible apply Vl.sinvV H hf | with_reducible apply Vl.sinvR H hf | with_reducible apply Rw.tmod H hp | with_reducible apply Rw.mul H | with_reducible apply Rw.neg0 H | with_reducible apply Rw.sub H | with_reducible apply Rw.add H | with_reducible apply Vl.rw hp | decide))
      · clear hM hS v00 v10 w10 v01 w01 v11 a1 a2 l0 l1 l2 vh m0 m1 m2 hm hlead hnn hne
        (try simp only [H.two, H.neg, H.zero, H.one]) <;> grind) (by
      apply Rx.conv
      · (repeat' (first | assumption | exact Vl.rw hp (by assumption) | exact Rw.lit _ (by decide) | exact Rw.nlit _ (by decide) | with_reducible apply Vl.rest H hp | with_reducible apply Vl.smod H hp | with_reducible apply Vl.div H hf | with_reducible apply Vl.inv H hf | with_reducible apply Vl.sinvV H hf | with_reducible apply Vl.sinvR H hf | with_reducible apply Rw.tmod H hp | with_reducible apply Rw.mul H | with_reducible apply Rw.neg0 H | with_reducible apply Rw.sub H | with_reducible apply Rw.add H | with_reducible apply Vl.rw hp | decide))
      · clear hM hS v00 v10 w10 v01 w01 v11 a1 a2 l0 l1 l2 vh m0 m1 m2 hm hlead hnn hne
        (try simp only [H.two, H.neg, H.zero, H.one]) <;> grind) (by
      apply Rx.conv
      · (repeat' (first | assumption | exact Vl.rw hp (by assumption) | exact Rw.lit _ (by decide) | exact Rw.nlit _ (by decide) | with_reducible apply Vl.rest H hp | with_reducible apply Vl.smod H hp | with_reducible apply Vl.div H hf | with_reducible apply Vl.inv H hf | with_reducible apply Vl.sinvV H hf | with_reducible apply Vl.sinvR H hf | with_reducible apply Rw.tmod H hp | with_reducible apply Rw.mul H | with_reducible apply Rw.neg0 H | with_reducible apply Rw.sub H | with_reducible apply Rw.add H | with_reducible apply Vl.rw hp | decide))
      · clear hM hS v00 v10 w10 v01 w01 v11 a1 a2 l0 l1 l2 vh m0 m1 m2 hm hlead hnn hne
        (try simp only [H.two, H.neg, H.zero, H.one]) <;> grind) (by
      apply Rx.conv
      · (repeat' (first | assumption | exact Vl.rw hp (by assumption) | exact Rw.lit _ (by decide) | exact Rw.nlit _ (by decide) | with_reducible apply Vl.rest H hp | with_reducible apply Vl.smod H hp | with_reducible apply Vl.div H hf | with_reducible apply Vl.inv H hf | with_reducible apply Vl.sinvV H hf | with_reducible apply Vl.sinvR H hf | with_reducible apply Rw.tmod H hp | with_reducible apply Rw.mul H | with_reducible apply Rw.neg0 H | with_reducible apply Rw.sub H | with_reducible apply Rw.add H | with_reducible apply Vl.rw hp | decide))
      · clear hM hS v00 v10 w10 v01 w01 v11 a1 a2 l0 l1 l2 vh m0 m1 m2 hm hlead hnn hne
        (try simp only [H.two, H.neg, H.zero, H.one]) <;> grind) (by
      apply Rx.conv
      · (repeat' (first | assumption | exact Vl.rw hp (by assumption) | exact Rw.lit _ (by decide) | exact Rw.nlit _ (by decide) | with_reducible apply Vl.rest H hp | with_reducible apply Vl.smod H hp | with_reducible apply Vl.div H hf | with_reducible apply Vl.inv H hf | with_reducible apply Vl.sinvV H hf | with_reducible apply Vl.sinvR H hf | with_reducible apply Rw.tmod H hp | with_reducible apply Rw.mul H | with_reducible apply Rw.neg0 H | with_reducible apply Rw.sub H | with_reducible apply Rw.add H | with_reducible apply Vl.rw hp | decide))
      · clear hM hS v00 v10 w10 v01 w01 v11 a1 a2 l0 l1 l2 vh m0 m1 m2 hm hlead hnn hne
        (try simp only [H.two, H.neg, H.zero, H.one]) <;> grind) hlead).2
  have hi : M.2 = true ∧ Cc p φ M.1 ((2 * φ l.1 * φ l.2.1)⁻¹ * (-((φ l.1) * (φ l.1)))) ((2 * φ l.1 * φ l.2.1)⁻¹ * (2 * (2 * φ l.1 * φ l.2.1) - 2 * (φ l.1) * (φ l.2.1))) ((2 * φ l.1 * φ l.2.1)⁻¹ * (-((φ l.2.1) * (φ l.2.1)))) ((2 * φ l.1 * φ l.2.1)⁻¹ * (-(2 * (2 * φ l.1 * φ l.2.1) * (φ a.2)) - 2 * (φ l.1) * (φ l.2.2))) ((2 * φ l.1 * φ l.2.1)⁻¹ * (-(2 * (2 * φ l.1 * φ l.2.1) * (φ a.1)) - 2 * (φ l.2.1) * (φ l.2.2))) ((2 * φ l.1 * φ l.2.1)⁻¹ * (2 * (2 * φ l.1 * φ l.2.1) * (φ a.1) * (φ a.2) - (φ l.2.2) * (φ l.2.2))) := by
    rw [← hM]
    refine cc_make H hf (by
      dsimp only
      apply Rx.conv
      · (repeat' (first | assumption | exact Vl.rw hp (by assumption) | exact Rw.lit _ (by decide) | exact Rw.nlit _ (by decide) | with_reducible apply Vl.rest H hp | with_reducible apply Vl.smod H hp | with_reducible apply Vl.div H hf | with_reducible apply Vl.inv H hf | with_reducible apply Vl.sinvV H hf | with_reducible apply Vl.sinvR H hf | with_reducible apply Rw.tmod H hp | with_reducible apply Rw.mul H | with_reducible apply Rw.neg0 H | with_reducible apply Rw.sub H | with_reducible apply Rw.add H | with_reducible apply Vl.rw hp | decide))
      · try simp only [H.two]
        clear hM hS hs v00 v10 w10 v01 w01 v11 a1 a2 l0 l1 l2 vh m0 m1 m2 hm hlead hne
        have hh : (2 : K) * (2 : K)⁻¹ = 1 := Lean.Grind.Field.mul_inv_cancel h2
        have hi : (2 * φ l.1 * φ l.2.1) * ((2 * φ l.1 * φ l.2.1))⁻¹ = 1 := Lean.Grind.Field.mul_inv_cancel hnn
        generalize (2 : K)⁻¹ = half at hh ⊢
        generalize ((2 * φ l.1 * φ l.2.1))⁻¹ = inv at hi ⊢
        clear hnn
        generalize φ l.1 = u at hi ⊢; generalize φ l.2.1 = v at hi ⊢; generalize φ l.2.2 = w; generalize φ a.1 = x; generalize φ a.2 = y
        grind) (by
      dsimp only
      apply Rx.conv
      · (repeat' (first | assumption | exact Vl.rw hp (by assumption) | exact Rw.lit _ (by decide) | exact Rw.nlit _ (by decide) | with_reducible apply Vl.rest H hp | with_reducible apply Vl.smod H hp | with_reducible apply Vl.div H hf | with_reducible apply Vl.inv H hf | with_reducible apply Vl.sinvV H hf | with_reducible apply Vl.sinvR H hf | with_reducible apply Rw.tmod H hp | with_reducible apply Rw.mul H | with_reducible apply Rw.neg0 H | with_reducible apply Rw.sub H | with_reducible apply Rw.add H | with_reducible apply Vl.rw hp | decide))
      · try simp only [H.two]
        clear hM hS hs v00 v10 w10 v01 w01 v11 a1 a2 l0 l1 l2 vh m0 m1 m2 hm hlead hne
        have hh : (2 : K) * (2 : K)⁻¹ = 1 := Lean.Grind.Field.mul_inv_cancel h2
        have hi : (2 * φ l.1 * φ l.2.1) * ((2 * φ l.1 * φ l.2.1))⁻¹ = 1 := Lean.Grind.Field.mul_inv_cancel hnn
        generalize (2 : K)⁻¹ = half at hh ⊢
        generalize ((2 * φ l.1 * φ l.2.1))⁻¹ = inv at hi ⊢
        clear hnn
        generalize φ l.1 = u at hi ⊢; generalize φ l.2.1 = v at hi ⊢; generalize φ l.2.2 = w; generalize φ a.1 = x; generalize φ a.2 = y
        grind) (by
      dsimp only
      apply Rx.conv
      · (repeat' (first | assumption | exact Vl.rw hp (by assumption) | exact Rw.lit _ (by decide) | exact Rw.nlit _ (by decide) | with_reducible apply Vl.rest H hp | with_reducible apply Vl.smod H hp | with_reducible apply Vl.div H hf | with_reducible apply Vl.inv H hf | with_reducible apply Vl.sinvV H hf | with_reducible apply Vl.sinvR H hf | with_reducible apply Rw.tmod H hp | with_reducible apply Rw.mul H | with_reducible apply Rw.neg0 H | with_reducible apply Rw.sub H | with_reducible apply Rw.add H | with_reducible apply Vl.rw hp | decide))
      · try simp only [H.two]
        clear hM hS hs v00 v10 w10 v01 w01 v11 a1 a2 l0 l1 l2 vh m0 m1 m2 hm hlead hne
        have hh : (2 : K) * (2 : K)⁻¹ = 1 := Lean.Grind.Field.mul_inv_cancel h2
        have hi : (2 * φ l.1 * φ l.2.1) * ((2 * φ l.1 * φ l.2.1))⁻¹ = 1 := Lean.Grind.Field.mul_inv_cancel hnn
        generalize (2 : K)⁻¹ = half at hh ⊢
        generalize ((2 * φ l.1 * φ l.2.1))⁻¹ = inv at hi ⊢
        clear hnn
        generalize φ l.1 = u at hi ⊢; generalize φ l.2.1 = v at hi ⊢; generalize φ l.2.2 = w; generalize φ a.1 = x; generalize φ a.2 = y
        grind) (by
      dsimp only
      apply Rx.conv
      · (repeat' (first | assumption | exact Vl.rw hp (by assumption) | exact Rw.lit _ (by decide) | exact Rw.nlit _ (by decide) | with_reducible apply Vl.rest H hp | with_reducible apply Vl.smod H hp | with_reducible apply Vl.div H hf | with_reducible apply Vl.inv H hf | with_reducible apply Vl.sinvV H hf | with_reducible apply Vl.sinvR H hf | with_reducible apply Rw.tmod H hp | with_reducible apply Rw.mul H | with_reducible apply Rw.neg0 H | with_reducible apply Rw.sub H | with_reducible apply Rw.add H | with_reducible apply Vl.rw hp | decide))
      · try simp only [H.two]
        clear hM hS hs v00 v10 w10 v01 w01 v11 a1 a2 l0 l1 l2 vh m0 m1 m2 hm hlead hne
        have hh : (2 : K) * (2 : K)⁻¹ = 1 := Lean.Grind.Field.mul_inv_cancel h2
        have hi : (2 * φ l.1 * φ l.2.1) * ((2 * φ l.1 * φ l.2.1))⁻¹ = 1 := Lean.Grind.Field.mul_inv_cancel hnn
        generalize (2 : K)⁻¹ = half at hh ⊢
        generalize ((2 * φ l.1 * φ l.2.1))⁻¹ = inv at hi ⊢
        clear hnn
        generalize φ l.1 = u at hi ⊢; generalize φ l.2.1 = v at hi ⊢; generalize φ l.2.2 = w; generalize φ a.1 = x; generalize φ a.2 = y
        grind) (by
      dsimp only
      apply Rx.conv
      · (repeat' (first | assumption | exact Vl.rw hp (by assumption) | exact Rw.lit _ (by decide) | exact Rw.nlit _ (by decide) | with_reducible apply Vl.rest H hp | with_reducible apply Vl.smod H hp | with_reducible apply Vl.div H hf | with_reducible apply Vl.inv H hf | with_reducible apply Vl.sinvV H hf | with_reducible apply Vl.sinvR H hf | with_reducible apply Rw.tmod H hp | with_reducible apply Rw.mul H | with_reducible apply Rw.neg0 H | with_reducible apply Rw.sub H | with_reducible apply Rw.add H | with_reducible apply Vl.rw hp | decide))
      · try simp only [H.two]
        clear hM hS hs v00 v10 w10 v01 w01 v11 a1 a2 l0 l1 l2 vh m0 m1 m2 hm hlead hne
        have hh : (2 : K) * (2 : K)⁻¹ = 1 := Lean.Grind.Field.mul_inv_cancel h2
        have hi : (2 * φ l.1 * φ l.2.1) * ((2 * φ l.1 * φ l.2.1))⁻¹ = 1 := Lean.Grind.Field.mul_inv_cancel hnn
        generalize (2 : K)⁻¹ = half at hh ⊢
        generalize ((2 * φ l.1 * φ l.2.1))⁻¹ = inv at hi ⊢
        clear hnn
        generalize φ l.1 = u at hi ⊢; generalize φ l.2.1 = v at hi ⊢; generalize φ l.2.2 = w; generalize φ a.1 = x; generalize φ a.2 = y
        grind) (by
      dsimp only
      apply Rx.conv
      · (repeat' (first | assumption | exact Vl.rw hp (by assumption) | exact Rw.lit _ (by decide) | exact Rw.nlit _ (by decide) | with_reducible apply Vl.rest H hp | with_reducible apply Vl.smod H hp | with_reducible apply Vl.div H hf | with_reducible apply Vl.inv H hf | with_reducible apply Vl.sinvV H hf | with_reducible apply Vl.sinvR H hf | with_reducible apply Rw.tmod H hp | with_reducible apply Rw.mul H | with_reducible apply Rw.neg0 H | with_reducible apply Rw.sub H | with_reducible apply Rw.add H | with_reducible apply Vl.rw hp | decide))
      · try simp only [H.two]
        clear hM hS hs v00 v10 w10 v01 w01 v11 a1 a2 l0 l1 l2 vh m0 m1 m2 hm hlead hne
        have hh : (2 : K) * (2 : K)⁻¹ = 1 := Lean.Grind.Field.mul_inv_cancel h2
        have hi : (2 * φ l.1 * φ l.2.1) * ((2 * φ l.1 * φ l.2.1))⁻¹ = 1 := Lean.Grind.Field.mul_inv_cancel hnn
        generalize (2 : K)⁻¹ = half at hh ⊢
        generalize ((2 * φ l.1 * φ l.2.1))⁻¹ = inv at hi ⊢
        clear hnn
        generalize φ l.1 = u at hi ⊢; generalize φ l.2.1 = v at hi ⊢; generalize φ l.2.2 = w; generalize φ a.1 = x; generalize φ a.2 = y
        grind) (by
    have hi : (2 * φ l.1 * φ l.2.1)⁻¹ ≠ 0 := by grind
    clear hM hS hs v00 v10 w10 v01 w01 v11 a1 a2 l0 l1 l2 vh m0 m1 m2 hm hne
    grind)
  rw [hi.1]
  simp only [Bool.not_true, Bool.false_eq_true, if_false]
  have e := Cc.inj H (Cc.scale (2 * φ l.1 * φ l.2.1)⁻¹ (by grind) rfl rfl rfl rfl rfl rfl hi.2) hs
  rw [e]
theorem parabola_same {p : Int} (hf : i_IsField p = true) {c : Int} (hc : isC c) {a : P2} {l : P3} (ha : i_isPoint p a = true) (hl : i_isLine p l = true) (hn : i_isNull p c l = false) : i_ParabolaOf p c a l = s_ParabolaOf p c a l := by
  rcases hc with rfl | rfl | rfl
  · exact parabola_0 hf ha hl hn
  · exact parabola_1 hf ha hl hn
  · exact parabola_2 hf ha hl hn
theorem ParabolaOf_law (p : Int) (c : Int) (a : P2) (l : P3) : l_FnExactParabolaOf p c a l = true := by
  have e : i_ParabolaOf p c a l = s_ParabolaOf p c a l := by
    cases hf : i_IsField p
    · unfold i_ParabolaOf s_ParabolaOf i_ParabolaOf_c1
      rw [bothcode p true]
      simp [i_asked, hf]
    · cases hc : i_isColour c
      · unfold i_ParabolaOf s_ParabolaOf i_ParabolaOf_c1
        rw [bothcode p true, colour_eq, hc]
        cases ha : i_isPoint p a <;> cases hl : i_isLine p l <;> simp [i_asked, hf]
      · cases ha : i_isPoint p a
        · unfold i_ParabolaOf s_ParabolaOf i_ParabolaOf_c1
          rw [bothcode p true, colour_eq, hc, ha]
          simp [i_asked, hf]
        · cases hl : i_isLine p l
          · unfold i_ParabolaOf s_ParabolaOf i_ParabolaOf_c1
            rw [bothcode p true, colour_eq, hc, ha, hl]
            simp [i_asked, hf]
          · cases hn : i_isNull p c l
            · exact parabola_same hf (isC_of hc) ha hl hn
            · unfold i_ParabolaOf s_ParabolaOf i_ParabolaOf_c1
              have hn' : s_l02Perpendicular p c l l = true := hn
              rw [bothcode p true, colour_eq, hc, ha, hl, hn, hn']
              simp [i_asked, hf]
  unfold l_FnExactParabolaOf
  rw [show l_toPoint a = a from rfl, show l_toLine l = l from rfl, e]
  simp [eqConic_self]

set_option maxRecDepth 100000 in
theorem FnExactParabolaOf_lifted (os : Os) (started : os.Started) (H : Type) (enc : TypeId × Value → H) :
    ReturnsInHanded {} Try.checked os 12 .any (Rows.fnExactParabolaOfSpec.pre6 enc Try.prog Try.f12 Rows.fnExactParabolaOfRow.domain false) (Rows.fnExactParabolaOfSpec.post enc Try.prog Try.f12 false true false false) := by
  refine returnsInHanded_of_change (C := Try.checked) Try.own started (by kernel_rfl) Try.func12
    (ChangeSpec.witness6 (enc := enc) (C := Try.checked) false ⟨#[], #[.int .i64 0, .int .i64 0, .agg #[.int .i64 0, .int .i64 0], .agg #[.int .i64 0, .int .i64 0, .int .i64 0]], []⟩ 8 (by kernel_rfl) (by kernel_rfl) (by kernel_rfl) (by kernel_rfl)) ?_
  intro W base args ds gs before hval0 hW hcnd _
  have hval : ∀ (j : Nat) t v, Try.f12.params[j]? = some t → args[j]? = some v → Value.okWide Try.prog W .any base t v := hval0
  have hW' := hW
  obtain ⟨p, q, hA0, hV, rfl, hfz, hnd⟩ := hW
  have hA : DataW.TrodAll enc Try.prog W 0 (fun _ => true) true Try.f12.params.toList args.toList ds p := hA0
  rw [Try.params12] at hA hval
  have hAk := hA
  obtain ⟨v0, vs0, d0, ds0, p0, q0, hargs, rfl, rfl, h0, r0⟩ := trodAll_cons hA
  obtain ⟨v1, vs1, d1, ds1, p1, q1, rfl, rfl, rfl, h1, r1⟩ := trodAll_cons r0
  obtain ⟨v2, vs2, d2, ds2, p2, q2, rfl, rfl, rfl, h2, r2⟩ := trodAll_cons r1
  obtain ⟨v3, vs3, d3, ds3, p3, q3, rfl, rfl, rfl, h3, r3⟩ := trodAll_cons r2
  obtain ⟨rfl, rfl, rfl⟩ := trodAll_nil r3
  obtain rfl : args = #[v0, v1, v2, v3] := by
    apply Array.toList_inj.1
    exact hargs
  obtain ⟨rfl, rfl⟩ := trodVars_none hV
  clear hA0 hval0
  simp only [List.append_nil] at hW' hAk
  obtain ⟨x0, rfl, i0⟩ := open_i64 Try.underlying2 (hval 0 2 v0 rfl rfl)
  obtain ⟨x1, rfl, i1⟩ := open_i64 Try.underlying2 (hval 1 2 v1 rfl rfl)
  obtain ⟨xs2, hl2, rfl, i2⟩ := open_arr (n := 2) (ts := [2, 2]) Try.underlying42 (by kernel_rfl) (by kernel_rfl) (by intro u hu; simp at hu; subst hu; exact Try.underlying2) (hval 2 42 v2 rfl rfl)
  obtain ⟨x2_0, x2_1, rfl⟩ := len2 hl2
  obtain ⟨xs3, hl3, rfl, i3⟩ := open_arr (n := 3) (ts := [2, 2, 2]) Try.underlying43 (by kernel_rfl) (by kernel_rfl) (by intro u hu; simp at hu; subst hu; exact Try.underlying2) (hval 3 43 v3 rfl rfl)
  obtain ⟨x3_0, x3_1, x3_2, rfl⟩ := len3 hl3
  have hc := bool_any (sound_l_FnExactParabolaOf W [.v (.int .i64 x0), .v (.int .i64 x1), .v (.agg ⟨[.int .i64 x2_0, .int .i64 x2_1]⟩), .v (.agg ⟨[.int .i64 x3_0, .int .i64 x3_1, .int .i64 x3_2]⟩)] [.int .i64 x0, .int .i64 x1, .agg ⟨[.int .i64 x2_0, .int .i64 x2_1]⟩, .agg ⟨[.int .i64 x3_0, .int .i64 x3_1, .int .i64 x3_2]⟩] _ ⟨rfl, rfl, rfl, rfl, True.intro⟩ rfl) (ParabolaOf_law x0 x1 (x2_0, x2_1) (x3_0, x3_1, x3_2))
  refine hc.mono fun e W2 ⟨he, hb⟩ => ?_
  subst he
  refine ⟨_, rfl, _, _, _, [], p0 ++ (p1 ++ (p2 ++ (p3))), [], hW', ?_, ?_, rfl, Below.frame hb _, fun h => by cases h⟩
  · exact trodAll_mk1 (shut_bool Try.underlying4 true)
  · exact trodAll_stays Try.laidOut hb (ts := [2, 2, 42, 43]) (by intro t ht; simp at ht; rcases ht with rfl | rfl | rfl | rfl <;> exact ⟨by kernel_rfl, of_decide_eq_true (by kernel_rfl)⟩) hAk (fun x hx => hW'.lt x hx)
theorem FnExactParabolaOf_holds : Rows.FnExactParabolaOfSaid :=
  OpenClaim.holds_of_wide 12 Try.f12 rfl rfl rfl rfl rfl rfl rfl ⟨rfl, rfl, rfl, rfl, rfl⟩ rfl rfl rfl rfl rfl (by kernel_rfl) Try.func12 FnExactParabolaOf_facts
    (of_decide_eq_true (by kernel_rfl)) (by unfold Func.isWrapper; first | (rw [if_pos (by decide +kernel)]; kernel_rfl) | (rw [if_neg (by decide +kernel)]; exact ⟨rfl, rfl⟩))
    (fun os started H enc _ => FnExactParabolaOf_lifted os started H enc)
end Go.Proofs.Ytjpckmpeahinkaa
