import Derived.Test.YtfclaacaphpoaaaQi
set_option linter.unusedSimpArgs false
set_option linter.unusedVariables false
namespace Go.Proofs.Ytfclaacaphpoaaa
open Go.RowKit
/-! Kinds, centres and poles of conics. -/
theorem conic_ne {p : Int} {k : P6} (h : i_isConic p k = true) : k.1 = 1 ∨ k.1 = 0 ∧ (k.2.1 = 1 ∨ k.2.1 = 0 ∧ k.2.2.1 = 1) := by
  unfold i_isConic at h
  by_cases h0 : k.1 = 0
  · by_cases h1 : k.2.1 = 0
    · by_cases h2 : k.2.2.1 = 0
      · simp [h0, h1, h2] at h
      · simp [h0, h1, h2] at h; exact Or.inr ⟨h0, Or.inr ⟨h1, h.2⟩⟩
    · simp [h0, h1] at h; exact Or.inr ⟨h0, Or.inl h.2⟩
  · simp [h0] at h; exact Or.inl h.2
theorem find_root (l : List Nat) (t : Nat → Bool) : decide ((l.findSome? (fun k => if t k = true then some (k : Int) else none)).getD (-1) ≥ 0) = ((l.findSome? (fun k => if t k = true then some ((k : Int), true) else none)).getD (0, false)).2 := by
  induction l with
  | nil => rfl
  | cons a l ih =>
    rw [List.findSome?_cons, List.findSome?_cons]
    cases h : t a
    · simpa [h] using ih
    · simp
theorem root_same (p a : Int) : decide (i_root p a ≥ 0) = (s_l01Root a p).2 := by
  unfold i_root s_l01Root
  exact find_root _ (fun k => (wrap64 ((k : Int) * (k : Int))).tmod p == a)
theorem square_same (p a : Int) : s_l01Square a p = i_squareKind p a := by
  unfold s_l01Square i_squareKind
  rw [root_same]
theorem kind_same (p : Int) (k : P6) : s_l08Kind p k = i_conicKind p k := by
  unfold s_l08Kind i_conicKind
  rw [square_same]
  rfl
section
variable {p : Int} {K : Type} [Lean.Grind.Field K] {φ : Int → K}
theorem kind_zero (H : Hom p K φ) {k : P6} (hf : i_IsField p = true) (hk : i_isConic p k = true) : i_conicKind p k = 0 ↔ φ k.2.1 * φ k.2.1 - 4 * φ k.1 * φ k.2.2.1 = 0 := by
  have hp := i_IsField_ok hf
  obtain ⟨k0, k1, k2, k3, k4, k5⟩ := isConic_num hk
  have v0 := Vl.of (φ := φ) k0; have v1 := Vl.of (φ := φ) k1; have v2 := Vl.of (φ := φ) k2
  have v : Vl p φ (i_rest p (wrap64 (wrap64 (k.2.1 * k.2.1) - wrap64 (wrap64 (4 * k.1) * k.2.2.1)))) (φ k.2.1 * φ k.2.1 - φ 4 * φ k.1 * φ k.2.2.1) := by (repeat' (first | assumption | exact Vl.rw hp (by assumption) | exact Rw.lit _ (by decide) | exact Rw.nlit _ (by decide) | with_reducible apply Vl.rest H hp | with_reducible apply Vl.smod H hp | with_reducible apply Vl.div H hf | with_reducible apply Vl.inv H hf | with_reducible apply Vl.sinvV H hf | with_reducible apply Vl.sinvR H hf | with_reducible apply Rw.tmod H hp | with_reducible apply Rw.mul H | with_reducible apply Rw.neg0 H | with_reducible apply Rw.sub H | with_reducible apply Rw.add H | with_reducible apply Vl.rw hp | decide))
  rw [H.four] at v
  rw [← Vl.zero_iff H v]
  unfold i_conicKind i_squareKind
  generalize i_rest p (wrap64 (wrap64 (k.2.1 * k.2.1) - wrap64 (wrap64 (4 * k.1) * k.2.2.1))) = D
  by_cases e : D = 0
  · simp [e]
  · rw [if_neg (by simpa using e)]
    cases decide (i_root p D ≥ 0) <;> simp [e]
theorem vl_polar1 (H : Hom p K φ) (hf : i_IsField p = true) {k : P6} {a : P2} (hk : i_isConic p k = true) (ha : i_isPoint p a = true) : Vl p φ (i_polar p k a).1 (2 * φ k.1 * φ a.1 + φ k.2.1 * φ a.2 + φ k.2.2.2.1) := by
  have hp := i_IsField_ok hf
  obtain ⟨k0, k1, k2, k3, k4, k5⟩ := isConic_num hk
  obtain ⟨a0, a1⟩ := isPoint_num ha
  have v0 := Vl.of (φ := φ) k0; have v1 := Vl.of (φ := φ) k1; have v3 := Vl.of (φ := φ) k3; have w0 := Vl.of (φ := φ) a0; have w1 := Vl.of (φ := φ) a1
  have v : Vl p φ (i_polar p k a).1 (φ 2 * φ k.1 * φ a.1 + φ k.2.1 * φ a.2 + φ k.2.2.2.1) := by
    unfold i_polar
    dsimp only
    (repeat' (first | assumption | exact Vl.rw hp (by assumption) | exact Rw.lit _ (by decide) | exact Rw.nlit _ (by decide) | with_reducible apply Vl.rest H hp | with_reducible apply Vl.smod H hp | with_reducible apply Vl.div H hf | with_reducible apply Vl.inv H hf | with_reducible apply Vl.sinvV H hf | with_reducible apply Vl.sinvR H hf | with_reducible apply Rw.tmod H hp | with_reducible apply Rw.mul H | with_reducible apply Rw.neg0 H | with_reducible apply Rw.sub H | with_reducible apply Rw.add H | with_reducible apply Vl.rw hp | decide))
  rwa [H.two] at v
theorem vl_polar2 (H : Hom p K φ) (hf : i_IsField p = true) {k : P6} {a : P2} (hk : i_isConic p k = true) (ha : i_isPoint p a = true) : Vl p φ (i_polar p k a).2.1 (φ k.2.1 * φ a.1 + 2 * φ k.2.2.1 * φ a.2 + φ k.2.2.2.2.1) := by
  have hp := i_IsField_ok hf
  obtain ⟨k0, k1, k2, k3, k4, k5⟩ := isConic_num hk
  obtain ⟨a0, a1⟩ := isPoint_num ha
  have v0 := Vl.of (φ := φ) k1; have v1 := Vl.of (φ := φ) k2; have v3 := Vl.of (φ := φ) k4; have w0 := Vl.of (φ := φ) a0; have w1 := Vl.of (φ := φ) a1
  have v : Vl p φ (i_polar p k a).2.1 (φ k.2.1 * φ a.1 + φ 2 * φ k.2.2.1 * φ a.2 + φ k.2.2.2.2.1) := by
    unfold i_polar
    dsimp only
    (repeat' (first | assumption | exact Vl.rw hp (by assumption) | exact Rw.lit _ (by decide) | exact Rw.nlit _ (by decide) | with_reducible apply Vl.rest H hp | with_reducible apply Vl.smod H hp | with_reducible apply Vl.div H hf | with_reducible apply Vl.inv H hf | with_reducible apply Vl.sinvV H hf | with_reducible apply Vl.sinvR H hf | with_reducible apply Rw.tmod H hp | with_reducible apply Rw.mul H | with_reducible apply Rw.neg0 H | with_reducible apply Rw.sub H | with_reducible apply Rw.add H | with_reducible apply Vl.rw hp | decide))
  rwa [H.two] at v
/-- The lines of which the centre is the meet. -/
theorem ln_axis1 (H : Hom p K φ) (hf : i_IsField p = true) {k : P6} (hk : i_isConic p k = true) (hn : 2 * φ k.1 ≠ 0 ∨ φ k.2.1 ≠ 0) : Ln p φ (s_l01Normal p (wrap64 (2 * k.1)) k.2.1 k.2.2.2.1) (2 * φ k.1) (φ k.2.1) (φ k.2.2.2.1) := by
  have hp := i_IsField_ok hf
  obtain ⟨k0, k1, k2, k3, k4, k5⟩ := isConic_num hk
  have v0 := Vl.of (φ := φ) k0
  have r : Rw φ (wrap64 (2 * k.1)) (φ 2 * φ k.1) (2 * 30) := by (repeat' (first | assumption | exact Vl.rw hp (by assumption) | exact Rw.lit _ (by decide) | exact Rw.nlit _ (by decide) | with_reducible apply Vl.rest H hp | with_reducible apply Vl.smod H hp | with_reducible apply Vl.div H hf | with_reducible apply Vl.inv H hf | with_reducible apply Vl.sinvV H hf | with_reducible apply Vl.sinvR H hf | with_reducible apply Rw.tmod H hp | with_reducible apply Rw.mul H | with_reducible apply Rw.neg0 H | with_reducible apply Rw.sub H | with_reducible apply Rw.add H | with_reducible apply Vl.rw hp | decide))
  rw [H.two] at r
  exact ln_normal H hf r (Vl.rw hp (Vl.of k1)) (Vl.rw hp (Vl.of k3)) (by decide) (by decide) (by decide) hn
theorem ln_axis2 (H : Hom p K φ) (hf : i_IsField p = true) {k : P6} (hk : i_isConic p k = true) (hn : φ k.2.1 ≠ 0 ∨ 2 * φ k.2.2.1 ≠ 0) : Ln p φ (s_l01Normal p k.2.1 (wrap64 (2 * k.2.2.1)) k.2.2.2.2.1) (φ k.2.1) (2 * φ k.2.2.1) (φ k.2.2.2.2.1) := by
  have hp := i_IsField_ok hf
  obtain ⟨k0, k1, k2, k3, k4, k5⟩ := isConic_num hk
  have v0 := Vl.of (φ := φ) k2
  have r : Rw φ (wrap64 (2 * k.2.2.1)) (φ 2 * φ k.2.2.1) (2 * 30) := by (repeat' (first | assumption | exact Vl.rw hp (by assumption) | exact Rw.lit _ (by decide) | exact Rw.nlit _ (by decide) | with_reducible apply Vl.rest H hp | with_reducible apply Vl.smod H hp | with_reducible apply Vl.div H hf | with_reducible apply Vl.inv H hf | with_reducible apply Vl.sinvV H hf | with_reducible apply Vl.sinvR H hf | with_reducible apply Rw.tmod H hp | with_reducible apply Rw.mul H | with_reducible apply Rw.neg0 H | with_reducible apply Rw.sub H | with_reducible apply Rw.add H | with_reducible apply Vl.rw hp | decide))
  rw [H.two] at r
  exact ln_normal H hf (Vl.rw hp (Vl.of k1)) r (Vl.rw hp (Vl.of k4)) (by decide) (by decide) (by decide) hn
end
theorem isPoint_mem {p : Int} {a : P2} (ha : a ∈ pts p) : i_isPoint p a = true := by
  have ha := mem_pts.1 ha
  simp [i_isPoint, i_areNumbers, i_isNumber]; omega
end Go.Proofs.Ytfclaacaphpoaaa
