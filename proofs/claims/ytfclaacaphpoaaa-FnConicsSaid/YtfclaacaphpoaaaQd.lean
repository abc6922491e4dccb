import Derived.Test.YtfclaacaphpoaaaQc
set_option linter.unusedSimpArgs false
set_option linter.unusedVariables false
namespace Go.Proofs.Ytfclaacaphpoaaa
open Go.RowKit
theorem lin_nn {x y z a b : Int} (hx : 0 ≤ x ∧ x ≤ 60) (ha : 0 ≤ a ∧ a ≤ 30) (hy : 0 ≤ y ∧ y ≤ 60) (hb : 0 ≤ b ∧ b ≤ 30) (hz : 0 ≤ z ∧ z ≤ 60) : 0 ≤ wrap64 (wrap64 (wrap64 (x * a) + wrap64 (y * b)) + z) := by
  have mb : ∀ {u v : Int}, 0 ≤ u ∧ u ≤ 60 → 0 ≤ v ∧ v ≤ 30 → 0 ≤ u * v ∧ u * v ≤ 1800 := by
    intro u v hu hv
    refine ⟨Int.mul_nonneg hu.1 hv.1, ?_⟩
    calc u * v ≤ 60 * v := Int.mul_le_mul_of_nonneg_right hu.2 hv.1
      _ ≤ 1800 := by omega
  have m1 := mb hx ha; have m2 := mb hy hb
  rw [wrapS (x := x * a) (by omega), wrapS (x := y * b) (by omega), wrapS (x := x * a + y * b) (by omega), wrapS (by omega)]
  omega
theorem normal_eq {p a b c : Int} (h : i_IsField p = true) (ha : 0 ≤ a ∧ a < p) (hb : 0 ≤ b ∧ b < p) (hc : 0 ≤ c ∧ c < p) : s_l01Normal p a b c = i_makeLine p a b c := by
  unfold s_l01Normal i_makeLine i_divide i_rest s_l01Mod
  rw [mod_id ha, mod_id hb, mod_id hc, (inv_facts h ha).1, (inv_facts h hb).1]
theorem isPoint_num {p : Int} {a : P2} (h : i_isPoint p a = true) : (0 ≤ a.1 ∧ a.1 < p) ∧ (0 ≤ a.2 ∧ a.2 < p) := by
  unfold i_isPoint at h
  simpa [i_areNumbers, isNumber_iff] using h
theorem polar_same {p : Int} {k : P6} {a : P2} (h : i_IsField p = true) (hk : i_isConic p k = true) (ha : i_isPoint p a = true) : s_l08Polar p k a = i_polarLine p k a := by
  have hp := i_IsField_ok h
  obtain ⟨k0, k1, k2, k3, k4, k5⟩ := isConic_num hk
  obtain ⟨a0, a1⟩ := isPoint_num ha
  have hp2 := hp
  unfold Pr at hp2
  have d0 : wrap64 (2 * k.1) = 2 * k.1 := wrapS (by omega)
  have d2 : wrap64 (2 * k.2.2.1) = 2 * k.2.2.1 := wrapS (by omega)
  have d5 : wrap64 (2 * k.2.2.2.2.2) = 2 * k.2.2.2.2.2 := wrapS (by omega)
  have hU := lin_nn (x := wrap64 (2 * k.1)) (a := a.1) (y := k.2.1) (b := a.2) (z := k.2.2.2.1) (by omega) (by omega) (by omega) (by omega) (by omega)
  have hV := lin_nn (x := k.2.1) (a := a.1) (y := wrap64 (2 * k.2.2.1)) (b := a.2) (z := k.2.2.2.2.1) (by omega) (by omega) (by omega) (by omega) (by omega)
  have hW := lin_nn (x := k.2.2.2.1) (a := a.1) (y := k.2.2.2.2.1) (b := a.2) (z := wrap64 (2 * k.2.2.2.2.2)) (by omega) (by omega) (by omega) (by omega) (by omega)
  unfold s_l08Polar i_polarLine i_polar i_rest
  simp only [tmod_pos hU, tmod_pos hV, tmod_pos hW]
  rw [normal_eq h (rest_b hp _) (rest_b hp _) (rest_b hp _)]
theorem given_eq (p : Int) (b : Bool) (k : P6) (a : P2) : s_l08Given p k a = i_asked p b (if i_isConic p k = true then i_isPoint p a else false) := by
  unfold s_l08Given s_l08Code s_l01Code i_asked s_l01Field
  cases h : i_IsField p
  · rfl
  · have hp := i_IsField_ok h
    simp only [conic_eq hp, List.all_cons, List.all_nil, Bool.and_true, point_eq hp]
    cases i_isConic p k <;> cases i_isPoint p a <;> rfl
end Go.Proofs.Ytfclaacaphpoaaa
