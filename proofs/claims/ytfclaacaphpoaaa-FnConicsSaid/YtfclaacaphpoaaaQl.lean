import Derived.Test.YtfclaacaphpoaaaQk
set_option linter.unusedSimpArgs false
set_option linter.unusedVariables false
namespace Go.Proofs.Ytfclaacaphpoaaa
open Go.RowKit
theorem tangent_ok {p : Int} {k : P6} {a : P2} (h : i_IsField p = true) (hk : i_isConic p k = true) (ha : i_isPoint p a = true) (hd : i_determinant p k ≠ 0) (hv : s_l08Value p k a = 0) : (i_polarLine p k a).2 = true := by
  have hp := i_IsField_ok h
  rw [← determinant_eq h hk] at hd
  obtain ⟨k0, k1, k2, k3, k4, k5⟩ := isConic_num hk
  obtain ⟨a0, a1⟩ := isPoint_num ha
  replace k0 := bd_of hp k0; replace k1 := bd_of hp k1; replace k2 := bd_of hp k2; replace k3 := bd_of hp k3; replace k4 := bd_of hp k4; replace k5 := bd_of hp k5
  replace a0 := bd_of hp a0; replace a1 := bd_of hp a1
  have eu : (i_polar p k a).1 = (2 * k.1 * a.1 + k.2.1 * a.2 + k.2.2.2.1) % p := by
    unfold i_polar i_rest
    dsimp only
    apply W_mod
    (repeat' (first | exact W.bd (by assumption) | exact W.bd (rest_bd (by assumption) _) | exact W.lit _ (by decide) | with_reducible apply W.rest (by assumption) | with_reducible apply W.smod (by assumption) | with_reducible apply W.mod (by assumption) | with_reducible apply W.mul | with_reducible apply W.sub | with_reducible apply W.add | with_reducible apply W.neg | decide))
  have ev : (i_polar p k a).2.1 = (k.2.1 * a.1 + 2 * k.2.2.1 * a.2 + k.2.2.2.2.1) % p := by
    unfold i_polar i_rest
    dsimp only
    apply W_mod
    (repeat' (first | exact W.bd (by assumption) | exact W.bd (rest_bd (by assumption) _) | exact W.lit _ (by decide) | with_reducible apply W.rest (by assumption) | with_reducible apply W.smod (by assumption) | with_reducible apply W.mod (by assumption) | with_reducible apply W.mul | with_reducible apply W.sub | with_reducible apply W.add | with_reducible apply W.neg | decide))
  have ew : s_l08Value p k a = (k.1 * a.1 * a.1 + k.2.1 * a.1 * a.2 + k.2.2.1 * a.2 * a.2 + k.2.2.2.1 * a.1 + k.2.2.2.2.1 * a.2 + k.2.2.2.2.2) % p := by
    unfold s_l08Value s_l01Mod
    apply W_mod
    (repeat' (first | exact W.bd (by assumption) | exact W.bd (rest_bd (by assumption) _) | exact W.lit _ (by decide) | with_reducible apply W.rest (by assumption) | with_reducible apply W.smod (by assumption) | with_reducible apply W.mod (by assumption) | with_reducible apply W.mul | with_reducible apply W.sub | with_reducible apply W.add | with_reducible apply W.neg | decide))
  have ed : s_l08Determinant p k = (2 * k.1 * (2 * k.2.2.1 * (2 * k.2.2.2.2.2) - k.2.2.2.2.1 * k.2.2.2.2.1) - k.2.1 * (k.2.1 * (2 * k.2.2.2.2.2) - k.2.2.2.2.1 * k.2.2.2.1) + k.2.2.2.1 * (k.2.1 * k.2.2.2.2.1 - 2 * k.2.2.1 * k.2.2.2.1)) % p := by
    unfold s_l08Determinant s_l01Mod
    apply W_mod
    (repeat' (first | exact W.bd (by assumption) | exact W.bd (rest_bd (by assumption) _) | exact W.lit _ (by decide) | with_reducible apply W.rest (by assumption) | with_reducible apply W.smod (by assumption) | with_reducible apply W.mod (by assumption) | with_reducible apply W.mul | with_reducible apply W.sub | with_reducible apply W.add | with_reducible apply W.neg | decide))
  unfold i_polarLine
  cases hu : ((i_polar p k a).1 == 0) with
  | false => rfl
  | true =>
    cases hvv : ((i_polar p k a).2.1 == 0) with
    | false => rfl
    | true =>
      exfalso
      apply hd
      simp only [beq_iff_eq] at hu hvv
      rw [eu] at hu
      rw [ev] at hvv
      rw [ew] at hv
      rw [ed]
      clear eu ev ew ed hd h hk ha k0 k1 k2 k3 k4 k5 a0 a1
      obtain ⟨q, hq, rfl⟩ := rests_of hp
      haveI : NeZero q := ⟨hq⟩
      rw [zero_iff q] at hu hvv hv ⊢
      have two : ph q 2 = 2 := ph_lit q 2
      simp only [ph_add, ph_mul, ph_sub, two] at hu hvv hv ⊢
      grind
end Go.Proofs.Ytfclaacaphpoaaa
