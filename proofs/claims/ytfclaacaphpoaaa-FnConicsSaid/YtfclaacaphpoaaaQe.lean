import Derived.Test.YtfclaacaphpoaaaQw
set_option linter.unusedSimpArgs false
set_option linter.unusedVariables false
namespace Go.Proofs.Ytfclaacaphpoaaa
open Go.RowKit
theorem rests_of {p : Int} (hp : Pr p) : ∃ q : Nat, q ≠ 0 ∧ (q : Int) = p := by unfold Pr at hp; exact ⟨p.toNat, by omega, by omega⟩
theorem determinant_eq {p : Int} {k : P6} (h : i_IsField p = true) (hk : i_isConic p k = true) : s_l08Determinant p k = i_determinant p k := by
  have hp := i_IsField_ok h
  obtain ⟨k0, k1, k2, k3, k4, k5⟩ := isConic_num hk
  replace k0 := bd_of hp k0; replace k1 := bd_of hp k1; replace k2 := bd_of hp k2; replace k3 := bd_of hp k3; replace k4 := bd_of hp k4; replace k5 := bd_of hp k5
  unfold s_l08Determinant i_determinant i_threeBy
  show (_ : Int) % p = (_ : Int) % p
  dsimp only
  apply W.mods
  · (repeat' (first | exact W.bd (by assumption) | exact W.lit _ (by decide) | with_reducible apply W.rest (by assumption) | with_reducible apply W.smod (by assumption) | with_reducible apply W.mod (by assumption) | with_reducible apply W.mul | with_reducible apply W.sub | with_reducible apply W.add | with_reducible apply W.neg | decide))
  · (repeat' (first | exact W.bd (by assumption) | exact W.lit _ (by decide) | with_reducible apply W.rest (by assumption) | with_reducible apply W.smod (by assumption) | with_reducible apply W.mod (by assumption) | with_reducible apply W.mul | with_reducible apply W.sub | with_reducible apply W.add | with_reducible apply W.neg | decide))
  · obtain ⟨q, hq, rfl⟩ := rests_of hp
    haveI : NeZero q := ⟨hq⟩
    apply mod_of_ph
    simp only [ph_add, ph_mul, ph_sub, ph_mod]
    grind
theorem tmod0 (x p : Int) : (x.tmod p == 0) = (x % p == 0) := by
  rw [Bool.eq_iff_iff]
  simp only [beq_iff_eq]
  exact ⟨fun h => Int.emod_eq_zero_of_dvd (Int.dvd_of_tmod_eq_zero h), fun h => Int.tmod_eq_zero_of_dvd (Int.dvd_of_emod_eq_zero h)⟩
theorem W_mod {p x y n : Int} (h : W x y n) : x % p = y % p := by rw [h.1]
theorem onconic_eq {p : Int} {k : P6} {a : P2} (h : i_IsField p = true) (hk : i_isConic p k = true) (ha : i_isPoint p a = true) : i_isOnConic p a k = (s_l08Value p k a == 0) := by
  have hp := i_IsField_ok h
  obtain ⟨k0, k1, k2, k3, k4, k5⟩ := isConic_num hk
  obtain ⟨a0, a1⟩ := isPoint_num ha
  replace k0 := bd_of hp k0; replace k1 := bd_of hp k1; replace k2 := bd_of hp k2; replace k3 := bd_of hp k3; replace k4 := bd_of hp k4; replace k5 := bd_of hp k5
  replace a0 := bd_of hp a0; replace a1 := bd_of hp a1
  have r0 : (wrap64 (a.1 * a.1)).tmod p = (a.1 * a.1) % p := by rw [w_mul a0 a0, tmod_pos (mul_b a0 a0).1]
  have r1 : (wrap64 (a.1 * a.2)).tmod p = (a.1 * a.2) % p := by rw [w_mul a0 a1, tmod_pos (mul_b a0 a1).1]
  have r2 : (wrap64 (a.2 * a.2)).tmod p = (a.2 * a.2) % p := by rw [w_mul a1 a1, tmod_pos (mul_b a1 a1).1]
  unfold i_isOnConic i_row s_l08Value s_l01Mod
  rw [tmod0]
  simp only [r0, r1, r2]
  refine congrArg (fun x : Int => x == 0) ?_
  apply W.mods
  · (repeat' (first | exact W.bd (by assumption) | exact W.bd (rest_bd (by assumption) _) | exact W.lit _ (by decide) | with_reducible apply W.rest (by assumption) | with_reducible apply W.smod (by assumption) | with_reducible apply W.mod (by assumption) | with_reducible apply W.mul | with_reducible apply W.sub | with_reducible apply W.add | with_reducible apply W.neg | decide))
  · (repeat' (first | exact W.bd (by assumption) | exact W.bd (rest_bd (by assumption) _) | exact W.lit _ (by decide) | with_reducible apply W.rest (by assumption) | with_reducible apply W.smod (by assumption) | with_reducible apply W.mod (by assumption) | with_reducible apply W.mul | with_reducible apply W.sub | with_reducible apply W.add | with_reducible apply W.neg | decide))
  · obtain ⟨q, hq, rfl⟩ := rests_of hp
    haveI : NeZero q := ⟨hq⟩
    apply mod_of_ph
    simp only [ph_add, ph_mul, ph_sub, ph_mod, ph_zero, ph_one]
    grind

end Go.Proofs.Ytfclaacaphpoaaa
