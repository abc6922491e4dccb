import Derived.Test.YtnijajjdldijpaaQa
set_option linter.unusedSimpArgs false
set_option linter.unusedVariables false
namespace Go.Proofs.Ytnijajjdldijpaa
open Go.RowKit
/-! Plain facts of places. -/
theorem place_eq {p : Int} (hp : Pr p) (a : P3) : s_l09Is p a = i_isPlace p a := by
  obtain ⟨a0, a1, a2⟩ := a
  unfold s_l09Is i_isPlace
  simp only [in_eq hp]
  cases h0 : i_isNumber p a0 <;> cases h1 : i_isNumber p a1 <;> cases h2 : i_isNumber p a2 <;> simp [i_areNumbers, h0, h1, h2]
  all_goals (by_cases e0 : a0 = 0 <;> by_cases e1 : a1 = 0 <;> by_cases e2 : a2 = 0 <;> simp [e0, e1, e2])
theorem placecode_eq (p : Int) (k : Bool) (l : List P3) : s_l09Code p l = i_asked p k (i_arePlaces p l) := by
  unfold s_l09Code i_asked s_l01Field
  cases h : i_IsField p
  · rfl
  · have hp := i_IsField_ok h
    have e : l.all (fun a => s_l09Is p a) = i_arePlaces p l := by unfold i_arePlaces; congr 1; funext a; exact place_eq hp a
    rw [e]
theorem isPlace_num {p : Int} {a : P3} (h : i_isPlace p a = true) : (0 ≤ a.1 ∧ a.1 < p) ∧ (0 ≤ a.2.1 ∧ a.2.1 < p) ∧ (0 ≤ a.2.2 ∧ a.2.2 < p) := by
  unfold i_isPlace at h
  cases h0 : i_areNumbers p [a.1, a.2.1, a.2.2]
  · simp [h0] at h
  · simpa [i_areNumbers, isNumber_iff] using h0
theorem code1 (p : Int) (k : Bool) (a : P3) : s_l09Code p [a] = i_asked p k (i_isPlace p a) := by rw [placecode_eq p k]; simp [i_arePlaces]
theorem made_eq {p x y z : Int} (h : i_IsField p = true) (hx : 0 ≤ x ∧ x < p) (hy : 0 ≤ y ∧ y < p) (hz : 0 ≤ z ∧ z < p) : s_l09Made p x y z = i_makePlace p (x, y, z) := by
  unfold s_l09Made i_makePlace s_l01Mod
  rw [mod_id hx, mod_id hy, mod_id hz]
  simp only [divide_eq h hx hx, divide_eq h hx hy, divide_eq h hx hz, divide_eq h hy hx, divide_eq h hy hy, divide_eq h hy hz, divide_eq h hz hx, divide_eq h hz hy, divide_eq h hz hz]
  by_cases e0 : x = 0 <;> by_cases e1 : y = 0 <;> by_cases e2 : z = 0 <;> simp [e0, e1, e2]
  simp [i_divide, i_rest, wrap64]
theorem quadrance_eq {p : Int} (h : i_IsField p = true) (a b : P3) : s_l09Quadrance p a b = i_placeQuadrance p a b := by
  have hp := i_IsField_ok h
  unfold s_l09Quadrance i_placeQuadrance i_divide
  show (wrap64 (1 - wrap64 ((wrap64 (i_placeProduct p a b * i_placeProduct p a b)).tmod p * s_l01Inverse (wrap64 (i_placeProduct p a a * i_placeProduct p b b)) p))) % p = (wrap64 (1 - (wrap64 (wrap64 (i_placeProduct p a b * i_placeProduct p a b) * i_inverse p ((wrap64 (i_placeProduct p a a * i_placeProduct p b b)) % p))) % p)) % p
  have A1 : Bd (i_placeProduct p a b) := rest_bd hp _
  generalize i_placeProduct p a b = X at A1 ⊢
  rw [inv_mod h]
  generalize (wrap64 (i_placeProduct p a a * i_placeProduct p b b)) = Y
  have hI := inv_bd h (rest_b hp Y)
  generalize i_inverse p (Y % p) = I at hI ⊢
  have m := mul_b A1 A1
  rw [w64 (n := X * X) (by omega), tmod_pos m.1]
  have m2 := mul_b (rest_bd hp (X * X)) hI
  have m3 : 0 ≤ X * X * I ∧ X * X * I ≤ 27000 := by
    obtain ⟨b0, b1⟩ := hI
    refine ⟨Int.mul_nonneg m.1 b0, ?_⟩
    calc X * X * I ≤ 900 * I := Int.mul_le_mul_of_nonneg_right m.2 b0
      _ ≤ 27000 := by omega
  have r := rest_bd hp (X * X * I)
  unfold Bd at r
  rw [w64 (n := X * X % p * I) (by omega), w64 (n := X * X * I) (by omega), w64 (n := 1 - X * X % p * I) (by omega), w64 (n := 1 - X * X * I % p) (by omega)]
  rw [Int.sub_emod, Int.mul_emod, Int.emod_emod, ← Int.mul_emod]
  conv => rhs; rw [Int.sub_emod, Int.emod_emod]

end Go.Proofs.Ytnijajjdldijpaa
