import Derived.Test.YtikfglnhkjoioaaGc
set_option linter.unusedSimpArgs false
set_option linter.unusedVariables false
namespace Go.Proofs.Ytikfglnhkjoioaa
open Go.RowKit
/-! Plain facts: bounds, wraps, codes, inverses. -/
theorem w64 {n : Int} (h : -1000000000000 ≤ n ∧ n ≤ 1000000000000) : wrap64 n = n := by unfold wrap64; omega
def Bd (x : Int) : Prop := 0 ≤ x ∧ x ≤ 30
theorem Pr.wr {p : Int} (h : Pr p) : wrap64 (p - 1) = p - 1 := by unfold Pr at h; exact w64 (by omega)
theorem rest_b {p : Int} (hp : Pr p) (x : Int) : 0 ≤ x % p ∧ x % p < p := by
  obtain ⟨h1, h2⟩ := hp
  exact ⟨Int.emod_nonneg x (by omega), Int.emod_lt_of_pos x (by omega)⟩
theorem bd_of {p x : Int} (hp : Pr p) (h : 0 ≤ x ∧ x < p) : Bd x := by unfold Pr at hp; unfold Bd; omega
theorem rest_bd {p : Int} (hp : Pr p) (x : Int) : Bd (x % p) := bd_of hp (rest_b hp x)
theorem mul_b {a b : Int} (ha : Bd a) (hb : Bd b) : 0 ≤ a * b ∧ a * b ≤ 900 := by
  obtain ⟨a0, a1⟩ := ha; obtain ⟨b0, b1⟩ := hb
  refine ⟨Int.mul_nonneg a0 b0, ?_⟩
  calc a * b ≤ 30 * b := Int.mul_le_mul_of_nonneg_right a1 b0
    _ ≤ 30 * 30 := Int.mul_le_mul_of_nonneg_left b1 (by omega)
    _ = 900 := rfl
theorem w_mul {a b : Int} (ha : Bd a) (hb : Bd b) : wrap64 (a * b) = a * b := by have := mul_b ha hb; exact w64 (by omega)
theorem tmod_pos {x p : Int} (h : 0 ≤ x) : x.tmod p = x % p := Int.tmod_eq_emod_of_nonneg h
theorem mod_id {p x : Int} (h : 0 ≤ x ∧ x < p) : x % p = x := Int.emod_eq_of_lt h.1 h.2
theorem field_mem {p : Int} (h : i_IsField p = true) : p ∈ [3, 5, 7, 11, 13, 17, 19, 23, 29, 31] := by
  simp [i_IsField] at h; simp; omega
theorem inv_all : ∀ p ∈ ([3, 5, 7, 11, 13, 17, 19, 23, 29, 31] : List Int), ∀ x ∈ List.range p.toNat, i_inverse p (x : Int) = s_l01Inverse (x : Int) p ∧ 0 ≤ i_inverse p (x : Int) ∧ i_inverse p (x : Int) < p ∧ (x ≠ 0 → ((x : Int) * i_inverse p (x : Int)) % p = 1) := by decide +kernel
theorem inv_facts {p x : Int} (h : i_IsField p = true) (hx : 0 ≤ x ∧ x < p) : i_inverse p x = s_l01Inverse x p ∧ 0 ≤ i_inverse p x ∧ i_inverse p x < p ∧ (x ≠ 0 → (x * i_inverse p x) % p = 1) := by
  have := inv_all p (field_mem h) x.toNat (by simp; omega)
  rw [show ((x.toNat : Nat) : Int) = x from by omega] at this
  exact ⟨this.1, this.2.1, this.2.2.1, fun hn => this.2.2.2 (by omega)⟩
theorem sinv_mod {p : Int} (x : Int) : s_l01Inverse x p = s_l01Inverse (x % p) p := by
  unfold s_l01Inverse s_l01Mod
  rw [Int.emod_emod]
theorem inv_mod {p : Int} (h : i_IsField p = true) (x : Int) : s_l01Inverse x p = i_inverse p (x % p) := by
  rw [sinv_mod, (inv_facts h (rest_b (i_IsField_ok h) x)).1]
theorem inv_bd {p x : Int} (h : i_IsField p = true) (hx : 0 ≤ x ∧ x < p) : Bd (i_inverse p x) := bd_of (i_IsField_ok h) ⟨(inv_facts h hx).2.1, (inv_facts h hx).2.2.1⟩
theorem isNumber_iff {p x : Int} : i_isNumber p x = true ↔ (0 ≤ x ∧ x < p) := by simp [i_isNumber]
theorem in_eq {p x : Int} (hp : Pr p) : s_l01In x 0 (wrap64 (p - 1)) = i_isNumber p x := by
  rw [Pr.wr hp]; unfold s_l01In i_isNumber; congr 1; exact decide_eq_decide.2 (by omega)
theorem divide_eq {p a b : Int} (h : i_IsField p = true) (ha : 0 ≤ a ∧ a < p) (hb : 0 ≤ b ∧ b < p) : (wrap64 (a * (s_l01Inverse b p))).tmod p = i_divide p a b := by
  have hp := i_IsField_ok h
  have e := (inv_facts h hb).1
  have hb' := mul_b (bd_of hp ha) (inv_bd h hb)
  unfold i_divide i_rest
  rw [← e, tmod_pos (by rw [w64 (by omega)]; omega)]

end Go.Proofs.Ytikfglnhkjoioaa
