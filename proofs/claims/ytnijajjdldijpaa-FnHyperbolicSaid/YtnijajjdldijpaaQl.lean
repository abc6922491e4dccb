import Derived.Test.YtnijajjdldijpaaQp
import Derived.Test.YtnijajjdldijpaaRa
set_option linter.unusedSimpArgs false
set_option linter.unusedVariables false
namespace Go.Proofs.Ytnijajjdldijpaa
open Go.RowKit
/-! Places in line: the determinant and the join. -/
theorem rests_of {p : Int} (hp : Pr p) : ∃ q : Nat, q ≠ 0 ∧ (q : Int) = p := by unfold Pr at hp; exact ⟨p.toNat, by omega, by omega⟩
def det3 (a b c : P3) : Int := a.1 * (b.2.1 * c.2.2 - b.2.2 * c.2.1) + a.2.1 * (b.2.2 * c.1 - b.1 * c.2.2) + a.2.2 * (b.1 * c.2.1 - b.2.1 * c.1)
theorem w_cross {a b c d : Int} (ha : Bd a) (hb : Bd b) (hc : Bd c) (hd : Bd d) : wrap64 (wrap64 (a * b) - wrap64 (c * d)) = a * b - c * d := by
  have h1 := mul_b ha hb; have h2 := mul_b hc hd
  rw [w_mul ha hb, w_mul hc hd, w64 (by omega)]
theorem threeBy_eq {p : Int} (hp : Pr p) {a b c : P3} (a0 : Bd a.1) (a1 : Bd a.2.1) (a2 : Bd a.2.2) (b0 : Bd b.1) (b1 : Bd b.2.1) (b2 : Bd b.2.2) (c0 : Bd c.1) (c1 : Bd c.2.1) (c2 : Bd c.2.2) : i_threeBy p a b c = det3 a b c % p := by
  unfold i_threeBy i_rest
  rw [w_cross b1 c2 b2 c1, w_cross b2 c0 b0 c2, w_cross b0 c1 b1 c0]
  have r0 := rest_bd hp (b.2.1 * c.2.2 - b.2.2 * c.2.1)
  have r1 := rest_bd hp (b.2.2 * c.1 - b.1 * c.2.2)
  have r2 := rest_bd hp (b.1 * c.2.1 - b.2.1 * c.1)
  have m0 := mul_b a0 r0; have m1 := mul_b a1 r1; have m2 := mul_b a2 r2
  rw [w_mul a0 r0, w_mul a1 r1, w_mul a2 r2, w64 (n := a.1 * _ + _) (by omega), w64 (by omega)]
  obtain ⟨q, hq, rfl⟩ := rests_of hp
  haveI : NeZero q := ⟨hq⟩
  apply mod_of_ph
  simp only [det3, ph_add, ph_mul, ph_sub, ph_mod]
def Scaled (p : Int) (x y z : Int) (v : P3) : Prop := ∃ k r : Int, v = (x * k % p, y * k % p, z * k % p) ∧ ((r * k) % p = 1 ∨ (x = 0 ∧ y = 0 ∧ z = 0))
theorem divide_val {p a b : Int} (h : i_IsField p = true) (ha : 0 ≤ a ∧ a < p) (hb : 0 ≤ b ∧ b < p) : i_divide p a b = a * i_inverse p b % p := by
  unfold i_divide i_rest
  rw [w_mul (bd_of (i_IsField_ok h) ha) (inv_bd h hb)]
theorem makePlace_scaled {p x y z : Int} (h : i_IsField p = true) (hx : 0 ≤ x ∧ x < p) (hy : 0 ≤ y ∧ y < p) (hz : 0 ≤ z ∧ z < p) : Scaled p x y z (i_makePlace p (x, y, z)) := by
  unfold i_makePlace
  by_cases e0 : x = 0
  · by_cases e1 : y = 0
    · by_cases e2 : z = 0
      · exact ⟨0, 0, by simp [e0, e1, e2], Or.inr ⟨e0, e1, e2⟩⟩
      · refine ⟨i_inverse p z, z, ?_, Or.inl ((inv_facts h hz).2.2.2 e2)⟩
        rw [← divide_val h hx hz, ← divide_val h hy hz, ← divide_val h hz hz]
        simp [e0, e1, e2]
    · refine ⟨i_inverse p y, y, ?_, Or.inl ((inv_facts h hy).2.2.2 e1)⟩
      rw [← divide_val h hx hy, ← divide_val h hy hy, ← divide_val h hz hy]
      simp [e0, e1]
  · refine ⟨i_inverse p x, x, ?_, Or.inl ((inv_facts h hx).2.2.2 e0)⟩
    rw [← divide_val h hx hx, ← divide_val h hy hx, ← divide_val h hz hx]
    simp [e0]
theorem made_rest (p x y z : Int) : s_l09Made p x y z = s_l09Made p (x % p) (y % p) (z % p) := by
  unfold s_l09Made s_l01Mod
  simp only [Int.emod_emod]
theorem made_make {p : Int} (h : i_IsField p = true) (x y z : Int) : s_l09Made p x y z = i_makePlace p (x % p, y % p, z % p) := by
  have hp := i_IsField_ok h
  rw [made_rest, made_eq h (rest_b hp x) (rest_b hp y) (rest_b hp z)]
theorem join_same {p : Int} (h : i_IsField p = true) (a b : P3) : s_l09Join p a b = i_join p a b := by
  unfold s_l09Join i_join i_rest
  rw [made_make h]
theorem join_scaled {p : Int} (h : i_IsField p = true) {a b : P3} (a0 : Bd a.1) (a1 : Bd a.2.1) (a2 : Bd a.2.2) (b0 : Bd b.1) (b1 : Bd b.2.1) (b2 : Bd b.2.2) :
    Scaled p ((a.2.1 * b.2.2 - a.2.2 * b.2.1) % p) ((a.2.2 * b.1 - a.1 * b.2.2) % p) ((a.2.1 * b.1 - a.1 * b.2.1) % p) (s_l09Join p a b) := by
  have hp := i_IsField_ok h
  unfold s_l09Join
  rw [made_make h, w_cross a1 b2 a2 b1, w_cross a2 b0 a0 b2, w_cross a1 b0 a0 b1]
  exact makePlace_scaled h (rest_b hp _) (rest_b hp _) (rest_b hp _)
theorem product_eq {p : Int} {a b : P3} (a0 : Bd a.1) (a1 : Bd a.2.1) (a2 : Bd a.2.2) (b0 : Bd b.1) (b1 : Bd b.2.1) (b2 : Bd b.2.2) : s_l09Product p a b = (a.1 * b.1 + a.2.1 * b.2.1 - a.2.2 * b.2.2) % p := by
  unfold s_l09Product s_l01Mod
  have m0 := mul_b a0 b0; have m1 := mul_b a1 b1; have m2 := mul_b a2 b2
  rw [w_mul a0 b0, w_mul a1 b1, w_mul a2 b2, w64 (n := a.1 * b.1 + _) (by omega), w64 (by omega)]
theorem place_bd {p : Int} (hp : Pr p) {a : P3} (h : i_isPlace p a = true) : Bd a.1 ∧ Bd a.2.1 ∧ Bd a.2.2 :=
  ⟨bd_of hp (isPlace_num h).1, bd_of hp (isPlace_num h).2.1, bd_of hp (isPlace_num h).2.2⟩
theorem line_eq {p : Int} {a b c : P3} (h : i_IsField p = true) (ha : i_isPlace p a = true) (hb : i_isPlace p b = true) (hc : i_isPlace p c = true) :
    (i_threeBy p a b c == 0) = ((a == b) || (s_l09Product p (s_l09Join p a b) c == 0)) := by
  have hp := i_IsField_ok h
  obtain ⟨a0, a1, a2⟩ := place_bd hp ha
  obtain ⟨b0, b1, b2⟩ := place_bd hp hb
  obtain ⟨c0, c1, c2⟩ := place_bd hp hc
  rw [threeBy_eq hp a0 a1 a2 b0 b1 b2 c0 c1 c2]
  obtain ⟨k, r, e, hk⟩ := join_scaled h a0 a1 a2 b0 b1 b2
  rw [e, product_eq (rest_bd hp _) (rest_bd hp _) (rest_bd hp _) c0 c1 c2]
  obtain ⟨q, hq, rfl⟩ := rests_of hp
  haveI : NeZero q := ⟨hq⟩
  rw [Bool.eq_iff_iff]
  simp only [Bool.or_eq_true, beq_iff_eq]
  rw [zero_iff q, zero_iff q]
  simp only [ph_add, ph_mul, ph_sub, ph_mod, det3]
  constructor
  · intro hd
    refine Or.inr ?_
    grind
  · rintro (rfl | hd)
    · grind
    · rcases hk with hk | ⟨z0, z1, z2⟩
      · have hk' : ph q (r * k) = 1 := by
          rw [← ph_one q, ph_iff, hk]
          have h1 := hp.1
          have : (q : Int) ≠ 1 := by intro e1; rw [e1] at hk; omega
          exact (Int.emod_eq_of_lt (by omega) (by omega)).symm
        rw [ph_mul] at hk'
        grind
      · rw [zero_iff q] at z0 z1 z2
        simp only [ph_add, ph_mul, ph_sub, ph_mod] at z0 z1 z2
        grind

end Go.Proofs.Ytnijajjdldijpaa
