import Derived.Test.YtikfglnhkjoioaaDl
set_option linter.unusedSimpArgs false
set_option linter.unusedVariables false
namespace Go.Proofs.Ytikfglnhkjoioaa
open Go.RowKit
/-! Numbers modulo q as a ring. -/
theorem val_fin (q : Nat) (a : Fin q) : ((a.val : Int)) % (q : Int) = (a.val : Int) := Int.emod_eq_of_lt (by omega) (by have := a.isLt; omega)
section
variable (q : Nat) [NeZero q]
theorem ph_lt (x : Int) : (x % (q : Int)).toNat < q := by
  have h : (0 : Int) < q := by have := NeZero.ne q; omega
  have h1 := Int.emod_lt_of_pos x h
  have h2 := Int.emod_nonneg x (show (q : Int) ≠ 0 by omega)
  omega
/-- The rest of a number as an element of the ring of rests. -/
def ph (x : Int) : Fin q := ⟨(x % (q : Int)).toNat, ph_lt q x⟩
theorem ph_val (x : Int) : ((ph q x).val : Int) = x % q := by
  have h : (q : Int) ≠ 0 := by have := NeZero.ne q; omega
  have h2 := Int.emod_nonneg x h
  show (((x % (q : Int)).toNat : Nat) : Int) = _
  omega
theorem ph_iff {x y : Int} : ph q x = ph q y ↔ x % q = y % q := by
  rw [← ph_val, ← ph_val]
  constructor
  · intro h; rw [h]
  · intro h; exact Fin.ext (by omega)
theorem ph_mod (x : Int) : ph q (x % q) = ph q x := by rw [ph_iff, Int.emod_emod]
theorem ph_add (x y : Int) : ph q (x + y) = ph q x + ph q y := by
  apply Fin.ext
  have h : ((ph q x + ph q y).val : Int) = (((ph q x).val : Int) + (ph q y).val) % q := by rw [Fin.val_add]; simp
  have h2 := ph_val q (x + y)
  rw [ph_val, ph_val, ← Int.add_emod, ← h2] at h
  omega
theorem ph_mul (x y : Int) : ph q (x * y) = ph q x * ph q y := by
  apply Fin.ext
  have h : ((ph q x * ph q y).val : Int) = (((ph q x).val : Int) * (ph q y).val) % q := by rw [Fin.val_mul]; simp
  have h2 := ph_val q (x * y)
  rw [ph_val, ph_val, ← Int.mul_emod, ← h2] at h
  omega
theorem ph_nat (n : Nat) : ph q (n : Int) = Fin.ofNat q n := by
  apply Fin.ext
  have h := ph_val q (n : Int)
  have h2 : ((Fin.ofNat q n).val : Int) = (n : Int) % q := by simp [Fin.ofNat]
  omega
theorem ph_zero : ph q 0 = 0 := ph_nat q 0
theorem ph_one : ph q 1 = 1 := ph_nat q 1
theorem ph_lit (n : Nat) : ph q (no_index (OfNat.ofNat n) : Int) = OfNat.ofNat n := ph_nat q n
theorem ph_self : ph q (q : Int) = 0 := by rw [← ph_zero, ph_iff]; simp
theorem ph_neg (x : Int) : ph q (-x) = -ph q x := by
  have h : ph q (-x) + ph q x = 0 := by rw [← ph_add, ← ph_zero]; congr 1; omega
  grind
theorem ph_sub (x y : Int) : ph q (x - y) = ph q x - ph q y := by
  have h : ph q (x - y) + ph q y = ph q x := by rw [← ph_add]; congr 1; omega
  grind
theorem mod_of_ph {x y : Int} (h : ph q x = ph q y) : x % q = y % q := (ph_iff q).1 h
theorem zero_iff {x : Int} : x % q = 0 ↔ ph q x = 0 := by rw [← ph_zero, ph_iff]; simp
end

end Go.Proofs.Ytikfglnhkjoioaa
