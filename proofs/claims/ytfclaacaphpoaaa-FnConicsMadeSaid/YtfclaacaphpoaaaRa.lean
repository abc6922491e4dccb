import Derived.Test.YtfclaacaphpoaaaDl
set_option linter.unusedSimpArgs false
set_option linter.unusedVariables false
namespace Go.Proofs.Ytfclaacaphpoaaa
open Go.RowKit
theorem ZwG (q : Nat) (a : Fin q) : ((a.val : Int)) % (q : Int) = (a.val : Int) := Int.emod_eq_of_lt (by omega) (by have := a.isLt; omega)
section
variable (q : Nat) [NeZero q]
theorem ZxH (x : Int) : (x % (q : Int)).toNat < q := by
 have h : (0 : Int) < q := by have := NeZero.ne q; omega
 have h1 := Int.emod_lt_of_pos x h
 have h2 := Int.emod_nonneg x (show (q : Int) ≠ 0 by omega)
 omega
def ph (x : Int) : Fin q := ⟨(x % (q : Int)).toNat, ZxH q x⟩
theorem Za5 (x : Int) : ((ph q x).val : Int) = x % q := by
 have h : (q : Int) ≠ 0 := by have := NeZero.ne q; omega
 have h2 := Int.emod_nonneg x h
 show (((x % (q : Int)).toNat : Nat) : Int) = _
 omega
theorem Zg5 {x y : Int} : ph q x = ph q y ↔ x % q = y % q := by
 rw [<- Za5, <- Za5]
 constructor
 ·intro h; rw [h]
 ·intro h; exact Fin.ext (by omega)
theorem ZvA (x : Int) : ph q (x % q) = ph q x := by rw [Zg5, Int.emod_emod]
theorem Zph (x y : Int) : ph q (x + y) = ph q x + ph q y := by
 apply Fin.ext
 have h : ((ph q x + ph q y).val : Int) = (((ph q x).val : Int) + (ph q y).val) % q := by rw [Fin.val_add]; simp
 have h2 := Za5 q (x + y)
 rw [Za5, Za5, <- Int.add_emod, <- h2] at h
 omega
theorem Zs3 (x y : Int) : ph q (x * y) = ph q x * ph q y := by
 apply Fin.ext
 have h : ((ph q x * ph q y).val : Int) = (((ph q x).val : Int) * (ph q y).val) % q := by rw [Fin.val_mul]; simp
 have h2 := Za5 q (x * y)
 rw [Za5, Za5, <- Int.mul_emod, <- h2] at h
 omega
theorem Zs4 (n : Nat) : ph q (n : Int) = Fin.ofNat q n := by
 apply Fin.ext
 have h := Za5 q (n : Int)
 have h2 : ((Fin.ofNat q n).val : Int) = (n : Int) % q := by simp [Fin.ofNat]
 omega
theorem ZaA : ph q 0 = 0 := Zs4 q 0
theorem Zpi : ph q 1 = 1 := Zs4 q 1
theorem Zs2 (n : Nat) : ph q (no_index (OfNat.ofNat n) : Int) = OfNat.ofNat n := Zs4 q n
theorem Zwq : ph q (q : Int) = 0 := by rw [<- ZaA, Zg5]; simp
theorem Zxo (x : Int) : ph q (-x) = -ph q x := by
 have h : ph q (-x) + ph q x = 0 := by rw [<- Zph, <- ZaA]; congr 1; omega
 grind
theorem ZvB (x y : Int) : ph q (x - y) = ph q x - ph q y := by
 have h : ph q (x - y) + ph q y = ph q x := by rw [<- Zph]; congr 1; omega
 grind
theorem Zu0 {x y : Int} (h : ph q x = ph q y) : x % q = y % q := (Zg5 q).1 h
theorem zero_iff {x : Int} : x % q = 0 ↔ ph q x = 0 := by rw [<- ZaA, Zg5]; simp
end

end Go.Proofs.Ytfclaacaphpoaaa
