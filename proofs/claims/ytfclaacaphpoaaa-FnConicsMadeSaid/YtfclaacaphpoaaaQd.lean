import Derived.Test.YtfclaacaphpoaaaQc
import Derived.Test.YtfclaacaphpoaaaRa
set_option linter.unusedSimpArgs false
set_option linter.unusedVariables false
namespace Go.Proofs.Ytfclaacaphpoaaa
open Go.RowKit
def AB (x n : Int) : Prop := -n <= x /\ x <= n
def W (x y n : Int) : Prop := x = y /\ AB y n
theorem AB.mul {x y m n : Int} (h1 : AB x m) (h2 : AB y n) : AB (x * y) (m * n) := by
 obtain ⟨a1, a2⟩ := h1; obtain ⟨b1, b2⟩ := h2
 have e1 := Int.mul_nonneg (show 0 <= m - x by omega) (show 0 <= n + y by omega)
 have e2 := Int.mul_nonneg (show 0 <= m + x by omega) (show 0 <= n - y by omega)
 have e3 := Int.mul_nonneg (show 0 <= m - x by omega) (show 0 <= n - y by omega)
 have e4 := Int.mul_nonneg (show 0 <= m + x by omega) (show 0 <= n + y by omega)
 simp only [Int.sub_mul, Int.add_mul, Int.mul_sub, Int.mul_add] at e1 e2 e3 e4
 exact ⟨by omega, by omega⟩
theorem W.mul {x y x' y' m n : Int} (h1 : W x x' m) (h2 : W y y' n) (h : m * n <= 1000000000000) : W (wrap64 (x * y)) (x' * y') (m * n) := by
 obtain ⟨rfl, h1⟩ := h1; obtain ⟨rfl, h2⟩ := h2
 have b := AB.mul h1 h2
 exact ⟨w64 (by unfold AB at b; omega), b⟩
theorem W.add {x y x' y' m n : Int} (h1 : W x x' m) (h2 : W y y' n) (h : m + n <= 1000000000000) : W (wrap64 (x + y)) (x' + y') (m + n) := by
 obtain ⟨rfl, h1⟩ := h1; obtain ⟨rfl, h2⟩ := h2
 unfold AB at h1 h2
 exact ⟨w64 (by omega), by unfold AB; omega⟩
theorem W.sub {x y x' y' m n : Int} (h1 : W x x' m) (h2 : W y y' n) (h : m + n <= 1000000000000) : W (wrap64 (x - y)) (x' - y') (m + n) := by
 obtain ⟨rfl, h1⟩ := h1; obtain ⟨rfl, h2⟩ := h2
 unfold AB at h1 h2
 exact ⟨w64 (by omega), by unfold AB; omega⟩
theorem W.neg {x x' m : Int} (h1 : W x x' m) (h : m <= 1000000000000) : W (wrap64 (-x)) (-x') m := by
 obtain ⟨rfl, h1⟩ := h1
 unfold AB at h1
 exact ⟨w64 (by omega), by unfold AB; omega⟩
theorem W.bd {x : Int} (h : Bd x) : W x x 30 := ⟨rfl, by unfold Bd at h; unfold AB; omega⟩
theorem W.mod {p x x' m : Int} (hp : Pr p) (h : W x x' m) : W (x % p) (x' % p) 30 := ⟨by rw [h.1], by have := Zpk hp x'; unfold Bd at this; unfold AB; omega⟩
theorem W.rest {p x x' m : Int} (hp : Pr p) (h : W x x' m) : W (Z1 p x) (x' % p) 30 := W.mod hp h
theorem W.smod {p x x' m : Int} (hp : Pr p) (h : W x x' m) : W (Z4 x p) (x' % p) 30 := W.mod hp h
theorem W.lit (n : Int) (h : 0 <= n) : W n n n := ⟨rfl, by unfold AB; omega⟩
theorem W.mods {p x y x' y' m n : Int} (h1 : W x x' m) (h2 : W y y' n) (h : x' % p = y' % p) : x % p = y % p := by rw [h1.1, h2.1, h]

end Go.Proofs.Ytfclaacaphpoaaa
