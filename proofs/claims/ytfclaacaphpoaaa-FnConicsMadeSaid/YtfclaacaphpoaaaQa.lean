import Derived.Test.YtfclaacaphpoaaaFb
import Derived.Test.YtfclaacaphpoaaaFc
import Derived.Test.YtfclaacaphpoaaaFd
import Derived.Test.YtfclaacaphpoaaaFe
import Derived.Test.YtfclaacaphpoaaaFf
set_option linter.unusedSimpArgs false
set_option linter.unusedVariables false
namespace Go.Proofs.Ytfclaacaphpoaaa
open Go.RowKit
theorem w64 {n : Int} (h : -1000000000000 <= n /\ n <= 1000000000000) : wrap64 n = n := by unfold wrap64; omega
def Bd (x : Int) : Prop := 0 <= x /\ x <= 30
theorem Pr.wr {p : Int} (h : Pr p) : wrap64 (p - 1) = p - 1 := by unfold Pr at h; exact w64 (by omega)
theorem ZdT {p : Int} (hp : Pr p) (x : Int) : 0 <= x % p /\ x % p < p := by
 obtain ⟨h1, h2⟩ := hp
 exact ⟨Int.emod_nonneg x (by omega), Int.emod_lt_of_pos x (by omega)⟩
theorem Z7U {p x : Int} (hp : Pr p) (h : 0 <= x /\ x < p) : Bd x := by unfold Pr at hp; unfold Bd; omega
theorem Zpk {p : Int} (hp : Pr p) (x : Int) : Bd (x % p) := Z7U hp (ZdT hp x)
theorem Znz {a b : Int} (ha : Bd a) (hb : Bd b) : 0 <= a * b /\ a * b <= 900 := by
 obtain ⟨a0, a1⟩ := ha; obtain ⟨b0, b1⟩ := hb
 refine ⟨Int.mul_nonneg a0 b0, ?_⟩
 calc a * b <= 30 * b := Int.mul_le_mul_of_nonneg_right a1 b0
  _ <= 30 * 30 := Int.mul_le_mul_of_nonneg_left b1 (by omega)
  _ = 900 := rfl
theorem Zrk {a b : Int} (ha : Bd a) (hb : Bd b) : wrap64 (a * b) = a * b := by have := Znz ha hb; exact w64 (by omega)
theorem Zec {x p : Int} (h : 0 <= x) : x.tmod p = x % p := Int.tmod_eq_emod_of_nonneg h
theorem Zvq {p x : Int} (h : 0 <= x /\ x < p) : x % p = x := Int.emod_eq_of_lt h.1 h.2
theorem Z7o {p : Int} (h : Zo p = true) : p ∈ [3, 5, 7, 11, 13, 17, 19, 23, 29, 31] := by
 simp [Zo] at h; simp; omega
theorem Zwc : ∀ p ∈ ([3, 5, 7, 11, 13, 17, 19, 23, 29, 31] : List Int), ∀ x ∈ List.range p.toNat, ZA p (x : Int) = Zn (x : Int) p /\ 0 <= ZA p (x : Int) /\ ZA p (x : Int) < p /\ (x ≠ 0 -> ((x : Int) * ZA p (x : Int)) % p = 1) := by decide +kernel
theorem Zbn {p x : Int} (h : Zo p = true) (hx : 0 <= x /\ x < p) : ZA p x = Zn x p /\ 0 <= ZA p x /\ ZA p x < p /\ (x ≠ 0 -> (x * ZA p x) % p = 1) := by
 have := Zwc p (Z7o h) x.toNat (by simp; omega)
 rw [show ((x.toNat : Nat) : Int) = x from by omega] at this
 exact ⟨this.1, this.2.1, this.2.2.1, fun hn => this.2.2.2 (by omega)⟩
theorem ZvL {p : Int} (x : Int) : Zn x p = Zn (x % p) p := by
 unfold Zn Z4
 rw [Int.emod_emod]
theorem Zwd {p : Int} (h : Zo p = true) (x : Int) : Zn x p = ZA p (x % p) := by
 rw [ZvL, (Zbn h (ZdT (Zx h) x)).1]
theorem Z5v {p x : Int} : Z0Q p x = true ↔ (0 <= x /\ x < p) := by simp [Z0Q]
theorem Znr {p x : Int} (hp : Pr p) : Z0N x 0 (wrap64 (p - 1)) = Z0Q p x := by
 rw [Pr.wr hp]; unfold Z0N Z0Q; congr 1; exact decide_eq_decide.2 (by omega)
theorem ZrU (p : Int) (k : Bool) (l : List Int) : Z1k p l = Zt p k (ZR p l) := by
 unfold Z1k Zt Z0a
 cases h : Zo p
 ·rfl
 ·have hp := Zx h
  have e : l.all (fun a => Z0N a 0 (wrap64 (p - 1))) = ZR p l := by unfold ZR; congr 1; funext a; exact Znr hp
  rw [e]
end Go.Proofs.Ytfclaacaphpoaaa
