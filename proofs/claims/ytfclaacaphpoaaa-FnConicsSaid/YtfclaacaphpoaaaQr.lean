import Derived.Test.YtfclaacaphpoaaaQq
import Derived.Test.YtfclaacaphpoaaaQp
set_option linter.unusedSimpArgs false
set_option linter.unusedVariables false
namespace Go.Proofs.Ytfclaacaphpoaaa
open Go.RowKit
/-! The counts of the finite checks, for the field of rests. -/
section
variable {K : Type} {p : Int} {φ : Int → K}
theorem zz_sum (R : K → K → Bool) : ((zz p φ).map fun u => (zz p φ).countP (R u)).sum = ((List.range p.toNat).map fun u : Nat => (List.range p.toNat).countP fun z : Nat => R (φ (u : Int)) (φ (z : Int))).sum := by
  unfold zz
  rw [List.map_map]
  congr 1
  refine List.map_congr_left fun u _ => ?_
  show List.countP (R (φ (u : Int))) (List.map (fun n : Nat => φ (n : Int)) (List.range p.toNat)) = _
  rw [List.countP_map]
  rfl
end
section
variable {K : Type} [Lean.Grind.Field K] {p : Int} {φ : Int → K}
theorem nat_iff (H : Hom p K φ) (h0 : 0 ≤ p) (x y : Nat) : φ (x : Int) = φ (y : Int) ↔ x % p.toNat = y % p.toNat := by
  rw [H.iff]
  have e : p = ((p.toNat : Nat) : Int) := by omega
  constructor
  · intro h
    rw [e] at h
    exact_mod_cast h
  · intro h
    rw [e]
    exact_mod_cast h
theorem phi_nat_mul (H : Hom p K φ) (x y : Nat) : φ ((x * y : Nat) : Int) = φ (x : Int) * φ (y : Int) := by rw [← H.mul]; congr 1
theorem sq_ok (H : Hom p K φ) (hf : i_IsField p = true) (R : K → K → Bool) (hR : ∀ t z, R t z = true ↔ z * z = t) : ((zz p φ).map fun t => (zz p φ).countP (R t)).sum = p.toNat := by
  have h0 := (prB_nat (Pr_prB (i_IsField_ok hf))).2.1
  rw [zz_sum]
  have hm : p.toNat ∈ ([3, 5, 7, 11, 13, 17, 19, 23, 29, 31] : List Nat) := by
    have := field_mem hf
    simp at this ⊢
    omega
  have h := Nat.eq_of_beq_eq_true (sq_chk p.toNat hm)
  refine Eq.trans ?_ h
  congr 1
  refine List.map_congr_left fun t ht => ?_
  have ht' := List.mem_range.1 ht
  congr 1
  funext z
  refine Bool.eq_iff_iff.2 ?_
  rw [hR, ← phi_nat_mul H, nat_iff H h0, Nat.mod_eq_of_lt ht', Nat.beq_eq]
theorem base_ok (H : Hom p K φ) (hf : i_IsField p = true) {d m : Int} (hd : 0 ≤ d ∧ d < p) (hm : 0 ≤ m ∧ m < p) (d0 : d ≠ 0) (m0 : m ≠ 0) (R : K → K → Bool) (hR : ∀ u z, R u z = true ↔ φ d * (z * z) = u * u - φ m) : ((((zz p φ).map fun u => (zz p φ).countP (R u)).sum : Nat) : Int) = p - i_squareKind p d := by
  have h0 := (prB_nat (Pr_prB (i_IsField_ok hf))).2.1
  rw [zz_sum]
  have hmem : p.toNat ∈ ([3, 5, 7, 11, 13, 17, 19, 23, 29, 31] : List Nat) := by
    have := field_mem hf
    simp at this ⊢
    omega
  have h1 := List.all_eq_true.1 (base_chk p.toNat hmem) d.toNat (List.mem_range.2 (by omega))
  have n1 : Nat.beq d.toNat 0 = false := by
    cases hb : Nat.beq d.toNat 0
    · rfl
    · have := Nat.eq_of_beq_eq_true hb
      omega
  rw [n1, Bool.false_or] at h1
  have h2 := List.all_eq_true.1 h1 m.toNat (List.mem_range.2 (by omega))
  have n2 : Nat.beq m.toNat 0 = false := by
    cases hb : Nat.beq m.toNat 0
    · rfl
    · have := Nat.eq_of_beq_eq_true hb
      omega
  rw [n2, Bool.false_or] at h2
  have h3 := of_decide_eq_true h2
  rw [Int.toNat_of_nonneg hd.1, Int.toNat_of_nonneg h0] at h3
  rw [← h3]
  congr 1
  unfold rowN
  congr 1
  refine List.map_congr_left fun u hu => ?_
  have hlt : (u * u + (p.toNat - m.toNat)) % p.toNat < p.toNat := Nat.mod_lt _ (by omega)
  unfold tblN
  rw [List.getD_eq_getElem?_getD, List.getElem?_map, List.getElem?_range hlt]
  show _ = (List.range p.toNat).countP fun z => Nat.beq (d.toNat * (z * z) % p.toNat) ((u * u + (p.toNat - m.toNat)) % p.toNat)
  congr 1
  funext z
  refine Bool.eq_iff_iff.2 ?_
  have e1 : φ ((d.toNat * (z * z) : Nat) : Int) = φ d * (φ (z : Int) * φ (z : Int)) := by rw [phi_nat_mul H, phi_nat_mul H, Int.toNat_of_nonneg hd.1]
  have e2 : φ ((u * u + (p.toNat - m.toNat) : Nat) : Int) = φ (u : Int) * φ (u : Int) - φ m := by
    have e3 : ((u * u + (p.toNat - m.toNat) : Nat) : Int) = ((u * u : Nat) : Int) + (p - m) := by omega
    rw [e3, H.add, phi_nat_mul H, H.sub, H.self]
    grind
  rw [hR, ← e1, ← e2, nat_iff H h0, Nat.beq_eq]
end

end Go.Proofs.Ytfclaacaphpoaaa
