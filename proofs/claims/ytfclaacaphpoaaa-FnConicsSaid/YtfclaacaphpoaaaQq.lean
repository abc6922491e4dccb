import Derived.Test.YtfclaacaphpoaaaQo
set_option linter.unusedSimpArgs false
set_option linter.unusedVariables false
namespace Go.Proofs.Ytfclaacaphpoaaa
open Go.RowKit
/-! The points of a conic, counted. -/
theorem sum_ind {K : Type} (q : K → Bool) (g : K → Nat) (h : ∀ x, g x = if q x = true then 0 else 1) : ∀ l : List K, (l.map g).sum + l.countP q = l.length
  | [] => rfl
  | x :: l => by
    have ih := sum_ind q g h l
    rw [List.map_cons, List.sum_cons, List.countP_cons, List.length_cons, h x]
    cases q x <;> simp <;> omega
section
variable {K : Type} [Lean.Grind.Field K]
theorem mul_zero_of {s F : K} (hs : s ≠ 0) (h : s * F = 0) : F = 0 := by grind
theorem four_ne {c : K} (h2 : (2 : K) ≠ 0) (hc : c ≠ 0) : 4 * c ≠ 0 := by
  intro h
  exact hc (mul_zero_of h2 (mul_zero_of h2 (by grind)))
theorem conic_square {a b c d e f x y : K} (h2 : (2 : K) ≠ 0) (hc : c ≠ 0) : a * x * x + b * x * y + c * y * y + d * x + e * y + f = 0 ↔ (2 * c * y + (b * x + e)) * (2 * c * y + (b * x + e)) = (b * x + e) * (b * x + e) - 4 * c * (a * x * x + d * x + f) := by
  constructor
  · intro h
    grind
  · intro h
    exact mul_zero_of (four_ne h2 hc) (by grind)
theorem conic_square2 {a b c d e f x z : K} (hD : b * b - 4 * a * c ≠ 0) : z * z = (b * x + e) * (b * x + e) - 4 * c * (a * x * x + d * x + f) ↔ (b * b - 4 * a * c) * (z * z) = ((b * b - 4 * a * c) * x + (b * e - 2 * c * d)) * ((b * b - 4 * a * c) * x + (b * e - 2 * c * d)) - ((b * e - 2 * c * d) * (b * e - 2 * c * d) - (b * b - 4 * a * c) * (e * e - 4 * c * f)) := by
  have e1 : (b * b - 4 * a * c) * (z * z) - (((b * b - 4 * a * c) * x + (b * e - 2 * c * d)) * ((b * b - 4 * a * c) * x + (b * e - 2 * c * d)) - ((b * e - 2 * c * d) * (b * e - 2 * c * d) - (b * b - 4 * a * c) * (e * e - 4 * c * f))) = (b * b - 4 * a * c) * (z * z - ((b * x + e) * (b * x + e) - 4 * c * (a * x * x + d * x + f))) := by grind
  constructor
  · intro h
    grind
  · intro h
    have := mul_zero_of (F := z * z - ((b * x + e) * (b * x + e) - 4 * c * (a * x * x + d * x + f))) hD (by rw [← e1, h]; grind)
    grind
theorem conic_M (a b c d e f : K) : (-(4 * c)) * (4 * a * c * f - a * e * e - b * b * f + b * d * e - c * d * d) = (b * e - 2 * c * d) * (b * e - 2 * c * d) - (b * b - 4 * a * c) * (e * e - 4 * c * f) := by grind
theorem conic_ne0 {a b c d e f : K} (h2 : (2 : K) ≠ 0) (hc : c ≠ 0) (hdet : 4 * a * c * f - a * e * e - b * b * f + b * d * e - c * d * d ≠ 0) : (b * e - 2 * c * d) * (b * e - 2 * c * d) - (b * b - 4 * a * c) * (e * e - 4 * c * f) ≠ 0 := by
  intro h
  rw [← conic_M] at h
  have h4 := four_ne h2 hc
  exact hdet (mul_zero_of (s := 4 * c) h4 (by grind))
end
section
variable {K : Type} [Lean.Grind.Field K] {p : Int} {φ : Int → K}
open Classical in
theorem count_conic (H : Hom p K φ) (hf : i_IsField p = true) {a b c d e f : K} (hdet : 4 * a * c * f - a * e * e - b * b * f + b * d * e - c * d * d ≠ 0) (Q : K → K → Bool) (hQ : ∀ x y, Q x y = true ↔ a * x * x + b * x * y + c * y * y + d * x + e * y + f = 0)
    (kd : K → Int) (k0 : kd 0 = 0) (k1 : ∀ s, s ≠ 0 → kd (s * s) = 1)
    (base : ∀ D M : K, D ≠ 0 → M ≠ 0 → ∀ R : K → K → Bool, (∀ u z, R u z = true ↔ D * (z * z) = u * u - M) → ((((zz p φ).map fun u => (zz p φ).countP (R u)).sum : Nat) : Int) = p - kd D)
    (sq : ∀ R : K → K → Bool, (∀ t z, R t z = true ↔ z * z = t) → ((zz p φ).map fun t => (zz p φ).countP (R t)).sum = p.toNat) :
    ((((zz p φ).map fun x => (zz p φ).countP (Q x)).sum : Nat) : Int) = p - kd (b * b - 4 * a * c) := by
  have h2 := H.two_ne hf
  have hpn := (prB_nat (Pr_prB (i_IsField_ok hf))).2.2
  by_cases hc : c = 0
  · by_cases hb : b = 0
    · have he : e ≠ 0 := by
        intro he
        apply hdet
        grind
      have h1 : ∀ x, (zz p φ).countP (Q x) = 1 := fun x => count_one H (-(a * x * x + d * x + f) * e⁻¹) fun y => by
        rw [hQ]
        constructor <;> intro h <;> grind
      rw [sum_eq2 h1, sum_const, show b * b - 4 * a * c = 0 by grind, k0]
      omega
    · have h1 : ∀ x, (zz p φ).countP (Q x) = if (decide (x = -e * b⁻¹)) = true then 0 else 1 := fun x => by
        by_cases hx : x = -e * b⁻¹
        · rw [if_pos (by simpa using hx)]
          refine count_none fun y => ?_
          cases hy : Q x y
          · rfl
          · exfalso
            apply hdet
            have := (hQ x y).1 hy
            grind
        · rw [if_neg (by simpa using hx)]
          have hn : b * x + e ≠ 0 := by
            intro h
            apply hx
            grind
          refine count_one H (-(a * x * x + d * x + f) * (b * x + e)⁻¹) fun y => ?_
          rw [hQ]
          constructor <;> intro h <;> grind
      have h3 := sum_ind (fun x => decide (x = -e * b⁻¹)) _ h1 (zz p φ)
      rw [count_one H (-e * b⁻¹) (fun k => by simp), zz_len] at h3
      rw [show b * b - 4 * a * c = b * b by grind, k1 b hb]
      omega
  · have hR : ∀ t z : K, (decide (z * z = t)) = true ↔ z * z = t := fun t z => by simp
    have e1 : ∀ x, (zz p φ).countP (Q x) = (zz p φ).countP (fun z => decide (z * z = (b * x + e) * (b * x + e) - 4 * c * (a * x * x + d * x + f))) := fun x => by
      rw [← count_lin H (s := 2 * c) (t := b * x + e) (by grind) (fun z => decide (z * z = (b * x + e) * (b * x + e) - 4 * c * (a * x * x + d * x + f)))]
      refine count_eq fun y => Bool.eq_iff_iff.2 ?_
      rw [hQ, decide_eq_true_eq]
      exact conic_square h2 hc
    rw [sum_eq2 e1]
    by_cases hD : b * b - 4 * a * c = 0
    · have hB : b * e - 2 * c * d ≠ 0 := by
        intro h
        apply conic_ne0 h2 hc hdet
        rw [hD, h]
        grind
      have e2 : ∀ x, (zz p φ).countP (fun z => decide (z * z = (b * x + e) * (b * x + e) - 4 * c * (a * x * x + d * x + f))) = (fun t => (zz p φ).countP (fun z => decide (z * z = t))) (2 * (b * e - 2 * c * d) * x + (e * e - 4 * c * f)) := fun x => by
        dsimp only
        rw [show (b * x + e) * (b * x + e) - 4 * c * (a * x * x + d * x + f) = 2 * (b * e - 2 * c * d) * x + (e * e - 4 * c * f) by grind]
      rw [sum_eq2 e2, sum_lin H (by grind) (fun t => (zz p φ).countP (fun z => decide (z * z = t))), sq (fun t z => decide (z * z = t)) hR, hD, k0]
      omega
    · have hM : (b * e - 2 * c * d) * (b * e - 2 * c * d) - (b * b - 4 * a * c) * (e * e - 4 * c * f) ≠ 0 := conic_ne0 h2 hc hdet
      have e2 : ∀ x, (zz p φ).countP (fun z => decide (z * z = (b * x + e) * (b * x + e) - 4 * c * (a * x * x + d * x + f))) = (fun u => (zz p φ).countP (fun z => decide ((b * b - 4 * a * c) * (z * z) = u * u - ((b * e - 2 * c * d) * (b * e - 2 * c * d) - (b * b - 4 * a * c) * (e * e - 4 * c * f))))) ((b * b - 4 * a * c) * x + (b * e - 2 * c * d)) := fun x => by
        refine count_eq fun z => Bool.eq_iff_iff.2 ?_
        rw [decide_eq_true_eq, decide_eq_true_eq]
        exact conic_square2 hD
      rw [sum_eq2 e2, sum_lin H hD (fun u => (zz p φ).countP (fun z => decide ((b * b - 4 * a * c) * (z * z) = u * u - ((b * e - 2 * c * d) * (b * e - 2 * c * d) - (b * b - 4 * a * c) * (e * e - 4 * c * f)))))]
      exact base _ _ hD hM (fun u z => decide ((b * b - 4 * a * c) * (z * z) = u * u - ((b * e - 2 * c * d) * (b * e - 2 * c * d) - (b * b - 4 * a * c) * (e * e - 4 * c * f)))) fun u z => by simp
end

end Go.Proofs.Ytfclaacaphpoaaa
