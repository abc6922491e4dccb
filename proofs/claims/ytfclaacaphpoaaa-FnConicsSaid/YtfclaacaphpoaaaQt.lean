import Derived.Test.YtfclaacaphpoaaaQs
import Derived.Test.YtfclaacaphpoaaaQn
set_option linter.unusedSimpArgs false
set_option linter.unusedVariables false
namespace Go.Proofs.Ytfclaacaphpoaaa
open Go.RowKit
/-! Conics in the field of rests: values, counts, other points, tangents. -/
section
variable {K : Type} [Lean.Grind.Field K] {p : Int} {φ : Int → K}
noncomputable def kdOf (H : Hom p K φ) (k : K) : Int := i_squareKind p (Classical.choose (H.sur k))
theorem kdOf_vl (H : Hom p K φ) {x : Int} {k : K} (h : Vl p φ x k) : kdOf H k = i_squareKind p x := by
  have s := Classical.choose_spec (H.sur k)
  unfold kdOf
  rw [phi_inj H ⟨s.1, s.2.1⟩ h.1 (s.2.2.trans h.2.symm)]
theorem kdOf_zero (H : Hom p K φ) (hf : i_IsField p = true) : kdOf H (0 : K) = 0 := by
  rw [kdOf_vl H (Vl.zero H (i_IsField_ok hf))]
  have h := kind_chk p (field_mem hf)
  rw [Bool.and_eq_true] at h
  simpa using h.1
theorem kdOf_sq (H : Hom p K φ) (hf : i_IsField p = true) (s : K) (hs : s ≠ 0) : kdOf H (s * s) = 1 := by
  obtain ⟨x, h0, h1, rfl⟩ := H.sur s
  have hv : Vl p φ ((x * x) % p) (φ x * φ x) := ⟨rest_b (i_IsField_ok hf) _, by rw [H.mod, H.mul]⟩
  rw [kdOf_vl H hv]
  have h := kind_chk p (field_mem hf)
  rw [Bool.and_eq_true] at h
  have h := List.all_eq_true.1 h.2 x.toNat (List.mem_range.2 (by omega))
  have hx : x ≠ 0 := fun e => hs (by rw [e, H.zero])
  have n1 : Nat.beq x.toNat 0 = false := by
    cases hb : Nat.beq x.toNat 0
    · rfl
    · have := Nat.eq_of_beq_eq_true hb
      omega
  rw [n1, Bool.false_or, Int.toNat_of_nonneg h0] at h
  exact of_decide_eq_true h
theorem vl_value (H : Hom p K φ) (hf : i_IsField p = true) {k : P6} {a : P2} (hk : i_isConic p k = true) (ha : i_isPoint p a = true) : Vl p φ (s_l08Value p k a) (φ k.1 * φ a.1 * φ a.1 + φ k.2.1 * φ a.1 * φ a.2 + φ k.2.2.1 * φ a.2 * φ a.2 + φ k.2.2.2.1 * φ a.1 + φ k.2.2.2.2.1 * φ a.2 + φ k.2.2.2.2.2) := by
  have hp := i_IsField_ok hf
  obtain ⟨k0, k1, k2, k3, k4, k5⟩ := isConic_num hk
  obtain ⟨a0, a1⟩ := isPoint_num ha
  have v0 := Vl.of (φ := φ) k0; have v1 := Vl.of (φ := φ) k1; have v2 := Vl.of (φ := φ) k2; have v3 := Vl.of (φ := φ) k3; have v4 := Vl.of (φ := φ) k4; have v5 := Vl.of (φ := φ) k5
  have w0 := Vl.of (φ := φ) a0; have w1 := Vl.of (φ := φ) a1
  unfold s_l08Value
  (repeat' (first | assumption | exact Vl.rw hp (by assumption) | exact Rw.lit _ (by decide) | exact Rw.nlit _ (by decide) | with_reducible apply Vl.rest H hp | with_reducible apply Vl.smod H hp | with_reducible apply Vl.div H hf | with_reducible apply Vl.inv H hf | with_reducible apply Vl.sinvV H hf | with_reducible apply Vl.sinvR H hf | with_reducible apply Rw.tmod H hp | with_reducible apply Rw.mul H | with_reducible apply Rw.neg0 H | with_reducible apply Rw.sub H | with_reducible apply Rw.add H | with_reducible apply Vl.rw hp | decide))
theorem oncon_iff (H : Hom p K φ) (hf : i_IsField p = true) {k : P6} {a : P2} (hk : i_isConic p k = true) (ha : i_isPoint p a = true) : i_isOnConic p a k = true ↔ φ k.1 * φ a.1 * φ a.1 + φ k.2.1 * φ a.1 * φ a.2 + φ k.2.2.1 * φ a.2 * φ a.2 + φ k.2.2.2.1 * φ a.1 + φ k.2.2.2.2.1 * φ a.2 + φ k.2.2.2.2.2 = 0 := by
  rw [onconic_eq hf hk ha, beq_iff_eq]
  exact Vl.zero_iff H (vl_value H hf hk ha)
theorem vl_cdet (H : Hom p K φ) (hf : i_IsField p = true) {k : P6} (hk : i_isConic p k = true) : Vl p φ (i_determinant p k) (2 * (4 * φ k.1 * φ k.2.2.1 * φ k.2.2.2.2.2 - φ k.1 * φ k.2.2.2.2.1 * φ k.2.2.2.2.1 - φ k.2.1 * φ k.2.1 * φ k.2.2.2.2.2 + φ k.2.1 * φ k.2.2.2.1 * φ k.2.2.2.2.1 - φ k.2.2.1 * φ k.2.2.2.1 * φ k.2.2.2.1)) := by
  have hp := i_IsField_ok hf
  obtain ⟨k0, k1, k2, k3, k4, k5⟩ := isConic_num hk
  have v0 := Vl.of (φ := φ) k0; have v1 := Vl.of (φ := φ) k1; have v2 := Vl.of (φ := φ) k2; have v3 := Vl.of (φ := φ) k3; have v4 := Vl.of (φ := φ) k4; have v5 := Vl.of (φ := φ) k5
  rw [← determinant_eq hf hk]
  have v : Vl p φ (s_l08Determinant p k) (φ 2 * φ k.1 * (φ 2 * φ k.2.2.1 * (φ 2 * φ k.2.2.2.2.2) - φ k.2.2.2.2.1 * φ k.2.2.2.2.1) - φ k.2.1 * (φ k.2.1 * (φ 2 * φ k.2.2.2.2.2) - φ k.2.2.2.2.1 * φ k.2.2.2.1) + φ k.2.2.2.1 * (φ k.2.1 * φ k.2.2.2.2.1 - φ 2 * φ k.2.2.1 * φ k.2.2.2.1)) := by
    unfold s_l08Determinant
    (repeat' (first | assumption | exact Vl.rw hp (by assumption) | exact Rw.lit _ (by decide) | exact Rw.nlit _ (by decide) | with_reducible apply Vl.rest H hp | with_reducible apply Vl.smod H hp | with_reducible apply Vl.div H hf | with_reducible apply Vl.inv H hf | with_reducible apply Vl.sinvV H hf | with_reducible apply Vl.sinvR H hf | with_reducible apply Rw.tmod H hp | with_reducible apply Rw.mul H | with_reducible apply Rw.neg0 H | with_reducible apply Rw.sub H | with_reducible apply Rw.add H | with_reducible apply Vl.rw hp | decide))
  rw [H.two] at v
  refine v.conv ?_
  grind
theorem cdet_ne (H : Hom p K φ) (hf : i_IsField p = true) {k : P6} (hk : i_isConic p k = true) (hd : i_determinant p k ≠ 0) : 4 * φ k.1 * φ k.2.2.1 * φ k.2.2.2.2.2 - φ k.1 * φ k.2.2.2.2.1 * φ k.2.2.2.2.1 - φ k.2.1 * φ k.2.1 * φ k.2.2.2.2.2 + φ k.2.1 * φ k.2.2.2.1 * φ k.2.2.2.2.1 - φ k.2.2.1 * φ k.2.2.2.1 * φ k.2.2.2.1 ≠ 0 := by
  intro h
  apply hd
  rw [Vl.zero_iff H (vl_cdet H hf hk), h]
  grind
theorem kind_kd (H : Hom p K φ) (hf : i_IsField p = true) {k : P6} (hk : i_isConic p k = true) : kdOf H (φ k.2.1 * φ k.2.1 - 4 * φ k.1 * φ k.2.2.1) = i_conicKind p k := by
  have hp := i_IsField_ok hf
  obtain ⟨k0, k1, k2, k3, k4, k5⟩ := isConic_num hk
  have v0 := Vl.of (φ := φ) k0; have v1 := Vl.of (φ := φ) k1; have v2 := Vl.of (φ := φ) k2
  have v : Vl p φ (i_rest p (wrap64 (wrap64 (k.2.1 * k.2.1) - wrap64 (wrap64 (4 * k.1) * k.2.2.1)))) (φ k.2.1 * φ k.2.1 - φ 4 * φ k.1 * φ k.2.2.1) := by (repeat' (first | assumption | exact Vl.rw hp (by assumption) | exact Rw.lit _ (by decide) | exact Rw.nlit _ (by decide) | with_reducible apply Vl.rest H hp | with_reducible apply Vl.smod H hp | with_reducible apply Vl.div H hf | with_reducible apply Vl.inv H hf | with_reducible apply Vl.sinvV H hf | with_reducible apply Vl.sinvR H hf | with_reducible apply Rw.tmod H hp | with_reducible apply Rw.mul H | with_reducible apply Rw.neg0 H | with_reducible apply Rw.sub H | with_reducible apply Rw.add H | with_reducible apply Vl.rw hp | decide))
  rw [H.four] at v
  rw [kdOf_vl H v]
  rfl
theorem base_all (H : Hom p K φ) (hf : i_IsField p = true) (D M : K) (hD : D ≠ 0) (hM : M ≠ 0) (R : K → K → Bool) (hR : ∀ u z, R u z = true ↔ D * (z * z) = u * u - M) : ((((zz p φ).map fun u => (zz p φ).countP (R u)).sum : Nat) : Int) = p - kdOf H D := by
  obtain ⟨d, d0, d1, rfl⟩ := H.sur D
  obtain ⟨m, m0, m1, rfl⟩ := H.sur M
  rw [kdOf_vl H (Vl.of ⟨d0, d1⟩)]
  exact base_ok H hf ⟨d0, d1⟩ ⟨m0, m1⟩ (fun e => hD (by rw [e, H.zero])) (fun e => hM (by rw [e, H.zero])) R hR
open Classical in
theorem conic_len (H : Hom p K φ) (hf : i_IsField p = true) {k : P6} (hk : i_isConic p k = true) (hd : i_determinant p k ≠ 0) : ((((pts p).filter fun a => i_isOnConic p a k).length : Nat) : Int) = p - i_conicKind p k := by
  have hp := i_IsField_ok hf
  have hp2 := hp
  unfold Pr at hp2
  rw [pts_count (φ := φ) (by omega) (fun a => i_isOnConic p a k) (fun x y => decide (φ k.1 * x * x + φ k.2.1 * x * y + φ k.2.2.1 * y * y + φ k.2.2.2.1 * x + φ k.2.2.2.2.1 * y + φ k.2.2.2.2.2 = 0)) (fun x y hx hy => by
    rw [Bool.eq_iff_iff, oncon_iff H hf hk (isPoint_mem (mem_pts.2 ⟨hx, hy⟩)), decide_eq_true_eq])]
  rw [count_conic H hf (cdet_ne H hf hk hd) (fun x y => decide (φ k.1 * x * x + φ k.2.1 * x * y + φ k.2.2.1 * y * y + φ k.2.2.2.1 * x + φ k.2.2.2.2.1 * y + φ k.2.2.2.2.2 = 0)) (fun x y => by simp) (kdOf H) (kdOf_zero H hf) (kdOf_sq H hf) (fun D M hD hM R hR => base_all H hf D M hD hM R hR) (fun R hR => sq_ok H hf R hR), kind_kd H hf hk]
/-- The other point, by the centre. -/
theorem other_on (H : Hom p K φ) (hf : i_IsField p = true) {k : P6} (hk : i_isConic p k = true) {c z : P2} (hc : i_isPoint p c = true) (hz : i_isPoint p z = true) (c1 : (i_polar p k c).1 = 0) (c2 : (i_polar p k c).2.1 = 0) (hon : i_isOnConic p z k = true) :
    ∃ w : P2, w = ((wI (wI (wI (2 * c.1) + p) - z.1)).tmod p, (wI (wI (wI (2 * c.2) + p) - z.2)).tmod p) ∧ w ∈ pts p ∧ i_isOnConic p w k = true := by
  have hp := i_IsField_ok hf
  have hp2 := hp
  unfold Pr at hp2
  obtain ⟨hc1, hc2⟩ := isPoint_num hc
  obtain ⟨hz1, hz2⟩ := isPoint_num hz
  refine ⟨_, rfl, ?_⟩
  have e1 : (wI (wI (wI (2 * c.1) + p) - z.1)).tmod p = (2 * c.1 + p - z.1) % p := by
    simp only [wI_eq]
    rw [w64 (n := 2 * c.1) (by omega), w64 (n := 2 * c.1 + p) (by omega), w64 (by omega), tmod_pos (by omega)]
  have e2 : (wI (wI (wI (2 * c.2) + p) - z.2)).tmod p = (2 * c.2 + p - z.2) % p := by
    simp only [wI_eq]
    rw [w64 (n := 2 * c.2) (by omega), w64 (n := 2 * c.2 + p) (by omega), w64 (by omega), tmod_pos (by omega)]
  rw [e1, e2]
  have b1 := rest_b hp (2 * c.1 + p - z.1)
  have b2 := rest_b hp (2 * c.2 + p - z.2)
  have hm : ((2 * c.1 + p - z.1) % p, (2 * c.2 + p - z.2) % p) ∈ pts p := mem_pts.2 ⟨b1, b2⟩
  refine ⟨hm, ?_⟩
  rw [oncon_iff H hf hk (isPoint_mem hm)]
  have q1 := (Vl.zero_iff H (vl_polar1 H hf hk hc)).1 c1
  have q2 := (Vl.zero_iff H (vl_polar2 H hf hk hc)).1 c2
  have q3 := (oncon_iff H hf hk hz).1 hon
  have f1 : φ ((2 * c.1 + p - z.1) % p) = 2 * φ c.1 - φ z.1 := by rw [H.mod, H.sub, H.add, H.mul, H.self, H.two]; grind
  have f2 : φ ((2 * c.2 + p - z.2) % p) = 2 * φ c.2 - φ z.2 := by rw [H.mod, H.sub, H.add, H.mul, H.self, H.two]; grind
  dsimp only
  rw [f1, f2]
  generalize φ c.1 = X at *; generalize φ c.2 = Y at *; generalize φ z.1 = Z at *; generalize φ z.2 = T at *
  generalize φ k.1 = A at *; generalize φ k.2.1 = B at *; generalize φ k.2.2.1 = C at *; generalize φ k.2.2.2.1 = D at *; generalize φ k.2.2.2.2.1 = E at *; generalize φ k.2.2.2.2.2 = F at *
  clear e1 e2 b1 b2 hm f1 f2 hc1 hc2 hz1 hz2 c1 c2 hon
  grind
end

end Go.Proofs.Ytfclaacaphpoaaa
