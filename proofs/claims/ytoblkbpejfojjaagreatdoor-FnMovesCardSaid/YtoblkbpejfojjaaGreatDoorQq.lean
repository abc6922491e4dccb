import Derived.Test.YtoblkbpejfojjaaGreatDoorQs
set_option linter.unusedSimpArgs false
set_option linter.unusedVariables false
namespace Go.Proofs.YtoblkbpejfojjaaGreatDoor
open Go.RowKit
/-! Fixed points of moves, kinds, inverses, lines. -/
theorem always_is : i_always = true := rfl
section
variable {p : Int} {K : Type} [Lean.Grind.Field K] {φ : Int → K}
theorem fix_sum (H : Hom p K φ) (hf : i_IsField p = true) {m : P6} {A B C D S T : K} (h : Vm p φ m A B C D S T) (Q : K → K → Bool) (hQ : ∀ X Y, Q X Y = true ↔ A * X + B * Y + S = X ∧ C * X + D * Y + T = Y) :
    (i_fixedPoints p m).1 = ((zz p φ).map fun x => (zz p φ).countP (Q x)).sum := by
  have h0 := (pr_nat (Pr_prB (i_IsField_ok hf))).2.2.1
  refine Eq.trans ?_ (pts_count (φ := φ) (by omega) (fun z => i_moved p m z == z) Q ?_)
  · rfl
  · intro x y hx hy
    obtain ⟨t1, t2⟩ := vl_moved H hf h (z := (x, y)) (Vl.of hx) (Vl.of hy)
    rw [Bool.eq_iff_iff, hQ, beq_iff_eq]
    constructor
    · intro e
      rw [e] at t1 t2
      exact ⟨t1.2.symm, t2.2.symm⟩
    · rintro ⟨e1, e2⟩
      rw [e1] at t1
      rw [e2] at t2
      exact Prod.ext (Vl.inj H t1 (Vl.of hx)) (Vl.inj H t2 (Vl.of hy))
theorem fix_none (H : Hom p K φ) (hf : i_IsField p = true) {m : P6} {A B C D S T : K} (h : Vm p φ m A B C D S T) (hn : ∀ X Y, ¬ (A * X + B * Y + S = X ∧ C * X + D * Y + T = Y)) : (i_fixedPoints p m).1 = 0 := by
  rw [fix_sum H hf h (fun _ _ => false) (fun X Y => ⟨fun e => (by cases e), fun e => absurd e (hn X Y)⟩)]
  rw [sum_eq2 (g := fun _ => 0) (fun k => count_none (fun _ => rfl)), sum_const]
  rfl
theorem fix_ex (H : Hom p K φ) (hf : i_IsField p = true) {m : P6} {A B C D S T : K} (h : Vm p φ m A B C D S T) (hn : (i_fixedPoints p m).1 ≠ 0) : ∃ X Y, A * X + B * Y + S = X ∧ C * X + D * Y + T = Y := by
  by_cases e : ∃ X Y, A * X + B * Y + S = X ∧ C * X + D * Y + T = Y
  · exact e
  · exact absurd (fix_none H hf h fun X Y q => e ⟨X, Y, q⟩) hn
theorem fix_all (H : Hom p K φ) (hf : i_IsField p = true) {m : P6} (h : Vm p φ m 1 0 0 1 0 0) : (i_fixedPoints p m).1 = p.toNat * p.toNat := by
  rw [fix_sum H hf h (fun _ _ => true) (fun X Y => ⟨fun e => ⟨by grind, by grind⟩, fun e => rfl⟩)]
  rw [sum_eq2 (g := fun _ => p.toNat) (fun k => by rw [List.countP_true, zz_len]), sum_const]
theorem fix_unique (H : Hom p K φ) (hf : i_IsField p = true) {m : P6} {A B C D S T : K} (h : Vm p φ m A B C D S T) {X0 Y0 : K} (hu : ∀ X Y, (A * X + B * Y + S = X ∧ C * X + D * Y + T = Y) ↔ X = X0 ∧ Y = Y0) : (i_fixedPoints p m).1 = 1 := by
  obtain ⟨Q, hQ⟩ := boolOf fun X Y : K => A * X + B * Y + S = X ∧ C * X + D * Y + T = Y
  obtain ⟨R, hR⟩ := boolOf1 fun X : K => X = X0
  rw [fix_sum H hf h Q hQ, if_sum R _ 1, count_one H X0 hR]
  intro x
  by_cases e : x = X0
  · rw [if_pos ((hR x).2 e)]
    exact count_one H Y0 fun k => by rw [hQ, hu]; exact ⟨fun q => q.2, fun q => ⟨e, q⟩⟩
  · rw [if_neg (fun q => e ((hR x).1 q))]
    exact count_none fun k => by
      rw [Bool.eq_false_iff]
      intro q
      exact e ((hu x k).1 ((hQ x k).1 q)).1
theorem fix_line (H : Hom p K φ) (hf : i_IsField p = true) {m : P6} {A B C D S T X0 Y0 : K} (h : Vm p φ m A B C D S T) (hd : A * D - B * C = -1) (ht : A + D = 0) (f1 : A * X0 + B * Y0 + S = X0) (f2 : C * X0 + D * Y0 + T = Y0) : (i_fixedPoints p m).1 = p.toNat := by
  have n2 := H.two_ne hf
  obtain ⟨Q, hQ⟩ := boolOf fun X Y : K => A * X + B * Y + S = X ∧ C * X + D * Y + T = Y
  rw [fix_sum H hf h Q hQ]
  have hD : D = -A := by grind
  have hS : S = X0 - A * X0 - B * Y0 := by grind
  have hT : T = Y0 - C * X0 - D * Y0 := by grind
  by_cases hB : B = 0
  · by_cases hA : A = -1
    · obtain ⟨R, hR⟩ := boolOf1 fun X : K => X = X0
      rw [if_sum R _ p.toNat, count_one H X0 hR, Nat.mul_one]
      intro x
      by_cases e : x = X0
      · rw [if_pos ((hR x).2 e), count_eq (r := fun _ => true), List.countP_true, zz_len]
        intro k
        show Q x k = true
        rw [hQ]
        subst hB hA hD hS hT e
        exact ⟨by grind, by grind⟩
      · rw [if_neg (fun q => e ((hR x).1 q))]
        exact count_none fun k => by
          rw [Bool.eq_false_iff]
          intro q
          have q1 := ((hQ x k).1 q).1
          exact e (by grind)
    · have hA1 : A = 1 := by
        have e : (A - 1) * (A + 1) = 0 := by grind
        have e2 : A + 1 ≠ 0 := fun q => hA (by grind)
        grind
      rw [sum_eq2 (g := fun _ => 1), sum_const, Nat.mul_one]
      intro x
      refine count_one H (Y0 + (2 : K)⁻¹ * (C * (x - X0))) fun k => ?_
      have hi := Lean.Grind.Field.mul_inv_cancel n2
      rw [hQ]
      generalize (2 : K)⁻¹ = w at *
      constructor
      · rintro ⟨q1, q2⟩
        grind
      · intro q
        exact ⟨by grind, by grind⟩
  · rw [sum_eq2 (g := fun _ => 1), sum_const, Nat.mul_one]
    intro x
    refine count_one H (Y0 - B⁻¹ * ((A - 1) * (x - X0))) fun k => ?_
    have hi := Lean.Grind.Field.mul_inv_cancel hB
    rw [hQ]
    generalize B⁻¹ = w at *
    constructor
    · rintro ⟨q1, q2⟩
      grind
    · intro q
      exact ⟨by grind, by grind⟩
theorem turn_unique {A B C D S T X0 Y0 : K} (hn : (A - 1) * (D - 1) - B * C ≠ 0) (f1 : A * X0 + B * Y0 + S = X0) (f2 : C * X0 + D * Y0 + T = Y0) (X Y : K) : (A * X + B * Y + S = X ∧ C * X + D * Y + T = Y) ↔ X = X0 ∧ Y = Y0 := by
  constructor
  · rintro ⟨g1, g2⟩
    have e1 : ((A - 1) * (D - 1) - B * C) * (X - X0) = 0 := by grind
    have e2 : ((A - 1) * (D - 1) - B * C) * (Y - Y0) = 0 := by grind
    constructor
    · grind
    · grind
  · rintro ⟨rfl, rfl⟩
    exact ⟨f1, f2⟩
theorem mat_one (H : Hom p K φ) (hf : i_IsField p = true) {m : P6} {A B C D S T : K} (h : Vm p φ m A B C D S T) : (m.1, m.2.1, m.2.2.1, m.2.2.2.1) = (1, 0, 0, 1) ↔ A = 1 ∧ B = 0 ∧ C = 0 ∧ D = 1 := by
  have e1 := Vl.eq_iff H h.a (Vl.one H hf); have e2 := Vl.zero_iff H h.b; have e3 := Vl.zero_iff H h.c; have e4 := Vl.eq_iff H h.d (Vl.one H hf)
  simp only [Prod.mk.injEq, e1, e2, e3, e4]
theorem shift_zero (H : Hom p K φ) {m : P6} {A B C D S T : K} (h : Vm p φ m A B C D S T) : m.2.2.2.2 = (0, 0) ↔ S = 0 ∧ T = 0 := by
  have e1 := Vl.zero_iff H h.s; have e2 := Vl.zero_iff H h.t
  rw [← e1, ← e2]
  exact ⟨fun e => by rw [e]; exact ⟨rfl, rfl⟩, fun e => Prod.ext e.1 e.2⟩
theorem sign_one (H : Hom p K φ) (hf : i_IsField p = true) {m : P6} {A B C D S T : K} (h : Vm p φ m A B C D S T) : i_sign p (m.1, m.2.1, m.2.2.1, m.2.2.2.1) = 1 ↔ A * D - B * C = 1 := Vl.eq_iff H (vl_sign H hf h) (Vl.one H hf)
end
theorem six_eq (m : P6) : m = (1, 0, 0, 1, 0, 0) ↔ (m.1, m.2.1, m.2.2.1, m.2.2.2.1) = (1, 0, 0, 1) ∧ m.2.2.2.2 = (0, 0) := by
  obtain ⟨a, b, c, d, s, t⟩ := m
  simp only [Prod.mk.injEq]
  constructor <;> intro h <;> simp [h]
/-- The five kinds. -/
theorem kind_cases {p c : Int} {m : P6} (hz : i_moveAsked p c m true i_always = 0) :
    (i_KindOfMove p c m = (0, 0) ∧ s_KindOfMove p c m = (0, 0) ∧ (i_OrderOfMove p c m).1 = 1 ∧ (i_fixedPoints p m).1 = p.toNat * p.toNat) ∨
    (i_KindOfMove p c m = (1, 0) ∧ s_KindOfMove p c m = (1, 0) ∧ (i_OrderOfMove p c m).1 = p ∧ (i_fixedPoints p m).1 = 0) ∨
    (i_KindOfMove p c m = (2, 0) ∧ s_KindOfMove p c m = (2, 0) ∧ (i_fixedPoints p m).1 = 1) ∨
    (i_KindOfMove p c m = (3, 0) ∧ s_KindOfMove p c m = (3, 0) ∧ (i_OrderOfMove p c m).1 = 2 ∧ (i_fixedPoints p m).1 = p.toNat) ∨
    (i_KindOfMove p c m = (4, 0) ∧ s_KindOfMove p c m = (4, 0) ∧ (i_fixedPoints p m).1 = 0) := by
  obtain ⟨hf, hc, hm, hk, _⟩ := move_ok hz
  obtain ⟨K, _, φ, H⟩ := hom_of hf
  have hp := pr_nat (Pr_prB (i_IsField_ok hf))
  have n2 := H.two_ne hf
  have h := Vm.of (φ := φ) hm
  have k := (keeps_iff H hf hc h).1 hk
  have e1 := mat_one H hf h
  have e2 := shift_zero H h
  have e3 := sign_one H hf h
  have e6 := six_eq m
  by_cases c1 : (m.1, m.2.1, m.2.2.1, m.2.2.2.1) = (1, 0, 0, 1)
  · have d1 := e1.1 c1
    have h' := h.conv d1.1 d1.2.1 d1.2.2.1 d1.2.2.2 rfl rfl
    by_cases c2 : m.2.2.2.2 = (0, 0)
    · refine Or.inl ⟨?_, ?_, ?_, ?_⟩
      · unfold i_KindOfMove
        rw [hz, if_neg (by simp), if_pos (by simpa using e6.2 ⟨c1, c2⟩)]
      · unfold s_KindOfMove
        rw [code_same, hz, if_neg (by simp), if_pos (by simpa using c1), if_pos (by simpa using c2)]
      · rw [order_of hz (N := 0) (e6.2 ⟨c1, c2⟩) (fun k hk => absurd hk (Nat.not_lt_zero k)) (by omega)]
        rfl
      · have d2 := e2.1 c2
        exact fix_all H hf (h'.conv rfl rfl rfl rfl d2.1 d2.2)
    · have c6 : ¬ m = (1, 0, 0, 1, 0, 0) := fun e => c2 (e6.1 e).2
      refine Or.inr (Or.inl ⟨?_, ?_, ?_, ?_⟩)
      · unfold i_KindOfMove
        rw [hz, if_neg (by simp), if_neg (by simpa using c6), if_pos (by simpa using c1)]
      · unfold s_KindOfMove
        rw [code_same, hz, if_neg (by simp), if_pos (by simpa using c1), if_neg (by simpa using c2), if_pos (by simpa using c1)]
      · rw [order_of hz (order_shift H hf h') (order_shift_ne H hf h' fun e => c2 (e2.2 e)) (by omega)]
        omega
      · refine fix_none H hf h' fun X Y q => c2 (e2.2 ?_)
        obtain ⟨q1, q2⟩ := q
        exact ⟨by grind, by grind⟩
  · have c6 : ¬ m = (1, 0, 0, 1, 0, 0) := fun e => c1 (e6.1 e).1
    have d1 : ¬ (φ m.1 = 1 ∧ φ m.2.1 = 0 ∧ φ m.2.2.1 = 0 ∧ φ m.2.2.2.1 = 1) := fun e => c1 (e1.2 e)
    by_cases c3 : i_sign p (m.1, m.2.1, m.2.2.1, m.2.2.2.1) = 1
    · have hd := e3.1 c3
      have hs := kp_solve hc n2 k hd d1
      obtain ⟨X, Y, f1, f2⟩ := turn_fix (S := φ m.2.2.2.2.1) (T := φ m.2.2.2.2.2) hs
      have hu := fix_unique H hf h (turn_unique hs f1 f2)
      refine Or.inr (Or.inr (Or.inl ⟨?_, ?_, hu⟩))
      · unfold i_KindOfMove
        rw [hz, if_neg (by simp), if_neg (by simpa using c6), if_neg (by simpa using c1), if_pos (by simpa using c3), hu, if_pos (by decide)]
      · unfold s_KindOfMove
        rw [code_same, hz, if_neg (by simp), if_neg (by simpa using c1), if_neg (by simpa using c1), sign_is, if_pos (by simpa using c3)]
    · have hd : φ m.1 * φ m.2.2.2.1 - φ m.2.1 * φ m.2.2.1 = -1 := by
        rcases kp_det hc k with e | e
        · exact absurd (e3.2 e) c3
        · exact e
      have ht := kp_ref hc n2 k hd
      by_cases c4 : (i_fixedPoints p m).1 = 0
      · refine Or.inr (Or.inr (Or.inr (Or.inr ⟨?_, ?_, c4⟩)))
        · unfold i_KindOfMove
          rw [hz, if_neg (by simp), if_neg (by simpa using c6), if_neg (by simpa using c1), if_neg (by simpa using c3), if_pos (by simpa using c3), c4, if_neg (by decide)]
        · unfold s_KindOfMove
          rw [code_same, hz, if_neg (by simp), if_neg (by simpa using c1), if_neg (by simpa using c1), sign_is, if_neg (by simpa using c3), fixed_is, c4, if_neg (by decide)]
      · obtain ⟨X, Y, f1, f2⟩ := fix_ex H hf h c4
        refine Or.inr (Or.inr (Or.inr (Or.inl ⟨?_, ?_, ?_, fix_line H hf h hd ht f1 f2⟩)))
        · unfold i_KindOfMove
          rw [hz, if_neg (by simp), if_neg (by simpa using c6), if_neg (by simpa using c1), if_neg (by simpa using c3), if_pos (by simpa using c3), if_pos (by simp; omega)]
        · unfold s_KindOfMove
          rw [code_same, hz, if_neg (by simp), if_neg (by simpa using c1), if_neg (by simpa using c1), sign_is, if_neg (by simpa using c3), fixed_is, if_pos (by simp; omega)]
        · rw [order_of hz (N := 1) (order_ref2 H hf h hd ht f1 f2) ?_ (by omega)]
          · rfl
          · intro q hq e
            obtain rfl : q = 0 := by omega
            exact c6 e
theorem KindOfMove_same (p c : Int) (m : P6) : i_KindOfMove p c m = s_KindOfMove p c m := by
  by_cases hz : i_moveAsked p c m true i_always = 0
  · rcases kind_cases hz with h | h | h | h | h <;> rw [h.1, h.2.1]
  · unfold i_KindOfMove s_KindOfMove
    rw [code_same, if_pos (bne_iff_ne.2 hz), if_pos (bne_iff_ne.2 hz)]
theorem kind_code {p c : Int} {m : P6} : (i_KindOfMove p c m).2 = i_moveAsked p c m true i_always := by
  by_cases hz : i_moveAsked p c m true i_always = 0
  · rw [hz]
    rcases kind_cases hz with h | h | h | h | h <;> rw [h.1]
  · unfold i_KindOfMove
    rw [if_pos (bne_iff_ne.2 hz)]

end Go.Proofs.YtoblkbpejfojjaaGreatDoor
