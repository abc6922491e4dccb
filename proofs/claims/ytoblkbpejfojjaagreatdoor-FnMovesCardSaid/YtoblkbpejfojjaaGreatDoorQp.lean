import Derived.Test.YtoblkbpejfojjaaGreatDoorQo
set_option linter.unusedSimpArgs false
set_option linter.unusedVariables false
namespace Go.Proofs.YtoblkbpejfojjaaGreatDoor
open Go.RowKit
/-! Orders of moves. -/
theorem pr_nat {p : Int} (h : prB p = true) : 1 ≤ p.toNat ∧ p.toNat ≤ 31 ∧ 1 ≤ p ∧ ((p.toNat : Nat) : Int) = p := by
  unfold prB at h
  simp at h
  omega
theorem least_of {P : Nat → Prop} : ∀ N, P N → ∃ M, M ≤ N ∧ P M ∧ ∀ k, k < M → ¬ P k := by
  intro N
  induction N using Nat.strongRecOn with
  | ind N ih =>
    intro h
    by_cases e : ∃ k, k < N ∧ P k
    · obtain ⟨k, hk, hp⟩ := e
      obtain ⟨M, h1, h2, h3⟩ := ih k hk hp
      exact ⟨M, by omega, h2, h3⟩
    · exact ⟨N, Nat.le_refl _, h, fun k hk hp => e ⟨k, hk, hp⟩⟩
def oneM : P6 := (1, 0, 0, 1, 0, 0)
def itM (p : Int) (m : P6) : Nat → P6
  | 0 => m
  | n + 1 => i_then p (itM p m n) m
/-- The turns' orders, by traces: M^(n+1) = x M + y. -/
def trN (p t : Nat) : Nat → Nat × Nat
  | 0 => (1, 0)
  | n + 1 => ((t * (trN p t n).1 + (trN p t n).2) % p, (p - (trN p t n).1) % p)
def trF (p t : Nat) : Nat → Nat → Nat → Bool
  | 0, _, _ => false
  | k + 1, x, y => (Nat.beq x 0 && Nat.beq y 1) || trF p t k ((t * x + y) % p) ((p - x) % p)
theorem trF_of (p t : Nat) : ∀ k n, trF p t k (trN p t n).1 (trN p t n).2 = true → ∃ N, N < n + k ∧ trN p t N = (0, 1)
  | 0, _, h => by cases h
  | k + 1, n, h => by
    unfold trF at h
    rw [Bool.or_eq_true, Bool.and_eq_true] at h
    rcases h with h | h
    · exact ⟨n, by omega, Prod.ext (Nat.eq_of_beq_eq_true h.1) (Nat.eq_of_beq_eq_true h.2)⟩
    · obtain ⟨N, h1, h2⟩ := trF_of p t k (n + 1) h
      exact ⟨N, by omega, h2⟩
theorem tr_chk : (([3, 5, 7, 11, 13, 17, 19, 23, 29, 31] : List Nat).all fun p => (List.range p).all fun t => trF p t 64 1 0) = true := by decide +kernel
section
variable {p : Int} {K : Type} [Lean.Grind.Field K] {φ : Int → K}
def trK (t : K) : Nat → K × K
  | 0 => (1, 0)
  | n + 1 => (t * (trK t n).1 + (trK t n).2, -(trK t n).1)
theorem tr_vl (H : Hom p K φ) (hp : prB p = true) (t : Nat) : ∀ n, (trN p.toNat t n).1 ≤ p.toNat ∧ φ ((trN p.toNat t n).1 : Int) = (trK (φ (t : Int)) n).1 ∧ φ ((trN p.toNat t n).2 : Int) = (trK (φ (t : Int)) n).2
  | 0 => by
    exact ⟨(pr_nat hp).1, H.one, H.zero⟩
  | n + 1 => by
    obtain ⟨h0, h1, h2⟩ := tr_vl H hp t n
    have hz := pr_nat hp
    have e : ((p.toNat : Nat) : Int) = p := by omega
    refine ⟨Nat.le_of_lt (Nat.mod_lt _ (by omega)), ?_, ?_⟩
    · show φ (((t * (trN p.toNat t n).1 + (trN p.toNat t n).2) % p.toNat : Nat) : Int) = _ * _ + _
      rw [Int.natCast_emod, e, H.mod, Int.natCast_add, Int.natCast_mul, H.add, H.mul, h1, h2]
    · show φ (((p.toNat - (trN p.toNat t n).1) % p.toNat : Nat) : Int) = -_
      rw [Int.natCast_emod, e, H.mod, Int.natCast_sub h0, e, H.sub, H.self, h1]
      grind
theorem tr_ex (H : Hom p K φ) (hf : i_IsField p = true) (t : K) : ∃ N, N < 64 ∧ trK t N = (0, 1) := by
  have hp := Pr_prB (i_IsField_ok hf)
  have hz := pr_nat hp
  obtain ⟨x, x0, x1, rfl⟩ := H.sur t
  have hm : p.toNat ∈ ([3, 5, 7, 11, 13, 17, 19, 23, 29, 31] : List Nat) := by
    have := field_mem hf
    simp at this ⊢
    omega
  have h := List.all_eq_true.1 (List.all_eq_true.1 tr_chk _ hm) x.toNat (List.mem_range.2 (by omega))
  obtain ⟨N, hN, e⟩ := trF_of p.toNat x.toNat 64 0 h
  obtain ⟨_, h1, h2⟩ := tr_vl H hp x.toNat N
  rw [e] at h1 h2
  have ex : ((x.toNat : Nat) : Int) = x := by omega
  rw [ex] at h1 h2
  refine ⟨N, by omega, Prod.ext ?_ ?_⟩
  · rw [← h1]; exact H.zero
  · rw [← h2]; exact H.one
theorem vm_one (H : Hom p K φ) (hf : i_IsField p = true) : Vm p φ oneM 1 0 0 1 0 0 :=
  ⟨Vl.one H hf, Vl.zero H (i_IsField_ok hf), Vl.zero H (i_IsField_ok hf), Vl.one H hf, Vl.zero H (i_IsField_ok hf), Vl.zero H (i_IsField_ok hf)⟩
/-- Powers of a turn with a fixed point. -/
theorem pow_turn (H : Hom p K φ) (hf : i_IsField p = true) {m : P6} {A B C D S T X Y : K} (h : Vm p φ m A B C D S T) (hd : A * D - B * C = 1) (f1 : A * X + B * Y + S = X) (f2 : C * X + D * Y + T = Y) : ∀ n, ∃ U V : K,
    Vm p φ (itM p m n) ((trK (A + D) n).1 * A + (trK (A + D) n).2) ((trK (A + D) n).1 * B) ((trK (A + D) n).1 * C) ((trK (A + D) n).1 * D + (trK (A + D) n).2) U V ∧
    ((trK (A + D) n).1 * A + (trK (A + D) n).2) * X + ((trK (A + D) n).1 * B) * Y + U = X ∧ ((trK (A + D) n).1 * C) * X + ((trK (A + D) n).1 * D + (trK (A + D) n).2) * Y + V = Y
  | 0 => ⟨S, T, h.conv (by simp only [trK]; grind) (by simp only [trK]; grind) (by simp only [trK]; grind) (by simp only [trK]; grind) rfl rfl, by simp only [trK]; grind, by simp only [trK]; grind⟩
  | n + 1 => by
    obtain ⟨U, V, h1, h2, h3⟩ := pow_turn H hf h hd f1 f2 n
    have h4 := vm_then H hf h1 h
    refine ⟨_, _, h4.conv ?_ ?_ ?_ ?_ rfl rfl, ?_, ?_⟩ <;> simp only [trK] <;> generalize (trK (A + D) n).1 = x at * <;> generalize (trK (A + D) n).2 = y at * <;> clear h1 h4 <;> grind
theorem order_turn (H : Hom p K φ) (hf : i_IsField p = true) {m : P6} {A B C D S T X Y : K} (h : Vm p φ m A B C D S T) (hd : A * D - B * C = 1) (f1 : A * X + B * Y + S = X) (f2 : C * X + D * Y + T = Y) : ∃ N, N < 64 ∧ itM p m N = oneM := by
  obtain ⟨N, hN, e⟩ := tr_ex H hf (A + D)
  obtain ⟨U, V, h1, h2, h3⟩ := pow_turn H hf h hd f1 f2 N
  rw [e] at h1 h2 h3
  exact ⟨N, hN, Vm.inj H (h1.conv (by grind) (by grind) (by grind) (by grind) (by grind) (by grind)) (vm_one H hf)⟩
theorem pow_shift (H : Hom p K φ) (hf : i_IsField p = true) {m : P6} {S T : K} (h : Vm p φ m 1 0 0 1 S T) : ∀ n : Nat, Vm p φ (itM p m n) 1 0 0 1 (φ ((n : Int) + 1) * S) (φ ((n : Int) + 1) * T)
  | 0 => h.conv rfl rfl rfl rfl (by rw [show ((0 : Nat) : Int) + 1 = 1 from rfl, H.one]; grind) (by rw [show ((0 : Nat) : Int) + 1 = 1 from rfl, H.one]; grind)
  | n + 1 => by
    have h1 := vm_then H hf (pow_shift H hf h n) h
    rw [show ((n + 1 : Nat) : Int) + 1 = ((n : Int) + 1) + 1 by omega, H.add, H.one]
    exact h1.conv (by grind) (by grind) (by grind) (by grind) (by grind) (by grind)
theorem order_shift (H : Hom p K φ) (hf : i_IsField p = true) {m : P6} {S T : K} (h : Vm p φ m 1 0 0 1 S T) : itM p m (p.toNat - 1) = oneM := by
  have hz := pr_nat (Pr_prB (i_IsField_ok hf))
  have h1 := pow_shift H hf h (p.toNat - 1)
  rw [show (((p.toNat - 1 : Nat) : Int) + 1) = p by omega, H.self] at h1
  exact Vm.inj H (h1.conv rfl rfl rfl rfl (by grind) (by grind)) (vm_one H hf)
theorem order_shift_ne (H : Hom p K φ) (hf : i_IsField p = true) {m : P6} {S T : K} (h : Vm p φ m 1 0 0 1 S T) (hn : ¬ (S = 0 ∧ T = 0)) : ∀ k, k < p.toNat - 1 → itM p m k ≠ oneM := by
  intro k hk e
  have hz := pr_nat (Pr_prB (i_IsField_ok hf))
  have h1 := pow_shift H hf h k
  have e2 := vm_one H hf
  rw [← e] at e2
  have e5 := h1.s.same e2.s
  have e6 := h1.t.same e2.t
  have hv : Vl p φ ((k : Int) + 1) (φ ((k : Int) + 1)) := Vl.of (by omega)
  have hne : φ ((k : Int) + 1) ≠ 0 := fun e0 => by have := (Vl.zero_iff H hv).2 e0; omega
  exact hn ⟨by grind, by grind⟩
/-- Reflections: twice is a shift along the line. -/
theorem pow_ref (H : Hom p K φ) (hf : i_IsField p = true) {m : P6} {A B C D S T : K} (h : Vm p φ m A B C D S T) (hd : A * D - B * C = -1) (ht : A + D = 0) : ∀ n : Nat, Vm p φ (itM p m (2 * n + 1)) 1 0 0 1 (φ ((n : Int) + 1) * (A * S + B * T + S)) (φ ((n : Int) + 1) * (C * S + D * T + T))
  | 0 => by
    have h1 := vm_then H hf h h
    rw [show ((0 : Nat) : Int) + 1 = 1 from rfl, H.one]
    exact h1.conv (by grind) (by grind) (by grind) (by grind) (by grind) (by grind)
  | n + 1 => by
    have h1 := vm_then H hf (vm_then H hf (pow_ref H hf h hd ht n) h) h
    rw [show ((n + 1 : Nat) : Int) + 1 = ((n : Int) + 1) + 1 by omega, H.add, H.one]
    generalize φ ((n : Int) + 1) = x at *
    exact h1.conv (by grind) (by grind) (by grind) (by grind) (by grind) (by grind)
theorem order_ref (H : Hom p K φ) (hf : i_IsField p = true) {m : P6} {A B C D S T : K} (h : Vm p φ m A B C D S T) (hd : A * D - B * C = -1) (ht : A + D = 0) : itM p m (2 * (p.toNat - 1) + 1) = oneM := by
  have hz := pr_nat (Pr_prB (i_IsField_ok hf))
  have h1 := pow_ref H hf h hd ht (p.toNat - 1)
  rw [show (((p.toNat - 1 : Nat) : Int) + 1) = p by omega, H.self] at h1
  exact Vm.inj H (h1.conv rfl rfl rfl rfl (by grind) (by grind)) (vm_one H hf)
theorem order_ref2 (H : Hom p K φ) (hf : i_IsField p = true) {m : P6} {A B C D S T X Y : K} (h : Vm p φ m A B C D S T) (hd : A * D - B * C = -1) (ht : A + D = 0) (f1 : A * X + B * Y + S = X) (f2 : C * X + D * Y + T = Y) : itM p m 1 = oneM := by
  have h1 := pow_ref H hf h hd ht 0
  rw [show ((0 : Nat) : Int) + 1 = 1 from rfl, H.one] at h1
  exact Vm.inj H (h1.conv rfl rfl rfl rfl (by grind) (by grind)) (vm_one H hf)
theorem it_map (H : Hom p K φ) (hf : i_IsField p = true) {m : P6} (h : i_isMap p m = true) : ∀ n, i_isMap p (itM p m n) = true
  | 0 => h
  | n + 1 => (vm_then H hf (Vm.of (it_map H hf h n)) (Vm.of h)).isMap
theorem turn_fix {A B C D S T : K} (h : (A - 1) * (D - 1) - B * C ≠ 0) : ∃ X Y : K, A * X + B * Y + S = X ∧ C * X + D * Y + T = Y := by
  refine ⟨((A - 1) * (D - 1) - B * C)⁻¹ * (B * T - (D - 1) * S), ((A - 1) * (D - 1) - B * C)⁻¹ * (C * S - (A - 1) * T), ?_, ?_⟩
  · have := Lean.Grind.Field.mul_inv_cancel h
    generalize ((A - 1) * (D - 1) - B * C)⁻¹ = w at *
    grind
  · have := Lean.Grind.Field.mul_inv_cancel h
    generalize ((A - 1) * (D - 1) - B * C)⁻¹ = w at *
    grind
end
/-- Every move has an order. -/
theorem order_ex {p c : Int} {m : P6} (hf : i_IsField p = true) (hc : isC c) (hm : i_isMap p m = true) (hk : i_keeps p c (m.1, m.2.1, m.2.2.1, m.2.2.2.1) = true) : ∃ N, N < 1000 ∧ itM p m N = oneM := by
  obtain ⟨K, _, φ, H⟩ := hom_of hf
  have hz := pr_nat (Pr_prB (i_IsField_ok hf))
  have hp31 : p.toNat ≤ 31 := by have := field_mem hf; simp at this; omega
  have n2 := H.two_ne hf
  have h := Vm.of (φ := φ) hm
  have k := (keeps_iff H hf hc h).1 hk
  rcases kp_det hc k with hd | hd
  · by_cases e : φ m.1 = 1 ∧ φ m.2.1 = 0 ∧ φ m.2.2.1 = 0 ∧ φ m.2.2.2.1 = 1
    · exact ⟨p.toNat - 1, by omega, order_shift H hf (h.conv e.1 e.2.1 e.2.2.1 e.2.2.2 rfl rfl)⟩
    · obtain ⟨X, Y, f1, f2⟩ := turn_fix (S := φ m.2.2.2.2.1) (T := φ m.2.2.2.2.2) (kp_solve hc n2 k hd e)
      obtain ⟨N, hN, e⟩ := order_turn H hf h hd f1 f2
      exact ⟨N, by omega, e⟩
  · exact ⟨_, by omega, order_ref H hf h hd (kp_ref hc n2 k hd)⟩

end Go.Proofs.YtoblkbpejfojjaaGreatDoor
