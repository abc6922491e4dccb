import Derived.Test.YtoblkbpejfojjaaGreatDoorQm
set_option linter.unusedSimpArgs false
set_option linter.unusedVariables false
namespace Go.Proofs.YtoblkbpejfojjaaGreatDoor
open Go.RowKit
/-! Moves: codes, values, products. -/
theorem lead_is (p : Int) (m : P6) (a : P2) : s_l07Lead p m a = i_turned p (m.1, m.2.1, m.2.2.1, m.2.2.2.1) a := rfl
theorem move_is (p : Int) (m : P6) (a : P2) : s_l07Move p m a = i_moved p m a := rfl
theorem sign_is (p : Int) (m : P6) : s_l07Sign p m = i_sign p (m.1, m.2.1, m.2.2.1, m.2.2.2.1) := rfl
theorem fixed_is (p : Int) (m : P6) : s_l07Fixed p m = i_fixedPoints p m := rfl
theorem map_is {p : Int} (hp : Pr p) (m : P6) : s_l07Is p m = i_isMap p m := by
  unfold s_l07Is i_isMap
  simp only [in_eq hp, point_eq hp]
  cases h0 : i_isNumber p m.1 <;> cases h1 : i_isNumber p m.2.1 <;> cases h2 : i_isNumber p m.2.2.1 <;> cases h3 : i_isNumber p m.2.2.2.1 <;> simp [i_areNumbers, h0, h1, h2, h3]
theorem maps1 (p : Int) (k : Bool) (m : P6) : s_l07Maps p [m] = i_asked p k (i_isMap p m) := by
  unfold s_l07Maps i_asked s_l01Field
  cases h : i_IsField p
  · rfl
  · simp only [List.all_cons, List.all_nil, Bool.and_true, map_is (i_IsField_ok h)]
theorem maps2 (p : Int) (k : Bool) (m n : P6) : s_l07Maps p [m, n] = i_asked p k (if i_isMap p m = true then i_isMap p n else false) := by
  unfold s_l07Maps i_asked s_l01Field
  cases h : i_IsField p
  · rfl
  · simp only [List.all_cons, List.all_nil, Bool.and_true, map_is (i_IsField_ok h)]
    cases i_isMap p m <;> cases i_isMap p n <;> rfl
theorem isMap_num {p : Int} {m : P6} (h : i_isMap p m = true) : (0 ≤ m.1 ∧ m.1 < p) ∧ (0 ≤ m.2.1 ∧ m.2.1 < p) ∧ (0 ≤ m.2.2.1 ∧ m.2.2.1 < p) ∧ (0 ≤ m.2.2.2.1 ∧ m.2.2.2.1 < p) ∧ (0 ≤ m.2.2.2.2.1 ∧ m.2.2.2.2.1 < p) ∧ (0 ≤ m.2.2.2.2.2 ∧ m.2.2.2.2.2 < p) := by
  unfold i_isMap at h
  cases h0 : i_areNumbers p [m.1, m.2.1, m.2.2.1, m.2.2.2.1]
  · rw [h0] at h; cases h
  · rw [h0, if_pos rfl] at h
    have h1 := isPoint_num h
    have h2 : (0 ≤ m.1 ∧ m.1 < p) ∧ (0 ≤ m.2.1 ∧ m.2.1 < p) ∧ (0 ≤ m.2.2.1 ∧ m.2.2.1 < p) ∧ (0 ≤ m.2.2.2.1 ∧ m.2.2.2.1 < p) := by simpa [i_areNumbers, isNumber_iff] using h0
    exact ⟨h2.1, h2.2.1, h2.2.2.1, h2.2.2.2, h1.1, h1.2⟩
theorem isMap_of {p : Int} {m : P6} (h0 : 0 ≤ m.1 ∧ m.1 < p) (h1 : 0 ≤ m.2.1 ∧ m.2.1 < p) (h2 : 0 ≤ m.2.2.1 ∧ m.2.2.1 < p) (h3 : 0 ≤ m.2.2.2.1 ∧ m.2.2.2.1 < p) (h4 : 0 ≤ m.2.2.2.2.1 ∧ m.2.2.2.2.1 < p) (h5 : 0 ≤ m.2.2.2.2.2 ∧ m.2.2.2.2.2 < p) : i_isMap p m = true := by
  unfold i_isMap i_isPoint
  simp [i_areNumbers, isNumber_iff, h0, h1, h2, h3, h4, h5]
section
variable {p : Int} {K : Type} {φ : Int → K}
/-- The values of a map. -/
structure Vm (p : Int) (φ : Int → K) (m : P6) (A B C D S T : K) : Prop where
  a : Vl p φ m.1 A
  b : Vl p φ m.2.1 B
  c : Vl p φ m.2.2.1 C
  d : Vl p φ m.2.2.2.1 D
  s : Vl p φ m.2.2.2.2.1 S
  t : Vl p φ m.2.2.2.2.2 T
theorem Vm.of {m : P6} (h : i_isMap p m = true) : Vm p φ m (φ m.1) (φ m.2.1) (φ m.2.2.1) (φ m.2.2.2.1) (φ m.2.2.2.2.1) (φ m.2.2.2.2.2) := by
  obtain ⟨h0, h1, h2, h3, h4, h5⟩ := isMap_num h
  exact ⟨Vl.of h0, Vl.of h1, Vl.of h2, Vl.of h3, Vl.of h4, Vl.of h5⟩
theorem Vm.isMap {m : P6} {A B C D S T : K} (h : Vm p φ m A B C D S T) : i_isMap p m = true := isMap_of h.a.1 h.b.1 h.c.1 h.d.1 h.s.1 h.t.1
theorem Vm.conv {m : P6} {A B C D S T A' B' C' D' S' T' : K} (h : Vm p φ m A B C D S T) (e1 : A = A') (e2 : B = B') (e3 : C = C') (e4 : D = D') (e5 : S = S') (e6 : T = T') : Vm p φ m A' B' C' D' S' T' := by
  subst e1 e2 e3 e4 e5 e6; exact h
end
section
variable {p : Int} {K : Type} [Lean.Grind.Field K] {φ : Int → K}
theorem Vm.inj (H : Hom p K φ) {m n : P6} {A B C D S T : K} (h : Vm p φ m A B C D S T) (k : Vm p φ n A B C D S T) : m = n := by
  obtain ⟨m0, m1, m2, m3, m4, m5⟩ := m
  obtain ⟨n0, n1, n2, n3, n4, n5⟩ := n
  have e0 := Vl.inj H h.a k.a; have e1 := Vl.inj H h.b k.b; have e2 := Vl.inj H h.c k.c; have e3 := Vl.inj H h.d k.d; have e4 := Vl.inj H h.s k.s; have e5 := Vl.inj H h.t k.t
  simp only at e0 e1 e2 e3 e4 e5
  rw [e0, e1, e2, e3, e4, e5]
theorem vl_turned (H : Hom p K φ) (hf : i_IsField p = true) {a b c d : Int} {z : P2} {A B C D X Y : K} (ha : Vl p φ a A) (hb : Vl p φ b B) (hc : Vl p φ c C) (hd : Vl p φ d D) (h1 : Vl p φ z.1 X) (h2 : Vl p φ z.2 Y) :
    Vl p φ (i_turned p (a, b, c, d) z).1 (A * X + B * Y) ∧ Vl p φ (i_turned p (a, b, c, d) z).2 (C * X + D * Y) := by
  have hp := i_IsField_ok hf
  unfold i_turned
  dsimp only
  constructor
  · (repeat' (first | assumption | exact Vl.rw hp (by assumption) | exact Rw.lit _ (by decide) | exact Rw.nlit _ (by decide) | with_reducible apply Vl.rest H hp | with_reducible apply Vl.smod H hp | with_reducible apply Vl.div H hf | with_reducible apply Vl.inv H hf | with_reducible apply Vl.sinvV H hf | with_reducible apply Vl.sinvR H hf | with_reducible apply Rw.tmod H hp | with_reducible apply Rw.mul H | with_reducible apply Rw.neg0 H | with_reducible apply Rw.sub H | with_reducible apply Rw.add H | with_reducible apply Vl.rw hp | decide))
  · (repeat' (first | assumption | exact Vl.rw hp (by assumption) | exact Rw.lit _ (by decide) | exact Rw.nlit _ (by decide) | with_reducible apply Vl.rest H hp | with_reducible apply Vl.smod H hp | with_reducible apply Vl.div H hf | with_reducible apply Vl.inv H hf | with_reducible apply Vl.sinvV H hf | with_reducible apply Vl.sinvR H hf | with_reducible apply Rw.tmod H hp | with_reducible apply Rw.mul H | with_reducible apply Rw.neg0 H | with_reducible apply Rw.sub H | with_reducible apply Rw.add H | with_reducible apply Vl.rw hp | decide))
theorem vl_moved (H : Hom p K φ) (hf : i_IsField p = true) {m : P6} {z : P2} {A B C D S T X Y : K} (h : Vm p φ m A B C D S T) (h1 : Vl p φ z.1 X) (h2 : Vl p φ z.2 Y) : Vl p φ (i_moved p m z).1 (A * X + B * Y + S) ∧ Vl p φ (i_moved p m z).2 (C * X + D * Y + T) := by
  have hp := i_IsField_ok hf
  obtain ⟨t1, t2⟩ := vl_turned H hf h.a h.b h.c h.d h1 h2
  have q1 := h.s; have q2 := h.t
  unfold i_moved i_sum
  dsimp only
  constructor
  · (repeat' (first | assumption | exact Vl.rw hp (by assumption) | exact Rw.lit _ (by decide) | exact Rw.nlit _ (by decide) | with_reducible apply Vl.rest H hp | with_reducible apply Vl.smod H hp | with_reducible apply Vl.div H hf | with_reducible apply Vl.inv H hf | with_reducible apply Vl.sinvV H hf | with_reducible apply Vl.sinvR H hf | with_reducible apply Rw.tmod H hp | with_reducible apply Rw.mul H | with_reducible apply Rw.neg0 H | with_reducible apply Rw.sub H | with_reducible apply Rw.add H | with_reducible apply Vl.rw hp | decide))
  · (repeat' (first | assumption | exact Vl.rw hp (by assumption) | exact Rw.lit _ (by decide) | exact Rw.nlit _ (by decide) | with_reducible apply Vl.rest H hp | with_reducible apply Vl.smod H hp | with_reducible apply Vl.div H hf | with_reducible apply Vl.inv H hf | with_reducible apply Vl.sinvV H hf | with_reducible apply Vl.sinvR H hf | with_reducible apply Rw.tmod H hp | with_reducible apply Rw.mul H | with_reducible apply Rw.neg0 H | with_reducible apply Rw.sub H | with_reducible apply Rw.add H | with_reducible apply Vl.rw hp | decide))
theorem vl_sign (H : Hom p K φ) (hf : i_IsField p = true) {m : P6} {A B C D S T : K} (h : Vm p φ m A B C D S T) : Vl p φ (i_sign p (m.1, m.2.1, m.2.2.1, m.2.2.2.1)) (A * D - B * C) := by
  have hp := i_IsField_ok hf
  have q1 := h.a; have q2 := h.b; have q3 := h.c; have q4 := h.d
  unfold i_sign
  dsimp only
  (repeat' (first | assumption | exact Vl.rw hp (by assumption) | exact Rw.lit _ (by decide) | exact Rw.nlit _ (by decide) | with_reducible apply Vl.rest H hp | with_reducible apply Vl.smod H hp | with_reducible apply Vl.div H hf | with_reducible apply Vl.inv H hf | with_reducible apply Vl.sinvV H hf | with_reducible apply Vl.sinvR H hf | with_reducible apply Rw.tmod H hp | with_reducible apply Rw.mul H | with_reducible apply Rw.neg0 H | with_reducible apply Rw.sub H | with_reducible apply Rw.add H | with_reducible apply Vl.rw hp | decide))
theorem vm_then (H : Hom p K φ) (hf : i_IsField p = true) {m n : P6} {A B C D S T A' B' C' D' S' T' : K} (h : Vm p φ m A B C D S T) (k : Vm p φ n A' B' C' D' S' T') :
    Vm p φ (i_then p m n) (A' * A + B' * C) (A' * B + B' * D) (C' * A + D' * C) (C' * B + D' * D) (A' * S + B' * T + S') (C' * S + D' * T + T') := by
  have hp := i_IsField_ok hf
  have q1 := h.a; have q2 := h.b; have q3 := h.c; have q4 := h.d
  have r1 := k.a; have r2 := k.b; have r3 := k.c; have r4 := k.d
  obtain ⟨t1, t2⟩ := vl_moved H hf k (z := m.2.2.2.2) h.s h.t
  unfold i_then
  refine ⟨?_, ?_, ?_, ?_, t1, t2⟩ <;> dsimp only
  · (repeat' (first | assumption | exact Vl.rw hp (by assumption) | exact Rw.lit _ (by decide) | exact Rw.nlit _ (by decide) | with_reducible apply Vl.rest H hp | with_reducible apply Vl.smod H hp | with_reducible apply Vl.div H hf | with_reducible apply Vl.inv H hf | with_reducible apply Vl.sinvV H hf | with_reducible apply Vl.sinvR H hf | with_reducible apply Rw.tmod H hp | with_reducible apply Rw.mul H | with_reducible apply Rw.neg0 H | with_reducible apply Rw.sub H | with_reducible apply Rw.add H | with_reducible apply Vl.rw hp | decide))
  · (repeat' (first | assumption | exact Vl.rw hp (by assumption) | exact Rw.lit _ (by decide) | exact Rw.nlit _ (by decide) | with_reducible apply Vl.rest H hp | with_reducible apply Vl.smod H hp | with_reducible apply Vl.div H hf | with_reducible apply Vl.inv H hf | with_reducible apply Vl.sinvV H hf | with_reducible apply Vl.sinvR H hf | with_reducible apply Rw.tmod H hp | with_reducible apply Rw.mul H | with_reducible apply Rw.neg0 H | with_reducible apply Rw.sub H | with_reducible apply Rw.add H | with_reducible apply Vl.rw hp | decide))
  · (repeat' (first | assumption | exact Vl.rw hp (by assumption) | exact Rw.lit _ (by decide) | exact Rw.nlit _ (by decide) | with_reducible apply Vl.rest H hp | with_reducible apply Vl.smod H hp | with_reducible apply Vl.div H hf | with_reducible apply Vl.inv H hf | with_reducible apply Vl.sinvV H hf | with_reducible apply Vl.sinvR H hf | with_reducible apply Rw.tmod H hp | with_reducible apply Rw.mul H | with_reducible apply Rw.neg0 H | with_reducible apply Rw.sub H | with_reducible apply Rw.add H | with_reducible apply Vl.rw hp | decide))
  · (repeat' (first | assumption | exact Vl.rw hp (by assumption) | exact Rw.lit _ (by decide) | exact Rw.nlit _ (by decide) | with_reducible apply Vl.rest H hp | with_reducible apply Vl.smod H hp | with_reducible apply Vl.div H hf | with_reducible apply Vl.inv H hf | with_reducible apply Vl.sinvV H hf | with_reducible apply Vl.sinvR H hf | with_reducible apply Rw.tmod H hp | with_reducible apply Rw.mul H | with_reducible apply Rw.neg0 H | with_reducible apply Rw.sub H | with_reducible apply Rw.add H | with_reducible apply Vl.rw hp | decide))
theorem vm_times (H : Hom p K φ) (hf : i_IsField p = true) {m n : P6} {A B C D S T A' B' C' D' S' T' : K} (h : Vm p φ m A B C D S T) (k : Vm p φ n A' B' C' D' S' T') :
    Vm p φ (s_l07Times p m n) (A' * A + B' * C) (A' * B + B' * D) (C' * A + D' * C) (C' * B + D' * D) (A' * S + B' * T + S') (C' * S + D' * T + T') := by
  have hp := i_IsField_ok hf
  have z0 : Vl p φ 0 (0 : K) := Vl.zero H hp
  have z1 : Vl p φ 1 (1 : K) := Vl.one H hf
  obtain ⟨x1, x2⟩ := vl_turned H hf h.a h.b h.c h.d (z := (1, 0)) z1 z0
  obtain ⟨y1, y2⟩ := vl_turned H hf h.a h.b h.c h.d (z := (0, 1)) z0 z1
  obtain ⟨u1, u2⟩ := vl_turned H hf k.a k.b k.c k.d x1 x2
  obtain ⟨v1, v2⟩ := vl_turned H hf k.a k.b k.c k.d y1 y2
  obtain ⟨t1, t2⟩ := vl_moved H hf k (z := m.2.2.2.2) h.s h.t
  refine ⟨u1.conv (by grind), v1.conv (by grind), u2.conv (by grind), v2.conv (by grind), t1, t2⟩
theorem times_then (H : Hom p K φ) (hf : i_IsField p = true) {m n : P6} (hm : i_isMap p m = true) (hn : i_isMap p n = true) : s_l07Times p m n = i_then p m n :=
  Vm.inj H (vm_times H hf (Vm.of hm) (Vm.of hn)) (vm_then H hf (Vm.of hm) (Vm.of hn))
/-- A matrix that keeps quadrances. -/
def Kp (c : Int) (A B C D : K) : Prop := prodK c A C A C = prodK c 1 0 1 0 ∧ prodK c B D B D = prodK c 0 1 0 1 ∧ prodK c A C B D = prodK c 1 0 0 1
theorem bilin {c : Int} (hc : isC c) (A B C D : K) : prodK c (A + B) (C + D) (A + B) (C + D) = prodK c A C A C + prodK c B D B D + 2 * prodK c A C B D := by
  rcases hc with rfl | rfl | rfl <;> simp only [prodK] <;> grind
theorem keeps_iff (H : Hom p K φ) (hf : i_IsField p = true) {c : Int} (hc : isC c) {m : P6} {A B C D S T : K} (h : Vm p φ m A B C D S T) : i_keeps p c (m.1, m.2.1, m.2.2.1, m.2.2.2.1) = true ↔ Kp c A B C D := by
  have hp := i_IsField_ok hf
  have h2 := H.two_ne hf
  have z0 : Vl p φ 0 (0 : K) := Vl.zero H hp
  have z1 : Vl p φ 1 (1 : K) := Vl.one H hf
  obtain ⟨x1, x2⟩ := vl_turned H hf h.a h.b h.c h.d (z := (1, 0)) z1 z0
  obtain ⟨y1, y2⟩ := vl_turned H hf h.a h.b h.c h.d (z := (0, 1)) z0 z1
  obtain ⟨w1, w2⟩ := vl_turned H hf h.a h.b h.c h.d (z := (1, 1)) z1 z1
  have a1 := vl_product H hf hc (a := (1, 0)) (b := (1, 0)) z1 z0 z1 z0
  have a2 := vl_product H hf hc (a := (0, 1)) (b := (0, 1)) z0 z1 z0 z1
  have a3 := vl_product H hf hc (a := (1, 1)) (b := (1, 1)) z1 z1 z1 z1
  have b1 := vl_product H hf hc x1 x2 x1 x2
  have b2 := vl_product H hf hc y1 y2 y1 y2
  have b3 := vl_product H hf hc w1 w2 w1 w2
  have e1 := Vl.eq_iff H a1 b1
  have e2 := Vl.eq_iff H a2 b2
  have e3 := Vl.eq_iff H a3 b3
  have q1 := bilin hc A B C D
  have q2 := bilin hc (1 : K) 0 0 1
  rw [show A * 1 + B * 0 = A by grind, show C * 1 + D * 0 = C by grind] at e1
  rw [show A * 0 + B * 1 = B by grind, show C * 0 + D * 1 = D by grind] at e2
  rw [show A * 1 + B * 1 = A + B by grind, show C * 1 + D * 1 = C + D by grind, q1] at e3
  rw [show (1 : K) + 0 = 1 by grind, show (0 : K) + 1 = 1 by grind] at q2
  rw [q2] at e3
  unfold i_keeps Kp
  clear x1 x2 y1 y2 w1 w2 a1 a2 a3 b1 b2 b3 q1 q2 z0 z1
  by_cases c1 : i_product p c (1, 0) (1, 0) = i_product p c (i_turned p (m.1, m.2.1, m.2.2.1, m.2.2.2.1) (1, 0)) (i_turned p (m.1, m.2.1, m.2.2.1, m.2.2.2.1) (1, 0))
  · have k1 := e1.1 c1
    rw [if_neg (by simpa using c1)]
    by_cases c2 : i_product p c (0, 1) (0, 1) = i_product p c (i_turned p (m.1, m.2.1, m.2.2.1, m.2.2.2.1) (0, 1)) (i_turned p (m.1, m.2.1, m.2.2.1, m.2.2.2.1) (0, 1))
    · have k2 := e2.1 c2
      rw [if_neg (by simpa using c2)]
      by_cases c3 : i_product p c (1, 1) (1, 1) = i_product p c (i_turned p (m.1, m.2.1, m.2.2.1, m.2.2.2.1) (1, 1)) (i_turned p (m.1, m.2.1, m.2.2.1, m.2.2.2.1) (1, 1))
      · have k3 := e3.1 c3
        rw [if_neg (by simpa using c3)]
        refine ⟨fun _ => ⟨k1.symm, k2.symm, ?_⟩, fun _ => rfl⟩
        generalize prodK c A C B D = U at *
        generalize prodK c (1 : K) 0 0 1 = V at *
        generalize prodK c A C A C = U1 at *; generalize prodK c B D B D = U2 at *; generalize prodK c (1 : K) 0 1 0 = V1 at *; generalize prodK c (0 : K) 1 0 1 = V2 at *
        clear e1 e2 e3 c1 c2 c3
        grind
      · rw [if_pos (by simpa using c3)]
        refine ⟨fun h => by simp at h, fun ⟨k1, k2, k3⟩ => absurd (e3.2 ?_) c3⟩
        rw [k1, k2, k3]
    · rw [if_pos (by simpa using c2)]
      exact ⟨fun h => by simp at h, fun ⟨k1, k2, k3⟩ => absurd (e2.2 k2.symm) c2⟩
  · rw [if_pos (by simpa using c1)]
    exact ⟨fun h => by simp at h, fun ⟨k1, k2, k3⟩ => absurd (e1.2 k1.symm) c1⟩
theorem good_iff (H : Hom p K φ) (hf : i_IsField p = true) {c : Int} (hc : isC c) {m : P6} {A B C D S T : K} (h : Vm p φ m A B C D S T) : s_l07Good p c m = true ↔ Kp c A B C D := by
  have hp := i_IsField_ok hf
  have z0 : Vl p φ 0 (0 : K) := Vl.zero H hp
  have z1 : Vl p φ 1 (1 : K) := Vl.one H hf
  obtain ⟨x1, x2⟩ := vl_turned H hf h.a h.b h.c h.d (z := (1, 0)) z1 z0
  obtain ⟨y1, y2⟩ := vl_turned H hf h.a h.b h.c h.d (z := (0, 1)) z0 z1
  have a1 := vl_product H hf hc (a := (1, 0)) (b := (1, 0)) z1 z0 z1 z0
  have a2 := vl_product H hf hc (a := (0, 1)) (b := (0, 1)) z0 z1 z0 z1
  have a3 := vl_product H hf hc (a := (1, 0)) (b := (0, 1)) z1 z0 z0 z1
  have b1 := vl_product H hf hc x1 x2 x1 x2
  have b2 := vl_product H hf hc y1 y2 y1 y2
  have b3 := vl_product H hf hc x1 x2 y1 y2
  have e1 := Vl.eq_iff H b1 a1
  have e2 := Vl.eq_iff H b2 a2
  have e3 := Vl.eq_iff H b3 a3
  rw [show A * 1 + B * 0 = A by grind, show C * 1 + D * 0 = C by grind] at e1
  rw [show A * 0 + B * 1 = B by grind, show C * 0 + D * 1 = D by grind] at e2
  rw [show A * 1 + B * 0 = A by grind, show C * 1 + D * 0 = C by grind, show A * 0 + B * 1 = B by grind, show C * 0 + D * 1 = D by grind] at e3
  have f : s_l07Good p c m = (if (i_product p c (i_turned p (m.1, m.2.1, m.2.2.1, m.2.2.2.1) (1, 0)) (i_turned p (m.1, m.2.1, m.2.2.1, m.2.2.2.1) (1, 0)) == i_product p c (1, 0) (1, 0)) = true then (if (i_product p c (i_turned p (m.1, m.2.1, m.2.2.1, m.2.2.2.1) (0, 1)) (i_turned p (m.1, m.2.1, m.2.2.1, m.2.2.2.1) (0, 1)) == i_product p c (0, 1) (0, 1)) = true then i_product p c (i_turned p (m.1, m.2.1, m.2.2.1, m.2.2.2.1) (1, 0)) (i_turned p (m.1, m.2.1, m.2.2.1, m.2.2.2.1) (0, 1)) == i_product p c (1, 0) (0, 1) else false) else false) := rfl
  rw [f]
  unfold Kp
  rw [← e1, ← e2, ← e3]
  simp only [beq_iff_eq]
  split
  · rename_i c1
    split
    · rename_i c2
      simp [c1, c2]
    · rename_i c2
      simp [c1, c2]
  · rename_i c1
    simp [c1]
end
theorem in_colour (c : Int) : s_l01In c 0 2 = i_isColour c := by
  unfold s_l01In i_isColour
  rfl
theorem code_same (p c : Int) (m : P6) : s_l07Code p c m = i_moveAsked p c m true i_always := by
  unfold s_l07Code i_moveAsked i_moveAsked_c1 i_always
  rw [maps1 p true, in_colour]
  cases hf : i_IsField p
  · simp [i_asked, hf]
  · cases hm : i_isMap p m
    · cases i_isColour c <;> simp [i_asked, hf]
    · cases hc : i_isColour c
      · simp [i_asked, hf]
      · obtain ⟨K, _, φ, H⟩ := hom_of hf
        have e : s_l07Good p c m = i_keeps p c (m.1, m.2.1, m.2.2.1, m.2.2.2.1) := by
          rw [Bool.eq_iff_iff, good_iff H hf (isC_of hc) (Vm.of hm), keeps_iff H hf (isC_of hc) (Vm.of hm)]
        rw [e]
        simp [i_asked, hf]
/-- What a code of 0 says. -/
theorem move_ok {p c : Int} {m : P6} {b : Bool} (h : i_moveAsked p c m true b = 0) : i_IsField p = true ∧ isC c ∧ i_isMap p m = true ∧ i_keeps p c (m.1, m.2.1, m.2.2.1, m.2.2.2.1) = true ∧ b = true := by
  obtain ⟨h1, h2⟩ := moveAsked_zero h
  obtain ⟨hf, hb⟩ := asked_zero h1
  unfold i_moveAsked_c1 at hb
  cases hc : i_isColour c
  · rw [hc] at hb; cases hb
  · cases hm : i_isMap p m
    · rw [hc, hm] at hb; cases hb
    · rw [hc, hm] at hb
      exact ⟨hf, isC_of hc, rfl, h2, hb⟩
theorem move_zero {p c : Int} {m : P6} (hf : i_IsField p = true) (hc : i_isColour c = true) (hm : i_isMap p m = true) (hk : i_keeps p c (m.1, m.2.1, m.2.2.1, m.2.2.2.1) = true) : i_moveAsked p c m true i_always = 0 := by
  unfold i_moveAsked i_moveAsked_c1 i_always
  rw [hc, hm, hk]
  simp [i_asked, hf]
theorem IsMove_same (p c : Int) (m : P6) : i_IsMove p c m = s_IsMove p c m := by
  unfold i_IsMove s_IsMove i_IsMove_c1
  rw [code_same]
  unfold i_moveAsked i_moveAsked_c1 i_always
  cases hf : i_IsField p
  · simp [i_asked, hf]
  · cases hm : i_isMap p m
    · cases i_isColour c <;> simp [i_asked, hf]
    · cases hc : i_isColour c
      · simp [i_asked, hf]
      · cases hk : i_keeps p c (m.1, m.2.1, m.2.2.1, m.2.2.2.1) <;> simp [i_asked, hf]
theorem MovePoint_same (p : Int) (m : P6) (a : P2) : i_MovePoint p m a = s_MovePoint p m a := by
  unfold i_MovePoint s_MovePoint i_MovePoint_c1
  rw [maps1 p true, pointcode p true, move_is]
  cases hf : i_IsField p
  · simp [i_asked, hf]
  · cases hm : i_isMap p m <;> cases ha : i_isPoint p a <;> simp [i_asked, hf, i_arePoints, ha]
theorem ProductOfMoves_same (p : Int) (m n : P6) : i_ProductOfMoves p m n = s_ProductOfMoves p m n := by
  unfold i_ProductOfMoves s_ProductOfMoves i_ProductOfMoves_c1
  rw [maps2 p true]
  by_cases h : i_asked p true (if i_isMap p m = true then i_isMap p n else false) = 0
  · obtain ⟨hf, hb⟩ := asked_zero h
    obtain ⟨K, _, φ, H⟩ := hom_of hf
    have hb : i_isMap p m = true ∧ i_isMap p n = true := by cases hm : i_isMap p m <;> rw [hm] at hb <;> simp_all
    rw [times_then H hf hb.1 hb.2]
  · rw [if_pos (bne_iff_ne.2 h), if_pos (bne_iff_ne.2 h)]
theorem FixedPoints_same (p : Int) (m : P6) : i_FixedPoints p m = s_FixedPoints p m := by
  unfold i_FixedPoints s_FixedPoints i_FixedPoints_c1
  rw [maps1 p true, fixed_is]
theorem ShiftBy_same (p : Int) (a : P2) : i_ShiftBy p a = s_ShiftBy p a := by
  unfold i_ShiftBy s_ShiftBy i_ShiftBy_c1
  rw [pointcode p true]
  simp [i_arePoints]

end Go.Proofs.YtoblkbpejfojjaaGreatDoor
