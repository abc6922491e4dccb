import Derived.Test.YtoblkbpejfojjaaGreatDoorQb
set_option linter.unusedSimpArgs false
set_option linter.unusedVariables false
namespace Go.Proofs.YtoblkbpejfojjaaGreatDoor
open Go.RowKit
/-! Moves: codes, values, products. -/
theorem move_is (p : Int) (m : P6) (a : P2) : s_l07Move p m a = i_moved p m a := rfl
theorem fixed_is (p : Int) (m : P6) : s_l07Fixed p m = i_fixedPoints p m := rfl
theorem isMap_num {p : Int} {m : P6} (h : i_isMap p m = true) : (0 ≤ m.1 ∧ m.1 < p) ∧ (0 ≤ m.2.1 ∧ m.2.1 < p) ∧ (0 ≤ m.2.2.1 ∧ m.2.2.1 < p) ∧ (0 ≤ m.2.2.2.1 ∧ m.2.2.2.1 < p) ∧ (0 ≤ m.2.2.2.2.1 ∧ m.2.2.2.2.1 < p) ∧ (0 ≤ m.2.2.2.2.2 ∧ m.2.2.2.2.2 < p) := by
  unfold i_isMap at h
  cases h0 : i_areNumbers p [m.1, m.2.1, m.2.2.1, m.2.2.2.1]
  · rw [h0] at h; cases h
  · rw [h0, if_pos rfl] at h
    have h1 := isPoint_num h
    have h2 : (0 ≤ m.1 ∧ m.1 < p) ∧ (0 ≤ m.2.1 ∧ m.2.1 < p) ∧ (0 ≤ m.2.2.1 ∧ m.2.2.1 < p) ∧ (0 ≤ m.2.2.2.1 ∧ m.2.2.2.1 < p) := by simpa [i_areNumbers, isNumber_iff] using h0
    exact ⟨h2.1, h2.2.1, h2.2.2.1, h2.2.2.2, h1.1, h1.2⟩
theorem isMap_of {p : Int} {m : P6} (h0 : 0 ≤ m.1 ∧ m.1 < p) (h1 : 0 ≤ m.2.1 ∧ m.2.1 < p) (h2 : 0 ≤ m.2.2.1 ∧ m.2.2.1 < p) (h3 : 0 ≤ m.2.2.2.1 ∧ m.2.2.2.1 < p) (h4 : 0 ≤ m.2.2.2.2.1 ∧ m.2.2.2.2.1 < p) (h5 : 0 ≤ m.2.2.2.2.2 ∧ m.2.2.2.2.2 < p) : i_isMap p m = true := by
  unfold i_isMap i_isPoint
  simp [i_areNumbers, isNumber_iff, h0, h1, h2, h3, h4, h5]
section
variable {p : Int} {K : Type} {φ : Int → K}
/-- The values of a map. -/
structure Vm (p : Int) (φ : Int → K) (m : P6) (A B C D S T : K) : Prop where
  a : Vl p φ m.1 A
  b : Vl p φ m.2.1 B
  c : Vl p φ m.2.2.1 C
  d : Vl p φ m.2.2.2.1 D
  s : Vl p φ m.2.2.2.2.1 S
  t : Vl p φ m.2.2.2.2.2 T
theorem Vm.of {m : P6} (h : i_isMap p m = true) : Vm p φ m (φ m.1) (φ m.2.1) (φ m.2.2.1) (φ m.2.2.2.1) (φ m.2.2.2.2.1) (φ m.2.2.2.2.2) := by
  obtain ⟨h0, h1, h2, h3, h4, h5⟩ := isMap_num h
  exact ⟨Vl.of h0, Vl.of h1, Vl.of h2, Vl.of h3, Vl.of h4, Vl.of h5⟩
theorem Vm.isMap {m : P6} {A B C D S T : K} (h : Vm p φ m A B C D S T) : i_isMap p m = true := isMap_of h.a.1 h.b.1 h.c.1 h.d.1 h.s.1 h.t.1
theorem Vm.conv {m : P6} {A B C D S T A' B' C' D' S' T' : K} (h : Vm p φ m A B C D S T) (e1 : A = A') (e2 : B = B') (e3 : C = C') (e4 : D = D') (e5 : S = S') (e6 : T = T') : Vm p φ m A' B' C' D' S' T' := by
  subst e1 e2 e3 e4 e5 e6; exact h
end
section
variable {p : Int} {K : Type} [Lean.Grind.Field K] {φ : Int → K}
theorem Vm.inj (H : Hom p K φ) {m n : P6} {A B C D S T : K} (h : Vm p φ m A B C D S T) (k : Vm p φ n A B C D S T) : m = n := by
  obtain ⟨m0, m1, m2, m3, m4, m5⟩ := m
  obtain ⟨n0, n1, n2, n3, n4, n5⟩ := n
  have e0 := Vl.inj H h.a k.a; have e1 := Vl.inj H h.b k.b; have e2 := Vl.inj H h.c k.c; have e3 := Vl.inj H h.d k.d; have e4 := Vl.inj H h.s k.s; have e5 := Vl.inj H h.t k.t
  simp only at e0 e1 e2 e3 e4 e5
  rw [e0, e1, e2, e3, e4, e5]
theorem vl_turned (H : Hom p K φ) (hf : i_IsField p = true) {a b c d : Int} {z : P2} {A B C D X Y : K} (ha : Vl p φ a A) (hb : Vl p φ b B) (hc : Vl p φ c C) (hd : Vl p φ d D) (h1 : Vl p φ z.1 X) (h2 : Vl p φ z.2 Y) :
    Vl p φ (i_turned p (a, b, c, d) z).1 (A * X + B * Y) ∧ Vl p φ (i_turned p (a, b, c, d) z).2 (C * X + D * Y) := by
  have hp := i_IsField_ok hf
  unfold i_turned
  dsimp only
  constructor
  · (repeat' (first | assumption | exact Vl.rw hp (by assumption) | exact Rw.lit _ (by decide) | exact Rw.nlit _ (by decide) | with_reducible apply Vl.rest H hp | with_reducible apply Vl.smod H hp | with_reducible apply Vl.div H hf | with_reducible apply Vl.inv H hf | with_reducible apply Vl.sinvV H hf | with_reducible apply Vl.sinvR H hf | with_reducible apply Rw.tmod H hp | with_reducible apply Rw.mul H | with_reducible apply Rw.neg0 H | with_reducible apply Rw.sub H | with_reducible apply Rw.add H | with_reducible apply Vl.rw hp | decide))
  · (repeat' (first | assumption | exact Vl.rw hp (by assumption) | exact Rw.lit _ (by decide) | exact Rw.nlit _ (by decide) | with_reducible apply Vl.rest H hp | with_reducible apply Vl.smod H hp | with_reducible apply Vl.div H hf | with_reducible apply Vl.inv H hf | with_reducible apply Vl.sinvV H hf | with_reducible apply Vl.sinvR H hf | with_reducible apply Rw.tmod H hp | with_reducible apply Rw.mul H | with_reducible apply Rw.neg0 H | with_reducible apply Rw.sub H | with_reducible apply Rw.add H | with_reducible apply Vl.rw hp | decide))
theorem vl_moved (H : Hom p K φ) (hf : i_IsField p = true) {m : P6} {z : P2} {A B C D S T X Y : K} (h : Vm p φ m A B C D S T) (h1 : Vl p φ z.1 X) (h2 : Vl p φ z.2 Y) : Vl p φ (i_moved p m z).1 (A * X + B * Y + S) ∧ Vl p φ (i_moved p m z).2 (C * X + D * Y + T) := by
  have hp := i_IsField_ok hf
  obtain ⟨t1, t2⟩ := vl_turned H hf h.a h.b h.c h.d h1 h2
  have q1 := h.s; have q2 := h.t
  unfold i_moved i_sum
  dsimp only
  constructor
  · (repeat' (first | assumption | exact Vl.rw hp (by assumption) | exact Rw.lit _ (by decide) | exact Rw.nlit _ (by decide) | with_reducible apply Vl.rest H hp | with_reducible apply Vl.smod H hp | with_reducible apply Vl.div H hf | with_reducible apply Vl.inv H hf | with_reducible apply Vl.sinvV H hf | with_reducible apply Vl.sinvR H hf | with_reducible apply Rw.tmod H hp | with_reducible apply Rw.mul H | with_reducible apply Rw.neg0 H | with_reducible apply Rw.sub H | with_reducible apply Rw.add H | with_reducible apply Vl.rw hp | decide))
  · (repeat' (first | assumption | exact Vl.rw hp (by assumption) | exact Rw.lit _ (by decide) | exact Rw.nlit _ (by decide) | with_reducible apply Vl.rest H hp | with_reducible apply Vl.smod H hp | with_reducible apply Vl.div H hf | with_reducible apply Vl.inv H hf | with_reducible apply Vl.sinvV H hf | with_reducible apply Vl.sinvR H hf | with_reducible apply Rw.tmod H hp | with_reducible apply Rw.mul H | with_reducible apply Rw.neg0 H | with_reducible apply Rw.sub H | with_reducible apply Rw.add H | with_reducible apply Vl.rw hp | decide))
theorem vl_sign (H : Hom p K φ) (hf : i_IsField p = true) {m : P6} {A B C D S T : K} (h : Vm p φ m A B C D S T) : Vl p φ (i_sign p (m.1, m.2.1, m.2.2.1, m.2.2.2.1)) (A * D - B * C) := by
  have hp := i_IsField_ok hf
  have q1 := h.a; have q2 := h.b; have q3 := h.c; have q4 := h.d
  unfold i_sign
  dsimp only
  (repeat' (first | assumption | exact Vl.rw hp (by assumption) | exact Rw.lit _ (by decide) | exact Rw.nlit _ (by decide) | with_reducible apply Vl.rest H hp | with_reducible apply Vl.smod H hp | with_reducible apply Vl.div H hf | with_reducible apply Vl.inv H hf | with_reducible apply Vl.sinvV H hf | with_reducible apply Vl.sinvR H hf | with_reducible apply Rw.tmod H hp | with_reducible apply Rw.mul H | with_reducible apply Rw.neg0 H | with_reducible apply Rw.sub H | with_reducible apply Rw.add H | with_reducible apply Vl.rw hp | decide))
theorem vm_then (H : Hom p K φ) (hf : i_IsField p = true) {m n : P6} {A B C D S T A' B' C' D' S' T' : K} (h : Vm p φ m A B C D S T) (k : Vm p φ n A' B' C' D' S' T') :
    Vm p φ (i_then p m n) (A' * A + B' * C) (A' * B + B' * D) (C' * A + D' * C) (C' * B + D' * D) (A' * S + B' * T + S') (C' * S + D' * T + T') := by
  have hp := i_IsField_ok hf
  have q1 := h.a; have q2 := h.b; have q3 := h.c; have q4 := h.d
  have r1 := k.a; have r2 := k.b; have r3 := k.c; have r4 := k.d
  obtain ⟨t1, t2⟩ := vl_moved H hf k (z := m.2.2.2.2) h.s h.t
  unfold i_then
  refine ⟨?_, ?_, ?_, ?_, t1, t2⟩ <;> dsimp only
  · (repeat' (first | assumption | exact Vl.rw hp (by assumption) | exact Rw.lit _ (by decide) | exact Rw.nlit _ (by decide) | with_reducible apply Vl.rest H hp | with_reducible apply Vl.smod H hp | with_reducible apply Vl.div H hf | with_reducible apply Vl.inv H hf | with_reducible apply Vl.sinvV H hf | with_reducible apply Vl.sinvR H hf | with_reducible apply Rw.tmod H hp | with_reducible apply Rw.mul H | with_reducible apply Rw.neg0 H | with_reducible apply Rw.sub H | with_reducible apply Rw.add H | with_reducible apply Vl.rw hp | decide))
  · (repeat' (first | assumption | exact Vl.rw hp (by assumption) | exact Rw.lit _ (by decide) | exact Rw.nlit _ (by decide) | with_reducible apply Vl.rest H hp | with_reducible apply Vl.smod H hp | with_reducible apply Vl.div H hf | with_reducible apply Vl.inv H hf | with_reducible apply Vl.sinvV H hf | with_reducible apply Vl.sinvR H hf | with_reducible apply Rw.tmod H hp | with_reducible apply Rw.mul H | with_reducible apply Rw.neg0 H | with_reducible apply Rw.sub H | with_reducible apply Rw.add H | with_reducible apply Vl.rw hp | decide))
  · (repeat' (first | assumption | exact Vl.rw hp (by assumption) | exact Rw.lit _ (by decide) | exact Rw.nlit _ (by decide) | with_reducible apply Vl.rest H hp | with_reducible apply Vl.smod H hp | with_reducible apply Vl.div H hf | with_reducible apply Vl.inv H hf | with_reducible apply Vl.sinvV H hf | with_reducible apply Vl.sinvR H hf | with_reducible apply Rw.tmod H hp | with_reducible apply Rw.mul H | with_reducible apply Rw.neg0 H | with_reducible apply Rw.sub H | with_reducible apply Rw.add H | with_reducible apply Vl.rw hp | decide))
  · (repeat' (first | assumption | exact Vl.rw hp (by assumption) | exact Rw.lit _ (by decide) | exact Rw.nlit _ (by decide) | with_reducible apply Vl.rest H hp | with_reducible apply Vl.smod H hp | with_reducible apply Vl.div H hf | with_reducible apply Vl.inv H hf | with_reducible apply Vl.sinvV H hf | with_reducible apply Vl.sinvR H hf | with_reducible apply Rw.tmod H hp | with_reducible apply Rw.mul H | with_reducible apply Rw.neg0 H | with_reducible apply Rw.sub H | with_reducible apply Rw.add H | with_reducible apply Vl.rw hp | decide))
/-- A matrix that keeps quadrances. -/
def Kp (c : Int) (A B C D : K) : Prop := prodK c A C A C = prodK c 1 0 1 0 ∧ prodK c B D B D = prodK c 0 1 0 1 ∧ prodK c A C B D = prodK c 1 0 0 1
theorem bilin {c : Int} (hc : isC c) (A B C D : K) : prodK c (A + B) (C + D) (A + B) (C + D) = prodK c A C A C + prodK c B D B D + 2 * prodK c A C B D := by
  rcases hc with rfl | rfl | rfl <;> simp only [prodK] <;> grind
theorem keeps_iff (H : Hom p K φ) (hf : i_IsField p = true) {c : Int} (hc : isC c) {m : P6} {A B C D S T : K} (h : Vm p φ m A B C D S T) : i_keeps p c (m.1, m.2.1, m.2.2.1, m.2.2.2.1) = true ↔ Kp c A B C D := by
  have hp := i_IsField_ok hf
  have h2 := H.two_ne hf
  have z0 : Vl p φ 0 (0 : K) := Vl.zero H hp
  have z1 : Vl p φ 1 (1 : K) := Vl.one H hf
  obtain ⟨x1, x2⟩ := vl_turned H hf h.a h.b h.c h.d (z := (1, 0)) z1 z0
  obtain ⟨y1, y2⟩ := vl_turned H hf h.a h.b h.c h.d (z := (0, 1)) z0 z1
  obtain ⟨w1, w2⟩ := vl_turned H hf h.a h.b h.c h.d (z := (1, 1)) z1 z1
  have a1 := vl_product H hf hc (a := (1, 0)) (b := (1, 0)) z1 z0 z1 z0
  have a2 := vl_product H hf hc (a := (0, 1)) (b := (0, 1)) z0 z1 z0 z1
  have a3 := vl_product H hf hc (a := (1, 1)) (b := (1, 1)) z1 z1 z1 z1
  have b1 := vl_product H hf hc x1 x2 x1 x2
  have b2 := vl_product H hf hc y1 y2 y1 y2
  have b3 := vl_product H hf hc w1 w2 w1 w2
  have e1 := Vl.eq_iff H a1 b1
  have e2 := Vl.eq_iff H a2 b2
  have e3 := Vl.eq_iff H a3 b3
  have q1 := bilin hc A B C D
  have q2 := bilin hc (1 : K) 0 0 1
  rw [show A * 1 + B * 0 = A by grind, show C * 1 + D * 0 = C by grind] at e1
  rw [show A * 0 + B * 1 = B by grind, show C * 0 + D * 1 = D by grind] at e2
  rw [show A * 1 + B * 1 = A + B by grind, show C * 1 + D * 1 = C + D by grind, q1] at e3
  rw [show (1 : K) + 0 = 1 by grind, show (0 : K) + 1 = 1 by grind] at q2
  rw [q2] at e3
  unfold i_keeps Kp
  clear x1 x2 y1 y2 w1 w2 a1 a2 a3 b1 b2 b3 q1 q2 z0 z1
  by_cases c1 : i_product p c (1, 0) (1, 0) = i_product p c (i_turned p (m.1, m.2.1, m.2.2.1, m.2.2.2.1) (1, 0)) (i_turned p (m.1, m.2.1, m.2.2.1, m.2.2.2.1) (1, 0))
  · have k1 := e1.1 c1
    rw [if_neg (by simpa using c1)]
    by_cases c2 : i_product p c (0, 1) (0, 1) = i_product p c (i_turned p (m.1, m.2.1, m.2.2.1, m.2.2.2.1) (0, 1)) (i_turned p (m.1, m.2.1, m.2.2.1, m.2.2.2.1) (0, 1))
    · have k2 := e2.1 c2
      rw [if_neg (by simpa using c2)]
      by_cases c3 : i_product p c (1, 1) (1, 1) = i_product p c (i_turned p (m.1, m.2.1, m.2.2.1, m.2.2.2.1) (1, 1)) (i_turned p (m.1, m.2.1, m.2.2.1, m.2.2.2.1) (1, 1))
      · have k3 := e3.1 c3
        rw [if_neg (by simpa using c3)]
        refine ⟨fun _ => ⟨k1.symm, k2.symm, ?_⟩, fun _ => rfl⟩
        generalize prodK c A C B D = U at *
        generalize prodK c (1 : K) 0 0 1 = V at *
        generalize prodK c A C A C = U1 at *; generalize prodK c B D B D = U2 at *; generalize prodK c (1 : K) 0 1 0 = V1 at *; generalize prodK c (0 : K) 1 0 1 = V2 at *
        clear e1 e2 e3 c1 c2 c3
        grind
      · rw [if_pos (by simpa using c3)]
        refine ⟨fun h => by simp at h, fun ⟨k1, k2, k3⟩ => absurd (e3.2 ?_) c3⟩
        rw [k1, k2, k3]
    · rw [if_pos (by simpa using c2)]
      exact ⟨fun h => by simp at h, fun ⟨k1, k2, k3⟩ => absurd (e2.2 k2.symm) c2⟩
  · rw [if_pos (by simpa using c1)]
    exact ⟨fun h => by simp at h, fun ⟨k1, k2, k3⟩ => absurd (e1.2 k1.symm) c1⟩
end
theorem in_colour (c : Int) : s_l01In c 0 2 = i_isColour c := by
  unfold s_l01In i_isColour
  rfl
/-- What a code of 0 says. -/
theorem move_ok {p c : Int} {m : P6} {b : Bool} (h : i_moveAsked p c m true b = 0) : i_IsField p = true ∧ isC c ∧ i_isMap p m = true ∧ i_keeps p c (m.1, m.2.1, m.2.2.1, m.2.2.2.1) = true ∧ b = true := by
  obtain ⟨h1, h2⟩ := moveAsked_zero h
  obtain ⟨hf, hb⟩ := asked_zero h1
  unfold i_moveAsked_c1 at hb
  cases hc : i_isColour c
  · rw [hc] at hb; cases hb
  · cases hm : i_isMap p m
    · rw [hc, hm] at hb; cases hb
    · rw [hc, hm] at hb
      exact ⟨hf, isC_of hc, rfl, h2, hb⟩
theorem move_zero {p c : Int} {m : P6} (hf : i_IsField p = true) (hc : i_isColour c = true) (hm : i_isMap p m = true) (hk : i_keeps p c (m.1, m.2.1, m.2.2.1, m.2.2.2.1) = true) : i_moveAsked p c m true i_always = 0 := by
  unfold i_moveAsked i_moveAsked_c1 i_always
  rw [hc, hm, hk]
  simp [i_asked, hf]
/-! Matrices that keep quadrances: turns and reflections. -/
section
variable {K : Type} [Lean.Grind.Field K]
theorem kp_ref {c : Int} (hc : isC c) (n2 : (2 : K) ≠ 0) {A B C D : K} (h : Kp c A B C D) (hd : A * D - B * C = -1) : A + D = 0 := by
  unfold Kp at h
  obtain ⟨h1, h2, h3⟩ := h
  rcases hc with rfl | rfl | rfl <;> simp only [prodK] at h1 h2 h3
  · have e : A = -D := by grind
    grind
  · have e : A = -D := by grind
    grind
  · have e1 : A * C = 0 := by grind
    have e2 : B * D = 0 := by grind
    have e3 : A * D = 0 := by grind
    have e4 : B * C = 1 := by grind
    grind
theorem kp_one {c : Int} (hc : isC c) (n2 : (2 : K) ≠ 0) {A B C D : K} (h : Kp c A B C D) (hd : A * D - B * C = 1) (ht : A + D = 2) : A = 1 ∧ B = 0 ∧ C = 0 ∧ D = 1 := by
  unfold Kp at h
  obtain ⟨h1, h2, h3⟩ := h
  rcases hc with rfl | rfl | rfl <;> simp only [prodK] at h1 h2 h3
  · have e : A = D := by grind
    have e2 : A = 1 := by grind
    grind
  · have e : A = D := by grind
    have e2 : A = 1 := by grind
    grind
  · have e1 : A * C = 0 := by grind
    have e2 : B * D = 0 := by grind
    have e3 : A * D = 1 := by grind
    have e4 : (A - 1) * (A - 1) = 0 := by grind
    have e5 : A = 1 := by grind
    grind
/-- A turn other than the identity matrix: I - M can be solved. -/
theorem kp_solve {c : Int} (hc : isC c) (n2 : (2 : K) ≠ 0) {A B C D : K} (h : Kp c A B C D) (hd : A * D - B * C = 1) (hn : ¬ (A = 1 ∧ B = 0 ∧ C = 0 ∧ D = 1)) : (A - 1) * (D - 1) - B * C ≠ 0 := by
  intro e
  exact hn (kp_one hc n2 h hd (by grind))
end

/-! Orders of moves. -/
theorem pr_nat {p : Int} (h : prB p = true) : 1 ≤ p.toNat ∧ p.toNat ≤ 31 ∧ 1 ≤ p ∧ ((p.toNat : Nat) : Int) = p := by
  unfold prB at h
  simp at h
  omega
def oneM : P6 := (1, 0, 0, 1, 0, 0)
def itM (p : Int) (m : P6) : Nat → P6
  | 0 => m
  | n + 1 => i_then p (itM p m n) m
section
variable {p : Int} {K : Type} [Lean.Grind.Field K] {φ : Int → K}
theorem vm_one (H : Hom p K φ) (hf : i_IsField p = true) : Vm p φ oneM 1 0 0 1 0 0 :=
  ⟨Vl.one H hf, Vl.zero H (i_IsField_ok hf), Vl.zero H (i_IsField_ok hf), Vl.one H hf, Vl.zero H (i_IsField_ok hf), Vl.zero H (i_IsField_ok hf)⟩
/-- Reflections: twice is a shift along the line. -/
theorem pow_ref (H : Hom p K φ) (hf : i_IsField p = true) {m : P6} {A B C D S T : K} (h : Vm p φ m A B C D S T) (hd : A * D - B * C = -1) (ht : A + D = 0) : ∀ n : Nat, Vm p φ (itM p m (2 * n + 1)) 1 0 0 1 (φ ((n : Int) + 1) * (A * S + B * T + S)) (φ ((n : Int) + 1) * (C * S + D * T + T))
  | 0 => by
    have h1 := vm_then H hf h h
    rw [show ((0 : Nat) : Int) + 1 = 1 from rfl, H.one]
    exact h1.conv (by grind) (by grind) (by grind) (by grind) (by grind) (by grind)
  | n + 1 => by
    have h1 := vm_then H hf (vm_then H hf (pow_ref H hf h hd ht n) h) h
    rw [show ((n + 1 : Nat) : Int) + 1 = ((n : Int) + 1) + 1 by omega, H.add, H.one]
    generalize φ ((n : Int) + 1) = x at *
    exact h1.conv (by grind) (by grind) (by grind) (by grind) (by grind) (by grind)
theorem order_ref2 (H : Hom p K φ) (hf : i_IsField p = true) {m : P6} {A B C D S T X Y : K} (h : Vm p φ m A B C D S T) (hd : A * D - B * C = -1) (ht : A + D = 0) (f1 : A * X + B * Y + S = X) (f2 : C * X + D * Y + T = Y) : itM p m 1 = oneM := by
  have h1 := pow_ref H hf h hd ht 0
  rw [show ((0 : Nat) : Int) + 1 = 1 from rfl, H.one] at h1
  exact Vm.inj H (h1.conv rfl rfl rfl rfl (by grind) (by grind)) (vm_one H hf)
theorem turn_fix {A B C D S T : K} (h : (A - 1) * (D - 1) - B * C ≠ 0) : ∃ X Y : K, A * X + B * Y + S = X ∧ C * X + D * Y + T = Y := by
  refine ⟨((A - 1) * (D - 1) - B * C)⁻¹ * (B * T - (D - 1) * S), ((A - 1) * (D - 1) - B * C)⁻¹ * (C * S - (A - 1) * T), ?_, ?_⟩
  · have := Lean.Grind.Field.mul_inv_cancel h
    generalize ((A - 1) * (D - 1) - B * C)⁻¹ = w at *
    grind
  · have := Lean.Grind.Field.mul_inv_cancel h
    generalize ((A - 1) * (D - 1) - B * C)⁻¹ = w at *
    grind
end
/-! Fixed points of moves, kinds, inverses, lines. -/
section
variable {p : Int} {K : Type} [Lean.Grind.Field K] {φ : Int → K}
theorem fix_sum (H : Hom p K φ) (hf : i_IsField p = true) {m : P6} {A B C D S T : K} (h : Vm p φ m A B C D S T) (Q : K → K → Bool) (hQ : ∀ X Y, Q X Y = true ↔ A * X + B * Y + S = X ∧ C * X + D * Y + T = Y) :
    (i_fixedPoints p m).1 = ((zz p φ).map fun x => (zz p φ).countP (Q x)).sum := by
  have h0 := (pr_nat (Pr_prB (i_IsField_ok hf))).2.2.1
  refine Eq.trans ?_ (pts_count (φ := φ) (by omega) (fun z => i_moved p m z == z) Q ?_)
  · rfl
  · intro x y hx hy
    obtain ⟨t1, t2⟩ := vl_moved H hf h (z := (x, y)) (Vl.of hx) (Vl.of hy)
    rw [Bool.eq_iff_iff, hQ, beq_iff_eq]
    constructor
    · intro e
      rw [e] at t1 t2
      exact ⟨t1.2.symm, t2.2.symm⟩
    · rintro ⟨e1, e2⟩
      rw [e1] at t1
      rw [e2] at t2
      exact Prod.ext (Vl.inj H t1 (Vl.of hx)) (Vl.inj H t2 (Vl.of hy))
theorem fix_unique (H : Hom p K φ) (hf : i_IsField p = true) {m : P6} {A B C D S T : K} (h : Vm p φ m A B C D S T) {X0 Y0 : K} (hu : ∀ X Y, (A * X + B * Y + S = X ∧ C * X + D * Y + T = Y) ↔ X = X0 ∧ Y = Y0) : (i_fixedPoints p m).1 = 1 := by
  obtain ⟨Q, hQ⟩ := boolOf fun X Y : K => A * X + B * Y + S = X ∧ C * X + D * Y + T = Y
  obtain ⟨R, hR⟩ := boolOf1 fun X : K => X = X0
  rw [fix_sum H hf h Q hQ, if_sum R _ 1, count_one H X0 hR]
  intro x
  by_cases e : x = X0
  · rw [if_pos ((hR x).2 e)]
    exact count_one H Y0 fun k => by rw [hQ, hu]; exact ⟨fun q => q.2, fun q => ⟨e, q⟩⟩
  · rw [if_neg (fun q => e ((hR x).1 q))]
    exact count_none fun k => by
      rw [Bool.eq_false_iff]
      intro q
      exact e ((hu x k).1 ((hQ x k).1 q)).1
theorem fix_line (H : Hom p K φ) (hf : i_IsField p = true) {m : P6} {A B C D S T X0 Y0 : K} (h : Vm p φ m A B C D S T) (hd : A * D - B * C = -1) (ht : A + D = 0) (f1 : A * X0 + B * Y0 + S = X0) (f2 : C * X0 + D * Y0 + T = Y0) : (i_fixedPoints p m).1 = p.toNat := by
  have n2 := H.two_ne hf
  obtain ⟨Q, hQ⟩ := boolOf fun X Y : K => A * X + B * Y + S = X ∧ C * X + D * Y + T = Y
  rw [fix_sum H hf h Q hQ]
  have hD : D = -A := by grind
  have hS : S = X0 - A * X0 - B * Y0 := by grind
  have hT : T = Y0 - C * X0 - D * Y0 := by grind
  by_cases hB : B = 0
  · by_cases hA : A = -1
    · obtain ⟨R, hR⟩ := boolOf1 fun X : K => X = X0
      rw [if_sum R _ p.toNat, count_one H X0 hR, Nat.mul_one]
      intro x
      by_cases e : x = X0
      · rw [if_pos ((hR x).2 e), count_eq (r := fun _ => true), List.countP_true, zz_len]
        intro k
        show Q x k = true
        rw [hQ]
        subst hB hA hD hS hT e
        exact ⟨by grind, by grind⟩
      · rw [if_neg (fun q => e ((hR x).1 q))]
        exact count_none fun k => by
          rw [Bool.eq_false_iff]
          intro q
          have q1 := ((hQ x k).1 q).1
          exact e (by grind)
    · have hA1 : A = 1 := by
        have e : (A - 1) * (A + 1) = 0 := by grind
        have e2 : A + 1 ≠ 0 := fun q => hA (by grind)
        grind
      rw [sum_eq2 (g := fun _ => 1), sum_const, Nat.mul_one]
      intro x
      refine count_one H (Y0 + (2 : K)⁻¹ * (C * (x - X0))) fun k => ?_
      have hi := Lean.Grind.Field.mul_inv_cancel n2
      rw [hQ]
      generalize (2 : K)⁻¹ = w at *
      constructor
      · rintro ⟨q1, q2⟩
        grind
      · intro q
        exact ⟨by grind, by grind⟩
  · rw [sum_eq2 (g := fun _ => 1), sum_const, Nat.mul_one]
    intro x
    refine count_one H (Y0 - B⁻¹ * ((A - 1) * (x - X0))) fun k => ?_
    have hi := Lean.Grind.Field.mul_inv_cancel hB
    rw [hQ]
    generalize B⁻¹ = w at *
    constructor
    · rintro ⟨q1, q2⟩
      grind
    · intro q
      exact ⟨by grind, by grind⟩
theorem turn_unique {A B C D S T X0 Y0 : K} (hn : (A - 1) * (D - 1) - B * C ≠ 0) (f1 : A * X0 + B * Y0 + S = X0) (f2 : C * X0 + D * Y0 + T = Y0) (X Y : K) : (A * X + B * Y + S = X ∧ C * X + D * Y + T = Y) ↔ X = X0 ∧ Y = Y0 := by
  constructor
  · rintro ⟨g1, g2⟩
    have e1 : ((A - 1) * (D - 1) - B * C) * (X - X0) = 0 := by grind
    have e2 : ((A - 1) * (D - 1) - B * C) * (Y - Y0) = 0 := by grind
    constructor
    · grind
    · grind
  · rintro ⟨rfl, rfl⟩
    exact ⟨f1, f2⟩
theorem mat_one (H : Hom p K φ) (hf : i_IsField p = true) {m : P6} {A B C D S T : K} (h : Vm p φ m A B C D S T) : (m.1, m.2.1, m.2.2.1, m.2.2.2.1) = (1, 0, 0, 1) ↔ A = 1 ∧ B = 0 ∧ C = 0 ∧ D = 1 := by
  have e1 := Vl.eq_iff H h.a (Vl.one H hf); have e2 := Vl.zero_iff H h.b; have e3 := Vl.zero_iff H h.c; have e4 := Vl.eq_iff H h.d (Vl.one H hf)
  simp only [Prod.mk.injEq, e1, e2, e3, e4]
theorem shift_zero (H : Hom p K φ) {m : P6} {A B C D S T : K} (h : Vm p φ m A B C D S T) : m.2.2.2.2 = (0, 0) ↔ S = 0 ∧ T = 0 := by
  have e1 := Vl.zero_iff H h.s; have e2 := Vl.zero_iff H h.t
  rw [← e1, ← e2]
  exact ⟨fun e => by rw [e]; exact ⟨rfl, rfl⟩, fun e => Prod.ext e.1 e.2⟩
theorem sign_one (H : Hom p K φ) (hf : i_IsField p = true) {m : P6} {A B C D S T : K} (h : Vm p φ m A B C D S T) : i_sign p (m.1, m.2.1, m.2.2.1, m.2.2.2.1) = 1 ↔ A * D - B * C = 1 := Vl.eq_iff H (vl_sign H hf h) (Vl.one H hf)
end
theorem six_eq (m : P6) : m = (1, 0, 0, 1, 0, 0) ↔ (m.1, m.2.1, m.2.2.1, m.2.2.2.1) = (1, 0, 0, 1) ∧ m.2.2.2.2 = (0, 0) := by
  obtain ⟨a, b, c, d, s, t⟩ := m
  simp only [Prod.mk.injEq]
  constructor <;> intro h <;> simp [h]
/-! Inverses, lines and quadrances of moves. -/
section
variable {p : Int} {K : Type} [Lean.Grind.Field K] {φ : Int → K}
end
theorem one_asked {p c : Int} (hf : i_IsField p = true) (hc : isC c) : i_moveAsked p c oneM true i_always = 0 := by
  obtain ⟨K, _, φ, H⟩ := hom_of hf
  have h := vm_one H hf
  refine move_zero hf ?_ h.isMap ((keeps_iff H hf hc h).2 ⟨rfl, rfl, rfl⟩)
  rcases hc with rfl | rfl | rfl <;> rfl
theorem one_kind {p c : Int} (hf : i_IsField p = true) (hc : isC c) : i_KindOfMove p c oneM = (0, 0) := by
  unfold i_KindOfMove
  rw [one_asked hf hc]
  rfl
section
variable {p : Int} {K : Type} [Lean.Grind.Field K] {φ : Int → K}
end
/-! Lines of Euler, centroids, points on lines. -/
theorem tmod_iff {x p : Int} : x.tmod p = 0 ↔ x % p = 0 := by
  constructor
  · intro h
    exact Int.emod_eq_zero_of_dvd (Int.dvd_of_tmod_eq_zero h)
  · intro h
    obtain ⟨k, rfl⟩ := Int.dvd_of_emod_eq_zero h
    exact Int.mul_tmod_right p k
section
variable {p : Int} {K : Type} [Lean.Grind.Field K] {φ : Int → K}
theorem tmod_zero (H : Hom p K φ) {x : Int} : x.tmod p = 0 ↔ φ x = 0 := by
  rw [tmod_iff, ← H.zero, H.iff]
  simp
theorem on_iff (H : Hom p K φ) (hf : i_IsField p = true) {a : P2} {l : P3} {x y u v w : K} (h1 : Vl p φ a.1 x) (h2 : Vl p φ a.2 y) (h3 : Vl p φ l.1 u) (h4 : Vl p φ l.2.1 v) (h5 : Vl p φ l.2.2 w) : i_isOn p a l = true ↔ u * x + v * y + w = 0 := by
  have hp := i_IsField_ok hf
  unfold i_isOn
  rw [beq_iff_eq, tmod_zero H]
  have r := Rw.add H (Rw.add H (Rw.mul H (Vl.rw hp h3) (Vl.rw hp h1) (by decide)) (Rw.mul H (Vl.rw hp h4) (Vl.rw hp h2) (by decide)) (by decide)) (Vl.rw hp h5) (by decide)
  rw [r.2]
theorem Ln.line (hf : i_IsField p = true) {l : P3} {a b c : K} (h : Ln p φ l a b c) : i_isLine p l = true := by
  obtain ⟨t, _, h0, h1, h2, h3⟩ := h
  unfold i_isLine i_areNumbers
  simp [isNumber_iff.2 h0.1, isNumber_iff.2 h1.1, isNumber_iff.2 h2.1]
  omega
end
/-! Reflections in lines. -/
section
variable {p : Int} {K : Type} [Lean.Grind.Field K] {φ : Int → K}
theorem refl_Q {c : Int} (hc : isC c) (l0 l1 : K) : prodK c (-l1) l0 (-l1) l0 = l0 * frV c (-l1) l0 - l1 * frU c (-l1) l0 := by rw [prodK_fr hc]; grind
theorem vl_foot (H : Hom p K φ) (hf : i_IsField p = true) {c : Int} (hc : isC c) {l : P3} {a : P2} {l0 l1 l2 x y : K} (h0 : Vl p φ l.1 l0) (h1 : Vl p φ l.2.1 l1) (h2 : Vl p φ l.2.2 l2) (hn : l0 ≠ 0 ∨ l1 ≠ 0) (hQ : prodK c (-l1) l0 (-l1) l0 ≠ 0) (ha : Vl p φ a.1 x) (hb : Vl p φ a.2 y) :
    Vl p φ (i_foot p c a l).1 (x - frV c (-l1) l0 * (l0 * x + l1 * y + l2) * (prodK c (-l1) l0 (-l1) l0)⁻¹) ∧ Vl p φ (i_foot p c a l).2 (y + frU c (-l1) l0 * (l0 * x + l1 * y + l2) * (prodK c (-l1) l0 (-l1) l0)⁻¹) := by
  obtain ⟨t, ht, g0, g1, g2, _⟩ := ln_perpendicular H hf hc h0 h1 ha hb hn
  obtain ⟨m1, m2⟩ := vl_meet H hf h0 h1 h2 g0 g1 g2
  have eQ := refl_Q hc l0 l1
  have hi := Lean.Grind.Field.mul_inv_cancel hQ
  unfold i_foot
  generalize prodK c (-l1) l0 (-l1) l0 = Q at *
  generalize frU c (-l1) l0 = u at *
  generalize frV c (-l1) l0 = v at *
  have ed : l0 * (v * t) - l1 * (u * t) = Q * t := by rw [eQ]; grind
  have hQt : Q * t ≠ 0 := fun e => by
    have : Q = 0 ∨ t = 0 := by grind
    rcases this with e | e
    · exact hQ e
    · exact ht e
  have hj := Lean.Grind.Field.mul_inv_cancel hQt
  rw [ed] at m1 m2
  generalize (Q * t)⁻¹ = j at *
  generalize Q⁻¹ = i at *
  have ej : j * t = i := by
    clear m1 m2 g0 g1 g2 h0 h1 h2 ha hb ed
    grind
  constructor
  · refine m1.conv ?_
    clear m1 m2 g0 g1 g2 h0 h1 h2 ha hb hQt hj hn ht
    have : (l1 * (-(u * x + v * y) * t) - l2 * (v * t)) * j = (-(l1 * (u * x + v * y)) - l2 * v) * (j * t) := by grind
    rw [this, ej]
    clear this ej ed
    grind
  · refine m2.conv ?_
    clear m1 m2 g0 g1 g2 h0 h1 h2 ha hb hQt hj hn ht
    have : (l2 * (u * t) - l0 * (-(u * x + v * y) * t)) * j = (l2 * u + l0 * (u * x + v * y)) * (j * t) := by grind
    rw [this, ej]
    clear this ej ed
    grind
theorem vl_comb2 (H : Hom p K φ) (hf : i_IsField p = true) {a b : P2} {x y X Y : K} (h1 : Vl p φ a.1 x) (h2 : Vl p φ a.2 y) (h3 : Vl p φ b.1 X) (h4 : Vl p φ b.2 Y) : Vl p φ (i_combination p a b 2).1 (x + 2 * (X - x)) ∧ Vl p φ (i_combination p a b 2).2 (y + 2 * (Y - y)) := by
  have hp := i_IsField_ok hf
  have r2 : Rw φ 2 (2 : K) 2 := (Rw.lit 2 (by decide)).conv H.two
  exact ⟨Vl.rest H hp (Rw.add H (Vl.rw hp h1) (Rw.mul H r2 (Rw.sub H (Vl.rw hp h3) (Vl.rw hp h1) (by decide)) (by decide)) (by decide)), Vl.rest H hp (Rw.add H (Vl.rw hp h2) (Rw.mul H r2 (Rw.sub H (Vl.rw hp h4) (Vl.rw hp h2) (by decide)) (by decide)) (by decide))⟩
/-- The values of a reflection. -/
def VR (p : Int) (φ : Int → K) (m : P6) (u v l0 l1 l2 i : K) : Prop := Vm p φ m (1 - 2 * v * l0 * i) (-(2 * v * l1 * i)) (2 * u * l0 * i) (1 + 2 * u * l1 * i) (-(2 * v * l2 * i)) (2 * u * l2 * i)
theorem vm_irefl (H : Hom p K φ) (hf : i_IsField p = true) {c : Int} (hc : isC c) {l : P3} {l0 l1 l2 : K} (h0 : Vl p φ l.1 l0) (h1 : Vl p φ l.2.1 l1) (h2 : Vl p φ l.2.2 l2) (hn : l0 ≠ 0 ∨ l1 ≠ 0) (hQ : prodK c (-l1) l0 (-l1) l0 ≠ 0) (q : P2 → Bool) :
    VR p φ (i_mapOf p q (fun a0 => i_ReflectionIn_c2 a0 p c l)) (frU c (-l1) l0) (frV c (-l1) l0) l0 l1 l2 (prodK c (-l1) l0 (-l1) l0)⁻¹ := by
  have hp := i_IsField_ok hf
  have z0 : Vl p φ 0 (0 : K) := Vl.zero H hp
  have z1 : Vl p φ 1 (1 : K) := Vl.one H hf
  have key : ∀ (a : P2) (x y : K), Vl p φ a.1 x → Vl p φ a.2 y → Vl p φ (i_ReflectionIn_c2 a p c l).1 (x - 2 * frV c (-l1) l0 * (l0 * x + l1 * y + l2) * (prodK c (-l1) l0 (-l1) l0)⁻¹) ∧ Vl p φ (i_ReflectionIn_c2 a p c l).2 (y + 2 * frU c (-l1) l0 * (l0 * x + l1 * y + l2) * (prodK c (-l1) l0 (-l1) l0)⁻¹) := by
    intro a x y ha hb
    obtain ⟨f1, f2⟩ := vl_foot H hf hc h0 h1 h2 hn hQ ha hb
    obtain ⟨k1, k2⟩ := vl_comb2 H hf ha hb f1 f2
    exact ⟨k1.conv (by grind), k2.conv (by grind)⟩
  obtain ⟨o1, o2⟩ := key (0, 0) 0 0 z0 z0
  obtain ⟨x1, x2⟩ := key (1, 0) 1 0 z1 z0
  obtain ⟨y1, y2⟩ := key (0, 1) 0 1 z0 z1
  unfold VR i_mapOf
  exact ⟨(vl_less1 H hf x1 o1).conv (by grind), (vl_less1 H hf y1 o1).conv (by grind), (vl_less2 H hf x2 o2).conv (by grind), (vl_less2 H hf y2 o2).conv (by grind), o1.conv (by grind), o2.conv (by grind)⟩
theorem vl_along (H : Hom p K φ) (hf : i_IsField p = true) {c : Int} (hc : isC c) {d a : P2} {by_ : Int} {d1 d2 x y b : K} (h1 : Vl p φ d.1 d1) (h2 : Vl p φ d.2 d2) (ha : Vl p φ a.1 x) (hb : Vl p φ a.2 y) (hy : Rw φ by_ b 60) :
    Vl p φ (s_l07Along p c d by_ a).1 (b * prodK c x y d1 d2 * d1 - x) ∧ Vl p φ (s_l07Along p c d by_ a).2 (b * prodK c x y d1 d2 * d2 - y) := by
  have hp := i_IsField_ok hf
  have e : ∀ a b : P2, s_l01Minus p a b = i_less p a b := fun a b => rfl
  have ep : ∀ a b : P2, s_l02Product p c a b = i_product p c a b := fun a b => by
    unfold s_l02Product i_product
    rcases hc with rfl | rfl | rfl <;> rfl
  have g := vl_product H hf hc ha hb h1 h2
  rw [← ep] at g
  have t := Rw.tmod H hp (Rw.mul H hy (Vl.rw hp g) (by decide))
  unfold s_l07Along
  rw [e]
  exact ⟨vl_less1 H hf (Vl.smod H hp (Rw.mul H t (Vl.rw hp h1) (by decide))) ha, vl_less2 H hf (Vl.smod H hp (Rw.mul H t (Vl.rw hp h2) (by decide))) hb⟩
theorem vm_srefl (H : Hom p K φ) (hf : i_IsField p = true) {c : Int} (hc : isC c) {l : P3} {l0 l1 l2 : K} (h0 : Vl p φ l.1 l0) (h1 : Vl p φ l.2.1 l1) (h2 : Vl p φ l.2.2 l2) (hl : i_isLine p l = true) (hQ : prodK c (-l1) l0 (-l1) l0 ≠ 0) :
    VR p φ (s_l07Reflection p c l) (frU c (-l1) l0) (frV c (-l1) l0) l0 l1 l2 (prodK c (-l1) l0 (-l1) l0)⁻¹ := by
  have hp := i_IsField_ok hf
  have z0 : Vl p φ 0 (0 : K) := Vl.zero H hp
  have z1 : Vl p φ 1 (1 : K) := Vl.one H hf
  have w1 := vl_way1 H hf h1
  have w2 : Vl p φ (i_way p l).2 l0 := h0
  have hd : s_l02Direction p l = i_way p l := rfl
  have ep : ∀ a b : P2, s_l02Product p c a b = i_product p c a b := fun a b => by
    unfold s_l02Product i_product
    rcases hc with rfl | rfl | rfl <;> rfl
  have r2 : Rw φ 2 (2 : K) 2 := (Rw.lit 2 (by decide)).conv H.two
  have g := vl_product H hf hc w1 w2 w1 w2
  have gi := Vl.sinv H hf g.2
  have hy : Rw φ (wrap64 (2 * (s_l01Inverse (s_l02Product p c (s_l02Direction p l) (s_l02Direction p l)) p))) (2 * (prodK c (-l1) l0 (-l1) l0)⁻¹) 60 := by
    rw [ep, hd]
    exact Rw.mul H r2 (Vl.rw hp gi) (by decide)
  obtain ⟨x1, x2⟩ := vl_along H hf hc (d := s_l02Direction p l) w1 w2 (a := (1, 0)) z1 z0 hy
  obtain ⟨y1, y2⟩ := vl_along H hf hc (d := s_l02Direction p l) w1 w2 (a := (0, 1)) z0 z1 hy
  have r : Vl p φ (s_l01Mod (wrap64 (0 - l.2.2)) p) (-l2) := Vl.smod H hp (Rw.neg0 H (Vl.rw hp h2) (by decide))
  have hA : ∃ X Y : K, Vl p φ (s_l07Two p l).1.1 X ∧ Vl p φ (s_l07Two p l).1.2 Y ∧ l0 * X + l1 * Y + l2 = 0 := by
    unfold s_l07Two
    obtain ⟨_, n3⟩ := isLine_num hl
    split
    · rename_i e
      have e : l.1 = 1 := by simpa using e
      rw [e] at h0
      have e0 := h0.same z1
      exact ⟨_, _, r, z0, by rw [e0]; grind⟩
    · rename_i e
      have e : ¬ l.1 = 1 := by simpa using e
      rcases n3 with e' | ⟨_, e'⟩
      · exact absurd e' e
      · rw [e'] at h1
        have e1 := h1.same z1
        exact ⟨_, _, z0, r, by rw [e1]; grind⟩
  obtain ⟨X, Y, a1, a2, ea⟩ := hA
  have eQ := refl_Q hc l0 l1
  have hi := Lean.Grind.Field.mul_inv_cancel hQ
  have f1 := prodK_fr hc (-l1) l0 (1 : K) 0
  have f2 := prodK_fr hc (-l1) l0 (0 : K) 1
  have s1 : prodK c (1 : K) 0 (-l1) l0 = prodK c (-l1) l0 (1 : K) 0 := by rcases hc with rfl | rfl | rfl <;> simp only [prodK] <;> grind
  have s2 : prodK c (0 : K) 1 (-l1) l0 = prodK c (-l1) l0 (0 : K) 1 := by rcases hc with rfl | rfl | rfl <;> simp only [prodK] <;> grind
  rw [s1, f1] at x1 x2
  rw [s2, f2] at y1 y2
  have em : ∀ a b : P2, s_l01Minus p a b = i_less p a b := fun a b => rfl
  generalize prodK c (-l1) l0 (-l1) l0 = Q at *
  generalize frU c (-l1) l0 = u at *
  generalize frV c (-l1) l0 = v at *
  generalize Q⁻¹ = i at *
  clear f1 f2 s1 s2 gi g
  have c1 := x1.conv (show _ = 1 - 2 * v * l0 * i by clear x1 x2 y1 y2 a1 a2 r; grind)
  have c2 := y1.conv (show _ = -(2 * v * l1 * i) by clear x1 x2 y1 y2 a1 a2 r c1; grind)
  have c3 := x2.conv (show _ = 2 * u * l0 * i by clear x1 x2 y1 y2 a1 a2 r c1 c2; grind)
  have c4 := y2.conv (show _ = 1 + 2 * u * l1 * i by clear x1 x2 y1 y2 a1 a2 r c1 c2 c3; grind)
  obtain ⟨t1, t2⟩ := vl_turned H hf c1 c2 c3 c4 a1 a2
  refine ⟨c1, c2, c3, c4, (vl_less1 H hf a1 t1).conv ?_, (vl_less2 H hf a2 t2).conv ?_⟩
  · clear x1 x2 y1 y2 a1 a2 r c1 c2 c3 c4 t1 t2; grind
  · clear x1 x2 y1 y2 a1 a2 r c1 c2 c3 c4 t1 t2; grind
theorem refl_alg {c : Int} (hc : isC c) {l0 l1 : K} (hQ : prodK c (-l1) l0 (-l1) l0 ≠ 0) : Kp c (1 - 2 * frV c (-l1) l0 * l0 * (prodK c (-l1) l0 (-l1) l0)⁻¹) (-(2 * frV c (-l1) l0 * l1 * (prodK c (-l1) l0 (-l1) l0)⁻¹)) (2 * frU c (-l1) l0 * l0 * (prodK c (-l1) l0 (-l1) l0)⁻¹) (1 + 2 * frU c (-l1) l0 * l1 * (prodK c (-l1) l0 (-l1) l0)⁻¹) := by
  have eQ := refl_Q hc l0 l1
  have hi := Lean.Grind.Field.mul_inv_cancel hQ
  generalize (prodK c (-l1) l0 (-l1) l0)⁻¹ = i at *
  unfold Kp
  rcases hc with rfl | rfl | rfl <;> simp [prodK, frU, frV] at hi ⊢ <;> refine ⟨?_, ?_, ?_⟩ <;> grind
end

/-! Reflections as moves. -/
theorem isPoint_memR {p : Int} {a : P2} (ha : a ∈ pts p) : i_isPoint p a = true := by
  obtain ⟨h1, h2⟩ := mem_pts.1 (show (a.1, a.2) ∈ pts p from ha)
  unfold i_isPoint
  simp [i_areNumbers, isNumber_iff.2 h1, isNumber_iff.2 h2]
theorem fixed_okR {p c : Int} {m : P6} (hz : i_moveAsked p c m true i_always = 0) : i_FixedPoints p m = (((i_fixedPoints p m).1, (i_fixedPoints p m).2), 0) := by
  obtain ⟨hf, hc, hm, hk, _⟩ := move_ok hz
  unfold i_FixedPoints i_FixedPoints_c1
  simp [hm, i_asked, hf]
theorem reflcode (p c : Int) (l : P3) : s_l03Colour p c 1 [l.1, l.2.1, l.2.2] = i_asked p true (i_ReflectionIn_c1 c p l) := by
  have e : rows3 1 [l.1, l.2.1, l.2.2] = [l] := rfl
  unfold s_l03Colour i_ReflectionIn_c1
  rw [e, linecode p true, in_colour]
  cases hf : i_IsField p
  · simp [i_asked, hf]
  · cases hc : i_isColour c <;> cases hl : i_isLine p l <;> simp [i_asked, hf]
theorem reflnull (p c : Int) (l : P3) : s_l03Null p c l = i_isNull p c l := rfl
theorem refl_zero {p c : Int} {l : P3} (h : i_asked p true (i_ReflectionIn_c1 c p l) = 0) : i_IsField p = true ∧ isC c ∧ i_isLine p l = true := by
  obtain ⟨hf, hb⟩ := asked_zero h
  unfold i_ReflectionIn_c1 at hb
  cases hc : i_isColour c
  · rw [hc] at hb; cases hb
  · rw [hc, if_pos rfl] at hb
    exact ⟨hf, isC_of hc, hb⟩
theorem line_ne {p : Int} {K : Type} [Lean.Grind.Field K] {φ : Int → K} (H : Hom p K φ) {l : P3} (hl : i_isLine p l = true) : φ l.1 ≠ 0 ∨ φ l.2.1 ≠ 0 := by
  rcases (isLine_num hl).2 with e | ⟨_, e⟩
  · exact Or.inl (by rw [e, H.one]; exact H.one_ne)
  · exact Or.inr (by rw [e, H.one]; exact H.one_ne)
theorem refl_all {p c : Int} {l : P3} (hf : i_IsField p = true) (hc : isC c) (hl : i_isLine p l = true) (hn : i_isNull p c l = false) {K : Type} [Lean.Grind.Field K] {φ : Int → K} (H : Hom p K φ) (q : P2 → Bool) :
    prodK c (-φ l.2.1) (φ l.1) (-φ l.2.1) (φ l.1) ≠ 0 ∧
    VR p φ (i_mapOf p q (fun a0 => i_ReflectionIn_c2 a0 p c l)) (frU c (-φ l.2.1) (φ l.1)) (frV c (-φ l.2.1) (φ l.1)) (φ l.1) (φ l.2.1) (φ l.2.2) (prodK c (-φ l.2.1) (φ l.1) (-φ l.2.1) (φ l.1))⁻¹ ∧
    VR p φ (s_l07Reflection p c l) (frU c (-φ l.2.1) (φ l.1)) (frV c (-φ l.2.1) (φ l.1)) (φ l.1) (φ l.2.1) (φ l.2.2) (prodK c (-φ l.2.1) (φ l.1) (-φ l.2.1) (φ l.1))⁻¹ := by
  obtain ⟨⟨n0, n1, n2⟩, n3⟩ := isLine_num hl
  have hQ : prodK c (-φ l.2.1) (φ l.1) (-φ l.2.1) (φ l.1) ≠ 0 := fun e => by
    have := (perp_iff H hf hc (Vl.of n0) (Vl.of n1) (Vl.of n0) (Vl.of n1)).2 e
    unfold i_isNull at hn
    rw [this] at hn
    cases hn
  exact ⟨hQ, vm_irefl H hf hc (Vl.of n0) (Vl.of n1) (Vl.of n2) (line_ne H hl) hQ q, vm_srefl H hf hc (Vl.of n0) (Vl.of n1) (Vl.of n2) hl hQ⟩
theorem ReflectionIn_same (p c : Int) (l : P3) : i_ReflectionIn p c l = s_ReflectionIn p c l := by
  unfold i_ReflectionIn s_ReflectionIn
  rw [reflcode, reflnull]
  by_cases hz : i_asked p true (i_ReflectionIn_c1 c p l) = 0
  · obtain ⟨hf, hc, hl⟩ := refl_zero hz
    rw [hz]
    cases hn : i_isNull p c l
    · obtain ⟨K, _, φ, H⟩ := hom_of hf
      obtain ⟨_, h1, h2⟩ := refl_all hf hc hl hn H (fun _ => prB p)
      rw [Vm.inj H h1 h2]
      rfl
    · rfl
  · simp [hz]
theorem refl_law {p c : Int} {l : P3} (h : (i_ReflectionIn p c l).2 = 0) : i_moveAsked p c (i_ReflectionIn p c l).1 true i_always = 0 ∧ i_KindOfMove p c (i_ReflectionIn p c l).1 = (3, 0) ∧
    i_ProductOfMoves p (i_ReflectionIn p c l).1 (i_ReflectionIn p c l).1 = (oneM, 0) ∧ i_KindOfMove p c oneM = (0, 0) ∧ (i_FixedPoints p (i_ReflectionIn p c l).1).2 = 0 ∧ (i_PointsOn p l).2 = 0 ∧ (i_FixedPoints p (i_ReflectionIn p c l).1).1 = (i_PointsOn p l).1 := by
  by_cases hz : i_asked p true (i_ReflectionIn_c1 c p l) = 0
  · obtain ⟨hf, hc, hl⟩ := refl_zero hz
    cases hn : i_isNull p c l
    · have e : i_ReflectionIn p c l = (i_mapOf p (fun _ => prB p) (fun a0 => i_ReflectionIn_c2 a0 p c l), 0) := by
        unfold i_ReflectionIn
        rw [hz, hn]
        rfl
      rw [e]
      obtain ⟨K, _, φ, H⟩ := hom_of hf
      have n2 := H.two_ne hf
      obtain ⟨hQ, h1, _⟩ := refl_all hf hc hl hn H (fun _ => prB p)
      obtain ⟨⟨m0, m1, m2⟩, m3⟩ := isLine_num hl
      have kp := refl_alg hc hQ
      have eQ := refl_Q hc (φ l.1) (φ l.2.1)
      have hi := Lean.Grind.Field.mul_inv_cancel hQ
      dsimp only
      generalize i_mapOf p (fun _ => prB p) (fun a0 => i_ReflectionIn_c2 a0 p c l) = m at *
      have hon : ∀ x y, (0 ≤ x ∧ x < p) → (0 ≤ y ∧ y < p) → (i_moved p m (x, y) == (x, y)) = i_isOn p (x, y) l := by
        intro x y hx hy
        obtain ⟨t1, t2⟩ := vl_moved H hf h1 (z := (x, y)) (Vl.of hx) (Vl.of hy)
        have o := on_iff H hf (a := (x, y)) (l := l) (Vl.of hx) (Vl.of hy) (Vl.of m0) (Vl.of m1) (Vl.of m2)
        rw [Bool.eq_iff_iff, beq_iff_eq, o]
        have q1 := Vl.eq_iff H t1 (Vl.of (φ := φ) hx)
        have q2 := Vl.eq_iff H t2 (Vl.of (φ := φ) hy)
        have q : i_moved p m (x, y) = (x, y) ↔ (i_moved p m (x, y)).1 = x ∧ (i_moved p m (x, y)).2 = y := ⟨fun e => by rw [e]; exact ⟨rfl, rfl⟩, fun e => Prod.ext e.1 e.2⟩
        rw [q, q1, q2]
        clear q q1 q2 o t1 t2 kp h1
        generalize prodK c (-φ l.2.1) (φ l.1) (-φ l.2.1) (φ l.1) = Q at *
        generalize Q⁻¹ = i at *
        generalize frU c (-φ l.2.1) (φ l.1) = u at *
        generalize frV c (-φ l.2.1) (φ l.1) = v at *
        constructor
        · rintro ⟨g1, g2⟩
          have r1 : 2 * (v * (φ l.1 * φ x + φ l.2.1 * φ y + φ l.2.2) * i) = 0 := by grind
          have r2 : 2 * (u * (φ l.1 * φ x + φ l.2.1 * φ y + φ l.2.2) * i) = 0 := by grind
          have s1 : v * (φ l.1 * φ x + φ l.2.1 * φ y + φ l.2.2) * i = 0 := by grind
          have s2 : u * (φ l.1 * φ x + φ l.2.1 * φ y + φ l.2.2) * i = 0 := by grind
          have : (φ l.1 * φ x + φ l.2.1 * φ y + φ l.2.2) * (Q * i) = 0 := by
            rw [eQ]
            clear r1 r2 g1 g2 hi eQ hQ
            grind
          rw [hi] at this
          grind
        · intro g
          exact ⟨by grind, by grind⟩
      have hd : (1 - 2 * frV c (-φ l.2.1) (φ l.1) * φ l.1 * (prodK c (-φ l.2.1) (φ l.1) (-φ l.2.1) (φ l.1))⁻¹) * (1 + 2 * frU c (-φ l.2.1) (φ l.1) * φ l.2.1 * (prodK c (-φ l.2.1) (φ l.1) (-φ l.2.1) (φ l.1))⁻¹) - (-(2 * frV c (-φ l.2.1) (φ l.1) * φ l.2.1 * (prodK c (-φ l.2.1) (φ l.1) (-φ l.2.1) (φ l.1))⁻¹)) * (2 * frU c (-φ l.2.1) (φ l.1) * φ l.1 * (prodK c (-φ l.2.1) (φ l.1) (-φ l.2.1) (φ l.1))⁻¹) = -1 := by
        clear kp h1 hon
        generalize prodK c (-φ l.2.1) (φ l.1) (-φ l.2.1) (φ l.1) = Q at *
        generalize Q⁻¹ = i at *
        generalize frU c (-φ l.2.1) (φ l.1) = u at *
        generalize frV c (-φ l.2.1) (φ l.1) = v at *
        grind
      have hm := Vm.isMap h1
      have hz2 : i_moveAsked p c m true i_always = 0 := move_zero hf (by rcases hc with rfl | rfl | rfl <;> rfl) hm ((keeps_iff H hf hc h1).2 kp)
      have ht := kp_ref hc n2 kp hd
      -- a point of the line
      have hA : ∃ X Y : K, φ l.1 * X + φ l.2.1 * Y + φ l.2.2 = 0 := by
        rcases m3 with e | ⟨_, e⟩
        · exact ⟨-φ l.2.2, 0, by rw [e, H.one]; grind⟩
        · exact ⟨0, -φ l.2.2, by rw [e, H.one]; grind⟩
      obtain ⟨X, Y, eA⟩ := hA
      have hfix := fix_line H hf h1 hd ht (X0 := X) (Y0 := Y) (by clear kp h1 hon hd ht hi eQ; grind) (by clear kp h1 hon hd ht hi eQ; grind)
      have hord := order_ref2 H hf h1 hd ht (X := X) (Y := Y) (by clear kp h1 hon hd ht hi eQ; grind) (by clear kp h1 hon hd ht hi eQ; grind)
      have hpn := pr_nat (Pr_prB (i_IsField_ok hf))
      have hp3 : 3 ≤ p.toNat := by have := field_mem hf; simp at this; omega
      have hkind : i_KindOfMove p c m = (3, 0) := by
        have e1 := mat_one H hf h1
        have e3 := sign_one H hf h1
        have c3 : ¬ i_sign p (m.1, m.2.1, m.2.2.1, m.2.2.2.1) = 1 := fun e => n2 (by have q := (e3.1 e).symm.trans hd; clear e1 e3 hd ht hord hfix kp h1 hon hi eQ eA; grind)
        have c1 : ¬ (m.1, m.2.1, m.2.2.1, m.2.2.2.1) = (1, 0, 0, 1) := fun e => by
          obtain ⟨q1, q2, q3, q4⟩ := e1.1 e
          refine c3 (e3.2 ?_)
          rw [q1, q2, q3, q4]
          grind
        have c6 : ¬ m = (1, 0, 0, 1, 0, 0) := fun e => c1 ((six_eq m).1 e).1
        unfold i_KindOfMove
        rw [hz2, if_neg (by simp), if_neg (by simpa using c6), if_neg (by simpa using c1), if_neg (by simpa using c3), if_pos (by simpa using c3), hfix, if_pos (decide_eq_true (by omega))]
      have hprod : i_ProductOfMoves p m m = (oneM, 0) := by
        unfold i_ProductOfMoves i_ProductOfMoves_c1
        have : i_then p m m = oneM := hord
        rw [hm, this]
        simp [i_asked, hf]
      refine ⟨hz2, hkind, hprod, one_kind hf hc, ?_, ?_, ?_⟩
      · rw [fixed_okR hz2]
      · unfold i_PointsOn i_PointsOn_c1
        simp [hl, i_asked, hf]
      · rw [fixed_okR hz2]
        have ep : i_PointsOn p l = (((i_pointsWith p (fun a0 => prB p) (fun a0 => i_PointsOn_c2 a0 p l)).1, (i_pointsWith p (fun a0 => prB p) (fun a0 => i_PointsOn_c2 a0 p l)).2), 0) := by
          unfold i_PointsOn i_PointsOn_c1
          rw [if_neg (by simp [hl, i_asked, hf])]
        rw [ep]
        have ef : (pts p).filter (fun zz => i_moved p m zz == zz) = (pts p).filter (fun zz => i_isOn p zz l) := List.filter_congr fun z hz => hon z.1 z.2 (isPoint_num (isPoint_memR hz)).1 (isPoint_num (isPoint_memR hz)).2
        show (((pts p).filter fun zz => (i_moved p m zz == zz)).length, flat2 ((pts p).filter fun zz => (i_moved p m zz == zz))) = (((pts p).filter fun zz => i_isOn p zz l).length, flat2 ((pts p).filter fun zz => i_isOn p zz l))
        rw [ef]
    · unfold i_ReflectionIn at h
      rw [hz, hn] at h
      cases h
  · unfold i_ReflectionIn at h
    rw [if_pos (bne_iff_ne.2 hz)] at h
    exact absurd h hz

end Go.Proofs.YtoblkbpejfojjaaGreatDoor
