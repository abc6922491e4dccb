import Derived.Test.YtoblkbpejfojjaaGreatDoorQq
set_option linter.unusedSimpArgs false
set_option linter.unusedVariables false
namespace Go.Proofs.YtoblkbpejfojjaaGreatDoor
open Go.RowKit
/-! Inverses, lines and quadrances of moves. -/
section
variable {p : Int} {K : Type} [Lean.Grind.Field K] {φ : Int → K}
theorem ln_thr (H : Hom p K φ) (hf : i_IsField p = true) {a w : P2} {x y v1 v2 : K} (h1 : Vl p φ a.1 x) (h2 : Vl p φ a.2 y) (h3 : Vl p φ w.1 v1) (h4 : Vl p φ w.2 v2) (hn : v1 ≠ 0 ∨ v2 ≠ 0) : Ln p φ (i_through p a w) v2 (-v1) (v1 * y - v2 * x) := by
  have hp := i_IsField_ok hf
  unfold i_through
  have w1 : Rw φ (wrap64 (0 - w.1)) (-v1) 30 := Rw.neg0 H (Vl.rw hp h3) (by decide)
  have w2 : Rw φ (wrap64 (0 - wrap64 (wrap64 (w.2 * a.1) + wrap64 (wrap64 (0 - w.1) * a.2)))) (-(v2 * x + -v1 * y)) (30 * 30 + 30 * 30) := Rw.neg0 H (Rw.add H (Rw.mul H (Vl.rw hp h4) (Vl.rw hp h1) (by decide)) (Rw.mul H w1 (Vl.rw hp h2) (by decide)) (by decide)) (by decide)
  refine Ln.scale 1 H.one_ne (by grind) (by grind) (by grind) (ln_make H hf (Vl.rw hp h4) w1 w2 ?_)
  grind
theorem Ln.isLine {l : P3} {a b c : K} (h : Ln p φ l a b c) : i_isLine p l = true := by
  obtain ⟨t, ht, h0, h1, h2, h3⟩ := h
  have n0 := isNumber_iff.2 h0.1; have n1 := isNumber_iff.2 h1.1; have n2 := isNumber_iff.2 h2.1
  unfold i_isLine
  rcases h3 with e | ⟨e, e'⟩
  · simp [i_areNumbers, n0, n1, n2, e]
    try (rw [e] at n0; simp [n0])
  · simp [i_areNumbers, n0, n1, n2, e, e']
    try (rw [e] at n0; rw [e'] at n1; simp [n0, n1])
theorem vm_inverse (H : Hom p K φ) (hf : i_IsField p = true) {m : P6} {A B C D S T : K} (h : Vm p φ m A B C D S T) (hs : (A * D - B * C) * (A * D - B * C) = 1) : ∃ U V : K, Vm p φ (s_l07Inverse p m) ((A * D - B * C) * D) (-(A * D - B * C) * B) (-(A * D - B * C) * C) ((A * D - B * C) * A) U V ∧
    A * U + B * V + S = 0 ∧ C * U + D * V + T = 0 := by
  have hp := i_IsField_ok hf
  have hg := vl_sign H hf h
  have z0 : Vl p φ 0 (0 : K) := Vl.zero H hp
  have q1 := h.a; have q2 := h.b; have q3 := h.c; have q4 := h.d
  have w0 := Vl.rw hp hg
  have wn : Rw φ (wrap64 (0 - i_sign p (m.1, m.2.1, m.2.2.1, m.2.2.2.1))) (-(A * D - B * C)) 30 := Rw.neg0 H w0 (by decide)
  have r1 := Vl.smod H hp (Rw.mul H w0 (Vl.rw hp q4) (by decide))
  have r2 := Vl.smod H hp (Rw.mul H wn (Vl.rw hp q2) (by decide))
  have r3 := Vl.smod H hp (Rw.mul H wn (Vl.rw hp q3) (by decide))
  have r4 := Vl.smod H hp (Rw.mul H w0 (Vl.rw hp q1) (by decide))
  obtain ⟨t1, t2⟩ := vl_turned H hf r1 r2 r3 r4 (z := m.2.2.2.2) h.s h.t
  have e : ∀ a b : P2, s_l01Minus p a b = i_less p a b := fun a b => rfl
  have u1 := vl_less1 H hf (a := (0, 0)) z0 t1
  have u2 := vl_less2 H hf (a := (0, 0)) z0 t2
  refine ⟨_, _, ⟨r1, r2, r3, r4, u1, u2⟩, ?_, ?_⟩
  · clear u1 u2 t1 t2 r1 r2 r3 r4 wn w0 q1 q2 q3 q4 hg h z0 e
    grind
  · clear u1 u2 t1 t2 r1 r2 r3 r4 wn w0 q1 q2 q3 q4 hg h z0 e
    grind
theorem vm_iinverse (H : Hom p K φ) (hf : i_IsField p = true) {c : Int} {m : P6} {A B C D S T : K} (h : Vm p φ m A B C D S T) (hz : i_moveAsked p c m true i_always = 0) (hs : (A * D - B * C) * (A * D - B * C) = 1) : (i_InverseMove p c m).1 = s_l07Inverse p m := by
  have hp := i_IsField_ok hf
  have hg := vl_sign H hf h
  have hi := Vl.inv H hf hg
  have hne : A * D - B * C ≠ 0 := fun e => by rw [e] at hs; exact H.one_ne (by grind)
  have ei : (A * D - B * C)⁻¹ = A * D - B * C := by
    have := Lean.Grind.Field.mul_inv_cancel hne
    generalize (A * D - B * C)⁻¹ = w at *
    grind
  rw [ei] at hi
  have e := Vl.inj H hi hg
  unfold i_InverseMove s_l07Inverse
  rw [hz, if_neg (by simp)]
  simp only [e, sign_is]
  rfl
theorem inverse_then (H : Hom p K φ) (hf : i_IsField p = true) {m : P6} {A B C D S T : K} (h : Vm p φ m A B C D S T) (hs : (A * D - B * C) * (A * D - B * C) = 1) : i_then p m (s_l07Inverse p m) = oneM := by
  obtain ⟨U, V, k, e1, e2⟩ := vm_inverse H hf h hs
  refine Vm.inj H ((vm_then H hf h k).conv (by grind) (by grind) (by grind) (by grind) ?_ ?_) (vm_one H hf)
  · clear k h; grind
  · clear k h; grind
end
theorem det_sq {K : Type} [Lean.Grind.Field K] {c : Int} (hc : isC c) {A B C D : K} (h : Kp c A B C D) : (A * D - B * C) * (A * D - B * C) = 1 := by
  rcases kp_det hc h with e | e <;> rw [e] <;> grind
theorem InverseMove_same (p c : Int) (m : P6) : i_InverseMove p c m = s_InverseMove p c m := by
  by_cases hz : i_moveAsked p c m true i_always = 0
  · obtain ⟨hf, hc, hm, hk, _⟩ := move_ok hz
    obtain ⟨K, _, φ, H⟩ := hom_of hf
    have h := Vm.of (φ := φ) hm
    have k := (keeps_iff H hf hc h).1 hk
    have e := vm_iinverse H hf h hz (det_sq hc k)
    refine Prod.ext ?_ ?_
    · rw [e]
      unfold s_InverseMove
      rw [code_same, hz, if_neg (by simp)]
    · unfold i_InverseMove s_InverseMove
      rw [code_same, hz, if_neg (by simp), if_neg (by simp)]
  · unfold i_InverseMove s_InverseMove
    rw [code_same, if_pos (bne_iff_ne.2 hz), if_pos (bne_iff_ne.2 hz)]
/-- A move times its inverse. -/
theorem inverse_product {p c : Int} {m : P6} (hz : i_moveAsked p c m true i_always = 0) : i_ProductOfMoves p m (i_InverseMove p c m).1 = (oneM, 0) := by
  obtain ⟨hf, hc, hm, hk, _⟩ := move_ok hz
  obtain ⟨K, _, φ, H⟩ := hom_of hf
  have h := Vm.of (φ := φ) hm
  have k := (keeps_iff H hf hc h).1 hk
  have hs := det_sq hc k
  obtain ⟨U, V, v, _, _⟩ := vm_inverse H hf h hs
  rw [vm_iinverse H hf h hz hs]
  unfold i_ProductOfMoves i_ProductOfMoves_c1
  rw [hm, v.isMap, inverse_then H hf h hs]
  simp [i_asked, hf]
theorem one_asked {p c : Int} (hf : i_IsField p = true) (hc : isC c) : i_moveAsked p c oneM true i_always = 0 := by
  obtain ⟨K, _, φ, H⟩ := hom_of hf
  have h := vm_one H hf
  refine move_zero hf ?_ h.isMap ((keeps_iff H hf hc h).2 ⟨rfl, rfl, rfl⟩)
  rcases hc with rfl | rfl | rfl <;> rfl
theorem one_kind {p c : Int} (hf : i_IsField p = true) (hc : isC c) : i_KindOfMove p c oneM = (0, 0) := by
  unfold i_KindOfMove
  rw [one_asked hf hc]
  rfl
section
variable {p : Int} {K : Type} [Lean.Grind.Field K] {φ : Int → K}
theorem line_moved (H : Hom p K φ) (hf : i_IsField p = true) {m : P6} {A B C D S T : K} (h : Vm p φ m A B C D S T) (hs : (A * D - B * C) * (A * D - B * C) = 1) {a w : P2} {x y v1 v2 : K} (h1 : Vl p φ a.1 x) (h2 : Vl p φ a.2 y) (h3 : Vl p φ w.1 v1) (h4 : Vl p φ w.2 v2) (hn : v1 ≠ 0 ∨ v2 ≠ 0) {b : P2} (b1 : Vl p φ b.1 (x + v1)) (b2 : Vl p φ b.2 (y + v2)) :
    i_through p (i_moved p m a) (i_turned p (m.1, m.2.1, m.2.2.1, m.2.2.2.1) w) = s_l01Through p (i_moved p m a) (i_moved p m b) ∧
    i_through p (i_moved p m a) (i_turned p (m.1, m.2.1, m.2.2.1, m.2.2.2.1) w) = i_lineThrough p (i_moved p m a) (i_moved p m b) := by
  obtain ⟨t1, t2⟩ := vl_turned H hf h.a h.b h.c h.d h3 h4
  obtain ⟨m1, m2⟩ := vl_moved H hf h h1 h2
  obtain ⟨n1, n2⟩ := vl_moved H hf h b1 b2
  have hne : A * v1 + B * v2 ≠ 0 ∨ C * v1 + D * v2 ≠ 0 := by
    refine Classical.byContradiction fun q => ?_
    have q1 : A * v1 + B * v2 = 0 := Classical.byContradiction fun e => q (Or.inl e)
    have q2 : C * v1 + D * v2 = 0 := Classical.byContradiction fun e => q (Or.inr e)
    have r1 : (A * D - B * C) * v1 = 0 := by grind
    have r2 : (A * D - B * C) * v2 = 0 := by grind
    have hd : A * D - B * C ≠ 0 := fun e => by rw [e] at hs; exact H.one_ne (by grind)
    rcases hn with e | e
    · exact e (by grind)
    · exact e (by grind)
  have hne2 : A * x + B * y + S ≠ A * (x + v1) + B * (y + v2) + S ∨ C * x + D * y + T ≠ C * (x + v1) + D * (y + v2) + T := by
    rcases hne with e | e
    · exact Or.inl fun q => e (by grind)
    · exact Or.inr fun q => e (by grind)
  have l1 := ln_thr H hf m1 m2 t1 t2 hne
  constructor
  · exact Ln.inj H (Ln.scale 1 H.one_ne (by grind) (by grind) (by grind) l1) (ln_sThrough H hf m1 m2 n1 n2 hne2)
  · exact Ln.inj H (Ln.scale 1 H.one_ne (by grind) (by grind) (by grind) l1) (ln_lineThrough H hf m1 m2 n1 n2 hne2)
end
theorem moveline_two {p : Int} {m : P6} {l : P3} {c : Int} (hz : i_moveAsked p c m true i_always = 0) (hl : i_isLine p l = true) :
    i_through p (i_moved p m (i_onLine p l)) (i_turned p (m.1, m.2.1, m.2.2.1, m.2.2.2.1) (i_way p l)) = s_l01Through p (i_moved p m (s_l07Two p l).1) (i_moved p m (s_l07Two p l).2) := by
  obtain ⟨hf, hc, hm, hk, _⟩ := move_ok hz
  obtain ⟨K, _, φ, H⟩ := hom_of hf
  have hp := i_IsField_ok hf
  have h := Vm.of (φ := φ) hm
  have k := (keeps_iff H hf hc h).1 hk
  have hs := det_sq hc k
  obtain ⟨⟨n0, n1, n2⟩, n3⟩ := isLine_num hl
  have z0 : Vl p φ 0 (0 : K) := Vl.zero H hp
  have w1 := vl_way1 H hf (Vl.of (φ := φ) n1)
  have w2 : Vl p φ (i_way p l).2 (φ l.1) := Vl.of n0
  have r : Vl p φ (i_rest p (wrap64 (0 - l.2.2))) (-φ l.2.2) := Vl.rest H hp (Rw.neg0 H (Vl.rw hp (Vl.of n2)) (by decide))
  have sm : ∀ x, s_l01Mod x p = i_rest p x := fun x => rfl
  have hn : -φ l.2.1 ≠ 0 ∨ φ l.1 ≠ 0 := by
    rcases n3 with e | ⟨_, e⟩
    · exact Or.inr (by rw [e, H.one]; exact H.one_ne)
    · refine Or.inl ?_
      rw [e, H.one]
      intro q
      exact H.one_ne (by grind)
  have hd : s_l02Direction p l = i_way p l := rfl
  have key : ∀ a : P2, ∀ x y : K, Vl p φ a.1 x → Vl p φ a.2 y → i_through p (i_moved p m a) (i_turned p (m.1, m.2.1, m.2.2.1, m.2.2.2.1) (i_way p l)) = s_l01Through p (i_moved p m a) (i_moved p m (s_l01Plus p a (s_l02Direction p l))) := by
    intro a x y a1 a2
    refine (line_moved H hf h hs a1 a2 w1 w2 hn ?_ ?_).1
    · exact Vl.smod H hp (Rw.add H (Vl.rw hp a1) (Vl.rw hp w1) (by decide))
    · exact Vl.smod H hp (Rw.add H (Vl.rw hp a2) (Vl.rw hp w2) (by decide))
  unfold i_onLine s_l07Two
  split
  · exact key _ _ _ r z0
  · exact key _ _ _ z0 r
theorem lines1 (p : Int) (l : P3) (h : i_IsField p = true) : s_l01Line p l = i_isLine p l := line_is (i_IsField_ok h) l
theorem MoveLine_same (p c : Int) (m : P6) (l : P3) : i_MoveLine p c m l = s_MoveLine p c m l := by
  unfold s_MoveLine
  rw [code_same, in_colour]
  by_cases hf : i_IsField p = true
  · have hF : s_l01Field p = true := hf
    rw [if_pos hF, lines1 p l hf, map_is (i_IsField_ok hf)]
    by_cases hl : i_isLine p l = true
    · by_cases hm : i_isMap p m = true
      · by_cases hc : i_isColour c = true
        · rw [hl, hm, hc]
          have e : i_moveAsked p c m true (i_MoveLine_c1 p l) = i_moveAsked p c m true i_always := by unfold i_MoveLine_c1; rw [hl]; rfl
          unfold i_MoveLine
          rw [e]
          by_cases hz : i_moveAsked p c m true i_always = 0
          · rw [moveline_two hz hl]
            rfl
          · simp [bne_iff_ne.2 hz, hz]
        · unfold i_MoveLine i_moveAsked i_moveAsked_c1
          simp [hl, hm, hc, i_asked, hf]
      · unfold i_MoveLine i_moveAsked i_moveAsked_c1
        simp [hl, hm, i_asked, hf]
    · unfold i_MoveLine i_moveAsked i_moveAsked_c1 i_MoveLine_c1
      simp [hl, i_asked, hf]
  · have hF : ¬ s_l01Field p = true := hf
    rw [if_neg hF]
    unfold i_MoveLine i_moveAsked i_moveAsked_c1
    simp [i_asked, hf]

end Go.Proofs.YtoblkbpejfojjaaGreatDoor
