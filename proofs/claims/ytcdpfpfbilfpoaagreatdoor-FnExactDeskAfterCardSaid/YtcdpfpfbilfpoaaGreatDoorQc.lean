import Derived.Test.YtcdpfpfbilfpoaaGreatDoorQb
import Derived.Test.YtcdpfpfbilfpoaaGreatDoorTb
import Derived.Test.YtcdpfpfbilfpoaaGreatDoorDn
set_option linter.unusedSimpArgs false
set_option linter.unusedVariables false
namespace Go.Proofs.YtcdpfpfbilfpoaaGreatDoor
open Go.RowKit
section
variable {p : Int} {K : Type} [Lean.Grind.Field K] {φ : Int → K}
theorem Ln.line (hf : i_IsField p = true) {l : P3} {a b c : K} (h : Ln p φ l a b c) : i_isLine p l = true := by
 obtain ⟨t, _, h0, h1, h2, h3⟩ := h
 unfold i_isLine i_areNumbers
 simp [isNumber_iff.2 h0.1, isNumber_iff.2 h1.1, isNumber_iff.2 h2.1]
 omega
end
theorem tri_any {p k j : Int} {a b d : P2} (hk : isC k) (hj : isC j) : i_triangle p k a b d = i_triangle p j a b d := by
 have e1 : i_isColour k = true := by rcases hk with rfl | rfl | rfl <;> rfl
 have e2 : i_isColour j = true := by rcases hj with rfl | rfl | rfl <;> rfl
 unfold i_triangle i_triangle_c1
 rw [e1, e2]
theorem foot_eq {p : Int} (hf : i_IsField p = true) {k : Int} (hk : isC k) {a : P2} {l : P3} (ha : i_isPoint p a = true) (hl : i_isLine p l = true) : i_foot p k a l = (s_l02Foot p k a l).1 ∧ (s_l02Foot p k a l).2 = !(i_isNull p k l) := by
 obtain ⟨K, inst, φ, H⟩ := hom_of hf
 have a1 := Vl.of (φ := φ) (isPoint_num ha).1; have a2 := Vl.of (φ := φ) (isPoint_num ha).2
 obtain ⟨⟨n0, n1, n2⟩, hn⟩ := isLine_num hl
 have l0 := Vl.of (φ := φ) n0; have l1 := Vl.of (φ := φ) n1
 have hne : φ l.1 ≠ 0 ∨ φ l.2.1 ≠ 0 := by
  have h1 := H.one_ne
  rcases hn with e | ⟨_, e⟩
  ·rw [e, H.one]; exact Or.inl h1
  ·rw [e, H.one]; exact Or.inr h1
 have pi := ln_perpendicular H hf hk l0 l1 a1 a2 hne
 have ps := ln_through H hf hk (d := s_l02Direction p l) (vl_way1 H hf l1) (vl_way2 l0) a1 a2 (by grind)
 have e := Ln.inj H pi ps
 have hln := Ln.of H hl
 refine ⟨?_, ?_⟩
 ·unfold i_foot s_l02Foot
  rw [e]
  obtain ⟨s, hs, p0, p1, p2, pk⟩ := hln
  obtain ⟨t, ht, q0, q1, q2, qk⟩ := ps
  exact meet_same H hf p0 p1 p2 q0 q1 q2
 ·have hp := Ln.par H hf hln ps
  have hq := perp_iff H hf hk l0 l1 l0 l1
  show (s_l01Meet p l (s_l02Through p k (s_l02Direction p l) a)).2 = !(i_arePerpendicular p k l l)
  rw [Bool.eq_iff_iff, hp, Bool.not_eq_true', ← Bool.not_eq_true, hq]
  rw [prodK_fr hk]
  generalize frU k (-φ l.2.1) (φ l.1) = U
  generalize frV k (-φ l.2.1) (φ l.1) = V
  constructor <;> intro h1 h2 <;> apply h1 <;> grind
theorem EulerLineOf_same (p k : Int) (a b c : P2) : i_EulerLineOf p k a b c = s_EulerLineOf p k a b c := by
 unfold i_EulerLineOf s_EulerLineOf
 rw [tricode]
 by_cases h : i_triangle p k a b c = 0
 ·have hk := (tri_zero h).2.1
  have h0 : i_triangle p 0 a b c = 0 := by rw [← tri_any hk isC0]; exact h
  rw [ortho_eq h0 hk, circum_eq h0 hk, h]
  by_cases hx : s_l04Orthocentre p k a b c = s_l04Circumcentre p k a b c
  ·simp [hx]
  ·rw [through_eq (tri_zero h).1 (ortho_pt h0 hk) (circum_pt h0 hk) hx]
 ·simp [h]
theorem tri_sides {p k : Int} {a b c : P2} (h : i_triangle p k a b c = 0) : a ≠ b ∧ a ≠ c ∧ b ≠ c := by
 obtain ⟨hf, hk, ha, hb, hc, hn⟩ := tri_zero h
 obtain ⟨K, inst, φ, H⟩ := hom_of hf
 have T := tri_of H h
 unfold Tri at T
 refine ⟨?_, ?_, ?_⟩ <;> rintro rfl <;> exact T (by grind)
theorem line_of_pts {p : Int} {a b : P2} (hf : i_IsField p = true) (ha : i_isPoint p a = true) (hb : i_isPoint p b = true) (h : a ≠ b) : i_isLine p (i_lineThrough p a b) = true := by
 obtain ⟨K, inst, φ, H⟩ := hom_of hf
 have a1 := Vl.of (φ := φ) (isPoint_num ha).1; have a2 := Vl.of (φ := φ) (isPoint_num ha).2
 have b1 := Vl.of (φ := φ) (isPoint_num hb).1; have b2 := Vl.of (φ := φ) (isPoint_num hb).2
 exact Ln.line hf (ln_lineThrough H hf a1 a2 b1 b2 (ne_of H a1 a2 b1 b2 h))
theorem OrthicPoints_same (p k : Int) (a b c : P2) : i_OrthicPoints p k a b c = s_OrthicPoints p k a b c := by
 unfold i_OrthicPoints s_OrthicPoints
 rw [tricode]
 by_cases h : i_triangle p k a b c = 0
 ·obtain ⟨hf, hk, ha, hb, hc, hn⟩ := tri_zero h
  obtain ⟨n1, n2, n3⟩ := tri_sides h
  rw [← through_eq hf hb hc n3, ← through_eq hf ha hc n2, ← through_eq hf ha hb n1, h]
  obtain ⟨e1, e2⟩ := foot_eq hf hk ha (line_of_pts hf hb hc n3)
  obtain ⟨f1, f2⟩ := foot_eq hf hk hb (line_of_pts hf ha hc n2)
  obtain ⟨g1, g2⟩ := foot_eq hf hk hc (line_of_pts hf ha hb n1)
  rw [e1, e2, f1, f2, g1, g2]
  simp only [Bool.not_not]
 ·simp [h]
theorem archi_same (p x y z : Int) : s_l02Archimedes p x y z = i_archimedes p x y z := rfl
theorem QuadreaOf_same (p k : Int) (a b c : P2) : i_QuadreaOf p k a b c = s_QuadreaOf p k a b c := by
 unfold i_QuadreaOf s_QuadreaOf s_l04Quadrea
 rw [tricode]
 by_cases h : i_triangle p k a b c = 0
 ·obtain ⟨hf, hk, ha, hb, hc, hn⟩ := tri_zero h
  rw [archi_same, quad_same hf hk hb hc, quad_same hf hk ha hc, quad_same hf hk ha hb]
 ·simp [h]
section
variable {p : Int} {K : Type} [Lean.Grind.Field K] {φ : Int → K}
theorem null_val (H : Hom p K φ) (hf : i_IsField p = true) {c : Int} (hc : isC c) {l : P3} {l1 l2 : K} (h1 : Vl p φ l.1 l1) (h2 : Vl p φ l.2.1 l2) : i_isNull p c l = true ↔ prodK c (-l2) l1 (-l2) l1 = 0 := perp_iff H hf hc h1 h2 h1 h2
end

theorem OmegaPoints_same (p : Int) (a b c : P2) : i_OmegaPoints p a b c = s_OmegaPoints p a b c := by
 unfold i_OmegaPoints s_OmegaPoints i_omegaPoints s_l10Omega
 rw [tricode]
 by_cases h : i_triangle p 0 a b c = 0
 ·rw [ortho_eq h isC0, ortho_eq h isC1, ortho_eq h isC2]
 ·simp [h]
theorem ThreeEulerLines_same (p : Int) (a b c : P2) : i_ThreeEulerLines p a b c = s_ThreeEulerLines p a b c := by
 have ht : ∀ k, isC k → i_triangle p k a b c = i_triangle p 0 a b c := by
  intro k hk
  unfold i_triangle i_triangle_c1
  have : i_isColour k = true := by rcases hk with rfl | rfl | rfl <;> rfl
  rw [this]
  rfl
 have e : ∀ k, isC k → i_EulerLineOf p k a b c = if (i_triangle p 0 a b c != 0) = true then ((0, 0, 0), i_triangle p 0 a b c) else if (s_l04Orthocentre p k a b c == s_l04Circumcentre p k a b c) = true then ((0, 0, 0), 5) else (s_l01Through p (s_l04Orthocentre p k a b c) (s_l04Circumcentre p k a b c), 0) := by
  intro k hk
  unfold i_EulerLineOf
  rw [ht k hk]
  by_cases h : i_triangle p 0 a b c = 0
  ·have hf := (tri_zero h).1
   rw [ortho_eq h hk, circum_eq h hk]
   by_cases hx : s_l04Orthocentre p k a b c = s_l04Circumcentre p k a b c
   ·simp [h, hx]
   ·rw [through_eq hf (ortho_pt h hk) (circum_pt h hk) hx]
  ·simp [h]
 unfold i_ThreeEulerLines s_ThreeEulerLines
 rw [tricode, e 0 isC0, e 1 isC1, e 2 isC2]
 by_cases h : i_triangle p 0 a b c = 0
 ·simp only [h]
  by_cases h0 : s_l04Orthocentre p 0 a b c = s_l04Circumcentre p 0 a b c
  ·simp [h0]
  ·by_cases h1 : s_l04Orthocentre p 1 a b c = s_l04Circumcentre p 1 a b c
   ·simp [h0, h1]
   ·by_cases h2 : s_l04Orthocentre p 2 a b c = s_l04Circumcentre p 2 a b c
    ·simp [h0, h1, h2]
    ·simp [h0, h1, h2]
 ·simp [h]
theorem RightColours_same (p : Int) (a b c : P2) : i_RightColours p a b c = s_RightColours p a b c := by
 unfold i_RightColours s_RightColours i_RightColours_c1 i_coloursWith i_RightColours_c2
 rw [pointcode p true]
 have e : ∀ k, i_isRight p k a b c = (s_l02Product p k (s_l01Minus p b a) (s_l01Minus p c a) == 0) := fun k => rfl
 simp only [e]
 repeat' split
 all_goals first
  | rfl
  | simp_all
theorem UnitCounts_same (p : Int) : i_UnitCounts p = s_UnitCounts p := by
 unfold i_UnitCounts s_UnitCounts
 cases h : i_IsField p
 ·have h' : s_l01Field p = false := h
  rw [h']; rfl
 ·have h' : s_l01Field p = true := h
  rw [h']
  have e : ∀ c, isC c → i_pointsAt p c (0, 0) 1 = s_l02At p c (0, 0) 1 := by
   intro c hc
   unfold i_pointsAt i_pointsWith s_l02At i_pointsAt_c1
   have hh : (pts p).filter (fun zz => i_quadrance p c (0, 0) zz == 1) = (pts p).filter (fun zz => s_l02Quadrance p c (0, 0) zz == 1) := by
    apply filter_same
    intro z hz
    have hz := mem_pts.1 hz
    have z0 : i_isPoint p (0, 0) = true := by
     have := i_IsField_ok h
     unfold Pr at this
     simp [i_isPoint, i_areNumbers, i_isNumber]; omega
    have z1 : i_isPoint p z = true := by simp [i_isPoint, i_areNumbers, i_isNumber]; omega
    rw [quad_same h hc z0 z1]
   dsimp only
   rw [hh]
  rw [e 0 isC0, e 1 isC1, e 2 isC2]
theorem num_in {p x : Int} (hf : i_IsField p = true) (h : 0 ≤ x ∧ x < p) : num1 x = true := by
 have hm := field_mem hf
 rw [num1_iff]
 simp only [List.mem_cons, List.not_mem_nil, or_false] at hm
 omega
theorem num2_pt {p : Int} {a : P2} (hf : i_IsField p = true) (h : i_isPoint p a = true) : num2 a = true := by
 obtain ⟨h1, h2⟩ := isPoint_num h
 exact num2_of (num_in hf h1) (num_in hf h2)
theorem num3_ln {p : Int} {l : P3} (hf : i_IsField p = true) (h : i_isLine p l = true) : num3 l = true := by
 obtain ⟨⟨h1, h2, h3⟩, _⟩ := isLine_num h
 exact num3_of (num_in hf h1) (num_in hf h2) (num_in hf h3)
theorem ask1 {p : Int} {b : Bool} (hf : i_IsField p = true) (hb : b = true) : i_asked p true b = 0 := by rw [hb]; simp [i_asked, hf]
theorem ask2 {p : Int} {b : Bool} (hf : i_IsField p = true) (hb : b = false) : i_asked p true b = 2 := by rw [hb]; simp [i_asked, hf]
theorem colour_of {c : Int} (hc : isC c) : i_isColour c = true := by rcases hc with rfl | rfl | rfl <;> rfl
theorem mid_same {p : Int} {a b : P2} (hf : i_IsField p = true) (ha : i_isPoint p a = true) (hb : i_isPoint p b = true) : i_midpoint p a b = s_l01Middle p a b ∧ i_isPoint p (s_l01Middle p a b) = true := by
 obtain ⟨K, _, φ, H⟩ := hom_of hf
 have hp := i_IsField_ok hf
 have n2 := H.two_ne hf
 obtain ⟨a1, a2⟩ := isPoint_num ha; obtain ⟨b1, b2⟩ := isPoint_num hb
 have A1 := Vl.of (φ := φ) a1; have A2 := Vl.of (φ := φ) a2; have B1 := Vl.of (φ := φ) b1; have B2 := Vl.of (φ := φ) b2
 obtain ⟨X, Y, v1, v2, e1, e2⟩ := vl_middle H hf A1 A2 B1 B2
 have two : Vl p φ 2 (2 : K) := ⟨by have hm := field_mem hf; simp at hm; omega, H.two⟩
 have iv := Vl.inv H hf two
 have hi := Lean.Grind.Field.mul_inv_cancel n2
 have w1 : Vl p φ (i_midpoint p a b).1 (φ a.1 + (2 : K)⁻¹ * (φ b.1 - φ a.1)) := by
  unfold i_midpoint i_combination
  dsimp only
  (repeat' (first | assumption | exact Vl.rw hp (by assumption) | exact Rw.lit _ (by decide) | exact Rw.nlit _ (by decide) | with_reducible apply Vl.rest H hp | with_reducible apply Vl.smod H hp | with_reducible apply Vl.div H hf | with_reducible apply Vl.inv H hf | with_reducible apply Vl.sinvV H hf | with_reducible apply Vl.sinvR H hf | with_reducible apply Rw.tmod H hp | with_reducible apply Rw.mul H | with_reducible apply Rw.neg0 H | with_reducible apply Rw.sub H | with_reducible apply Rw.add H | with_reducible apply Vl.rw hp | decide))
 have w2 : Vl p φ (i_midpoint p a b).2 (φ a.2 + (2 : K)⁻¹ * (φ b.2 - φ a.2)) := by
  unfold i_midpoint i_combination
  dsimp only
  (repeat' (first | assumption | exact Vl.rw hp (by assumption) | exact Rw.lit _ (by decide) | exact Rw.nlit _ (by decide) | with_reducible apply Vl.rest H hp | with_reducible apply Vl.smod H hp | with_reducible apply Vl.div H hf | with_reducible apply Vl.inv H hf | with_reducible apply Vl.sinvV H hf | with_reducible apply Vl.sinvR H hf | with_reducible apply Rw.tmod H hp | with_reducible apply Rw.mul H | with_reducible apply Rw.neg0 H | with_reducible apply Rw.sub H | with_reducible apply Rw.add H | with_reducible apply Vl.rw hp | decide))
 refine ⟨Prod.ext (Vl.inj H w1 (v1.conv ?_)) (Vl.inj H w2 (v2.conv ?_)), isPoint_of v1 v2⟩
 ·clear w1 w2 v1 v2 iv two; grind
 ·clear w1 w2 v1 v2 iv two; grind
theorem cmd_mid {p : Int} {a b : P2} (hf : i_IsField p = true) (ha : i_isPoint p a = true) (hb : i_isPoint p b = true) : i_MidpointOf p a b = s_MidpointOf p a b ∧ num2 (s_MidpointOf p a b).1 = true := by
 obtain ⟨e, h⟩ := mid_same hf ha hb
 have hz : i_asked p true (i_arePoints p [a, b]) = 0 := ask1 hf (by simp [i_arePoints, ha, hb])
 unfold i_MidpointOf i_MidpointOf_c1 s_MidpointOf
 rw [pointcode p true, hz, e]
 exact ⟨rfl, num2_pt hf h⟩
theorem cmd_line {p : Int} {a b : P2} (hf : i_IsField p = true) (ha : i_isPoint p a = true) (hb : i_isPoint p b = true) : i_LineThrough p a b = s_LineThrough p a b ∧ num3 (s_LineThrough p a b).1 = true ∧ ((s_LineThrough p a b).2 = 0 → i_isLine p (s_LineThrough p a b).1 = true) := by
 have hz : i_asked p true (i_arePoints p [a, b]) = 0 := ask1 hf (by simp [i_arePoints, ha, hb])
 unfold i_LineThrough i_LineThrough_c1 s_LineThrough
 rw [pointcode p true, hz]
 by_cases h : a = b
 ·subst h
  rw [if_neg (by decide), if_pos (beq_self_eq_true a), if_neg (by decide), if_pos (beq_self_eq_true a)]
  exact ⟨rfl, rfl, fun e => by cases e⟩
 ·have hl := line_of_pts hf ha hb h
  rw [if_neg (by decide), if_neg (by simpa using h), if_neg (by decide), if_neg (by simpa using h), ← through_eq hf ha hb h]
  exact ⟨rfl, num3_ln hf hl, fun _ => hl⟩
theorem foot_num {p c : Int} {a : P2} {l : P3} (hf : i_IsField p = true) : num2 (i_foot p c a l) = true := by
 have hp := i_IsField_ok hf
 unfold i_foot i_meet i_divide i_rest
 exact num2_of (num_in hf (rest_b hp _)) (num_in hf (rest_b hp _))
theorem cmd_foot {p c : Int} {a : P2} {l : P3} (hf : i_IsField p = true) (hc : isC c) (ha : i_isPoint p a = true) (hl : i_isLine p l = true) : i_FootOf p c a l = s_FootOf p c a l ∧ num2 (s_FootOf p c a l).1 = true := by
 obtain ⟨e1, e2⟩ := foot_eq hf hc ha hl
 have hz : i_asked p true (i_FootOf_c1 c p a l) = 0 := ask1 hf (by unfold i_FootOf_c1; simp [colour_of hc, ha, hl])
 have hb : s_l01Both p a l = 0 := by rw [bothcode p true]; exact ask1 hf (by simp [ha, hl])
 have hq : s_l02Perpendicular p c l l = i_isNull p c l := rfl
 have hcc : s_l02Colour c = true := by rw [colour_eq]; exact colour_of hc
 unfold i_FootOf s_FootOf
 rw [hz, hb, hq, hcc, ← e1]
 cases hn : i_isNull p c l
 ·refine ⟨rfl, ?_⟩
  show num2 (i_foot p c a l) = true
  exact foot_num hf
 ·exact ⟨rfl, rfl⟩
theorem cmd_circum {p c : Int} (a b d : P2) : i_CircumcentreOf p c a b d = s_CircumcentreOf p c a b d ∧ num2 (s_CircumcentreOf p c a b d).1 = true := by
 unfold i_CircumcentreOf s_CircumcentreOf
 rw [tricode]
 by_cases h : i_triangle p c a b d = 0
 ·obtain ⟨hf, hc, _⟩ := tri_zero h
  rw [h, circum_eq h hc]
  exact ⟨rfl, num2_pt hf (circum_pt h hc)⟩
 ·rw [if_pos (bne_iff_ne.2 h), if_pos (bne_iff_ne.2 h)]
  exact ⟨rfl, rfl⟩
theorem cmd_ortho {p c : Int} (a b d : P2) : i_OrthocentreOf p c a b d = s_OrthocentreOf p c a b d ∧ num2 (s_OrthocentreOf p c a b d).1 = true := by
 unfold i_OrthocentreOf s_OrthocentreOf
 rw [tricode]
 by_cases h : i_triangle p c a b d = 0
 ·obtain ⟨hf, hc, _⟩ := tri_zero h
  rw [h, ortho_eq h hc]
  exact ⟨rfl, num2_pt hf (ortho_pt h hc)⟩
 ·rw [if_pos (bne_iff_ne.2 h), if_pos (bne_iff_ne.2 h)]
  exact ⟨rfl, rfl⟩
theorem cmd_comb {p : Int} {a b : P2} (hf : i_IsField p = true) (ha : i_isPoint p a = true) (hb : i_isPoint p b = true) (t : Int) : i_CombinationOf p a b t = s_CombinationOf p a b t ∧ num2 (s_CombinationOf p a b t).1 = true := by
 have hab : i_arePoints p [a, b] = true := by simp [i_arePoints, ha, hb]
 have hz : s_l01Code p [a, b] = 0 := by rw [pointcode p true]; exact ask1 hf hab
 have hn : s_l01Numbers p [t] = i_asked p true (i_areNumbers p [t]) := numbers_eq p true [t]
 have e1 : i_CombinationOf_c1 p a b t = i_areNumbers p [t] := by unfold i_CombinationOf_c1; rw [hab, if_pos rfl]; simp [i_areNumbers]
 unfold i_CombinationOf s_CombinationOf
 rw [hz, hn, e1]
 cases h : i_areNumbers p [t]
 ·rw [ask2 hf rfl]
  exact ⟨rfl, rfl⟩
 ·rw [ask1 hf rfl]
  have ht : 0 ≤ t ∧ t < p := by simpa [i_areNumbers, isNumber_iff] using h
  obtain ⟨K, _, φ, H⟩ := hom_of hf
  have hp := i_IsField_ok hf
  obtain ⟨a1, a2⟩ := isPoint_num ha; obtain ⟨b1, b2⟩ := isPoint_num hb
  have A1 := Vl.of (φ := φ) a1; have A2 := Vl.of (φ := φ) a2; have B1 := Vl.of (φ := φ) b1; have B2 := Vl.of (φ := φ) b2; have T := Vl.of (φ := φ) ht
  have w1 : Vl p φ (i_combination p a b t).1 (φ a.1 + φ t * (φ b.1 - φ a.1)) := by
   unfold i_combination
   dsimp only
   (repeat' (first | assumption | exact Vl.rw hp (by assumption) | exact Rw.lit _ (by decide) | exact Rw.nlit _ (by decide) | with_reducible apply Vl.rest H hp | with_reducible apply Vl.smod H hp | with_reducible apply Vl.div H hf | with_reducible apply Vl.inv H hf | with_reducible apply Vl.sinvV H hf | with_reducible apply Vl.sinvR H hf | with_reducible apply Rw.tmod H hp | with_reducible apply Rw.mul H | with_reducible apply Rw.neg0 H | with_reducible apply Rw.sub H | with_reducible apply Rw.add H | with_reducible apply Vl.rw hp | decide))
  have w2 : Vl p φ (i_combination p a b t).2 (φ a.2 + φ t * (φ b.2 - φ a.2)) := by
   unfold i_combination
   dsimp only
   (repeat' (first | assumption | exact Vl.rw hp (by assumption) | exact Rw.lit _ (by decide) | exact Rw.nlit _ (by decide) | with_reducible apply Vl.rest H hp | with_reducible apply Vl.smod H hp | with_reducible apply Vl.div H hf | with_reducible apply Vl.inv H hf | with_reducible apply Vl.sinvV H hf | with_reducible apply Vl.sinvR H hf | with_reducible apply Rw.tmod H hp | with_reducible apply Rw.mul H | with_reducible apply Rw.neg0 H | with_reducible apply Rw.sub H | with_reducible apply Rw.add H | with_reducible apply Vl.rw hp | decide))
  have m1 : Vl p φ (s_l01Minus p b a).1 (φ b.1 - φ a.1) := vl_less1 H hf B1 A1
  have m2 : Vl p φ (s_l01Minus p b a).2 (φ b.2 - φ a.2) := vl_less2 H hf B2 A2
  have u1 : Vl p φ (s_l01Times p t (s_l01Minus p b a)).1 (φ t * (φ b.1 - φ a.1)) := by
   unfold s_l01Times
   dsimp only
   (repeat' (first | assumption | exact Vl.rw hp (by assumption) | exact Rw.lit _ (by decide) | exact Rw.nlit _ (by decide) | with_reducible apply Vl.rest H hp | with_reducible apply Vl.smod H hp | with_reducible apply Vl.div H hf | with_reducible apply Vl.inv H hf | with_reducible apply Vl.sinvV H hf | with_reducible apply Vl.sinvR H hf | with_reducible apply Rw.tmod H hp | with_reducible apply Rw.mul H | with_reducible apply Rw.neg0 H | with_reducible apply Rw.sub H | with_reducible apply Rw.add H | with_reducible apply Vl.rw hp | decide))
  have u2 : Vl p φ (s_l01Times p t (s_l01Minus p b a)).2 (φ t * (φ b.2 - φ a.2)) := by
   unfold s_l01Times
   dsimp only
   (repeat' (first | assumption | exact Vl.rw hp (by assumption) | exact Rw.lit _ (by decide) | exact Rw.nlit _ (by decide) | with_reducible apply Vl.rest H hp | with_reducible apply Vl.smod H hp | with_reducible apply Vl.div H hf | with_reducible apply Vl.inv H hf | with_reducible apply Vl.sinvV H hf | with_reducible apply Vl.sinvR H hf | with_reducible apply Rw.tmod H hp | with_reducible apply Rw.mul H | with_reducible apply Rw.neg0 H | with_reducible apply Rw.sub H | with_reducible apply Rw.add H | with_reducible apply Vl.rw hp | decide))
  have v1 : Vl p φ (s_l01Plus p a (s_l01Times p t (s_l01Minus p b a))).1 (φ a.1 + φ t * (φ b.1 - φ a.1)) := by
   unfold s_l01Plus
   dsimp only
   (repeat' (first | assumption | exact Vl.rw hp (by assumption) | exact Rw.lit _ (by decide) | exact Rw.nlit _ (by decide) | with_reducible apply Vl.rest H hp | with_reducible apply Vl.smod H hp | with_reducible apply Vl.div H hf | with_reducible apply Vl.inv H hf | with_reducible apply Vl.sinvV H hf | with_reducible apply Vl.sinvR H hf | with_reducible apply Rw.tmod H hp | with_reducible apply Rw.mul H | with_reducible apply Rw.neg0 H | with_reducible apply Rw.sub H | with_reducible apply Rw.add H | with_reducible apply Vl.rw hp | decide))
  have v2 : Vl p φ (s_l01Plus p a (s_l01Times p t (s_l01Minus p b a))).2 (φ a.2 + φ t * (φ b.2 - φ a.2)) := by
   unfold s_l01Plus
   dsimp only
   (repeat' (first | assumption | exact Vl.rw hp (by assumption) | exact Rw.lit _ (by decide) | exact Rw.nlit _ (by decide) | with_reducible apply Vl.rest H hp | with_reducible apply Vl.smod H hp | with_reducible apply Vl.div H hf | with_reducible apply Vl.inv H hf | with_reducible apply Vl.sinvV H hf | with_reducible apply Vl.sinvR H hf | with_reducible apply Rw.tmod H hp | with_reducible apply Rw.mul H | with_reducible apply Rw.neg0 H | with_reducible apply Rw.sub H | with_reducible apply Rw.add H | with_reducible apply Vl.rw hp | decide))
  have e : i_combination p a b t = s_l01Plus p a (s_l01Times p t (s_l01Minus p b a)) := Prod.ext (Vl.inj H w1 v1) (Vl.inj H w2 v2)
  rw [e]
  exact ⟨rfl, num2_pt hf (isPoint_of v1 v2)⟩
theorem cmd_area {p : Int} {a b d : P2} (hf : i_IsField p = true) (ha : i_isPoint p a = true) (hb : i_isPoint p b = true) (hd : i_isPoint p d = true) : i_DoubledArea p a b d = s_DoubledArea p a b d ∧ num1 (s_DoubledArea p a b d).1 = true := by
 have hz : i_asked p true (i_arePoints p [a, b, d]) = 0 := ask1 hf (by simp [i_arePoints, ha, hb, hd])
 unfold i_DoubledArea i_DoubledArea_c1 s_DoubledArea
 rw [pointcode p true, hz, area_same p a b d hf ha hb hd]
 refine ⟨rfl, ?_⟩
 show num1 (i_area p a b d) = true
 exact num_in hf (rest_b (i_IsField_ok hf) _)
theorem three_rows (a b d : P2) : rows2 3 [a.1, a.2, b.1, b.2, d.1, d.2] = [a, b, d] := rfl
theorem code3 {p c : Int} {a b d : P2} (hf : i_IsField p = true) (hc : isC c) (ha : i_isPoint p a = true) (hb : i_isPoint p b = true) (hd : i_isPoint p d = true) : s_l02Code p c 3 [a.1, a.2, b.1, b.2, d.1, d.2] = 0 := by
 rw [colourcode p c true, three_rows, colour_of hc, if_pos rfl]
 exact ask1 hf (by simp [i_arePoints, ha, hb, hd])
theorem cmd_right {p c : Int} {a b d : P2} (hf : i_IsField p = true) (hc : isC c) (ha : i_isPoint p a = true) (hb : i_isPoint p b = true) (hd : i_isPoint p d = true) : s_HasRightAngle p c a b d = (i_isRight p c a b d, 0) := by
 unfold s_HasRightAngle
 rw [code3 hf hc ha hb hd]
 rfl
theorem three_lt {p : Int} (hf : i_IsField p = true) (h : p ≠ 3) : (3 : Int) < p := by
 have hm := field_mem hf
 simp only [List.mem_cons, List.not_mem_nil, or_false] at hm
 omega
theorem cmd_centroid {p : Int} (a b d : P2) : i_CentroidOf p a b d = s_CentroidOf p a b d ∧ num2 (s_CentroidOf p a b d).1 = true := by
 unfold i_CentroidOf s_CentroidOf
 rw [tricode]
 by_cases h : i_triangle p 0 a b d = 0
 ·obtain ⟨hf, _, ha, hb, hd, hn⟩ := tri_zero h
  rw [h]
  by_cases h3 : p = 3
  ·subst h3; exact ⟨rfl, rfl⟩
  ·rw [if_neg (by decide), if_neg (by simpa using h3), if_neg (by decide), if_neg (by simpa using h3)]
   obtain ⟨K, _, φ, H⟩ := hom_of hf
   have hp := i_IsField_ok hf
   have hlt := three_lt hf h3
   obtain ⟨a1, a2⟩ := isPoint_num ha; obtain ⟨b1, b2⟩ := isPoint_num hb; obtain ⟨d1, d2⟩ := isPoint_num hd
   have A1 := Vl.of (φ := φ) a1; have A2 := Vl.of (φ := φ) a2; have B1 := Vl.of (φ := φ) b1; have B2 := Vl.of (φ := φ) b2; have D1 := Vl.of (φ := φ) d1; have D2 := Vl.of (φ := φ) d2
   have T : Vl p φ 3 (3 : K) := ⟨by omega, H.three⟩
   have et : (3 : Int).tmod p = 3 := by rw [Int.tmod_eq_emod_of_nonneg (by decide)]; exact Int.emod_eq_of_lt (by decide) hlt
   have w1 : Vl p φ (i_divide p (wrap64 ((wrap64 (a.1 + b.1)) + d.1)) 3) ((φ a.1 + φ b.1 + φ d.1) * (3 : K)⁻¹) := by (repeat' (first | assumption | exact Vl.rw hp (by assumption) | exact Rw.lit _ (by decide) | exact Rw.nlit _ (by decide) | with_reducible apply Vl.rest H hp | with_reducible apply Vl.smod H hp | with_reducible apply Vl.div H hf | with_reducible apply Vl.inv H hf | with_reducible apply Vl.sinvV H hf | with_reducible apply Vl.sinvR H hf | with_reducible apply Rw.tmod H hp | with_reducible apply Rw.mul H | with_reducible apply Rw.neg0 H | with_reducible apply Rw.sub H | with_reducible apply Rw.add H | with_reducible apply Vl.rw hp | decide))
   have w2 : Vl p φ (i_divide p (wrap64 ((wrap64 (a.2 + b.2)) + d.2)) 3) ((φ a.2 + φ b.2 + φ d.2) * (3 : K)⁻¹) := by (repeat' (first | assumption | exact Vl.rw hp (by assumption) | exact Rw.lit _ (by decide) | exact Rw.nlit _ (by decide) | with_reducible apply Vl.rest H hp | with_reducible apply Vl.smod H hp | with_reducible apply Vl.div H hf | with_reducible apply Vl.inv H hf | with_reducible apply Vl.sinvV H hf | with_reducible apply Vl.sinvR H hf | with_reducible apply Rw.tmod H hp | with_reducible apply Rw.mul H | with_reducible apply Rw.neg0 H | with_reducible apply Rw.sub H | with_reducible apply Rw.add H | with_reducible apply Vl.rw hp | decide))
   have iv : Vl p φ (s_l01Inverse 3 p) (3 : K)⁻¹ := Vl.sinvV H hf T
   have q1 : Vl p φ (s_l01Plus p b d).1 (φ b.1 + φ d.1) := by
    unfold s_l01Plus
    dsimp only
    (repeat' (first | assumption | exact Vl.rw hp (by assumption) | exact Rw.lit _ (by decide) | exact Rw.nlit _ (by decide) | with_reducible apply Vl.rest H hp | with_reducible apply Vl.smod H hp | with_reducible apply Vl.div H hf | with_reducible apply Vl.inv H hf | with_reducible apply Vl.sinvV H hf | with_reducible apply Vl.sinvR H hf | with_reducible apply Rw.tmod H hp | with_reducible apply Rw.mul H | with_reducible apply Rw.neg0 H | with_reducible apply Rw.sub H | with_reducible apply Rw.add H | with_reducible apply Vl.rw hp | decide))
   have q2 : Vl p φ (s_l01Plus p b d).2 (φ b.2 + φ d.2) := by
    unfold s_l01Plus
    dsimp only
    (repeat' (first | assumption | exact Vl.rw hp (by assumption) | exact Rw.lit _ (by decide) | exact Rw.nlit _ (by decide) | with_reducible apply Vl.rest H hp | with_reducible apply Vl.smod H hp | with_reducible apply Vl.div H hf | with_reducible apply Vl.inv H hf | with_reducible apply Vl.sinvV H hf | with_reducible apply Vl.sinvR H hf | with_reducible apply Rw.tmod H hp | with_reducible apply Rw.mul H | with_reducible apply Rw.neg0 H | with_reducible apply Rw.sub H | with_reducible apply Rw.add H | with_reducible apply Vl.rw hp | decide))
   have r1 : Vl p φ (s_l01Plus p a (s_l01Plus p b d)).1 (φ a.1 + (φ b.1 + φ d.1)) := by
    unfold s_l01Plus
    dsimp only
    (repeat' (first | assumption | exact Vl.rw hp (by assumption) | exact Rw.lit _ (by decide) | exact Rw.nlit _ (by decide) | with_reducible apply Vl.rest H hp | with_reducible apply Vl.smod H hp | with_reducible apply Vl.div H hf | with_reducible apply Vl.inv H hf | with_reducible apply Vl.sinvV H hf | with_reducible apply Vl.sinvR H hf | with_reducible apply Rw.tmod H hp | with_reducible apply Rw.mul H | with_reducible apply Rw.neg0 H | with_reducible apply Rw.sub H | with_reducible apply Rw.add H | with_reducible apply Vl.rw hp | decide))
   have r2 : Vl p φ (s_l01Plus p a (s_l01Plus p b d)).2 (φ a.2 + (φ b.2 + φ d.2)) := by
    unfold s_l01Plus
    dsimp only
    (repeat' (first | assumption | exact Vl.rw hp (by assumption) | exact Rw.lit _ (by decide) | exact Rw.nlit _ (by decide) | with_reducible apply Vl.rest H hp | with_reducible apply Vl.smod H hp | with_reducible apply Vl.div H hf | with_reducible apply Vl.inv H hf | with_reducible apply Vl.sinvV H hf | with_reducible apply Vl.sinvR H hf | with_reducible apply Rw.tmod H hp | with_reducible apply Rw.mul H | with_reducible apply Rw.neg0 H | with_reducible apply Rw.sub H | with_reducible apply Rw.add H | with_reducible apply Vl.rw hp | decide))
   have v1 : Vl p φ (s_l01Times p (s_l01Inverse 3 p) (s_l01Plus p a (s_l01Plus p b d))).1 ((3 : K)⁻¹ * (φ a.1 + (φ b.1 + φ d.1))) := by
    unfold s_l01Times
    dsimp only
    (repeat' (first | assumption | exact Vl.rw hp (by assumption) | exact Rw.lit _ (by decide) | exact Rw.nlit _ (by decide) | with_reducible apply Vl.rest H hp | with_reducible apply Vl.smod H hp | with_reducible apply Vl.div H hf | with_reducible apply Vl.inv H hf | with_reducible apply Vl.sinvV H hf | with_reducible apply Vl.sinvR H hf | with_reducible apply Rw.tmod H hp | with_reducible apply Rw.mul H | with_reducible apply Rw.neg0 H | with_reducible apply Rw.sub H | with_reducible apply Rw.add H | with_reducible apply Vl.rw hp | decide))
   have v2 : Vl p φ (s_l01Times p (s_l01Inverse 3 p) (s_l01Plus p a (s_l01Plus p b d))).2 ((3 : K)⁻¹ * (φ a.2 + (φ b.2 + φ d.2))) := by
    unfold s_l01Times
    dsimp only
    (repeat' (first | assumption | exact Vl.rw hp (by assumption) | exact Rw.lit _ (by decide) | exact Rw.nlit _ (by decide) | with_reducible apply Vl.rest H hp | with_reducible apply Vl.smod H hp | with_reducible apply Vl.div H hf | with_reducible apply Vl.inv H hf | with_reducible apply Vl.sinvV H hf | with_reducible apply Vl.sinvR H hf | with_reducible apply Rw.tmod H hp | with_reducible apply Rw.mul H | with_reducible apply Rw.neg0 H | with_reducible apply Rw.sub H | with_reducible apply Rw.add H | with_reducible apply Vl.rw hp | decide))
   rw [et]
   refine ⟨?_, num2_pt hf (isPoint_of v1 v2)⟩
   exact congrArg (fun z : P2 => (z, (0 : Int))) (Prod.ext (Vl.inj H w1 (v1.conv (by grind))) (Vl.inj H w2 (v2.conv (by grind))))
 ·rw [if_pos (bne_iff_ne.2 h), if_pos (bne_iff_ne.2 h)]
  exact ⟨rfl, rfl⟩
theorem cmd_median {p : Int} (a b d : P2) : i_MedianOf p a b d = s_MedianOf p a b d ∧ num3 (s_MedianOf p a b d).1 = true := by
 unfold i_MedianOf s_MedianOf
 rw [tricode]
 by_cases h : i_triangle p 0 a b d = 0
 ·obtain ⟨hf, _, ha, hb, hd, hn⟩ := tri_zero h
  obtain ⟨e, hm⟩ := mid_same hf hb hd
  have hne : a ≠ s_l01Middle p b d := by
   intro q
   obtain ⟨K, _, φ, H⟩ := hom_of hf
   have ht := tri_of H h
   obtain ⟨b1, b2⟩ := isPoint_num hb; obtain ⟨d1, d2⟩ := isPoint_num hd
   obtain ⟨X, Y, v1, v2, e1, e2⟩ := vl_middle H hf (Vl.of (φ := φ) b1) (Vl.of (φ := φ) b2) (Vl.of (φ := φ) d1) (Vl.of (φ := φ) d2)
   rw [← q] at v1 v2
   have n2 := H.two_ne hf
   have x1 := v1.2; have x2 := v2.2
   refine ht ?_
   rw [x1, x2]
   have : 2 * ((φ b.1 - X) * (φ d.2 - Y) - (φ b.2 - Y) * (φ d.1 - X)) = 0 := by grind
   grind
  rw [h, e, ← through_eq hf ha hm hne]
  exact ⟨rfl, num3_ln hf (line_of_pts hf ha hm hne)⟩
 ·rw [if_pos (bne_iff_ne.2 h), if_pos (bne_iff_ne.2 h)]
  exact ⟨rfl, rfl⟩
theorem cmd_altitude {p c : Int} (a b d : P2) : i_AltitudeOf p c a b d = s_AltitudeOf p c a b d ∧ num3 (s_AltitudeOf p c a b d).1 = true := by
 unfold i_AltitudeOf s_AltitudeOf
 rw [tricode]
 by_cases h : i_triangle p c a b d = 0
 ·obtain ⟨hf, hc, ha, hb, hd, hn⟩ := tri_zero h
  obtain ⟨K, _, φ, H⟩ := hom_of hf
  obtain ⟨a1, a2⟩ := isPoint_num ha; obtain ⟨b1, b2⟩ := isPoint_num hb; obtain ⟨d1, d2⟩ := isPoint_num hd
  obtain ⟨e, hl⟩ := altitude_same H hf hc (Vl.of (φ := φ) a1) (Vl.of (φ := φ) a2) (Vl.of (φ := φ) b1) (Vl.of (φ := φ) b2) (Vl.of (φ := φ) d1) (Vl.of (φ := φ) d2) (tri_ne (tri_of H h)).1
  rw [h, e]
  exact ⟨rfl, num3_ln hf (hl.line hf)⟩
 ·rw [if_pos (bne_iff_ne.2 h), if_pos (bne_iff_ne.2 h)]
  exact ⟨rfl, rfl⟩
theorem cmd_circle {p c : Int} (a b d : P2) : i_CircleThrough p c a b d = s_CircleThrough p c a b d ∧ num3 (s_CircleThrough p c a b d).1 = true := by
 unfold i_CircleThrough s_CircleThrough i_circleThrough s_l06Through
 rw [tricode]
 by_cases h : i_triangle p c a b d = 0
 ·obtain ⟨hf, hc, ha, hb, hd, hn⟩ := tri_zero h
  have hpt := circum_pt h hc
  have hq := quad_same hf hc hpt ha
  rw [h, circum_eq h hc, hq]
  obtain ⟨x1, x2⟩ := isPoint_num hpt
  refine ⟨rfl, ?_⟩
  show num3 ((s_l04Circumcentre p c a b d).1, (s_l04Circumcentre p c a b d).2, i_quadrance p c (s_l04Circumcentre p c a b d) a) = true
  obtain ⟨K, _, φ, H⟩ := hom_of hf
  obtain ⟨a1, a2⟩ := isPoint_num ha
  have v := vl_quadrance H hf hc (Vl.of (φ := φ) x1) (Vl.of (φ := φ) x2) (Vl.of (φ := φ) a1) (Vl.of (φ := φ) a2)
  exact num3_of (num_in hf x1) (num_in hf x2) (num_in hf v.1)
 ·rw [if_pos (bne_iff_ne.2 h), if_pos (bne_iff_ne.2 h)]
  exact ⟨rfl, rfl⟩
theorem cmd_quadrea {p c : Int} (a b d : P2) : i_QuadreaOf p c a b d = s_QuadreaOf p c a b d ∧ num1 (s_QuadreaOf p c a b d).1 = true := by
 refine ⟨QuadreaOf_same p c a b d, ?_⟩
 unfold s_QuadreaOf
 rw [tricode]
 by_cases h : i_triangle p c a b d = 0
 ·obtain ⟨hf, _⟩ := tri_zero h
  rw [h]
  exact num_in hf (rest_b (i_IsField_ok hf) _)
 ·rw [if_pos (bne_iff_ne.2 h)]
  rfl
theorem spread_alg {K : Type} [Lean.Grind.Field K] {c : Int} (hc : isC c) {t s u1 u2 v1 v2 : K} (ht : t ≠ 0) (hs : s ≠ 0) (hu : prodK c u1 u2 u1 u2 ≠ 0) (hv : prodK c v1 v2 v1 v2 ≠ 0) :
  prodK c (u1 * t) (u2 * t) (v1 * s) (v2 * s) * prodK c (u1 * t) (u2 * t) (v1 * s) (v2 * s) * (prodK c (u1 * t) (u2 * t) (u1 * t) (u2 * t) * prodK c (v1 * s) (v2 * s) (v1 * s) (v2 * s))⁻¹ = prodK c u1 u2 v1 v2 * prodK c u1 u2 v1 v2 * (prodK c u1 u2 u1 u2 * prodK c v1 v2 v1 v2)⁻¹ := by
 have e1 : prodK c (u1 * t) (u2 * t) (v1 * s) (v2 * s) = prodK c u1 u2 v1 v2 * (t * s) := by rcases hc with rfl | rfl | rfl <;> simp only [prodK] <;> grind
 have e2 : prodK c (u1 * t) (u2 * t) (u1 * t) (u2 * t) = prodK c u1 u2 u1 u2 * (t * t) := by rcases hc with rfl | rfl | rfl <;> simp only [prodK] <;> grind
 have e3 : prodK c (v1 * s) (v2 * s) (v1 * s) (v2 * s) = prodK c v1 v2 v1 v2 * (s * s) := by rcases hc with rfl | rfl | rfl <;> simp only [prodK] <;> grind
 rw [e1, e2, e3]
 generalize prodK c u1 u2 v1 v2 = A
 generalize prodK c u1 u2 u1 u2 = B at *
 generalize prodK c v1 v2 v1 v2 = C at *
 have h1 := Lean.Grind.Field.mul_inv_cancel (show B * C ≠ 0 by grind)
 have h2 := Lean.Grind.Field.mul_inv_cancel (show B * (t * t) * (C * (s * s)) ≠ 0 by grind)
 generalize (B * C)⁻¹ = x at *
 generalize (B * (t * t) * (C * (s * s)))⁻¹ = y at *
 have h3 : (t * s) * (t * s) * y = x := by grind
 grind
theorem vl_ispread {p : Int} {K : Type} [Lean.Grind.Field K] {φ : Int → K} (H : Hom p K φ) (hf : i_IsField p = true) {c : Int} (hc : isC c) {l m : P3} {l1 l2 m1 m2 : K} (h1 : Vl p φ l.1 l1) (h2 : Vl p φ l.2.1 l2) (h3 : Vl p φ m.1 m1) (h4 : Vl p φ m.2.1 m2) :
  Vl p φ (i_spread p c l m) (1 - prodK c (-l2) l1 (-m2) m1 * prodK c (-l2) l1 (-m2) m1 * (prodK c (-l2) l1 (-l2) l1 * prodK c (-m2) m1 (-m2) m1)⁻¹) := by
 have hp := i_IsField_ok hf
 have d := vl_product H hf hc (vl_way1 H hf h2) (vl_way2 h1) (vl_way1 H hf h4) (vl_way2 h3)
 have u := vl_product H hf hc (vl_way1 H hf h2) (vl_way2 h1) (vl_way1 H hf h2) (vl_way2 h1)
 have v := vl_product H hf hc (vl_way1 H hf h4) (vl_way2 h3) (vl_way1 H hf h4) (vl_way2 h3)
 have one : Rw φ (1 : Int) 1 1 := ⟨by unfold AB; omega, H.one⟩
 have uv := Rw.mul H (Vl.rw hp u) (Vl.rw hp v) (by decide)
 have dd := Rw.mul H (Vl.rw hp d) (Vl.rw hp d) (by decide)
 exact Vl.rest H hp (Rw.sub H one (Vl.rw hp (Vl.div H hf dd (Vl.rest H hp uv) (by decide))) (by decide))
theorem vl_minus {p : Int} {K : Type} [Lean.Grind.Field K] {φ : Int → K} (H : Hom p K φ) (hf : i_IsField p = true) {a b : P2} {x1 y1 x2 y2 : K} (h1 : Vl p φ a.1 x1) (h2 : Vl p φ a.2 y1) (h3 : Vl p φ b.1 x2) (h4 : Vl p φ b.2 y2) : Vl p φ (s_l01Minus p a b).1 (x1 - x2) ∧ Vl p φ (s_l01Minus p a b).2 (y1 - y2) := ⟨vl_less1 H hf h1 h3, vl_less2 H hf h2 h4⟩
theorem vl_s3At {p : Int} {K : Type} [Lean.Grind.Field K] {φ : Int → K} (H : Hom p K φ) (hf : i_IsField p = true) {c : Int} (hc : isC c) {a b d : P2} {u1 u2 v1 v2 : K} (h1 : Vl p φ (s_l01Minus p b a).1 u1) (h2 : Vl p φ (s_l01Minus p b a).2 u2) (h3 : Vl p φ (s_l01Minus p d a).1 v1) (h4 : Vl p φ (s_l01Minus p d a).2 v2) :
  Vl p φ (s_l03At p c a b d) (1 - prodK c u1 u2 v1 v2 * prodK c u1 u2 v1 v2 * (prodK c u1 u2 u1 u2 * prodK c v1 v2 v1 v2)⁻¹) := by
 have hp := i_IsField_ok hf
 have d' := vl_product H hf hc h1 h2 h3 h4
 have u := vl_product H hf hc h1 h2 h1 h2
 have v := vl_product H hf hc h3 h4 h3 h4
 have one : Rw φ (1 : Int) 1 1 := ⟨by unfold AB; omega, H.one⟩
 have uv := Rw.mul H (Vl.rw hp u) (Vl.rw hp v) (by decide)
 have dd := Rw.mul H (Vl.rw hp d') (Vl.rw hp d') (by decide)
 exact Vl.smod H hp (Rw.sub H one (Rw.mul H (Rw.tmod H hp dd) (Vl.rw hp (Vl.sinvR H hf uv)) (by decide)) (by decide))
theorem cmd_spread {p c : Int} {a b d : P2} (hf : i_IsField p = true) (hc : isC c) (ha : i_isPoint p a = true) (hb : i_isPoint p b = true) (hd : i_isPoint p d = true) : i_SpreadAt p c a b d = s_SpreadAt p c a b d ∧ num1 (s_SpreadAt p c a b d).1 = true := by
 have hz : i_asked p true (i_SpreadAt_c1 c p a b d) = 0 := ask1 hf (by unfold i_SpreadAt_c1; simp [colour_of hc, i_arePoints, ha, hb, hd])
 have hs : s_l03Points p c 3 [a.1, a.2, b.1, b.2, d.1, d.2] = 0 := by
  have hcode : s_l01Code p [a, b, d] = 0 := by rw [pointcode p true]; exact ask1 hf (by simp [i_arePoints, ha, hb, hd])
  unfold s_l03Points
  have hcc : s_l01In c 0 2 = true := by rcases hc with rfl | rfl | rfl <;> rfl
  rw [three_rows, hcode, hcc]
  rfl
 obtain ⟨K, _, φ, H⟩ := hom_of hf
 obtain ⟨a1, a2⟩ := isPoint_num ha; obtain ⟨b1, b2⟩ := isPoint_num hb; obtain ⟨d1, d2⟩ := isPoint_num hd
 have A1 := Vl.of (φ := φ) a1; have A2 := Vl.of (φ := φ) a2; have B1 := Vl.of (φ := φ) b1; have B2 := Vl.of (φ := φ) b2; have D1 := Vl.of (φ := φ) d1; have D2 := Vl.of (φ := φ) d2
 have qb := vl_quadrance H hf hc A1 A2 B1 B2
 have qd := vl_quadrance H hf hc A1 A2 D1 D2
 obtain ⟨u1, u2⟩ := vl_minus H hf B1 B2 A1 A2
 obtain ⟨v1, v2⟩ := vl_minus H hf D1 D2 A1 A2
 have vs := vl_s3At H hf hc u1 u2 v1 v2
 have null : ∀ {x : P2} {t X Y : K}, Vl p φ x.1 X → Vl p φ x.2 Y → t ≠ 0 → Vl p φ (i_lineThrough p a x).1 ((Y - φ a.2) * t) → Vl p φ (i_lineThrough p a x).2.1 ((φ a.1 - X) * t) → (i_isNull p c (i_lineThrough p a x) = true ↔ i_quadrance p c a x = 0) := by
  intro x t X Y hx1 hx2 ht h1 h2
  rw [null_val H hf hc h1 h2, Vl.zero_iff H (vl_quadrance H hf hc A1 A2 hx1 hx2)]
  have e : prodK c (-((φ a.1 - X) * t)) ((Y - φ a.2) * t) (-((φ a.1 - X) * t)) ((Y - φ a.2) * t) = prodK c (φ a.1 - X) (φ a.2 - Y) (φ a.1 - X) (φ a.2 - Y) * (t * t) := by rcases hc with rfl | rfl | rfl <;> simp only [prodK] <;> grind
  rw [e]
  constructor
  ·intro q; grind
  ·intro q; rw [q]; grind
 have zero : ∀ {x : P2}, a = x → i_quadrance p c a x = 0 := by
  rintro x rfl
  exact (Vl.zero_iff H (vl_quadrance H hf hc A1 A2 A1 A2)).2 (by rcases hc with rfl | rfl | rfl <;> simp only [prodK] <;> grind)
 unfold i_SpreadAt s_SpreadAt
 rw [hz, hs, quad_same hf hc ha hb, quad_same hf hc ha hd]
 have fin : ∀ r : Int × Bool, i_spreadAt p c a b d = r → r.2 = false → (if (!(i_spreadAt p c a b d).2) = true then ((0 : Int), (5 : Int)) else ((i_spreadAt p c a b d).1, 0)) = (0, 5) := by
  intro r h1 h2
  rw [h1, h2]
  rfl
 have bad : i_quadrance p c a b = 0 ∨ i_quadrance p c a d = 0 → (i_spreadAt p c a b d).2 = false := by
  intro hq
  unfold i_spreadAt
  by_cases e1 : a = b
  ·rw [if_pos (by simpa using e1)]
  ·by_cases e2 : a = d
   ·rw [if_neg (by simpa using e1), if_pos (by simpa using e2)]
   ·obtain ⟨t, ht, l0, l1, _, _⟩ := ln_lineThrough H hf A1 A2 B1 B2 (ne_of H A1 A2 B1 B2 e1)
    obtain ⟨s, hs', m0, m1, _, _⟩ := ln_lineThrough H hf A1 A2 D1 D2 (ne_of H A1 A2 D1 D2 e2)
    rw [if_neg (by simpa using e1), if_neg (by simpa using e2)]
    by_cases n1 : i_isNull p c (i_lineThrough p a b) = true
    ·rw [if_pos n1]
    ·rw [if_neg n1]
     rcases hq with q | q
     ·exact absurd ((null B1 B2 ht l0 l1).2 q) n1
     ·rw [if_pos ((null D1 D2 hs' m0 m1).2 q)]
 by_cases h1 : i_quadrance p c a b = 0
 ·rw [if_neg (by decide), fin _ rfl (bad (.inl h1)), if_pos (by decide), if_pos (by rw [h1]; rfl)]
  exact ⟨rfl, rfl⟩
 ·by_cases h2 : i_quadrance p c a d = 0
  ·rw [if_neg (by decide), fin _ rfl (bad (.inr h2)), if_pos (by decide), if_neg (by simpa using h1), if_pos (by rw [h2]; rfl)]
   exact ⟨rfl, rfl⟩
  ·have e1 : a ≠ b := fun e => h1 (zero e)
   have e2 : a ≠ d := fun e => h2 (zero e)
   obtain ⟨t, ht, l0, l1, _, _⟩ := ln_lineThrough H hf A1 A2 B1 B2 (ne_of H A1 A2 B1 B2 e1)
   obtain ⟨s, hs', m0, m1, _, _⟩ := ln_lineThrough H hf A1 A2 D1 D2 (ne_of H A1 A2 D1 D2 e2)
   have n1 : ¬ i_isNull p c (i_lineThrough p a b) = true := fun q => h1 ((null B1 B2 ht l0 l1).1 q)
   have n2 : ¬ i_isNull p c (i_lineThrough p a d) = true := fun q => h2 ((null D1 D2 hs' m0 m1).1 q)
   have hsp : i_spreadAt p c a b d = (i_spread p c (i_lineThrough p a b) (i_lineThrough p a d), true) := by
    unfold i_spreadAt
    rw [if_neg (by simpa using e1), if_neg (by simpa using e2), if_neg n1, if_neg n2]
   have w := vl_ispread H hf hc l0 l1 m0 m1
   have hu : prodK c (φ b.1 - φ a.1) (φ b.2 - φ a.2) (φ b.1 - φ a.1) (φ b.2 - φ a.2) ≠ 0 := fun q => h1 ((Vl.zero_iff H qb).2 (by rw [prodK_neg hc]; exact q))
   have hv : prodK c (φ d.1 - φ a.1) (φ d.2 - φ a.2) (φ d.1 - φ a.1) (φ d.2 - φ a.2) ≠ 0 := fun q => h2 ((Vl.zero_iff H qd).2 (by rw [prodK_neg hc]; exact q))
   have al := spread_alg hc ht hs' hu hv
   rw [show -((φ a.1 - φ b.1) * t) = (φ b.1 - φ a.1) * t by grind, show -((φ a.1 - φ d.1) * s) = (φ d.1 - φ a.1) * s by grind, al] at w
   have e : i_spread p c (i_lineThrough p a b) (i_lineThrough p a d) = s_l03At p c a b d := Vl.inj H w vs
   rw [hsp, e]
   refine ⟨by simp [h1, h2], ?_⟩
   simp [h1, h2]
   exact num_in hf vs.1
theorem flat2_num : ∀ {L : List P2}, (∀ a ∈ L, num2 a = true) → (flat2 L).all num1 = true
 | [], _ => rfl
 | a :: L, h => by
  have h1 := h a (by simp)
  unfold num2 at h1
  rw [Bool.and_eq_true] at h1
  show ([a.1, a.2] ++ flat2 L).all num1 = true
  rw [List.all_append, flat2_num fun x hx => h x (by simp [hx])]
  simp [h1.1, h1.2]
theorem flat3_num : ∀ {L : List P3}, (∀ a ∈ L, num3 a = true) → (flat3 L).all num1 = true
 | [], _ => rfl
 | a :: L, h => by
  have h1 := h a (by simp)
  unfold num3 at h1
  rw [Bool.and_eq_true, Bool.and_eq_true] at h1
  show ([a.1, a.2.1, a.2.2] ++ flat3 L).all num1 = true
  rw [List.all_append, flat3_num fun x hx => h x (by simp [hx])]
  simp [h1.1, h1.2.1, h1.2.2]
theorem ptsB_of {L : List P2} (hn : L.length ≤ 3000) (h : ∀ a ∈ L, num2 a = true) : ptsB L.length (flat2 L) = true := by
 unfold ptsB
 rw [lenB2 (Nat.le_trans hn (by decide)), flat2_num h, Nat.ble_eq_true_of_le hn]
 rfl
theorem lnsB_of {L : List P3} (hn : L.length ≤ 3000) (h : ∀ a ∈ L, num3 a = true) : lnsB L.length (flat3 L) = true := by
 unfold lnsB
 rw [lenB3 (Nat.le_trans hn (by decide)), flat3_num h, Nat.ble_eq_true_of_le hn]
 rfl
theorem pt_of_mem {p : Int} {a : P2} (h : a ∈ pts p) : i_isPoint p a = true := by
 obtain ⟨h1, h2⟩ := mem_pts.1 h
 unfold i_isPoint
 simp [i_areNumbers, isNumber_iff.2 h1, isNumber_iff.2 h2]
theorem at_same {p c : Int} {a : P2} (hf : i_IsField p = true) (hc : isC c) (ha : i_isPoint p a = true) (q : Int) : i_pointsAt p c a q = s_l02At p c a q ∧ ptsB (s_l02At p c a q).1 (s_l02At p c a q).2 = true := by
 have hh : (pts p).filter (fun zz => i_quadrance p c a zz == q) = (pts p).filter (fun zz => s_l02Quadrance p c a zz == q) := by
  apply filter_same
  intro z hz
  rw [quad_same hf hc ha (pt_of_mem hz)]
 unfold i_pointsAt i_pointsWith s_l02At i_pointsAt_c1
 dsimp only
 rw [hh]
 exact ⟨rfl, ptsB_of (Nat.le_trans (List.length_filter_le _ _) (Nat.le_trans (pts_len (Pr_prB (i_IsField_ok hf))) (by decide))) fun x hx => num2_pt hf (pt_of_mem (List.mem_filter.1 hx).1)⟩
theorem one_rows (a : P2) : rows2 1 [a.1, a.2] = [a] := rfl
theorem code1 {p c : Int} {a : P2} (hf : i_IsField p = true) (hc : isC c) (ha : i_isPoint p a = true) : s_l02Code p c 1 [a.1, a.2] = 0 := by
 rw [colourcode p c true, one_rows, colour_of hc, if_pos rfl]
 exact ask1 hf (by simp [i_arePoints, ha])
theorem cmd_at {p c : Int} {a : P2} (hf : i_IsField p = true) (hc : isC c) (ha : i_isPoint p a = true) (q : Int) : i_PointsAt p c a q = s_PointsAt p c a q ∧ ptsB (s_PointsAt p c a q).1.1 (s_PointsAt p c a q).1.2 = true := by
 obtain ⟨e, hb⟩ := at_same hf hc ha q
 have hn : s_l01Numbers p [q] = i_asked p true (i_areNumbers p [q]) := numbers_eq p true [q]
 have e1 : i_PointsAt_c1 c p a q = i_areNumbers p [q] := by unfold i_PointsAt_c1; simp [colour_of hc, ha, i_areNumbers]
 unfold i_PointsAt s_PointsAt
 rw [code1 hf hc ha, hn, e1]
 cases h : i_areNumbers p [q]
 ·rw [ask2 hf rfl]
  exact ⟨rfl, rfl⟩
 ·rw [ask1 hf rfl, e]
  exact ⟨rfl, hb⟩
theorem normal_up {p : Int} (hf : i_IsField p = true) {a : P2} (ha : i_isPoint p a = true) : s_l01Normal p 0 1 (wI (0 - a.2)) = (0, 1, i_rest p (wrap64 (0 - a.2))) := by
 obtain ⟨K, _, φ, H⟩ := hom_of hf
 have hp := i_IsField_ok hf
 obtain ⟨a1, a2⟩ := isPoint_num ha
 have A2 := Vl.of (φ := φ) a2
 have one := Vl.one H hf
 have m1 : s_l01Mod 1 p = 1 := Vl.inj H (Vl.smod H hp (Vl.rw hp one)) one
 have m0 : s_l01Mod 0 p = 0 := by unfold s_l01Mod; exact Int.zero_emod p
 have iv : Vl p φ (s_l01Inverse 1 p) (1 : K)⁻¹ := Vl.sinvV H hf one
 have h11 : (1 : K)⁻¹ = 1 := by have := Lean.Grind.Field.mul_inv_cancel H.one_ne; grind
 have z0 := Vl.zero H hp (K := K) (φ := φ)
 unfold s_l01Normal
 rw [m0, m1, if_pos (by decide), wI_eq]
 have w1 : Vl p φ (s_l01Mod (wrap64 (0 * (s_l01Inverse 1 p))) p) ((0 : K) * (1 : K)⁻¹) := by (repeat' (first | assumption | exact Vl.rw hp (by assumption) | exact Rw.lit _ (by decide) | exact Rw.nlit _ (by decide) | with_reducible apply Vl.rest H hp | with_reducible apply Vl.smod H hp | with_reducible apply Vl.div H hf | with_reducible apply Vl.inv H hf | with_reducible apply Vl.sinvV H hf | with_reducible apply Vl.sinvR H hf | with_reducible apply Rw.tmod H hp | with_reducible apply Rw.mul H | with_reducible apply Rw.neg0 H | with_reducible apply Rw.sub H | with_reducible apply Rw.add H | with_reducible apply Vl.rw hp | decide))
 have w2 : Vl p φ (s_l01Mod (wrap64 (1 * (s_l01Inverse 1 p))) p) ((1 : K) * (1 : K)⁻¹) := by (repeat' (first | assumption | exact Vl.rw hp (by assumption) | exact Rw.lit _ (by decide) | exact Rw.nlit _ (by decide) | with_reducible apply Vl.rest H hp | with_reducible apply Vl.smod H hp | with_reducible apply Vl.div H hf | with_reducible apply Vl.inv H hf | with_reducible apply Vl.sinvV H hf | with_reducible apply Vl.sinvR H hf | with_reducible apply Rw.tmod H hp | with_reducible apply Rw.mul H | with_reducible apply Rw.neg0 H | with_reducible apply Rw.sub H | with_reducible apply Rw.add H | with_reducible apply Vl.rw hp | decide))
 have n2 : Rw φ (wrap64 (0 - a.2)) (-φ a.2) 30 := Rw.neg0 H (Vl.rw hp A2) (by decide)
 have w3 : Vl p φ (s_l01Mod (wrap64 ((wrap64 (0 - a.2)) * (s_l01Inverse 1 p))) p) (-φ a.2 * (1 : K)⁻¹) := by (repeat' (first | assumption | exact Vl.rw hp (by assumption) | exact Rw.lit _ (by decide) | exact Rw.nlit _ (by decide) | with_reducible apply Vl.rest H hp | with_reducible apply Vl.smod H hp | with_reducible apply Vl.div H hf | with_reducible apply Vl.inv H hf | with_reducible apply Vl.sinvV H hf | with_reducible apply Vl.sinvR H hf | with_reducible apply Rw.tmod H hp | with_reducible apply Rw.mul H | with_reducible apply Rw.neg0 H | with_reducible apply Rw.sub H | with_reducible apply Rw.add H | with_reducible apply Vl.rw hp | decide))
 have w4 : Vl p φ (i_rest p (wrap64 (0 - a.2))) (-φ a.2) := by (repeat' (first | assumption | exact Vl.rw hp (by assumption) | exact Rw.lit _ (by decide) | exact Rw.nlit _ (by decide) | with_reducible apply Vl.rest H hp | with_reducible apply Vl.smod H hp | with_reducible apply Vl.div H hf | with_reducible apply Vl.inv H hf | with_reducible apply Vl.sinvV H hf | with_reducible apply Vl.sinvR H hf | with_reducible apply Rw.tmod H hp | with_reducible apply Rw.mul H | with_reducible apply Rw.neg0 H | with_reducible apply Rw.sub H | with_reducible apply Rw.add H | with_reducible apply Vl.rw hp | decide))
 rw [Vl.inj H w1 (z0.conv (by grind)), Vl.inj H w2 (one.conv (by grind)), Vl.inj H w3 (w4.conv (by grind))]
theorem normal_one {p : Int} (hf : i_IsField p = true) {a : P2} (ha : i_isPoint p a = true) {k : Nat} (hk : k < p.toNat) : s_l01Normal p 1 (k : Int) (wI (0 - (wI (a.1 + (wI ((k : Int) * a.2)))))) = (1, (k : Int), i_rest p (wrap64 (wrap64 (0 - a.1) - wrap64 ((k : Int) * a.2)))) := by
 obtain ⟨K, _, φ, H⟩ := hom_of hf
 have hp := i_IsField_ok hf
 obtain ⟨a1, a2⟩ := isPoint_num ha
 have A1 := Vl.of (φ := φ) a1; have A2 := Vl.of (φ := φ) a2
 have B := Vl.of (φ := φ) (p := p) (x := (k : Int)) (by omega)
 have one := Vl.one H hf
 have m1 : s_l01Mod 1 p = 1 := Vl.inj H (Vl.smod H hp (Vl.rw hp one)) one
 have iv : Vl p φ (s_l01Inverse 1 p) (1 : K)⁻¹ := Vl.sinvV H hf one
 have h11 : (1 : K)⁻¹ = 1 := by have := Lean.Grind.Field.mul_inv_cancel H.one_ne; grind
 unfold s_l01Normal
 rw [m1, if_neg (by decide)]
 simp only [wI_eq]
 have w1 : Vl p φ (s_l01Mod (wrap64 (1 * (s_l01Inverse 1 p))) p) ((1 : K) * (1 : K)⁻¹) := by (repeat' (first | assumption | exact Vl.rw hp (by assumption) | exact Rw.lit _ (by decide) | exact Rw.nlit _ (by decide) | with_reducible apply Vl.rest H hp | with_reducible apply Vl.smod H hp | with_reducible apply Vl.div H hf | with_reducible apply Vl.inv H hf | with_reducible apply Vl.sinvV H hf | with_reducible apply Vl.sinvR H hf | with_reducible apply Rw.tmod H hp | with_reducible apply Rw.mul H | with_reducible apply Rw.neg0 H | with_reducible apply Rw.sub H | with_reducible apply Rw.add H | with_reducible apply Vl.rw hp | decide))
 have w2 : Vl p φ (s_l01Mod (wrap64 ((k : Int) * (s_l01Inverse 1 p))) p) (φ (k : Int) * (1 : K)⁻¹) := by (repeat' (first | assumption | exact Vl.rw hp (by assumption) | exact Rw.lit _ (by decide) | exact Rw.nlit _ (by decide) | with_reducible apply Vl.rest H hp | with_reducible apply Vl.smod H hp | with_reducible apply Vl.div H hf | with_reducible apply Vl.inv H hf | with_reducible apply Vl.sinvV H hf | with_reducible apply Vl.sinvR H hf | with_reducible apply Rw.tmod H hp | with_reducible apply Rw.mul H | with_reducible apply Rw.neg0 H | with_reducible apply Rw.sub H | with_reducible apply Rw.add H | with_reducible apply Vl.rw hp | decide))
 have n3 : Rw φ (wrap64 (0 - (wrap64 (a.1 + (wrap64 ((k : Int) * a.2)))))) (-(φ a.1 + φ (k : Int) * φ a.2)) (30 + 30 * 30) := Rw.neg0 H (Rw.add H (Vl.rw hp A1) (Rw.mul H (Vl.rw hp B) (Vl.rw hp A2) (by decide)) (by decide)) (by decide)
 have w3 : Vl p φ (s_l01Mod (wrap64 ((wrap64 (0 - (wrap64 (a.1 + (wrap64 ((k : Int) * a.2)))))) * (s_l01Inverse 1 p))) p) (-(φ a.1 + φ (k : Int) * φ a.2) * (1 : K)⁻¹) := Vl.smod H hp (Rw.mul H n3 (Vl.rw hp iv) (by decide))
 have n4 : Rw φ (wrap64 (0 - a.1)) (-φ a.1) 30 := Rw.neg0 H (Vl.rw hp A1) (by decide)
 have w4 : Vl p φ (i_rest p (wrap64 (wrap64 (0 - a.1) - wrap64 ((k : Int) * a.2)))) (-φ a.1 - φ (k : Int) * φ a.2) := Vl.rest H hp (Rw.sub H n4 (Rw.mul H (Vl.rw hp B) (Vl.rw hp A2) (by decide)) (by decide))
 rw [Vl.inj H w1 (one.conv (by grind)), Vl.inj H w2 (B.conv (by grind)), Vl.inj H w3 (w4.conv (by grind))]
theorem cmd_nulls {p c : Int} {a : P2} (hf : i_IsField p = true) (hc : isC c) (ha : i_isPoint p a = true) : i_NullLines p c a = s_NullLines p c a ∧ lnsB (s_NullLines p c a).1.1 (s_NullLines p c a).1.2 = true := by
 have hz : i_asked p true (i_NullLines_c1 c p a) = 0 := ask1 hf (by unfold i_NullLines_c1; simp [colour_of hc, ha])
 have e : nullsL p c a = (linesT p a).filter fun zz => i_NullLines_c2 zz p c := by
  unfold nullsL linesT
  rw [normal_up hf ha]
  have em : ((List.range p.toNat).map fun k : Nat => s_l01Normal p 1 (k : Int) (wI (0 - (wI (a.1 + (wI ((k : Int) * a.2))))))) = (List.range p.toNat).map fun b : Nat => ((1 : Int), (b : Int), i_rest p (wrap64 (wrap64 (0 - a.1) - wrap64 ((b : Int) * a.2)))) := List.map_congr_left fun k hk => normal_one hf ha (List.mem_range.1 hk)
  rw [em]
  rfl
 have hl : ∀ m ∈ nullsL p c a, num3 m = true := by
  intro m hm
  rw [e] at hm
  have hm := (List.mem_filter.1 hm).1
  have hp := i_IsField_ok hf
  rcases mem_linesT.1 hm with rfl | ⟨b, hb, rfl⟩
  ·exact num3_of rfl rfl (num_in hf (rest_b hp _))
  ·exact num3_of rfl (num_in hf hb) (num_in hf (rest_b hp _))
 have hn : (nullsL p c a).length ≤ 3000 := by
  rw [e]
  exact Nat.le_trans (List.length_filter_le _ _) (Nat.le_trans (linesT_len (Pr_prB (i_IsField_ok hf)) a) (by decide))
 unfold i_NullLines s_NullLines i_linesWith
 rw [hz, code1 hf hc ha, ← e]
 exact ⟨rfl, lnsB_of hn hl⟩
theorem cmd_three {p : Int} (a b d : P2) : i_ThreeEulerLines p a b d = s_ThreeEulerLines p a b d ∧ lnsB (s_ThreeEulerLines p a b d).1.1 (s_ThreeEulerLines p a b d).1.2 = true := by
 refine ⟨ThreeEulerLines_same p a b d, ?_⟩
 unfold s_ThreeEulerLines
 rw [tricode]
 by_cases h : i_triangle p 0 a b d = 0
 ·obtain ⟨hf, _⟩ := tri_zero h
  have line : ∀ c, isC c → ¬ (s_l04Orthocentre p c a b d == s_l04Circumcentre p c a b d) = true → num3 (s_l01Through p (s_l04Orthocentre p c a b d) (s_l04Circumcentre p c a b d)) = true := by
   intro c hc hne
   have hne : s_l04Orthocentre p c a b d ≠ s_l04Circumcentre p c a b d := by simpa using hne
   rw [← through_eq hf (ortho_pt h hc) (circum_pt h hc) hne]
   exact num3_ln hf (line_of_pts hf (ortho_pt h hc) (circum_pt h hc) hne)
  rw [h, if_neg (by decide)]
  split
  ·rfl
  ·split
   ·rfl
   ·split
    ·rfl
    ·rename_i n0 n1 n2
     exact lnsB_of (L := [s_l01Through p (s_l04Orthocentre p 0 a b d) (s_l04Circumcentre p 0 a b d), s_l01Through p (s_l04Orthocentre p 1 a b d) (s_l04Circumcentre p 1 a b d), s_l01Through p (s_l04Orthocentre p 2 a b d) (s_l04Circumcentre p 2 a b d)]) (by simp) fun x hx => by
      simp only [List.mem_cons, List.not_mem_nil, or_false] at hx
      rcases hx with rfl | rfl | rfl
      ·exact line 0 isC0 n0
      ·exact line 1 isC1 n1
      ·exact line 2 isC2 n2
 ·rw [if_pos (bne_iff_ne.2 h)]
  rfl
theorem cmd_omega {p : Int} (a b d : P2) : i_OmegaPoints p a b d = s_OmegaPoints p a b d ∧ ptsB (s_OmegaPoints p a b d).1.1 (s_OmegaPoints p a b d).1.2 = true := by
 refine ⟨OmegaPoints_same p a b d, ?_⟩
 unfold s_OmegaPoints s_l10Omega
 rw [tricode]
 by_cases h : i_triangle p 0 a b d = 0
 ·obtain ⟨hf, _⟩ := tri_zero h
  rw [h, if_neg (by decide)]
  exact ptsB_of (L := [s_l04Orthocentre p 0 a b d, s_l04Orthocentre p 1 a b d, s_l04Orthocentre p 2 a b d]) (by simp) fun x hx => by
   simp only [List.mem_cons, List.not_mem_nil, or_false] at hx
   rcases hx with rfl | rfl | rfl
   ·exact num2_pt hf (ortho_pt h isC0)
   ·exact num2_pt hf (ortho_pt h isC1)
   ·exact num2_pt hf (ortho_pt h isC2)
 ·rw [if_pos (bne_iff_ne.2 h)]
  rfl
theorem cmd_rights {p : Int} (a b d : P2) : i_RightColours p a b d = s_RightColours p a b d ∧ numB (s_RightColours p a b d).1.1 (s_RightColours p a b d).1.2 = true := by
 refine ⟨RightColours_same p a b d, ?_⟩
 unfold s_RightColours
 repeat' split
 all_goals rfl
theorem cmd_orthic {p c : Int} (a b d : P2) : i_OrthicPoints p c a b d = s_OrthicPoints p c a b d ∧ ptsB (s_OrthicPoints p c a b d).1.1 (s_OrthicPoints p c a b d).1.2 = true := by
 refine ⟨OrthicPoints_same p c a b d, ?_⟩
 rw [← OrthicPoints_same]
 unfold i_OrthicPoints
 by_cases h : i_triangle p c a b d = 0
 ·obtain ⟨hf, _⟩ := tri_zero h
  rw [h, if_neg (by decide)]
  repeat' split
  all_goals first
   | rfl
   | exact ptsB_of (L := [i_foot p c a (i_lineThrough p b d), i_foot p c b (i_lineThrough p a d), i_foot p c d (i_lineThrough p a b)]) (by simp) (fun x hx => by
     simp only [List.mem_cons, List.not_mem_nil, or_false] at hx
     rcases hx with rfl | rfl | rfl <;> exact foot_num hf)
 ·rw [if_pos (bne_iff_ne.2 h)]
  rfl
theorem cmd_euler {p c : Int} (a b d : P2) : i_EulerLineOf p c a b d = s_EulerLineOf p c a b d ∧ num3 (s_EulerLineOf p c a b d).1 = true := by
 refine ⟨EulerLineOf_same p c a b d, ?_⟩
 unfold s_EulerLineOf
 rw [tricode]
 by_cases h : i_triangle p c a b d = 0
 ·obtain ⟨hf, hc, _⟩ := tri_zero h
  rw [h, if_neg (by decide)]
  split
  ·rfl
  ·rename_i hne
   have hne : s_l04Orthocentre p c a b d ≠ s_l04Circumcentre p c a b d := by simpa using hne
   rw [← through_eq hf (ortho_pt h hc) (circum_pt h hc) hne]
   exact num3_ln hf (line_of_pts hf (ortho_pt h hc) (circum_pt h hc) hne)
 ·rw [if_pos (bne_iff_ne.2 h)]
  rfl

end Go.Proofs.YtcdpfpfbilfpoaaGreatDoor
