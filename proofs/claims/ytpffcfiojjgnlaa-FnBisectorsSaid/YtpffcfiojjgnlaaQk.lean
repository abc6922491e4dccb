import Derived.Test.YtpffcfiojjgnlaaQj
set_option linter.unusedSimpArgs false
set_option linter.unusedVariables false
namespace Go.Proofs.Ytpffcfiojjgnlaa
open Go.RowKit
/-! The codes of triangles. -/
theorem tricode (p c : Int) (a b d : P2) : s_l04Code p c a b d = i_triangle p c a b d := by
  unfold s_l04Code i_triangle i_triangle_c1
  rw [colourcode p c true, show i_arePoints p (rows2 3 [a.1, a.2, b.1, b.2, d.1, d.2]) = i_arePoints p [a, b, d] from rfl]
  by_cases h : i_asked p true (if i_isColour c = true then i_arePoints p [a, b, d] else false) = 0
  · obtain ⟨hf, hb⟩ := asked_zero h
    have hb : i_arePoints p [a, b, d] = true := by cases h1 : i_isColour c <;> simp [h1] at hb; exact hb
    simp only [i_arePoints, List.all_cons, List.all_nil, Bool.and_true, Bool.and_eq_true] at hb
    rw [area_same p a b d hf hb.1 hb.2.1 hb.2.2]
  · generalize i_asked p true (if i_isColour c = true then i_arePoints p [a, b, d] else false) = X at h ⊢
    simp [h]
/-- What the code 0 of a triangle says. -/
theorem tri_zero {p c : Int} {a b d : P2} (h : i_triangle p c a b d = 0) : i_IsField p = true ∧ isC c ∧ i_isPoint p a = true ∧ i_isPoint p b = true ∧ i_isPoint p d = true ∧ i_area p a b d ≠ 0 := by
  unfold i_triangle i_triangle_c1 at h
  by_cases e : i_asked p true (if i_isColour c = true then i_arePoints p [a, b, d] else false) = 0
  · obtain ⟨hf, hb⟩ := asked_zero e
    rw [if_pos (by simpa using e)] at h
    cases hc : i_isColour c
    · simp [hc] at hb
    · simp [hc, i_arePoints] at hb
      refine ⟨hf, isC_of hc, hb.1, hb.2.1, hb.2.2, ?_⟩
      intro ha
      simp [ha] at h
  · rw [if_neg (by simpa using e)] at h
    exact absurd h e
theorem tri_of {p : Int} {K : Type} [Lean.Grind.Field K] {φ : Int → K} (H : Hom p K φ) {c : Int} {a b d : P2} (h : i_triangle p c a b d = 0) : Tri (φ a.1) (φ a.2) (φ b.1) (φ b.2) (φ d.1) (φ d.2) := by
  obtain ⟨hf, hc, ha, hb, hd, hn⟩ := tri_zero h
  have v := vl_area H hf (Vl.of (φ := φ) (isPoint_num ha).1) (Vl.of (φ := φ) (isPoint_num ha).2) (Vl.of (φ := φ) (isPoint_num hb).1) (Vl.of (φ := φ) (isPoint_num hb).2) (Vl.of (φ := φ) (isPoint_num hd).1) (Vl.of (φ := φ) (isPoint_num hd).2)
  exact fun e => hn ((Vl.zero_iff H v).2 e)
theorem ortho_eq {p c0 : Int} {a b d : P2} (h : i_triangle p c0 a b d = 0) {c : Int} (hc : isC c) : i_orthocentre p c a b d = s_l04Orthocentre p c a b d := by
  obtain ⟨hf, _, ha, hb, hd, hn⟩ := tri_zero h
  obtain ⟨K, inst, φ, H⟩ := hom_of hf
  exact orthocentre_same H hf hc (Vl.of (φ := φ) (isPoint_num ha).1) (Vl.of (φ := φ) (isPoint_num ha).2) (Vl.of (φ := φ) (isPoint_num hb).1) (Vl.of (φ := φ) (isPoint_num hb).2) (Vl.of (φ := φ) (isPoint_num hd).1) (Vl.of (φ := φ) (isPoint_num hd).2) (tri_of H h)
theorem circum_eq {p c0 : Int} {a b d : P2} (h : i_triangle p c0 a b d = 0) {c : Int} (hc : isC c) : i_circumcentre p c a b d = s_l04Circumcentre p c a b d := by
  obtain ⟨hf, _, ha, hb, hd, hn⟩ := tri_zero h
  obtain ⟨K, inst, φ, H⟩ := hom_of hf
  exact (circumcentre_same H hf hc (Vl.of (φ := φ) (isPoint_num ha).1) (Vl.of (φ := φ) (isPoint_num ha).2) (Vl.of (φ := φ) (isPoint_num hb).1) (Vl.of (φ := φ) (isPoint_num hb).2) (Vl.of (φ := φ) (isPoint_num hd).1) (Vl.of (φ := φ) (isPoint_num hd).2) (tri_of H h)).1
theorem isPoint_of {p : Int} {a : P2} {K : Type} {φ : Int → K} {X Y : K} (h1 : Vl p φ a.1 X) (h2 : Vl p φ a.2 Y) : i_isPoint p a = true := by
  have h3 := h1.1; have h4 := h2.1
  simp [i_isPoint, i_areNumbers, i_isNumber]
  omega
theorem ortho_pt {p c0 : Int} {a b d : P2} (h : i_triangle p c0 a b d = 0) {c : Int} (hc : isC c) : i_isPoint p (s_l04Orthocentre p c a b d) = true := by
  obtain ⟨hf, _, ha, hb, hd, hn⟩ := tri_zero h
  obtain ⟨K, inst, φ, H⟩ := hom_of hf
  obtain ⟨X, Y, v1, v2, _⟩ := vl_orthocentre H hf hc (Vl.of (φ := φ) (isPoint_num ha).1) (Vl.of (φ := φ) (isPoint_num ha).2) (Vl.of (φ := φ) (isPoint_num hb).1) (Vl.of (φ := φ) (isPoint_num hb).2) (Vl.of (φ := φ) (isPoint_num hd).1) (Vl.of (φ := φ) (isPoint_num hd).2) (tri_of H h)
  exact isPoint_of v1 v2
theorem circum_pt {p c0 : Int} {a b d : P2} (h : i_triangle p c0 a b d = 0) {c : Int} (hc : isC c) : i_isPoint p (s_l04Circumcentre p c a b d) = true := by
  obtain ⟨hf, _, ha, hb, hd, hn⟩ := tri_zero h
  obtain ⟨K, inst, φ, H⟩ := hom_of hf
  obtain ⟨X, Y, v1, v2, _⟩ := (circumcentre_same H hf hc (Vl.of (φ := φ) (isPoint_num ha).1) (Vl.of (φ := φ) (isPoint_num ha).2) (Vl.of (φ := φ) (isPoint_num hb).1) (Vl.of (φ := φ) (isPoint_num hb).2) (Vl.of (φ := φ) (isPoint_num hd).1) (Vl.of (φ := φ) (isPoint_num hd).2) (tri_of H h)).2
  exact isPoint_of v1 v2
theorem through_eq {p : Int} (hf : i_IsField p = true) {a b : P2} (ha : i_isPoint p a = true) (hb : i_isPoint p b = true) (h : a ≠ b) : i_lineThrough p a b = s_l01Through p a b := by
  obtain ⟨K, inst, φ, H⟩ := hom_of hf
  have a1 := Vl.of (φ := φ) (isPoint_num ha).1; have a2 := Vl.of (φ := φ) (isPoint_num ha).2
  have b1 := Vl.of (φ := φ) (isPoint_num hb).1; have b2 := Vl.of (φ := φ) (isPoint_num hb).2
  have hn := ne_of H a1 a2 b1 b2 h
  exact Ln.inj H (ln_lineThrough H hf a1 a2 b1 b2 hn) (ln_sThrough H hf a1 a2 b1 b2 hn)

end Go.Proofs.Ytpffcfiojjgnlaa
