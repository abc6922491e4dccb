import Derived.Test.YtpopgdmnajngjaaQk
import Derived.Test.YtpopgdmnajngjaaFf
set_option linter.unusedSimpArgs false
set_option linter.unusedVariables false
namespace Go.Proofs.Ytpopgdmnajngjaa
open Go.RowKit
theorem foot_eq {p : Int} (hf : i_IsField p = true) {k : Int} (hk : isC k) {a : P2} {l : P3} (ha : i_isPoint p a = true) (hl : i_isLine p l = true) : i_foot p k a l = (s_l02Foot p k a l).1 ∧ (s_l02Foot p k a l).2 = !(i_isNull p k l) := by
  obtain ⟨K, inst, φ, H⟩ := hom_of hf
  have a1 := Vl.of (φ := φ) (isPoint_num ha).1; have a2 := Vl.of (φ := φ) (isPoint_num ha).2
  obtain ⟨⟨n0, n1, n2⟩, hn⟩ := isLine_num hl
  have l0 := Vl.of (φ := φ) n0; have l1 := Vl.of (φ := φ) n1
  have hne : φ l.1 ≠ 0 ∨ φ l.2.1 ≠ 0 := by
    have h1 := H.one_ne
    rcases hn with e | ⟨_, e⟩
    · rw [e, H.one]; exact Or.inl h1
    · rw [e, H.one]; exact Or.inr h1
  have pi := ln_perpendicular H hf hk l0 l1 a1 a2 hne
  have ps := ln_through H hf hk (d := s_l02Direction p l) (vl_way1 H hf l1) (vl_way2 l0) a1 a2 (by grind)
  have e := Ln.inj H pi ps
  have hln := Ln.of H hl
  refine ⟨?_, ?_⟩
  · unfold i_foot s_l02Foot
    rw [e]
    obtain ⟨s, hs, p0, p1, p2, pk⟩ := hln
    obtain ⟨t, ht, q0, q1, q2, qk⟩ := ps
    exact meet_same H hf p0 p1 p2 q0 q1 q2
  · have hp := Ln.par H hf hln ps
    have hq := perp_iff H hf hk l0 l1 l0 l1
    show (s_l01Meet p l (s_l02Through p k (s_l02Direction p l) a)).2 = !(i_arePerpendicular p k l l)
    rw [Bool.eq_iff_iff, hp, Bool.not_eq_true', ← Bool.not_eq_true, hq]
    rw [prodK_fr hk]
    generalize frU k (-φ l.2.1) (φ l.1) = U
    generalize frV k (-φ l.2.1) (φ l.1) = V
    constructor <;> intro h1 h2 <;> apply h1 <;> grind
theorem ThreeFeet_same (p : Int) (a : P2) (l : P3) : i_ThreeFeet p a l = s_ThreeFeet p a l := by
  have e : ∀ k, isC k → i_FootOf p k a l = if (s_l01Both p a l != 0) = true then ((0, 0), s_l01Both p a l) else if (!(s_l02Foot p k a l).2) = true then ((0, 0), 5) else ((s_l02Foot p k a l).1, 0) := by
    intro k hk
    unfold i_FootOf i_FootOf_c1
    have hk' : i_isColour k = true := by rcases hk with rfl | rfl | rfl <;> rfl
    rw [hk', bothcode p true, show (if true = true then (if i_isPoint p a = true then i_isLine p l else false) else false) = (if i_isPoint p a = true then i_isLine p l else false) from rfl]
    by_cases h : i_asked p true (if i_isPoint p a = true then i_isLine p l else false) = 0
    · obtain ⟨hf, hb⟩ := asked_zero h
      have hal : i_isPoint p a = true ∧ i_isLine p l = true := by cases h1 : i_isPoint p a <;> simp [h1] at hb ⊢; exact hb
      obtain ⟨e1, e2⟩ := foot_eq hf hk hal.1 hal.2
      rw [e1, e2]
      generalize i_asked p true (if i_isPoint p a = true then i_isLine p l else false) = X at h ⊢
      simp [h]
    · generalize i_asked p true (if i_isPoint p a = true then i_isLine p l else false) = X at h ⊢
      simp [h]
  unfold i_ThreeFeet s_ThreeFeet
  rw [e 0 isC0, e 1 isC1, e 2 isC2]
  by_cases h : s_l01Both p a l = 0
  · simp only [h]
    cases h0 : (s_l02Foot p 0 a l).2 <;> cases h1 : (s_l02Foot p 1 a l).2 <;> cases h2 : (s_l02Foot p 2 a l).2 <;> simp
  · simp [h]
theorem ThreeFeet_len (p : Int) (a : P2) (l : P3) : lenB (s_ThreeFeet p a l).1.1 2 (s_ThreeFeet p a l).1.2 = true := by
  unfold s_ThreeFeet
  repeat' split
  all_goals rfl

end Go.Proofs.Ytpopgdmnajngjaa
