import Derived.Test.YtpffcfiojjgnlaaQn
set_option linter.unusedSimpArgs false
set_option linter.unusedVariables false
namespace Go.Proofs.Ytpffcfiojjgnlaa
open Go.RowKit
theorem foot_eq {p : Int} (hf : i_IsField p = true) {k : Int} (hk : isC k) {a : P2} {l : P3} (ha : i_isPoint p a = true) (hl : i_isLine p l = true) : i_foot p k a l = (s_l02Foot p k a l).1 ∧ (s_l02Foot p k a l).2 = !(i_isNull p k l) := by
  obtain ⟨K, inst, φ, H⟩ := hom_of hf
  have a1 := Vl.of (φ := φ) (isPoint_num ha).1; have a2 := Vl.of (φ := φ) (isPoint_num ha).2
  obtain ⟨⟨n0, n1, n2⟩, hn⟩ := isLine_num hl
  have l0 := Vl.of (φ := φ) n0; have l1 := Vl.of (φ := φ) n1
  have hne : φ l.1 ≠ 0 ∨ φ l.2.1 ≠ 0 := by
    have h1 := H.one_ne
    rcases hn with e | ⟨_, e⟩
    · rw [e, H.one]; exact Or.inl h1
    · rw [e, H.one]; exact Or.inr h1
  have pi := ln_perpendicular H hf hk l0 l1 a1 a2 hne
  have ps := ln_through H hf hk (d := s_l02Direction p l) (vl_way1 H hf l1) (vl_way2 l0) a1 a2 (by grind)
  have e := Ln.inj H pi ps
  have hln := Ln.of H hl
  refine ⟨?_, ?_⟩
  · unfold i_foot s_l02Foot
    rw [e]
    obtain ⟨s, hs, p0, p1, p2, pk⟩ := hln
    obtain ⟨t, ht, q0, q1, q2, qk⟩ := ps
    exact meet_same H hf p0 p1 p2 q0 q1 q2
  · have hp := Ln.par H hf hln ps
    have hq := perp_iff H hf hk l0 l1 l0 l1
    show (s_l01Meet p l (s_l02Through p k (s_l02Direction p l) a)).2 = !(i_arePerpendicular p k l l)
    rw [Bool.eq_iff_iff, hp, Bool.not_eq_true', ← Bool.not_eq_true, hq]
    rw [prodK_fr hk]
    generalize frU k (-φ l.2.1) (φ l.1) = U
    generalize frV k (-φ l.2.1) (φ l.1) = V
    constructor <;> intro h1 h2 <;> apply h1 <;> grind
end Go.Proofs.Ytpffcfiojjgnlaa
