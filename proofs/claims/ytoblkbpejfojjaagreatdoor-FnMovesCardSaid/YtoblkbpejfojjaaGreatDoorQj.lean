import Derived.Test.YtoblkbpejfojjaaGreatDoorQi
set_option linter.unusedSimpArgs false
set_option linter.unusedVariables false
namespace Go.Proofs.YtoblkbpejfojjaaGreatDoor
open Go.RowKit
theorem quad_same {p : Int} (hf : i_IsField p = true) {c : Int} (hc : isC c) {a b : P2} (ha : i_isPoint p a = true) (hb : i_isPoint p b = true) : s_l02Quadrance p c a b = i_quadrance p c a b := by
  obtain ⟨K, inst, φ, H⟩ := hom_of hf
  have a1 := Vl.of (φ := φ) (isPoint_num ha).1; have a2 := Vl.of (φ := φ) (isPoint_num ha).2
  have b1 := Vl.of (φ := φ) (isPoint_num hb).1; have b2 := Vl.of (φ := φ) (isPoint_num hb).2
  have v := vl_quadrance H hf hc b1 b2 a1 a2
  have w := vl_quadrance H hf hc a1 a2 b1 b2
  rw [prodK_neg hc] at v
  exact Vl.inj H (show Vl p φ (s_l02Quadrance p c a b) _ from v) w
theorem isC0 : isC 0 := Or.inl rfl
theorem isC1 : isC 1 := Or.inr (Or.inl rfl)
theorem isC2 : isC 2 := Or.inr (Or.inr rfl)

end Go.Proofs.YtoblkbpejfojjaaGreatDoor
