import Derived.Test.YtoblkbpejfojjaaGreatDoorZa
import Derived.Test.YtoblkbpejfojjaaGreatDoorZb
import Derived.Test.YtoblkbpejfojjaaGreatDoorZc
import Derived.Test.YtoblkbpejfojjaaGreatDoorZd
set_option linter.unusedSimpArgs false
set_option linter.unusedVariables false
namespace Go.Proofs.YtoblkbpejfojjaaGreatDoor
open Go.RowKit
/-! The finite facts, for all fields. -/
theorem key_all {p c : Int} (hf : i_IsField p = true) (hc : isC c) : keyB p c = true := by
  have hm := field_mem hf
  have hcm : c ∈ ([0, 1, 2] : List Int) := by rcases hc with rfl | rfl | rfl <;> simp
  have : p ∈ ([3, 5, 7, 11, 13, 17] : List Int) ∨ p ∈ ([19, 23] : List Int) ∨ p ∈ ([29] : List Int) ∨ p ∈ ([31] : List Int) := by
    simp at hm ⊢
    omega
  rcases this with h | h | h | h
  · exact List.all_eq_true.1 (List.all_eq_true.1 key_chk1 p h) c hcm
  · exact List.all_eq_true.1 (List.all_eq_true.1 key_chk2 p h) c hcm
  · exact List.all_eq_true.1 (List.all_eq_true.1 key_chk3 p h) c hcm
  · exact List.all_eq_true.1 (List.all_eq_true.1 key_chk4 p h) c hcm
theorem facts_all {p c : Int} (hf : i_IsField p = true) (hc : isC c) : ∃ K U V, Facts p c K U V := facts_of (key_all hf hc)
theorem turncode (p c : Int) (a : P2) : s_l03Points p c 1 [a.1, a.2] = i_asked p true (i_TurnsAbout_c1 c p a) := by
  have e : rows2 1 [a.1, a.2] = [a] := rfl
  unfold s_l03Points i_TurnsAbout_c1
  rw [e, pointcode p true, in_colour]
  cases hf : i_IsField p
  · simp [i_asked, hf]
  · cases hc : i_isColour c <;> cases ha : i_isPoint p a <;> simp [i_asked, hf, i_arePoints, ha]
theorem countcode (p c : Int) : s_l03Points p c 0 [] = i_asked p true (i_CountTurns_c1 c) := by
  have e : rows2 0 [] = [] := rfl
  unfold s_l03Points i_CountTurns_c1
  rw [e, pointcode p true, in_colour]
  cases hf : i_IsField p
  · simp [i_asked, hf]
  · cases hc : i_isColour c <;> simp [i_asked, hf, i_arePoints]
theorem turn_zero {p c : Int} {a : P2} (h : i_asked p true (i_TurnsAbout_c1 c p a) = 0) : i_IsField p = true ∧ isC c ∧ i_isPoint p a = true := by
  obtain ⟨hf, hb⟩ := asked_zero h
  unfold i_TurnsAbout_c1 at hb
  cases hc : i_isColour c
  · rw [hc] at hb; cases hb
  · rw [hc, if_pos rfl] at hb
    exact ⟨hf, isC_of hc, hb⟩
theorem count_zero {p c : Int} (h : i_asked p true (i_CountTurns_c1 c) = 0) : i_IsField p = true ∧ isC c := by
  obtain ⟨hf, hb⟩ := asked_zero h
  exact ⟨hf, isC_of hb⟩

/-! The condition of the moves between two pairs, on both sides. -/
theorem between_pred {p : Int} (hf : i_IsField p = true) {m : P4o} (hm : i_areNumbers p [m.1, m.2.1, m.2.2.1, m.2.2.2] = true) {a b c d : P2} (ha : i_isPoint p a = true) (hb : i_isPoint p b = true) (hc : i_isPoint p c = true) (hd : i_isPoint p d = true) :
    (i_turned p m (i_less p b a) == i_less p d c) = (s_l07Move p (aboutC p a c (toM m)) b == d) := by
  obtain ⟨K, _, φ, H⟩ := hom_of hf
  have h : (0 ≤ m.1 ∧ m.1 < p) ∧ (0 ≤ m.2.1 ∧ m.2.1 < p) ∧ (0 ≤ m.2.2.1 ∧ m.2.2.1 < p) ∧ (0 ≤ m.2.2.2 ∧ m.2.2.2 < p) := by simpa [i_areNumbers, isNumber_iff] using hm
  obtain ⟨h1, h2, h3, h4⟩ := h
  obtain ⟨a1, a2⟩ := isPoint_num ha; obtain ⟨b1, b2⟩ := isPoint_num hb; obtain ⟨c1, c2⟩ := isPoint_num hc; obtain ⟨d1, d2⟩ := isPoint_num hd
  have v1 := Vl.of (φ := φ) h1; have v2 := Vl.of (φ := φ) h2; have v3 := Vl.of (φ := φ) h3; have v4 := Vl.of (φ := φ) h4
  have A1 := Vl.of (φ := φ) a1; have A2 := Vl.of (φ := φ) a2; have B1 := Vl.of (φ := φ) b1; have B2 := Vl.of (φ := φ) b2
  have C1 := Vl.of (φ := φ) c1; have C2 := Vl.of (φ := φ) c2; have D1 := Vl.of (φ := φ) d1; have D2 := Vl.of (φ := φ) d2
  obtain ⟨t1, t2⟩ := vl_turned H hf v1 v2 v3 v4 (vl_less1 H hf B1 A1) (vl_less2 H hf B2 A2)
  have e1 := vl_less1 H hf D1 C1
  have e2 := vl_less2 H hf D2 C2
  obtain ⟨s1, s2⟩ := vl_turned H hf v1 v2 v3 v4 A1 A2
  have hV : Vm p φ (aboutC p a c (toM m)) (φ m.1) (φ m.2.1) (φ m.2.2.1) (φ m.2.2.2) (φ c.1 - (φ m.1 * φ a.1 + φ m.2.1 * φ a.2)) (φ c.2 - (φ m.2.2.1 * φ a.1 + φ m.2.2.2 * φ a.2)) := ⟨v1, v2, v3, v4, vl_less1 H hf C1 s1, vl_less2 H hf C2 s2⟩
  obtain ⟨w1, w2⟩ := vl_moved H hf hV B1 B2
  have q1 := Vl.eq_iff H t1 e1; have q2 := Vl.eq_iff H t2 e2
  have q3 := Vl.eq_iff H w1 D1; have q4 := Vl.eq_iff H w2 D2
  rw [move_is, Bool.eq_iff_iff, beq_iff_eq, beq_iff_eq]
  have x1 : i_turned p m (i_less p b a) = i_less p d c ↔ (i_turned p (m.1, m.2.1, m.2.2.1, m.2.2.2) (i_less p b a)).1 = (i_less p d c).1 ∧ (i_turned p (m.1, m.2.1, m.2.2.1, m.2.2.2) (i_less p b a)).2 = (i_less p d c).2 := ⟨fun e => by rw [← e]; exact ⟨rfl, rfl⟩, fun e => Prod.ext e.1 e.2⟩
  have x2 : i_moved p (aboutC p a c (toM m)) b = d ↔ (i_moved p (aboutC p a c (toM m)) b).1 = d.1 ∧ (i_moved p (aboutC p a c (toM m)) b).2 = d.2 := ⟨fun e => by rw [e]; exact ⟨rfl, rfl⟩, fun e => Prod.ext e.1 e.2⟩
  rw [x1, x2, q1, q2, q3, q4]
  clear x1 x2 q1 q2 q3 q4 w1 w2 hV s1 s2 e1 e2 t1 t2
  constructor <;> rintro ⟨g1, g2⟩ <;> exact ⟨by grind, by grind⟩

end Go.Proofs.YtoblkbpejfojjaaGreatDoor
