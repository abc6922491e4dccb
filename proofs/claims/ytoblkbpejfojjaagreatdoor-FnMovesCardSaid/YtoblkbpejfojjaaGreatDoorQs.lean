import Derived.Test.YtoblkbpejfojjaaGreatDoorFi
set_option linter.unusedSimpArgs false
set_option linter.unusedVariables false
namespace Go.Proofs.YtoblkbpejfojjaaGreatDoor
open Go.RowKit
/-! What the orders are. -/
theorem OrderOfMove_same (p c : Int) (m : P6) : i_OrderOfMove p c m = s_OrderOfMove p c m := by
  by_cases hz : i_moveAsked p c m true i_always = 0
  · obtain ⟨hf, hc, hm, hk, _⟩ := move_ok hz
    obtain ⟨N0, hb, e⟩ := order_ex hf hc hm hk
    obtain ⟨N, h1, h2, h3⟩ := least_of (P := fun n => itM p m n = oneM) N0 e
    rw [i_OrderOfMove_of (iorder_is hf hz h2 h3 (by omega)), s_OrderOfMove_of (sorder_is hf hm hz h2 h3 (by omega))]
  · have e1 : Fo_i_OrderOfMove 1000000 p c m = some (0, i_moveAsked p c m true i_always) := by
      unfold Fo_i_OrderOfMove G_i_OrderOfMove
      rw [if_pos (bne_iff_ne.2 hz)]
    have e2 : Fo_s_OrderOfMove 1000000 p c m = some (0, i_moveAsked p c m true i_always) := by
      unfold Fo_s_OrderOfMove G_s_OrderOfMove
      rw [code_same, if_pos (bne_iff_ne.2 hz)]
    rw [i_OrderOfMove_of e1, s_OrderOfMove_of e2]
theorem order_code {p c : Int} {m : P6} (h : (i_OrderOfMove p c m).2 = 0) : i_moveAsked p c m true i_always = 0 := by
  by_cases hz : i_moveAsked p c m true i_always = 0
  · exact hz
  · have e : Fo_i_OrderOfMove 1000000 p c m = some (0, i_moveAsked p c m true i_always) := by
      unfold Fo_i_OrderOfMove G_i_OrderOfMove
      rw [if_pos (bne_iff_ne.2 hz)]
    rw [i_OrderOfMove_of e] at h
    exact h
theorem order_pos {p c : Int} {m : P6} (hz : i_moveAsked p c m true i_always = 0) : 1 ≤ (i_OrderOfMove p c m).1 := by
  obtain ⟨hf, hc, hm, hk, _⟩ := move_ok hz
  obtain ⟨N0, hb, e⟩ := order_ex hf hc hm hk
  obtain ⟨N, h1, h2, h3⟩ := least_of (P := fun n => itM p m n = oneM) N0 e
  rw [i_OrderOfMove_of (iorder_is hf hz h2 h3 (by omega))]
  show (1 : Int) ≤ (N : Int) + 1
  omega
theorem order_of {p c : Int} {m : P6} (hz : i_moveAsked p c m true i_always = 0) {N : Nat} (hN : itM p m N = oneM) (hl : ∀ k, k < N → itM p m k ≠ oneM) (hb : N < 1000) : (i_OrderOfMove p c m).1 = (N : Int) + 1 := by
  obtain ⟨hf, hc, hm, hk, _⟩ := move_ok hz
  rw [i_OrderOfMove_of (iorder_is hf hz hN hl hb)]

end Go.Proofs.YtoblkbpejfojjaaGreatDoor
