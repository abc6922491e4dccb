import Derived.Test.YtnijajjdldijpaaQ0
set_option linter.unusedSimpArgs false
set_option linter.unusedVariables false
namespace Go.Proofs.Ytnijajjdldijpaa
open Go.RowKit
theorem product_comm (p : Int) (a b : P3) : i_placeProduct p a b = i_placeProduct p b a := by
  unfold i_placeProduct
  rw [Int.mul_comm a.1, Int.mul_comm a.2.1, Int.mul_comm a.2.2]
theorem quad_comm (p : Int) (a b : P3) : i_placeQuadrance p a b = i_placeQuadrance p b a := by
  unfold i_placeQuadrance
  rw [product_comm p a b, Int.mul_comm (i_placeProduct p a a) (i_placeProduct p b b)]
theorem MidpointsOf_same (p : Int) (a b : P3) : i_MidpointsOf p a b = s_MidpointsOf p a b := by
  unfold i_MidpointsOf s_MidpointsOf i_MidpointsOf_c1 V_s_MidpointsOf_0 V_s_MidpointsOf_1
  rw [placecode_eq p true]
  by_cases h : i_asked p true (i_arePlaces p [a, b]) = 0
  · have hf := (asked_zero h).1
    have hfil : ∀ q, (places p).filter (fun m => i_MidpointsOf_c2 m p q a b) = ((places p).filter fun zz => s_l09Product p zz q == 0).filter fun zz => !(i_isNullPlace p zz) && (s_l09Quadrance p a zz == s_l09Quadrance p b zz) := by
      intro q
      rw [List.filter_filter]
      apply filter_same
      intro m _
      unfold i_MidpointsOf_c2
      rw [quadrance_eq hf, quadrance_eq hf, quad_comm p m a, quad_comm p m b, product_same]
      cases i_isNullPlace p m <;> cases (i_placeProduct p m q == 0) <;> simp
    rw [join_same hf, show ∀ q, i_placesWith p (fun _ => prB p) (fun m => i_MidpointsOf_c2 m p q a b) = (((places p).filter (fun m => i_MidpointsOf_c2 m p q a b)).length, flat3 ((places p).filter (fun m => i_MidpointsOf_c2 m p q a b))) from fun _ => rfl, hfil]
    simp [h, null_same]
  · simp [h]
theorem MidpointsOf_len (p : Int) (a b : P3) : lenB (s_MidpointsOf p a b).1.1 3 (s_MidpointsOf p a b).1.2 = true := by
  have key : ¬ (s_l09Code p [a, b] != 0) = true → ∀ f g : P3 → Bool, lenB (((places p).filter f).filter g).length 3 (flat3 (((places p).filter f).filter g)) = true := by
    intro h f g
    have hl := places_len (l09Code_prB h)
    exact lenB3 (Nat.le_trans (List.length_filter_le _ _) (Nat.le_trans (List.length_filter_le _ _) (by omega)))
  unfold s_MidpointsOf V_s_MidpointsOf_0 V_s_MidpointsOf_1
  repeat' split
  all_goals first
    | rfl
    | exact key ‹_› _ _

end Go.Proofs.Ytnijajjdldijpaa
