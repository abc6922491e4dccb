import Derived.Test.YtnijajjdldijpaaQ1
set_option linter.unusedSimpArgs false
set_option linter.unusedVariables false
namespace Go.Proofs.Ytnijajjdldijpaa
open Go.RowKit
theorem CountByQuadrance_same (p : Int) (a : P3) : i_CountByQuadrance p a = s_CountByQuadrance p a := by
  unfold i_CountByQuadrance s_CountByQuadrance i_CountByQuadrance_c1 V_i_CountByQuadrance_0 V_s_CountByQuadrance_0 V_s_CountByQuadrance_1
  rw [placecode_eq p true, show i_arePlaces p [a] = i_isPlace p a from by simp [i_arePlaces]]
  by_cases h : i_asked p true (i_isPlace p a) = 0
  · have hf := (asked_zero h).1
    simp only [quadrance_eq hf, i_CountByQuadrance_c2, null_same]
    simp [h]
  · simp [h]
theorem CountByQuadrance_len (p : Int) (a : P3) : lenB (s_CountByQuadrance p a).1.1 1 (s_CountByQuadrance p a).1.2 = true := by
  have key : ¬ (s_l09Code p [a] != 0) = true → ∀ r : List P3, lenB p.toNat 1 (r.foldl (fun s zz => bump s (s_l09Quadrance p a zz).toNat) (List.replicate p.toNat 0)) = true := by
    intro h r
    obtain ⟨h1, _, _⟩ := prB_nat (l09Code_prB h)
    exact lenB_of (by rw [bumps_len]; simp) (by omega)
  unfold s_CountByQuadrance V_s_CountByQuadrance_0 V_s_CountByQuadrance_1
  repeat' split
  all_goals first
    | rfl
    | exact key ‹_› _

end Go.Proofs.Ytnijajjdldijpaa
