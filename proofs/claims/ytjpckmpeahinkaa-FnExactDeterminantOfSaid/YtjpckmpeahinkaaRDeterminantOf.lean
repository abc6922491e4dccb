/- Proved here: for every p and every conic the desk and the specification give the same determinant, with the same code of refusal. It holds for all arguments, without condition. -/
import Derived.Test.YtjpckmpeahinkaaPc
import Derived.Test.YtjpckmpeahinkaaPw
import Derived.Test.YtjpckmpeahinkaaRb
import Derived.Test.YtjpckmpeahinkaaLDeterminantOf
import Derived.Test.YtjpckmpeahinkaaJDeterminantOf
set_option linter.unusedSimpArgs false
set_option linter.unusedVariables false
namespace Go.Proofs.Ytjpckmpeahinkaa
open Go.RowKit Go.ChangeShapes Go.WideShapes Go.ChangeAt

theorem determinant_eq {p : Int} {k : P6} (h : i_IsField p = true) (hk : i_isConic p k = true) : s_l08Determinant p k = i_determinant p k := by
  have hp := i_IsField_ok h
  obtain ⟨k0, k1, k2, k3, k4, k5⟩ := isConic_num hk
  replace k0 := bd_of hp k0; replace k1 := bd_of hp k1; replace k2 := bd_of hp k2; replace k3 := bd_of hp k3; replace k4 := bd_of hp k4; replace k5 := bd_of hp k5
  unfold s_l08Determinant i_determinant i_threeBy
  show (_ : Int) % p = (_ : Int) % p
  dsimp only
  apply W.mods
  · (repeat' (first | exact W.bd (by assumption) | exact W.lit _ (by decide) | with_reducible apply W.rest (by assumption) | with_reducible apply W.smod (by assumption) | with_reducible apply W.mod (by assumption) | with_reducible apply W.mul | with_reducible apply W.sub | with_reducible apply W.add | with_reducible apply W.neg | decide))
  · (repeat' (first | exact W.bd (by assumption) | exact W.lit _ (by decide) | with_reducible apply W.rest (by assumption) | with_reducible apply W.smod (by assumption) | with_reducible apply W.mod (by assumption) | with_reducible apply W.mul | with_reducible apply W.sub | with_reducible apply W.add | with_reducible apply W.neg | decide))
  · obtain ⟨q, hq, rfl⟩ := rests_of hp
    haveI : NeZero q := ⟨hq⟩
    apply mod_of_ph
    simp only [ph_add, ph_mul, ph_sub, ph_mod]
    grind
theorem DeterminantOf_law (p : Int) (k : P6) : l_FnExactDeterminantOf p k = true := by
  have e : i_DeterminantOf p k = s_DeterminantOf p k := by
    unfold i_DeterminantOf s_DeterminantOf i_DeterminantOf_c1
    rw [coniccode_eq]
    by_cases h : i_asked p (i_isConic p k) = 0
    · obtain ⟨hf, hn⟩ := asked_zero h
      rw [determinant_eq hf hn]
    · simp [h]
  unfold l_FnExactDeterminantOf
  rw [toConic_id, e]
  simp

set_option maxRecDepth 100000 in
theorem FnExactDeterminantOf_lifted (os : Os) (started : os.Started) (H : Type) (enc : TypeId × Value → H) :
    ReturnsInHanded {} Try.checked os 4 .any (Rows.fnExactDeterminantOfSpec.pre6 enc Try.prog Try.f4 Rows.fnExactDeterminantOfRow.domain false) (Rows.fnExactDeterminantOfSpec.post enc Try.prog Try.f4 false true false false) := by
  refine returnsInHanded_of_change (C := Try.checked) Try.own started (by kernel_rfl) Try.func4
    (ChangeSpec.witness6 (enc := enc) (C := Try.checked) false ⟨#[], #[.int .i64 0, .agg #[.int .i64 0, .int .i64 0, .int .i64 0, .int .i64 0, .int .i64 0, .int .i64 0]], []⟩ 8 (by kernel_rfl) (by kernel_rfl) (by kernel_rfl) (by kernel_rfl)) ?_
  intro W base args ds gs before hval0 hW hcnd _
  have hval : ∀ (j : Nat) t v, Try.f4.params[j]? = some t → args[j]? = some v → Value.okWide Try.prog W .any base t v := hval0
  have hW' := hW
  obtain ⟨p, q, hA0, hV, rfl, hfz, hnd⟩ := hW
  have hA : DataW.TrodAll enc Try.prog W 0 (fun _ => true) true Try.f4.params.toList args.toList ds p := hA0
  rw [Try.params4] at hA hval
  have hAk := hA
  obtain ⟨v0, vs0, d0, ds0, p0, q0, hargs, rfl, rfl, h0, r0⟩ := trodAll_cons hA
  obtain ⟨v1, vs1, d1, ds1, p1, q1, rfl, rfl, rfl, h1, r1⟩ := trodAll_cons r0
  obtain ⟨rfl, rfl, rfl⟩ := trodAll_nil r1
  obtain rfl : args = #[v0, v1] := by
    apply Array.toList_inj.1
    exact hargs
  obtain ⟨rfl, rfl⟩ := trodVars_none hV
  clear hA0 hval0
  simp only [List.append_nil] at hW' hAk
  obtain ⟨x0, rfl, i0⟩ := open_i64 Try.underlying2 (hval 0 2 v0 rfl rfl)
  obtain ⟨xs1, hl1, rfl, i1⟩ := open_arr (n := 6) (ts := [2, 2, 2, 2, 2, 2]) Try.underlying22 (by kernel_rfl) (by kernel_rfl) (by intro u hu; simp at hu; subst hu; exact Try.underlying2) (hval 1 22 v1 rfl rfl)
  obtain ⟨x1_0, x1_1, x1_2, x1_3, x1_4, x1_5, rfl⟩ := len6 hl1
  have hlaw : l_FnExactDeterminantOf x0 (x1_0, x1_1, x1_2, x1_3, x1_4, x1_5) = true := DeterminantOf_law x0 (x1_0, x1_1, x1_2, x1_3, x1_4, x1_5)
  refine (l_FnExactDeterminantOf_any x0 x1_0 x1_1 x1_2 x1_3 x1_4 x1_5 W).mono fun e W2 ⟨he, hb⟩ => ?_
  subst he
  rw [hlaw]
  refine ⟨_, rfl, _, _, _, [], p0 ++ (p1), [], hW', ?_, ?_, rfl, Below.frame hb _, fun h => by cases h⟩
  · exact trodAll_mk1 (shut_bool Try.underlying4 true)
  · exact trodAll_stays Try.laidOut hb (ts := [2, 22]) (by intro t ht; simp at ht; rcases ht with rfl | rfl <;> exact ⟨by kernel_rfl, of_decide_eq_true (by kernel_rfl)⟩) hAk (fun x hx => hW'.lt x hx)
theorem FnExactDeterminantOf_holds : Rows.FnExactDeterminantOfSaid :=
  OpenClaim.holds_of_wide 4 Try.f4 rfl rfl rfl rfl rfl rfl rfl ⟨rfl, rfl, rfl, rfl, rfl⟩ rfl rfl rfl rfl rfl (by kernel_rfl) Try.func4 FnExactDeterminantOf_facts
    (of_decide_eq_true (by kernel_rfl)) (by unfold Func.isWrapper; first | (rw [if_pos (by decide +kernel)]; kernel_rfl) | (rw [if_neg (by decide +kernel)]; exact ⟨rfl, rfl⟩))
    (fun os started H enc _ => FnExactDeterminantOf_lifted os started H enc)

end Go.Proofs.Ytjpckmpeahinkaa
