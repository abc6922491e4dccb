/- Proved here: for every p and every three numbers the desk and the specification make the same place, with the same code of refusal. It holds for all arguments, without condition. -/
import Derived.Test.YtcechmaoihckgaaPp
import Derived.Test.YtcechmaoihckgaaRb
import Derived.Test.YtcechmaoihckgaaLPlaceOf
import Derived.Test.YtcechmaoihckgaaJPlaceOf
set_option linter.unusedSimpArgs false
set_option linter.unusedVariables false
namespace Go.Proofs.Ytcechmaoihckgaa
open Go.RowKit Go.ChangeShapes Go.WideShapes Go.ChangeAt

theorem PlaceOf_law (p x y z : Int) : l_FnExactPlaceOf p x y z = true := by
  have e : i_PlaceOf p x y z = s_PlaceOf p x y z := by
    unfold i_PlaceOf s_PlaceOf i_PlaceOf_c1
    rw [numbers_eq]
    by_cases h : i_asked p (i_areNumbers p [x, y, z]) = 0
    · obtain ⟨hf, hn⟩ := asked_zero h
      obtain ⟨hx, hy, hz⟩ : (0 ≤ x ∧ x < p) ∧ (0 ≤ y ∧ y < p) ∧ (0 ≤ z ∧ z < p) := by simpa [i_areNumbers, isNumber_iff] using hn
      by_cases hne : x = 0 ∧ y = 0 ∧ z = 0
      · obtain ⟨rfl, rfl, rfl⟩ := hne; simp [h]
      · rw [made_eq hf hx hy hz]
    · simp [h]
  unfold l_FnExactPlaceOf
  rw [e, eqPlace_self]
  simp

set_option maxRecDepth 100000 in
theorem FnExactPlaceOf_lifted (os : Os) (started : os.Started) (H : Type) (enc : TypeId × Value → H) :
    ReturnsInHanded {} Try.checked os 5 .any (Rows.fnExactPlaceOfSpec.pre6 enc Try.prog Try.f5 Rows.fnExactPlaceOfRow.domain false) (Rows.fnExactPlaceOfSpec.post enc Try.prog Try.f5 false true false false) := by
  refine returnsInHanded_of_change (C := Try.checked) Try.own started (by kernel_rfl) Try.func5
    (ChangeSpec.witness6 (enc := enc) (C := Try.checked) false ⟨#[], #[.int .i64 0, .int .i64 0, .int .i64 0, .int .i64 0], []⟩ 8 (by kernel_rfl) (by kernel_rfl) (by kernel_rfl) (by kernel_rfl)) ?_
  intro W base args ds gs before hval0 hW hcnd _
  have hval : ∀ (j : Nat) t v, Try.f5.params[j]? = some t → args[j]? = some v → Value.okWide Try.prog W .any base t v := hval0
  have hW' := hW
  obtain ⟨p, q, hA0, hV, rfl, hfz, hnd⟩ := hW
  have hA : DataW.TrodAll enc Try.prog W 0 (fun _ => true) true Try.f5.params.toList args.toList ds p := hA0
  rw [Try.params5] at hA hval
  have hAk := hA
  obtain ⟨v0, vs0, d0, ds0, p0, q0, hargs, rfl, rfl, h0, r0⟩ := trodAll_cons hA
  obtain ⟨v1, vs1, d1, ds1, p1, q1, rfl, rfl, rfl, h1, r1⟩ := trodAll_cons r0
  obtain ⟨v2, vs2, d2, ds2, p2, q2, rfl, rfl, rfl, h2, r2⟩ := trodAll_cons r1
  obtain ⟨v3, vs3, d3, ds3, p3, q3, rfl, rfl, rfl, h3, r3⟩ := trodAll_cons r2
  obtain ⟨rfl, rfl, rfl⟩ := trodAll_nil r3
  obtain rfl : args = #[v0, v1, v2, v3] := by
    apply Array.toList_inj.1
    exact hargs
  obtain ⟨rfl, rfl⟩ := trodVars_none hV
  clear hA0 hval0
  simp only [List.append_nil] at hW' hAk
  obtain ⟨x0, rfl, i0⟩ := open_i64 Try.underlying2 (hval 0 2 v0 rfl rfl)
  obtain ⟨x1, rfl, i1⟩ := open_i64 Try.underlying2 (hval 1 2 v1 rfl rfl)
  obtain ⟨x2, rfl, i2⟩ := open_i64 Try.underlying2 (hval 2 2 v2 rfl rfl)
  obtain ⟨x3, rfl, i3⟩ := open_i64 Try.underlying2 (hval 3 2 v3 rfl rfl)
  have hlaw : l_FnExactPlaceOf x0 x1 x2 x3 = true := PlaceOf_law x0 x1 x2 x3
  refine (l_FnExactPlaceOf_any x0 x1 x2 x3 W).mono fun e W2 ⟨he, hb⟩ => ?_
  subst he
  rw [hlaw]
  refine ⟨_, rfl, _, _, _, [], p0 ++ (p1 ++ (p2 ++ (p3))), [], hW', ?_, ?_, rfl, Below.frame hb _, fun h => by cases h⟩
  · exact trodAll_mk1 (shut_bool Try.underlying4 true)
  · exact trodAll_stays Try.laidOut hb (ts := [2, 2, 2, 2]) (by intro t ht; simp at ht; rcases ht with rfl | rfl | rfl | rfl <;> exact ⟨by kernel_rfl, of_decide_eq_true (by kernel_rfl)⟩) hAk (fun x hx => hW'.lt x hx)
theorem FnExactPlaceOf_holds : Rows.FnExactPlaceOfSaid :=
  OpenClaim.holds_of_wide 5 Try.f5 rfl rfl rfl rfl rfl rfl rfl ⟨rfl, rfl, rfl, rfl, rfl⟩ rfl rfl rfl rfl rfl (by kernel_rfl) Try.func5 FnExactPlaceOf_facts
    (of_decide_eq_true (by kernel_rfl)) (by unfold Func.isWrapper; first | (rw [if_pos (by decide +kernel)]; kernel_rfl) | (rw [if_neg (by decide +kernel)]; exact ⟨rfl, rfl⟩))
    (fun os started H enc _ => FnExactPlaceOf_lifted os started H enc)

end Go.Proofs.Ytcechmaoihckgaa
