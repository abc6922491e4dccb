/- Proved here: for every desk the program and the specification agree on whether it is one. It holds for all arguments, without condition. -/
import Derived.Test.YtcechmaoihckgaaPt
import Derived.Test.YtcechmaoihckgaaRb
import Derived.Test.YtcechmaoihckgaaLIsDesk
import Derived.Test.YtcechmaoihckgaaJIsDesk
set_option linter.unusedSimpArgs false
set_option linter.unusedVariables false
namespace Go.Proofs.Ytcechmaoihckgaa
open Go.RowKit Go.ChangeShapes Go.WideShapes Go.ChangeAt

theorem IsDesk_law (d : Int × Int × (P2 × P2 × P2)) : l_FnExactIsDesk d = true := by
  obtain ⟨p, c, a, b, e⟩ := d
  have h : i_IsDesk (p, c, a, b, e) = s_IsDesk (p, c, a, b, e) := by
    unfold i_IsDesk s_IsDesk s_l02Code
    rw [pointcode_eq]
    unfold i_asked
    show ((i_IsField p && i_isColour c) && i_arePoints p [a, b, e]) = _
    have hc : s_l02Colour c = i_isColour c := by unfold s_l02Colour s_l01In i_isColour; rfl
    rw [hc]
    cases i_IsField p <;> cases i_isColour c <;> cases i_arePoints p [a, b, e] <;> rfl
  unfold l_FnExactIsDesk
  show (if (i_IsDesk (p, c, a, b, e) != s_IsDesk (p, c, a, b, e)) = true then false else true) = true
  rw [h]
  simp

set_option maxRecDepth 100000 in
theorem FnExactIsDesk_lifted (os : Os) (started : os.Started) (H : Type) (enc : TypeId × Value → H) :
    ReturnsInHanded {} Try.checked os 17 .any (Rows.fnExactIsDeskSpec.pre6 enc Try.prog Try.f17 Rows.fnExactIsDeskRow.domain false) (Rows.fnExactIsDeskSpec.post enc Try.prog Try.f17 false true false false) := by
  refine returnsInHanded_of_change (C := Try.checked) Try.own started (by kernel_rfl) Try.func17
    (ChangeSpec.witness6 (enc := enc) (C := Try.checked) false ⟨#[], #[.agg #[.int .i64 0, .int .i64 0, .int .i64 0, .int .i64 0, .int .i64 0, .int .i64 0, .int .i64 0, .int .i64 0]], []⟩ 8 (by kernel_rfl) (by kernel_rfl) (by kernel_rfl) (by kernel_rfl)) ?_
  intro W base args ds gs before hval0 hW hcnd _
  have hval : ∀ (j : Nat) t v, Try.f17.params[j]? = some t → args[j]? = some v → Value.okWide Try.prog W .any base t v := hval0
  have hW' := hW
  obtain ⟨p, q, hA0, hV, rfl, hfz, hnd⟩ := hW
  have hA : DataW.TrodAll enc Try.prog W 0 (fun _ => true) true Try.f17.params.toList args.toList ds p := hA0
  rw [Try.params17] at hA hval
  have hAk := hA
  obtain ⟨v0, vs0, d0, ds0, p0, q0, hargs, rfl, rfl, h0, r0⟩ := trodAll_cons hA
  obtain ⟨rfl, rfl, rfl⟩ := trodAll_nil r0
  obtain rfl : args = #[v0] := by
    apply Array.toList_inj.1
    exact hargs
  obtain ⟨rfl, rfl⟩ := trodVars_none hV
  clear hA0 hval0
  simp only [List.append_nil] at hW' hAk
  obtain ⟨xs0, hl0, rfl, i0⟩ := open_str (n := 8) (ts := [2, 2, 2, 2, 2, 2, 2, 2]) Try.underlying64 (by kernel_rfl) (by kernel_rfl) (by intro u hu; simp at hu; subst hu; exact Try.underlying2) (hval 0 64 v0 rfl rfl)
  obtain ⟨x0_0, x0_1, x0_2, x0_3, x0_4, x0_5, x0_6, x0_7, rfl⟩ := len8 hl0
  have hlaw : l_FnExactIsDesk (x0_0, x0_1, ((x0_2, x0_3), (x0_4, x0_5), (x0_6, x0_7))) = true := IsDesk_law (x0_0, x0_1, ((x0_2, x0_3), (x0_4, x0_5), (x0_6, x0_7)))
  refine (l_FnExactIsDesk_any x0_0 x0_1 x0_2 x0_3 x0_4 x0_5 x0_6 x0_7 W).mono fun e W2 ⟨he, hb⟩ => ?_
  subst he
  rw [hlaw]
  refine ⟨_, rfl, _, _, _, [], p0, [], hW', ?_, ?_, rfl, Below.frame hb _, fun h => by cases h⟩
  · exact trodAll_mk1 (shut_bool Try.underlying4 true)
  · exact trodAll_stays Try.laidOut hb (ts := [64]) (by intro t ht; simp at ht; rcases ht with rfl <;> exact ⟨by kernel_rfl, of_decide_eq_true (by kernel_rfl)⟩) hAk (fun x hx => hW'.lt x hx)
theorem FnExactIsDesk_holds : Rows.FnExactIsDeskSaid :=
  OpenClaim.holds_of_wide 17 Try.f17 rfl rfl rfl rfl rfl rfl rfl ⟨rfl, rfl, rfl, rfl, rfl⟩ rfl rfl rfl rfl rfl (by kernel_rfl) Try.func17 FnExactIsDesk_facts
    (of_decide_eq_true (by kernel_rfl)) (by unfold Func.isWrapper; first | (rw [if_pos (by decide +kernel)]; kernel_rfl) | (rw [if_neg (by decide +kernel)]; exact ⟨rfl, rfl⟩))
    (fun os started H enc _ => FnExactIsDesk_lifted os started H enc)

end Go.Proofs.Ytcechmaoihckgaa
