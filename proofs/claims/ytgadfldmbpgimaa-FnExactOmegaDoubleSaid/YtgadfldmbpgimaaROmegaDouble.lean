/- Proved here: for every p and every three points the desk and the specification give the same doubled area of the omega points, with the same code of refusal. It holds for all arguments, without condition. -/
import Derived.Test.YtgadfldmbpgimaaSb
import Derived.Test.YtgadfldmbpgimaaJOmegaDouble
import Derived.Test.YtgadfldmbpgimaaFOmegaDouble
import Derived.Test.YtgadfldmbpgimaaQk
set_option linter.unusedSimpArgs false
set_option linter.unusedVariables false
namespace Go.Proofs.Ytgadfldmbpgimaa
open Go.RowKit Go.ChangeShapes Go.WideShapes Go.ChangeAt
theorem OmegaDouble_law (p : Int) (a b c : P2) : l_FnExactOmegaDouble p a b c = true := by
  have e : i_OmegaDouble p a b c = s_OmegaDouble p a b c := by
    unfold i_OmegaDouble s_OmegaDouble i_omegaPoints s_l10Omega
    rw [tricode]
    by_cases h : i_triangle p 0 a b c = 0
    · have hf := (tri_zero h).1
      have e := area_same p (s_l04Orthocentre p 0 a b c) (s_l04Orthocentre p 1 a b c) (s_l04Orthocentre p 2 a b c) hf (ortho_pt h isC0) (ortho_pt h isC1) (ortho_pt h isC2)
      rw [ortho_eq h isC0, ortho_eq h isC1, ortho_eq h isC2]
      simp only [h]
      exact congrArg (fun x => (x, (0 : Int))) e.symm
    · simp [h]
  unfold l_FnExactOmegaDouble
  rw [show l_toPoint a = a from rfl, show l_toPoint b = b from rfl, show l_toPoint c = c from rfl, e]
  simp

set_option maxRecDepth 100000 in
theorem FnExactOmegaDouble_lifted (os : Os) (started : os.Started) (H : Type) (enc : TypeId × Value → H) :
    ReturnsInHanded {} Try.checked os 8 .any (Rows.fnExactOmegaDoubleSpec.pre6 enc Try.prog Try.f8 Rows.fnExactOmegaDoubleRow.domain false) (Rows.fnExactOmegaDoubleSpec.post enc Try.prog Try.f8 false true false false) := by
  refine returnsInHanded_of_change (C := Try.checked) Try.own started (by kernel_rfl) Try.func8
    (ChangeSpec.witness6 (enc := enc) (C := Try.checked) false ⟨#[], #[.int .i64 0, .agg #[.int .i64 0, .int .i64 0], .agg #[.int .i64 0, .int .i64 0], .agg #[.int .i64 0, .int .i64 0]], []⟩ 8 (by kernel_rfl) (by kernel_rfl) (by kernel_rfl) (by kernel_rfl)) ?_
  intro W base args ds gs before hval0 hW hcnd _
  have hval : ∀ (j : Nat) t v, Try.f8.params[j]? = some t → args[j]? = some v → Value.okWide Try.prog W .any base t v := hval0
  have hW' := hW
  obtain ⟨p, q, hA0, hV, rfl, hfz, hnd⟩ := hW
  have hA : DataW.TrodAll enc Try.prog W 0 (fun _ => true) true Try.f8.params.toList args.toList ds p := hA0
  rw [Try.params8] at hA hval
  have hAk := hA
  obtain ⟨v0, vs0, d0, ds0, p0, q0, hargs, rfl, rfl, h0, r0⟩ := trodAll_cons hA
  obtain ⟨v1, vs1, d1, ds1, p1, q1, rfl, rfl, rfl, h1, r1⟩ := trodAll_cons r0
  obtain ⟨v2, vs2, d2, ds2, p2, q2, rfl, rfl, rfl, h2, r2⟩ := trodAll_cons r1
  obtain ⟨v3, vs3, d3, ds3, p3, q3, rfl, rfl, rfl, h3, r3⟩ := trodAll_cons r2
  obtain ⟨rfl, rfl, rfl⟩ := trodAll_nil r3
  obtain rfl : args = #[v0, v1, v2, v3] := by
    apply Array.toList_inj.1
    exact hargs
  obtain ⟨rfl, rfl⟩ := trodVars_none hV
  clear hA0 hval0
  simp only [List.append_nil] at hW' hAk
  obtain ⟨x0, rfl, i0⟩ := open_i64 Try.underlying2 (hval 0 2 v0 rfl rfl)
  obtain ⟨xs1, hl1, rfl, i1⟩ := open_arr (n := 2) (ts := [2, 2]) Try.underlying28 (by kernel_rfl) (by kernel_rfl) (by intro u hu; simp at hu; subst hu; exact Try.underlying2) (hval 1 28 v1 rfl rfl)
  obtain ⟨x1_0, x1_1, rfl⟩ := len2 hl1
  obtain ⟨xs2, hl2, rfl, i2⟩ := open_arr (n := 2) (ts := [2, 2]) Try.underlying28 (by kernel_rfl) (by kernel_rfl) (by intro u hu; simp at hu; subst hu; exact Try.underlying2) (hval 2 28 v2 rfl rfl)
  obtain ⟨x2_0, x2_1, rfl⟩ := len2 hl2
  obtain ⟨xs3, hl3, rfl, i3⟩ := open_arr (n := 2) (ts := [2, 2]) Try.underlying28 (by kernel_rfl) (by kernel_rfl) (by intro u hu; simp at hu; subst hu; exact Try.underlying2) (hval 3 28 v3 rfl rfl)
  obtain ⟨x3_0, x3_1, rfl⟩ := len2 hl3
  have hc := bool_any (sound_l_FnExactOmegaDouble W [.v (.int .i64 x0), .v (.agg ⟨[.int .i64 x1_0, .int .i64 x1_1]⟩), .v (.agg ⟨[.int .i64 x2_0, .int .i64 x2_1]⟩), .v (.agg ⟨[.int .i64 x3_0, .int .i64 x3_1]⟩)] [.int .i64 x0, .agg ⟨[.int .i64 x1_0, .int .i64 x1_1]⟩, .agg ⟨[.int .i64 x2_0, .int .i64 x2_1]⟩, .agg ⟨[.int .i64 x3_0, .int .i64 x3_1]⟩] _ ⟨rfl, rfl, rfl, rfl, True.intro⟩ rfl) (OmegaDouble_law x0 (x1_0, x1_1) (x2_0, x2_1) (x3_0, x3_1))
  refine hc.mono fun e W2 ⟨he, hb⟩ => ?_
  subst he
  refine ⟨_, rfl, _, _, _, [], p0 ++ (p1 ++ (p2 ++ (p3))), [], hW', ?_, ?_, rfl, Below.frame hb _, fun h => by cases h⟩
  · exact trodAll_mk1 (shut_bool Try.underlying4 true)
  · exact trodAll_stays Try.laidOut hb (ts := [2, 28, 28, 28]) (by intro t ht; simp at ht; rcases ht with rfl | rfl | rfl | rfl <;> exact ⟨by kernel_rfl, of_decide_eq_true (by kernel_rfl)⟩) hAk (fun x hx => hW'.lt x hx)
theorem FnExactOmegaDouble_holds : Rows.FnExactOmegaDoubleSaid :=
  OpenClaim.holds_of_wide 8 Try.f8 rfl rfl rfl rfl rfl rfl rfl ⟨rfl, rfl, rfl, rfl, rfl⟩ rfl rfl rfl rfl rfl (by kernel_rfl) Try.func8 FnExactOmegaDouble_facts
    (of_decide_eq_true (by kernel_rfl)) (by unfold Func.isWrapper; first | (rw [if_pos (by decide +kernel)]; kernel_rfl) | (rw [if_neg (by decide +kernel)]; exact ⟨rfl, rfl⟩))
    (fun os started H enc _ => FnExactOmegaDouble_lifted os started H enc)
end Go.Proofs.Ytgadfldmbpgimaa
