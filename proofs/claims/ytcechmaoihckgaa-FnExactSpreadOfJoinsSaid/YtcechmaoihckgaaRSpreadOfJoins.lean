/- Proved here: for every p and every three places the desk and the specification give the same spread of the two joins, with the same code of refusal. It holds for all arguments, without condition. -/
import Derived.Test.YtcechmaoihckgaaSb
import Derived.Test.YtcechmaoihckgaaJSpreadOfJoins
import Derived.Test.YtcechmaoihckgaaFSpreadOfJoins
import Derived.Test.YtcechmaoihckgaaQl
set_option linter.unusedSimpArgs false
set_option linter.unusedVariables false
namespace Go.Proofs.Ytcechmaoihckgaa
open Go.RowKit Go.ChangeShapes Go.WideShapes Go.ChangeAt
theorem null_same (p : Int) (a : P3) : s_l09Null p a = i_isNullPlace p a := rfl
theorem SpreadOfJoins_law (p : Int) (a b c : P3) : l_FnExactSpreadOfJoins p a b c = true := by
  have e : i_SpreadOfJoins p a b c = s_SpreadOfJoins p a b c := by
    unfold i_SpreadOfJoins s_SpreadOfJoins i_SpreadOfJoins_c1
    rw [placecode_eq p true]
    refine ite_congr rfl (fun _ => rfl) fun h => ?_
    have hf := (asked_zero (by simpa using h)).1
    rw [join_same hf, join_same hf, quadrance_eq hf, null_same, null_same]
  unfold l_FnExactSpreadOfJoins
  rw [toPlace_id, toPlace_id, toPlace_id, e]
  simp

set_option maxRecDepth 100000 in
theorem FnExactSpreadOfJoins_lifted (os : Os) (started : os.Started) (H : Type) (enc : TypeId × Value → H) :
    ReturnsInHanded {} Try.checked os 12 .any (Rows.fnExactSpreadOfJoinsSpec.pre6 enc Try.prog Try.f12 Rows.fnExactSpreadOfJoinsRow.domain false) (Rows.fnExactSpreadOfJoinsSpec.post enc Try.prog Try.f12 false true false false) := by
  refine returnsInHanded_of_change (C := Try.checked) Try.own started (by kernel_rfl) Try.func12
    (ChangeSpec.witness6 (enc := enc) (C := Try.checked) false ⟨#[], #[.int .i64 0, .agg #[.int .i64 0, .int .i64 0, .int .i64 0], .agg #[.int .i64 0, .int .i64 0, .int .i64 0], .agg #[.int .i64 0, .int .i64 0, .int .i64 0]], []⟩ 8 (by kernel_rfl) (by kernel_rfl) (by kernel_rfl) (by kernel_rfl)) ?_
  intro W base args ds gs before hval0 hW hcnd _
  have hval : ∀ (j : Nat) t v, Try.f12.params[j]? = some t → args[j]? = some v → Value.okWide Try.prog W .any base t v := hval0
  have hW' := hW
  obtain ⟨p, q, hA0, hV, rfl, hfz, hnd⟩ := hW
  have hA : DataW.TrodAll enc Try.prog W 0 (fun _ => true) true Try.f12.params.toList args.toList ds p := hA0
  rw [Try.params12] at hA hval
  have hAk := hA
  obtain ⟨v0, vs0, d0, ds0, p0, q0, hargs, rfl, rfl, h0, r0⟩ := trodAll_cons hA
  obtain ⟨v1, vs1, d1, ds1, p1, q1, rfl, rfl, rfl, h1, r1⟩ := trodAll_cons r0
  obtain ⟨v2, vs2, d2, ds2, p2, q2, rfl, rfl, rfl, h2, r2⟩ := trodAll_cons r1
  obtain ⟨v3, vs3, d3, ds3, p3, q3, rfl, rfl, rfl, h3, r3⟩ := trodAll_cons r2
  obtain ⟨rfl, rfl, rfl⟩ := trodAll_nil r3
  obtain rfl : args = #[v0, v1, v2, v3] := by
    apply Array.toList_inj.1
    exact hargs
  obtain ⟨rfl, rfl⟩ := trodVars_none hV
  clear hA0 hval0
  simp only [List.append_nil] at hW' hAk
  obtain ⟨x0, rfl, i0⟩ := open_i64 Try.underlying2 (hval 0 2 v0 rfl rfl)
  obtain ⟨xs1, hl1, rfl, i1⟩ := open_arr (n := 3) (ts := [2, 2, 2]) Try.underlying22 (by kernel_rfl) (by kernel_rfl) (by intro u hu; simp at hu; subst hu; exact Try.underlying2) (hval 1 22 v1 rfl rfl)
  obtain ⟨x1_0, x1_1, x1_2, rfl⟩ := len3 hl1
  obtain ⟨xs2, hl2, rfl, i2⟩ := open_arr (n := 3) (ts := [2, 2, 2]) Try.underlying22 (by kernel_rfl) (by kernel_rfl) (by intro u hu; simp at hu; subst hu; exact Try.underlying2) (hval 2 22 v2 rfl rfl)
  obtain ⟨x2_0, x2_1, x2_2, rfl⟩ := len3 hl2
  obtain ⟨xs3, hl3, rfl, i3⟩ := open_arr (n := 3) (ts := [2, 2, 2]) Try.underlying22 (by kernel_rfl) (by kernel_rfl) (by intro u hu; simp at hu; subst hu; exact Try.underlying2) (hval 3 22 v3 rfl rfl)
  obtain ⟨x3_0, x3_1, x3_2, rfl⟩ := len3 hl3
  have hc := bool_any (sound_l_FnExactSpreadOfJoins W [.v (.int .i64 x0), .v (.agg ⟨[.int .i64 x1_0, .int .i64 x1_1, .int .i64 x1_2]⟩), .v (.agg ⟨[.int .i64 x2_0, .int .i64 x2_1, .int .i64 x2_2]⟩), .v (.agg ⟨[.int .i64 x3_0, .int .i64 x3_1, .int .i64 x3_2]⟩)] [.int .i64 x0, .agg ⟨[.int .i64 x1_0, .int .i64 x1_1, .int .i64 x1_2]⟩, .agg ⟨[.int .i64 x2_0, .int .i64 x2_1, .int .i64 x2_2]⟩, .agg ⟨[.int .i64 x3_0, .int .i64 x3_1, .int .i64 x3_2]⟩] _ ⟨rfl, rfl, rfl, rfl, True.intro⟩ rfl) (SpreadOfJoins_law x0 (x1_0, x1_1, x1_2) (x2_0, x2_1, x2_2) (x3_0, x3_1, x3_2))
  refine hc.mono fun e W2 ⟨he, hb⟩ => ?_
  subst he
  refine ⟨_, rfl, _, _, _, [], p0 ++ (p1 ++ (p2 ++ (p3))), [], hW', ?_, ?_, rfl, Below.frame hb _, fun h => by cases h⟩
  · exact trodAll_mk1 (shut_bool Try.underlying4 true)
  · exact trodAll_stays Try.laidOut hb (ts := [2, 22, 22, 22]) (by intro t ht; simp at ht; rcases ht with rfl | rfl | rfl | rfl <;> exact ⟨by kernel_rfl, of_decide_eq_true (by kernel_rfl)⟩) hAk (fun x hx => hW'.lt x hx)
theorem FnExactSpreadOfJoins_holds : Rows.FnExactSpreadOfJoinsSaid :=
  OpenClaim.holds_of_wide 12 Try.f12 rfl rfl rfl rfl rfl rfl rfl ⟨rfl, rfl, rfl, rfl, rfl⟩ rfl rfl rfl rfl rfl (by kernel_rfl) Try.func12 FnExactSpreadOfJoins_facts
    (of_decide_eq_true (by kernel_rfl)) (by unfold Func.isWrapper; first | (rw [if_pos (by decide +kernel)]; kernel_rfl) | (rw [if_neg (by decide +kernel)]; exact ⟨rfl, rfl⟩))
    (fun os started H enc _ => FnExactSpreadOfJoins_lifted os started H enc)
end Go.Proofs.Ytcechmaoihckgaa
