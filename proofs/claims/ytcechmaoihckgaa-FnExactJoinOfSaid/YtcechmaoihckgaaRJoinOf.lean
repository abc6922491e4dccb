/- Proved here: for every p and every two places the desk and the specification give the same join, with the same code of refusal. It holds for all arguments, without condition. -/
import Derived.Test.YtcechmaoihckgaaSb
import Derived.Test.YtcechmaoihckgaaJJoinOf
import Derived.Test.YtcechmaoihckgaaFJoinOf
import Derived.Test.YtcechmaoihckgaaQl
set_option linter.unusedSimpArgs false
set_option linter.unusedVariables false
namespace Go.Proofs.Ytcechmaoihckgaa
open Go.RowKit Go.ChangeShapes Go.WideShapes Go.ChangeAt
theorem JoinOf_law (p : Int) (a b : P3) : l_FnExactJoinOf p a b = true := by
  have e : i_JoinOf p a b = s_JoinOf p a b := by
    unfold i_JoinOf s_JoinOf i_JoinOf_c1
    rw [placecode_eq p true]
    refine ite_congr rfl (fun _ => rfl) fun h => ite_congr rfl (fun _ => rfl) fun _ => ?_
    rw [join_same (asked_zero (by simpa using h)).1]
  unfold l_FnExactJoinOf
  rw [toPlace_id, toPlace_id, e]
  simp [eqPlace_self]

set_option maxRecDepth 100000 in
theorem FnExactJoinOf_lifted (os : Os) (started : os.Started) (H : Type) (enc : TypeId × Value → H) :
    ReturnsInHanded {} Try.checked os 10 .any (Rows.fnExactJoinOfSpec.pre6 enc Try.prog Try.f10 Rows.fnExactJoinOfRow.domain false) (Rows.fnExactJoinOfSpec.post enc Try.prog Try.f10 false true false false) := by
  refine returnsInHanded_of_change (C := Try.checked) Try.own started (by kernel_rfl) Try.func10
    (ChangeSpec.witness6 (enc := enc) (C := Try.checked) false ⟨#[], #[.int .i64 0, .agg #[.int .i64 0, .int .i64 0, .int .i64 0], .agg #[.int .i64 0, .int .i64 0, .int .i64 0]], []⟩ 8 (by kernel_rfl) (by kernel_rfl) (by kernel_rfl) (by kernel_rfl)) ?_
  intro W base args ds gs before hval0 hW hcnd _
  have hval : ∀ (j : Nat) t v, Try.f10.params[j]? = some t → args[j]? = some v → Value.okWide Try.prog W .any base t v := hval0
  have hW' := hW
  obtain ⟨p, q, hA0, hV, rfl, hfz, hnd⟩ := hW
  have hA : DataW.TrodAll enc Try.prog W 0 (fun _ => true) true Try.f10.params.toList args.toList ds p := hA0
  rw [Try.params10] at hA hval
  have hAk := hA
  obtain ⟨v0, vs0, d0, ds0, p0, q0, hargs, rfl, rfl, h0, r0⟩ := trodAll_cons hA
  obtain ⟨v1, vs1, d1, ds1, p1, q1, rfl, rfl, rfl, h1, r1⟩ := trodAll_cons r0
  obtain ⟨v2, vs2, d2, ds2, p2, q2, rfl, rfl, rfl, h2, r2⟩ := trodAll_cons r1
  obtain ⟨rfl, rfl, rfl⟩ := trodAll_nil r2
  obtain rfl : args = #[v0, v1, v2] := by
    apply Array.toList_inj.1
    exact hargs
  obtain ⟨rfl, rfl⟩ := trodVars_none hV
  clear hA0 hval0
  simp only [List.append_nil] at hW' hAk
  obtain ⟨x0, rfl, i0⟩ := open_i64 Try.underlying2 (hval 0 2 v0 rfl rfl)
  obtain ⟨xs1, hl1, rfl, i1⟩ := open_arr (n := 3) (ts := [2, 2, 2]) Try.underlying22 (by kernel_rfl) (by kernel_rfl) (by intro u hu; simp at hu; subst hu; exact Try.underlying2) (hval 1 22 v1 rfl rfl)
  obtain ⟨x1_0, x1_1, x1_2, rfl⟩ := len3 hl1
  obtain ⟨xs2, hl2, rfl, i2⟩ := open_arr (n := 3) (ts := [2, 2, 2]) Try.underlying22 (by kernel_rfl) (by kernel_rfl) (by intro u hu; simp at hu; subst hu; exact Try.underlying2) (hval 2 22 v2 rfl rfl)
  obtain ⟨x2_0, x2_1, x2_2, rfl⟩ := len3 hl2
  have hc := bool_any (sound_l_FnExactJoinOf W [.v (.int .i64 x0), .v (.agg ⟨[.int .i64 x1_0, .int .i64 x1_1, .int .i64 x1_2]⟩), .v (.agg ⟨[.int .i64 x2_0, .int .i64 x2_1, .int .i64 x2_2]⟩)] [.int .i64 x0, .agg ⟨[.int .i64 x1_0, .int .i64 x1_1, .int .i64 x1_2]⟩, .agg ⟨[.int .i64 x2_0, .int .i64 x2_1, .int .i64 x2_2]⟩] _ ⟨rfl, rfl, rfl, True.intro⟩ rfl) (JoinOf_law x0 (x1_0, x1_1, x1_2) (x2_0, x2_1, x2_2))
  refine hc.mono fun e W2 ⟨he, hb⟩ => ?_
  subst he
  refine ⟨_, rfl, _, _, _, [], p0 ++ (p1 ++ (p2)), [], hW', ?_, ?_, rfl, Below.frame hb _, fun h => by cases h⟩
  · exact trodAll_mk1 (shut_bool Try.underlying4 true)
  · exact trodAll_stays Try.laidOut hb (ts := [2, 22, 22]) (by intro t ht; simp at ht; rcases ht with rfl | rfl | rfl <;> exact ⟨by kernel_rfl, of_decide_eq_true (by kernel_rfl)⟩) hAk (fun x hx => hW'.lt x hx)
theorem FnExactJoinOf_holds : Rows.FnExactJoinOfSaid :=
  OpenClaim.holds_of_wide 10 Try.f10 rfl rfl rfl rfl rfl rfl rfl ⟨rfl, rfl, rfl, rfl, rfl⟩ rfl rfl rfl rfl rfl (by kernel_rfl) Try.func10 FnExactJoinOf_facts
    (of_decide_eq_true (by kernel_rfl)) (by unfold Func.isWrapper; first | (rw [if_pos (by decide +kernel)]; kernel_rfl) | (rw [if_neg (by decide +kernel)]; exact ⟨rfl, rfl⟩))
    (fun os started H enc _ => FnExactJoinOf_lifted os started H enc)
end Go.Proofs.Ytcechmaoihckgaa
