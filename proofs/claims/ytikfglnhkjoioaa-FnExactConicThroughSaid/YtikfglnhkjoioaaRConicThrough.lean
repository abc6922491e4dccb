/- Proved here: for every p and every list of points the desk and the specification give the same conic, with the same code of refusal. It holds for all arguments, without condition. -/
import Derived.Test.YtikfglnhkjoioaaSb
import Derived.Test.YtikfglnhkjoioaaJConicThrough
import Derived.Test.YtikfglnhkjoioaaFConicThrough
set_option linter.unusedSimpArgs false
set_option linter.unusedVariables false
namespace Go.Proofs.Ytikfglnhkjoioaa
open Go.RowKit Go.ChangeShapes Go.WideShapes Go.ChangeAt
set_option maxRecDepth 100000 in
theorem FnExactConicThrough_lifted (os : Os) (started : os.Started) (H : Type) (enc : TypeId × Value → H) :
    ReturnsInHanded {} Try.checked os 4 .any (Rows.fnExactConicThroughSpec.pre6 enc Try.prog Try.f4 Rows.fnExactConicThroughRow.domain false) (Rows.fnExactConicThroughSpec.post enc Try.prog Try.f4 false true false false) := by
  refine returnsInHanded_of_change (C := Try.checked) Try.own started (by kernel_rfl) Try.func4
    (ChangeSpec.witness6 (enc := enc) (C := Try.checked) false ⟨#[], #[.int .i64 0, .slice none 0 0], []⟩ 8 (by kernel_rfl) (by kernel_rfl) (by kernel_rfl) (by kernel_rfl)) ?_
  intro W base args ds gs before hval0 hW hcnd _
  have hval : ∀ (j : Nat) t v, Try.f4.params[j]? = some t → args[j]? = some v → Value.okWide Try.prog W .any base t v := hval0
  have hW' := hW
  obtain ⟨p, q, hA0, hV, rfl, hfz, hnd⟩ := hW
  have hA : DataW.TrodAll enc Try.prog W 0 (fun _ => true) true Try.f4.params.toList args.toList ds p := hA0
  rw [Try.params4] at hA hval
  have hAk := hA
  obtain ⟨v0, vs0, d0, ds0, p0, q0, hargs, rfl, rfl, h0, r0⟩ := trodAll_cons hA
  obtain ⟨v1, vs1, d1, ds1, p1, q1, rfl, rfl, rfl, h1, r1⟩ := trodAll_cons r0
  obtain ⟨rfl, rfl, rfl⟩ := trodAll_nil r1
  obtain rfl : args = #[v0, v1] := by
    apply Array.toList_inj.1
    exact hargs
  obtain ⟨rfl, rfl⟩ := trodVars_none hV
  clear hA0 hval0
  simp only [List.append_nil] at hW' hAk
  have hG : GOK W := ⟨Nat.zero_le _, fun g vals h => by simp [gvars] at h⟩
  obtain ⟨x0, rfl, i0⟩ := open_i64 Try.underlying2 (hval 0 2 v0 rfl rfl)
  obtain ⟨n1, zs1, hn1, hm1, hr1⟩ := open_prs Try.underlying31 Try.underlying47 Try.underlying2 (by kernel_rfl) (by kernel_rfl) (hval 1 31 v1 rfl rfl) h1
  have hc := bool_any (sound_l_FnExactConicThrough W [.v (.int .i64 x0), .s n1 (.ints zs1)] [.int .i64 x0, v1] [TR.v (.bool (l_FnExactConicThrough x0 n1 zs1))] hG ⟨rfl, hr1, True.intro⟩ (by
    show some ((Nat.beq zs1.length (2 * n1) && Nat.ble n1 9223372036854775807), [TR.v (.bool (l_FnExactConicThrough x0 n1 zs1))]) = some (true, [TR.v (.bool (l_FnExactConicThrough x0 n1 zs1))])
    rw [show (Nat.beq zs1.length (2 * n1) && Nat.ble n1 9223372036854775807) = true from by rw [hn1, Nat.beq_refl, Bool.true_and]; exact Nat.ble_eq_true_of_le (by unfold maxLen at hm1; omega)])) rfl
  refine hc.mono fun e W2 ⟨he, hb⟩ => ?_
  subst he
  refine ⟨_, rfl, _, _, _, [], p0 ++ (p1), [], hW', ?_, ?_, rfl, Below.frame hb _, fun h => by cases h⟩
  · exact trodAll_mk1 (shut_bool Try.underlying4 true)
  · exact trodAll_stays Try.laidOut hb (ts := [2, 31]) (by intro t ht; simp at ht; rcases ht with rfl | rfl <;> exact ⟨by kernel_rfl, of_decide_eq_true (by kernel_rfl)⟩) hAk (fun x hx => hW'.lt x hx)
theorem FnExactConicThrough_holds : Rows.FnExactConicThroughSaid :=
  OpenClaim.holds_of_wide 4 Try.f4 rfl rfl rfl rfl rfl rfl rfl ⟨rfl, rfl, rfl, rfl, rfl⟩ rfl rfl rfl rfl rfl (by kernel_rfl) Try.func4 FnExactConicThrough_facts
    (of_decide_eq_true (by kernel_rfl)) (by unfold Func.isWrapper; first | (rw [if_pos (by decide +kernel)]; kernel_rfl) | (rw [if_neg (by decide +kernel)]; exact ⟨rfl, rfl⟩))
    (fun os started H enc _ => FnExactConicThrough_lifted os started H enc)
end Go.Proofs.Ytikfglnhkjoioaa
