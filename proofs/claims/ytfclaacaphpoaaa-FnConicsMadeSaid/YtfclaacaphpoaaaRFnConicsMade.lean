/- Proved here: for every code the conics that are made agree, parabolas lie as far from their focus as from their line, and the conic through five points holds them. It holds for all arguments, without condition. -/
import Derived.Test.YtfclaacaphpoaaaSb
import Derived.Test.YtfclaacaphpoaaaJFnConicsMade
import Derived.Test.YtfclaacaphpoaaaFFnConicsMade
set_option linter.unusedSimpArgs false
set_option linter.unusedVariables false
namespace Go.Proofs.Ytfclaacaphpoaaa
open Go.RowKit Go.ChangeShapes Go.WideShapes Go.ChangeAt
set_option maxRecDepth 100000 in
theorem FnConicsMade_lifted (os : Os) (started : os.Started) (H : Type) (enc : TypeId × Value -> H) :
  ReturnsInHanded {} Try.checked os 4 .any (Rows.fnConicsMadeSpec.pre6 enc Try.prog Try.f4 Rows.fnConicsMadeRow.domain false) (Rows.fnConicsMadeSpec.post enc Try.prog Try.f4 false true false false) := by
 refine returnsInHanded_of_change (C := Try.checked) Try.own started (by kernel_rfl) Try.func4
  (ChangeSpec.witness6 (enc := enc) (C := Try.checked) false ⟨#[], #[.slice none 0 0], []⟩ 8 (by kernel_rfl) (by kernel_rfl) (by kernel_rfl) (by kernel_rfl)) ?_
 intro W base args ds gs before hval0 hW hcnd _
 have ZxA : ∀ (j : Nat) t v, Try.f4.params[j]? = some t -> args[j]? = some v -> Value.okWide Try.prog W .any base t v := hval0
 have hW' := hW
 obtain ⟨p, q, hA0, hV, rfl, hfz, hnd⟩ := hW
 have hA : DataW.TrodAll enc Try.prog W 0 (fun _ => true) true Try.f4.params.toList args.toList ds p := hA0
 rw [Try.params4] at hA ZxA
 have hAk := hA
 obtain ⟨v0, vs0, d0, ds0, p0, q0, hargs, rfl, rfl, h0, r0⟩ := trodAll_cons hA
 obtain ⟨rfl, rfl, rfl⟩ := trodAll_nil r0
 obtain rfl : args = #[v0] := by
  apply Array.toList_inj.1
  exact hargs
 obtain ⟨rfl, rfl⟩ := trodVars_none hV
 clear hA0 hval0
 simp only [List.append_nil] at hW' hAk
 have hG : GOK W := ⟨Nat.zero_le _, fun g vals h => by simp [gvars] at h⟩
 obtain ⟨n0, zs0, hn0, hm0, hb0, hr0⟩ := Zu3 Try.underlying22 Try.underlying5 (by kernel_rfl) (ZxA 0 22 v0 rfl rfl) h0
 have hc := Zuv (Ze7 W [.s n0 (.byts zs0)] [v0] [TR.v (.bool (l_FnConicsMade n0 zs0))] hG ⟨hr0, True.intro⟩ (by
  show some (bytB n0 zs0, [TR.v (.bool (l_FnConicsMade n0 zs0))]) = some (true, [TR.v (.bool (l_FnConicsMade n0 zs0))])
  rw [ZvY hn0 hb0])) rfl
 refine hc.mono fun e W2 ⟨he, hb⟩ => ?_
 subst he
 refine ⟨_, rfl, _, _, _, [], p0, [], hW', ?_, ?_, rfl, Below.frame hb _, fun h => by cases h⟩
 ·exact trodAll_mk1 (shut_bool Try.underlying4 true)
 ·exact Zfn Try.laidOut hb (ts := [22]) (by intro t ht; simp at ht; rcases ht with rfl <;> exact ⟨by kernel_rfl, of_decide_eq_true (by kernel_rfl)⟩) hAk (fun x hx => hW'.lt x hx)
theorem FnConicsMade_holds : Rows.FnConicsMadeSaid :=
 OpenClaim.holds_of_wide 4 Try.f4 rfl rfl rfl rfl rfl rfl rfl ⟨rfl, rfl, rfl, rfl, rfl⟩ rfl rfl rfl rfl rfl (by kernel_rfl) Try.func4 Zfo
  (of_decide_eq_true (by kernel_rfl)) (by unfold Func.isWrapper; first | (rw [if_pos (by decide +kernel)]; kernel_rfl) | (rw [if_neg (by decide +kernel)]; exact ⟨rfl, rfl⟩))
  (fun os started H enc _ => FnConicsMade_lifted os started H enc)
end Go.Proofs.Ytfclaacaphpoaaa
