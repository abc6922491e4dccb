/- Proved here: for every p and every conic the desk and the specification give the same kind, with the same code of refusal. It holds for all arguments, without condition. -/
import Derived.Test.YtjpckmpeahinkaaPc
import Derived.Test.YtjpckmpeahinkaaRb
import Derived.Test.YtjpckmpeahinkaaLKindOf
import Derived.Test.YtjpckmpeahinkaaJKindOf
set_option linter.unusedSimpArgs false
set_option linter.unusedVariables false
namespace Go.Proofs.Ytjpckmpeahinkaa
open Go.RowKit Go.ChangeShapes Go.WideShapes Go.ChangeAt

theorem roots_eq (p a : Int) : ∀ (n : Nat) (x : Int), 0 ≤ x → (srootLoop p a n x).2 = decide (0 ≤ rootLoop p a n x)
  | 0, x, _ => rfl
  | n + 1, x, hx => by
    unfold srootLoop rootLoop
    split
    · simp [hx]
    · exact roots_eq p a n (x + 1) (by omega)
theorem square_eq (p a : Int) : s_l01Square a p = i_squareKind p a := by
  unfold s_l01Square i_squareKind s_l01Root i_root
  rw [roots_eq p a p.toNat 0 (by omega)]
theorem KindOf_law (p : Int) (k : P6) : l_FnExactKindOf p k = true := by
  have e : i_KindOf p k = s_KindOf p k := by
    unfold i_KindOf s_KindOf i_KindOf_c1
    rw [coniccode_eq]
    unfold s_l08Kind i_conicKind
    rw [square_eq]
    rfl
  unfold l_FnExactKindOf
  rw [toConic_id, e]
  simp

set_option maxRecDepth 100000 in
theorem FnExactKindOf_lifted (os : Os) (started : os.Started) (H : Type) (enc : TypeId × Value → H) :
    ReturnsInHanded {} Try.checked os 5 .any (Rows.fnExactKindOfSpec.pre6 enc Try.prog Try.f5 Rows.fnExactKindOfRow.domain false) (Rows.fnExactKindOfSpec.post enc Try.prog Try.f5 false true false false) := by
  refine returnsInHanded_of_change (C := Try.checked) Try.own started (by kernel_rfl) Try.func5
    (ChangeSpec.witness6 (enc := enc) (C := Try.checked) false ⟨#[], #[.int .i64 0, .agg #[.int .i64 0, .int .i64 0, .int .i64 0, .int .i64 0, .int .i64 0, .int .i64 0]], []⟩ 8 (by kernel_rfl) (by kernel_rfl) (by kernel_rfl) (by kernel_rfl)) ?_
  intro W base args ds gs before hval0 hW hcnd _
  have hval : ∀ (j : Nat) t v, Try.f5.params[j]? = some t → args[j]? = some v → Value.okWide Try.prog W .any base t v := hval0
  have hW' := hW
  obtain ⟨p, q, hA0, hV, rfl, hfz, hnd⟩ := hW
  have hA : DataW.TrodAll enc Try.prog W 0 (fun _ => true) true Try.f5.params.toList args.toList ds p := hA0
  rw [Try.params5] at hA hval
  have hAk := hA
  obtain ⟨v0, vs0, d0, ds0, p0, q0, hargs, rfl, rfl, h0, r0⟩ := trodAll_cons hA
  obtain ⟨v1, vs1, d1, ds1, p1, q1, rfl, rfl, rfl, h1, r1⟩ := trodAll_cons r0
  obtain ⟨rfl, rfl, rfl⟩ := trodAll_nil r1
  obtain rfl : args = #[v0, v1] := by
    apply Array.toList_inj.1
    exact hargs
  obtain ⟨rfl, rfl⟩ := trodVars_none hV
  clear hA0 hval0
  simp only [List.append_nil] at hW' hAk
  obtain ⟨x0, rfl, i0⟩ := open_i64 Try.underlying2 (hval 0 2 v0 rfl rfl)
  obtain ⟨xs1, hl1, rfl, i1⟩ := open_arr (n := 6) (ts := [2, 2, 2, 2, 2, 2]) Try.underlying22 (by kernel_rfl) (by kernel_rfl) (by intro u hu; simp at hu; subst hu; exact Try.underlying2) (hval 1 22 v1 rfl rfl)
  obtain ⟨x1_0, x1_1, x1_2, x1_3, x1_4, x1_5, rfl⟩ := len6 hl1
  have hlaw : l_FnExactKindOf x0 (x1_0, x1_1, x1_2, x1_3, x1_4, x1_5) = true := KindOf_law x0 (x1_0, x1_1, x1_2, x1_3, x1_4, x1_5)
  refine (l_FnExactKindOf_any x0 x1_0 x1_1 x1_2 x1_3 x1_4 x1_5 W).mono fun e W2 ⟨he, hb⟩ => ?_
  subst he
  rw [hlaw]
  refine ⟨_, rfl, _, _, _, [], p0 ++ (p1), [], hW', ?_, ?_, rfl, Below.frame hb _, fun h => by cases h⟩
  · exact trodAll_mk1 (shut_bool Try.underlying4 true)
  · exact trodAll_stays Try.laidOut hb (ts := [2, 22]) (by intro t ht; simp at ht; rcases ht with rfl | rfl <;> exact ⟨by kernel_rfl, of_decide_eq_true (by kernel_rfl)⟩) hAk (fun x hx => hW'.lt x hx)
theorem FnExactKindOf_holds : Rows.FnExactKindOfSaid :=
  OpenClaim.holds_of_wide 5 Try.f5 rfl rfl rfl rfl rfl rfl rfl ⟨rfl, rfl, rfl, rfl, rfl⟩ rfl rfl rfl rfl rfl (by kernel_rfl) Try.func5 FnExactKindOf_facts
    (of_decide_eq_true (by kernel_rfl)) (by unfold Func.isWrapper; first | (rw [if_pos (by decide +kernel)]; kernel_rfl) | (rw [if_neg (by decide +kernel)]; exact ⟨rfl, rfl⟩))
    (fun os started H enc _ => FnExactKindOf_lifted os started H enc)

end Go.Proofs.Ytjpckmpeahinkaa
