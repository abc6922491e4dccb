/- Proved here: for every p, every conic and every line the desk and the specification give the same pole, with the same code of refusal. It holds for all arguments, without condition. -/
import Derived.Test.YtjpckmpeahinkaaSb
import Derived.Test.YtjpckmpeahinkaaJPoleOf
import Derived.Test.YtjpckmpeahinkaaFPoleOf
import Derived.Test.YtjpckmpeahinkaaQj
set_option linter.unusedSimpArgs false
set_option linter.unusedVariables false
namespace Go.Proofs.Ytjpckmpeahinkaa
open Go.RowKit Go.ChangeShapes Go.WideShapes Go.ChangeAt
theorem PoleOf_law (p : Int) (k : P6) (l : P3) : l_FnExactPoleOf p k l = true := by
  have e : i_PoleOf p k l = s_PoleOf p k l := by
    unfold i_PoleOf s_PoleOf i_PoleOf_c1 V_i_PoleOf_0 V_s_PoleOf_2 V_s_PoleOf_6 V_s_PoleOf_10 V_s_PoleOf_14
    rw [coniccode_eq p true, linecode p true]
    cases hf : i_IsField p
    · simp [i_asked, hf]
    · cases hk : i_isConic p k
      · simp [i_asked, hf]
      · cases hl : i_isLine p l
        · simp [i_asked, hf]
        · have h0 : i_asked p true true = 0 := by simp [i_asked, hf]
          have hfind : (pts p).findSome? (fun zz => if ((i_polarLine p k zz).2 && (i_polarLine p k zz).1 == l) = true then some (zz, (0 : Int)) else none) = (pts p).findSome? (fun zz => if ((s_l08Polar p k zz).2 && (s_l08Polar p k zz).1 == l) = true then some (zz, (0 : Int)) else none) := by
            have key : ∀ r : List P2, (∀ z ∈ r, i_isPoint p z = true) → r.findSome? (fun zz => if ((i_polarLine p k zz).2 && (i_polarLine p k zz).1 == l) = true then some (zz, (0 : Int)) else none) = r.findSome? (fun zz => if ((s_l08Polar p k zz).2 && (s_l08Polar p k zz).1 == l) = true then some (zz, (0 : Int)) else none) := by
              intro r
              induction r with
              | nil => intro _; rfl
              | cons z r ih =>
                intro hr
                rw [List.findSome?_cons, List.findSome?_cons, ih (fun w hw => hr w (List.mem_cons_of_mem _ hw)), polar_same hf hk (hr z List.mem_cons_self)]
            exact key _ fun z hz => isPoint_mem hz
          rw [determinant_eq hf hk, hfind]
          simp [h0]
  unfold l_FnExactPoleOf
  rw [show l_toConic k = k from rfl, show l_toLine l = l from rfl, e]
  simp [eqPoint_self]

set_option maxRecDepth 100000 in
theorem FnExactPoleOf_lifted (os : Os) (started : os.Started) (H : Type) (enc : TypeId × Value → H) :
    ReturnsInHanded {} Try.checked os 11 .any (Rows.fnExactPoleOfSpec.pre6 enc Try.prog Try.f11 Rows.fnExactPoleOfRow.domain false) (Rows.fnExactPoleOfSpec.post enc Try.prog Try.f11 false true false false) := by
  refine returnsInHanded_of_change (C := Try.checked) Try.own started (by kernel_rfl) Try.func11
    (ChangeSpec.witness6 (enc := enc) (C := Try.checked) false ⟨#[], #[.int .i64 0, .agg #[.int .i64 0, .int .i64 0, .int .i64 0, .int .i64 0, .int .i64 0, .int .i64 0], .agg #[.int .i64 0, .int .i64 0, .int .i64 0]], []⟩ 8 (by kernel_rfl) (by kernel_rfl) (by kernel_rfl) (by kernel_rfl)) ?_
  intro W base args ds gs before hval0 hW hcnd _
  have hval : ∀ (j : Nat) t v, Try.f11.params[j]? = some t → args[j]? = some v → Value.okWide Try.prog W .any base t v := hval0
  have hW' := hW
  obtain ⟨p, q, hA0, hV, rfl, hfz, hnd⟩ := hW
  have hA : DataW.TrodAll enc Try.prog W 0 (fun _ => true) true Try.f11.params.toList args.toList ds p := hA0
  rw [Try.params11] at hA hval
  have hAk := hA
  obtain ⟨v0, vs0, d0, ds0, p0, q0, hargs, rfl, rfl, h0, r0⟩ := trodAll_cons hA
  obtain ⟨v1, vs1, d1, ds1, p1, q1, rfl, rfl, rfl, h1, r1⟩ := trodAll_cons r0
  obtain ⟨v2, vs2, d2, ds2, p2, q2, rfl, rfl, rfl, h2, r2⟩ := trodAll_cons r1
  obtain ⟨rfl, rfl, rfl⟩ := trodAll_nil r2
  obtain rfl : args = #[v0, v1, v2] := by
    apply Array.toList_inj.1
    exact hargs
  obtain ⟨rfl, rfl⟩ := trodVars_none hV
  clear hA0 hval0
  simp only [List.append_nil] at hW' hAk
  obtain ⟨x0, rfl, i0⟩ := open_i64 Try.underlying2 (hval 0 2 v0 rfl rfl)
  obtain ⟨xs1, hl1, rfl, i1⟩ := open_arr (n := 6) (ts := [2, 2, 2, 2, 2, 2]) Try.underlying22 (by kernel_rfl) (by kernel_rfl) (by intro u hu; simp at hu; subst hu; exact Try.underlying2) (hval 1 22 v1 rfl rfl)
  obtain ⟨x1_0, x1_1, x1_2, x1_3, x1_4, x1_5, rfl⟩ := len6 hl1
  obtain ⟨xs2, hl2, rfl, i2⟩ := open_arr (n := 3) (ts := [2, 2, 2]) Try.underlying43 (by kernel_rfl) (by kernel_rfl) (by intro u hu; simp at hu; subst hu; exact Try.underlying2) (hval 2 43 v2 rfl rfl)
  obtain ⟨x2_0, x2_1, x2_2, rfl⟩ := len3 hl2
  have hc := bool_any (sound_l_FnExactPoleOf W [.v (.int .i64 x0), .v (.agg ⟨[.int .i64 x1_0, .int .i64 x1_1, .int .i64 x1_2, .int .i64 x1_3, .int .i64 x1_4, .int .i64 x1_5]⟩), .v (.agg ⟨[.int .i64 x2_0, .int .i64 x2_1, .int .i64 x2_2]⟩)] [.int .i64 x0, .agg ⟨[.int .i64 x1_0, .int .i64 x1_1, .int .i64 x1_2, .int .i64 x1_3, .int .i64 x1_4, .int .i64 x1_5]⟩, .agg ⟨[.int .i64 x2_0, .int .i64 x2_1, .int .i64 x2_2]⟩] _ ⟨rfl, rfl, rfl, True.intro⟩ rfl) (PoleOf_law x0 (x1_0, x1_1, x1_2, x1_3, x1_4, x1_5) (x2_0, x2_1, x2_2))
  refine hc.mono fun e W2 ⟨he, hb⟩ => ?_
  subst he
  refine ⟨_, rfl, _, _, _, [], p0 ++ (p1 ++ (p2)), [], hW', ?_, ?_, rfl, Below.frame hb _, fun h => by cases h⟩
  · exact trodAll_mk1 (shut_bool Try.underlying4 true)
  · exact trodAll_stays Try.laidOut hb (ts := [2, 22, 43]) (by intro t ht; simp at ht; rcases ht with rfl | rfl | rfl <;> exact ⟨by kernel_rfl, of_decide_eq_true (by kernel_rfl)⟩) hAk (fun x hx => hW'.lt x hx)
theorem FnExactPoleOf_holds : Rows.FnExactPoleOfSaid :=
  OpenClaim.holds_of_wide 11 Try.f11 rfl rfl rfl rfl rfl rfl rfl ⟨rfl, rfl, rfl, rfl, rfl⟩ rfl rfl rfl rfl rfl (by kernel_rfl) Try.func11 FnExactPoleOf_facts
    (of_decide_eq_true (by kernel_rfl)) (by unfold Func.isWrapper; first | (rw [if_pos (by decide +kernel)]; kernel_rfl) | (rw [if_neg (by decide +kernel)]; exact ⟨rfl, rfl⟩))
    (fun os started H enc _ => FnExactPoleOf_lifted os started H enc)
end Go.Proofs.Ytjpckmpeahinkaa
