/- Proved here: for every p, every conic and every point the desk and the specification give the same polar, with the same code of refusal. It holds for all arguments, without condition. -/
import Derived.Test.YtjpckmpeahinkaaSb
import Derived.Test.YtjpckmpeahinkaaJPolarOf
import Derived.Test.YtjpckmpeahinkaaFPolarOf
import Derived.Test.YtjpckmpeahinkaaQc
set_option linter.unusedSimpArgs false
set_option linter.unusedVariables false
namespace Go.Proofs.Ytjpckmpeahinkaa
open Go.RowKit Go.ChangeShapes Go.WideShapes Go.ChangeAt
theorem lin_nn {x y z a b : Int} (hx : 0 ≤ x ∧ x ≤ 60) (ha : 0 ≤ a ∧ a ≤ 30) (hy : 0 ≤ y ∧ y ≤ 60) (hb : 0 ≤ b ∧ b ≤ 30) (hz : 0 ≤ z ∧ z ≤ 60) : 0 ≤ wrap64 (wrap64 (wrap64 (x * a) + wrap64 (y * b)) + z) := by
  have mb : ∀ {u v : Int}, 0 ≤ u ∧ u ≤ 60 → 0 ≤ v ∧ v ≤ 30 → 0 ≤ u * v ∧ u * v ≤ 1800 := by
    intro u v hu hv
    refine ⟨Int.mul_nonneg hu.1 hv.1, ?_⟩
    calc u * v ≤ 60 * v := Int.mul_le_mul_of_nonneg_right hu.2 hv.1
      _ ≤ 1800 := by omega
  have m1 := mb hx ha; have m2 := mb hy hb
  rw [wrapS (x := x * a) (by omega), wrapS (x := y * b) (by omega), wrapS (x := x * a + y * b) (by omega), wrapS (by omega)]
  omega
theorem normal_eq {p a b c : Int} (h : i_IsField p = true) (ha : 0 ≤ a ∧ a < p) (hb : 0 ≤ b ∧ b < p) (hc : 0 ≤ c ∧ c < p) : s_l01Normal p a b c = i_makeLine p a b c := by
  unfold s_l01Normal i_makeLine i_divide i_rest s_l01Mod
  rw [mod_id ha, mod_id hb, mod_id hc, (inv_facts h ha).1, (inv_facts h hb).1]
theorem isPoint_num {p : Int} {a : P2} (h : i_isPoint p a = true) : (0 ≤ a.1 ∧ a.1 < p) ∧ (0 ≤ a.2 ∧ a.2 < p) := by
  unfold i_isPoint at h
  simpa [i_areNumbers, isNumber_iff] using h
theorem polar_same {p : Int} {k : P6} {a : P2} (h : i_IsField p = true) (hk : i_isConic p k = true) (ha : i_isPoint p a = true) : s_l08Polar p k a = i_polarLine p k a := by
  have hp := i_IsField_ok h
  obtain ⟨k0, k1, k2, k3, k4, k5⟩ := isConic_num hk
  obtain ⟨a0, a1⟩ := isPoint_num ha
  have hp2 := hp
  unfold Pr at hp2
  have d0 : wrap64 (2 * k.1) = 2 * k.1 := wrapS (by omega)
  have d2 : wrap64 (2 * k.2.2.1) = 2 * k.2.2.1 := wrapS (by omega)
  have d5 : wrap64 (2 * k.2.2.2.2.2) = 2 * k.2.2.2.2.2 := wrapS (by omega)
  have hU := lin_nn (x := wrap64 (2 * k.1)) (a := a.1) (y := k.2.1) (b := a.2) (z := k.2.2.2.1) (by omega) (by omega) (by omega) (by omega) (by omega)
  have hV := lin_nn (x := k.2.1) (a := a.1) (y := wrap64 (2 * k.2.2.1)) (b := a.2) (z := k.2.2.2.2.1) (by omega) (by omega) (by omega) (by omega) (by omega)
  have hW := lin_nn (x := k.2.2.2.1) (a := a.1) (y := k.2.2.2.2.1) (b := a.2) (z := wrap64 (2 * k.2.2.2.2.2)) (by omega) (by omega) (by omega) (by omega) (by omega)
  unfold s_l08Polar i_polarLine i_polar i_rest
  simp only [tmod_pos hU, tmod_pos hV, tmod_pos hW]
  rw [normal_eq h (rest_b hp _) (rest_b hp _) (rest_b hp _)]
theorem given_eq (p : Int) (b : Bool) (k : P6) (a : P2) : s_l08Given p k a = i_asked p b (if i_isConic p k = true then i_isPoint p a else false) := by
  unfold s_l08Given s_l08Code s_l01Code i_asked s_l01Field
  cases h : i_IsField p
  · rfl
  · have hp := i_IsField_ok h
    simp only [conic_eq hp, List.all_cons, List.all_nil, Bool.and_true, point_eq hp]
    cases i_isConic p k <;> cases i_isPoint p a <;> rfl
theorem eqLine_self (a : P3) : l_eqLine a a = true := by simp [l_eqLine]
theorem PolarOf_law (p : Int) (k : P6) (a : P2) : l_FnExactPolarOf p k a = true := by
  have e : i_PolarOf p k a = s_PolarOf p k a := by
    unfold i_PolarOf s_PolarOf i_PolarOf_c1
    rw [given_eq p true]
    refine ite_congr rfl (fun _ => rfl) fun h => ?_
    obtain ⟨hf, hb⟩ := asked_zero (by simpa using h)
    cases hk : i_isConic p k
    · rw [hk] at hb; cases hb
    · rw [hk] at hb
      rw [polar_same hf hk hb]
  unfold l_FnExactPolarOf
  rw [show l_toConic k = k from rfl, show l_toPoint a = a from rfl, e]
  simp [eqLine_self]

set_option maxRecDepth 100000 in
theorem FnExactPolarOf_lifted (os : Os) (started : os.Started) (H : Type) (enc : TypeId × Value → H) :
    ReturnsInHanded {} Try.checked os 8 .any (Rows.fnExactPolarOfSpec.pre6 enc Try.prog Try.f8 Rows.fnExactPolarOfRow.domain false) (Rows.fnExactPolarOfSpec.post enc Try.prog Try.f8 false true false false) := by
  refine returnsInHanded_of_change (C := Try.checked) Try.own started (by kernel_rfl) Try.func8
    (ChangeSpec.witness6 (enc := enc) (C := Try.checked) false ⟨#[], #[.int .i64 0, .agg #[.int .i64 0, .int .i64 0, .int .i64 0, .int .i64 0, .int .i64 0, .int .i64 0], .agg #[.int .i64 0, .int .i64 0]], []⟩ 8 (by kernel_rfl) (by kernel_rfl) (by kernel_rfl) (by kernel_rfl)) ?_
  intro W base args ds gs before hval0 hW hcnd _
  have hval : ∀ (j : Nat) t v, Try.f8.params[j]? = some t → args[j]? = some v → Value.okWide Try.prog W .any base t v := hval0
  have hW' := hW
  obtain ⟨p, q, hA0, hV, rfl, hfz, hnd⟩ := hW
  have hA : DataW.TrodAll enc Try.prog W 0 (fun _ => true) true Try.f8.params.toList args.toList ds p := hA0
  rw [Try.params8] at hA hval
  have hAk := hA
  obtain ⟨v0, vs0, d0, ds0, p0, q0, hargs, rfl, rfl, h0, r0⟩ := trodAll_cons hA
  obtain ⟨v1, vs1, d1, ds1, p1, q1, rfl, rfl, rfl, h1, r1⟩ := trodAll_cons r0
  obtain ⟨v2, vs2, d2, ds2, p2, q2, rfl, rfl, rfl, h2, r2⟩ := trodAll_cons r1
  obtain ⟨rfl, rfl, rfl⟩ := trodAll_nil r2
  obtain rfl : args = #[v0, v1, v2] := by
    apply Array.toList_inj.1
    exact hargs
  obtain ⟨rfl, rfl⟩ := trodVars_none hV
  clear hA0 hval0
  simp only [List.append_nil] at hW' hAk
  obtain ⟨x0, rfl, i0⟩ := open_i64 Try.underlying2 (hval 0 2 v0 rfl rfl)
  obtain ⟨xs1, hl1, rfl, i1⟩ := open_arr (n := 6) (ts := [2, 2, 2, 2, 2, 2]) Try.underlying22 (by kernel_rfl) (by kernel_rfl) (by intro u hu; simp at hu; subst hu; exact Try.underlying2) (hval 1 22 v1 rfl rfl)
  obtain ⟨x1_0, x1_1, x1_2, x1_3, x1_4, x1_5, rfl⟩ := len6 hl1
  obtain ⟨xs2, hl2, rfl, i2⟩ := open_arr (n := 2) (ts := [2, 2]) Try.underlying42 (by kernel_rfl) (by kernel_rfl) (by intro u hu; simp at hu; subst hu; exact Try.underlying2) (hval 2 42 v2 rfl rfl)
  obtain ⟨x2_0, x2_1, rfl⟩ := len2 hl2
  have hc := bool_any (sound_l_FnExactPolarOf W [.v (.int .i64 x0), .v (.agg ⟨[.int .i64 x1_0, .int .i64 x1_1, .int .i64 x1_2, .int .i64 x1_3, .int .i64 x1_4, .int .i64 x1_5]⟩), .v (.agg ⟨[.int .i64 x2_0, .int .i64 x2_1]⟩)] [.int .i64 x0, .agg ⟨[.int .i64 x1_0, .int .i64 x1_1, .int .i64 x1_2, .int .i64 x1_3, .int .i64 x1_4, .int .i64 x1_5]⟩, .agg ⟨[.int .i64 x2_0, .int .i64 x2_1]⟩] _ ⟨rfl, rfl, rfl, True.intro⟩ rfl) (PolarOf_law x0 (x1_0, x1_1, x1_2, x1_3, x1_4, x1_5) (x2_0, x2_1))
  refine hc.mono fun e W2 ⟨he, hb⟩ => ?_
  subst he
  refine ⟨_, rfl, _, _, _, [], p0 ++ (p1 ++ (p2)), [], hW', ?_, ?_, rfl, Below.frame hb _, fun h => by cases h⟩
  · exact trodAll_mk1 (shut_bool Try.underlying4 true)
  · exact trodAll_stays Try.laidOut hb (ts := [2, 22, 42]) (by intro t ht; simp at ht; rcases ht with rfl | rfl | rfl <;> exact ⟨by kernel_rfl, of_decide_eq_true (by kernel_rfl)⟩) hAk (fun x hx => hW'.lt x hx)
theorem FnExactPolarOf_holds : Rows.FnExactPolarOfSaid :=
  OpenClaim.holds_of_wide 8 Try.f8 rfl rfl rfl rfl rfl rfl rfl ⟨rfl, rfl, rfl, rfl, rfl⟩ rfl rfl rfl rfl rfl (by kernel_rfl) Try.func8 FnExactPolarOf_facts
    (of_decide_eq_true (by kernel_rfl)) (by unfold Func.isWrapper; first | (rw [if_pos (by decide +kernel)]; kernel_rfl) | (rw [if_neg (by decide +kernel)]; exact ⟨rfl, rfl⟩))
    (fun os started H enc _ => FnExactPolarOf_lifted os started H enc)
end Go.Proofs.Ytjpckmpeahinkaa
