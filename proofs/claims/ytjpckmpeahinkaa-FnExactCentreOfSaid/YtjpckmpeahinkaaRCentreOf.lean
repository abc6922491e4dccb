/- Proved here: for every p and every conic the desk and the specification give the same centre, with the same code of refusal. It holds for all arguments, without condition. -/
import Derived.Test.YtjpckmpeahinkaaSb
import Derived.Test.YtjpckmpeahinkaaJCentreOf
import Derived.Test.YtjpckmpeahinkaaFCentreOf
import Derived.Test.YtjpckmpeahinkaaQj
set_option linter.unusedSimpArgs false
set_option linter.unusedVariables false
namespace Go.Proofs.Ytjpckmpeahinkaa
open Go.RowKit Go.ChangeShapes Go.WideShapes Go.ChangeAt
theorem centre_find {p : Int} {k : P6} (hf : i_IsField p = true) (hk : i_isConic p k = true) (hd : i_conicKind p k ≠ 0) :
    (pts p).findSome? (fun zz => if ((i_polar p k zz).1 == 0 && (i_polar p k zz).2.1 == 0) = true then some (zz, (0 : Int)) else none) = some ((s_l01Meet p (s_l01Normal p (wrap64 (2 * k.1)) k.2.1 k.2.2.2.1) (s_l01Normal p k.2.1 (wrap64 (2 * k.2.2.1)) k.2.2.2.2.1)).1, 0) := by
  obtain ⟨K, inst, φ, H⟩ := hom_of hf
  have h2 := H.two_ne hf
  rw [Ne, kind_zero H hf hk] at hd
  have l1 := ln_axis1 H hf hk (by grind)
  have l2 := ln_axis2 H hf hk (by grind)
  obtain ⟨_, _, X, Y, v1, v2, q1, q2⟩ := Ln.meet H hf l1 l2 (by grind)
  generalize hc : (s_l01Meet p (s_l01Normal p (wrap64 (2 * k.1)) k.2.1 k.2.2.2.1) (s_l01Normal p k.2.1 (wrap64 (2 * k.2.2.1)) k.2.2.2.2.1)).1 = c at v1 v2 ⊢
  have hmem : c ∈ pts p := mem_pts.2 ⟨v1.1, v2.1⟩
  have hfind : (pts p).find? (fun zz => (i_polar p k zz).1 == 0 && (i_polar p k zz).2.1 == 0) = some c := by
    have key : ∀ z, z ∈ pts p → (((i_polar p k z).1 == 0 && (i_polar p k z).2.1 == 0) = true ↔ (2 * φ k.1 * φ z.1 + φ k.2.1 * φ z.2 + φ k.2.2.2.1 = 0 ∧ φ k.2.1 * φ z.1 + 2 * φ k.2.2.1 * φ z.2 + φ k.2.2.2.2.1 = 0)) := by
      intro z hz
      have e1 := Vl.zero_iff H (vl_polar1 H hf hk (isPoint_mem hz))
      have e2 := Vl.zero_iff H (vl_polar2 H hf hk (isPoint_mem hz))
      rw [Bool.and_eq_true, beq_iff_eq, beq_iff_eq, e1, e2]
    refine find_only hmem ?_ ?_
    · rw [key c hmem, v1.2, v2.2]
      exact ⟨q1, q2⟩
    · intro z hz hq
      have hq := (key z hz).1 hq
      have hz' := mem_pts.1 hz
      have z1 := Vl.of (φ := φ) hz'.1; have z2 := Vl.of (φ := φ) hz'.2
      have hxy : φ z.1 = X ∧ φ z.2 = Y := by
        obtain ⟨r1, r2⟩ := hq
        generalize φ z.1 = Z at r1 r2 ⊢; generalize φ z.2 = W at r1 r2 ⊢
        clear z1 z2 v1 v2 l1 l2 key
        constructor <;> grind
      exact pair_eq ((Vl.eq_iff H z1 v1).2 hxy.1) ((Vl.eq_iff H z2 v2).2 hxy.2)
  have e : ∀ l : List P2, l.findSome? (fun zz => if ((i_polar p k zz).1 == 0 && (i_polar p k zz).2.1 == 0) = true then some (zz, (0 : Int)) else none) = (l.find? (fun zz => (i_polar p k zz).1 == 0 && (i_polar p k zz).2.1 == 0)).map fun z => (z, 0) := by
    intro l
    induction l with
    | nil => rfl
    | cons z l ih => rw [List.findSome?_cons, List.find?_cons, ih]; cases ((i_polar p k z).1 == 0 && (i_polar p k z).2.1 == 0) <;> rfl
  rw [e, hfind]
  rfl
theorem CentreOf_law (p : Int) (k : P6) : l_FnExactCentreOf p k = true := by
  have e : i_CentreOf p k = s_CentreOf p k := by
    unfold i_CentreOf s_CentreOf i_CentreOf_c1 V_i_CentreOf_0
    rw [coniccode_eq p true, kind_same]
    by_cases h : i_asked p true (i_isConic p k) = 0
    · obtain ⟨hf, hk⟩ := asked_zero h
      by_cases hd : i_conicKind p k = 0
      · simp [h, hd]
      · rw [centre_find hf hk hd]
        simp [h, hd]
    · simp [h]
  unfold l_FnExactCentreOf
  rw [show l_toConic k = k from rfl, e]
  simp [eqPoint_self]

set_option maxRecDepth 100000 in
theorem FnExactCentreOf_lifted (os : Os) (started : os.Started) (H : Type) (enc : TypeId × Value → H) :
    ReturnsInHanded {} Try.checked os 9 .any (Rows.fnExactCentreOfSpec.pre6 enc Try.prog Try.f9 Rows.fnExactCentreOfRow.domain false) (Rows.fnExactCentreOfSpec.post enc Try.prog Try.f9 false true false false) := by
  refine returnsInHanded_of_change (C := Try.checked) Try.own started (by kernel_rfl) Try.func9
    (ChangeSpec.witness6 (enc := enc) (C := Try.checked) false ⟨#[], #[.int .i64 0, .agg #[.int .i64 0, .int .i64 0, .int .i64 0, .int .i64 0, .int .i64 0, .int .i64 0]], []⟩ 8 (by kernel_rfl) (by kernel_rfl) (by kernel_rfl) (by kernel_rfl)) ?_
  intro W base args ds gs before hval0 hW hcnd _
  have hval : ∀ (j : Nat) t v, Try.f9.params[j]? = some t → args[j]? = some v → Value.okWide Try.prog W .any base t v := hval0
  have hW' := hW
  obtain ⟨p, q, hA0, hV, rfl, hfz, hnd⟩ := hW
  have hA : DataW.TrodAll enc Try.prog W 0 (fun _ => true) true Try.f9.params.toList args.toList ds p := hA0
  rw [Try.params9] at hA hval
  have hAk := hA
  obtain ⟨v0, vs0, d0, ds0, p0, q0, hargs, rfl, rfl, h0, r0⟩ := trodAll_cons hA
  obtain ⟨v1, vs1, d1, ds1, p1, q1, rfl, rfl, rfl, h1, r1⟩ := trodAll_cons r0
  obtain ⟨rfl, rfl, rfl⟩ := trodAll_nil r1
  obtain rfl : args = #[v0, v1] := by
    apply Array.toList_inj.1
    exact hargs
  obtain ⟨rfl, rfl⟩ := trodVars_none hV
  clear hA0 hval0
  simp only [List.append_nil] at hW' hAk
  obtain ⟨x0, rfl, i0⟩ := open_i64 Try.underlying2 (hval 0 2 v0 rfl rfl)
  obtain ⟨xs1, hl1, rfl, i1⟩ := open_arr (n := 6) (ts := [2, 2, 2, 2, 2, 2]) Try.underlying22 (by kernel_rfl) (by kernel_rfl) (by intro u hu; simp at hu; subst hu; exact Try.underlying2) (hval 1 22 v1 rfl rfl)
  obtain ⟨x1_0, x1_1, x1_2, x1_3, x1_4, x1_5, rfl⟩ := len6 hl1
  have hc := bool_any (sound_l_FnExactCentreOf W [.v (.int .i64 x0), .v (.agg ⟨[.int .i64 x1_0, .int .i64 x1_1, .int .i64 x1_2, .int .i64 x1_3, .int .i64 x1_4, .int .i64 x1_5]⟩)] [.int .i64 x0, .agg ⟨[.int .i64 x1_0, .int .i64 x1_1, .int .i64 x1_2, .int .i64 x1_3, .int .i64 x1_4, .int .i64 x1_5]⟩] _ ⟨rfl, rfl, True.intro⟩ rfl) (CentreOf_law x0 (x1_0, x1_1, x1_2, x1_3, x1_4, x1_5))
  refine hc.mono fun e W2 ⟨he, hb⟩ => ?_
  subst he
  refine ⟨_, rfl, _, _, _, [], p0 ++ (p1), [], hW', ?_, ?_, rfl, Below.frame hb _, fun h => by cases h⟩
  · exact trodAll_mk1 (shut_bool Try.underlying4 true)
  · exact trodAll_stays Try.laidOut hb (ts := [2, 22]) (by intro t ht; simp at ht; rcases ht with rfl | rfl <;> exact ⟨by kernel_rfl, of_decide_eq_true (by kernel_rfl)⟩) hAk (fun x hx => hW'.lt x hx)
theorem FnExactCentreOf_holds : Rows.FnExactCentreOfSaid :=
  OpenClaim.holds_of_wide 9 Try.f9 rfl rfl rfl rfl rfl rfl rfl ⟨rfl, rfl, rfl, rfl, rfl⟩ rfl rfl rfl rfl rfl (by kernel_rfl) Try.func9 FnExactCentreOf_facts
    (of_decide_eq_true (by kernel_rfl)) (by unfold Func.isWrapper; first | (rw [if_pos (by decide +kernel)]; kernel_rfl) | (rw [if_neg (by decide +kernel)]; exact ⟨rfl, rfl⟩))
    (fun os started H enc _ => FnExactCentreOf_lifted os started H enc)
end Go.Proofs.Ytjpckmpeahinkaa
