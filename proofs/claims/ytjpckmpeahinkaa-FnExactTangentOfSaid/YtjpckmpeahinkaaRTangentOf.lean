/- Proved here: for every p, every conic and every point the desk and the specification give the same tangent, with the same code of refusal. It holds for all arguments, without condition. -/
import Derived.Test.YtjpckmpeahinkaaSb
import Derived.Test.YtjpckmpeahinkaaJTangentOf
import Derived.Test.YtjpckmpeahinkaaFTangentOf
import Derived.Test.YtjpckmpeahinkaaQw
set_option linter.unusedSimpArgs false
set_option linter.unusedVariables false
namespace Go.Proofs.Ytjpckmpeahinkaa
open Go.RowKit Go.ChangeShapes Go.WideShapes Go.ChangeAt
theorem rests_of {p : Int} (hp : Pr p) : ∃ q : Nat, q ≠ 0 ∧ (q : Int) = p := by unfold Pr at hp; exact ⟨p.toNat, by omega, by omega⟩
theorem determinant_eq {p : Int} {k : P6} (h : i_IsField p = true) (hk : i_isConic p k = true) : s_l08Determinant p k = i_determinant p k := by
  have hp := i_IsField_ok h
  obtain ⟨k0, k1, k2, k3, k4, k5⟩ := isConic_num hk
  replace k0 := bd_of hp k0; replace k1 := bd_of hp k1; replace k2 := bd_of hp k2; replace k3 := bd_of hp k3; replace k4 := bd_of hp k4; replace k5 := bd_of hp k5
  unfold s_l08Determinant i_determinant i_threeBy
  show (_ : Int) % p = (_ : Int) % p
  dsimp only
  apply W.mods
  · (repeat' (first | exact W.bd (by assumption) | exact W.lit _ (by decide) | with_reducible apply W.rest (by assumption) | with_reducible apply W.smod (by assumption) | with_reducible apply W.mod (by assumption) | with_reducible apply W.mul | with_reducible apply W.sub | with_reducible apply W.add | with_reducible apply W.neg | decide))
  · (repeat' (first | exact W.bd (by assumption) | exact W.lit _ (by decide) | with_reducible apply W.rest (by assumption) | with_reducible apply W.smod (by assumption) | with_reducible apply W.mod (by assumption) | with_reducible apply W.mul | with_reducible apply W.sub | with_reducible apply W.add | with_reducible apply W.neg | decide))
  · obtain ⟨q, hq, rfl⟩ := rests_of hp
    haveI : NeZero q := ⟨hq⟩
    apply mod_of_ph
    simp only [ph_add, ph_mul, ph_sub, ph_mod]
    grind
theorem tmod0 (x p : Int) : (x.tmod p == 0) = (x % p == 0) := by
  rw [Bool.eq_iff_iff]
  simp only [beq_iff_eq]
  exact ⟨fun h => Int.emod_eq_zero_of_dvd (Int.dvd_of_tmod_eq_zero h), fun h => Int.tmod_eq_zero_of_dvd (Int.dvd_of_emod_eq_zero h)⟩
theorem W_mod {p x y n : Int} (h : W x y n) : x % p = y % p := by rw [h.1]
theorem onconic_eq {p : Int} {k : P6} {a : P2} (h : i_IsField p = true) (hk : i_isConic p k = true) (ha : i_isPoint p a = true) : i_isOnConic p a k = (s_l08Value p k a == 0) := by
  have hp := i_IsField_ok h
  obtain ⟨k0, k1, k2, k3, k4, k5⟩ := isConic_num hk
  obtain ⟨a0, a1⟩ := isPoint_num ha
  replace k0 := bd_of hp k0; replace k1 := bd_of hp k1; replace k2 := bd_of hp k2; replace k3 := bd_of hp k3; replace k4 := bd_of hp k4; replace k5 := bd_of hp k5
  replace a0 := bd_of hp a0; replace a1 := bd_of hp a1
  have r0 : (wrap64 (a.1 * a.1)).tmod p = (a.1 * a.1) % p := by rw [w_mul a0 a0, tmod_pos (mul_b a0 a0).1]
  have r1 : (wrap64 (a.1 * a.2)).tmod p = (a.1 * a.2) % p := by rw [w_mul a0 a1, tmod_pos (mul_b a0 a1).1]
  have r2 : (wrap64 (a.2 * a.2)).tmod p = (a.2 * a.2) % p := by rw [w_mul a1 a1, tmod_pos (mul_b a1 a1).1]
  unfold i_isOnConic i_row s_l08Value s_l01Mod
  rw [tmod0]
  simp only [r0, r1, r2]
  refine congrArg (fun x : Int => x == 0) ?_
  apply W.mods
  · (repeat' (first | exact W.bd (by assumption) | exact W.bd (rest_bd (by assumption) _) | exact W.lit _ (by decide) | with_reducible apply W.rest (by assumption) | with_reducible apply W.smod (by assumption) | with_reducible apply W.mod (by assumption) | with_reducible apply W.mul | with_reducible apply W.sub | with_reducible apply W.add | with_reducible apply W.neg | decide))
  · (repeat' (first | exact W.bd (by assumption) | exact W.bd (rest_bd (by assumption) _) | exact W.lit _ (by decide) | with_reducible apply W.rest (by assumption) | with_reducible apply W.smod (by assumption) | with_reducible apply W.mod (by assumption) | with_reducible apply W.mul | with_reducible apply W.sub | with_reducible apply W.add | with_reducible apply W.neg | decide))
  · obtain ⟨q, hq, rfl⟩ := rests_of hp
    haveI : NeZero q := ⟨hq⟩
    apply mod_of_ph
    simp only [ph_add, ph_mul, ph_sub, ph_mod, ph_zero, ph_one]
    grind
theorem tangent_ok {p : Int} {k : P6} {a : P2} (h : i_IsField p = true) (hk : i_isConic p k = true) (ha : i_isPoint p a = true) (hd : i_determinant p k ≠ 0) (hv : s_l08Value p k a = 0) : (i_polarLine p k a).2 = true := by
  have hp := i_IsField_ok h
  rw [← determinant_eq h hk] at hd
  obtain ⟨k0, k1, k2, k3, k4, k5⟩ := isConic_num hk
  obtain ⟨a0, a1⟩ := isPoint_num ha
  replace k0 := bd_of hp k0; replace k1 := bd_of hp k1; replace k2 := bd_of hp k2; replace k3 := bd_of hp k3; replace k4 := bd_of hp k4; replace k5 := bd_of hp k5
  replace a0 := bd_of hp a0; replace a1 := bd_of hp a1
  have eu : (i_polar p k a).1 = (2 * k.1 * a.1 + k.2.1 * a.2 + k.2.2.2.1) % p := by
    unfold i_polar i_rest
    dsimp only
    apply W_mod
    (repeat' (first | exact W.bd (by assumption) | exact W.bd (rest_bd (by assumption) _) | exact W.lit _ (by decide) | with_reducible apply W.rest (by assumption) | with_reducible apply W.smod (by assumption) | with_reducible apply W.mod (by assumption) | with_reducible apply W.mul | with_reducible apply W.sub | with_reducible apply W.add | with_reducible apply W.neg | decide))
  have ev : (i_polar p k a).2.1 = (k.2.1 * a.1 + 2 * k.2.2.1 * a.2 + k.2.2.2.2.1) % p := by
    unfold i_polar i_rest
    dsimp only
    apply W_mod
    (repeat' (first | exact W.bd (by assumption) | exact W.bd (rest_bd (by assumption) _) | exact W.lit _ (by decide) | with_reducible apply W.rest (by assumption) | with_reducible apply W.smod (by assumption) | with_reducible apply W.mod (by assumption) | with_reducible apply W.mul | with_reducible apply W.sub | with_reducible apply W.add | with_reducible apply W.neg | decide))
  have ew : s_l08Value p k a = (k.1 * a.1 * a.1 + k.2.1 * a.1 * a.2 + k.2.2.1 * a.2 * a.2 + k.2.2.2.1 * a.1 + k.2.2.2.2.1 * a.2 + k.2.2.2.2.2) % p := by
    unfold s_l08Value s_l01Mod
    apply W_mod
    (repeat' (first | exact W.bd (by assumption) | exact W.bd (rest_bd (by assumption) _) | exact W.lit _ (by decide) | with_reducible apply W.rest (by assumption) | with_reducible apply W.smod (by assumption) | with_reducible apply W.mod (by assumption) | with_reducible apply W.mul | with_reducible apply W.sub | with_reducible apply W.add | with_reducible apply W.neg | decide))
  have ed : s_l08Determinant p k = (2 * k.1 * (2 * k.2.2.1 * (2 * k.2.2.2.2.2) - k.2.2.2.2.1 * k.2.2.2.2.1) - k.2.1 * (k.2.1 * (2 * k.2.2.2.2.2) - k.2.2.2.2.1 * k.2.2.2.1) + k.2.2.2.1 * (k.2.1 * k.2.2.2.2.1 - 2 * k.2.2.1 * k.2.2.2.1)) % p := by
    unfold s_l08Determinant s_l01Mod
    apply W_mod
    (repeat' (first | exact W.bd (by assumption) | exact W.bd (rest_bd (by assumption) _) | exact W.lit _ (by decide) | with_reducible apply W.rest (by assumption) | with_reducible apply W.smod (by assumption) | with_reducible apply W.mod (by assumption) | with_reducible apply W.mul | with_reducible apply W.sub | with_reducible apply W.add | with_reducible apply W.neg | decide))
  unfold i_polarLine
  cases hu : ((i_polar p k a).1 == 0) with
  | false => rfl
  | true =>
    cases hvv : ((i_polar p k a).2.1 == 0) with
    | false => rfl
    | true =>
      exfalso
      apply hd
      simp only [beq_iff_eq] at hu hvv
      rw [eu] at hu
      rw [ev] at hvv
      rw [ew] at hv
      rw [ed]
      clear eu ev ew ed hd h hk ha k0 k1 k2 k3 k4 k5 a0 a1
      obtain ⟨q, hq, rfl⟩ := rests_of hp
      haveI : NeZero q := ⟨hq⟩
      rw [zero_iff q] at hu hvv hv ⊢
      have two : ph q 2 = 2 := ph_lit q 2
      simp only [ph_add, ph_mul, ph_sub, two] at hu hvv hv ⊢
      grind
theorem TangentOf_law (p : Int) (k : P6) (a : P2) : l_FnExactTangentOf p k a = true := by
  have e : i_TangentOf p k a = s_TangentOf p k a := by
    unfold i_TangentOf s_TangentOf i_TangentOf_c1
    rw [given_eq p true]
    have hBk : (if i_isConic p k = true then i_isPoint p a else false) = true → i_isConic p k = true ∧ i_isPoint p a = true := by cases i_isConic p k <;> simp
    generalize (if i_isConic p k = true then i_isPoint p a else false) = B at hBk ⊢
    by_cases h : i_asked p true B = 0
    · obtain ⟨hf, hb⟩ := asked_zero h
      obtain ⟨hk, hb⟩ := hBk hb
      rw [determinant_eq hf hk, onconic_eq hf hk hb, polar_same hf hk hb]
      by_cases hd : i_determinant p k = 0
      · simp [h, hd]
      · by_cases hv : s_l08Value p k a = 0
        · simp [h, hd, hv, tangent_ok hf hk hb hd hv]
        · simp [h, hd, hv]
    · simp [h]
  unfold l_FnExactTangentOf
  rw [show l_toConic k = k from rfl, show l_toPoint a = a from rfl, e]
  simp [eqLine_self]

set_option maxRecDepth 100000 in
theorem FnExactTangentOf_lifted (os : Os) (started : os.Started) (H : Type) (enc : TypeId × Value → H) :
    ReturnsInHanded {} Try.checked os 10 .any (Rows.fnExactTangentOfSpec.pre6 enc Try.prog Try.f10 Rows.fnExactTangentOfRow.domain false) (Rows.fnExactTangentOfSpec.post enc Try.prog Try.f10 false true false false) := by
  refine returnsInHanded_of_change (C := Try.checked) Try.own started (by kernel_rfl) Try.func10
    (ChangeSpec.witness6 (enc := enc) (C := Try.checked) false ⟨#[], #[.int .i64 0, .agg #[.int .i64 0, .int .i64 0, .int .i64 0, .int .i64 0, .int .i64 0, .int .i64 0], .agg #[.int .i64 0, .int .i64 0]], []⟩ 8 (by kernel_rfl) (by kernel_rfl) (by kernel_rfl) (by kernel_rfl)) ?_
  intro W base args ds gs before hval0 hW hcnd _
  have hval : ∀ (j : Nat) t v, Try.f10.params[j]? = some t → args[j]? = some v → Value.okWide Try.prog W .any base t v := hval0
  have hW' := hW
  obtain ⟨p, q, hA0, hV, rfl, hfz, hnd⟩ := hW
  have hA : DataW.TrodAll enc Try.prog W 0 (fun _ => true) true Try.f10.params.toList args.toList ds p := hA0
  rw [Try.params10] at hA hval
  have hAk := hA
  obtain ⟨v0, vs0, d0, ds0, p0, q0, hargs, rfl, rfl, h0, r0⟩ := trodAll_cons hA
  obtain ⟨v1, vs1, d1, ds1, p1, q1, rfl, rfl, rfl, h1, r1⟩ := trodAll_cons r0
  obtain ⟨v2, vs2, d2, ds2, p2, q2, rfl, rfl, rfl, h2, r2⟩ := trodAll_cons r1
  obtain ⟨rfl, rfl, rfl⟩ := trodAll_nil r2
  obtain rfl : args = #[v0, v1, v2] := by
    apply Array.toList_inj.1
    exact hargs
  obtain ⟨rfl, rfl⟩ := trodVars_none hV
  clear hA0 hval0
  simp only [List.append_nil] at hW' hAk
  obtain ⟨x0, rfl, i0⟩ := open_i64 Try.underlying2 (hval 0 2 v0 rfl rfl)
  obtain ⟨xs1, hl1, rfl, i1⟩ := open_arr (n := 6) (ts := [2, 2, 2, 2, 2, 2]) Try.underlying22 (by kernel_rfl) (by kernel_rfl) (by intro u hu; simp at hu; subst hu; exact Try.underlying2) (hval 1 22 v1 rfl rfl)
  obtain ⟨x1_0, x1_1, x1_2, x1_3, x1_4, x1_5, rfl⟩ := len6 hl1
  obtain ⟨xs2, hl2, rfl, i2⟩ := open_arr (n := 2) (ts := [2, 2]) Try.underlying42 (by kernel_rfl) (by kernel_rfl) (by intro u hu; simp at hu; subst hu; exact Try.underlying2) (hval 2 42 v2 rfl rfl)
  obtain ⟨x2_0, x2_1, rfl⟩ := len2 hl2
  have hc := bool_any (sound_l_FnExactTangentOf W [.v (.int .i64 x0), .v (.agg ⟨[.int .i64 x1_0, .int .i64 x1_1, .int .i64 x1_2, .int .i64 x1_3, .int .i64 x1_4, .int .i64 x1_5]⟩), .v (.agg ⟨[.int .i64 x2_0, .int .i64 x2_1]⟩)] [.int .i64 x0, .agg ⟨[.int .i64 x1_0, .int .i64 x1_1, .int .i64 x1_2, .int .i64 x1_3, .int .i64 x1_4, .int .i64 x1_5]⟩, .agg ⟨[.int .i64 x2_0, .int .i64 x2_1]⟩] _ ⟨rfl, rfl, rfl, True.intro⟩ rfl) (TangentOf_law x0 (x1_0, x1_1, x1_2, x1_3, x1_4, x1_5) (x2_0, x2_1))
  refine hc.mono fun e W2 ⟨he, hb⟩ => ?_
  subst he
  refine ⟨_, rfl, _, _, _, [], p0 ++ (p1 ++ (p2)), [], hW', ?_, ?_, rfl, Below.frame hb _, fun h => by cases h⟩
  · exact trodAll_mk1 (shut_bool Try.underlying4 true)
  · exact trodAll_stays Try.laidOut hb (ts := [2, 22, 42]) (by intro t ht; simp at ht; rcases ht with rfl | rfl | rfl <;> exact ⟨by kernel_rfl, of_decide_eq_true (by kernel_rfl)⟩) hAk (fun x hx => hW'.lt x hx)
theorem FnExactTangentOf_holds : Rows.FnExactTangentOfSaid :=
  OpenClaim.holds_of_wide 10 Try.f10 rfl rfl rfl rfl rfl rfl rfl ⟨rfl, rfl, rfl, rfl, rfl⟩ rfl rfl rfl rfl rfl (by kernel_rfl) Try.func10 FnExactTangentOf_facts
    (of_decide_eq_true (by kernel_rfl)) (by unfold Func.isWrapper; first | (rw [if_pos (by decide +kernel)]; kernel_rfl) | (rw [if_neg (by decide +kernel)]; exact ⟨rfl, rfl⟩))
    (fun os started H enc _ => FnExactTangentOf_lifted os started H enc)
end Go.Proofs.Ytjpckmpeahinkaa
