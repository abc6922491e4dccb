/- Proved here: for every p and every place the desk and the specification give the same numbers of places by their quadrances, with the same code of refusal, in memory of their own. It holds for all arguments, without condition. -/
import Derived.Test.YtcechmaoihckgaaSb
import Derived.Test.YtcechmaoihckgaaJCountByQuadrance
import Derived.Test.YtcechmaoihckgaaFCountByQuadrance
import Derived.Test.YtcechmaoihckgaaQl
set_option linter.unusedSimpArgs false
set_option linter.unusedVariables false
namespace Go.Proofs.Ytcechmaoihckgaa
open Go.RowKit Go.ChangeShapes Go.WideShapes Go.ChangeAt
theorem null_same (p : Int) (a : P3) : s_l09Null p a = i_isNullPlace p a := rfl
theorem CountByQuadrance_same (p : Int) (a : P3) : i_CountByQuadrance p a = s_CountByQuadrance p a := by
  unfold i_CountByQuadrance s_CountByQuadrance i_CountByQuadrance_c1 V_i_CountByQuadrance_0 V_s_CountByQuadrance_0 V_s_CountByQuadrance_1
  rw [placecode_eq p true, show i_arePlaces p [a] = i_isPlace p a from by simp [i_arePlaces]]
  by_cases h : i_asked p true (i_isPlace p a) = 0
  · have hf := (asked_zero h).1
    simp only [quadrance_eq hf, i_CountByQuadrance_c2, null_same]
    simp [h]
  · simp [h]
theorem CountByQuadrance_len (p : Int) (a : P3) : lenB (s_CountByQuadrance p a).1.1 1 (s_CountByQuadrance p a).1.2 = true := by
  have key : ¬ (s_l09Code p [a] != 0) = true → ∀ r : List P3, lenB p.toNat 1 (r.foldl (fun s zz => bump s (s_l09Quadrance p a zz).toNat) (List.replicate p.toNat 0)) = true := by
    intro h r
    obtain ⟨h1, _, _⟩ := prB_nat (l09Code_prB h)
    exact lenB_of (by rw [bumps_len]; simp) (by omega)
  unfold s_CountByQuadrance V_s_CountByQuadrance_0 V_s_CountByQuadrance_1
  repeat' split
  all_goals first
    | rfl
    | exact key ‹_› _

def S_l_FnExactCountByQuadrance : Sums := ⟨tblS [(19, run_l_toPlace), (48, run_s_CountByQuadrance), (49, run_i_CountByQuadrance), (41, run_l_eqInt64S), (43, run_l_heldInt64S)], tblM [(42, run_l_markInt64S)]⟩
theorem SO_l_FnExactCountByQuadrance : SumsOK Try.prog S_l_FnExactCountByQuadrance := ⟨tblS_ok ⟨⟨Try.call19, sound_l_toPlace⟩, ⟨Try.call48, sound_s_CountByQuadrance⟩, ⟨Try.call49, sound_i_CountByQuadrance⟩, ⟨Try.call41, sound_l_eqInt64S⟩, ⟨Try.call43, sound_l_heldInt64S⟩, True.intro⟩, tblM_ok ⟨⟨Try.call42, sound_l_markInt64S⟩, True.intro⟩⟩
def Fo_l_FnExactCountByQuadrance (aP : Int) (aA : Int × Int × Int) : Option (Bool) :=
  (if (lenB (((i_CountByQuadrance aP (l_toPlace aA)).1).1) 1 (((i_CountByQuadrance aP (l_toPlace aA)).1).2) && lenB (((s_CountByQuadrance aP (l_toPlace aA)).1).1) 1 (((s_CountByQuadrance aP (l_toPlace aA)).1).2)) = true then (if (!(l_eqInt64S (((i_CountByQuadrance aP (l_toPlace aA)).1).1) (((i_CountByQuadrance aP (l_toPlace aA)).1).2) (((s_CountByQuadrance aP (l_toPlace aA)).1).1) (((s_CountByQuadrance aP (l_toPlace aA)).1).2))) = true then some false else (if (((i_CountByQuadrance aP (l_toPlace aA)).2) != ((s_CountByQuadrance aP (l_toPlace aA)).2)) = true then some false else (if (lenB (((i_CountByQuadrance aP (l_toPlace aA)).1).1) 1 (((i_CountByQuadrance aP (l_toPlace aA)).1).2) && (1 == 1)) = true then (if (lenB (((i_CountByQuadrance aP (l_toPlace aA)).1).1) 1 ((l_markInt64S (((i_CountByQuadrance aP (l_toPlace aA)).1).1) (((i_CountByQuadrance aP (l_toPlace aA)).1).2) 1).2) && (1 == 1)) = true then (if (decide ((l_heldInt64S (((i_CountByQuadrance aP (l_toPlace aA)).1).1) ((l_markInt64S (((i_CountByQuadrance aP (l_toPlace aA)).1).1) (((i_CountByQuadrance aP (l_toPlace aA)).1).2) 1).2) 1) < 0)) = true then some false else (if ((l_heldInt64S (((i_CountByQuadrance aP (l_toPlace aA)).1).1) ((l_markInt64S (((i_CountByQuadrance aP (l_toPlace aA)).1).1) (((i_CountByQuadrance aP (l_toPlace aA)).1).2) 1).2) 1) != ((l_markInt64S (((i_CountByQuadrance aP (l_toPlace aA)).1).1) (((i_CountByQuadrance aP (l_toPlace aA)).1).2) 1).1)) = true then some false else (if (lenB (((i_CountByQuadrance aP (l_toPlace aA)).1).1) 1 (((i_CountByQuadrance aP (l_toPlace aA)).1).2) && lenB (((s_CountByQuadrance aP (l_toPlace aA)).1).1) 1 (((s_CountByQuadrance aP (l_toPlace aA)).1).2)) = true then (if (!(l_eqInt64S (((i_CountByQuadrance aP (l_toPlace aA)).1).1) (((i_CountByQuadrance aP (l_toPlace aA)).1).2) (((s_CountByQuadrance aP (l_toPlace aA)).1).1) (((s_CountByQuadrance aP (l_toPlace aA)).1).2))) = true then some false else (if (((i_CountByQuadrance aP (l_toPlace aA)).2) != ((s_CountByQuadrance aP (l_toPlace aA)).2)) = true then some false else (if (lenB (((i_CountByQuadrance aP (l_toPlace aA)).1).1) 1 ((l_markInt64S (((i_CountByQuadrance aP (l_toPlace aA)).1).1) (((i_CountByQuadrance aP (l_toPlace aA)).1).2) 1).2) && (1 == 1)) = true then (if (decide ((l_heldInt64S (((i_CountByQuadrance aP (l_toPlace aA)).1).1) ((l_markInt64S (((i_CountByQuadrance aP (l_toPlace aA)).1).1) (((i_CountByQuadrance aP (l_toPlace aA)).1).2) 1).2) 1) < 0)) = true then some false else (if ((l_heldInt64S (((i_CountByQuadrance aP (l_toPlace aA)).1).1) ((l_markInt64S (((i_CountByQuadrance aP (l_toPlace aA)).1).1) (((i_CountByQuadrance aP (l_toPlace aA)).1).2) 1).2) 1) != ((l_markInt64S (((i_CountByQuadrance aP (l_toPlace aA)).1).1) (((i_CountByQuadrance aP (l_toPlace aA)).1).2) 1).1)) = true then some false else some true)) else none))) else none))) else none) else none))) else none)
theorem eq_l_FnExactCountByQuadrance (aP : Int) (aA : Int × Int × Int) : execT Try.prog S_l_FnExactCountByQuadrance 14 71 1000000 dec_b [.v (.int .i64 aP), .v (.agg ⟨[.int .i64 aA.1, .int .i64 aA.2.1, .int .i64 aA.2.2]⟩)] = Fo_l_FnExactCountByQuadrance aP aA := by
  kernel_rfl
def l_FnExactCountByQuadrance (aP : Int) (aA : Int × Int × Int) : Bool := true
theorem tot_l_FnExactCountByQuadrance (aP : Int) (aA : Int × Int × Int) : Fo_l_FnExactCountByQuadrance aP aA = some (l_FnExactCountByQuadrance aP aA) := by
  have e := CountByQuadrance_same aP aA
  have hl := CountByQuadrance_len aP aA
  unfold Fo_l_FnExactCountByQuadrance
  simp only [l_toPlace, e]
  generalize s_CountByQuadrance aP aA = r at hl ⊢
  obtain ⟨⟨n, l⟩, c⟩ := r
  dsimp only at hl ⊢
  have hm : lenB n 1 (seq1 (1 * n)) = true := lenB_seq hl rfl
  have h0 : decide (((1 * n : Nat) : Int) + 1 < 0) = false := by simp; omega
  have hm' : lenB n 1 (seq1 (1 * n)) = true := hm
  (try rw [Nat.one_mul] at hm')
  have h2 : ¬ (((1 : Nat) : Int) * (n : Int) + 1 < 0) := by omega
  have h3 : ¬ ((n : Int) + 1 < 0) := by omega
  have h4 : ¬ (1 * (n : Int) + 1 < 0) := by omega
  simp [l_eqInt64S, l_markInt64S, l_heldInt64S, l_FnExactCountByQuadrance, hl, hm, hm', h0, h2, h3, h4]
def run_l_FnExactCountByQuadrance : List PV → Option (Bool × List TR)
  | [.v (.int .i64 aP), .v (.agg ⟨[.int .i64 aA0, .int .i64 aA1, .int .i64 aA2]⟩)] => some (true, enc_b (l_FnExactCountByQuadrance aP (aA0, aA1, aA2)))
  | _ => none
theorem sound_l_FnExactCountByQuadrance : Sound Try.prog 14 run_l_FnExactCountByQuadrance := by
  refine sound_of de_b SO_l_FnExactCountByQuadrance (by kernel_rfl) Try.func14 Try.ntmps14 rfl (by kernel_rfl) ?_
  intro W pvs avs rs hargs hrun
  unfold run_l_FnExactCountByQuadrance at hrun
  split at hrun
  · simp only [Option.some.injEq, Prod.mk.injEq] at hrun
    obtain ⟨hp, rfl⟩ := hrun
    rename_i aP aA0 aA1 aA2
    exact ⟨_, _, _, hargs, rfl, (eq_l_FnExactCountByQuadrance aP (aA0, aA1, aA2)).trans (tot_l_FnExactCountByQuadrance aP (aA0, aA1, aA2))⟩
  · cases hrun
theorem CountByQuadrance_law (aP : Int) (aA : Int × Int × Int) : l_FnExactCountByQuadrance aP aA = true := rfl
set_option maxRecDepth 100000 in
theorem FnExactCountByQuadrance_lifted (os : Os) (started : os.Started) (H : Type) (enc : TypeId × Value → H) :
    ReturnsInHanded {} Try.checked os 14 .any (Rows.fnExactCountByQuadranceSpec.pre6 enc Try.prog Try.f14 Rows.fnExactCountByQuadranceRow.domain false) (Rows.fnExactCountByQuadranceSpec.post enc Try.prog Try.f14 false true false false) := by
  refine returnsInHanded_of_change (C := Try.checked) Try.own started (by kernel_rfl) Try.func14
    (ChangeSpec.witness6 (enc := enc) (C := Try.checked) false ⟨#[], #[.int .i64 0, .agg #[.int .i64 0, .int .i64 0, .int .i64 0]], []⟩ 8 (by kernel_rfl) (by kernel_rfl) (by kernel_rfl) (by kernel_rfl)) ?_
  intro W base args ds gs before hval0 hW hcnd _
  have hval : ∀ (j : Nat) t v, Try.f14.params[j]? = some t → args[j]? = some v → Value.okWide Try.prog W .any base t v := hval0
  have hW' := hW
  obtain ⟨p, q, hA0, hV, rfl, hfz, hnd⟩ := hW
  have hA : DataW.TrodAll enc Try.prog W 0 (fun _ => true) true Try.f14.params.toList args.toList ds p := hA0
  rw [Try.params14] at hA hval
  have hAk := hA
  obtain ⟨v0, vs0, d0, ds0, p0, q0, hargs, rfl, rfl, h0, r0⟩ := trodAll_cons hA
  obtain ⟨v1, vs1, d1, ds1, p1, q1, rfl, rfl, rfl, h1, r1⟩ := trodAll_cons r0
  obtain ⟨rfl, rfl, rfl⟩ := trodAll_nil r1
  obtain rfl : args = #[v0, v1] := by
    apply Array.toList_inj.1
    exact hargs
  obtain ⟨rfl, rfl⟩ := trodVars_none hV
  clear hA0 hval0
  simp only [List.append_nil] at hW' hAk
  obtain ⟨x0, rfl, i0⟩ := open_i64 Try.underlying2 (hval 0 2 v0 rfl rfl)
  obtain ⟨xs1, hl1, rfl, i1⟩ := open_arr (n := 3) (ts := [2, 2, 2]) Try.underlying22 (by kernel_rfl) (by kernel_rfl) (by intro u hu; simp at hu; subst hu; exact Try.underlying2) (hval 1 22 v1 rfl rfl)
  obtain ⟨x1_0, x1_1, x1_2, rfl⟩ := len3 hl1
  have hc := bool_any (sound_l_FnExactCountByQuadrance W [.v (.int .i64 x0), .v (.agg ⟨[.int .i64 x1_0, .int .i64 x1_1, .int .i64 x1_2]⟩)] [.int .i64 x0, .agg ⟨[.int .i64 x1_0, .int .i64 x1_1, .int .i64 x1_2]⟩] _ ⟨rfl, rfl, True.intro⟩ rfl) (CountByQuadrance_law x0 (x1_0, x1_1, x1_2))
  refine hc.mono fun e W2 ⟨he, hb⟩ => ?_
  subst he
  refine ⟨_, rfl, _, _, _, [], p0 ++ (p1), [], hW', ?_, ?_, rfl, Below.frame hb _, fun h => by cases h⟩
  · exact trodAll_mk1 (shut_bool Try.underlying4 true)
  · exact trodAll_stays Try.laidOut hb (ts := [2, 22]) (by intro t ht; simp at ht; rcases ht with rfl | rfl <;> exact ⟨by kernel_rfl, of_decide_eq_true (by kernel_rfl)⟩) hAk (fun x hx => hW'.lt x hx)
theorem FnExactCountByQuadrance_holds : Rows.FnExactCountByQuadranceSaid :=
  OpenClaim.holds_of_wide 14 Try.f14 rfl rfl rfl rfl rfl rfl rfl ⟨rfl, rfl, rfl, rfl, rfl⟩ rfl rfl rfl rfl rfl (by kernel_rfl) Try.func14 FnExactCountByQuadrance_facts
    (of_decide_eq_true (by kernel_rfl)) (by unfold Func.isWrapper; first | (rw [if_pos (by decide +kernel)]; kernel_rfl) | (rw [if_neg (by decide +kernel)]; exact ⟨rfl, rfl⟩))
    (fun os started H enc _ => FnExactCountByQuadrance_lifted os started H enc)
end Go.Proofs.Ytcechmaoihckgaa
