/- Proved here: for every p and every conic the desk and the specification give the same points of the conic, with the same code of refusal, in memory of their own. It holds for all arguments, without condition. -/
import Derived.Test.YtjpckmpeahinkaaSb
import Derived.Test.YtjpckmpeahinkaaJConicPoints
import Derived.Test.YtjpckmpeahinkaaFConicPoints
import Derived.Test.YtjpckmpeahinkaaQe
set_option linter.unusedSimpArgs false
set_option linter.unusedVariables false
namespace Go.Proofs.Ytjpckmpeahinkaa
open Go.RowKit Go.ChangeShapes Go.WideShapes Go.ChangeAt
theorem ConicPoints_same (p : Int) (k : P6) : i_ConicPoints p k = s_ConicPoints p k := by
  unfold i_ConicPoints s_ConicPoints i_ConicPoints_c1
  rw [coniccode_eq p true]
  by_cases h : i_asked p true (i_isConic p k) = 0
  · obtain ⟨hf, hk⟩ := asked_zero h
    have e : (pts p).filter (fun a => i_ConicPoints_c2 a p k) = (pts p).filter (fun a => s_l08Value p k a == 0) := by
      apply filter_same
      intro a ha
      have ha := mem_pts.1 ha
      have hb : i_isPoint p a = true := by simp [i_isPoint, i_areNumbers, i_isNumber]; omega
      exact onconic_eq hf hk hb
    unfold i_pointsWith s_l08Points
    dsimp only
    rw [e]
  · simp [h]
theorem ConicPoints_len (p : Int) (k : P6) : lenB (s_ConicPoints p k).1.1 2 (s_ConicPoints p k).1.2 = true := by
  unfold s_ConicPoints s_l08Points
  split
  · rfl
  · rename_i h
    have hl := pts_len (l08Code_prB h)
    exact lenB2 (Nat.le_trans (List.length_filter_le _ _) (by omega))

def S_l_FnExactConicPoints : Sums := ⟨tblS [(15, run_l_toConic), (26, run_s_ConicPoints), (27, run_i_ConicPoints), (28, run_l_eqPointS), (30, run_l_heldPointS)], tblM [(29, run_l_markPointS)]⟩
theorem SO_l_FnExactConicPoints : SumsOK Try.prog S_l_FnExactConicPoints := ⟨tblS_ok ⟨⟨Try.call15, sound_l_toConic⟩, ⟨Try.call26, sound_s_ConicPoints⟩, ⟨Try.call27, sound_i_ConicPoints⟩, ⟨Try.call28, sound_l_eqPointS⟩, ⟨Try.call30, sound_l_heldPointS⟩, True.intro⟩, tblM_ok ⟨⟨Try.call29, sound_l_markPointS⟩, True.intro⟩⟩
def Fo_l_FnExactConicPoints (aP : Int) (aK : Int × Int × Int × Int × Int × Int) : Option (Bool) :=
  (if (lenB (((i_ConicPoints aP (l_toConic aK)).1).1) 2 (((i_ConicPoints aP (l_toConic aK)).1).2) && lenB (((s_ConicPoints aP (l_toConic aK)).1).1) 2 (((s_ConicPoints aP (l_toConic aK)).1).2)) = true then (if (!(l_eqPointS (((i_ConicPoints aP (l_toConic aK)).1).1) (((i_ConicPoints aP (l_toConic aK)).1).2) (((s_ConicPoints aP (l_toConic aK)).1).1) (((s_ConicPoints aP (l_toConic aK)).1).2))) = true then some false else (if (((i_ConicPoints aP (l_toConic aK)).2) != ((s_ConicPoints aP (l_toConic aK)).2)) = true then some false else (if (lenB (((i_ConicPoints aP (l_toConic aK)).1).1) 2 (((i_ConicPoints aP (l_toConic aK)).1).2) && (1 == 1)) = true then (if (lenB (((i_ConicPoints aP (l_toConic aK)).1).1) 2 ((l_markPointS (((i_ConicPoints aP (l_toConic aK)).1).1) (((i_ConicPoints aP (l_toConic aK)).1).2) 1).2) && (1 == 1)) = true then (if (decide ((l_heldPointS (((i_ConicPoints aP (l_toConic aK)).1).1) ((l_markPointS (((i_ConicPoints aP (l_toConic aK)).1).1) (((i_ConicPoints aP (l_toConic aK)).1).2) 1).2) 1) < 0)) = true then some false else (if ((l_heldPointS (((i_ConicPoints aP (l_toConic aK)).1).1) ((l_markPointS (((i_ConicPoints aP (l_toConic aK)).1).1) (((i_ConicPoints aP (l_toConic aK)).1).2) 1).2) 1) != ((l_markPointS (((i_ConicPoints aP (l_toConic aK)).1).1) (((i_ConicPoints aP (l_toConic aK)).1).2) 1).1)) = true then some false else (if (lenB (((i_ConicPoints aP (l_toConic aK)).1).1) 2 (((i_ConicPoints aP (l_toConic aK)).1).2) && lenB (((s_ConicPoints aP (l_toConic aK)).1).1) 2 (((s_ConicPoints aP (l_toConic aK)).1).2)) = true then (if (!(l_eqPointS (((i_ConicPoints aP (l_toConic aK)).1).1) (((i_ConicPoints aP (l_toConic aK)).1).2) (((s_ConicPoints aP (l_toConic aK)).1).1) (((s_ConicPoints aP (l_toConic aK)).1).2))) = true then some false else (if (((i_ConicPoints aP (l_toConic aK)).2) != ((s_ConicPoints aP (l_toConic aK)).2)) = true then some false else (if (lenB (((i_ConicPoints aP (l_toConic aK)).1).1) 2 ((l_markPointS (((i_ConicPoints aP (l_toConic aK)).1).1) (((i_ConicPoints aP (l_toConic aK)).1).2) 1).2) && (1 == 1)) = true then (if (decide ((l_heldPointS (((i_ConicPoints aP (l_toConic aK)).1).1) ((l_markPointS (((i_ConicPoints aP (l_toConic aK)).1).1) (((i_ConicPoints aP (l_toConic aK)).1).2) 1).2) 1) < 0)) = true then some false else (if ((l_heldPointS (((i_ConicPoints aP (l_toConic aK)).1).1) ((l_markPointS (((i_ConicPoints aP (l_toConic aK)).1).1) (((i_ConicPoints aP (l_toConic aK)).1).2) 1).2) 1) != ((l_markPointS (((i_ConicPoints aP (l_toConic aK)).1).1) (((i_ConicPoints aP (l_toConic aK)).1).2) 1).1)) = true then some false else some true)) else none))) else none))) else none) else none))) else none)
theorem eq_l_FnExactConicPoints (aP : Int) (aK : Int × Int × Int × Int × Int × Int) : execT Try.prog S_l_FnExactConicPoints 7 71 (fun _ => 1000000) dec_b [.v (.int .i64 aP), .v (.agg ⟨[.int .i64 aK.1, .int .i64 aK.2.1, .int .i64 aK.2.2.1, .int .i64 aK.2.2.2.1, .int .i64 aK.2.2.2.2.1, .int .i64 aK.2.2.2.2.2]⟩)] = Fo_l_FnExactConicPoints aP aK := by
  kernel_rfl
def l_FnExactConicPoints (aP : Int) (aK : Int × Int × Int × Int × Int × Int) : Bool := true
theorem tot_l_FnExactConicPoints (aP : Int) (aK : Int × Int × Int × Int × Int × Int) : Fo_l_FnExactConicPoints aP aK = some (l_FnExactConicPoints aP aK) := by
  have e := ConicPoints_same aP aK
  have hl := ConicPoints_len aP aK
  unfold Fo_l_FnExactConicPoints
  simp only [l_toConic, e]
  generalize s_ConicPoints aP aK = r at hl ⊢
  obtain ⟨⟨n, l⟩, c⟩ := r
  dsimp only at hl ⊢
  have hm : lenB n 2 (seq1 (2 * n)) = true := lenB_seq hl rfl
  have h0 : decide (((2 * n : Nat) : Int) + 1 < 0) = false := by simp; omega
  have hm' : lenB n 2 (seq1 (2 * n)) = true := hm
  (try rw [Nat.one_mul] at hm')
  have h2 : ¬ (((2 : Nat) : Int) * (n : Int) + 1 < 0) := by omega
  have h3 : ¬ ((n : Int) + 1 < 0) := by omega
  have h4 : ¬ (2 * (n : Int) + 1 < 0) := by omega
  simp [l_eqPointS, l_markPointS, l_heldPointS, l_FnExactConicPoints, hl, hm, hm', h0, h2, h3, h4]
def run_l_FnExactConicPoints : List PV → Option (Bool × List TR)
  | [.v (.int .i64 aP), .v (.agg ⟨[.int .i64 aK0, .int .i64 aK1, .int .i64 aK2, .int .i64 aK3, .int .i64 aK4, .int .i64 aK5]⟩)] => some (true, enc_b (l_FnExactConicPoints aP (aK0, aK1, aK2, aK3, aK4, aK5)))
  | _ => none
theorem sound_l_FnExactConicPoints : Sound Try.prog 7 run_l_FnExactConicPoints := by
  refine sound_of de_b SO_l_FnExactConicPoints (by kernel_rfl) Try.func7 Try.ntmps7 rfl (by kernel_rfl) ?_
  intro W pvs avs rs hargs hrun
  unfold run_l_FnExactConicPoints at hrun
  split at hrun
  · simp only [Option.some.injEq, Prod.mk.injEq] at hrun
    obtain ⟨hp, rfl⟩ := hrun
    rename_i aP aK0 aK1 aK2 aK3 aK4 aK5
    exact ⟨_, _, _, hargs, rfl, (eq_l_FnExactConicPoints aP (aK0, aK1, aK2, aK3, aK4, aK5)).trans (tot_l_FnExactConicPoints aP (aK0, aK1, aK2, aK3, aK4, aK5))⟩
  · cases hrun
theorem ConicPoints_law (aP : Int) (aK : Int × Int × Int × Int × Int × Int) : l_FnExactConicPoints aP aK = true := rfl
set_option maxRecDepth 100000 in
theorem FnExactConicPoints_lifted (os : Os) (started : os.Started) (H : Type) (enc : TypeId × Value → H) :
    ReturnsInHanded {} Try.checked os 7 .any (Rows.fnExactConicPointsSpec.pre6 enc Try.prog Try.f7 Rows.fnExactConicPointsRow.domain false) (Rows.fnExactConicPointsSpec.post enc Try.prog Try.f7 false true false false) := by
  refine returnsInHanded_of_change (C := Try.checked) Try.own started (by kernel_rfl) Try.func7
    (ChangeSpec.witness6 (enc := enc) (C := Try.checked) false ⟨#[], #[.int .i64 0, .agg #[.int .i64 0, .int .i64 0, .int .i64 0, .int .i64 0, .int .i64 0, .int .i64 0]], []⟩ 8 (by kernel_rfl) (by kernel_rfl) (by kernel_rfl) (by kernel_rfl)) ?_
  intro W base args ds gs before hval0 hW hcnd _
  have hval : ∀ (j : Nat) t v, Try.f7.params[j]? = some t → args[j]? = some v → Value.okWide Try.prog W .any base t v := hval0
  have hW' := hW
  obtain ⟨p, q, hA0, hV, rfl, hfz, hnd⟩ := hW
  have hA : DataW.TrodAll enc Try.prog W 0 (fun _ => true) true Try.f7.params.toList args.toList ds p := hA0
  rw [Try.params7] at hA hval
  have hAk := hA
  obtain ⟨v0, vs0, d0, ds0, p0, q0, hargs, rfl, rfl, h0, r0⟩ := trodAll_cons hA
  obtain ⟨v1, vs1, d1, ds1, p1, q1, rfl, rfl, rfl, h1, r1⟩ := trodAll_cons r0
  obtain ⟨rfl, rfl, rfl⟩ := trodAll_nil r1
  obtain rfl : args = #[v0, v1] := by
    apply Array.toList_inj.1
    exact hargs
  obtain ⟨rfl, rfl⟩ := trodVars_none hV
  clear hA0 hval0
  simp only [List.append_nil] at hW' hAk
  obtain ⟨x0, rfl, i0⟩ := open_i64 Try.underlying2 (hval 0 2 v0 rfl rfl)
  obtain ⟨xs1, hl1, rfl, i1⟩ := open_arr (n := 6) (ts := [2, 2, 2, 2, 2, 2]) Try.underlying22 (by kernel_rfl) (by kernel_rfl) (by intro u hu; simp at hu; subst hu; exact Try.underlying2) (hval 1 22 v1 rfl rfl)
  obtain ⟨x1_0, x1_1, x1_2, x1_3, x1_4, x1_5, rfl⟩ := len6 hl1
  have hc := bool_any (sound_l_FnExactConicPoints W [.v (.int .i64 x0), .v (.agg ⟨[.int .i64 x1_0, .int .i64 x1_1, .int .i64 x1_2, .int .i64 x1_3, .int .i64 x1_4, .int .i64 x1_5]⟩)] [.int .i64 x0, .agg ⟨[.int .i64 x1_0, .int .i64 x1_1, .int .i64 x1_2, .int .i64 x1_3, .int .i64 x1_4, .int .i64 x1_5]⟩] _ ⟨rfl, rfl, True.intro⟩ rfl) (ConicPoints_law x0 (x1_0, x1_1, x1_2, x1_3, x1_4, x1_5))
  refine hc.mono fun e W2 ⟨he, hb⟩ => ?_
  subst he
  refine ⟨_, rfl, _, _, _, [], p0 ++ (p1), [], hW', ?_, ?_, rfl, Below.frame hb _, fun h => by cases h⟩
  · exact trodAll_mk1 (shut_bool Try.underlying4 true)
  · exact trodAll_stays Try.laidOut hb (ts := [2, 22]) (by intro t ht; simp at ht; rcases ht with rfl | rfl <;> exact ⟨by kernel_rfl, of_decide_eq_true (by kernel_rfl)⟩) hAk (fun x hx => hW'.lt x hx)
theorem FnExactConicPoints_holds : Rows.FnExactConicPointsSaid :=
  OpenClaim.holds_of_wide 7 Try.f7 rfl rfl rfl rfl rfl rfl rfl ⟨rfl, rfl, rfl, rfl, rfl⟩ rfl rfl rfl rfl rfl (by kernel_rfl) Try.func7 FnExactConicPoints_facts
    (of_decide_eq_true (by kernel_rfl)) (by unfold Func.isWrapper; first | (rw [if_pos (by decide +kernel)]; kernel_rfl) | (rw [if_neg (by decide +kernel)]; exact ⟨rfl, rfl⟩))
    (fun os started H enc _ => FnExactConicPoints_lifted os started H enc)
end Go.Proofs.Ytjpckmpeahinkaa
