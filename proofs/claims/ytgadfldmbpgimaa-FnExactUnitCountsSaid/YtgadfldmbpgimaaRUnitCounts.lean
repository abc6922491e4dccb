/- Proved here: for every p the desk and the specification give the same numbers of points of unit circles in the three colours, with the same code of refusal, in memory of their own. It holds for all arguments, without condition. -/
import Derived.Test.YtgadfldmbpgimaaSb
import Derived.Test.YtgadfldmbpgimaaJUnitCounts
import Derived.Test.YtgadfldmbpgimaaFUnitCounts
import Derived.Test.YtgadfldmbpgimaaQk
set_option linter.unusedSimpArgs false
set_option linter.unusedVariables false
namespace Go.Proofs.Ytgadfldmbpgimaa
open Go.RowKit Go.ChangeShapes Go.WideShapes Go.ChangeAt
theorem UnitCounts_same (p : Int) : i_UnitCounts p = s_UnitCounts p := by
  unfold i_UnitCounts s_UnitCounts
  cases h : i_IsField p
  · have h' : s_l01Field p = false := h
    rw [h']; rfl
  · have h' : s_l01Field p = true := h
    rw [h']
    have e : ∀ c, isC c → i_pointsAt p c (0, 0) 1 = s_l02At p c (0, 0) 1 := by
      intro c hc
      unfold i_pointsAt i_pointsWith s_l02At i_pointsAt_c1
      have hh : (pts p).filter (fun zz => i_quadrance p c (0, 0) zz == 1) = (pts p).filter (fun zz => s_l02Quadrance p c (0, 0) zz == 1) := by
        apply filter_same
        intro z hz
        have hz := mem_pts.1 hz
        have z0 : i_isPoint p (0, 0) = true := by
          have := i_IsField_ok h
          unfold Pr at this
          simp [i_isPoint, i_areNumbers, i_isNumber]; omega
        have z1 : i_isPoint p z = true := by simp [i_isPoint, i_areNumbers, i_isNumber]; omega
        rw [quad_same h hc z0 z1]
      dsimp only
      rw [hh]
    rw [e 0 isC0, e 1 isC1, e 2 isC2]
theorem UnitCounts_len (p : Int) : lenB (s_UnitCounts p).1.1 1 (s_UnitCounts p).1.2 = true := by
  unfold s_UnitCounts
  repeat' split
  all_goals rfl

def S_l_FnExactUnitCounts : Sums := ⟨tblS [(13, run_s_UnitCounts), (14, run_i_UnitCounts), (15, run_l_eqInt64S), (17, run_l_heldInt64S)], tblM [(16, run_l_markInt64S)]⟩
theorem SO_l_FnExactUnitCounts : SumsOK Try.prog S_l_FnExactUnitCounts := ⟨tblS_ok ⟨⟨Try.call13, sound_s_UnitCounts⟩, ⟨Try.call14, sound_i_UnitCounts⟩, ⟨Try.call15, sound_l_eqInt64S⟩, ⟨Try.call17, sound_l_heldInt64S⟩, True.intro⟩, tblM_ok ⟨⟨Try.call16, sound_l_markInt64S⟩, True.intro⟩⟩
def Fo_l_FnExactUnitCounts (aP : Int) : Option (Bool) :=
  (if (lenB (((i_UnitCounts aP).1).1) 1 (((i_UnitCounts aP).1).2) && lenB (((s_UnitCounts aP).1).1) 1 (((s_UnitCounts aP).1).2)) = true then (if (!(l_eqInt64S (((i_UnitCounts aP).1).1) (((i_UnitCounts aP).1).2) (((s_UnitCounts aP).1).1) (((s_UnitCounts aP).1).2))) = true then some false else (if (((i_UnitCounts aP).2) != ((s_UnitCounts aP).2)) = true then some false else (if (lenB (((i_UnitCounts aP).1).1) 1 (((i_UnitCounts aP).1).2) && (1 == 1)) = true then (if (lenB (((i_UnitCounts aP).1).1) 1 ((l_markInt64S (((i_UnitCounts aP).1).1) (((i_UnitCounts aP).1).2) 1).2) && (1 == 1)) = true then (if (decide ((l_heldInt64S (((i_UnitCounts aP).1).1) ((l_markInt64S (((i_UnitCounts aP).1).1) (((i_UnitCounts aP).1).2) 1).2) 1) < 0)) = true then some false else (if ((l_heldInt64S (((i_UnitCounts aP).1).1) ((l_markInt64S (((i_UnitCounts aP).1).1) (((i_UnitCounts aP).1).2) 1).2) 1) != ((l_markInt64S (((i_UnitCounts aP).1).1) (((i_UnitCounts aP).1).2) 1).1)) = true then some false else (if (lenB (((i_UnitCounts aP).1).1) 1 (((i_UnitCounts aP).1).2) && lenB (((s_UnitCounts aP).1).1) 1 (((s_UnitCounts aP).1).2)) = true then (if (!(l_eqInt64S (((i_UnitCounts aP).1).1) (((i_UnitCounts aP).1).2) (((s_UnitCounts aP).1).1) (((s_UnitCounts aP).1).2))) = true then some false else (if (((i_UnitCounts aP).2) != ((s_UnitCounts aP).2)) = true then some false else (if (lenB (((i_UnitCounts aP).1).1) 1 ((l_markInt64S (((i_UnitCounts aP).1).1) (((i_UnitCounts aP).1).2) 1).2) && (1 == 1)) = true then (if (decide ((l_heldInt64S (((i_UnitCounts aP).1).1) ((l_markInt64S (((i_UnitCounts aP).1).1) (((i_UnitCounts aP).1).2) 1).2) 1) < 0)) = true then some false else (if ((l_heldInt64S (((i_UnitCounts aP).1).1) ((l_markInt64S (((i_UnitCounts aP).1).1) (((i_UnitCounts aP).1).2) 1).2) 1) != ((l_markInt64S (((i_UnitCounts aP).1).1) (((i_UnitCounts aP).1).2) 1).1)) = true then some false else some true)) else none))) else none))) else none) else none))) else none)
theorem eq_l_FnExactUnitCounts (aP : Int) : execT Try.prog S_l_FnExactUnitCounts 3 63 1000000 dec_b [.v (.int .i64 aP)] = Fo_l_FnExactUnitCounts aP := by
  kernel_rfl
def l_FnExactUnitCounts (aP : Int) : Bool := true
theorem tot_l_FnExactUnitCounts (aP : Int) : Fo_l_FnExactUnitCounts aP = some (l_FnExactUnitCounts aP) := by
  have e := UnitCounts_same aP
  have hl := UnitCounts_len aP
  unfold Fo_l_FnExactUnitCounts
  simp only [l_toPoint, l_toLine, e]
  generalize s_UnitCounts aP = r at hl ⊢
  obtain ⟨⟨n, l⟩, c⟩ := r
  dsimp only at hl ⊢
  have hm : lenB n 1 (seq1 (1 * n)) = true := lenB_seq hl rfl
  have h0 : decide (((1 * n : Nat) : Int) + 1 < 0) = false := by simp; omega
  have hm' : lenB n 1 (seq1 (1 * n)) = true := hm
  (try rw [Nat.one_mul] at hm')
  have h2 : ¬ (((1 : Nat) : Int) * (n : Int) + 1 < 0) := by omega
  have h3 : ¬ ((n : Int) + 1 < 0) := by omega
  have h4 : ¬ (1 * (n : Int) + 1 < 0) := by omega
  simp [l_eqInt64S, l_markInt64S, l_heldInt64S, l_FnExactUnitCounts, hl, hm, hm', h0, h2, h3, h4]
def run_l_FnExactUnitCounts : List PV → Option (Bool × List TR)
  | [.v (.int .i64 aP)] => some (true, enc_b (l_FnExactUnitCounts aP))
  | _ => none
theorem sound_l_FnExactUnitCounts : Sound Try.prog 3 run_l_FnExactUnitCounts := by
  refine sound_of de_b SO_l_FnExactUnitCounts (by kernel_rfl) Try.func3 Try.ntmps3 rfl (by kernel_rfl) ?_
  intro W pvs avs rs hargs hrun
  unfold run_l_FnExactUnitCounts at hrun
  split at hrun
  · simp only [Option.some.injEq, Prod.mk.injEq] at hrun
    obtain ⟨hp, rfl⟩ := hrun
    rename_i aP
    exact ⟨_, _, _, hargs, rfl, (eq_l_FnExactUnitCounts aP).trans (tot_l_FnExactUnitCounts aP)⟩
  · cases hrun
theorem UnitCounts_law (aP : Int) : l_FnExactUnitCounts aP = true := rfl
set_option maxRecDepth 100000 in
theorem FnExactUnitCounts_lifted (os : Os) (started : os.Started) (H : Type) (enc : TypeId × Value → H) :
    ReturnsInHanded {} Try.checked os 3 .any (Rows.fnExactUnitCountsSpec.pre6 enc Try.prog Try.f3 Rows.fnExactUnitCountsRow.domain false) (Rows.fnExactUnitCountsSpec.post enc Try.prog Try.f3 false true false false) := by
  refine returnsInHanded_of_change (C := Try.checked) Try.own started (by kernel_rfl) Try.func3
    (ChangeSpec.witness6 (enc := enc) (C := Try.checked) false ⟨#[], #[.int .i64 0], []⟩ 8 (by kernel_rfl) (by kernel_rfl) (by kernel_rfl) (by kernel_rfl)) ?_
  intro W base args ds gs before hval0 hW hcnd _
  have hval : ∀ (j : Nat) t v, Try.f3.params[j]? = some t → args[j]? = some v → Value.okWide Try.prog W .any base t v := hval0
  have hW' := hW
  obtain ⟨p, q, hA0, hV, rfl, hfz, hnd⟩ := hW
  have hA : DataW.TrodAll enc Try.prog W 0 (fun _ => true) true Try.f3.params.toList args.toList ds p := hA0
  rw [Try.params3] at hA hval
  have hAk := hA
  obtain ⟨v0, vs0, d0, ds0, p0, q0, hargs, rfl, rfl, h0, r0⟩ := trodAll_cons hA
  obtain ⟨rfl, rfl, rfl⟩ := trodAll_nil r0
  obtain rfl : args = #[v0] := by
    apply Array.toList_inj.1
    exact hargs
  obtain ⟨rfl, rfl⟩ := trodVars_none hV
  clear hA0 hval0
  simp only [List.append_nil] at hW' hAk
  obtain ⟨x0, rfl, i0⟩ := open_i64 Try.underlying2 (hval 0 2 v0 rfl rfl)
  have hc := bool_any (sound_l_FnExactUnitCounts W [.v (.int .i64 x0)] [.int .i64 x0] _ ⟨rfl, True.intro⟩ rfl) (UnitCounts_law x0)
  refine hc.mono fun e W2 ⟨he, hb⟩ => ?_
  subst he
  refine ⟨_, rfl, _, _, _, [], p0, [], hW', ?_, ?_, rfl, Below.frame hb _, fun h => by cases h⟩
  · exact trodAll_mk1 (shut_bool Try.underlying4 true)
  · exact trodAll_stays Try.laidOut hb (ts := [2]) (by intro t ht; simp at ht; rcases ht with rfl <;> exact ⟨by kernel_rfl, of_decide_eq_true (by kernel_rfl)⟩) hAk (fun x hx => hW'.lt x hx)
theorem FnExactUnitCounts_holds : Rows.FnExactUnitCountsSaid :=
  OpenClaim.holds_of_wide 3 Try.f3 rfl rfl rfl rfl rfl rfl rfl ⟨rfl, rfl, rfl, rfl, rfl⟩ rfl rfl rfl rfl rfl (by kernel_rfl) Try.func3 FnExactUnitCounts_facts
    (of_decide_eq_true (by kernel_rfl)) (by unfold Func.isWrapper; first | (rw [if_pos (by decide +kernel)]; kernel_rfl) | (rw [if_neg (by decide +kernel)]; exact ⟨rfl, rfl⟩))
    (fun os started H enc _ => FnExactUnitCounts_lifted os started H enc)
end Go.Proofs.Ytgadfldmbpgimaa
