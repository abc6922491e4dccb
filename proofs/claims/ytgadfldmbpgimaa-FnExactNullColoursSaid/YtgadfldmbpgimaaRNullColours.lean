/- Proved here: for every p and every line the desk and the specification give the same colours in which a line is null, with the same code of refusal, in memory of their own. It holds for all arguments, without condition. -/
import Derived.Test.YtgadfldmbpgimaaSb
import Derived.Test.YtgadfldmbpgimaaJNullColours
import Derived.Test.YtgadfldmbpgimaaFNullColours
import Derived.Test.YtgadfldmbpgimaaQk
set_option linter.unusedSimpArgs false
set_option linter.unusedVariables false
namespace Go.Proofs.Ytgadfldmbpgimaa
open Go.RowKit Go.ChangeShapes Go.WideShapes Go.ChangeAt
theorem NullColours_same (p : Int) (l : P3) : i_NullColours p l = s_NullColours p l := by
  unfold i_NullColours s_NullColours i_NullColours_c1 i_coloursWith i_NullColours_c2
  rw [linecode p true]
  have e : ∀ k, i_isNull p k l = s_l02Perpendicular p k l l := fun k => rfl
  simp only [e]
  repeat' split
  all_goals first
    | rfl
    | simp_all
theorem NullColours_len (p : Int) (l : P3) : lenB (s_NullColours p l).1.1 1 (s_NullColours p l).1.2 = true := by
  unfold s_NullColours
  repeat' split
  all_goals rfl

def S_l_FnExactNullColours : Sums := ⟨tblS [(24, run_l_toLine), (23, run_s_NullColours), (25, run_i_NullColours), (15, run_l_eqInt64S), (17, run_l_heldInt64S)], tblM [(16, run_l_markInt64S)]⟩
theorem SO_l_FnExactNullColours : SumsOK Try.prog S_l_FnExactNullColours := ⟨tblS_ok ⟨⟨Try.call24, sound_l_toLine⟩, ⟨Try.call23, sound_s_NullColours⟩, ⟨Try.call25, sound_i_NullColours⟩, ⟨Try.call15, sound_l_eqInt64S⟩, ⟨Try.call17, sound_l_heldInt64S⟩, True.intro⟩, tblM_ok ⟨⟨Try.call16, sound_l_markInt64S⟩, True.intro⟩⟩
def Fo_l_FnExactNullColours (aP : Int) (aL : Int × Int × Int) : Option (Bool) :=
  (if (lenB (((i_NullColours aP (l_toLine aL)).1).1) 1 (((i_NullColours aP (l_toLine aL)).1).2) && lenB (((s_NullColours aP (l_toLine aL)).1).1) 1 (((s_NullColours aP (l_toLine aL)).1).2)) = true then (if (!(l_eqInt64S (((i_NullColours aP (l_toLine aL)).1).1) (((i_NullColours aP (l_toLine aL)).1).2) (((s_NullColours aP (l_toLine aL)).1).1) (((s_NullColours aP (l_toLine aL)).1).2))) = true then some false else (if (((i_NullColours aP (l_toLine aL)).2) != ((s_NullColours aP (l_toLine aL)).2)) = true then some false else (if (lenB (((i_NullColours aP (l_toLine aL)).1).1) 1 (((i_NullColours aP (l_toLine aL)).1).2) && (1 == 1)) = true then (if (lenB (((i_NullColours aP (l_toLine aL)).1).1) 1 ((l_markInt64S (((i_NullColours aP (l_toLine aL)).1).1) (((i_NullColours aP (l_toLine aL)).1).2) 1).2) && (1 == 1)) = true then (if (decide ((l_heldInt64S (((i_NullColours aP (l_toLine aL)).1).1) ((l_markInt64S (((i_NullColours aP (l_toLine aL)).1).1) (((i_NullColours aP (l_toLine aL)).1).2) 1).2) 1) < 0)) = true then some false else (if ((l_heldInt64S (((i_NullColours aP (l_toLine aL)).1).1) ((l_markInt64S (((i_NullColours aP (l_toLine aL)).1).1) (((i_NullColours aP (l_toLine aL)).1).2) 1).2) 1) != ((l_markInt64S (((i_NullColours aP (l_toLine aL)).1).1) (((i_NullColours aP (l_toLine aL)).1).2) 1).1)) = true then some false else (if (lenB (((i_NullColours aP (l_toLine aL)).1).1) 1 (((i_NullColours aP (l_toLine aL)).1).2) && lenB (((s_NullColours aP (l_toLine aL)).1).1) 1 (((s_NullColours aP (l_toLine aL)).1).2)) = true then (if (!(l_eqInt64S (((i_NullColours aP (l_toLine aL)).1).1) (((i_NullColours aP (l_toLine aL)).1).2) (((s_NullColours aP (l_toLine aL)).1).1) (((s_NullColours aP (l_toLine aL)).1).2))) = true then some false else (if (((i_NullColours aP (l_toLine aL)).2) != ((s_NullColours aP (l_toLine aL)).2)) = true then some false else (if (lenB (((i_NullColours aP (l_toLine aL)).1).1) 1 ((l_markInt64S (((i_NullColours aP (l_toLine aL)).1).1) (((i_NullColours aP (l_toLine aL)).1).2) 1).2) && (1 == 1)) = true then (if (decide ((l_heldInt64S (((i_NullColours aP (l_toLine aL)).1).1) ((l_markInt64S (((i_NullColours aP (l_toLine aL)).1).1) (((i_NullColours aP (l_toLine aL)).1).2) 1).2) 1) < 0)) = true then some false else (if ((l_heldInt64S (((i_NullColours aP (l_toLine aL)).1).1) ((l_markInt64S (((i_NullColours aP (l_toLine aL)).1).1) (((i_NullColours aP (l_toLine aL)).1).2) 1).2) 1) != ((l_markInt64S (((i_NullColours aP (l_toLine aL)).1).1) (((i_NullColours aP (l_toLine aL)).1).2) 1).1)) = true then some false else some true)) else none))) else none))) else none) else none))) else none)
theorem eq_l_FnExactNullColours (aP : Int) (aL : Int × Int × Int) : execT Try.prog S_l_FnExactNullColours 6 71 1000000 dec_b [.v (.int .i64 aP), .v (.agg ⟨[.int .i64 aL.1, .int .i64 aL.2.1, .int .i64 aL.2.2]⟩)] = Fo_l_FnExactNullColours aP aL := by
  kernel_rfl
def l_FnExactNullColours (aP : Int) (aL : Int × Int × Int) : Bool := true
theorem tot_l_FnExactNullColours (aP : Int) (aL : Int × Int × Int) : Fo_l_FnExactNullColours aP aL = some (l_FnExactNullColours aP aL) := by
  have e := NullColours_same aP aL
  have hl := NullColours_len aP aL
  unfold Fo_l_FnExactNullColours
  simp only [l_toPoint, l_toLine, e]
  generalize s_NullColours aP aL = r at hl ⊢
  obtain ⟨⟨n, l⟩, c⟩ := r
  dsimp only at hl ⊢
  have hm : lenB n 1 (seq1 (1 * n)) = true := lenB_seq hl rfl
  have h0 : decide (((1 * n : Nat) : Int) + 1 < 0) = false := by simp; omega
  have hm' : lenB n 1 (seq1 (1 * n)) = true := hm
  (try rw [Nat.one_mul] at hm')
  have h2 : ¬ (((1 : Nat) : Int) * (n : Int) + 1 < 0) := by omega
  have h3 : ¬ ((n : Int) + 1 < 0) := by omega
  have h4 : ¬ (1 * (n : Int) + 1 < 0) := by omega
  simp [l_eqInt64S, l_markInt64S, l_heldInt64S, l_FnExactNullColours, hl, hm, hm', h0, h2, h3, h4]
def run_l_FnExactNullColours : List PV → Option (Bool × List TR)
  | [.v (.int .i64 aP), .v (.agg ⟨[.int .i64 aL0, .int .i64 aL1, .int .i64 aL2]⟩)] => some (true, enc_b (l_FnExactNullColours aP (aL0, aL1, aL2)))
  | _ => none
theorem sound_l_FnExactNullColours : Sound Try.prog 6 run_l_FnExactNullColours := by
  refine sound_of de_b SO_l_FnExactNullColours (by kernel_rfl) Try.func6 Try.ntmps6 rfl (by kernel_rfl) ?_
  intro W pvs avs rs hargs hrun
  unfold run_l_FnExactNullColours at hrun
  split at hrun
  · simp only [Option.some.injEq, Prod.mk.injEq] at hrun
    obtain ⟨hp, rfl⟩ := hrun
    rename_i aP aL0 aL1 aL2
    exact ⟨_, _, _, hargs, rfl, (eq_l_FnExactNullColours aP (aL0, aL1, aL2)).trans (tot_l_FnExactNullColours aP (aL0, aL1, aL2))⟩
  · cases hrun
theorem NullColours_law (aP : Int) (aL : Int × Int × Int) : l_FnExactNullColours aP aL = true := rfl
set_option maxRecDepth 100000 in
theorem FnExactNullColours_lifted (os : Os) (started : os.Started) (H : Type) (enc : TypeId × Value → H) :
    ReturnsInHanded {} Try.checked os 6 .any (Rows.fnExactNullColoursSpec.pre6 enc Try.prog Try.f6 Rows.fnExactNullColoursRow.domain false) (Rows.fnExactNullColoursSpec.post enc Try.prog Try.f6 false true false false) := by
  refine returnsInHanded_of_change (C := Try.checked) Try.own started (by kernel_rfl) Try.func6
    (ChangeSpec.witness6 (enc := enc) (C := Try.checked) false ⟨#[], #[.int .i64 0, .agg #[.int .i64 0, .int .i64 0, .int .i64 0]], []⟩ 8 (by kernel_rfl) (by kernel_rfl) (by kernel_rfl) (by kernel_rfl)) ?_
  intro W base args ds gs before hval0 hW hcnd _
  have hval : ∀ (j : Nat) t v, Try.f6.params[j]? = some t → args[j]? = some v → Value.okWide Try.prog W .any base t v := hval0
  have hW' := hW
  obtain ⟨p, q, hA0, hV, rfl, hfz, hnd⟩ := hW
  have hA : DataW.TrodAll enc Try.prog W 0 (fun _ => true) true Try.f6.params.toList args.toList ds p := hA0
  rw [Try.params6] at hA hval
  have hAk := hA
  obtain ⟨v0, vs0, d0, ds0, p0, q0, hargs, rfl, rfl, h0, r0⟩ := trodAll_cons hA
  obtain ⟨v1, vs1, d1, ds1, p1, q1, rfl, rfl, rfl, h1, r1⟩ := trodAll_cons r0
  obtain ⟨rfl, rfl, rfl⟩ := trodAll_nil r1
  obtain rfl : args = #[v0, v1] := by
    apply Array.toList_inj.1
    exact hargs
  obtain ⟨rfl, rfl⟩ := trodVars_none hV
  clear hA0 hval0
  simp only [List.append_nil] at hW' hAk
  obtain ⟨x0, rfl, i0⟩ := open_i64 Try.underlying2 (hval 0 2 v0 rfl rfl)
  obtain ⟨xs1, hl1, rfl, i1⟩ := open_arr (n := 3) (ts := [2, 2, 2]) Try.underlying35 (by kernel_rfl) (by kernel_rfl) (by intro u hu; simp at hu; subst hu; exact Try.underlying2) (hval 1 35 v1 rfl rfl)
  obtain ⟨x1_0, x1_1, x1_2, rfl⟩ := len3 hl1
  have hc := bool_any (sound_l_FnExactNullColours W [.v (.int .i64 x0), .v (.agg ⟨[.int .i64 x1_0, .int .i64 x1_1, .int .i64 x1_2]⟩)] [.int .i64 x0, .agg ⟨[.int .i64 x1_0, .int .i64 x1_1, .int .i64 x1_2]⟩] _ ⟨rfl, rfl, True.intro⟩ rfl) (NullColours_law x0 (x1_0, x1_1, x1_2))
  refine hc.mono fun e W2 ⟨he, hb⟩ => ?_
  subst he
  refine ⟨_, rfl, _, _, _, [], p0 ++ (p1), [], hW', ?_, ?_, rfl, Below.frame hb _, fun h => by cases h⟩
  · exact trodAll_mk1 (shut_bool Try.underlying4 true)
  · exact trodAll_stays Try.laidOut hb (ts := [2, 35]) (by intro t ht; simp at ht; rcases ht with rfl | rfl <;> exact ⟨by kernel_rfl, of_decide_eq_true (by kernel_rfl)⟩) hAk (fun x hx => hW'.lt x hx)
theorem FnExactNullColours_holds : Rows.FnExactNullColoursSaid :=
  OpenClaim.holds_of_wide 6 Try.f6 rfl rfl rfl rfl rfl rfl rfl ⟨rfl, rfl, rfl, rfl, rfl⟩ rfl rfl rfl rfl rfl (by kernel_rfl) Try.func6 FnExactNullColours_facts
    (of_decide_eq_true (by kernel_rfl)) (by unfold Func.isWrapper; first | (rw [if_pos (by decide +kernel)]; kernel_rfl) | (rw [if_neg (by decide +kernel)]; exact ⟨rfl, rfl⟩))
    (fun os started H enc _ => FnExactNullColours_lifted os started H enc)
end Go.Proofs.Ytgadfldmbpgimaa
