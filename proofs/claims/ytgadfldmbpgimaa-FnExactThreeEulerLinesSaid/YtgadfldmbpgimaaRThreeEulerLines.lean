/- Proved here: for every p and every three points the desk and the specification give the same three lines of Euler, with the same code of refusal, in memory of their own. It holds for all arguments, without condition. -/
import Derived.Test.YtgadfldmbpgimaaSb
import Derived.Test.YtgadfldmbpgimaaJThreeEulerLines
import Derived.Test.YtgadfldmbpgimaaFThreeEulerLines
import Derived.Test.YtgadfldmbpgimaaQk
set_option linter.unusedSimpArgs false
set_option linter.unusedVariables false
namespace Go.Proofs.Ytgadfldmbpgimaa
open Go.RowKit Go.ChangeShapes Go.WideShapes Go.ChangeAt
theorem ThreeEulerLines_same (p : Int) (a b c : P2) : i_ThreeEulerLines p a b c = s_ThreeEulerLines p a b c := by
  have ht : ∀ k, isC k → i_triangle p k a b c = i_triangle p 0 a b c := by
    intro k hk
    unfold i_triangle i_triangle_c1
    have : i_isColour k = true := by rcases hk with rfl | rfl | rfl <;> rfl
    rw [this]
    rfl
  have e : ∀ k, isC k → i_EulerLineOf p k a b c = if (i_triangle p 0 a b c != 0) = true then ((0, 0, 0), i_triangle p 0 a b c) else if (s_l04Orthocentre p k a b c == s_l04Circumcentre p k a b c) = true then ((0, 0, 0), 5) else (s_l01Through p (s_l04Orthocentre p k a b c) (s_l04Circumcentre p k a b c), 0) := by
    intro k hk
    unfold i_EulerLineOf
    rw [ht k hk]
    by_cases h : i_triangle p 0 a b c = 0
    · have hf := (tri_zero h).1
      rw [ortho_eq h hk, circum_eq h hk]
      by_cases hx : s_l04Orthocentre p k a b c = s_l04Circumcentre p k a b c
      · simp [h, hx]
      · rw [through_eq hf (ortho_pt h hk) (circum_pt h hk) hx]
    · simp [h]
  unfold i_ThreeEulerLines s_ThreeEulerLines
  rw [tricode, e 0 isC0, e 1 isC1, e 2 isC2]
  by_cases h : i_triangle p 0 a b c = 0
  · simp only [h]
    by_cases h0 : s_l04Orthocentre p 0 a b c = s_l04Circumcentre p 0 a b c
    · simp [h0]
    · by_cases h1 : s_l04Orthocentre p 1 a b c = s_l04Circumcentre p 1 a b c
      · simp [h0, h1]
      · by_cases h2 : s_l04Orthocentre p 2 a b c = s_l04Circumcentre p 2 a b c
        · simp [h0, h1, h2]
        · simp [h0, h1, h2]
  · simp [h]
theorem ThreeEulerLines_len (p : Int) (a b c : P2) : lenB (s_ThreeEulerLines p a b c).1.1 3 (s_ThreeEulerLines p a b c).1.2 = true := by
  unfold s_ThreeEulerLines
  repeat' split
  all_goals rfl

def S_l_FnExactThreeEulerLines : Sums := ⟨tblS [(19, run_l_toPoint), (39, run_s_ThreeEulerLines), (40, run_i_ThreeEulerLines), (41, run_l_eqLineS), (43, run_l_heldLineS)], tblM [(42, run_l_markLineS)]⟩
theorem SO_l_FnExactThreeEulerLines : SumsOK Try.prog S_l_FnExactThreeEulerLines := ⟨tblS_ok ⟨⟨Try.call19, sound_l_toPoint⟩, ⟨Try.call39, sound_s_ThreeEulerLines⟩, ⟨Try.call40, sound_i_ThreeEulerLines⟩, ⟨Try.call41, sound_l_eqLineS⟩, ⟨Try.call43, sound_l_heldLineS⟩, True.intro⟩, tblM_ok ⟨⟨Try.call42, sound_l_markLineS⟩, True.intro⟩⟩
def Fo_l_FnExactThreeEulerLines (aP : Int) (aA : Int × Int) (aB : Int × Int) (aC : Int × Int) : Option (Bool) :=
  (if (lenB (((i_ThreeEulerLines aP (l_toPoint aA) (l_toPoint aB) (l_toPoint aC)).1).1) 3 (((i_ThreeEulerLines aP (l_toPoint aA) (l_toPoint aB) (l_toPoint aC)).1).2) && lenB (((s_ThreeEulerLines aP (l_toPoint aA) (l_toPoint aB) (l_toPoint aC)).1).1) 3 (((s_ThreeEulerLines aP (l_toPoint aA) (l_toPoint aB) (l_toPoint aC)).1).2)) = true then (if (!(l_eqLineS (((i_ThreeEulerLines aP (l_toPoint aA) (l_toPoint aB) (l_toPoint aC)).1).1) (((i_ThreeEulerLines aP (l_toPoint aA) (l_toPoint aB) (l_toPoint aC)).1).2) (((s_ThreeEulerLines aP (l_toPoint aA) (l_toPoint aB) (l_toPoint aC)).1).1) (((s_ThreeEulerLines aP (l_toPoint aA) (l_toPoint aB) (l_toPoint aC)).1).2))) = true then some false else (if (((i_ThreeEulerLines aP (l_toPoint aA) (l_toPoint aB) (l_toPoint aC)).2) != ((s_ThreeEulerLines aP (l_toPoint aA) (l_toPoint aB) (l_toPoint aC)).2)) = true then some false else (if (lenB (((i_ThreeEulerLines aP (l_toPoint aA) (l_toPoint aB) (l_toPoint aC)).1).1) 3 (((i_ThreeEulerLines aP (l_toPoint aA) (l_toPoint aB) (l_toPoint aC)).1).2) && (1 == 1)) = true then (if (lenB (((i_ThreeEulerLines aP (l_toPoint aA) (l_toPoint aB) (l_toPoint aC)).1).1) 3 ((l_markLineS (((i_ThreeEulerLines aP (l_toPoint aA) (l_toPoint aB) (l_toPoint aC)).1).1) (((i_ThreeEulerLines aP (l_toPoint aA) (l_toPoint aB) (l_toPoint aC)).1).2) 1).2) && (1 == 1)) = true then (if (decide ((l_heldLineS (((i_ThreeEulerLines aP (l_toPoint aA) (l_toPoint aB) (l_toPoint aC)).1).1) ((l_markLineS (((i_ThreeEulerLines aP (l_toPoint aA) (l_toPoint aB) (l_toPoint aC)).1).1) (((i_ThreeEulerLines aP (l_toPoint aA) (l_toPoint aB) (l_toPoint aC)).1).2) 1).2) 1) < 0)) = true then some false else (if ((l_heldLineS (((i_ThreeEulerLines aP (l_toPoint aA) (l_toPoint aB) (l_toPoint aC)).1).1) ((l_markLineS (((i_ThreeEulerLines aP (l_toPoint aA) (l_toPoint aB) (l_toPoint aC)).1).1) (((i_ThreeEulerLines aP (l_toPoint aA) (l_toPoint aB) (l_toPoint aC)).1).2) 1).2) 1) != ((l_markLineS (((i_ThreeEulerLines aP (l_toPoint aA) (l_toPoint aB) (l_toPoint aC)).1).1) (((i_ThreeEulerLines aP (l_toPoint aA) (l_toPoint aB) (l_toPoint aC)).1).2) 1).1)) = true then some false else (if (lenB (((i_ThreeEulerLines aP (l_toPoint aA) (l_toPoint aB) (l_toPoint aC)).1).1) 3 (((i_ThreeEulerLines aP (l_toPoint aA) (l_toPoint aB) (l_toPoint aC)).1).2) && lenB (((s_ThreeEulerLines aP (l_toPoint aA) (l_toPoint aB) (l_toPoint aC)).1).1) 3 (((s_ThreeEulerLines aP (l_toPoint aA) (l_toPoint aB) (l_toPoint aC)).1).2)) = true then (if (!(l_eqLineS (((i_ThreeEulerLines aP (l_toPoint aA) (l_toPoint aB) (l_toPoint aC)).1).1) (((i_ThreeEulerLines aP (l_toPoint aA) (l_toPoint aB) (l_toPoint aC)).1).2) (((s_ThreeEulerLines aP (l_toPoint aA) (l_toPoint aB) (l_toPoint aC)).1).1) (((s_ThreeEulerLines aP (l_toPoint aA) (l_toPoint aB) (l_toPoint aC)).1).2))) = true then some false else (if (((i_ThreeEulerLines aP (l_toPoint aA) (l_toPoint aB) (l_toPoint aC)).2) != ((s_ThreeEulerLines aP (l_toPoint aA) (l_toPoint aB) (l_toPoint aC)).2)) = true then some false else (if (lenB (((i_ThreeEulerLines aP (l_toPoint aA) (l_toPoint aB) (l_toPoint aC)).1).1) 3 ((l_markLineS (((i_ThreeEulerLines aP (l_toPoint aA) (l_toPoint aB) (l_toPoint aC)).1).1) (((i_ThreeEulerLines aP (l_toPoint aA) (l_toPoint aB) (l_toPoint aC)).1).2) 1).2) && (1 == 1)) = true then (if (decide ((l_heldLineS (((i_ThreeEulerLines aP (l_toPoint aA) (l_toPoint aB) (l_toPoint aC)).1).1) ((l_markLineS (((i_ThreeEulerLines aP (l_toPoint aA) (l_toPoint aB) (l_toPoint aC)).1).1) (((i_ThreeEulerLines aP (l_toPoint aA) (l_toPoint aB) (l_toPoint aC)).1).2) 1).2) 1) < 0)) = true then some false else (if ((l_heldLineS (((i_ThreeEulerLines aP (l_toPoint aA) (l_toPoint aB) (l_toPoint aC)).1).1) ((l_markLineS (((i_ThreeEulerLines aP (l_toPoint aA) (l_toPoint aB) (l_toPoint aC)).1).1) (((i_ThreeEulerLines aP (l_toPoint aA) (l_toPoint aB) (l_toPoint aC)).1).2) 1).2) 1) != ((l_markLineS (((i_ThreeEulerLines aP (l_toPoint aA) (l_toPoint aB) (l_toPoint aC)).1).1) (((i_ThreeEulerLines aP (l_toPoint aA) (l_toPoint aB) (l_toPoint aC)).1).2) 1).1)) = true then some false else some true)) else none))) else none))) else none) else none))) else none)
theorem eq_l_FnExactThreeEulerLines (aP : Int) (aA : Int × Int) (aB : Int × Int) (aC : Int × Int) : execT Try.prog S_l_FnExactThreeEulerLines 12 87 1000000 dec_b [.v (.int .i64 aP), .v (.agg ⟨[.int .i64 aA.1, .int .i64 aA.2]⟩), .v (.agg ⟨[.int .i64 aB.1, .int .i64 aB.2]⟩), .v (.agg ⟨[.int .i64 aC.1, .int .i64 aC.2]⟩)] = Fo_l_FnExactThreeEulerLines aP aA aB aC := by
  kernel_rfl
def l_FnExactThreeEulerLines (aP : Int) (aA : Int × Int) (aB : Int × Int) (aC : Int × Int) : Bool := true
theorem tot_l_FnExactThreeEulerLines (aP : Int) (aA : Int × Int) (aB : Int × Int) (aC : Int × Int) : Fo_l_FnExactThreeEulerLines aP aA aB aC = some (l_FnExactThreeEulerLines aP aA aB aC) := by
  have e := ThreeEulerLines_same aP aA aB aC
  have hl := ThreeEulerLines_len aP aA aB aC
  unfold Fo_l_FnExactThreeEulerLines
  simp only [l_toPoint, l_toLine, e]
  generalize s_ThreeEulerLines aP aA aB aC = r at hl ⊢
  obtain ⟨⟨n, l⟩, c⟩ := r
  dsimp only at hl ⊢
  have hm : lenB n 3 (seq1 (3 * n)) = true := lenB_seq hl rfl
  have h0 : decide (((3 * n : Nat) : Int) + 1 < 0) = false := by simp; omega
  have hm' : lenB n 3 (seq1 (3 * n)) = true := hm
  (try rw [Nat.one_mul] at hm')
  have h2 : ¬ (((3 : Nat) : Int) * (n : Int) + 1 < 0) := by omega
  have h3 : ¬ ((n : Int) + 1 < 0) := by omega
  have h4 : ¬ (3 * (n : Int) + 1 < 0) := by omega
  simp [l_eqLineS, l_markLineS, l_heldLineS, l_FnExactThreeEulerLines, hl, hm, hm', h0, h2, h3, h4]
def run_l_FnExactThreeEulerLines : List PV → Option (Bool × List TR)
  | [.v (.int .i64 aP), .v (.agg ⟨[.int .i64 aA0, .int .i64 aA1]⟩), .v (.agg ⟨[.int .i64 aB0, .int .i64 aB1]⟩), .v (.agg ⟨[.int .i64 aC0, .int .i64 aC1]⟩)] => some (true, enc_b (l_FnExactThreeEulerLines aP (aA0, aA1) (aB0, aB1) (aC0, aC1)))
  | _ => none
theorem sound_l_FnExactThreeEulerLines : Sound Try.prog 12 run_l_FnExactThreeEulerLines := by
  refine sound_of de_b SO_l_FnExactThreeEulerLines (by kernel_rfl) Try.func12 Try.ntmps12 rfl (by kernel_rfl) ?_
  intro W pvs avs rs hargs hrun
  unfold run_l_FnExactThreeEulerLines at hrun
  split at hrun
  · simp only [Option.some.injEq, Prod.mk.injEq] at hrun
    obtain ⟨hp, rfl⟩ := hrun
    rename_i aP aA0 aA1 aB0 aB1 aC0 aC1
    exact ⟨_, _, _, hargs, rfl, (eq_l_FnExactThreeEulerLines aP (aA0, aA1) (aB0, aB1) (aC0, aC1)).trans (tot_l_FnExactThreeEulerLines aP (aA0, aA1) (aB0, aB1) (aC0, aC1))⟩
  · cases hrun
theorem ThreeEulerLines_law (aP : Int) (aA : Int × Int) (aB : Int × Int) (aC : Int × Int) : l_FnExactThreeEulerLines aP aA aB aC = true := rfl
set_option maxRecDepth 100000 in
theorem FnExactThreeEulerLines_lifted (os : Os) (started : os.Started) (H : Type) (enc : TypeId × Value → H) :
    ReturnsInHanded {} Try.checked os 12 .any (Rows.fnExactThreeEulerLinesSpec.pre6 enc Try.prog Try.f12 Rows.fnExactThreeEulerLinesRow.domain false) (Rows.fnExactThreeEulerLinesSpec.post enc Try.prog Try.f12 false true false false) := by
  refine returnsInHanded_of_change (C := Try.checked) Try.own started (by kernel_rfl) Try.func12
    (ChangeSpec.witness6 (enc := enc) (C := Try.checked) false ⟨#[], #[.int .i64 0, .agg #[.int .i64 0, .int .i64 0], .agg #[.int .i64 0, .int .i64 0], .agg #[.int .i64 0, .int .i64 0]], []⟩ 8 (by kernel_rfl) (by kernel_rfl) (by kernel_rfl) (by kernel_rfl)) ?_
  intro W base args ds gs before hval0 hW hcnd _
  have hval : ∀ (j : Nat) t v, Try.f12.params[j]? = some t → args[j]? = some v → Value.okWide Try.prog W .any base t v := hval0
  have hW' := hW
  obtain ⟨p, q, hA0, hV, rfl, hfz, hnd⟩ := hW
  have hA : DataW.TrodAll enc Try.prog W 0 (fun _ => true) true Try.f12.params.toList args.toList ds p := hA0
  rw [Try.params12] at hA hval
  have hAk := hA
  obtain ⟨v0, vs0, d0, ds0, p0, q0, hargs, rfl, rfl, h0, r0⟩ := trodAll_cons hA
  obtain ⟨v1, vs1, d1, ds1, p1, q1, rfl, rfl, rfl, h1, r1⟩ := trodAll_cons r0
  obtain ⟨v2, vs2, d2, ds2, p2, q2, rfl, rfl, rfl, h2, r2⟩ := trodAll_cons r1
  obtain ⟨v3, vs3, d3, ds3, p3, q3, rfl, rfl, rfl, h3, r3⟩ := trodAll_cons r2
  obtain ⟨rfl, rfl, rfl⟩ := trodAll_nil r3
  obtain rfl : args = #[v0, v1, v2, v3] := by
    apply Array.toList_inj.1
    exact hargs
  obtain ⟨rfl, rfl⟩ := trodVars_none hV
  clear hA0 hval0
  simp only [List.append_nil] at hW' hAk
  obtain ⟨x0, rfl, i0⟩ := open_i64 Try.underlying2 (hval 0 2 v0 rfl rfl)
  obtain ⟨xs1, hl1, rfl, i1⟩ := open_arr (n := 2) (ts := [2, 2]) Try.underlying28 (by kernel_rfl) (by kernel_rfl) (by intro u hu; simp at hu; subst hu; exact Try.underlying2) (hval 1 28 v1 rfl rfl)
  obtain ⟨x1_0, x1_1, rfl⟩ := len2 hl1
  obtain ⟨xs2, hl2, rfl, i2⟩ := open_arr (n := 2) (ts := [2, 2]) Try.underlying28 (by kernel_rfl) (by kernel_rfl) (by intro u hu; simp at hu; subst hu; exact Try.underlying2) (hval 2 28 v2 rfl rfl)
  obtain ⟨x2_0, x2_1, rfl⟩ := len2 hl2
  obtain ⟨xs3, hl3, rfl, i3⟩ := open_arr (n := 2) (ts := [2, 2]) Try.underlying28 (by kernel_rfl) (by kernel_rfl) (by intro u hu; simp at hu; subst hu; exact Try.underlying2) (hval 3 28 v3 rfl rfl)
  obtain ⟨x3_0, x3_1, rfl⟩ := len2 hl3
  have hc := bool_any (sound_l_FnExactThreeEulerLines W [.v (.int .i64 x0), .v (.agg ⟨[.int .i64 x1_0, .int .i64 x1_1]⟩), .v (.agg ⟨[.int .i64 x2_0, .int .i64 x2_1]⟩), .v (.agg ⟨[.int .i64 x3_0, .int .i64 x3_1]⟩)] [.int .i64 x0, .agg ⟨[.int .i64 x1_0, .int .i64 x1_1]⟩, .agg ⟨[.int .i64 x2_0, .int .i64 x2_1]⟩, .agg ⟨[.int .i64 x3_0, .int .i64 x3_1]⟩] _ ⟨rfl, rfl, rfl, rfl, True.intro⟩ rfl) (ThreeEulerLines_law x0 (x1_0, x1_1) (x2_0, x2_1) (x3_0, x3_1))
  refine hc.mono fun e W2 ⟨he, hb⟩ => ?_
  subst he
  refine ⟨_, rfl, _, _, _, [], p0 ++ (p1 ++ (p2 ++ (p3))), [], hW', ?_, ?_, rfl, Below.frame hb _, fun h => by cases h⟩
  · exact trodAll_mk1 (shut_bool Try.underlying4 true)
  · exact trodAll_stays Try.laidOut hb (ts := [2, 28, 28, 28]) (by intro t ht; simp at ht; rcases ht with rfl | rfl | rfl | rfl <;> exact ⟨by kernel_rfl, of_decide_eq_true (by kernel_rfl)⟩) hAk (fun x hx => hW'.lt x hx)
theorem FnExactThreeEulerLines_holds : Rows.FnExactThreeEulerLinesSaid :=
  OpenClaim.holds_of_wide 12 Try.f12 rfl rfl rfl rfl rfl rfl rfl ⟨rfl, rfl, rfl, rfl, rfl⟩ rfl rfl rfl rfl rfl (by kernel_rfl) Try.func12 FnExactThreeEulerLines_facts
    (of_decide_eq_true (by kernel_rfl)) (by unfold Func.isWrapper; first | (rw [if_pos (by decide +kernel)]; kernel_rfl) | (rw [if_neg (by decide +kernel)]; exact ⟨rfl, rfl⟩))
    (fun os started H enc _ => FnExactThreeEulerLines_lifted os started H enc)
end Go.Proofs.Ytgadfldmbpgimaa
