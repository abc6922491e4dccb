/- Proved here: for every p and every two places the desk and the specification give the same midpoints, with the same code of refusal, in memory of their own. It holds for all arguments, without condition. -/
import Derived.Test.YtcechmaoihckgaaSb
import Derived.Test.YtcechmaoihckgaaJMidpointsOf
import Derived.Test.YtcechmaoihckgaaFMidpointsOf
import Derived.Test.YtcechmaoihckgaaQl
set_option linter.unusedSimpArgs false
set_option linter.unusedVariables false
namespace Go.Proofs.Ytcechmaoihckgaa
open Go.RowKit Go.ChangeShapes Go.WideShapes Go.ChangeAt
theorem null_same (p : Int) (a : P3) : s_l09Null p a = i_isNullPlace p a := rfl
theorem product_comm (p : Int) (a b : P3) : i_placeProduct p a b = i_placeProduct p b a := by
  unfold i_placeProduct
  rw [Int.mul_comm a.1, Int.mul_comm a.2.1, Int.mul_comm a.2.2]
theorem quad_comm (p : Int) (a b : P3) : i_placeQuadrance p a b = i_placeQuadrance p b a := by
  unfold i_placeQuadrance
  rw [product_comm p a b, Int.mul_comm (i_placeProduct p a a) (i_placeProduct p b b)]
theorem product_same (p : Int) (a b : P3) : s_l09Product p a b = i_placeProduct p a b := rfl
theorem MidpointsOf_same (p : Int) (a b : P3) : i_MidpointsOf p a b = s_MidpointsOf p a b := by
  unfold i_MidpointsOf s_MidpointsOf i_MidpointsOf_c1 V_s_MidpointsOf_0 V_s_MidpointsOf_1
  rw [placecode_eq p true]
  by_cases h : i_asked p true (i_arePlaces p [a, b]) = 0
  · have hf := (asked_zero h).1
    have hfil : ∀ q, (places p).filter (fun m => i_MidpointsOf_c2 m p q a b) = ((places p).filter fun zz => s_l09Product p zz q == 0).filter fun zz => !(i_isNullPlace p zz) && (s_l09Quadrance p a zz == s_l09Quadrance p b zz) := by
      intro q
      rw [List.filter_filter]
      apply filter_same
      intro m _
      unfold i_MidpointsOf_c2
      rw [quadrance_eq hf, quadrance_eq hf, quad_comm p m a, quad_comm p m b, product_same]
      cases i_isNullPlace p m <;> cases (i_placeProduct p m q == 0) <;> simp
    rw [join_same hf, show ∀ q, i_placesWith p (fun _ => prB p) (fun m => i_MidpointsOf_c2 m p q a b) = (((places p).filter (fun m => i_MidpointsOf_c2 m p q a b)).length, flat3 ((places p).filter (fun m => i_MidpointsOf_c2 m p q a b))) from fun _ => rfl, hfil]
    simp [h, null_same]
  · simp [h]
theorem MidpointsOf_len (p : Int) (a b : P3) : lenB (s_MidpointsOf p a b).1.1 3 (s_MidpointsOf p a b).1.2 = true := by
  have key : ¬ (s_l09Code p [a, b] != 0) = true → ∀ f g : P3 → Bool, lenB (((places p).filter f).filter g).length 3 (flat3 (((places p).filter f).filter g)) = true := by
    intro h f g
    have hl := places_len (l09Code_prB h)
    exact lenB3 (Nat.le_trans (List.length_filter_le _ _) (Nat.le_trans (List.length_filter_le _ _) (by omega)))
  unfold s_MidpointsOf V_s_MidpointsOf_0 V_s_MidpointsOf_1
  repeat' split
  all_goals first
    | rfl
    | exact key ‹_› _ _

def S_l_FnExactMidpointsOf : Sums := ⟨tblS [(19, run_l_toPlace), (50, run_s_MidpointsOf), (51, run_i_MidpointsOf), (30, run_l_eqPlaceS), (32, run_l_heldPlaceS)], tblM [(31, run_l_markPlaceS)]⟩
theorem SO_l_FnExactMidpointsOf : SumsOK Try.prog S_l_FnExactMidpointsOf := ⟨tblS_ok ⟨⟨Try.call19, sound_l_toPlace⟩, ⟨Try.call50, sound_s_MidpointsOf⟩, ⟨Try.call51, sound_i_MidpointsOf⟩, ⟨Try.call30, sound_l_eqPlaceS⟩, ⟨Try.call32, sound_l_heldPlaceS⟩, True.intro⟩, tblM_ok ⟨⟨Try.call31, sound_l_markPlaceS⟩, True.intro⟩⟩
def Fo_l_FnExactMidpointsOf (aP : Int) (aA : Int × Int × Int) (aB : Int × Int × Int) : Option (Bool) :=
  (if (lenB (((i_MidpointsOf aP (l_toPlace aA) (l_toPlace aB)).1).1) 3 (((i_MidpointsOf aP (l_toPlace aA) (l_toPlace aB)).1).2) && lenB (((s_MidpointsOf aP (l_toPlace aA) (l_toPlace aB)).1).1) 3 (((s_MidpointsOf aP (l_toPlace aA) (l_toPlace aB)).1).2)) = true then (if (!(l_eqPlaceS (((i_MidpointsOf aP (l_toPlace aA) (l_toPlace aB)).1).1) (((i_MidpointsOf aP (l_toPlace aA) (l_toPlace aB)).1).2) (((s_MidpointsOf aP (l_toPlace aA) (l_toPlace aB)).1).1) (((s_MidpointsOf aP (l_toPlace aA) (l_toPlace aB)).1).2))) = true then some false else (if (((i_MidpointsOf aP (l_toPlace aA) (l_toPlace aB)).2) != ((s_MidpointsOf aP (l_toPlace aA) (l_toPlace aB)).2)) = true then some false else (if (lenB (((i_MidpointsOf aP (l_toPlace aA) (l_toPlace aB)).1).1) 3 (((i_MidpointsOf aP (l_toPlace aA) (l_toPlace aB)).1).2) && (1 == 1)) = true then (if (lenB (((i_MidpointsOf aP (l_toPlace aA) (l_toPlace aB)).1).1) 3 ((l_markPlaceS (((i_MidpointsOf aP (l_toPlace aA) (l_toPlace aB)).1).1) (((i_MidpointsOf aP (l_toPlace aA) (l_toPlace aB)).1).2) 1).2) && (1 == 1)) = true then (if (decide ((l_heldPlaceS (((i_MidpointsOf aP (l_toPlace aA) (l_toPlace aB)).1).1) ((l_markPlaceS (((i_MidpointsOf aP (l_toPlace aA) (l_toPlace aB)).1).1) (((i_MidpointsOf aP (l_toPlace aA) (l_toPlace aB)).1).2) 1).2) 1) < 0)) = true then some false else (if ((l_heldPlaceS (((i_MidpointsOf aP (l_toPlace aA) (l_toPlace aB)).1).1) ((l_markPlaceS (((i_MidpointsOf aP (l_toPlace aA) (l_toPlace aB)).1).1) (((i_MidpointsOf aP (l_toPlace aA) (l_toPlace aB)).1).2) 1).2) 1) != ((l_markPlaceS (((i_MidpointsOf aP (l_toPlace aA) (l_toPlace aB)).1).1) (((i_MidpointsOf aP (l_toPlace aA) (l_toPlace aB)).1).2) 1).1)) = true then some false else (if (lenB (((i_MidpointsOf aP (l_toPlace aA) (l_toPlace aB)).1).1) 3 (((i_MidpointsOf aP (l_toPlace aA) (l_toPlace aB)).1).2) && lenB (((s_MidpointsOf aP (l_toPlace aA) (l_toPlace aB)).1).1) 3 (((s_MidpointsOf aP (l_toPlace aA) (l_toPlace aB)).1).2)) = true then (if (!(l_eqPlaceS (((i_MidpointsOf aP (l_toPlace aA) (l_toPlace aB)).1).1) (((i_MidpointsOf aP (l_toPlace aA) (l_toPlace aB)).1).2) (((s_MidpointsOf aP (l_toPlace aA) (l_toPlace aB)).1).1) (((s_MidpointsOf aP (l_toPlace aA) (l_toPlace aB)).1).2))) = true then some false else (if (((i_MidpointsOf aP (l_toPlace aA) (l_toPlace aB)).2) != ((s_MidpointsOf aP (l_toPlace aA) (l_toPlace aB)).2)) = true then some false else (if (lenB (((i_MidpointsOf aP (l_toPlace aA) (l_toPlace aB)).1).1) 3 ((l_markPlaceS (((i_MidpointsOf aP (l_toPlace aA) (l_toPlace aB)).1).1) (((i_MidpointsOf aP (l_toPlace aA) (l_toPlace aB)).1).2) 1).2) && (1 == 1)) = true then (if (decide ((l_heldPlaceS (((i_MidpointsOf aP (l_toPlace aA) (l_toPlace aB)).1).1) ((l_markPlaceS (((i_MidpointsOf aP (l_toPlace aA) (l_toPlace aB)).1).1) (((i_MidpointsOf aP (l_toPlace aA) (l_toPlace aB)).1).2) 1).2) 1) < 0)) = true then some false else (if ((l_heldPlaceS (((i_MidpointsOf aP (l_toPlace aA) (l_toPlace aB)).1).1) ((l_markPlaceS (((i_MidpointsOf aP (l_toPlace aA) (l_toPlace aB)).1).1) (((i_MidpointsOf aP (l_toPlace aA) (l_toPlace aB)).1).2) 1).2) 1) != ((l_markPlaceS (((i_MidpointsOf aP (l_toPlace aA) (l_toPlace aB)).1).1) (((i_MidpointsOf aP (l_toPlace aA) (l_toPlace aB)).1).2) 1).1)) = true then some false else some true)) else none))) else none))) else none) else none))) else none)
theorem eq_l_FnExactMidpointsOf (aP : Int) (aA : Int × Int × Int) (aB : Int × Int × Int) : execT Try.prog S_l_FnExactMidpointsOf 15 79 1000000 dec_b [.v (.int .i64 aP), .v (.agg ⟨[.int .i64 aA.1, .int .i64 aA.2.1, .int .i64 aA.2.2]⟩), .v (.agg ⟨[.int .i64 aB.1, .int .i64 aB.2.1, .int .i64 aB.2.2]⟩)] = Fo_l_FnExactMidpointsOf aP aA aB := by
  kernel_rfl
def l_FnExactMidpointsOf (aP : Int) (aA : Int × Int × Int) (aB : Int × Int × Int) : Bool := true
theorem tot_l_FnExactMidpointsOf (aP : Int) (aA : Int × Int × Int) (aB : Int × Int × Int) : Fo_l_FnExactMidpointsOf aP aA aB = some (l_FnExactMidpointsOf aP aA aB) := by
  have e := MidpointsOf_same aP aA aB
  have hl := MidpointsOf_len aP aA aB
  unfold Fo_l_FnExactMidpointsOf
  simp only [l_toPlace, e]
  generalize s_MidpointsOf aP aA aB = r at hl ⊢
  obtain ⟨⟨n, l⟩, c⟩ := r
  dsimp only at hl ⊢
  have hm : lenB n 3 (seq1 (3 * n)) = true := lenB_seq hl rfl
  have h0 : decide (((3 * n : Nat) : Int) + 1 < 0) = false := by simp; omega
  have hm' : lenB n 3 (seq1 (3 * n)) = true := hm
  (try rw [Nat.one_mul] at hm')
  have h2 : ¬ (((3 : Nat) : Int) * (n : Int) + 1 < 0) := by omega
  have h3 : ¬ ((n : Int) + 1 < 0) := by omega
  have h4 : ¬ (3 * (n : Int) + 1 < 0) := by omega
  simp [l_eqPlaceS, l_markPlaceS, l_heldPlaceS, l_FnExactMidpointsOf, hl, hm, hm', h0, h2, h3, h4]
def run_l_FnExactMidpointsOf : List PV → Option (Bool × List TR)
  | [.v (.int .i64 aP), .v (.agg ⟨[.int .i64 aA0, .int .i64 aA1, .int .i64 aA2]⟩), .v (.agg ⟨[.int .i64 aB0, .int .i64 aB1, .int .i64 aB2]⟩)] => some (true, enc_b (l_FnExactMidpointsOf aP (aA0, aA1, aA2) (aB0, aB1, aB2)))
  | _ => none
theorem sound_l_FnExactMidpointsOf : Sound Try.prog 15 run_l_FnExactMidpointsOf := by
  refine sound_of de_b SO_l_FnExactMidpointsOf (by kernel_rfl) Try.func15 Try.ntmps15 rfl (by kernel_rfl) ?_
  intro W pvs avs rs hargs hrun
  unfold run_l_FnExactMidpointsOf at hrun
  split at hrun
  · simp only [Option.some.injEq, Prod.mk.injEq] at hrun
    obtain ⟨hp, rfl⟩ := hrun
    rename_i aP aA0 aA1 aA2 aB0 aB1 aB2
    exact ⟨_, _, _, hargs, rfl, (eq_l_FnExactMidpointsOf aP (aA0, aA1, aA2) (aB0, aB1, aB2)).trans (tot_l_FnExactMidpointsOf aP (aA0, aA1, aA2) (aB0, aB1, aB2))⟩
  · cases hrun
theorem MidpointsOf_law (aP : Int) (aA : Int × Int × Int) (aB : Int × Int × Int) : l_FnExactMidpointsOf aP aA aB = true := rfl
set_option maxRecDepth 100000 in
theorem FnExactMidpointsOf_lifted (os : Os) (started : os.Started) (H : Type) (enc : TypeId × Value → H) :
    ReturnsInHanded {} Try.checked os 15 .any (Rows.fnExactMidpointsOfSpec.pre6 enc Try.prog Try.f15 Rows.fnExactMidpointsOfRow.domain false) (Rows.fnExactMidpointsOfSpec.post enc Try.prog Try.f15 false true false false) := by
  refine returnsInHanded_of_change (C := Try.checked) Try.own started (by kernel_rfl) Try.func15
    (ChangeSpec.witness6 (enc := enc) (C := Try.checked) false ⟨#[], #[.int .i64 0, .agg #[.int .i64 0, .int .i64 0, .int .i64 0], .agg #[.int .i64 0, .int .i64 0, .int .i64 0]], []⟩ 8 (by kernel_rfl) (by kernel_rfl) (by kernel_rfl) (by kernel_rfl)) ?_
  intro W base args ds gs before hval0 hW hcnd _
  have hval : ∀ (j : Nat) t v, Try.f15.params[j]? = some t → args[j]? = some v → Value.okWide Try.prog W .any base t v := hval0
  have hW' := hW
  obtain ⟨p, q, hA0, hV, rfl, hfz, hnd⟩ := hW
  have hA : DataW.TrodAll enc Try.prog W 0 (fun _ => true) true Try.f15.params.toList args.toList ds p := hA0
  rw [Try.params15] at hA hval
  have hAk := hA
  obtain ⟨v0, vs0, d0, ds0, p0, q0, hargs, rfl, rfl, h0, r0⟩ := trodAll_cons hA
  obtain ⟨v1, vs1, d1, ds1, p1, q1, rfl, rfl, rfl, h1, r1⟩ := trodAll_cons r0
  obtain ⟨v2, vs2, d2, ds2, p2, q2, rfl, rfl, rfl, h2, r2⟩ := trodAll_cons r1
  obtain ⟨rfl, rfl, rfl⟩ := trodAll_nil r2
  obtain rfl : args = #[v0, v1, v2] := by
    apply Array.toList_inj.1
    exact hargs
  obtain ⟨rfl, rfl⟩ := trodVars_none hV
  clear hA0 hval0
  simp only [List.append_nil] at hW' hAk
  obtain ⟨x0, rfl, i0⟩ := open_i64 Try.underlying2 (hval 0 2 v0 rfl rfl)
  obtain ⟨xs1, hl1, rfl, i1⟩ := open_arr (n := 3) (ts := [2, 2, 2]) Try.underlying22 (by kernel_rfl) (by kernel_rfl) (by intro u hu; simp at hu; subst hu; exact Try.underlying2) (hval 1 22 v1 rfl rfl)
  obtain ⟨x1_0, x1_1, x1_2, rfl⟩ := len3 hl1
  obtain ⟨xs2, hl2, rfl, i2⟩ := open_arr (n := 3) (ts := [2, 2, 2]) Try.underlying22 (by kernel_rfl) (by kernel_rfl) (by intro u hu; simp at hu; subst hu; exact Try.underlying2) (hval 2 22 v2 rfl rfl)
  obtain ⟨x2_0, x2_1, x2_2, rfl⟩ := len3 hl2
  have hc := bool_any (sound_l_FnExactMidpointsOf W [.v (.int .i64 x0), .v (.agg ⟨[.int .i64 x1_0, .int .i64 x1_1, .int .i64 x1_2]⟩), .v (.agg ⟨[.int .i64 x2_0, .int .i64 x2_1, .int .i64 x2_2]⟩)] [.int .i64 x0, .agg ⟨[.int .i64 x1_0, .int .i64 x1_1, .int .i64 x1_2]⟩, .agg ⟨[.int .i64 x2_0, .int .i64 x2_1, .int .i64 x2_2]⟩] _ ⟨rfl, rfl, rfl, True.intro⟩ rfl) (MidpointsOf_law x0 (x1_0, x1_1, x1_2) (x2_0, x2_1, x2_2))
  refine hc.mono fun e W2 ⟨he, hb⟩ => ?_
  subst he
  refine ⟨_, rfl, _, _, _, [], p0 ++ (p1 ++ (p2)), [], hW', ?_, ?_, rfl, Below.frame hb _, fun h => by cases h⟩
  · exact trodAll_mk1 (shut_bool Try.underlying4 true)
  · exact trodAll_stays Try.laidOut hb (ts := [2, 22, 22]) (by intro t ht; simp at ht; rcases ht with rfl | rfl | rfl <;> exact ⟨by kernel_rfl, of_decide_eq_true (by kernel_rfl)⟩) hAk (fun x hx => hW'.lt x hx)
theorem FnExactMidpointsOf_holds : Rows.FnExactMidpointsOfSaid :=
  OpenClaim.holds_of_wide 15 Try.f15 rfl rfl rfl rfl rfl rfl rfl ⟨rfl, rfl, rfl, rfl, rfl⟩ rfl rfl rfl rfl rfl (by kernel_rfl) Try.func15 FnExactMidpointsOf_facts
    (of_decide_eq_true (by kernel_rfl)) (by unfold Func.isWrapper; first | (rw [if_pos (by decide +kernel)]; kernel_rfl) | (rw [if_neg (by decide +kernel)]; exact ⟨rfl, rfl⟩))
    (fun os started H enc _ => FnExactMidpointsOf_lifted os started H enc)
end Go.Proofs.Ytcechmaoihckgaa
