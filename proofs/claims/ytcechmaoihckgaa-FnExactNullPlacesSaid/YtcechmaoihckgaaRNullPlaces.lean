/- Proved here: for every p the desk and the specification give the same null places, with the same code of refusal, in memory of their own. It holds for all arguments, without condition. -/
import Derived.Test.YtcechmaoihckgaaSb
import Derived.Test.YtcechmaoihckgaaJNullPlaces
import Derived.Test.YtcechmaoihckgaaFNullPlaces
import Derived.Test.YtcechmaoihckgaaQl
set_option linter.unusedSimpArgs false
set_option linter.unusedVariables false
namespace Go.Proofs.Ytcechmaoihckgaa
open Go.RowKit Go.ChangeShapes Go.WideShapes Go.ChangeAt
theorem null_same (p : Int) (a : P3) : s_l09Null p a = i_isNullPlace p a := rfl
theorem NullPlaces_same (p : Int) : i_NullPlaces p = s_NullPlaces p := by
  unfold i_NullPlaces s_NullPlaces i_placesWith V_s_NullPlaces_0
  have hc : s_l09Code p [] = if i_IsField p = true then 0 else 1 := rfl
  rw [hc]
  cases h : i_IsField p
  · rfl
  · rfl
theorem NullPlaces_len (p : Int) : lenB (s_NullPlaces p).1.1 3 (s_NullPlaces p).1.2 = true := by
  unfold s_NullPlaces V_s_NullPlaces_0
  split
  · rfl
  · rename_i h
    have hl := places_len (l09Code_prB h)
    exact lenB3 (Nat.le_trans (List.length_filter_le _ _) (by omega))

def S_l_FnExactNullPlaces : Sums := ⟨tblS [(28, run_s_NullPlaces), (29, run_i_NullPlaces), (30, run_l_eqPlaceS), (32, run_l_heldPlaceS)], tblM [(31, run_l_markPlaceS)]⟩
theorem SO_l_FnExactNullPlaces : SumsOK Try.prog S_l_FnExactNullPlaces := ⟨tblS_ok ⟨⟨Try.call28, sound_s_NullPlaces⟩, ⟨Try.call29, sound_i_NullPlaces⟩, ⟨Try.call30, sound_l_eqPlaceS⟩, ⟨Try.call32, sound_l_heldPlaceS⟩, True.intro⟩, tblM_ok ⟨⟨Try.call31, sound_l_markPlaceS⟩, True.intro⟩⟩
def Fo_l_FnExactNullPlaces (aP : Int) : Option (Bool) :=
  (if (lenB (((i_NullPlaces aP).1).1) 3 (((i_NullPlaces aP).1).2) && lenB (((s_NullPlaces aP).1).1) 3 (((s_NullPlaces aP).1).2)) = true then (if (!(l_eqPlaceS (((i_NullPlaces aP).1).1) (((i_NullPlaces aP).1).2) (((s_NullPlaces aP).1).1) (((s_NullPlaces aP).1).2))) = true then some false else (if (((i_NullPlaces aP).2) != ((s_NullPlaces aP).2)) = true then some false else (if (lenB (((i_NullPlaces aP).1).1) 3 (((i_NullPlaces aP).1).2) && (1 == 1)) = true then (if (lenB (((i_NullPlaces aP).1).1) 3 ((l_markPlaceS (((i_NullPlaces aP).1).1) (((i_NullPlaces aP).1).2) 1).2) && (1 == 1)) = true then (if (decide ((l_heldPlaceS (((i_NullPlaces aP).1).1) ((l_markPlaceS (((i_NullPlaces aP).1).1) (((i_NullPlaces aP).1).2) 1).2) 1) < 0)) = true then some false else (if ((l_heldPlaceS (((i_NullPlaces aP).1).1) ((l_markPlaceS (((i_NullPlaces aP).1).1) (((i_NullPlaces aP).1).2) 1).2) 1) != ((l_markPlaceS (((i_NullPlaces aP).1).1) (((i_NullPlaces aP).1).2) 1).1)) = true then some false else (if (lenB (((i_NullPlaces aP).1).1) 3 (((i_NullPlaces aP).1).2) && lenB (((s_NullPlaces aP).1).1) 3 (((s_NullPlaces aP).1).2)) = true then (if (!(l_eqPlaceS (((i_NullPlaces aP).1).1) (((i_NullPlaces aP).1).2) (((s_NullPlaces aP).1).1) (((s_NullPlaces aP).1).2))) = true then some false else (if (((i_NullPlaces aP).2) != ((s_NullPlaces aP).2)) = true then some false else (if (lenB (((i_NullPlaces aP).1).1) 3 ((l_markPlaceS (((i_NullPlaces aP).1).1) (((i_NullPlaces aP).1).2) 1).2) && (1 == 1)) = true then (if (decide ((l_heldPlaceS (((i_NullPlaces aP).1).1) ((l_markPlaceS (((i_NullPlaces aP).1).1) (((i_NullPlaces aP).1).2) 1).2) 1) < 0)) = true then some false else (if ((l_heldPlaceS (((i_NullPlaces aP).1).1) ((l_markPlaceS (((i_NullPlaces aP).1).1) (((i_NullPlaces aP).1).2) 1).2) 1) != ((l_markPlaceS (((i_NullPlaces aP).1).1) (((i_NullPlaces aP).1).2) 1).1)) = true then some false else some true)) else none))) else none))) else none) else none))) else none)
theorem eq_l_FnExactNullPlaces (aP : Int) : execT Try.prog S_l_FnExactNullPlaces 7 63 1000000 dec_b [.v (.int .i64 aP)] = Fo_l_FnExactNullPlaces aP := by
  kernel_rfl
def l_FnExactNullPlaces (aP : Int) : Bool := true
theorem tot_l_FnExactNullPlaces (aP : Int) : Fo_l_FnExactNullPlaces aP = some (l_FnExactNullPlaces aP) := by
  have e := NullPlaces_same aP
  have hl := NullPlaces_len aP
  unfold Fo_l_FnExactNullPlaces
  simp only [l_toPlace, e]
  generalize s_NullPlaces aP = r at hl ⊢
  obtain ⟨⟨n, l⟩, c⟩ := r
  dsimp only at hl ⊢
  have hm : lenB n 3 (seq1 (3 * n)) = true := lenB_seq hl rfl
  have h0 : decide (((3 * n : Nat) : Int) + 1 < 0) = false := by simp; omega
  have hm' : lenB n 3 (seq1 (3 * n)) = true := hm
  (try rw [Nat.one_mul] at hm')
  have h2 : ¬ (((3 : Nat) : Int) * (n : Int) + 1 < 0) := by omega
  have h3 : ¬ ((n : Int) + 1 < 0) := by omega
  have h4 : ¬ (3 * (n : Int) + 1 < 0) := by omega
  simp [l_eqPlaceS, l_markPlaceS, l_heldPlaceS, l_FnExactNullPlaces, hl, hm, hm', h0, h2, h3, h4]
def run_l_FnExactNullPlaces : List PV → Option (Bool × List TR)
  | [.v (.int .i64 aP)] => some (true, enc_b (l_FnExactNullPlaces aP))
  | _ => none
theorem sound_l_FnExactNullPlaces : Sound Try.prog 7 run_l_FnExactNullPlaces := by
  refine sound_of de_b SO_l_FnExactNullPlaces (by kernel_rfl) Try.func7 Try.ntmps7 rfl (by kernel_rfl) ?_
  intro W pvs avs rs hargs hrun
  unfold run_l_FnExactNullPlaces at hrun
  split at hrun
  · simp only [Option.some.injEq, Prod.mk.injEq] at hrun
    obtain ⟨hp, rfl⟩ := hrun
    rename_i aP
    exact ⟨_, _, _, hargs, rfl, (eq_l_FnExactNullPlaces aP).trans (tot_l_FnExactNullPlaces aP)⟩
  · cases hrun
theorem NullPlaces_law (aP : Int) : l_FnExactNullPlaces aP = true := rfl
set_option maxRecDepth 100000 in
theorem FnExactNullPlaces_lifted (os : Os) (started : os.Started) (H : Type) (enc : TypeId × Value → H) :
    ReturnsInHanded {} Try.checked os 7 .any (Rows.fnExactNullPlacesSpec.pre6 enc Try.prog Try.f7 Rows.fnExactNullPlacesRow.domain false) (Rows.fnExactNullPlacesSpec.post enc Try.prog Try.f7 false true false false) := by
  refine returnsInHanded_of_change (C := Try.checked) Try.own started (by kernel_rfl) Try.func7
    (ChangeSpec.witness6 (enc := enc) (C := Try.checked) false ⟨#[], #[.int .i64 0], []⟩ 8 (by kernel_rfl) (by kernel_rfl) (by kernel_rfl) (by kernel_rfl)) ?_
  intro W base args ds gs before hval0 hW hcnd _
  have hval : ∀ (j : Nat) t v, Try.f7.params[j]? = some t → args[j]? = some v → Value.okWide Try.prog W .any base t v := hval0
  have hW' := hW
  obtain ⟨p, q, hA0, hV, rfl, hfz, hnd⟩ := hW
  have hA : DataW.TrodAll enc Try.prog W 0 (fun _ => true) true Try.f7.params.toList args.toList ds p := hA0
  rw [Try.params7] at hA hval
  have hAk := hA
  obtain ⟨v0, vs0, d0, ds0, p0, q0, hargs, rfl, rfl, h0, r0⟩ := trodAll_cons hA
  obtain ⟨rfl, rfl, rfl⟩ := trodAll_nil r0
  obtain rfl : args = #[v0] := by
    apply Array.toList_inj.1
    exact hargs
  obtain ⟨rfl, rfl⟩ := trodVars_none hV
  clear hA0 hval0
  simp only [List.append_nil] at hW' hAk
  obtain ⟨x0, rfl, i0⟩ := open_i64 Try.underlying2 (hval 0 2 v0 rfl rfl)
  have hc := bool_any (sound_l_FnExactNullPlaces W [.v (.int .i64 x0)] [.int .i64 x0] _ ⟨rfl, True.intro⟩ rfl) (NullPlaces_law x0)
  refine hc.mono fun e W2 ⟨he, hb⟩ => ?_
  subst he
  refine ⟨_, rfl, _, _, _, [], p0, [], hW', ?_, ?_, rfl, Below.frame hb _, fun h => by cases h⟩
  · exact trodAll_mk1 (shut_bool Try.underlying4 true)
  · exact trodAll_stays Try.laidOut hb (ts := [2]) (by intro t ht; simp at ht; rcases ht with rfl <;> exact ⟨by kernel_rfl, of_decide_eq_true (by kernel_rfl)⟩) hAk (fun x hx => hW'.lt x hx)
theorem FnExactNullPlaces_holds : Rows.FnExactNullPlacesSaid :=
  OpenClaim.holds_of_wide 7 Try.f7 rfl rfl rfl rfl rfl rfl rfl ⟨rfl, rfl, rfl, rfl, rfl⟩ rfl rfl rfl rfl rfl (by kernel_rfl) Try.func7 FnExactNullPlaces_facts
    (of_decide_eq_true (by kernel_rfl)) (by unfold Func.isWrapper; first | (rw [if_pos (by decide +kernel)]; kernel_rfl) | (rw [if_neg (by decide +kernel)]; exact ⟨rfl, rfl⟩))
    (fun os started H enc _ => FnExactNullPlaces_lifted os started H enc)
end Go.Proofs.Ytcechmaoihckgaa
