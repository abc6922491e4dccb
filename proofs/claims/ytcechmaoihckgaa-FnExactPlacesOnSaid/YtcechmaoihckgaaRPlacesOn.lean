/- Proved here: for every p and every pole the desk and the specification give the same places on a line, with the same code of refusal, in memory of their own. It holds for all arguments, without condition. -/
import Derived.Test.YtcechmaoihckgaaSb
import Derived.Test.YtcechmaoihckgaaJPlacesOn
import Derived.Test.YtcechmaoihckgaaFPlacesOn
import Derived.Test.YtcechmaoihckgaaQl
set_option linter.unusedSimpArgs false
set_option linter.unusedVariables false
namespace Go.Proofs.Ytcechmaoihckgaa
open Go.RowKit Go.ChangeShapes Go.WideShapes Go.ChangeAt
theorem PlacesOn_same (p : Int) (pole : P3) : i_PlacesOn p pole = s_PlacesOn p pole := by
  unfold i_PlacesOn s_PlacesOn i_PlacesOn_c1 i_placesOn i_placesWith s_l09On
  rw [placecode_eq p true, show i_arePlaces p [pole] = i_isPlace p pole from by simp [i_arePlaces]]
  rfl
theorem PlacesOn_len (p : Int) (pole : P3) : lenB (s_PlacesOn p pole).1.1 3 (s_PlacesOn p pole).1.2 = true := by
  unfold s_PlacesOn s_l09On
  split
  · rfl
  · rename_i h
    have hl := places_len (l09Code_prB h)
    exact lenB3 (Nat.le_trans (List.length_filter_le _ _) (by omega))

def S_l_FnExactPlacesOn : Sums := ⟨tblS [(19, run_l_toPlace), (46, run_s_PlacesOn), (47, run_i_PlacesOn), (30, run_l_eqPlaceS), (32, run_l_heldPlaceS)], tblM [(31, run_l_markPlaceS)]⟩
theorem SO_l_FnExactPlacesOn : SumsOK Try.prog S_l_FnExactPlacesOn := ⟨tblS_ok ⟨⟨Try.call19, sound_l_toPlace⟩, ⟨Try.call46, sound_s_PlacesOn⟩, ⟨Try.call47, sound_i_PlacesOn⟩, ⟨Try.call30, sound_l_eqPlaceS⟩, ⟨Try.call32, sound_l_heldPlaceS⟩, True.intro⟩, tblM_ok ⟨⟨Try.call31, sound_l_markPlaceS⟩, True.intro⟩⟩
def Fo_l_FnExactPlacesOn (aP : Int) (aPole : Int × Int × Int) : Option (Bool) :=
  (if (lenB (((i_PlacesOn aP (l_toPlace aPole)).1).1) 3 (((i_PlacesOn aP (l_toPlace aPole)).1).2) && lenB (((s_PlacesOn aP (l_toPlace aPole)).1).1) 3 (((s_PlacesOn aP (l_toPlace aPole)).1).2)) = true then (if (!(l_eqPlaceS (((i_PlacesOn aP (l_toPlace aPole)).1).1) (((i_PlacesOn aP (l_toPlace aPole)).1).2) (((s_PlacesOn aP (l_toPlace aPole)).1).1) (((s_PlacesOn aP (l_toPlace aPole)).1).2))) = true then some false else (if (((i_PlacesOn aP (l_toPlace aPole)).2) != ((s_PlacesOn aP (l_toPlace aPole)).2)) = true then some false else (if (lenB (((i_PlacesOn aP (l_toPlace aPole)).1).1) 3 (((i_PlacesOn aP (l_toPlace aPole)).1).2) && (1 == 1)) = true then (if (lenB (((i_PlacesOn aP (l_toPlace aPole)).1).1) 3 ((l_markPlaceS (((i_PlacesOn aP (l_toPlace aPole)).1).1) (((i_PlacesOn aP (l_toPlace aPole)).1).2) 1).2) && (1 == 1)) = true then (if (decide ((l_heldPlaceS (((i_PlacesOn aP (l_toPlace aPole)).1).1) ((l_markPlaceS (((i_PlacesOn aP (l_toPlace aPole)).1).1) (((i_PlacesOn aP (l_toPlace aPole)).1).2) 1).2) 1) < 0)) = true then some false else (if ((l_heldPlaceS (((i_PlacesOn aP (l_toPlace aPole)).1).1) ((l_markPlaceS (((i_PlacesOn aP (l_toPlace aPole)).1).1) (((i_PlacesOn aP (l_toPlace aPole)).1).2) 1).2) 1) != ((l_markPlaceS (((i_PlacesOn aP (l_toPlace aPole)).1).1) (((i_PlacesOn aP (l_toPlace aPole)).1).2) 1).1)) = true then some false else (if (lenB (((i_PlacesOn aP (l_toPlace aPole)).1).1) 3 (((i_PlacesOn aP (l_toPlace aPole)).1).2) && lenB (((s_PlacesOn aP (l_toPlace aPole)).1).1) 3 (((s_PlacesOn aP (l_toPlace aPole)).1).2)) = true then (if (!(l_eqPlaceS (((i_PlacesOn aP (l_toPlace aPole)).1).1) (((i_PlacesOn aP (l_toPlace aPole)).1).2) (((s_PlacesOn aP (l_toPlace aPole)).1).1) (((s_PlacesOn aP (l_toPlace aPole)).1).2))) = true then some false else (if (((i_PlacesOn aP (l_toPlace aPole)).2) != ((s_PlacesOn aP (l_toPlace aPole)).2)) = true then some false else (if (lenB (((i_PlacesOn aP (l_toPlace aPole)).1).1) 3 ((l_markPlaceS (((i_PlacesOn aP (l_toPlace aPole)).1).1) (((i_PlacesOn aP (l_toPlace aPole)).1).2) 1).2) && (1 == 1)) = true then (if (decide ((l_heldPlaceS (((i_PlacesOn aP (l_toPlace aPole)).1).1) ((l_markPlaceS (((i_PlacesOn aP (l_toPlace aPole)).1).1) (((i_PlacesOn aP (l_toPlace aPole)).1).2) 1).2) 1) < 0)) = true then some false else (if ((l_heldPlaceS (((i_PlacesOn aP (l_toPlace aPole)).1).1) ((l_markPlaceS (((i_PlacesOn aP (l_toPlace aPole)).1).1) (((i_PlacesOn aP (l_toPlace aPole)).1).2) 1).2) 1) != ((l_markPlaceS (((i_PlacesOn aP (l_toPlace aPole)).1).1) (((i_PlacesOn aP (l_toPlace aPole)).1).2) 1).1)) = true then some false else some true)) else none))) else none))) else none) else none))) else none)
theorem eq_l_FnExactPlacesOn (aP : Int) (aPole : Int × Int × Int) : execT Try.prog S_l_FnExactPlacesOn 13 71 1000000 dec_b [.v (.int .i64 aP), .v (.agg ⟨[.int .i64 aPole.1, .int .i64 aPole.2.1, .int .i64 aPole.2.2]⟩)] = Fo_l_FnExactPlacesOn aP aPole := by
  kernel_rfl
def l_FnExactPlacesOn (aP : Int) (aPole : Int × Int × Int) : Bool := true
theorem tot_l_FnExactPlacesOn (aP : Int) (aPole : Int × Int × Int) : Fo_l_FnExactPlacesOn aP aPole = some (l_FnExactPlacesOn aP aPole) := by
  have e := PlacesOn_same aP aPole
  have hl := PlacesOn_len aP aPole
  unfold Fo_l_FnExactPlacesOn
  simp only [l_toPlace, e]
  generalize s_PlacesOn aP aPole = r at hl ⊢
  obtain ⟨⟨n, l⟩, c⟩ := r
  dsimp only at hl ⊢
  have hm : lenB n 3 (seq1 (3 * n)) = true := lenB_seq hl rfl
  have h0 : decide (((3 * n : Nat) : Int) + 1 < 0) = false := by simp; omega
  have hm' : lenB n 3 (seq1 (3 * n)) = true := hm
  (try rw [Nat.one_mul] at hm')
  have h2 : ¬ (((3 : Nat) : Int) * (n : Int) + 1 < 0) := by omega
  have h3 : ¬ ((n : Int) + 1 < 0) := by omega
  have h4 : ¬ (3 * (n : Int) + 1 < 0) := by omega
  simp [l_eqPlaceS, l_markPlaceS, l_heldPlaceS, l_FnExactPlacesOn, hl, hm, hm', h0, h2, h3, h4]
def run_l_FnExactPlacesOn : List PV → Option (Bool × List TR)
  | [.v (.int .i64 aP), .v (.agg ⟨[.int .i64 aPole0, .int .i64 aPole1, .int .i64 aPole2]⟩)] => some (true, enc_b (l_FnExactPlacesOn aP (aPole0, aPole1, aPole2)))
  | _ => none
theorem sound_l_FnExactPlacesOn : Sound Try.prog 13 run_l_FnExactPlacesOn := by
  refine sound_of de_b SO_l_FnExactPlacesOn (by kernel_rfl) Try.func13 Try.ntmps13 rfl (by kernel_rfl) ?_
  intro W pvs avs rs hargs hrun
  unfold run_l_FnExactPlacesOn at hrun
  split at hrun
  · simp only [Option.some.injEq, Prod.mk.injEq] at hrun
    obtain ⟨hp, rfl⟩ := hrun
    rename_i aP aPole0 aPole1 aPole2
    exact ⟨_, _, _, hargs, rfl, (eq_l_FnExactPlacesOn aP (aPole0, aPole1, aPole2)).trans (tot_l_FnExactPlacesOn aP (aPole0, aPole1, aPole2))⟩
  · cases hrun
theorem PlacesOn_law (aP : Int) (aPole : Int × Int × Int) : l_FnExactPlacesOn aP aPole = true := rfl
set_option maxRecDepth 100000 in
theorem FnExactPlacesOn_lifted (os : Os) (started : os.Started) (H : Type) (enc : TypeId × Value → H) :
    ReturnsInHanded {} Try.checked os 13 .any (Rows.fnExactPlacesOnSpec.pre6 enc Try.prog Try.f13 Rows.fnExactPlacesOnRow.domain false) (Rows.fnExactPlacesOnSpec.post enc Try.prog Try.f13 false true false false) := by
  refine returnsInHanded_of_change (C := Try.checked) Try.own started (by kernel_rfl) Try.func13
    (ChangeSpec.witness6 (enc := enc) (C := Try.checked) false ⟨#[], #[.int .i64 0, .agg #[.int .i64 0, .int .i64 0, .int .i64 0]], []⟩ 8 (by kernel_rfl) (by kernel_rfl) (by kernel_rfl) (by kernel_rfl)) ?_
  intro W base args ds gs before hval0 hW hcnd _
  have hval : ∀ (j : Nat) t v, Try.f13.params[j]? = some t → args[j]? = some v → Value.okWide Try.prog W .any base t v := hval0
  have hW' := hW
  obtain ⟨p, q, hA0, hV, rfl, hfz, hnd⟩ := hW
  have hA : DataW.TrodAll enc Try.prog W 0 (fun _ => true) true Try.f13.params.toList args.toList ds p := hA0
  rw [Try.params13] at hA hval
  have hAk := hA
  obtain ⟨v0, vs0, d0, ds0, p0, q0, hargs, rfl, rfl, h0, r0⟩ := trodAll_cons hA
  obtain ⟨v1, vs1, d1, ds1, p1, q1, rfl, rfl, rfl, h1, r1⟩ := trodAll_cons r0
  obtain ⟨rfl, rfl, rfl⟩ := trodAll_nil r1
  obtain rfl : args = #[v0, v1] := by
    apply Array.toList_inj.1
    exact hargs
  obtain ⟨rfl, rfl⟩ := trodVars_none hV
  clear hA0 hval0
  simp only [List.append_nil] at hW' hAk
  obtain ⟨x0, rfl, i0⟩ := open_i64 Try.underlying2 (hval 0 2 v0 rfl rfl)
  obtain ⟨xs1, hl1, rfl, i1⟩ := open_arr (n := 3) (ts := [2, 2, 2]) Try.underlying22 (by kernel_rfl) (by kernel_rfl) (by intro u hu; simp at hu; subst hu; exact Try.underlying2) (hval 1 22 v1 rfl rfl)
  obtain ⟨x1_0, x1_1, x1_2, rfl⟩ := len3 hl1
  have hc := bool_any (sound_l_FnExactPlacesOn W [.v (.int .i64 x0), .v (.agg ⟨[.int .i64 x1_0, .int .i64 x1_1, .int .i64 x1_2]⟩)] [.int .i64 x0, .agg ⟨[.int .i64 x1_0, .int .i64 x1_1, .int .i64 x1_2]⟩] _ ⟨rfl, rfl, True.intro⟩ rfl) (PlacesOn_law x0 (x1_0, x1_1, x1_2))
  refine hc.mono fun e W2 ⟨he, hb⟩ => ?_
  subst he
  refine ⟨_, rfl, _, _, _, [], p0 ++ (p1), [], hW', ?_, ?_, rfl, Below.frame hb _, fun h => by cases h⟩
  · exact trodAll_mk1 (shut_bool Try.underlying4 true)
  · exact trodAll_stays Try.laidOut hb (ts := [2, 22]) (by intro t ht; simp at ht; rcases ht with rfl | rfl <;> exact ⟨by kernel_rfl, of_decide_eq_true (by kernel_rfl)⟩) hAk (fun x hx => hW'.lt x hx)
theorem FnExactPlacesOn_holds : Rows.FnExactPlacesOnSaid :=
  OpenClaim.holds_of_wide 13 Try.f13 rfl rfl rfl rfl rfl rfl rfl ⟨rfl, rfl, rfl, rfl, rfl⟩ rfl rfl rfl rfl rfl (by kernel_rfl) Try.func13 FnExactPlacesOn_facts
    (of_decide_eq_true (by kernel_rfl)) (by unfold Func.isWrapper; first | (rw [if_pos (by decide +kernel)]; kernel_rfl) | (rw [if_neg (by decide +kernel)]; exact ⟨rfl, rfl⟩))
    (fun os started H enc _ => FnExactPlacesOn_lifted os started H enc)
end Go.Proofs.Ytcechmaoihckgaa
