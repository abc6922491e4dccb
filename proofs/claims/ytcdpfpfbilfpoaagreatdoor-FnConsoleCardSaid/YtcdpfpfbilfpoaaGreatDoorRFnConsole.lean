/- Proved here: for every code that is drawn lines lead from desks to desks, a line with the output error changes nothing, and the console joins the outputs of its lines. It holds for all arguments; the package variable that is read is tied to the text. -/
import Derived.Test.YtcdpfpfbilfpoaaGreatDoorSb
import Derived.Test.YtcdpfpfbilfpoaaGreatDoorJFnConsole
import Derived.Test.YtcdpfpfbilfpoaaGreatDoorFFnConsole
import Derived.Test.YtcdpfpfbilfpoaaGreatDoorTie
import Derived.Test.YtcdpfpfbilfpoaaGreatDoorCards
import Derived.Lay
import Derived.ProofKit
import Derived.LaidMore
import Derived.OpenShut
import Derived.Stop.Joined
import Derived.SevenTiedAt
set_option linter.unusedSimpArgs false
set_option linter.unusedVariables false
namespace Go.Proofs.YtcdpfpfbilfpoaaGreatDoor
open Go.RowKit Go.ChangeShapes Go.WideShapes Go.ChangeAt
noncomputable def ZF0 : List (String × DataW Unit) := [("math/bits.deBruijn32tab", Rows.laid_math_bits_deBruijn32tab), ("math/bits.deBruijn64tab", Rows.laid_math_bits_deBruijn64tab), ("internal/strconv.uint64pow10", Rows.laid_internal_strconv_uint64pow10), ("unicode/utf8.acceptRanges", Rows.laid_unicode_utf8_acceptRanges), ("unicode/utf8.first", Rows.laid_unicode_utf8_first)]
set_option maxRecDepth 100000 in
theorem ZNQ (os : Os) (args : Array Value) : laidMetH Tryz.prog ZF0 ((World.laidAll Tryz.prog os ZF0).forCall (fun _ _ => 0) ⟨#[], args, []⟩).memory := by
 rw [MakeChecks.laidMetH_plain _ _ _ (by kernel_rfl)]
 exact laidMet_laidAll _ (by kernel_rfl) (by kernel_rfl)
set_option maxRecDepth 100000 in
theorem FnConsole_lifted (os : Os) (started : os.Started) (H : Type) (enc : TypeId × Value -> H) :
  ReturnsInHanded {} Tryz.checked os 5 .any (fun w args => (Rows.fnConsoleSpec.pre enc Tryz.prog Tryz.f5 [] false w args /\ laidMetH Tryz.prog ZF0 w) /\ sizedMet enc Tryz.prog Tryz.f5 (OpenSpec.ofChange Rows.fnConsoleSpec) false w args) (Rows.fnConsoleSpec.post enc Tryz.prog Tryz.f5 false true false false) := by
 refine returnsInHanded_of_change_and (C := Tryz.checked) (X := fun w _ => laidMetH Tryz.prog ZF0 w) (fun _ _ _ hh h => h.of_heap hh) Tryz.own started (by kernel_rfl) Tryz.func5
  (ChangeSpec.witness_shaped (enc := enc) (C := Tryz.checked) (os := os) (X := fun w _ => laidMetH Tryz.prog ZF0 w) false (World.laidAll Tryz.prog os ZF0) #[.slice none 0 0] 8 (World.laidAll_os _ _ _) (World.shaped_of_ZipB (by kernel_rfl) (by kernel_rfl)) (by kernel_rfl) (by kernel_rfl) (by kernel_rfl) (ZNQ os _)) ?_
 intro W base args ds gs before hval0 hW _ _ hL _
 have ZQD : ∀ (j : Nat) t v, Tryz.f5.params[j]? = some t -> args[j]? = some v -> Value.okWide Tryz.prog W .any base t v := hval0
 have hW' := hW
 obtain ⟨p, q, hA0, hV, rfl, hfz, hnd⟩ := hW
 have hA : DataW.TrodAll enc Tryz.prog W 0 (fun _ => true) true Tryz.f5.params.toList args.toList ds p := hA0
 rw [Tryz.params5] at hA ZQD
 have hAk := hA
 obtain ⟨v0, vs0, d0, ds0, p0, q0, hargs, rfl, rfl, h0, r0⟩ := trodAll_cons hA
 obtain ⟨rfl, rfl, rfl⟩ := trodAll_nil r0
 obtain rfl : args = #[v0] := by
  apply Array.toList_inj.1
  exact hargs
 obtain ⟨rfl, rfl⟩ := trodVars_none hV
 have hG : GOK W := ⟨Nat.zero_le _, fun g vals h => by simp [gvars] at h⟩
 clear hA0 hval0
 simp only [List.append_nil] at hW' hAk
 obtain ⟨n0, zs0, hn0, hm0, hb0, hr0⟩ := ZN0 Tryz.underlying32 Tryz.underlying5 (by kernel_rfl) (ZQD 0 32 v0 rfl rfl) h0
 have hc := ZNC (Zt5 W [.s n0 (.byts zs0)] [v0] [TR.v (.bool (l_FnConsole n0 zs0))] hG ⟨hr0, True.intro⟩ (by
  show some (bytB n0 zs0, [TR.v (.bool (l_FnConsole n0 zs0))]) = some (true, [TR.v (.bool (l_FnConsole n0 zs0))])
  rw [ZOY hn0 hb0])) rfl
 refine hc.mono fun e W2 ⟨he, hb⟩ => ?_
 subst he
 refine ⟨_, rfl, _, _, _, [], p0, [], hW', ?_, ?_, rfl, Below.frame hb _, fun h => by cases h⟩
 ·exact trodAll_mk1 (shut_bool Tryz.underlying4 true)
 ·exact Zpm Tryz.laidOut hb (ts := [32]) (by intro t ht; simp at ht; rcases ht with rfl <;> exact ⟨by kernel_rfl, of_decide_eq_true (by kernel_rfl)⟩) hAk (fun x hx => hW'.lt x hx)
theorem FnConsole_holds : Rows.FnConsoleSaid :=
 OpenClaim.holds_of_wide 5 Tryz.f5 rfl rfl rfl rfl rfl rfl rfl ⟨rfl, rfl, rfl, rfl, rfl⟩ rfl rfl rfl rfl rfl (by kernel_rfl) Tryz.func5 ZwV
  (of_decide_eq_true (by kernel_rfl)) (by unfold Func.isWrapper; first | (rw [if_pos (by decide +kernel)]; kernel_rfl) | (rw [if_neg (by decide +kernel)]; exact ⟨rfl, rfl⟩))
  (fun os started H enc _ => FnConsole_lifted os started H enc)
theorem FnConsoleCard_holds : Rows.FnConsoleCardSaid :=
 Claim7.holds_tied_plain_at .later [] [.data, .data, .data, .data, .pinned] true (true, "2f8e2f52f5cad1a2375d2665c07b0aa3215ba37bb0445810c47ee1ec4cfb2bec") false
  FnConsole_holds (fun _ h => by cases h) (by kernel_rfl) (fun _ h => by cases h) fnConsole_row_tie rfl ⟨rfl, rfl⟩ (by kernel_rfl) rfl
  (fun f fn hf hfn => by
   obtain rfl : f = 5 := Option.some.inj ((show Tryz.prog.funcNamed "loop.example/g01370/laws.FnConsole" = some 5 by kernel_rfl).symm.trans hf) |>.symm
   obtain rfl : fn = Tryz.f5 := (Option.some.inj (Tryz.func5.symm.trans hfn)).symm
   exact ⟨by kernel_rfl, fun j t ht => by
    rw [Tryz.params5] at ht
    have hm : t ∈ [32] := by simpa using Array.mem_of_getElem? ht
    have hall : ([32].all fun u => !Tryz.prog.wantsStandIn u) = true := by kernel_rfl
    exact (show Tryz.prog.wantsStandIn t = false by simpa using List.all_eq_true.1 hall t hm)⟩)
  (by kernel_rfl)
end Go.Proofs.YtcdpfpfbilfpoaaGreatDoor
