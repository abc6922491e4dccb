/- Proved here: for every code the reference and the program agree on reflections, turns and moves between pairs; reflections done twice are the identity, turns keep their points, there are two moves between. It holds for all arguments; the package variable that is read is tied to the text. -/
import Derived.Test.YtoblkbpejfojjaaGreatDoorSb
import Derived.Test.YtoblkbpejfojjaaGreatDoorJFnReflections
import Derived.Test.YtoblkbpejfojjaaGreatDoorFFnReflections
import Derived.Test.YtoblkbpejfojjaaGreatDoorTie
import Derived.Test.YtoblkbpejfojjaaGreatDoorCards
import Derived.ProofKit
import Derived.LaidMore
import Derived.OpenShut
import Derived.Stop.Joined
import Derived.SevenTiedAt
set_option linter.unusedSimpArgs false
set_option linter.unusedVariables false
namespace Go.Proofs.YtoblkbpejfojjaaGreatDoor
open Go.RowKit Go.ChangeShapes Go.WideShapes Go.ChangeAt
theorem gVar0 : Tryz.prog.globalNamed "loop.example/g01370/impl.unit" = some 0 := by kernel_rfl
theorem tVar0 : (Tryz.prog.globals[0]?).map (·.type) = some 24 := by kernel_rfl
noncomputable def laidL : List (String × DataW Unit) := [("loop.example/g01370/impl.unit", Rows.laid_loop_example_g01370_impl_unit)]
set_option maxRecDepth 100000 in
theorem door_met (os : Os) (args : Array Value) : laidMetH Tryz.prog laidL ((World.doorLaid Tryz.prog 400 os).forCall (fun _ _ => 0) ⟨#[], args, []⟩).memory :=
  laidMetH_of_parts3 (fuel := 8) (laidMet_of_run' 8 (by kernel_rfl) (by kernel_rfl)) (by kernel_rfl) (by kernel_rfl)
set_option maxRecDepth 100000 in
theorem gok_of_laid {W : World} (h : laidMetH Tryz.prog laidL W) : GOK W := by
  rw [MakeChecks.laidMetH_plain _ _ _ (by kernel_rfl)] at h
  obtain ⟨ps, ⟨g0, t0, cs0, f0, p0, q0, hg0, ht0, hv0, hd0, _, _⟩, _, _⟩ := h
  obtain rfl := Option.some.inj (gVar0.symm.trans hg0)
  obtain rfl := Option.some.inj (tVar0.symm.trans ht0)
  obtain ⟨xs, m1, rfl, hx1, hlen, hn3, hel⟩ := DataW.trod_array Tryz.underlying24 hd0
  have c1 : Tryz.prog.cellsOf 2 = 1 := by kernel_rfl
  have ck : Tryz.prog.cellsOf 24 = 4 := by kernel_rfl
  rw [ck] at hlen
  rw [c1] at hel
  simp only [Prod.mk.injEq, DataW.agg.injEq, Rows.laid_loop_example_g01370_impl_unit] at hx1
  have hx := hx1.1
  obtain ⟨cl⟩ := cs0
  match xs, hn3, cl, hlen, hel, hx, hv0 with
  | [x0, x1, x2, x3], _, [c0, c1, c2, c3], _, hel, hx, hv0 =>
    simp only [List.map_cons, List.map_nil, List.cons.injEq] at hx
    have s0 := hel 0 (by omega)
    obtain ⟨n0, e0, r0, _⟩ := DataW.trod_int Tryz.underlying2 (show DataW.trod _ Tryz.prog W 0 _ _ m1 2 [c0] = some x0 from s0)
    have v0 : n0 = 1 := by rw [r0] at hx; simpa using hx.1.symm
    simp only [List.cons.injEq, and_true] at e0
    subst v0
    subst e0
    have s1 := hel 1 (by omega)
    obtain ⟨n1, e1, r1, _⟩ := DataW.trod_int Tryz.underlying2 (show DataW.trod _ Tryz.prog W 0 _ _ m1 2 [c1] = some x1 from s1)
    have v1 : n1 = 0 := by rw [r1] at hx; simpa using hx.2.1.symm
    simp only [List.cons.injEq, and_true] at e1
    subst v1
    subst e1
    have s2 := hel 2 (by omega)
    obtain ⟨n2, e2, r2, _⟩ := DataW.trod_int Tryz.underlying2 (show DataW.trod _ Tryz.prog W 0 _ _ m1 2 [c2] = some x2 from s2)
    have v2 : n2 = 0 := by rw [r2] at hx; simpa using hx.2.2.1.symm
    simp only [List.cons.injEq, and_true] at e2
    subst v2
    subst e2
    have s3 := hel 3 (by omega)
    obtain ⟨n3, e3, r3, _⟩ := DataW.trod_int Tryz.underlying2 (show DataW.trod _ Tryz.prog W 0 _ _ m1 2 [c3] = some x3 from s3)
    have v3 : n3 = 1 := by rw [r3] at hx; simpa using hx.2.2.2.1.symm
    simp only [List.cons.injEq, and_true] at e3
    subst v3
    subst e3
    have hc := fun j => World.var?_cell hg0 hv0 j
    refine ⟨?_, fun g vals hg j u hu => ?_⟩
    · have h0 := hc 0
      unfold World.cell? at h0
      have : (0 : Nat) < W.heap.size := by
        by_cases hz : 0 < W.heap.size
        · exact hz
        · rw [Array.getElem?_eq_none (by omega)] at h0
          simp at h0
      show 1 ≤ W.heap.size
      omega
    · match g, hg with
      | 0, hg =>
        simp only [gvars, List.getElem?_cons_zero, Option.some.injEq] at hg
        subst hg
        rw [hc j]
        simpa using hu
set_option maxRecDepth 100000 in
theorem vars_stay {H : Type} {enc : TypeId × Value → H} {W W2 : World} {csg : Array Value} {fg : Nat} {dg : DataW H} {pg : List MemPlace} (hb : Below W.heap.size W W2) (hg3 : W.var? Tryz.prog "loop.example/g01370/impl.unit" = some csg) (hg4 : DataW.trod enc Tryz.prog W 0 (fun _ => true) true fg 24 csg.toList = some (dg, pg)) (hlt : ∀ x ∈ pg, x.block < W.heap.size) :
    DataW.TrodVars enc Tryz.prog W2 (fun b => decide (b < W.heap.size)) ["loop.example/g01370/impl.unit"] [dg] (MemPlace.row ⟨0, 0, none⟩ csg.size ++ pg) := by
  refine trodVars_mk1 gVar0 tVar0 ?_ (DataW.trod_stays (kids_book Tryz.laidOut (by kernel_rfl)) (book_sized (by kernel_rfl)) (fun h => by cases h) ⟨of_decide_eq_true (by kernel_rfl), book_self _⟩ hg4 (fun x hx => hb.same (hlt x hx)) (fun x hx => by simpa using hlt x hx))
  have h0 : 0 < W.heap.size := by
    simp only [World.var?, gVar0, Option.bind_some] at hg3
    by_cases hz : 0 < W.heap.size
    · exact hz
    · rw [Array.getElem?_eq_none (by omega)] at hg3
      simp at hg3
  simp only [World.var?, gVar0, Option.bind_some] at hg3 ⊢
  rw [hb.block 0 h0]
  exact hg3
set_option maxRecDepth 100000 in
theorem FnReflections_lifted (os : Os) (started : os.Started) (H : Type) (enc : TypeId × Value → H) :
    ReturnsInHanded {} Tryz.checked os 4 .any (fun w args => (Rows.fnReflectionsSpec.pre enc Tryz.prog Tryz.f4 [] false w args ∧ laidMetH Tryz.prog laidL w) ∧ sizedMet enc Tryz.prog Tryz.f4 (OpenSpec.ofChange Rows.fnReflectionsSpec) false w args) (Rows.fnReflectionsSpec.post enc Tryz.prog Tryz.f4 false true false false) := by
  refine returnsInHanded_of_change_and (C := Tryz.checked) (X := fun w _ => laidMetH Tryz.prog laidL w) (fun _ _ _ hh h => h.of_heap hh) Tryz.own started (by kernel_rfl) Tryz.func4
    (ChangeSpec.witness_shaped (enc := enc) (C := Tryz.checked) (os := os) (X := fun w _ => laidMetH Tryz.prog laidL w) false (World.doorLaid Tryz.prog 400 os) #[.slice none 0 0] 8 rfl (World.shaped_of_RefB (by kernel_rfl) (by kernel_rfl)) (by kernel_rfl) (by kernel_rfl) (by kernel_rfl) (door_met os _)) ?_
  intro W base args ds gs before hval0 hW _ _ hL _
  have hval : ∀ (j : Nat) t v, Tryz.f4.params[j]? = some t → args[j]? = some v → Value.okWide Tryz.prog W .any base t v := hval0
  have hW' := hW
  obtain ⟨p, q, hA0, hV, rfl, hfz, hnd⟩ := hW
  have hA : DataW.TrodAll enc Tryz.prog W 0 (fun _ => true) true Tryz.f4.params.toList args.toList ds p := hA0
  rw [Tryz.params4] at hA hval
  have hAk := hA
  obtain ⟨v0, vs0, d0, ds0, p0, q0, hargs, rfl, rfl, h0, r0⟩ := trodAll_cons hA
  obtain ⟨rfl, rfl, rfl⟩ := trodAll_nil r0
  obtain rfl : args = #[v0] := by
    apply Array.toList_inj.1
    exact hargs
  have hG := gok_of_laid hL
  obtain ⟨gg, tg, csg, fg, dg, pg, rfl, hg1, hg2, hg3, hg4, rfl⟩ := trodVars_one hV
  obtain rfl := Option.some.inj (gVar0.symm.trans hg1)
  obtain rfl := Option.some.inj (tVar0.symm.trans hg2)
  clear hA0 hval0
  simp only [List.append_nil] at hAk
  obtain ⟨n0, zs0, hn0, hm0, hb0, hr0⟩ := open_byts Tryz.underlying22 Tryz.underlying5 (by kernel_rfl) (hval 0 22 v0 rfl rfl) h0
  have hc := bool_any (sound_l_FnReflections W [.s n0 (.byts zs0)] [v0] [TR.v (.bool (l_FnReflections n0 zs0))] hG ⟨hr0, True.intro⟩ (by
    show some (bytB n0 zs0, [TR.v (.bool (l_FnReflections n0 zs0))]) = some (true, [TR.v (.bool (l_FnReflections n0 zs0))])
    rw [bytB_mk hn0 hb0])) rfl
  refine hc.mono fun e W2 ⟨he, hb⟩ => ?_
  subst he
  have hlt : ∀ x, x ∈ (p0) ++ (MemPlace.row ⟨0, 0, none⟩ csg.size ++ pg) → x.block < W.heap.size := fun x hx => hW'.lt x (by simpa only [List.append_nil, List.append_assoc] using hx)
  refine ⟨_, rfl, _, _, _, [], p0, _, hW', ?_, ?_, vars_stay hb hg3 hg4 (fun x hx => hlt x (List.mem_append_right _ (List.mem_append_right _ hx))), Below.frame hb _, fun h => by cases h⟩
  · exact trodAll_mk1 (shut_bool Tryz.underlying4 true)
  · exact trodAll_stays Tryz.laidOut hb (ts := [22]) (by intro t ht; simp at ht; rcases ht with rfl <;> exact ⟨by kernel_rfl, of_decide_eq_true (by kernel_rfl)⟩) hAk (fun x hx => hlt x (List.mem_append_left _ hx))
theorem FnReflections_holds : Rows.FnReflectionsSaid :=
  OpenClaim.holds_of_wide 4 Tryz.f4 rfl rfl rfl rfl rfl rfl rfl ⟨rfl, rfl, rfl, rfl, rfl⟩ rfl rfl rfl rfl rfl (by kernel_rfl) Tryz.func4 FnReflections_facts
    (of_decide_eq_true (by kernel_rfl)) (by unfold Func.isWrapper; first | (rw [if_pos (by decide +kernel)]; kernel_rfl) | (rw [if_neg (by decide +kernel)]; exact ⟨rfl, rfl⟩))
    (fun os started H enc _ => FnReflections_lifted os started H enc)
theorem FnReflectionsCard_holds : Rows.FnReflectionsCardSaid :=
  Claim7.holds_tied_plain_at .later [] [.data] true (true, "38f491e9d0c1dd0db25eea6f0d68f3cb7279e2a4fb89a41ac7923bc1d2af2d8c") false
    FnReflections_holds (fun _ h => by cases h) (by kernel_rfl) (fun _ h => by cases h) fnReflections_row_tie rfl ⟨rfl, rfl⟩ (by kernel_rfl) rfl
    (fun f fn hf hfn => by
      obtain rfl : f = 4 := Option.some.inj ((show Tryz.prog.funcNamed "loop.example/g01370/laws.FnReflections" = some 4 by kernel_rfl).symm.trans hf) |>.symm
      obtain rfl : fn = Tryz.f4 := (Option.some.inj (Tryz.func4.symm.trans hfn)).symm
      exact ⟨by kernel_rfl, fun j t ht => by
        rw [Tryz.params4] at ht
        have hm : t ∈ [22] := by simpa using Array.mem_of_getElem? ht
        have hall : ([22].all fun u => !Tryz.prog.wantsStandIn u) = true := by kernel_rfl
        exact (show Tryz.prog.wantsStandIn t = false by simpa using List.all_eq_true.1 hall t hm)⟩)
    (by kernel_rfl)
end Go.Proofs.YtoblkbpejfojjaaGreatDoor
