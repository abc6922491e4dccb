import Derived.Test.YtnijajjdldijpaaDj
set_option linter.unusedSimpArgs false
set_option linter.unusedVariables false
namespace Go.Proofs.Ytnijajjdldijpaa
open Go.RowKit
/-! Functions that write the cells of their first argument. -/
section
variable {P : Program} {S : Sums} {W : World} {M : MV} {n : Nat} {s s1 s2 : FSt} {a : Act} {w w' : World} {ρ ρ' : Nat → Value}
def finM {α : Type} (P : Program) (f : Nat) (e : TypeId) (sz : Nat) (dec : Value × Cells → Option α) (x : Ex) (s : FSt) : Option α := match x with
  | .exit _ => none
  | _ => match P.funcs[f]? with
    | some fn => match fn.results.toList with
      | [.tmp t] => match s.slot t, s.heap 0 with
        | .val v, some (.row e' sz' m' c) => if (Nat.beq e' e && Nat.beq sz' sz) = true then dec (v, c) else none
        | _, _ => none
      | _ => none
    | none => none
def entryM (e : TypeId) (sz m : Nat) (c : Cells) (vs : List Value) : FSt := Tab.st ⟨.row 0 :: vs.map SV.val, [(0, .row e sz m c)]⟩
def execM {α : Type} (P : Program) (S : Sums) (f n : Nat) (fu : Code → Nat) (dec : Value × Cells → Option α) (e : TypeId) (sz m : Nat) (c : Cells) (vs : List Value) : Option α :=
  if Nat.ble (vs.length + 1) n = true then exec P S n fu (bodyF P f) (entryM e sz m c vs) (finM P f e sz dec) else none
theorem own_len {w1 w2 : World} {b1 b2 e1 e2 z1 z2 n1 n2 : Nat} {v : Value} {xs ys : List Value} (h : w1.ownsRow b1 e1 z1 v n1 xs) (k : w2.ownsRow b2 e2 z2 v n2 ys) : n1 = n2 := by
  rcases h.2 with ⟨rfl, rfl⟩ | ⟨g, cap, cur, rfl, _⟩
  · rcases k.2 with ⟨_, rfl⟩ | ⟨g', cap', cur', h', _⟩
    · rfl
    · simp at h'
  · rcases k.2 with ⟨h', _⟩ | ⟨g', cap', cur', h', _⟩
    · simp at h'
    · simp only [Value.slice.injEq] at h'
      exact h'.2.1
theorem execM_sound {α : Type} {fu : Code → Nat} {dec : Value × Cells → Option α} {enc : α → Value × Cells} (hde : ∀ y x, dec y = some x → y = enc x) (hS : SumsOK P S) (hm : P.follows .mixedOrders = true) {f : Nat} {fn : Func} (hf : P.funcs[f]? = some fn) (hn : fn.ntmps = n) (hb : fn.body.isSome = true) (hok : codeOK S (bodyF P f) = true)
    {e : TypeId} {sz m : Nat} {c : Cells} {v : Value} {vs : List Value} {x : α} (hc : c.ok) (hown : W.ownsRow 0 e sz v m c.toVals) (h : execM P S f n fu dec e sz m c vs = some x) :
    Calls P f (v :: vs).toArray W fun y W' => y = .returned (enc x).1 ∧ (enc x).2.ok ∧ W'.ownsRow 0 e sz v m (enc x).2.toVals ∧ W.grownBy W' (ownOf v) := by
  subst hn
  obtain ⟨cd, hb⟩ := Option.isSome_iff_exists.1 hb
  have hbody : bodyF P f = cd := by unfold bodyF; rw [hf]; dsimp only; rw [hb]
  rw [hbody] at hok
  unfold execM at h
  split at h
  · rename_i hle
    rw [hbody] at h
    have hle := nle hle
    refine calls_of_wp hf hb ?_
    have hslots : All2 (Rel P W (some (v, none)) (fun _ => v) (entryM e sz m c vs).heap) (.row 0 :: vs.map SV.val) (v :: vs) := ⟨⟨rfl, rfl⟩, rel_vals vs⟩
    have h0 : ∀ id b, (entryM e sz m c vs).heap id = some b → id = 0 ∧ b = .row e sz m c := by
      intro id b hb
      have hb : look [(0, Blk.row e sz m c)] id = some b := hb
      simp only [look] at hb
      by_cases e0 : id = 0
      · subst e0
        simp at hb
        exact ⟨rfl, hb.symm⟩
      · rw [nbeq e0, cond_false] at hb
        cases hb
    have hR : R P W (some (v, none)) fn.ntmps (entryM e sz m c vs) { tmps := (v :: vs).toArray ++ Array.replicate (fn.ntmps - (v :: vs).toArray.size) undef, defers := [] } W (fun _ => v) := by
      refine ⟨World.grownBy.refl W _, by simp; omega, rfl, fun t => ?_, fun id b hb => ?_, fun i j bi bj g hij hi hj oi oj => ?_, fun v0 hv0 => by
        obtain rfl : (v, none) = v0 := by simpa using hv0
        exact ⟨by omega, ⟨rfl, rfl⟩, fun u hu => by cases hu⟩⟩
      · show Rel P W (some (v, none)) (fun _ => v) _ ((SV.row 0 :: vs.map SV.val).getD t .junk) _
        rw [List.getD_eq_getElem?_getD]
        cases ht : (SV.row 0 :: vs.map SV.val)[t]? with
        | none => exact True.intro
        | some y =>
          obtain ⟨u, hu, hrel⟩ := hslots.get ht
          have hlt : t < (v :: vs).length := (List.getElem?_eq_some_iff.1 hu).1
          have : ((v :: vs).toArray ++ Array.replicate (fn.ntmps - (v :: vs).toArray.size) undef).getD t undef = u := by
            rw [Array.getD_eq_getD_getElem?, Array.getElem?_append_left (by simpa using hlt)]
            rw [List.getElem?_toArray, hu]
            rfl
          rw [this]
          exact hrel
      · obtain ⟨rfl, rfl⟩ := h0 id b hb
        exact ⟨hc, hown, fun g hg => .inr hg⟩
      · exact absurd ((h0 i bi hi).1.trans (h0 j bj hj).1.symm) hij
    refine exec_sim hS hm cd (entryM e sz m c vs) _ hok h _ W _ hR _ fun y s' a' w' ρ' hR' hk => ?_
    have fin : (match P.funcs[f]? with
      | some fn => match fn.results.toList with
        | [.tmp t] => match s'.slot t, s'.heap 0 with
          | .val v, some (.row e' sz' m' c) => if (Nat.beq e' e && Nat.beq sz' sz) = true then dec (v, c) else none
          | _, _ => none
        | _ => none
      | none => none) = some x → a'.defers = [] ∧ ∃ u, (results fn a'.tmps).run P w' = .ok u w' ∧ Ending.returned u = .returned (enc x).1 ∧ (enc x).2.ok ∧ w'.ownsRow 0 e sz v m (enc x).2.toVals ∧ W.grownBy w' (ownOf v) := by
      intro hk2
      rw [hf] at hk2
      dsimp only at hk2
      split at hk2
      · rename_i t hres
        split at hk2
        · rename_i u e' sz' m' c' hsl hhp
          split at hk2
          · rename_i hck
            simp only [Bool.and_eq_true] at hck
            have q1 := neq hck.1; have q2 := neq hck.2
            subst q1; subst q2
            have hx := hde _ _ hk2
            have hu : a'.tmps.getD t undef = u := by have := hR'.slots t; rw [hsl] at this; exact this
            obtain ⟨k1, k2, k3⟩ := hR'.heap 0 _ hhp
            have hv := (hR'.fix _ rfl).2.1.2
            rw [hv] at k2
            have q3 := own_len k2 hown
            subst q3
            refine ⟨hR'.defers, u, ?_, by rw [← hx], by rw [← hx]; exact k1, by rw [← hx]; exact k2, hR'.grown⟩
            have hr : fn.results = #[.tmp t] := by apply Array.toList_inj.1; exact hres
            unfold results
            rw [hr]
            rw [Array.getD_eq_getD_getElem?] at hu
            simp [hu]
          · cases hk2
        · cases hk2
      · cases hk2
    unfold finM at hk
    cases y with
    | normal => exact fin hk
    | exit id => cases hk
    | ret => exact fin hk
  · cases h
theorem soundM_of {α : Type} {dec : Value × Cells → Option α} {enc : α → Value × Cells} {f : Nat} {run : MRun} (hde : ∀ y x, dec y = some x → y = enc x) (hS : SumsOK P S) (hm : P.follows .mixedOrders = true) {fn : Func} (hf : P.funcs[f]? = some fn) (hn : fn.ntmps = n) (hb : fn.body.isSome = true) (hok : codeOK S (bodyF P f) = true)
    (h : ∀ e sz m c vs r c', run e sz m c vs = some (true, r, c') → ∃ (fu : Code → Nat) (x : α), (r, c') = enc x ∧ execM P S f n fu dec e sz m c vs = some x) : SoundM P f run := by
  intro W e sz m c v vs r c' hc hown hrun
  obtain ⟨fu, x, h1, h2⟩ := h e sz m c vs r c' hrun
  have := execM_sound hde hS hm hf hn hb hok hc hown h2
  rw [← h1] at this
  exact this
end

end Go.Proofs.Ytnijajjdldijpaa
