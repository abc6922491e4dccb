import Derived.Test.YtnijajjdldijpaaDf
set_option linter.unusedSimpArgs false
set_option linter.unusedVariables false
namespace Go.Proofs.Ytnijajjdldijpaa
open Go.RowKit
/-! Regions in any order; code; functions. -/
theorem count_listed {listed : Array Bool} {i : Nat} (h : listed.getD i true = false) : (listed.setIfInBounds i true).toList.count false + 1 = listed.toList.count false := by
  rcases Nat.lt_or_ge i listed.size with hi | hi
  · have hv : listed[i] = false := by simpa [hi] using h
    have hi' : i < listed.toList.length := by simpa using hi
    have hv' : listed.toList[i] = false := by simpa using hv
    have hc : 0 < listed.toList.count false := List.count_pos_iff.2 (hv' ▸ List.getElem_mem hi')
    rw [Array.toList_setIfInBounds, List.count_set hi', hv']
    rw [if_pos (show (false == false) = true from rfl), if_neg (show ¬ ((true == false) = true) by decide)]
    omega
  · simp [Array.getElem?_eq_none hi] at h
theorem none_left {listed : Array Bool} (h : listed.toList.count false = 0) (j : Nat) : listed.getD j true = true := by
  rcases Nat.lt_or_ge j listed.size with hj | hj
  · have := List.count_eq_zero.1 h
    cases hv : listed[j]
    · exact absurd (hv ▸ Array.getElem_mem_toList hj) this
    · simp [hj, hv]
  · simp [Array.getElem?_eq_none hj]
theorem wpAny_inv {P : Program} {md : Region.Mode} {ops : Array Oper} {Q : Exit → Act → World → Prop} (Inv : Array Bool → Act → World → Prop)
    (hstep : ∀ (listed : Array Bool) (a : Act) (w : World) (i : Nat), listed.size = ops.size → i ∈ Region.ready md ops listed → Inv listed a w → wpOp P ops Q i (fun a' w' => Inv (listed.setIfInBounds i true) a' w') a w)
    (hend : ∀ (listed : Array Bool) (a : Act) (w : World), listed.size = ops.size → Region.ready md ops listed = [] → Inv listed a w → Q .normal a w) :
    ∀ (fuel : Nat) (listed : Array Bool) (a : Act) (w : World), listed.size = ops.size → listed.toList.count false ≤ fuel → Inv listed a w → wpAny P md ops Q fuel listed a w
  | 0, listed, a, w, hs, hc, h => by
    have hr : Region.ready md ops listed = [] := by
      apply List.eq_nil_iff_forall_not_mem.2
      intro j hj
      have := (mem_ready.1 hj).1
      rw [none_left (by omega) j] at this
      cases this
    exact ⟨hr, hend listed a w hs hr h⟩
  | fuel + 1, listed, a, w, hs, hc, h => by
    refine ⟨fun hr => hend listed a w hs hr h, fun i hi => ?_⟩
    have hcount := count_listed (mem_ready.1 hi).1
    exact wpOp_mono (fun a' w' h' => wpAny_inv Inv hstep hend fuel _ a' w' (by simpa using hs) (by omega) h') (hstep listed a w i hs hi h)
theorem rep_false (m j : Nat) : (Array.replicate m false).getD j false = false := by
  rcases Nat.lt_or_ge j m with h | h <;> simp [h]
section
variable {P : Program} {S : Sums} {W : World} {M : MV} {n : Nat} {s s1 s2 : FSt} {a : Act} {w w' : World} {ρ ρ' : Nat → Value} {o : Oper} {r : Out} {ops : List Oper} {Q : Exit → Act → World → Prop} {K : Act → World → Prop}
theorem wanted_ok (h : R P W M n s a w ρ) {x : Bool} (hw : wantedB ops s o = some x) : Region.wanted o (yielded ops.toArray a.tmps) = x := by
  unfold wantedB at hw
  unfold Region.wanted
  split at hw
  · rename_i hg
    rw [hg]
    simpa using hw
  · rename_i j want hg
    rw [hg]
    split at hw
    · rename_i q hq
      split at hw
      · rename_i d hd
        have hr := h.slots d
        have hy : yielded ops.toArray a.tmps j = match a.tmps[d]? with | some (.bool b) => some b | _ => none := by
          unfold yielded
          rw [show (ops.toArray[j]?).bind (·.dst) = some d by simp [hq, hd]]
          rfl
        dsimp only
        rw [hy]
        split at hw
        · rename_i b hs
          rw [hs] at hr
          have hr : a.tmps.getD d undef = .bool b := hr
          simp only [Option.some.injEq] at hw
          have : a.tmps[d]? = some (.bool b) := by
            cases hd : a.tmps[d]? with
            | none =>
              rw [Array.getD_eq_getD_getElem?, hd] at hr
              cases hr
            | some v =>
              rw [Array.getD_eq_getD_getElem?, hd] at hr
              rw [show v = .bool b from hr]
          rw [this]
          rw [← hw]
          simp
        · rename_i t hs
          rw [hs] at hr
          have hr : a.tmps.getD d undef = .tuple t := hr
          simp only [Option.some.injEq] at hw
          subst hw
          cases hd : a.tmps[d]? with
          | none => rfl
          | some v =>
            rw [Array.getD_eq_getD_getElem?, hd] at hr
            rw [show v = .tuple t from hr]
            rfl
        · cases hw
      · cases hw
    · cases hw
/-- One operation of a region. -/
theorem step_sim (hS : SumsOK P S) (h : R P W M n s a w ρ) (hst : step P S n ops o s = some s1) (hK : ∀ a' w' ρ', R P W M n s1 a' w' ρ' → K a' w') :
    if Region.wanted o (yielded ops.toArray a.tmps) = true then o.wp P a w K Q ∨ (o.asks P a w ∧ LetsOut Q) else K (a.put o.dst undef) w := by
  obtain ⟨r, hr, hf, rfl⟩ := step_inv hst
  unfold stepOut at hr
  split at hr
  · cases hr
  · rename_i x hw
    rw [wanted_ok h hw]
    split at hr
    · rename_i hd
      split at hr
      · rename_i hx
        rw [if_pos hx]
        split at hr
        · cases hr
        · rename_i r' hr'
          split at hr
          · rename_i hchk
            simp only [Option.some.injEq] at hr; subst hr
            exact .inl (Oper.wp_mono (fun a' w' ⟨ρ', hR⟩ => hK a' w' ρ' hR) (op_sim (Q := Q) hS h hd hr' (chkH_ok hchk).1 hf))
          · cases hr
      · rename_i hx
        rw [if_neg hx]
        simp only [Option.some.injEq] at hr; subst hr
        exact hK _ _ ρ (h.put hd (.inr rfl))
    · cases hr
/-- A region in the text's order. -/
theorem ops_sim (hS : SumsOK P S) : ∀ {l : List Nat} {s s2 : FSt} {a : Act} {w : World} {ρ : Nat → Value}, R P W M n s a w ρ → stepsI P S n ops l s = some s2 → (∀ a' w' ρ', R P W M n s2 a' w' ρ' → Q .normal a' w') → wpOps P ops.toArray Q l a w
  | [], s, s2, a, w, ρ, h, hst, hQ => by
    simp only [stepsI, Option.some.injEq] at hst; subst hst
    exact hQ a w ρ h
  | i :: l, s, s2, a, w, ρ, h, hst, hQ => by
    obtain ⟨o, s1, ho, h1, h2⟩ := steps_cons hst
    rw [wpOps_cons]
    unfold wpOp
    rw [show ops.toArray[i]? = some o by simpa using ho]
    exact step_sim hS h h1 fun a' w' ρ' hR => ops_sim hS hR h2 hQ
theorem filter_ext {α : Type} {p q : α → Bool} : ∀ {l : List α}, (∀ x ∈ l, p x = q x) → l.filter p = l.filter q
  | [], _ => rfl
  | x :: l, h => by
    simp only [List.filter_cons]
    rw [h x (by simp), filter_ext fun y hy => h y (by simp [hy])]
/-- A region in any order. -/
theorem any_sim (hS : SumsOK P S) (hok : regOK S ops = true) {s0 sN : FSt} (hfull : stepsI P S n ops (List.range ops.length) s0 = some sN) (hR0 : R P W M n s0 a w ρ) (hQ : ∀ a' w' ρ', R P W M n sN a' w' ρ' → Q .normal a' w') :
    wpAny P .any ops.toArray Q ops.toArray.size (Array.replicate ops.toArray.size false) a w := by
  have hord : ordB 0 ops = true := by unfold regOK at hok; simp only [Bool.and_eq_true] at hok; exact hok.1
  let L (listed : Array Bool) : Nat → Bool := fun j => listed.getD j false
  refine wpAny_inv (fun listed a w => Closed ops (L listed) ∧ ∃ s ρ, stepsI P S n ops ((List.range ops.length).filter (L listed)) s0 = some s ∧ R P W M n s a w ρ) ?_ ?_ _ _ _ _ (by simp) ?_ ?_
  · intro listed a w i hs hi ⟨hcl, s, ρ, hst, hR⟩
    obtain ⟨hn, o, ho, hdeps⟩ := mem_ready.1 hi
    have ho' : ops[i]? = some o := by simpa using ho
    have hin : i < ops.length := (List.getElem?_eq_some_iff.1 ho').1
    have hsz : listed.size = ops.length := by simpa using hs
    have hLi : L listed i = false := by
      show listed.getD i false = false
      have hil : i < listed.size := by omega
      simp [hil] at hn ⊢
      exact hn
    have hL' : ∀ j, L (listed.setIfInBounds i true) j = (j == i || L listed j) := by
      intro j
      show (listed.setIfInBounds i true).getD j false = _
      by_cases e : j = i
      · subst e
        have hil : j < listed.size := by omega
        simp [hil]
      · have : (j == i) = false := by simpa using e
        rw [this, Bool.false_or]
        show _ = listed.getD j false
        simp only [Array.getD_eq_getD_getElem?, Array.getElem?_setIfInBounds_ne (fun h => e h.symm)]
    have hcl' : Closed ops (L (listed.setIfInBounds i true)) := by
      intro j q hq hl e he hb
      rw [hL'] at hl ⊢
      rw [Bool.or_eq_true] at hl ⊢
      rcases hl with hl | hl
      · have : j = i := by simpa using hl
        subst this
        rw [ho'] at hq
        simp only [Option.some.injEq] at hq; subst hq
        exact .inr (hdeps e he hb)
      · exact .inr (hcl j q hq hl e he hb)
    have hwf0 : WF s0 := hR0.wf
    have hpw : (List.range ops.length).Pairwise (fun i j => L (listed.setIfInBounds i true) i = L (listed.setIfInBounds i true) i) := by
      exact List.pairwise_lt_range.imp fun _ => rfl
    have hpw : (List.range ops.length).Pairwise (fun x y => L (listed.setIfInBounds i true) x = false → L (listed.setIfInBounds i true) y = true → Comm S ops x y) := by
      refine List.Pairwise.imp_of_mem (fun {x y} hx hy hxy hlx hly => comm_of hok hcl' hxy (by simpa using hy) hlx hly) List.pairwise_lt_range
    obtain ⟨u, hu⟩ := only_closed hwf0 hpw hfull
    have hsplit : List.range ops.length = List.range i ++ i :: List.range' (i + 1) (ops.length - i - 1) := by
      rw [List.range_eq_range', List.range_eq_range', show ops.length = i + (1 + (ops.length - i - 1)) from by omega, ← List.range'_append, ← List.range'_append]
      simp [List.range'_succ]
    have e1 : (List.range ops.length).filter (L (listed.setIfInBounds i true)) = (List.range i).filter (L listed) ++ i :: (List.range' (i + 1) (ops.length - i - 1)).filter (L listed) := by
      rw [hsplit, List.filter_append, List.filter_cons_of_pos (by rw [hL']; simp)]
      congr 1
      · refine filter_ext fun x hx => ?_
        rw [hL']
        have : x ≠ i := by have := List.mem_range.1 hx; omega
        simp [this]
      · congr 1
        refine filter_ext fun x hx => ?_
        rw [hL']
        have : x ≠ i := by have := (List.mem_range'_1.1 hx).1; omega
        simp [this]
    have e2 : (List.range ops.length).filter (L listed) = (List.range i).filter (L listed) ++ (List.range' (i + 1) (ops.length - i - 1)).filter (L listed) := by
      rw [hsplit, List.filter_append, List.filter_cons_of_neg (by rw [hLi]; simp)]
    have hu0 := hu
    rw [e1] at hu
    obtain ⟨v, hv, hu⟩ := steps_app.1 hu
    obtain ⟨x, hx, hxu⟩ := move_back ho' (steps_wf hwf0 hv) (fun j hj => by
      obtain ⟨hj1, hj2⟩ := List.mem_filter.1 hj
      have hj3 := List.mem_range'_1.1 hj1
      exact comm_of hok hcl (by omega) (by omega) hLi hj2) hu
    have hsx : s = x := by
      have : stepsI P S n ops ((List.range ops.length).filter (L listed)) s0 = some x := by
        rw [e2]; exact steps_app.2 ⟨v, hv, hx⟩
      rw [hst] at this
      simpa using this
    subst hsx
    unfold wpOp
    rw [show ops.toArray[i]? = some o by simpa using ho']
    exact step_sim hS hR hxu fun a' w' ρ' hR' => ⟨hcl', u, ρ', hu0, hR'⟩
  · intro listed a w hs hr ⟨hcl, s, ρ, hst, hR⟩
    have hall : ∀ j, j < ops.length → L listed j = true := by
      intro j
      induction j using Nat.strongRecOn with
      | _ j ih =>
        intro hj
        cases hl : L listed j with
        | true => rfl
        | false =>
          have hjs : j < listed.size := by rw [hs]; simpa using hj
          have : j ∈ Region.ready .any ops.toArray listed := mem_ready.2 ⟨by
            have hl' : listed.getD j false = false := hl
            simp [hjs] at hl' ⊢; exact hl', ops[j], by simp [hj], fun e he hb => by
            have := ordB_spec hord (j := j) (o := ops[j]) (by simp [hj]) e he hb
            exact ih e.on (by omega) (by omega)⟩
          rw [hr] at this
          cases this
    have : (List.range ops.length).filter (L listed) = List.range ops.length := by
      rw [List.filter_eq_self]
      intro j hj
      exact hall j (by simpa using hj)
    rw [this, hfull] at hst
    simp only [Option.some.injEq] at hst; subst hst
    exact hQ a w ρ hR
  · simp
  · refine ⟨fun j o ho hl => ?_, s0, ρ, ?_, hR0⟩
    · exfalso
      have : (Array.replicate ops.toArray.size false).getD j false = true := hl
      rw [rep_false] at this
      cases this
    · have : (List.range ops.length).filter (L (Array.replicate ops.toArray.size false)) = [] := by
        rw [List.filter_eq_nil_iff]
        intro j hj
        show ¬ (Array.replicate ops.toArray.size false).getD j false = true
        rw [rep_false]
        simp
      rw [this]
      rfl
theorem region_sim (hS : SumsOK P S) (hm : P.follows .mixedOrders = true) {id : Nat} {opsA : Array Oper} {draw : Bool} (hok : draw = true → regOK S opsA.toList = true) {sN : FSt} (hfull : stepsI P S n opsA.toList (List.range opsA.toList.length) s = some sN) (hR : R P W M n s a w ρ) (hQ : ∀ a' w' ρ', R P W M n sN a' w' ρ' → Q .normal a' w') :
    (Code.region id opsA draw).wp P Q a w := by
  cases draw with
  | false =>
    refine wp_region ?_
    have := ops_sim (Q := Q) hS hR hfull hQ
    simpa using this
  | true =>
    refine wp_region_any hm ?_
    have := any_sim (Q := Q) hS (hok rfl) hfull (hR.ext (w' := { w with drawn := w.drawn + 1 }) ⟨rfl, rfl, rfl, Nat.le_refl _, fun _ _ _ => rfl⟩) hQ
    simpa using this
theorem with_v {r : Out} {v : SV} (h : r.v = v) : ({ r with v := v } : Out) = r := by subst h; rfl
/-- The reading with its splits is the reading. -/
theorem regK_steps {α : Type} {k : FSt → Option α} {x : α} : ∀ {l : List Oper} {i : Nat} {s : FSt}, (∀ j o, l[j]? = some o → ops[i + j]? = some o) → regK P S n ops i l s k = some x → ∃ s', stepsI P S n ops (List.range' i l.length) s = some s' ∧ k s' = some x
  | [], i, s, _, h => ⟨s, rfl, h⟩
  | o :: l, i, s, ho, h => by
    have ho0 : ops[i]? = some o := by simpa using ho 0 o (by simp)
    have hol : ∀ j q, l[j]? = some q → ops[i + 1 + j]? = some q := fun j q hq => by
      have := ho (j + 1) q (by simpa using hq)
      rwa [show i + (j + 1) = i + 1 + j from by omega] at this
    have fin : ∀ s1, step P S n ops o s = some s1 → regK P S n ops (i + 1) l s1 k = some x → ∃ s', stepsI P S n ops (List.range' i (o :: l).length) s = some s' ∧ k s' = some x := by
      intro s1 h1 h2
      obtain ⟨s', h3, h4⟩ := regK_steps hol h2
      refine ⟨s', ?_, h4⟩
      rw [List.length_cons, List.range'_succ]
      exact steps_mk ho0 h1 h3
    simp only [regK] at h
    split at h
    · cases h
    · rename_i b hw
      split at h
      · rename_i hd
        split at h
        · rename_i hb
          split at h
          · cases h
          · rename_i r hr
            split at h
            · rename_i hchk
              split at h
              · rename_i hf
                have hst : step P S n ops o s = some (s.apply o.dst r) := by
                  refine step_mk ?_ hf
                  unfold stepOut
                  rw [hw]
                  simp only [hd, hb, if_true, hr, hchk]
                split at h
                · rename_i b' hg hv
                  split at h
                  · rename_i hb'
                    subst hb'
                    have : ({ r with v := .val (.bool true) } : Out) = r := with_v hv
                    rw [this] at h
                    exact fin _ hst h
                  · rename_i hb'
                    have hb'' : b' = false := by simpa using hb'
                    subst hb''
                    have : ({ r with v := .val (.bool false) } : Out) = r := with_v hv
                    rw [this] at h
                    exact fin _ hst h
                · exact fin _ hst h
              · cases h
            · cases h
        · rename_i hb
          have hb' : b = false := by simpa using hb
          subst hb'
          have hst : step P S n ops o s = some (s.put o.dst (.val undef)) := by
            refine step_mk (r := .pure true (.val undef)) ?_ rfl
            unfold stepOut
            rw [hw]
            simp only [hd, if_true, Bool.false_eq_true, if_false]
          exact fin _ hst h
      · cases h
end

end Go.Proofs.Ytnijajjdldijpaa
