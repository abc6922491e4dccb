import Derived.Test.YtnijajjdldijpaaDh
set_option linter.unusedSimpArgs false
set_option linter.unusedVariables false
namespace Go.Proofs.Ytnijajjdldijpaa
open Go.RowKit
/-! Functions. -/
section
variable {P : Program} {S : Sums} {W : World} {M : MV} {n : Nat} {s s1 s2 : FSt} {a : Act} {w w' : World} {ρ ρ' : Nat → Value} {H H' : Nat → Option Blk}
theorem mapM_run {α : Type} {f : α → Sem Value} : ∀ {l : List α} {vs : List Value}, All2 (fun x v => ∀ w : World, (f x).run P w = .ok v w) l vs → ∀ w : World, (l.mapM f).run P w = .ok vs w
  | [], [], _, w => rfl
  | x :: l, v :: vs, ⟨h, hl⟩, w => by
    rw [List.mapM_cons, run_bind_ok (h w), run_bind_ok (mapM_run hl w)]
    rfl
def TRw (w : World) (e : Nat) : TR → Value → Prop
  | .v x, v => v = x
  | .s el sz m c, v => c.ok ∧ w.ownsRow e el sz v m c.toVals
theorem own_base (h : R P W none n s a w ρ) {id e sz m : Nat} {c : Cells} (hb : s.heap id = some (.row e sz m c)) : c.ok ∧ w.ownsRow W.heap.size e sz (ρ id) m c.toVals := by
  obtain ⟨k1, k2, k3⟩ := h.heap id _ hb
  refine ⟨k1, k2.1, ?_⟩
  rcases k2.2 with h0 | ⟨g, cap, cur, hv, _, hrest⟩
  · exact .inl h0
  · refine .inr ⟨g, cap, cur, hv, ?_, hrest⟩
    have := k3 g (by rw [hv]; rfl)
    rcases this with h1 | h1
    · exact h1
    · cases h1
/-- One result. -/
theorem nilTR_rel {ty : TypeId} {x v : Value} {t : TR} (h : nilTR P ty x = some t) (hv : v = x) : TRel W w t v := by
  unfold nilTR at h
  split at h
  · split at h
    · split at h
      · simp only [Option.some.injEq] at h; subst h
        rw [hv]
        exact ⟨True.intro, World.ownsRow_nil w W.heap.size _ _⟩
      · cases h
    · cases h
  · simp only [Option.some.injEq] at h; subst h
    exact hv
theorem nilTR_own {ty : TypeId} {x : Value} {e sz m : Nat} {c : Cells} (h : nilTR P ty x = some (.s e sz m c)) : x = nilS := by
  unfold nilTR at h
  split at h
  · rfl
  · simp at h
theorem res_one (h : R P W none n s a w ρ) {x : ResultVar} {ty : TypeId} {t : TR} (hr : resTR P s (x, ty) = some t) :
    ∃ v, (match x with | .tmp t => (pure (a.tmps.getD t undef) : Sem Value) | .cell b t => do loadVar t (← asAddr (a.tmps.getD b undef))).run P w = .ok v w ∧ TRel W w t v ∧ (∀ i, resId P s x = some i → v = ρ i) ∧ ∀ e sz m c, t = .s e sz m c → resId P s x = none → v = nilS := by
  cases x with
  | tmp t =>
    have hs := h.slots t
    unfold resTR at hr
    dsimp only at hr
    unfold resId
    dsimp only
    split at hr
    · rename_i x hx
      rw [hx] at hs
      refine ⟨_, rfl, nilTR_rel hr hs, (fun i hi => by rw [hx] at hi; cases hi), fun e sz m c ht _ => ?_⟩
      subst ht
      exact hs.trans (nilTR_own hr)
    · rename_i id hx
      rw [hx] at hs
      split at hr
      · rename_i e sz m c hb
        simp only [Option.some.injEq] at hr; subst hr
        refine ⟨_, rfl, ?_, (fun i hi => ?_), fun e sz m c ht hn => ?_⟩
        · rw [hs.2]; exact own_base h hb
        · rw [hx] at hi
          simp only [Option.some.injEq] at hi; subst hi
          exact hs.2
        · rw [hx] at hn; cases hn
      · cases hr
    · cases hr
  | cell b t =>
    have hs := h.slots b
    unfold resTR at hr
    dsimp only at hr
    unfold resId
    dsimp only
    split at hr
    · rename_i id off ag sz hx hag hsz
      rw [hx] at hs
      obtain ⟨hl, g, o', ha, he⟩ := hs
      split at hr
      · rename_i o ho
        split at hr
        · rename_i hchk
          obtain ⟨v, hp, hrel, hrun⟩ := ld_ok h hag hsz ho hchk ha
          have hrun' : (do loadVar t (← asAddr (a.tmps.getD b undef)) : Sem Value).run P w = .ok v w := by
            rw [he]
            exact hrun
          refine ⟨v, hrun', ?_⟩
          split at hr
          · rename_i x hv
            rw [hv] at hrel
            refine ⟨nilTR_rel hr hrel, (fun i hi => by rw [hv] at hi; cases hi), fun e sz m c ht _ => ?_⟩
            subst ht
            exact hrel.trans (nilTR_own hr)
          · rename_i id' hv
            rw [hv] at hrel
            split at hr
            · rename_i e z m c hb
              simp only [Option.some.injEq] at hr; subst hr
              refine ⟨?_, (fun i hi => ?_), fun e sz m c ht hn => ?_⟩
              · rw [hrel.2]; exact own_base h hb
              · rw [hv] at hi
                simp only [Option.some.injEq] at hi; subst hi
                exact hrel.2
              · rw [hv] at hn; cases hn
            · cases hr
          · cases hr
        · cases hr
      · cases hr
    · cases hr
theorem res_id {x : ResultVar} {ty : TypeId} {e sz m : Nat} {c : Cells} (hr : resTR P s (x, ty) = some (.s e sz m c)) : resId P s x = none ∨ ∃ i, resId P s x = some i ∧ s.heap i = some (.row e sz m c) := by
  cases x with
  | tmp t =>
    unfold resTR at hr
    dsimp only at hr
    unfold resId
    dsimp only
    split at hr
    · rename_i x hx
      rw [hx]
      exact .inl rfl
    · rename_i id hx
      rw [hx]
      split at hr
      · rename_i hb
        simp only [Option.some.injEq, TR.s.injEq] at hr
        obtain ⟨rfl, rfl, rfl, rfl⟩ := hr
        exact .inr ⟨id, rfl, hb⟩
      · cases hr
    · cases hr
  | cell b t =>
    unfold resTR at hr
    dsimp only at hr
    unfold resId
    dsimp only
    split at hr
    · rename_i id off ag z hx hag hsz
      split at hr
      · rename_i o ho
        split at hr
        · split at hr
          · rename_i x hv
            rw [hv]
            exact .inl rfl
          · rename_i id' hv
            rw [hv]
            dsimp only
            split at hr
            · rename_i hb
              simp only [Option.some.injEq, TR.s.injEq] at hr
              obtain ⟨rfl, rfl, rfl, rfl⟩ := hr
              exact .inr ⟨id', rfl, hb⟩
            · cases hr
          · cases hr
        · cases hr
      · cases hr
    · cases hr
def resF (a : Act) : ResultVar → Sem Value := fun
    | .tmp t => pure (a.tmps.getD t undef)
    | .cell b t => do loadVar t (← asAddr (a.tmps.getD b undef))
def ResOf (P : Program) (s : FSt) (ρ : Nat → Value) (q : ResultVar × TypeId) (t : TR) (v : Value) : Prop :=
  (∀ i, resId P s q.1 = some i → v = ρ i) ∧ ∀ e sz m c, t = .s e sz m c → resId P s q.1 = none → v = nilS
def ResOfs (P : Program) (s : FSt) (ρ : Nat → Value) : List (ResultVar × TypeId) → List TR → List Value → Prop
  | [], _, _ => True
  | q :: l, t :: ts, v :: vs => ResOf P s ρ q t v ∧ ResOfs P s ρ l ts vs
  | _, _, _ => False
theorem soff_nil {g : Nat} {v : Value} (hg : ownOf v = some g) (h : v = nilS) : False := by rw [h] at hg; cases hg
theorem soff (h : R P W none n s a w ρ) {i g : Nat} {e sz m : Nat} {c : Cells} (hb : s.heap i = some (.row e sz m c)) (hg : ownOf (ρ i) = some g) : ∀ {l : List (ResultVar × TypeId)} {ts : List TR} {vs : List Value}, optMap (resTR P s) l = some ts → ResOfs P s ρ l ts vs → All2 (fun _ _ => True) ts vs → (∀ y ∈ l, ∀ k, resId P s y.1 = some k → k ≠ i) → SOff g ts vs
  | [], ts, vs, h1, _, _, _ => by simp only [optMap, Option.some.injEq] at h1; subst h1; exact True.intro
  | x :: l, [], vs, h1, hq, _, _ => by cases vs <;> exact hq.elim
  | x :: l, t :: ts, [], h1, hq, _, _ => hq.elim
  | x :: l, t :: ts, v :: vs, h1, ⟨⟨p, p2⟩, q⟩, h3, hne => by
    simp only [optMap] at h1
    split at h1
    · rename_i t' ht
      split at h1
      · rename_i ts' hts
        simp only [Option.some.injEq, List.cons.injEq] at h1
        obtain ⟨rfl, rfl⟩ := h1
        have ih := soff h hb hg hts q h3.2 fun y hy => hne y (by simp [hy])
        cases t' with
        | v y => exact ih
        | s e' sz' m' c' =>
          rcases res_id (x := x.1) (ty := x.2) ht with hn | ⟨k, hk, hbk⟩
          · refine ⟨?_, ih⟩
            rw [p2 _ _ _ _ rfl hn]
            intro hh; cases hh
          · refine ⟨?_, ih⟩
            rw [p k hk]
            exact h.apart i k _ _ g (Ne.symm (hne x (by simp) k hk)) hb hbk rfl rfl hg
      · cases h1
    · cases h1
theorem res_all (h : R P W none n s a w ρ) : ∀ {l : List (ResultVar × TypeId)} {ts : List TR}, optMap (resTR P s) l = some ts → apartIds (l.map fun q => resId P s q.1) = true →
    ∃ vs : List Value, All2 (fun x v => (resF a x).run P w = .ok v w) (l.map (·.1)) vs ∧ All2 (TRel W w) ts vs ∧ TApart ts vs ∧ ResOfs P s ρ l ts vs ∧ All2 (fun _ _ => True) ts vs
  | [], ts, h1, _ => by simp only [optMap, Option.some.injEq] at h1; subst h1; exact ⟨[], True.intro, True.intro, True.intro, True.intro, True.intro⟩
  | x :: l, ts, h1, h2 => by
    simp only [optMap] at h1
    split at h1
    · rename_i t ht
      split at h1
      · rename_i ts' hts
        simp only [Option.some.injEq] at h1; subst h1
        have h2' : apartIds (l.map fun q => resId P s q.1) = true := by
          simp only [List.map_cons] at h2
          cases hi : resId P s x.1 with
          | none => rw [hi] at h2; exact h2
          | some i => rw [hi] at h2; simp only [apartIds, Bool.and_eq_true] at h2; exact h2.2
        obtain ⟨vs, k1, k2, k3, k4, k5⟩ := res_all h hts h2'
        obtain ⟨v, hrun, hrel, hid, hnil⟩ := res_one (x := x.1) (ty := x.2) h ht
        have hrun' : (resF a x.1).run P w = .ok v w := by
          have : resF a x.1 = (match x.1 with | .tmp t => (pure (a.tmps.getD t undef) : Sem Value) | .cell b t => do loadVar t (← asAddr (a.tmps.getD b undef))) := by cases x.1 <;> rfl
          rw [this]; exact hrun
        refine ⟨v :: vs, ⟨hrun', k1⟩, ⟨hrel, k2⟩, ?_, ⟨⟨hid, hnil⟩, k4⟩, ⟨True.intro, k5⟩⟩
        cases t with
        | v y => exact k3
        | s e sz m c =>
          refine ⟨?_, k3⟩
          intro g hg
          rcases res_id (x := x.1) (ty := x.2) ht with hn | ⟨i, hi, hb⟩
          · rw [hnil _ _ _ _ rfl hn] at hg
            cases hg
          have hv : v = ρ i := hid i hi
          rw [hv] at hg
          have hne : ∀ y ∈ l, ∀ k, resId P s y.1 = some k → k ≠ i := by
            intro y hy k hk e
            subst e
            simp only [List.map_cons, hi, apartIds, Bool.and_eq_true] at h2
            have := List.all_eq_true.1 h2.1 (some k) (List.mem_map.2 ⟨y, hy, hk⟩)
            simp at this
          exact soff h hb hg hts k4 k5 hne
      · cases h1
    · cases h1
theorem zipT_fst : ∀ (l : List ResultVar) (ts : List TypeId), (zipT l ts).map (·.1) = l
  | [], _ => rfl
  | x :: l, [] => by simp only [zipT, List.map_cons, zipT_fst l []]
  | x :: l, t :: ts => by simp only [zipT, List.map_cons, zipT_fst l ts]
theorem results_run {fn : Func} {ts : List TR} (h : R P W none n s a w ρ) (h1 : optMap (resTR P s) (zipT fn.results.toList fn.resultTypes.toList) = some ts) (h2 : apartIds (fn.results.toList.map (resId P s)) = true) :
    ∃ v, (results fn a.tmps).run P w = .ok v w ∧ ResRel W w ts v := by
  have h2' : apartIds ((zipT fn.results.toList fn.resultTypes.toList).map fun q => resId P s q.1) = true := by
    rw [← zipT_fst fn.results.toList fn.resultTypes.toList, List.map_map] at h2
    exact h2
  obtain ⟨vs, k1, k2, k3, _, _⟩ := res_all h h1 h2'
  rw [zipT_fst] at k1
  have hm : (fn.results.mapM (resF a)).run P w = .ok vs.toArray w := by
    rw [Array.mapM_eq_mapM_toList]
    have hall : ∀ {l : List ResultVar} {us : List Value}, All2 (fun x v => (resF a x).run P w = .ok v w) l us → (l.mapM (resF a)).run P w = .ok us w := by
      intro l
      induction l with
      | nil => intro us hu; cases us with
        | nil => rfl
        | cons u us => cases hu
      | cons x l ih => intro us hu; cases us with
        | nil => cases hu
        | cons u us =>
          rw [List.mapM_cons, run_bind_ok hu.1, run_bind_ok (ih hu.2)]
          rfl
    have := hall k1
    show ((List.toArray <$> fn.results.toList.mapM (resF a))).run P w = _
    rw [map_eq_pure_bind, run_bind_ok this]
    rfl
  have hr : (results fn a.tmps).run P w = .ok (if h : vs.toArray.size = 1 then vs.toArray[0] else .tuple vs.toArray) w := by
    have : results fn a.tmps = (do let us ← fn.results.mapM (resF a); pure (if h : us.size = 1 then us[0] else .tuple us)) := by
      unfold results
      congr 1
    rw [this, run_bind_ok hm]
    rfl
  refine ⟨_, hr, ?_⟩
  cases ts with
  | nil =>
    cases vs with
    | nil => exact ⟨[], rfl, k2, k3⟩
    | cons v vs => cases k2
  | cons t ts =>
    cases vs with
    | nil => cases k2
    | cons v vs =>
      cases ts with
      | nil =>
        cases vs with
        | nil => exact k2.1
        | cons u us => cases k2.2
      | cons t2 ts =>
        cases vs with
        | nil => cases k2.2
        | cons u us => exact ⟨v :: u :: us, rfl, k2, k3⟩
/-! The entry of a function. -/
theorem entry_keys : ∀ (l : List PV) (i : Nat) (x : Nat) (b : Blk), look (entryHeap i l) x = some b → 4 * i ≤ x
  | [], i, x, b, h => by cases h
  | .v _ :: l, i, x, b, h => by have := entry_keys l (i + 1) x b h; omega
  | .f _ :: l, i, x, b, h => by have := entry_keys l (i + 1) x b h; omega
  | .s m c :: l, i, x, b, h => by
    simp only [entryHeap, look] at h
    by_cases e : x = 4 * i
    · omega
    · rw [nbeq e, cond_false] at h
      have := entry_keys l (i + 1) x b h; omega
  | .p c :: l, i, x, b, h => by
    simp only [entryHeap, look] at h
    by_cases e : x = 4 * i
    · omega
    · rw [nbeq e, cond_false] at h
      have := entry_keys l (i + 1) x b h; omega
  | .ps m c :: l, i, x, b, h => by
    simp only [entryHeap, look] at h
    by_cases e : x = 4 * i
    · omega
    · rw [nbeq e, cond_false] at h
      by_cases e2 : x = 4 * i + 1
      · omega
      · rw [nbeq e2, cond_false] at h
        have := entry_keys l (i + 1) x b h; omega
structure Entry (P : Program) (W : World) (ρ : Nat → Value) (H : Nat → Option Blk) (l : List SV) (vs : List Value) : Prop where
  slots : All2 (Rel P W none ρ H) l vs
  heap : ∀ id b, H id = some b → BRel P W none W ρ H id b ∧ ownB b = false
theorem entry_rel : ∀ (pvs : List PV) (avs : List Value) (i : Nat), All2 (ArgRel P W) pvs avs → ∃ ρ, Entry P W ρ (look (entryHeap i pvs)) (entrySlots i pvs) avs
  | [], [], i, _ => ⟨fun _ => undef, True.intro, fun id b h => by cases h⟩
  | pv :: pvs, a :: avs, i, ⟨p, q⟩ => by
    obtain ⟨ρ, h⟩ := entry_rel pvs avs (i + 1) q
    -- what was there stays
    have stay : ∀ (L : List (Nat × Blk)) (ρ' : Nat → Value), (∀ x, 4 * i + 4 ≤ x → look L x = look (entryHeap (i + 1) pvs) x ∧ ρ' x = ρ x) → ∀ id, (look (entryHeap (i + 1) pvs) id).isSome = true → (look L id).isSome = true ∧ ρ' id = ρ id := by
      intro L ρ' hL id hid
      cases hb : look (entryHeap (i + 1) pvs) id with
      | none => rw [hb] at hid; cases hid
      | some b =>
        have := entry_keys pvs (i + 1) id b hb
        obtain ⟨e1, e2⟩ := hL id (by omega)
        exact ⟨by rw [e1, hb]; rfl, e2⟩
    cases pv with
    | v x => exact ⟨ρ, ⟨p, h.slots⟩, h.heap⟩
    | f g => exact ⟨ρ, ⟨p, h.slots⟩, h.heap⟩
    | s m c =>
      refine ⟨fun x => if x = 4 * i then a else ρ x, ?_⟩
      have hL : ∀ x, look ((4 * i, Blk.ros m c) :: entryHeap (i + 1) pvs) x = if x = 4 * i then some (.ros m c) else look (entryHeap (i + 1) pvs) x := by
        intro x
        simp only [look]
        by_cases e : x = 4 * i
        · subst e; simp
        · rw [nbeq e, cond_false, if_neg e]
      have hst := stay ((4 * i, Blk.ros m c) :: entryHeap (i + 1) pvs) (fun x => if x = 4 * i then a else ρ x) fun x hx => by
        rw [hL, if_neg (by omega), if_neg (by omega)]
        exact ⟨rfl, rfl⟩
      refine ⟨⟨⟨by show (look ((4 * i, Blk.ros m c) :: entryHeap (i + 1) pvs) (4 * i)).isSome = true; rw [hL, if_pos rfl]; rfl, by simp only [if_true]⟩, h.slots.mono fun _ _ => Rel.mono hst⟩, fun id b hb => ?_⟩
      have hb : look ((4 * i, Blk.ros m c) :: entryHeap (i + 1) pvs) id = some b := hb
      rw [hL] at hb
      split at hb
      · rename_i e
        simp only [Option.some.injEq] at hb; subst hb
        exact ⟨by simp only [BRel, e, if_true]; exact p, rfl⟩
      · rename_i e
        obtain ⟨k1, k2⟩ := h.heap id b hb
        exact ⟨k1.mono hst (if_neg e), k2⟩
    | p c =>
      obtain ⟨g, o, rfl, hc⟩ := p
      refine ⟨fun x => if x = 4 * i then .pointer (some ⟨g, o, none⟩) else ρ x, ?_⟩
      have hL : ∀ x, look ((4 * i, Blk.rop (c.map SV.val)) :: entryHeap (i + 1) pvs) x = if x = 4 * i then some (.rop (c.map SV.val)) else look (entryHeap (i + 1) pvs) x := by
        intro x
        simp only [look]
        by_cases e : x = 4 * i
        · subst e; simp
        · rw [nbeq e, cond_false, if_neg e]
      have hst := stay ((4 * i, Blk.rop (c.map SV.val)) :: entryHeap (i + 1) pvs) (fun x => if x = 4 * i then .pointer (some ⟨g, o, none⟩) else ρ x) fun x hx => by
        rw [hL, if_neg (by omega), if_neg (by omega)]
        exact ⟨rfl, rfl⟩
      refine ⟨⟨⟨by show (look ((4 * i, Blk.rop (c.map SV.val)) :: entryHeap (i + 1) pvs) (4 * i)).isSome = true; rw [hL, if_pos rfl]; rfl, g, o, by simp only [if_true]; rfl, by simp⟩, h.slots.mono fun _ _ => Rel.mono hst⟩, fun id b hb => ?_⟩
      have hb : look ((4 * i, Blk.rop (c.map SV.val)) :: entryHeap (i + 1) pvs) id = some b := hb
      rw [hL] at hb
      split at hb
      · rename_i e
        simp only [Option.some.injEq] at hb; subst hb
        refine ⟨⟨g, o, by simp only [e, if_true], by simp [mB], fun j v hv => ?_⟩, rfl⟩
        rw [List.getElem?_map] at hv
        cases hj : c[j]? with
        | none => rw [hj] at hv; cases hv
        | some u =>
          rw [hj] at hv
          obtain rfl : SV.val u = v := by simpa using hv
          exact ⟨u, hc j u hj, rfl⟩
      · rename_i e
        obtain ⟨k1, k2⟩ := h.heap id b hb
        exact ⟨k1.mono hst (if_neg e), k2⟩
    | ps m c =>
      obtain ⟨g, o, u, rfl, hc, hros⟩ := p
      refine ⟨fun x => if x = 4 * i then .pointer (some ⟨g, o, none⟩) else if x = 4 * i + 1 then u else ρ x, ?_⟩
      have hL : ∀ x, look ((4 * i, Blk.rop [.row (4 * i + 1)]) :: (4 * i + 1, Blk.ros m c) :: entryHeap (i + 1) pvs) x = if x = 4 * i then some (.rop [.row (4 * i + 1)]) else if x = 4 * i + 1 then some (.ros m c) else look (entryHeap (i + 1) pvs) x := by
        intro x
        simp only [look]
        by_cases e : x = 4 * i
        · subst e; simp
        · rw [nbeq e, cond_false, if_neg e]
          by_cases e2 : x = 4 * i + 1
          · subst e2; simp
          · rw [nbeq e2, cond_false, if_neg e2]
      have hst := stay ((4 * i, Blk.rop [.row (4 * i + 1)]) :: (4 * i + 1, Blk.ros m c) :: entryHeap (i + 1) pvs) (fun x => if x = 4 * i then .pointer (some ⟨g, o, none⟩) else if x = 4 * i + 1 then u else ρ x) fun x hx => by
        rw [hL, if_neg (by omega), if_neg (by omega), if_neg (by omega), if_neg (by omega)]
        exact ⟨rfl, rfl⟩
      refine ⟨⟨⟨by show (look ((4 * i, Blk.rop [.row (4 * i + 1)]) :: (4 * i + 1, Blk.ros m c) :: entryHeap (i + 1) pvs) (4 * i)).isSome = true; rw [hL, if_pos rfl]; rfl, g, o, by simp only [if_true]; rfl, by simp⟩, h.slots.mono fun _ _ => Rel.mono hst⟩, fun id b hb => ?_⟩
      have hb : look ((4 * i, Blk.rop [.row (4 * i + 1)]) :: (4 * i + 1, Blk.ros m c) :: entryHeap (i + 1) pvs) id = some b := hb
      have hb0 := hb
      rw [hL] at hb
      split at hb
      · rename_i e
        simp only [Option.some.injEq] at hb; subst hb
        refine ⟨⟨g, o, by simp only [e, if_true], by simp [mB], fun j v hv => ?_⟩, rfl⟩
        cases j with
        | succ j => simp at hv
        | zero =>
          obtain rfl : SV.row (4 * i + 1) = v := by simpa using hv
          refine ⟨u, hc, ?_, ?_⟩
          · show (look ((4 * i, Blk.rop [.row (4 * i + 1)]) :: (4 * i + 1, Blk.ros m c) :: entryHeap (i + 1) pvs) (4 * i + 1)).isSome = true
            rw [hL, if_neg (by omega), if_pos rfl]; rfl
          · dsimp only
            rw [if_neg (by omega), if_pos rfl]
      · rename_i e
        split at hb
        · rename_i e2
          simp only [Option.some.injEq] at hb; subst hb
          refine ⟨?_, rfl⟩
          simp only [BRel]
          rw [if_neg e, if_pos e2]
          exact hros
        · rename_i e2
          obtain ⟨k1, k2⟩ := h.heap id b hb
          exact ⟨k1.mono hst (by rw [if_neg e, if_neg e2]), k2⟩
/-- Calls of a function do what the reading of its code tells. -/
theorem execT_sound {α : Type} {fu : Code → Nat} {dec : List TR → Option α} {enc : α → List TR} (hde : ∀ rs x, dec rs = some x → rs = enc x) (hS : SumsOK P S) (hm : P.follows .mixedOrders = true) {f : Nat} {fn : Func} (hf : P.funcs[f]? = some fn) (hn : fn.ntmps = n) (hb : fn.body.isSome = true) (hok : codeOK S (bodyF P f) = true) {pvs : List PV} {avs : List Value} {x : α}
    (hargs : All2 (ArgRel P W) pvs avs) (h : execT P S f n fu dec pvs = some x) : Calls P f avs.toArray W fun e W' => ∃ rv, e = .returned rv ∧ ResRel W W' (enc x) rv ∧ W.grownBy W' none := by
  subst hn
  obtain ⟨c, hb⟩ := Option.isSome_iff_exists.1 hb
  have hbody : bodyF P f = c := by unfold bodyF; rw [hf]; dsimp only; rw [hb]
  rw [hbody] at hok
  unfold execT at h
  split at h
  · rename_i hle
    rw [hbody] at h
    have hle := nle hle
    have hlen := hargs.len
    obtain ⟨ρ, hent⟩ := entry_rel (P := P) (W := W) pvs avs 0 hargs
    refine calls_of_wp hf hb ?_
    have hR : R P W none fn.ntmps (entrySt pvs) { tmps := avs.toArray ++ Array.replicate (fn.ntmps - avs.toArray.size) undef, defers := [] } W ρ := by
      refine ⟨World.grownBy.refl W none, by simp; omega, rfl, fun t => ?_, fun id b hb => (hent.heap id b hb).1, fun i j bi bj g hij hi hj oi oj => ?_, fun v hv => by cases hv⟩
      · show Rel P W none ρ _ ((entrySlots 0 pvs).getD t .junk) _
        rw [List.getD_eq_getElem?_getD]
        cases ht : (entrySlots 0 pvs)[t]? with
        | none => exact True.intro
        | some x =>
          obtain ⟨v, hv, hrel⟩ := hent.slots.get ht
          have hlt : t < avs.length := (List.getElem?_eq_some_iff.1 hv).1
          have : (avs.toArray ++ Array.replicate (fn.ntmps - avs.toArray.size) undef).getD t undef = v := by
            rw [Array.getD_eq_getD_getElem?, Array.getElem?_append_left (by simpa using hlt)]
            simp [hv]
          rw [this]
          exact hrel
      · have := (hent.heap i bi hi).2
        rw [oi] at this
        cases this
    refine exec_sim hS hm c (entrySt pvs) _ hok h _ W ρ hR _ fun e s' a' w' ρ' hR' hk => ?_
    unfold finT at hk
    rw [hf] at hk
    dsimp only at hk
    unfold finishT at hk
    split at hk
    · rename_i rs hfin
      obtain rfl := hde rs x hk
      have fin : optMap (resTR P s') (zipT fn.results.toList fn.resultTypes.toList) = some (enc x) → apartIds (fn.results.toList.map (resId P s')) = true → a'.defers = [] ∧ ∃ v, (results fn a'.tmps).run P w' = .ok v w' ∧ ∃ rv, Ending.returned v = .returned rv ∧ ResRel W w' (enc x) rv ∧ W.grownBy w' none := by
        intro h1 h2
        obtain ⟨v, hv, hres⟩ := results_run hR' h1 h2
        exact ⟨hR'.defers, v, hv, v, rfl, hres, hR'.grown⟩
      unfold finish at hfin
      cases e with
      | normal =>
        dsimp only at hfin
        split at hfin
        · rename_i h2; exact fin hfin h2
        · cases hfin
      | exit id => cases hfin
      | ret =>
        dsimp only at hfin
        split at hfin
        · rename_i h2; exact fin hfin h2
        · cases hfin
    · cases hk
  · cases h
def AllS (P : Program) : List (Nat × (List PV → Option (Bool × List TR))) → Prop
  | [] => True
  | x :: l => (Callable P x.1 ∧ Sound P x.1 x.2) ∧ AllS P l
def tblS : List (Nat × (List PV → Option (Bool × List TR))) → Nat → Option (List PV → Option (Bool × List TR))
  | [], _ => none
  | x :: l, g => bif Nat.beq g x.1 then some x.2 else tblS l g
theorem tblS_ok : ∀ {l : List (Nat × (List PV → Option (Bool × List TR)))}, AllS P l → ∀ g run, tblS l g = some run → Callable P g ∧ Sound P g run
  | [], _ => fun g run h => by cases h
  | x :: l, ⟨h, hl⟩ => fun g run hr => by
    simp only [tblS] at hr
    cases hb : Nat.beq g x.1 with
    | true =>
      rw [hb] at hr
      simp only [cond_true, Option.some.injEq] at hr
      subst hr
      rw [neq hb]
      exact h
    | false =>
      rw [hb] at hr
      exact tblS_ok hl g run hr
def AllM (P : Program) : List (Nat × MFn) → Prop
  | [] => True
  | x :: l => (Callable P x.1 ∧ SoundF P x.1 x.2) ∧ AllM P l
def tblM : List (Nat × MFn) → Nat → Option MFn
  | [], _ => none
  | x :: l, g => bif Nat.beq g x.1 then some x.2 else tblM l g
theorem tblM_ok : ∀ {l : List (Nat × MFn)}, AllM P l → ∀ g run, tblM l g = some run → Callable P g ∧ SoundF P g run
  | [], _ => fun g run h => by cases h
  | x :: l, ⟨h, hl⟩ => fun g run hr => by
    simp only [tblM] at hr
    cases hb : Nat.beq g x.1 with
    | true =>
      rw [hb] at hr
      simp only [cond_true, Option.some.injEq] at hr
      subst hr
      rw [neq hb]
      exact h
    | false =>
      rw [hb] at hr
      exact tblM_ok hl g run hr
/-- The contract of a function, out of the reading of its code. -/
theorem sound_of {α : Type} {dec : List TR → Option α} {enc : α → List TR} {f : Nat} {run : List PV → Option (Bool × List TR)} (hde : ∀ rs x, dec rs = some x → rs = enc x) (hS : SumsOK P S) (hm : P.follows .mixedOrders = true) {fn : Func} (hf : P.funcs[f]? = some fn) (hn : fn.ntmps = n) (hb : fn.body.isSome = true) (hok : codeOK S (bodyF P f) = true)
    (h : ∀ W pvs avs rs, All2 (ArgRel P W) pvs avs → run pvs = some (true, rs) → ∃ (fu : Code → Nat) (pvs' : List PV) (x : α), All2 (ArgRel P W) pvs' avs ∧ rs = enc x ∧ execT P S f n fu dec pvs' = some x) : Sound P f run := by
  intro W pvs avs rs hargs hrun
  obtain ⟨fu, pvs', x, h1, rfl, h2⟩ := h W pvs avs rs hargs hrun
  exact execT_sound hde hS hm hf hn hb hok h1 h2
/-- What an option holds. -/
theorem of_isSome {α : Type} {o : Option α} {d : α} (h : o.isSome = true) : o = some (o.getD d) := by
  cases o with
  | none => cases h
  | some x => rfl
def okV (o : Option (Bool × Value)) : Bool := match o with
  | some (c, .bool _) => c
  | _ => false
def boolV (o : Option (Bool × Value)) : Bool := match o with
  | some (_, .bool b) => b
  | _ => false
theorem okV_some {o : Option (Bool × Value)} (h : okV o = true) : o = some (true, .bool (boolV o)) := by
  unfold okV at h
  split at h
  · subst h; rfl
  · cases h
theorem fn_weaken {a : Value} {g g' : List Value → Option (Bool × Value)} (h : ArgRel P W (.f g) a) (hg : ∀ args r, g' args = some (true, r) → g args = some (true, r)) : ArgRel P W (.f g') a := by
  obtain ⟨f, caps, h1, h2, h3⟩ := h
  exact ⟨f, caps, h1, h2, fun w hw args r hr => h3 w hw args r (hg args r hr)⟩
theorem All2.replace {α β : Type} {R : α → β → Prop} {x y : α} : ∀ {l1 l2 : List α} {m : List β}, All2 R (l1 ++ x :: l2) m → (∀ b, R x b → R y b) → All2 R (l1 ++ y :: l2) m
  | [], _, _ :: _, ⟨p, q⟩, h => ⟨h _ p, q⟩
  | _ :: l1, _, _ :: _, ⟨p, q⟩, h => ⟨p, All2.replace (l1 := l1) q h⟩
def wI (n : Int) : Int := IntKind.i64.wrap n
def andI (k : IntKind) (x y : Int) : Int := k.wrap ((BitVec.ofInt k.bits x &&& BitVec.ofInt k.bits y).toNat : Int)
def shrI (x : Int) (n : Nat) : Int := x.fdiv (2 ^ n)
theorem wI_eq (n : Int) : wI n = wrap64 n := by rw [wI, IntKind.wrap_i64, wrap64]
def prB (p : Int) : Bool := decide (1 ≤ p) && decide (p ≤ 31)
theorem prB_ne {p : Int} (h : prB p = true) : (!(p == 0)) = true := by
  unfold prB at h
  simp at h ⊢
  omega
theorem ite_opt {α : Type} {c : Prop} [Decidable c] {a b : Option α} {x y : α} (h1 : c → a = some x) (h2 : ¬ c → b = some y) : (if c then a else b) = some (if c then x else y) := by
  by_cases h : c
  · rw [if_pos h, if_pos h]; exact h1 h
  · rw [if_neg h, if_neg h]; exact h2 h
theorem chk_opt {α : Type} {c : Prop} [Decidable c] {a : Option α} {x : α} (h : c) (k : a = some x) : (if c then a else none) = some x := by rw [if_pos h]; exact k
end

end Go.Proofs.Ytnijajjdldijpaa
