import Derived.Test.YtnijajjdldijpaaDd
set_option linter.unusedSimpArgs false
set_option linter.unusedVariables false
namespace Go.Proofs.Ytnijajjdldijpaa
open Go.RowKit
/-! Two operations that do not meet may change places. -/
def lk : List (Nat × Blk) → Nat → Option Blk
  | [], _ => none
  | (i, b) :: l, x => match lk l x with | some c => some c | none => if x = i then some b else none
def ul : Option (Nat × Blk) → Nat → Option Blk
  | none, _ => none
  | some (i, b), x => if x = i then some b else none
section
variable {P : Program} {S : Sums} {n : Nat} {s s' s1 s2 : FSt} {H H' : Nat → Option Blk} {o q : Oper} {r : Out} {ops : List Oper}
theorem heap_set (i : Nat) (b : Blk) (x : Nat) : (s.set i b).heap x = if x = i then some b else s.heap x := by
  show (bif Nat.beq x i then some b else s.heap x) = _
  by_cases e : x = i
  · subst e; simp
  · rw [nbeq e, if_neg e]; rfl
theorem heap_news : ∀ (l : List (Nat × Blk)) (s : FSt) (x : Nat), (s.news l).heap x = match lk l x with | some c => some c | none => s.heap x
  | [], s, x => rfl
  | (i, b) :: l, s, x => by
    show ((s.set i b).news l).heap x = _
    rw [heap_news l]
    simp only [lk]
    cases lk l x with
    | some c => rfl
    | none =>
      simp only
      rw [heap_set]
      split <;> rfl
theorem slot_news : ∀ (l : List (Nat × Blk)) (s : FSt), (s.news l).slot = s.slot
  | [], s => rfl
  | (i, b) :: l, s => slot_news l (s.set i b)
theorem heap_upd (u : Option (Nat × Blk)) (s : FSt) (x : Nat) : (s.upd u).heap x = match ul u x with | some c => some c | none => s.heap x := by
  cases u with
  | none => rfl
  | some p =>
    obtain ⟨i, b⟩ := p
    show (s.set i b).heap x = _
    rw [heap_set]
    simp only [ul]
    split <;> rfl
theorem slot_upd (u : Option (Nat × Blk)) (s : FSt) : (s.upd u).slot = s.slot := by cases u <;> rfl
theorem heap_put (d : Option Nat) (v : SV) : (s.put d v).heap = s.heap := by cases d <;> rfl
theorem slot_put (d : Option Nat) (v : SV) (t : Nat) : (s.put d v).slot t = if d = some t then v else s.slot t := by
  cases d with
  | none => rfl
  | some d =>
    show (bif Nat.beq t d then v else s.slot t) = _
    by_cases e : t = d
    · subst e; simp
    · rw [nbeq e, if_neg (by simp; exact fun h => e h.symm)]; rfl
theorem heap_apply (hr : r.drop = none) (d : Option Nat) (x : Nat) : (s.apply d r).heap x = match ul r.upd x with | some c => some c | none => match lk r.news x with | some c => some c | none => s.heap x := by
  unfold FSt.apply
  rw [hr, heap_put, heap_upd, heap_news]
  rfl
theorem slot_apply (hr : r.drop = none) (d : Option Nat) (t : Nat) : (s.apply d r).slot t = if d = some t then r.v else s.slot t := by
  unfold FSt.apply
  rw [hr, slot_put, slot_upd, slot_news]
  rfl
theorem lk_mem : ∀ {l : List (Nat × Blk)} {x : Nat} {c : Blk}, lk l x = some c → ∃ p ∈ l, p.1 = x ∧ p.2 = c
  | (i, b) :: l, x, c, h => by
    simp only [lk] at h
    split at h
    · rename_i c' hc
      obtain ⟨p, hp, e⟩ := lk_mem hc
      exact ⟨p, by simp [hp], by rw [e.1]; exact ⟨rfl, by simpa [e.2] using h⟩⟩
    · split at h
      · rename_i e
        exact ⟨(i, b), by simp, e.symm, by simpa using h⟩
      · cases h
theorem fresh_iff : ∀ {l : List (Nat × Blk)}, s.fresh l = true ↔ ∀ p ∈ l, s.heap p.1 = none
  | [] => by simp [FSt.fresh]
  | (i, b) :: l => by
    simp only [FSt.fresh]
    cases h : s.heap i with
    | some c => simp [h]
    | none =>
      simp only [List.mem_cons, forall_eq_or_imp, h, true_and]
      exact fresh_iff
/-- Behind an operation a well-formed reading is well formed. -/
theorem apply_wf (wf : WF s) (sp : Spec S s o r) : WF (s.apply o.dst r) := by
  have hg : Grow s.heap (s.apply o.dst r).heap := by
    intro id hid
    rw [heap_apply sp.drop]
    cases ul r.upd id with
    | some c => rfl
    | none => cases lk r.news id with
      | some c => rfl
      | none => exact hid
  have hn : ∀ x ∈ r.news, ((s.apply o.dst r).heap x.1).isSome = true := by
    intro x hx
    rw [heap_apply sp.drop]
    cases ul r.upd x.1 with
    | some c => rfl
    | none =>
      have : ∃ c, lk r.news x.1 = some c := by
        clear sp hg
        generalize r.news = l at hx
        induction l with
        | nil => cases hx
        | cons p l ih =>
          simp only [lk]
          cases hl : lk l x.1 with
          | some c => exact ⟨c, rfl⟩
          | none =>
            rcases List.mem_cons.1 hx with rfl | hx
            · exact ⟨x.2, by simp⟩
            · obtain ⟨c, hc⟩ := ih hx
              rw [hl] at hc
              cases hc
      obtain ⟨c, hc⟩ := this
      rw [hc]
      rfl
  obtain ⟨k1, k2, k3⟩ := sp.ok _ hg hn
  refine ⟨fun t => ?_, fun id b hb => ?_⟩
  · rw [slot_apply sp.drop]
    split
    · exact k1
    · exact (wf.slots t).grow hg
  · rw [heap_apply sp.drop] at hb
    cases hu : ul r.upd id with
    | some c =>
      rw [hu] at hb
      simp only [Option.some.injEq] at hb; subst hb
      cases hup : r.upd with
      | none => rw [hup] at hu; cases hu
      | some p =>
        rw [hup] at hu
        simp only [ul] at hu
        split at hu
        · simp only [Option.some.injEq] at hu; subst hu
          exact k3 p hup
        · cases hu
    | none =>
      rw [hu] at hb
      cases hl : lk r.news id with
      | some c =>
        rw [hl] at hb
        simp only [Option.some.injEq] at hb; subst hb
        obtain ⟨p, hp, _, rfl⟩ := lk_mem hl
        exact k2 p hp
      | none =>
        rw [hl] at hb
        exact (wf.heap id b hb).grow hg
def allowed (a b : Nat) : Bool := match a, b with
  | 0, 0 | 0, 2 | 2, 0 | 2, 2 | 0, 3 | 3, 0 => true
  | _, _ => false
theorem wantedB_ag (h : ∀ j w, o.guard = some (j, w) → ∀ q d, ops[j]? = some q → q.dst = some d → s'.slot d = s.slot d) : wantedB ops s' o = wantedB ops s o := by
  unfold wantedB
  cases hg : o.guard with
  | none => rfl
  | some p =>
    obtain ⟨j, w⟩ := p
    dsimp only
    cases hq : ops[j]? with
    | none => rfl
    | some q =>
      dsimp only
      cases hd : q.dst with
      | none => rfl
      | some d =>
        dsimp only
        rw [h j w hg q d hq hd]
theorem ev_ag {x : Operand} (h : ∀ t, x = .tmp t → s'.slot t = s.slot t) : s'.ev x = s.ev x := by
  cases x with
  | tmp t => exact h t rfl
  | const v => rfl
  | global g => rfl
  | func f => rfl
theorem looks_op {t : Nat} {opsA : Array Oper} (h : .tmp t ∈ o.op.operands.toList) : t ∈ o.looksAt opsA := by
  unfold Oper.looksAt
  refine List.mem_append.2 (.inl (List.mem_filterMap.2 ⟨_, h, rfl⟩))
theorem looks_guard {j : Nat} {w : Bool} {d : Nat} (hg : o.guard = some (j, w)) (hq : ops[j]? = some q) (hd : q.dst = some d) : d ∈ o.looksAt ops.toArray := by
  unfold Oper.looksAt
  refine List.mem_append.2 (.inr ?_)
  rw [hg]
  simp [hq, hd]
theorem storeAt_op' {o : Oper} {x : Nat} (hx : storeAt o = some x) : (∃ t y, o.op = .store t (.tmp x) y) ∨ ∃ t, o.op = .load t (.tmp x) := by
  unfold storeAt at hx
  split at hx
  · rename_i t x' y h
    simp only [Option.some.injEq] at hx
    subst hx
    exact .inl ⟨t, y, h⟩
  · rename_i t x' h
    simp only [Option.some.injEq] at hx
    subst hx
    exact .inr ⟨t, h⟩
  · cases hx
theorem srcOf_op {o : Oper} {x : Operand} (h : srcOf S o = some x) : ∃ c f run, o.op = .call c ∧ c.callee = .value f ∧ mutOf S f = some (.box run) ∧ c.args.toList.head? = some x := by
  unfold srcOf at h
  split at h
  · rename_i c hc
    split at h
    · rename_i f hf
      split at h
      · rename_i run hm
        exact ⟨c, f, run, hc, hf, hm, h⟩
      · cases h
    · cases h
  · cases h
theorem src_ev {x : Operand} (hq : srcOf S o = some x) (hs : ∀ t ∈ o.looksAt ops.toArray, s'.slot t = s.slot t) : s'.ev x = s.ev x := by
  obtain ⟨c, f, run, ho, hf, hm, hh⟩ := srcOf_op hq
  refine ev_ag fun t ht => hs t (looks_op ?_)
  rw [ho]
  simp only [Op.operands, Call.operands, Array.toList_append]
  refine List.mem_append.2 (.inr ?_)
  rw [← ht]
  exact List.mem_of_mem_head? hh
theorem at_slot {x : Nat} (hx : storeAt o = some x) (hs : ∀ t ∈ o.looksAt ops.toArray, s'.slot t = s.slot t) : s'.slot x = s.slot x := by
  refine hs x (looks_op ?_)
  rcases storeAt_op' hx with ⟨t, y, h⟩ | ⟨t, h⟩ <;> rw [h] <;> simp [Op.operands]
theorem homeB_ag (hs : ∀ t ∈ o.looksAt ops.toArray, s'.slot t = s.slot t) (h : cls S o.op = 0 ∨ (Ag s.heap s'.heap ∧ WF s)) : homeB P S ops o s' = homeB P S ops o s := by
  unfold homeB
  cases hx : storeAt o with
  | none =>
    cases hq : srcOf S o with
    | none => rfl
    | some x =>
      obtain ⟨c, f, run, ho, hf, hm, hh⟩ := srcOf_op hq
      obtain ⟨ag, wf⟩ := h.resolve_left (by rw [ho]; simp [cls, hf, hm])
      dsimp only
      rw [src_ev hq hs]
      have hk := wf.ev x
      cases he : s.ev x <;> try rfl
      rw [he] at hk
      dsimp only
      rw [ag _ hk]
  | some x =>
    have hne : cls S o.op ≠ 0 := by
      rcases storeAt_op' hx with ⟨t, y, e⟩ | ⟨t, e⟩ <;> rw [e] <;> simp [cls]
    obtain ⟨ag, wf⟩ := h.resolve_left hne
    dsimp only
    rw [at_slot hx hs]
    have hk := wf.slots x
    cases he : s.slot x <;> try rfl
    rw [he] at hk
    dsimp only
    rw [ag _ hk]
/-- What an operation does, in a state that another has changed where it does not look. -/
theorem stepOut_ag (hs : ∀ t ∈ o.looksAt ops.toArray, s'.slot t = s.slot t) (h : cls S o.op = 0 ∨ (Ag s.heap s'.heap ∧ WF s)) (hc : cls S o.op ≠ 4) : stepOut P S n ops o s' = stepOut P S n ops o s := by
  unfold stepOut
  rw [wantedB_ag fun j w hg q d hq hd => hs d (looks_guard hg hq hd), opOut_ag (fun x hx => ev_ag fun t ht => hs t (looks_op (by rw [← ht]; exact hx))) h hc]
  unfold chkH
  rw [homeB_ag hs h]
theorem stepOut_spec (hc : cls S o.op ≠ 4) (wf : WF s) (h : stepOut P S n ops o s = some r) : Spec S s o r := by
  unfold stepOut at h
  split at h
  · cases h
  · split at h
    · split at h
      · split at h
        · cases h
        · rename_i r' hr'
          split at h
          · simp only [Option.some.injEq] at h; subst h; exact opOut_spec hc wf hr'
          · cases h
      · simp only [Option.some.injEq] at h; subst h; exact spec_pure True.intro
    · cases h
theorem step_inv (h : step P S n ops o s = some s1) : ∃ r, stepOut P S n ops o s = some r ∧ s.fresh r.news = true ∧ s1 = s.apply o.dst r := by
  unfold step at h
  split at h
  · cases h
  · rename_i r hr
    split at h
    · rename_i hf
      simp only [Option.some.injEq] at h
      exact ⟨r, hr, hf, h.symm⟩
    · cases h
theorem step_mk (h : stepOut P S n ops o s = some r) (hf : s.fresh r.news = true) : step P S n ops o s = some (s.apply o.dst r) := by
  unfold step
  rw [h]
  simp only [hf, if_true]
theorem step_wf (hc : cls S o.op ≠ 4) (wf : WF s) (h : step P S n ops o s = some s1) : WF s1 := by
  obtain ⟨r, hr, _, rfl⟩ := step_inv h
  exact apply_wf wf (stepOut_spec hc wf hr)
theorem allowed_spec {a b : Nat} (h : allowed a b = true) : (a ≠ 4 ∧ b ≠ 4) ∧ (a = 3 → b = 0) ∧ (b = 3 → a = 0) := by
  unfold allowed at h
  split at h <;> simp at h ⊢
theorem ag_apply (sp : Spec S s o r) (hf : s.fresh r.news = true) (h3 : cls S o.op ≠ 3) : Ag s.heap (s.apply o.dst r).heap := by
  intro id hid
  rw [heap_apply sp.drop, sp.upd h3]
  cases hl : lk r.news id with
  | none => rfl
  | some c =>
    obtain ⟨p, hp, e, _⟩ := lk_mem hl
    rw [← e, fresh_iff.1 hf p hp] at hid
    cases hid
def readsB (o : Oper) : Bool := match o.op with
  | .indexAddr .. => true
  | .call c => match c.callee with
    | .builtin .len => true
    | _ => false
  | _ => false
/-- A call that writes, and what reads another variable or a list's length. -/
def callsB (S : Sums) (o q : Oper) : Bool := isSrc S o && (loadAt q || readsB q)
/-- Two stores whose order is drawn go to different variables. -/
def storesB (ops : List Oper) (o q : Oper) : Bool := match storeAt o, storeAt q with
  | some x, some y => !(Nat.beq x y) && (crowded ops o && crowded ops q)
  | _, _ => false
theorem storesB_ok (h : storesB ops o q = true) : ∃ x y, storeAt o = some x ∧ storeAt q = some y ∧ x ≠ y ∧ crowded ops o = true ∧ crowded ops q = true := by
  unfold storesB at h
  split at h
  · rename_i x y hx hy
    simp only [Bool.and_eq_true, Bool.not_eq_true'] at h
    refine ⟨x, y, hx, hy, ?_, h.2.1, h.2.2⟩
    rintro rfl
    have := h.1
    rw [Nat.beq_refl] at this
    cases this
  · cases h
theorem storeAt_op {x : Nat} (hx : storeAt o = some x) : (∃ t y, o.op = .store t (.tmp x) y) ∨ ∃ t, o.op = .load t (.tmp x) := storeAt_op' hx
theorem storeAt_cls {x : Nat} (hx : storeAt o = some x) : cls S o.op = 3 ∨ cls S o.op = 2 := by
  rcases storeAt_op hx with ⟨_, _, e⟩ | ⟨_, e⟩ <;> rw [e]
  · exact .inl rfl
  · exact .inr rfl
theorem stepOut_home {x : Nat} (hx : storeAt o = some x) (hc : crowded ops o = true) (h : stepOut P S n ops o s = some r) :
    r.news = [] ∧ (∀ u, r.upd = some u → u.1 = 4 * x) ∧ ∀ s' : FSt, (∀ t ∈ o.looksAt ops.toArray, s'.slot t = s.slot t) → s'.heap (4 * x) = s.heap (4 * x) → stepOut P S n ops o s' = some r := by
  have ho := storeAt_op hx
  have hw' : ∀ s' : FSt, (∀ t ∈ o.looksAt ops.toArray, s'.slot t = s.slot t) → wantedB ops s' o = wantedB ops s o := fun s' hs => wantedB_ag fun j w hg q d hq hd => hs d (looks_guard hg hq hd)
  unfold stepOut at h
  split at h
  · cases h
  · rename_i w hw
    split at h
    · rename_i hd
      split at h
      · rename_i hwt
        split at h
        · cases h
        · rename_i r' hr'
          split at h
          · rename_i hk
            simp only [Option.some.injEq] at h; subst h
            have hh := (chkH_ok hk).2
            unfold homeB at hh
            rw [hx] at hh
            dsimp only at hh
            rw [hc, Bool.and_eq_true] at hh
            replace hh := hh.1
            simp only [cond_true] at hh
            obtain ⟨off, hs⟩ : ∃ off, s.ev (.tmp x) = .ptr (4 * x) off := by
              split at hh
              · rename_i i off hsl
                obtain rfl := Nat.eq_of_beq_eq_true hh
                exact ⟨off, hsl⟩
              · cases hh
            have key : ∀ s' : FSt, (∀ t ∈ o.looksAt ops.toArray, s'.slot t = s.slot t) → s'.heap (4 * x) = s.heap (4 * x) → opOut P S s' o = opOut P S s o := by
              intro s' hs' hq
              have hev : ∀ z ∈ o.op.operands.toList, s'.ev z = s.ev z := fun z hz => ev_ag fun t ht => hs' t (looks_op (by rw [← ht]; exact hz))
              rcases ho with ⟨t, y, ho⟩ | ⟨t, ho⟩
              rotate_left
              · rw [ho] at hev
                have e1 := hev (.tmp x) (by simp [Op.operands])
                unfold opOut
                rw [ho]
                dsimp only
                rw [e1, hs]
                cases semOnly P (isAgg t) with
                | none => rfl
                | some ga =>
                  cases semOnly P (sizeOf t) with
                  | none => rfl
                  | some sz =>
                    show ld s'.heap ga sz (4 * x) off = ld s.heap ga sz (4 * x) off
                    unfold ld
                    rw [hq]
              rw [ho] at hev
              have e1 := hev (.tmp x) (by simp [Op.operands])
              have e2 := hev y (by simp [Op.operands])
              unfold opOut
              rw [ho]
              dsimp only
              rw [e1, e2, hs]
              cases o.dst with
              | some _ => rfl
              | none =>
                cases semOnly P (sizeOf t) with
                | none => rfl
                | some sz =>
                  show st s'.heap sz (4 * x) off (s.ev y) = st s.heap sz (4 * x) off (s.ev y)
                  unfold st
                  rw [hq]
            have form : r'.news = [] ∧ ∀ u, r'.upd = some u → u.1 = 4 * x := by
              rcases ho with ⟨t, y, ho⟩ | ⟨t, ho⟩
              rotate_left
              · unfold opOut at hr'
                rw [ho] at hr'
                dsimp only at hr'
                rw [hs] at hr'
                split at hr'
                · unfold ld at hr'
                  repeat' split at hr'
                  all_goals first
                    | (simp only [Option.some.injEq] at hr'; subst hr'; exact ⟨rfl, fun u hu => by cases hu⟩)
                    | cases hr'
                · cases hr'
              unfold opOut at hr'
              rw [ho] at hr'
              dsimp only at hr'
              rw [hs] at hr'
              split at hr'
              · cases hr'
              · (try dsimp only at hr')
                split at hr'
                · rename_i e1 e2
                  simp only [SV.ptr.injEq] at e1
                  obtain ⟨rfl, rfl⟩ := e1
                  unfold st at hr'
                  repeat' split at hr'
                  all_goals first
                    | (simp only [Option.some.injEq] at hr'; subst hr'; exact ⟨rfl, fun u hu => by simp only [Option.some.injEq] at hu; subst hu; rfl⟩)
                    | cases hr'
                · cases hr'
            refine ⟨form.1, form.2, fun s' hs' hq => ?_⟩
            · unfold stepOut
              rw [hw' s' hs', hw]
              dsimp only
              rw [if_pos hd, if_pos hwt, key s' hs' hq, hr']
              dsimp only
              have hB : homeB P S ops o s' = homeB P S ops o s := by
                have hs0 : s.slot x = .ptr (4 * x) off := hs
                unfold homeB
                rw [hx]
                dsimp only
                rw [at_slot hx hs', hs0]
                dsimp only
                rw [hq]
              unfold chkH at hk ⊢
              rw [hB, if_pos hk]
          · cases h
      · rename_i hwt
        simp only [Option.some.injEq] at h; subst h
        refine ⟨rfl, fun u hu => (by cases hu), fun s' hs' hq => ?_⟩
        unfold stepOut
        rw [hw' s' hs', hw]
        dsimp only
        rw [if_pos hd, if_neg hwt]
    · cases h
theorem loadAt_at (h : loadAt o = true) : ∃ t x, o.op = .load t (.tmp x) := by
  unfold loadAt at h
  split at h
  · rename_i t x ho
    exact ⟨t, x, ho⟩
  · cases h
theorem callsB_ok (h : callsB S o q = true) : isSrc S o = true ∧ (∃ x, srcOf S o = some x) ∧ cls S o.op = 3 ∧ (loadAt q = true ∨ readsB q = true) ∧ cls S q.op = 2 := by
  unfold callsB at h
  simp only [Bool.and_eq_true, Bool.or_eq_true] at h
  obtain ⟨h1, h2⟩ := h
  have hq : cls S q.op = 2 := by
    rcases h2 with h2 | h2
    · obtain ⟨t, x, e⟩ := loadAt_at h2
      rw [e]; rfl
    · unfold readsB at h2
      split at h2
      · rename_i e; rw [e]; rfl
      · rename_i c e
        split at h2
        · rename_i e2; rw [e]; simp [cls, e2]
        · cases h2
      · cases h2
  have h1' := h1
  unfold isSrc at h1'
  cases hx : srcOf S o with
  | none => rw [hx] at h1'; cases h1'
  | some x =>
    obtain ⟨c, f, run, ho, hf, hm, _⟩ := srcOf_op hx
    exact ⟨h1, ⟨x, rfl⟩, by rw [ho]; simp [cls, hf, hm], h2, hq⟩
/-- Blocks that differ only in variables of one type. -/
def Ub (e : TypeId) (H H' : Nat → Option Blk) : Prop := ∀ j, H' j = H j ∨ ∃ c c', H j = some (.box e c) ∧ H' j = some (.box e c')
theorem Ub.symm {e : TypeId} {H H' : Nat → Option Blk} (h : Ub e H H') : Ub e H' H := fun j => by
  rcases h j with h | ⟨c, c', h1, h2⟩
  · exact .inl h.symm
  · exact .inr ⟨c', c, h2, h1⟩
theorem stepOut_src {x : Operand} (hx : srcOf S o = some x) (h : stepOut P S n ops o s = some r) : r.news = [] ∧ (r.upd = none ∨ ∃ e id c c', srcTy P o = some e ∧ s.heap id = some (.box e c) ∧ r.upd = some (id, .box e c')) := by
  obtain ⟨c, f, run, ho, hf, hm, hh⟩ := srcOf_op hx
  unfold stepOut at h
  split at h
  · cases h
  · split at h
    · split at h
      · split at h
        · cases h
        · rename_i r' hr'
          split at h
          · rename_i hk
            simp only [Option.some.injEq] at h; subst h
            have hb := (chkH_ok hk).2
            unfold homeB at hb
            have hst : storeAt o = none := by unfold storeAt; rw [ho]
            rw [hst, hx] at hb
            dsimp only at hb
            unfold opOut at hr'
            rw [ho] at hr'
            dsimp only at hr'
            rw [hf] at hr'
            dsimp only at hr'
            rw [hm] at hr'
            have hr' : boxOut s run (c.args.toList.map s.ev) = _ := hr'
            cases hl : c.args.toList with
            | nil => rw [hl] at hh; cases hh
            | cons x' xs =>
              rw [hl] at hh hr'
              simp only [List.head?_cons, Option.some.injEq] at hh
              subst hh
              simp only [List.map_cons] at hr'
              unfold boxOut at hr'
              split at hr'
              · rename_i id xs' e1
                simp only [List.cons.injEq] at e1
                rw [e1.1] at hb
                dsimp only at hb
                split at hr'
                · rename_i e cells hbx
                  rw [hbx] at hb
                  split at hr'
                  · split at hr'
                    · split at hr'
                      · simp only [Option.some.injEq] at hr'; subst hr'
                        refine ⟨rfl, .inr ⟨e, id, cells, _, ?_, hbx, rfl⟩⟩
                        cases hty : srcTy P o with
                        | none => rw [hty] at hb; cases hb
                        | some e' =>
                          rw [hty] at hb
                          dsimp only at hb
                          rw [Nat.eq_of_beq_eq_true hb]
                      · cases hr'
                    · cases hr'
                  · cases hr'
                · cases hr'
              · cases hr'
          · cases h
      · simp only [Option.some.injEq] at h; subst h
        exact ⟨rfl, .inl rfl⟩
    · cases h
theorem src_ub {x : Operand} (hx : srcOf S o = some x) (h : stepOut P S n ops o s = some r) (hd : r.drop = none) : r.upd = none ∧ (∀ d, (s.apply d r).heap = s.heap) ∨ ∃ e, srcTy P o = some e ∧ ∀ d, Ub e s.heap (s.apply d r).heap := by
  obtain ⟨hn, hu⟩ := stepOut_src hx h
  rcases hu with hu | ⟨e, id, c, c', hty, hb, hu⟩
  · refine .inl ⟨hu, fun d => funext fun j => ?_⟩
    rw [heap_apply hd, hu, hn]
    rfl
  · refine .inr ⟨e, hty, fun d j => ?_⟩
    rw [heap_apply hd, hu, hn]
    simp only [ul, lk]
    by_cases ej : j = id
    · subst ej
      rw [if_pos rfl]
      exact .inr ⟨c, c', hb, rfl⟩
    · rw [if_neg ej]
      exact .inl rfl
theorem stepOut_far {e : TypeId} (hom : o ∈ ops) (ho : isSrc S o = true) (hty : srcTy P o = some e) (hk : loadAt q = true ∨ readsB q = true) (hs : ∀ t ∈ q.looksAt ops.toArray, s'.slot t = s.slot t) (hu : Ub e s.heap s'.heap) (h : stepOut P S n ops q s = some r) : stepOut P S n ops q s' = some r := by
  have hw' : wantedB ops s' q = wantedB ops s q := wantedB_ag fun j w hg q d hq hd => hs d (looks_guard hg hq hd)
  have hany : ops.any (isSrc S) = true := List.any_eq_true.2 ⟨o, hom, ho⟩
  unfold stepOut at h ⊢
  rw [hw']
  split at h
  · cases h
  · rename_i w hw
    try dsimp only
    split at h
    · rename_i hd
      try rw [if_pos hd]
      split at h
      · rename_i hwt
        try rw [if_pos hwt]
        split at h
        · cases h
        · rename_i r' hr'
          split at h
          · rename_i hkk
            simp only [Option.some.injEq] at h; subst h
            have hev : ∀ z ∈ q.op.operands.toList, s'.ev z = s.ev z := fun z hz => ev_ag fun t ht => hs t (looks_op (by rw [← ht]; exact hz))
            rcases hk with hk | hk
            · obtain ⟨t, x, hq⟩ := loadAt_at hk
              have hx : storeAt q = some x := by unfold storeAt; rw [hq]
              have hb := (chkH_ok hkk).2
              unfold homeB at hb
              rw [hx] at hb
              dsimp only at hb
              rw [hk, hany, Bool.and_eq_true] at hb
              replace hb := hb.2
              simp only [Bool.true_and, cond_true] at hb
              obtain ⟨i, off, hsl, hi⟩ : ∃ i off, s.slot x = .ptr i off ∧ s'.heap i = s.heap i := by
                split at hb
                · rename_i i off hsl
                  refine ⟨i, off, hsl, ?_⟩
                  rcases hu i with h | ⟨c, c', h1, h2⟩
                  · exact h
                  · rw [h1] at hb
                    dsimp only at hb
                    have := List.all_eq_true.1 hb o hom
                    rw [ho, hty] at this
                    simp at this
                · cases hb
              have e0 : s'.slot x = s.slot x := at_slot hx hs
              have hop : opOut P S s' q = opOut P S s q := by
                unfold opOut
                rw [hq]
                dsimp only
                rw [show s'.ev (.tmp x) = s.ev (.tmp x) from e0, show s.ev (.tmp x) = .ptr i off from hsl]
                cases semOnly P (isAgg t) with
                | none => rfl
                | some ga =>
                  cases semOnly P (sizeOf t) with
                  | none => rfl
                  | some sz =>
                    show ld s'.heap ga sz i off = ld s.heap ga sz i off
                    unfold ld
                    rw [hi]
              have hB : homeB P S ops q s' = homeB P S ops q s := by
                unfold homeB
                rw [hx]
                dsimp only
                rw [e0, hsl]
                dsimp only
                rw [hi]
              rw [hop, hr']
              dsimp only
              unfold chkH at hkk ⊢
              rw [hB, if_pos hkk]
            · have hop : opOut P S s' q = opOut P S s q ∧ storeAt q = none ∧ srcOf S q = none := by
                unfold readsB at hk
                split at hk
                · rename_i t x i hq
                  refine ⟨?_, by unfold storeAt; rw [hq], by unfold srcOf; rw [hq]⟩
                  rw [hq] at hev
                  unfold opOut
                  rw [hq]
                  dsimp only
                  rw [hev x (by simp [Op.operands]), hev i (by simp [Op.operands])]
                  generalize s.ev x = X
                  generalize s.ev i = I
                  generalize P.underlying t = D
                  cases X <;> try rfl
                  all_goals
                    cases I <;> try rfl
                    rename_i v
                    cases v <;> try rfl
                    cases D <;> try rfl
                    rename_i d
                    cases d <;> try rfl
                  rename_i id _ _ _
                  simp only
                  rcases hu id with h | ⟨c, c', h1, h2⟩
                  · rw [h]
                  · rw [h1, h2]
                · rename_i c hq
                  split at hk
                  · rename_i hcc
                    refine ⟨?_, by unfold storeAt; rw [hq], by unfold srcOf; rw [hq]; simp only; rw [hcc]⟩
                    rw [hq] at hev
                    have hargs : ∀ x ∈ c.args.toList, s'.ev x = s.ev x := fun x hx => hev x (by simp only [Op.operands, Call.operands]; simp; exact .inr (by simpa using hx))
                    have hmap : c.args.toList.map s'.ev = c.args.toList.map s.ev := List.map_congr_left hargs
                    unfold opOut
                    rw [hq]
                    dsimp only
                    rw [hcc]
                    dsimp only
                    rw [hmap]
                    generalize c.argTypes.toList = ts
                    generalize c.args.toList.map s.ev = xs
                    match xs, ts with
                    | [], _ => rfl
                    | X :: Y :: l, ts => cases X with
                      | val v => cases v <;> rfl
                      | _ => rfl
                    | [X], [] => cases X with
                      | val v => cases v <;> rfl
                      | _ => rfl
                    | [X], t :: u :: ts => cases X with
                      | val v => cases v <;> rfl
                      | _ => rfl
                    | [X], [t] => cases X with
                      | val v => cases v <;> rfl
                      | row id =>
                        simp only
                        rcases hu id with h | ⟨c, c', h1, h2⟩
                        · rw [h]
                        · rw [h1, h2]
                      | _ => rfl
                  · cases hk
                · cases hk
              obtain ⟨hop, hst, hsr⟩ := hop
              rw [hop, hr']
              dsimp only
              have hB : ∀ s : FSt, homeB P S ops q s = true := fun s => by
                unfold homeB
                rw [hst, hsr]
              unfold chkH at hkk ⊢
              rw [hB] at hkk ⊢
              rw [if_pos hkk]
          · cases h
      · rename_i hwt
        rw [if_neg hwt]
        exact h
    · cases h
theorem step_comm (hom : o ∈ ops) (hqm : q ∈ ops) (wf : WF s) (hap : o.apart ops.toArray q = true) (hal : allowed (cls S o.op) (cls S q.op) = true ∨ storesB ops o q = true ∨ callsB S o q = true ∨ callsB S q o = true) (h1 : step P S n ops o s = some s1) (h2 : step P S n ops q s1 = some s2) :
    ∃ s3, step P S n ops q s = some s3 ∧ step P S n ops o s3 = some s2 := by
  obtain ⟨a1, a2, a3⟩ := Oper.apart_spec hap
  have hcls : cls S o.op ≠ 4 ∧ cls S q.op ≠ 4 := by
    rcases hal with hal | hal | hal | hal
    · exact (allowed_spec hal).1
    · obtain ⟨x, y, hx, hy, _⟩ := storesB_ok hal
      have e1 := storeAt_cls (S := S) hx
      have e2 := storeAt_cls (S := S) hy
      exact ⟨by omega, by omega⟩
    · obtain ⟨_, _, e1, _, e2⟩ := callsB_ok hal
      exact ⟨by omega, by omega⟩
    · obtain ⟨_, _, e1, _, e2⟩ := callsB_ok hal
      exact ⟨by omega, by omega⟩
  obtain ⟨hco, hcq⟩ := hcls
  obtain ⟨ro, ho, fo, rfl⟩ := step_inv h1
  have spo := stepOut_spec hco wf ho
  obtain ⟨rq, hq, fq, rfl⟩ := step_inv h2
  have hq' : stepOut P S n ops q s = some rq := by
    have hsl : ∀ t ∈ q.looksAt ops.toArray, (s.apply o.dst ro).slot t = s.slot t := fun t ht => by
      rw [slot_apply spo.drop, if_neg]
      intro e
      exact a1 t e ht
    rcases hal with hal | hal | hal | hal
    rotate_left 2
    · obtain ⟨hs0, ⟨x, hx⟩, e1, hk, e2⟩ := callsB_ok hal
      rcases src_ub hx ho spo.drop with ⟨_, hh⟩ | ⟨e, hty, hub⟩
      · rw [← hq]
        exact (stepOut_ag hsl (.inr ⟨fun id hid => by rw [hh], wf⟩) hcq).symm
      · exact stepOut_far hom hs0 hty hk (fun t ht => (hsl t ht).symm) (hub o.dst).symm hq
    · obtain ⟨hs0, ⟨x, hx⟩, e1, hk, e2⟩ := callsB_ok hal
      rw [← hq]
      exact (stepOut_ag hsl (.inr ⟨ag_apply spo fo (by omega), wf⟩) hcq).symm
    · rw [← hq]
      refine (stepOut_ag hsl ?_ hcq).symm
      by_cases h0 : cls S q.op = 0
      · exact .inl h0
      · refine .inr ⟨ag_apply spo fo ?_, wf⟩
        intro h3
        exact h0 ((allowed_spec hal).2.1 h3)
    · obtain ⟨x, y, hx, hy, hne, hcx, hcy⟩ := storesB_ok hal
      have hn : ro.news = [] := (stepOut_home hx hcx ho).1
      refine (stepOut_home hy hcy hq).2.2 s (fun t ht => (hsl t ht).symm) ?_
      rw [heap_apply spo.drop]
      have hu : ul ro.upd (4 * y) = none := by
        cases hup : ro.upd with
        | none => rfl
        | some u =>
          have := (stepOut_home hx hcx ho).2.1 u hup
          obtain ⟨i, b⟩ := u
          simp only [ul]
          rw [if_neg]
          intro e
          dsimp only at this
          omega
      rw [hu, hn]
      rfl
  have spq := stepOut_spec hcq wf hq'
  have live1 : ∀ id, (s.heap id).isSome = true → ((s.apply o.dst ro).heap id).isSome = true := by
    intro id hid
    rw [heap_apply spo.drop]
    cases ul ro.upd id with
    | some c => rfl
    | none => cases lk ro.news id with
      | some c => rfl
      | none => exact hid
  have fq' : s.fresh rq.news = true := fresh_iff.2 fun p hp => by
    have := fresh_iff.1 fq p hp
    cases hs : s.heap p.1 with
    | none => rfl
    | some b =>
      have := live1 p.1 (live_some hs)
      rw [fresh_iff.1 fq p hp] at this
      cases this
  have hdisj : ∀ p ∈ ro.news, ∀ p' ∈ rq.news, p.1 ≠ p'.1 := by
    intro p hp p' hp' e
    obtain ⟨d, j, hd, hj, e1⟩ := spo.ids p hp
    obtain ⟨d', j', hd', hj', e2⟩ := spq.ids p' hp'
    rw [e1, e2] at e
    have : d = d' := Nat.le_antisymm (by omega) (by omega)
    subst this
    exact a2 d hd hd'
  have ho' : stepOut P S n ops o (s.apply q.dst rq) = some ro := by
    have hsl : ∀ t ∈ o.looksAt ops.toArray, (s.apply q.dst rq).slot t = s.slot t := fun t ht => by
      rw [slot_apply spq.drop, if_neg]
      intro e
      exact a3 t e ht
    rcases hal with hal | hal | hal | hal
    rotate_left 2
    · obtain ⟨hs0, ⟨x, hx⟩, e1, hk, e2⟩ := callsB_ok hal
      rw [← ho]
      exact stepOut_ag hsl (.inr ⟨ag_apply spq fq' (by omega), wf⟩) hco
    · obtain ⟨hs0, ⟨x, hx⟩, e1, hk, e2⟩ := callsB_ok hal
      rcases src_ub hx hq' spq.drop with ⟨_, hh⟩ | ⟨e, hty, hub⟩
      · rw [← ho]
        exact stepOut_ag hsl (.inr ⟨fun id hid => by rw [hh], wf⟩) hco
      · exact stepOut_far hqm hs0 hty hk hsl (hub q.dst) ho
    · rw [← ho]
      refine stepOut_ag hsl ?_ hco
      by_cases h0 : cls S o.op = 0
      · exact .inl h0
      · refine .inr ⟨ag_apply spq fq' ?_, wf⟩
        intro h3
        exact h0 ((allowed_spec hal).2.2 h3)
    · obtain ⟨x, y, hx, hy, hne, hcx, hcy⟩ := storesB_ok hal
      have hn : rq.news = [] := (stepOut_home hy hcy hq').1
      refine (stepOut_home hx hcx ho).2.2 _ hsl ?_
      rw [heap_apply spq.drop]
      have hu : ul rq.upd (4 * x) = none := by
        cases hup : rq.upd with
        | none => rfl
        | some u =>
          have := (stepOut_home hy hcy hq').2.1 u hup
          obtain ⟨i, b⟩ := u
          simp only [ul]
          rw [if_neg]
          intro e
          dsimp only at this
          omega
      rw [hu, hn]
      rfl
  have fo' : (s.apply q.dst rq).fresh ro.news = true := fresh_iff.2 fun p hp => by
    rw [heap_apply spq.drop]
    have hs := fresh_iff.1 fo p hp
    have hu : ul rq.upd p.1 = none := by
      cases hup : rq.upd with
      | none => rfl
      | some u =>
        obtain ⟨i, b⟩ := u
        simp only [ul]
        rw [if_neg]
        intro e
        have := spq.live _ hup
        rw [← e, hs] at this
        cases this
    have hl : lk rq.news p.1 = none := by
      cases hl : lk rq.news p.1 with
      | none => rfl
      | some c =>
        obtain ⟨p', hp', e, _⟩ := lk_mem hl
        exact absurd e.symm (hdisj p hp p' hp')
    rw [hu, hl]
    exact hs
  refine ⟨_, step_mk hq' fq', ?_⟩
  rw [step_mk ho' fo']
  congr 1
  have hheap : ((s.apply q.dst rq).apply o.dst ro).heap = ((s.apply o.dst ro).apply q.dst rq).heap := by
    funext x
    rw [heap_apply spo.drop, heap_apply spq.drop, heap_apply spq.drop, heap_apply spo.drop]
    have hone : ∀ (u : Option (Nat × Blk)) (l : List (Nat × Blk)) (c : Blk), (∀ v, u = some v → (s.heap v.1).isSome = true) → s.fresh l = true → ul u x = some c → lk l x = none := by
      intro u l c hu hf hc
      cases hl : lk l x with
      | none => rfl
      | some c' =>
        obtain ⟨p, hp, e, _⟩ := lk_mem hl
        cases u with
        | none => cases hc
        | some v =>
          obtain ⟨i, b⟩ := v
          simp only [ul] at hc
          split at hc
          · rename_i e'
            have := hu _ rfl
            rw [← e', ← e, fresh_iff.1 hf p hp] at this
            cases this
          · cases hc
    have hups : ul ro.upd x = none ∨ ul rq.upd x = none := by
      rcases hal with hal | hal | hal | hal
      rotate_left 2
      · obtain ⟨_, _, e1, _, e2⟩ := callsB_ok hal
        right
        rw [spq.upd (by omega)]
        rfl
      · obtain ⟨_, _, e1, _, e2⟩ := callsB_ok hal
        left
        rw [spo.upd (by omega)]
        rfl
      rotate_left
      · obtain ⟨x1, y1, hx1, hy1, hne, hcx, hcy⟩ := storesB_ok hal
        cases huo : ro.upd with
        | none => exact .inl rfl
        | some u =>
          cases huq : rq.upd with
          | none => exact .inr rfl
          | some v =>
            have e1 := (stepOut_home hx1 hcx ho).2.1 u huo
            have e2 := (stepOut_home hy1 hcy hq').2.1 v huq
            obtain ⟨i, b⟩ := u
            obtain ⟨j, c⟩ := v
            dsimp only at e1 e2
            by_cases e : x = i
            · right
              simp only [ul]
              rw [if_neg]
              omega
            · left
              simp only [ul]
              rw [if_neg e]
      by_cases h3 : cls S o.op = 3
      · right
        have : cls S q.op ≠ 3 := by
          intro h
          rw [h3, h] at hal
          cases hal
        rw [spq.upd this]
        rfl
      · left
        rw [spo.upd h3]
        rfl
    cases huo : ul ro.upd x with
    | some c =>
      have huq := hups.resolve_left (by rw [huo]; simp)
      rw [huq, hone _ _ c spo.live fq' huo]
    | none =>
      cases huq : ul rq.upd x with
      | some c =>
        rw [hone _ _ c spq.live fo huq]
      | none =>
        cases hlo : lk ro.news x with
        | none => cases lk rq.news x <;> rfl
        | some c =>
          cases hlq : lk rq.news x with
          | none => rfl
          | some c' =>
            obtain ⟨p, hp, e, _⟩ := lk_mem hlo
            obtain ⟨p', hp', e', _⟩ := lk_mem hlq
            exact absurd (e.trans e'.symm) (hdisj p hp p' hp')
  have hslot : ((s.apply q.dst rq).apply o.dst ro).slot = ((s.apply o.dst ro).apply q.dst rq).slot := by
    funext t
    rw [slot_apply spo.drop, slot_apply spq.drop, slot_apply spq.drop, slot_apply spo.drop]
    by_cases e1 : o.dst = some t
    · rw [if_pos e1, if_neg (a2 t e1), if_pos e1]
    · rw [if_neg e1]
      by_cases e2 : q.dst = some t
      · rw [if_pos e2, if_pos e2]
      · rw [if_neg e2, if_neg e2, if_neg e1]
  cases hA : (s.apply q.dst rq).apply o.dst ro
  cases hB : (s.apply o.dst ro).apply q.dst rq
  rw [hA, hB] at hheap hslot
  simp only at hheap hslot
  rw [hheap, hslot]
end

end Go.Proofs.Ytnijajjdldijpaa
