import Derived.Test.YtjpckmpeahinkaaDd
set_option linter.unusedSimpArgs false
set_option linter.unusedVariables false
namespace Go.Proofs.Ytjpckmpeahinkaa
open Go.RowKit
/-! Two operations that do not meet may change places. -/
def lk : List (Nat × Blk) → Nat → Option Blk
  | [], _ => none
  | (i, b) :: l, x => match lk l x with | some c => some c | none => if x = i then some b else none
def ul : Option (Nat × Blk) → Nat → Option Blk
  | none, _ => none
  | some (i, b), x => if x = i then some b else none
section
variable {P : Program} {S : Sums} {n : Nat} {s s' s1 s2 : FSt} {H H' : Nat → Option Blk} {o q : Oper} {r : Out} {ops : List Oper}
theorem heap_set (i : Nat) (b : Blk) (x : Nat) : (s.set i b).heap x = if x = i then some b else s.heap x := by
  show (bif Nat.beq x i then some b else s.heap x) = _
  by_cases e : x = i
  · subst e; simp
  · rw [nbeq e, if_neg e]; rfl
theorem heap_news : ∀ (l : List (Nat × Blk)) (s : FSt) (x : Nat), (s.news l).heap x = match lk l x with | some c => some c | none => s.heap x
  | [], s, x => rfl
  | (i, b) :: l, s, x => by
    show ((s.set i b).news l).heap x = _
    rw [heap_news l]
    simp only [lk]
    cases lk l x with
    | some c => rfl
    | none =>
      simp only
      rw [heap_set]
      split <;> rfl
theorem slot_news : ∀ (l : List (Nat × Blk)) (s : FSt), (s.news l).slot = s.slot
  | [], s => rfl
  | (i, b) :: l, s => slot_news l (s.set i b)
theorem heap_upd (u : Option (Nat × Blk)) (s : FSt) (x : Nat) : (s.upd u).heap x = match ul u x with | some c => some c | none => s.heap x := by
  cases u with
  | none => rfl
  | some p =>
    obtain ⟨i, b⟩ := p
    show (s.set i b).heap x = _
    rw [heap_set]
    simp only [ul]
    split <;> rfl
theorem slot_upd (u : Option (Nat × Blk)) (s : FSt) : (s.upd u).slot = s.slot := by cases u <;> rfl
theorem heap_put (d : Option Nat) (v : SV) : (s.put d v).heap = s.heap := by cases d <;> rfl
theorem slot_put (d : Option Nat) (v : SV) (t : Nat) : (s.put d v).slot t = if d = some t then v else s.slot t := by
  cases d with
  | none => rfl
  | some d =>
    show (bif Nat.beq t d then v else s.slot t) = _
    by_cases e : t = d
    · subst e; simp
    · rw [nbeq e, if_neg (by simp; exact fun h => e h.symm)]; rfl
theorem heap_apply (hr : r.drop = none) (d : Option Nat) (x : Nat) : (s.apply d r).heap x = match ul r.upd x with | some c => some c | none => match lk r.news x with | some c => some c | none => s.heap x := by
  unfold FSt.apply
  rw [hr, heap_put, heap_upd, heap_news]
  rfl
theorem slot_apply (hr : r.drop = none) (d : Option Nat) (t : Nat) : (s.apply d r).slot t = if d = some t then r.v else s.slot t := by
  unfold FSt.apply
  rw [hr, slot_put, slot_upd, slot_news]
  rfl
theorem lk_mem : ∀ {l : List (Nat × Blk)} {x : Nat} {c : Blk}, lk l x = some c → ∃ p ∈ l, p.1 = x ∧ p.2 = c
  | (i, b) :: l, x, c, h => by
    simp only [lk] at h
    split at h
    · rename_i c' hc
      obtain ⟨p, hp, e⟩ := lk_mem hc
      exact ⟨p, by simp [hp], by rw [e.1]; exact ⟨rfl, by simpa [e.2] using h⟩⟩
    · split at h
      · rename_i e
        exact ⟨(i, b), by simp, e.symm, by simpa using h⟩
      · cases h
theorem fresh_iff : ∀ {l : List (Nat × Blk)}, s.fresh l = true ↔ ∀ p ∈ l, s.heap p.1 = none
  | [] => by simp [FSt.fresh]
  | (i, b) :: l => by
    simp only [FSt.fresh]
    cases h : s.heap i with
    | some c => simp [h]
    | none =>
      simp only [List.mem_cons, forall_eq_or_imp, h, true_and]
      exact fresh_iff
/-- Behind an operation a well-formed reading is well formed. -/
theorem apply_wf (wf : WF s) (sp : Spec S s o r) : WF (s.apply o.dst r) := by
  have hg : Grow s.heap (s.apply o.dst r).heap := by
    intro id hid
    rw [heap_apply sp.drop]
    cases ul r.upd id with
    | some c => rfl
    | none => cases lk r.news id with
      | some c => rfl
      | none => exact hid
  have hn : ∀ x ∈ r.news, ((s.apply o.dst r).heap x.1).isSome = true := by
    intro x hx
    rw [heap_apply sp.drop]
    cases ul r.upd x.1 with
    | some c => rfl
    | none =>
      have : ∃ c, lk r.news x.1 = some c := by
        clear sp hg
        generalize r.news = l at hx
        induction l with
        | nil => cases hx
        | cons p l ih =>
          simp only [lk]
          cases hl : lk l x.1 with
          | some c => exact ⟨c, rfl⟩
          | none =>
            rcases List.mem_cons.1 hx with rfl | hx
            · exact ⟨x.2, by simp⟩
            · obtain ⟨c, hc⟩ := ih hx
              rw [hl] at hc
              cases hc
      obtain ⟨c, hc⟩ := this
      rw [hc]
      rfl
  obtain ⟨k1, k2, k3⟩ := sp.ok _ hg hn
  refine ⟨fun t => ?_, fun id b hb => ?_⟩
  · rw [slot_apply sp.drop]
    split
    · exact k1
    · exact (wf.slots t).grow hg
  · rw [heap_apply sp.drop] at hb
    cases hu : ul r.upd id with
    | some c =>
      rw [hu] at hb
      simp only [Option.some.injEq] at hb; subst hb
      cases hup : r.upd with
      | none => rw [hup] at hu; cases hu
      | some p =>
        rw [hup] at hu
        simp only [ul] at hu
        split at hu
        · simp only [Option.some.injEq] at hu; subst hu
          exact k3 p hup
        · cases hu
    | none =>
      rw [hu] at hb
      cases hl : lk r.news id with
      | some c =>
        rw [hl] at hb
        simp only [Option.some.injEq] at hb; subst hb
        obtain ⟨p, hp, _, rfl⟩ := lk_mem hl
        exact k2 p hp
      | none =>
        rw [hl] at hb
        exact (wf.heap id b hb).grow hg
def allowed (a b : Nat) : Bool := match a, b with
  | 0, 0 | 0, 2 | 2, 0 | 2, 2 | 0, 3 | 3, 0 => true
  | _, _ => false
theorem wantedB_ag (h : ∀ j w, o.guard = some (j, w) → ∀ q d, ops[j]? = some q → q.dst = some d → s'.slot d = s.slot d) : wantedB ops s' o = wantedB ops s o := by
  unfold wantedB
  cases hg : o.guard with
  | none => rfl
  | some p =>
    obtain ⟨j, w⟩ := p
    dsimp only
    cases hq : ops[j]? with
    | none => rfl
    | some q =>
      dsimp only
      cases hd : q.dst with
      | none => rfl
      | some d =>
        dsimp only
        rw [h j w hg q d hq hd]
theorem ev_ag {x : Operand} (h : ∀ t, x = .tmp t → s'.slot t = s.slot t) : s'.ev x = s.ev x := by
  cases x with
  | tmp t => exact h t rfl
  | const v => rfl
  | global g => rfl
  | func f => rfl
theorem looks_op {t : Nat} {opsA : Array Oper} (h : .tmp t ∈ o.op.operands.toList) : t ∈ o.looksAt opsA := by
  unfold Oper.looksAt
  refine List.mem_append.2 (.inl (List.mem_filterMap.2 ⟨_, h, rfl⟩))
theorem looks_guard {j : Nat} {w : Bool} {d : Nat} (hg : o.guard = some (j, w)) (hq : ops[j]? = some q) (hd : q.dst = some d) : d ∈ o.looksAt ops.toArray := by
  unfold Oper.looksAt
  refine List.mem_append.2 (.inr ?_)
  rw [hg]
  simp [hq, hd]
/-- What an operation does, in a state that another has changed where it does not look. -/
theorem stepOut_ag (hs : ∀ t ∈ o.looksAt ops.toArray, s'.slot t = s.slot t) (h : cls S o.op = 0 ∨ (Ag s.heap s'.heap ∧ WF s)) (hc : cls S o.op ≠ 4) : stepOut P S n ops o s' = stepOut P S n ops o s := by
  unfold stepOut
  rw [wantedB_ag fun j w hg q d hq hd => hs d (looks_guard hg hq hd), opOut_ag (fun x hx => ev_ag fun t ht => hs t (looks_op (by rw [← ht]; exact hx))) h hc]
theorem stepOut_spec (hc : cls S o.op ≠ 4) (wf : WF s) (h : stepOut P S n ops o s = some r) : Spec S s o r := by
  unfold stepOut at h
  split at h
  · cases h
  · split at h
    · split at h
      · split at h
        · cases h
        · rename_i r' hr'
          split at h
          · simp only [Option.some.injEq] at h; subst h; exact opOut_spec hc wf hr'
          · cases h
      · simp only [Option.some.injEq] at h; subst h; exact spec_pure True.intro
    · cases h
theorem step_inv (h : step P S n ops o s = some s1) : ∃ r, stepOut P S n ops o s = some r ∧ s.fresh r.news = true ∧ s1 = s.apply o.dst r := by
  unfold step at h
  split at h
  · cases h
  · rename_i r hr
    split at h
    · rename_i hf
      simp only [Option.some.injEq] at h
      exact ⟨r, hr, hf, h.symm⟩
    · cases h
theorem step_mk (h : stepOut P S n ops o s = some r) (hf : s.fresh r.news = true) : step P S n ops o s = some (s.apply o.dst r) := by
  unfold step
  rw [h]
  simp only [hf, if_true]
theorem step_wf (hc : cls S o.op ≠ 4) (wf : WF s) (h : step P S n ops o s = some s1) : WF s1 := by
  obtain ⟨r, hr, _, rfl⟩ := step_inv h
  exact apply_wf wf (stepOut_spec hc wf hr)
theorem allowed_spec {a b : Nat} (h : allowed a b = true) : (a ≠ 4 ∧ b ≠ 4) ∧ (a = 3 → b = 0) ∧ (b = 3 → a = 0) := by
  unfold allowed at h
  split at h <;> simp at h ⊢
theorem ag_apply (sp : Spec S s o r) (hf : s.fresh r.news = true) (h3 : cls S o.op ≠ 3) : Ag s.heap (s.apply o.dst r).heap := by
  intro id hid
  rw [heap_apply sp.drop, sp.upd h3]
  cases hl : lk r.news id with
  | none => rfl
  | some c =>
    obtain ⟨p, hp, e, _⟩ := lk_mem hl
    rw [← e, fresh_iff.1 hf p hp] at hid
    cases hid
theorem step_comm (wf : WF s) (hap : o.apart ops.toArray q = true) (hal : allowed (cls S o.op) (cls S q.op) = true) (h1 : step P S n ops o s = some s1) (h2 : step P S n ops q s1 = some s2) :
    ∃ s3, step P S n ops q s = some s3 ∧ step P S n ops o s3 = some s2 := by
  obtain ⟨a1, a2, a3⟩ := Oper.apart_spec hap
  obtain ⟨⟨hco, hcq⟩, hal1, hal2⟩ := allowed_spec hal
  obtain ⟨ro, ho, fo, rfl⟩ := step_inv h1
  have spo := stepOut_spec hco wf ho
  obtain ⟨rq, hq, fq, rfl⟩ := step_inv h2
  have hq' : stepOut P S n ops q s = some rq := by
    rw [← hq]
    refine (stepOut_ag (fun t ht => ?_) ?_ hcq).symm
    · rw [slot_apply spo.drop, if_neg]
      intro e
      exact a1 t e ht
    · by_cases h0 : cls S q.op = 0
      · exact .inl h0
      · refine .inr ⟨ag_apply spo fo ?_, wf⟩
        intro h3
        exact h0 (hal1 h3)
  have spq := stepOut_spec hcq wf hq'
  have live1 : ∀ id, (s.heap id).isSome = true → ((s.apply o.dst ro).heap id).isSome = true := by
    intro id hid
    rw [heap_apply spo.drop]
    cases ul ro.upd id with
    | some c => rfl
    | none => cases lk ro.news id with
      | some c => rfl
      | none => exact hid
  have fq' : s.fresh rq.news = true := fresh_iff.2 fun p hp => by
    have := fresh_iff.1 fq p hp
    cases hs : s.heap p.1 with
    | none => rfl
    | some b =>
      have := live1 p.1 (live_some hs)
      rw [fresh_iff.1 fq p hp] at this
      cases this
  have hdisj : ∀ p ∈ ro.news, ∀ p' ∈ rq.news, p.1 ≠ p'.1 := by
    intro p hp p' hp' e
    obtain ⟨d, j, hd, hj, e1⟩ := spo.ids p hp
    obtain ⟨d', j', hd', hj', e2⟩ := spq.ids p' hp'
    rw [e1, e2] at e
    have : d = d' := Nat.le_antisymm (by omega) (by omega)
    subst this
    exact a2 d hd hd'
  have ho' : stepOut P S n ops o (s.apply q.dst rq) = some ro := by
    rw [← ho]
    refine stepOut_ag (fun t ht => ?_) ?_ hco
    · rw [slot_apply spq.drop, if_neg]
      intro e
      exact a3 t e ht
    · by_cases h0 : cls S o.op = 0
      · exact .inl h0
      · refine .inr ⟨ag_apply spq fq' ?_, wf⟩
        intro h3
        exact h0 (hal2 h3)
  have fo' : (s.apply q.dst rq).fresh ro.news = true := fresh_iff.2 fun p hp => by
    rw [heap_apply spq.drop]
    have hs := fresh_iff.1 fo p hp
    have hu : ul rq.upd p.1 = none := by
      cases hup : rq.upd with
      | none => rfl
      | some u =>
        obtain ⟨i, b⟩ := u
        simp only [ul]
        rw [if_neg]
        intro e
        have := spq.live _ hup
        rw [← e, hs] at this
        cases this
    have hl : lk rq.news p.1 = none := by
      cases hl : lk rq.news p.1 with
      | none => rfl
      | some c =>
        obtain ⟨p', hp', e, _⟩ := lk_mem hl
        exact absurd e.symm (hdisj p hp p' hp')
    rw [hu, hl]
    exact hs
  refine ⟨_, step_mk hq' fq', ?_⟩
  rw [step_mk ho' fo']
  congr 1
  have hheap : ((s.apply q.dst rq).apply o.dst ro).heap = ((s.apply o.dst ro).apply q.dst rq).heap := by
    funext x
    rw [heap_apply spo.drop, heap_apply spq.drop, heap_apply spq.drop, heap_apply spo.drop]
    have hone : ∀ (u : Option (Nat × Blk)) (l : List (Nat × Blk)) (c : Blk), (∀ v, u = some v → (s.heap v.1).isSome = true) → s.fresh l = true → ul u x = some c → lk l x = none := by
      intro u l c hu hf hc
      cases hl : lk l x with
      | none => rfl
      | some c' =>
        obtain ⟨p, hp, e, _⟩ := lk_mem hl
        cases u with
        | none => cases hc
        | some v =>
          obtain ⟨i, b⟩ := v
          simp only [ul] at hc
          split at hc
          · rename_i e'
            have := hu _ rfl
            rw [← e', ← e, fresh_iff.1 hf p hp] at this
            cases this
          · cases hc
    have hups : ul ro.upd x = none ∨ ul rq.upd x = none := by
      by_cases h3 : cls S o.op = 3
      · right
        have : cls S q.op ≠ 3 := by
          intro h
          rw [h3, h] at hal
          cases hal
        rw [spq.upd this]
        rfl
      · left
        rw [spo.upd h3]
        rfl
    cases huo : ul ro.upd x with
    | some c =>
      have huq := hups.resolve_left (by rw [huo]; simp)
      rw [huq, hone _ _ c spo.live fq' huo]
    | none =>
      cases huq : ul rq.upd x with
      | some c =>
        rw [hone _ _ c spq.live fo huq]
      | none =>
        cases hlo : lk ro.news x with
        | none => cases lk rq.news x <;> rfl
        | some c =>
          cases hlq : lk rq.news x with
          | none => rfl
          | some c' =>
            obtain ⟨p, hp, e, _⟩ := lk_mem hlo
            obtain ⟨p', hp', e', _⟩ := lk_mem hlq
            exact absurd (e.trans e'.symm) (hdisj p hp p' hp')
  have hslot : ((s.apply q.dst rq).apply o.dst ro).slot = ((s.apply o.dst ro).apply q.dst rq).slot := by
    funext t
    rw [slot_apply spo.drop, slot_apply spq.drop, slot_apply spq.drop, slot_apply spo.drop]
    by_cases e1 : o.dst = some t
    · rw [if_pos e1, if_neg (a2 t e1), if_pos e1]
    · rw [if_neg e1]
      by_cases e2 : q.dst = some t
      · rw [if_pos e2, if_pos e2]
      · rw [if_neg e2, if_neg e2, if_neg e1]
  cases hA : (s.apply q.dst rq).apply o.dst ro
  cases hB : (s.apply o.dst ro).apply q.dst rq
  rw [hA, hB] at hheap hslot
  simp only at hheap hslot
  rw [hheap, hslot]
end

end Go.Proofs.Ytjpckmpeahinkaa
