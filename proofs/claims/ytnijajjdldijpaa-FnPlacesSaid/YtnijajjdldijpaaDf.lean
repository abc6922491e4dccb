import Derived.Test.YtnijajjdldijpaaDe
set_option linter.unusedSimpArgs false
set_option linter.unusedVariables false
namespace Go.Proofs.Ytnijajjdldijpaa
open Go.RowKit
/-! Regions. -/
def stepsI (P : Program) (S : Sums) (n : Nat) (ops : List Oper) : List Nat → FSt → Option FSt
  | [], s => some s
  | i :: l, s => match ops[i]? with
    | some o => match step P S n ops o s with | some s' => stepsI P S n ops l s' | none => none
    | none => none
def maskOf (acc : List Nat) (o : Oper) : Nat := o.after.toList.foldl (fun m e => if Region.binds .any e = true then m ||| 2 ^ e.on ||| acc.getD e.on 0 else m) 0
def masks : List Oper → List Nat → List Nat
  | [], acc => acc
  | o :: l, acc => masks l (acc ++ [maskOf acc o])
def commB (S : Sums) (ops : Array Oper) (o q : Oper) : Bool := o.apart ops q && (allowed (cls S o.op) (cls S q.op) || (storesB ops.toList o q || (callsB S o q || callsB S q o)))
def pairsB (S : Sums) (ops : Array Oper) (q : Oper) (m : Nat) : Nat → List Oper → Bool
  | _, [] => true
  | i, o :: l => (m.testBit i || commB S ops o q) && pairsB S ops q m (i + 1) l
def rowsB (S : Sums) (ops : Array Oper) : List Oper → List Nat → List Oper → Bool
  | _, _, [] => true
  | before, m :: ms, q :: l => pairsB S ops q m 0 before && rowsB S ops (before ++ [q]) ms l
  | _, [], _ :: _ => false
def depsLt (o : Oper) (i : Nat) : Bool := o.after.toList.all fun e => !Region.binds .any e || Nat.ble (e.on + 1) i
def ordB : Nat → List Oper → Bool
  | _, [] => true
  | i, o :: l => depsLt o i && ordB (i + 1) l
/-- A region whose order is drawn reads alike in every order. -/
def regOK (S : Sums) (ops : List Oper) : Bool := ordB 0 ops && rowsB S ops.toArray [] (masks ops []) ops
section
variable {P : Program} {S : Sums} {W : World} {M : MV} {n : Nat} {s s1 s2 : FSt} {a : Act} {w w' : World} {ρ ρ' : Nat → Value} {o : Oper} {r : Out} {ops : List Oper} {Q : Exit → Act → World → Prop} {K : Act → World → Prop}
theorem ordB_spec {l : List Oper} : ∀ {i : Nat}, ordB i l = true → ∀ {j : Nat} {o : Oper}, l[j]? = some o → ∀ e ∈ o.after, Region.binds .any e = true → e.on < i + j := by
  induction l with
  | nil => intro i h j o hj; simp at hj
  | cons o' l ih =>
    intro i h j o hj e he hb
    simp only [ordB, Bool.and_eq_true] at h
    cases j with
    | zero =>
      simp at hj; subst hj
      have := List.all_eq_true.1 h.1 e (by simpa using he)
      rw [hb] at this
      have := nle (by simpa using this)
      omega
    | succ j =>
      simp at hj
      have := ih h.2 hj e he hb
      omega
theorem pairsB_spec {opsA : Array Oper} {q : Oper} {m : Nat} {l : List Oper} : ∀ {i : Nat}, pairsB S opsA q m i l = true → ∀ {j : Nat} {o : Oper}, l[j]? = some o → m.testBit (i + j) = true ∨ commB S opsA o q = true := by
  induction l with
  | nil => intro i h j o hj; simp at hj
  | cons o' l ih =>
    intro i h j o hj
    simp only [pairsB, Bool.and_eq_true, Bool.or_eq_true] at h
    cases j with
    | zero => simp at hj; subst hj; exact h.1
    | succ j =>
      simp at hj
      have := ih h.2 hj
      rwa [show i + 1 + j = i + (j + 1) from by omega] at this
theorem rowsB_spec {opsA : Array Oper} {l : List Oper} : ∀ {before : List Oper} {ms : List Nat}, rowsB S opsA before ms l = true → ∀ {j : Nat} {q : Oper}, l[j]? = some q → ∃ m, ms[j]? = some m ∧ ∀ {i : Nat} {o : Oper}, (before ++ l.take j)[i]? = some o → m.testBit i = true ∨ commB S opsA o q = true := by
  induction l with
  | nil => intro before ms h j q hj; simp at hj
  | cons q' l ih =>
    intro before ms h j q hj
    cases ms with
    | nil => simp [rowsB] at h
    | cons m ms =>
      simp only [rowsB, Bool.and_eq_true] at h
      cases j with
      | zero =>
        simp at hj; subst hj
        refine ⟨m, rfl, fun {i o} ho => ?_⟩
        have := pairsB_spec h.1 (j := i) (o := o) (by simpa using ho)
        simpa using this
      | succ j =>
        simp at hj
        obtain ⟨m', hm, hall⟩ := ih h.2 hj
        refine ⟨m', by simpa using hm, fun {i o} ho => hall ?_⟩
        simpa using ho
theorem fold_bit {acc : List Nat} {i : Nat} : ∀ (l : List Edge) (m : Nat), (l.foldl (fun m e => if Region.binds .any e = true then m ||| 2 ^ e.on ||| acc.getD e.on 0 else m) m).testBit i = true → m.testBit i = true ∨ ∃ e ∈ l, Region.binds .any e = true ∧ (e.on = i ∨ (acc.getD e.on 0).testBit i = true)
  | [], m, h => .inl h
  | e :: l, m, h => by
    rw [List.foldl_cons] at h
    rcases fold_bit l _ h with h1 | ⟨e', he, h1⟩
    · split at h1
      · rename_i hb
        rw [Nat.testBit_or, Nat.testBit_or, Bool.or_eq_true, Bool.or_eq_true, Nat.testBit_two_pow] at h1
        rcases h1 with (h1 | h1) | h1
        · exact .inl h1
        · exact .inr ⟨e, by simp, hb, .inl (by simpa using h1)⟩
        · exact .inr ⟨e, by simp, hb, .inr h1⟩
      · exact .inl h1
    · exact .inr ⟨e', by simp [he], h1⟩
/-- Listed sets that hold what their members wait for. -/
def Closed (ops : List Oper) (L : Nat → Bool) : Prop := ∀ j o, ops[j]? = some o → L j = true → ∀ e ∈ o.after, Region.binds .any e = true → L e.on = true
theorem masks_good {L : Nat → Bool} (hL : Closed ops L) : ∀ (l : List Oper) (acc : List Nat), (∀ j o, l[j]? = some o → ops[acc.length + j]? = some o) → (∀ j m i, acc[j]? = some m → m.testBit i = true → L j = true → L i = true) →
    ∀ j m i, (masks l acc)[j]? = some m → m.testBit i = true → L j = true → L i = true
  | [], acc, _, h => h
  | o :: l, acc, ho, h => by
    refine masks_good hL l (acc ++ [maskOf acc o]) (fun j q hq => ?_) fun j m i hj hb hl => ?_
    · have := ho (j + 1) q (by simpa using hq)
      simpa [Nat.add_assoc, Nat.add_comm 1 j] using this
    · rcases Nat.lt_or_ge j acc.length with hlt | hge
      · rw [List.getElem?_append_left hlt] at hj
        exact h j m i hj hb hl
      · rw [List.getElem?_append_right hge] at hj
        have hj0 : j = acc.length := by
          have := (List.getElem?_eq_some_iff.1 hj).1
          simp at this
          omega
        subst hj0
        simp at hj
        subst hj
        rcases fold_bit _ _ hb with h0 | ⟨e, he, hbi, h1⟩
        · simp at h0
        · have hLe : L e.on = true := hL acc.length o (by simpa using ho 0 o (by simp)) hl e (by simpa using he) hbi
          rcases h1 with rfl | h1
          · exact hLe
          · cases hm : acc[e.on]? with
            | none => simp [List.getD_eq_getElem?_getD, hm] at h1
            | some m' => exact h e.on m' i hm (by simpa [List.getD_eq_getElem?_getD, hm] using h1) hLe
def Comm (S : Sums) (ops : List Oper) (i j : Nat) : Prop := ∃ o q, ops[i]? = some o ∧ ops[j]? = some q ∧ commB S ops.toArray o q = true
theorem comm_of (hok : regOK S ops = true) {L : Nat → Bool} (hL : Closed ops L) {i j : Nat} (hij : i < j) (hj : j < ops.length) (hi : L i = false) (hl : L j = true) : Comm S ops i j := by
  unfold regOK at hok
  simp only [Bool.and_eq_true] at hok
  obtain ⟨m, hm, hall⟩ := rowsB_spec hok.2 (j := j) (q := ops[j]) (by simp [hj])
  have hi' : i < ops.length := by omega
  rcases hall (i := i) (o := ops[i]) (by simp [List.getElem?_take_of_lt hij, hi']) with h1 | h1
  · have := masks_good hL ops [] (fun j o h => by simpa using h) (fun j m i h => by simp at h) j m i hm h1 hl
    rw [hi] at this
    cases this
  · exact ⟨ops[i], ops[j], by simp [hi'], by simp [hj], h1⟩
/-! Well-formedness along any operation. -/
theorem kill_ok {H : Nat → Option Blk} {id : Nat} (hs : H = s.heap) {x : SV} (h : SVok H x) : SVok (s.kill id).heap (killSV id x) := by
  subst hs
  cases x with
  | ptr i o =>
    by_cases e : i = id
    · subst e; simp only [killSV, show Nat.beq i i = true by simp, cond_true]; exact True.intro
    · simp only [killSV, nbeq e, cond_false]; exact live_kill e h
  | row i =>
    by_cases e : i = id
    · subst e; simp only [killSV, show Nat.beq i i = true by simp, cond_true]; exact True.intro
    · simp only [killSV, nbeq e, cond_false]; exact live_kill e h
  | sub i o m z =>
    by_cases e : i = id
    · subst e; simp only [killSV, show Nat.beq i i = true by simp, cond_true]; exact True.intro
    · simp only [killSV, nbeq e, cond_false]; exact live_kill e h
  | clo f l =>
    simp only [killSV]
    cases hb : l.any (Nat.beq id) with
    | true => exact True.intro
    | false => exact fun i hi => live_kill (any_beq hb hi) (h i hi)
  | tup l =>
    simp only [killSV]
    cases hb : killTI id l with
    | true => exact True.intro
    | false =>
      intro i hi
      refine live_kill ?_ (h i hi)
      rintro rfl
      have := List.any_eq_false.1 hb _ hi
      simp at this
  | agr l =>
    simp only [killSV]
    cases hb : killTI id l with
    | true => exact True.intro
    | false =>
      intro i hi
      refine live_kill ?_ (h i hi)
      rintro rfl
      have := List.any_eq_false.1 hb _ hi
      simp at this
  | val v => exact True.intro
  | fn g => exact True.intro
  | junk => exact True.intro
theorem kill_wf (wf : WF s) (id : Nat) : WF (s.kill id) := by
  refine ⟨fun t => kill_ok rfl (wf.slots t), fun j bj hj => ?_⟩
  obtain ⟨_, b, hb, rfl⟩ := kill_inv hj
  have := wf.heap j b hb
  cases b with
  | box e l =>
    intro v hv
    obtain ⟨x, hx, rfl⟩ := List.mem_map.1 hv
    exact kill_ok rfl (this x hx)
  | rop l =>
    intro v hv
    obtain ⟨x, hx, rfl⟩ := List.mem_map.1 hv
    exact kill_ok rfl (this x hx)
  | row e z m c => exact True.intro
  | ros m c => exact True.intro
theorem append_form {d : Nat} {t : TypeId} {x y : SV} (h : appendOut P s d t x y = some r) : ∃ e z m c dr ck, r = ⟨ck, .row (4 * d), [(4 * d, .row e z m c)], none, dr⟩ := by
  unfold appendOut at h
  split at h
  · split at h
    · split at h
      · split at h
        · split at h
          · simp only [Option.some.injEq] at h; subst h; exact ⟨_, _, _, _, _, _, rfl⟩
          · split at h
            · split at h
              · split at h
                · simp only [Option.some.injEq] at h; subst h; exact ⟨_, _, _, _, _, _, rfl⟩
                · cases h
              · cases h
            · cases h
          · cases h
        · cases h
      · cases h
    · cases h
  · cases h
theorem set_wf (wf : WF s) {i : Nat} {e : TypeId} {z m : Nat} {c : Cells} : WF (s.set i (.row e z m c)) := by
  have hg : Grow s.heap (s.set i (.row e z m c)).heap := by
    intro id hid
    rw [heap_set]
    split
    · rfl
    · exact hid
  refine ⟨fun t => (wf.slots t).grow hg, fun j bj hj => ?_⟩
  rw [heap_set] at hj
  split at hj
  · simp only [Option.some.injEq] at hj; subst hj; exact True.intro
  · exact (wf.heap j bj hj).grow hg
theorem grow_set (id : Nat) (b : Blk) : Grow s.heap (s.set id b).heap := by
  intro j hj
  rw [heap_set]
  split
  · rfl
  · exact hj
theorem set_wfb (wf : WF s) {id : Nat} {e : TypeId} {cells : List SV} (hc : ∀ x ∈ cells, SVok s.heap x) : WF (s.set id (.box e cells)) := by
  have hg := grow_set (s := s) id (.box e cells)
  refine ⟨fun t => (wf.slots t).grow hg, fun j bj hj => ?_⟩
  rw [heap_set] at hj
  split at hj
  · simp only [Option.some.injEq] at hj; subst hj; exact fun x hx => (hc x hx).grow hg
  · exact (wf.heap j bj hj).grow hg
theorem put_wf (wf : WF s) {d : Option Nat} {v : SV} (hv : SVok s.heap v) : WF (s.put d v) := by
  refine ⟨fun t => ?_, fun j bj hj => ?_⟩
  · rw [slot_put, heap_put]
    split
    · exact hv
    · exact wf.slots t
  · rw [heap_put] at hj ⊢
    exact wf.heap j bj hj
theorem step_wf' (wf : WF s) (h : step P S n ops o s = some s1) : WF s1 := by
  by_cases hc : cls S o.op = 4
  · obtain ⟨r, hr, hf, rfl⟩ := step_inv h
    unfold stepOut at hr
    split at hr
    · cases hr
    · split at hr
      · split at hr
        · split at hr
          · cases hr
          · rename_i r' hr'
            split at hr
            · simp only [Option.some.injEq] at hr; subst hr
              have hform : (∃ d e z m c dr ck, r' = ⟨ck, .row (4 * d), [(4 * d, .row e z m c)], none, dr⟩) ∨ (∃ id e z m c ck v, r' = ⟨ck, .val v, [], some (id, .row e z m c), none⟩) ∨ (∃ id e cells ck v, r' = ⟨ck, v, [], some (id, .box e cells), none⟩ ∧ (∀ x ∈ cells, SVok s.heap x) ∧ SVok s.heap v) ∨ ∃ d e cells ck, r' = ⟨ck, .ptr (4 * d) 0, [(4 * d, .box e cells)], none, none⟩ ∧ ∀ x ∈ cells, SVok s.heap x := by
                unfold opOut at hr'
                cases ho : o.op <;> rw [ho] at hr' hc <;> dsimp only at hr' <;> try (first | (cases hr'; done) | (simp [cls] at hc; done))
                case call c =>
                  cases hcc : c.callee with
                  | value f =>
                    rw [hcc] at hr'
                    dsimp only at hr'
                    cases hmo : mutOf S f with
                    | none => simp [cls, hcc, hmo] at hc
                    | some run =>
                      rw [hmo] at hr'
                      dsimp only at hr'
                      cases run with
                      | row run =>
                        have hr' : rowOut s run _ = _ := hr'
                        unfold rowOut at hr'
                        split at hr'
                        · split at hr'
                          · split at hr'
                            · simp only [Option.some.injEq] at hr'
                              exact .inr (.inl ⟨_, _, _, _, _, _, _, hr'.symm⟩)
                            · cases hr'
                          · cases hr'
                        · cases hr'
                      | box run => simp [cls, hcc, hmo] at hc
                      | src run =>
                        have hr' : srcOut s o.dst run _ = _ := hr'
                        unfold srcOut at hr'
                        split at hr'
                        · split at hr'
                          · rename_i hb _
                            split at hr'
                            · simp only [Option.some.injEq] at hr'
                              refine .inr (.inr (.inr ⟨_, _, _, _, hr'.symm, fun x hx => ?_⟩))
                              rcases List.mem_cons.1 hx with rfl | hx
                              · exact isSome_of hb
                              · obtain ⟨v, _, rfl⟩ := List.mem_map.1 hx
                                exact True.intro
                            · cases hr'
                          · cases hr'
                        · cases hr'
                  | invoke x m => rw [hcc] at hr'; cases hr'
                  | builtin b =>
                    rw [hcc] at hr'
                    cases b <;> dsimp only at hr' <;> try (first | (cases hr'; done) | (simp [cls, hcc] at hc; done))
                    split at hr'
                    · split at hr'
                      · obtain ⟨e, z, m, c, dr, ck, he⟩ := append_form hr'
                        exact .inl ⟨_, e, z, m, c, dr, ck, he⟩
                      · cases hr'
                    · cases hr'
              rcases hform with ⟨d, e, z, m, c, dr, ck, rfl⟩ | ⟨id, e, z, m, c, ck, v, rfl⟩ | ⟨id, e, cells, ck, v, rfl, hcl, hv⟩ | ⟨d, e, cells, ck, rfl, hcl⟩
              rotate_left
              · exact put_wf (set_wf wf) True.intro
              · exact put_wf (set_wfb wf hcl) (SVok.grow (grow_set _ _) hv)
              · refine put_wf (set_wfb wf hcl) ?_
                show ((s.set (4 * d) (.box e cells)).heap (4 * d)).isSome = true
                rw [heap_set, if_pos rfl]
                rfl
              have hd : WF (s.dropped dr) := by
                cases dr with
                | none => exact wf
                | some id => exact kill_wf wf id
              refine put_wf (set_wf hd) ?_
              show ((((s.dropped dr).set (4 * d) (.row e z m c))).heap (4 * d)).isSome = true
              rw [heap_set, if_pos rfl]
              rfl
            · cases hr
        · simp only [Option.some.injEq] at hr; subst hr
          exact put_wf wf True.intro
      · cases hr
  · exact step_wf hc wf h
theorem steps_cons {i : Nat} {l : List Nat} (h : stepsI P S n ops (i :: l) s = some s2) : ∃ o s1, ops[i]? = some o ∧ step P S n ops o s = some s1 ∧ stepsI P S n ops l s1 = some s2 := by
  simp only [stepsI] at h
  split at h
  · rename_i o ho
    split at h
    · rename_i s1 h1
      exact ⟨o, s1, ho, h1, h⟩
    · cases h
  · cases h
theorem steps_mk {i : Nat} {l : List Nat} (ho : ops[i]? = some o) (h1 : step P S n ops o s = some s1) (h2 : stepsI P S n ops l s1 = some s2) : stepsI P S n ops (i :: l) s = some s2 := by
  simp only [stepsI, ho, h1, h2]
theorem steps_app : ∀ {l m : List Nat} {s s2 : FSt}, stepsI P S n ops (l ++ m) s = some s2 ↔ ∃ s1, stepsI P S n ops l s = some s1 ∧ stepsI P S n ops m s1 = some s2
  | [], m, s, s2 => by simp [stepsI]
  | i :: l, m, s, s2 => by
    constructor
    · intro h
      obtain ⟨o, s1, ho, h1, h2⟩ := steps_cons h
      obtain ⟨s3, h3, h4⟩ := steps_app.1 h2
      exact ⟨s3, steps_mk ho h1 h3, h4⟩
    · rintro ⟨s3, h3, h4⟩
      obtain ⟨o, s1, ho, h1, h2⟩ := steps_cons h3
      exact steps_mk ho h1 (steps_app.2 ⟨s3, h2, h4⟩)
theorem steps_wf : ∀ {l : List Nat} {s s2 : FSt}, WF s → stepsI P S n ops l s = some s2 → WF s2
  | [], s, s2, wf, h => by simp only [stepsI, Option.some.injEq] at h; subst h; exact wf
  | i :: l, s, s2, wf, h => by
    obtain ⟨o, s1, ho, h1, h2⟩ := steps_cons h
    exact steps_wf (step_wf' wf h1) h2
/-- An operation goes behind others that it does not meet. -/
theorem move_back {i : Nat} (ho : ops[i]? = some o) : ∀ {l : List Nat} {s s2 : FSt}, WF s → (∀ j ∈ l, Comm S ops i j) → stepsI P S n ops (i :: l) s = some s2 → ∃ s3, stepsI P S n ops l s = some s3 ∧ step P S n ops o s3 = some s2
  | [], s, s2, wf, _, h => by
    obtain ⟨o', s1, ho', h1, h2⟩ := steps_cons h
    rw [ho] at ho'
    simp only [Option.some.injEq] at ho'; subst ho'
    simp only [stepsI, Option.some.injEq] at h2; subst h2
    exact ⟨s, rfl, h1⟩
  | j :: l, s, s2, wf, hc, h => by
    obtain ⟨o', s1, ho', h1, h2⟩ := steps_cons h
    rw [ho] at ho'
    simp only [Option.some.injEq] at ho'; subst ho'
    obtain ⟨q, s3, hq, h3, h4⟩ := steps_cons h2
    obtain ⟨o', q', ho', hq', hcm⟩ := hc j (by simp)
    rw [ho] at ho'; rw [hq] at hq'
    simp only [Option.some.injEq] at ho' hq'; subst ho'; subst hq'
    unfold commB at hcm
    simp only [Bool.and_eq_true, Bool.or_eq_true] at hcm
    obtain ⟨s4, k1, k2⟩ := step_comm (List.mem_of_getElem? ho) (List.mem_of_getElem? hq) wf hcm.1 hcm.2 h1 h3
    obtain ⟨s5, k3, k4⟩ := move_back ho (step_wf' wf k1) (fun x hx => hc x (by simp [hx])) (steps_mk ho k2 h4)
    exact ⟨s5, steps_mk hq k1 k3, k4⟩
/-- What has gone by in the text's order goes by alone, if it waits for nothing else. -/
theorem only_closed {L : Nat → Bool} : ∀ {l : List Nat} {s s2 : FSt}, WF s → l.Pairwise (fun i j => L i = false → L j = true → Comm S ops i j) → stepsI P S n ops l s = some s2 → ∃ s3, stepsI P S n ops (l.filter L) s = some s3
  | [], s, s2, _, _, h => ⟨s, rfl⟩
  | i :: l, s, s2, wf, hp, h => by
    obtain ⟨o, s1, ho, h1, h2⟩ := steps_cons h
    obtain ⟨hp1, hp2⟩ := List.pairwise_cons.1 hp
    obtain ⟨s3, h3⟩ := only_closed (step_wf' wf h1) hp2 h2
    cases hl : L i with
    | true =>
      rw [List.filter_cons_of_pos hl]
      exact ⟨s3, steps_mk ho h1 h3⟩
    | false =>
      rw [List.filter_cons_of_neg (by simp [hl])]
      obtain ⟨s4, h4, _⟩ := move_back ho wf (fun j hj => hp1 j ((List.mem_filter.1 hj).1) hl (List.mem_filter.1 hj).2) (steps_mk ho h1 h3)
      exact ⟨s4, h4⟩
end

end Go.Proofs.Ytnijajjdldijpaa
