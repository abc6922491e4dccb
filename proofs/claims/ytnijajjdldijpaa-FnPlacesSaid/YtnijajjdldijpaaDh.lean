import Derived.Test.YtnijajjdldijpaaDg
set_option linter.unusedSimpArgs false
set_option linter.unusedVariables false
namespace Go.Proofs.Ytnijajjdldijpaa
open Go.RowKit
/-! Names at the head of a loop. -/
section
variable {P : Program} {S : Sums} {W : World} {M : MV} {n : Nat} {s s1 s2 : FSt} {a : Act} {w w' : World} {ρ ρ' : Nat → Value} {H H' : Nat → Option Blk}
theorem any_iff {l : List Nat} {i : Nat} : l.any (Nat.beq i) = true ↔ i ∈ l := by
  rw [List.any_eq_true]
  constructor
  · rintro ⟨j, hj, e⟩
    rw [neq e]
    exact hj
  · intro h
    exact ⟨i, h, by simp⟩
theorem keep_rel {l : List Nat} (hl : ∀ id, id ∈ l → (H id).isSome = true → (H' id).isSome = true) {x : SV} {v : Value} (h : Rel P W M ρ H x v) : Rel P W M ρ H' (keepSV l x) v := by
  cases x with
  | val y => exact h
  | ptr i o =>
    simp only [keepSV]
    cases hb : l.any (Nat.beq i) with
    | true => exact ⟨hl i (any_iff.1 hb) h.1, h.2⟩
    | false => exact True.intro
  | row i =>
    simp only [keepSV]
    cases hb : l.any (Nat.beq i) with
    | true => exact ⟨hl i (any_iff.1 hb) h.1, h.2⟩
    | false => exact True.intro
  | sub i o m z =>
    simp only [keepSV]
    cases hb : l.any (Nat.beq i) with
    | true => exact ⟨hl i (any_iff.1 hb) h.1, h.2⟩
    | false => exact True.intro
  | clo f q =>
    simp only [keepSV]
    cases hb : q.all (fun i => l.any (Nat.beq i)) with
    | true =>
      obtain ⟨vs, h1, h2⟩ := h
      exact ⟨vs, h1, h2.memMono fun i hi b hc => ⟨hl i (any_iff.1 (List.all_eq_true.1 hb i hi)) hc.1, hc.2⟩⟩
    | false => exact True.intro
  | fn g => exact h
  | tup q => exact True.intro
  | agr q => exact True.intro
  | junk => exact h
theorem ownB_keep (l : List Nat) (b : Blk) : ownB (keepB l b) = ownB b := by cases b <;> rfl
theorem keep_brel {l : List Nat} (hl : ∀ id, id ∈ l → (H id).isSome = true → (H' id).isSome = true) {i : Nat} {b : Blk} (k : BRel P W M w ρ H i b) : BRel P W M w ρ H' i (keepB l b) := by
  cases b with
  | box e cells =>
    obtain ⟨g, cs, h1, h2, h3, h4⟩ := k
    exact ⟨g, cs, h1, h2, h3, h4.mapBoth fun x y (k : Rel P W M ρ H x y) => keep_rel hl k⟩
  | row e sz m c => exact k
  | ros m c => exact k
  | rop cells =>
    obtain ⟨g, o, h1, h2, h3⟩ := k
    refine ⟨g, o, h1, h2, fun j v hv => ?_⟩
    rw [List.getElem?_map] at hv
    cases hc : cells[j]? with
    | none => rw [hc] at hv; cases hv
    | some x =>
      rw [hc] at hv
      obtain rfl : keepSV l x = v := by simpa using hv
      obtain ⟨u, hu, hr⟩ := h3 j x hc
      exact ⟨u, hu, keep_rel hl hr⟩
theorem look_all (H : Nat → Option Blk) (f : Blk → Blk) : ∀ (l : List Nat) (x : Nat), look ((allOf H l).map fun p => (p.1, f p.2)) x = if x ∈ l then (H x).map f else none
  | [], x => rfl
  | i :: l, x => by
    simp only [allOf]
    cases hi : H i with
    | none =>
      simp only
      rw [look_all H f l x]
      by_cases e : x = i
      · subst e
        simp [hi]
      · simp [e]
    | some b =>
      simp only [List.map_cons, look]
      by_cases e : x = i
      · subst e
        simp [hi]
      · rw [nbeq e, cond_false, look_all H f l x]
        simp [e]
/-- Some blocks stay; the rest is forgotten. -/
theorem R.keep (h : R P W M n s a w ρ) (l : List Nat) {sl : List SV} (hs : ∀ t x, sl[t]? = some x → x = .junk ∨ x = keepSV l (s.slot t)) (h0 : ∀ v, M = some v → 0 ∈ l ∧ ∀ u, v.2 = some u → 1 ∈ l) :
    R P W M n (Tab.st ⟨sl, (allOf s.heap l).map fun p => (p.1, keepB l p.2)⟩) a w ρ := by
  have hh : ∀ x, (Tab.st ⟨sl, (allOf s.heap l).map fun p => (p.1, keepB l p.2)⟩).heap x = if x ∈ l then (s.heap x).map (keepB l) else none := look_all s.heap (keepB l) l
  have hl : ∀ id, id ∈ l → (s.heap id).isSome = true → ((Tab.st ⟨sl, (allOf s.heap l).map fun p => (p.1, keepB l p.2)⟩).heap id).isSome = true := by
    intro id hid hsome
    rw [hh, if_pos hid]
    simpa using hsome
  have hinv : ∀ id b, (Tab.st ⟨sl, (allOf s.heap l).map fun p => (p.1, keepB l p.2)⟩).heap id = some b → ∃ b0, s.heap id = some b0 ∧ b = keepB l b0 := by
    intro id b hb
    rw [hh] at hb
    split at hb
    · cases hs : s.heap id with
      | none => rw [hs] at hb; cases hb
      | some b0 => rw [hs] at hb; exact ⟨b0, rfl, by simpa using hb.symm⟩
    · cases hb
  refine ⟨h.grown, h.size, h.defers, fun t => ?_, fun id b hb => ?_, fun i j bi bj g hij hi hj oi oj gi => ?_, fun v hv => ⟨(h.fix v hv).1, ⟨hl 0 (h0 v hv).1 (h.fix v hv).2.1.1, (h.fix v hv).2.1.2⟩, fun u hu => ⟨hl 1 ((h0 v hv).2 u hu) ((h.fix v hv).2.2 u hu).1, ((h.fix v hv).2.2 u hu).2⟩⟩⟩
  · show Rel P W M ρ _ (sl.getD t .junk) _
    rw [List.getD_eq_getElem?_getD]
    cases ht : sl[t]? with
    | none => exact True.intro
    | some x =>
      rcases hs t x ht with rfl | rfl
      · exact True.intro
      · exact keep_rel hl (h.slots t)
  · obtain ⟨b0, hb0, rfl⟩ := hinv id b hb
    exact keep_brel hl (h.heap id b0 hb0)
  · obtain ⟨b0, hb0, rfl⟩ := hinv i bi hi
    obtain ⟨b1, hb1, rfl⟩ := hinv j bj hj
    rw [ownB_keep] at oi oj
    exact h.apart i j b0 b1 g hij hb0 hb1 oi oj gi
theorem all_keys (H : Nat → Option Blk) : ∀ (l : List Nat), allOf H ((allOf H l).map (·.1)) = allOf H l
  | [] => rfl
  | i :: l => by
    simp only [allOf]
    cases hi : H i with
    | none => exact all_keys H l
    | some b =>
      simp only [List.map_cons, allOf, hi]
      rw [all_keys H l]
theorem keepOne_or (s : FSt) (ap : List Nat) (i : Nat) (x : SV) : keepOne s ap i x = .junk ∨ keepOne s ap i x = x := by
  cases x with
  | row b =>
    unfold keepOne
    dsimp only
    cases ownAt s.heap b with
    | false => exact .inr rfl
    | true =>
      cases ap.find? fun j => isRow b (s.slot j) with
      | none => exact .inr rfl
      | some j =>
        cases h : Nat.beq i j with
        | true => exact .inr (by simp only [cond_true, h])
        | false => exact .inl (by simp only [cond_true, h, cond_false])
  | _ => exact .inr rfl
theorem mem_all {H : Nat → Option Blk} {x : Nat} (hs : (H x).isSome = true) : ∀ {l : List Nat}, x ∈ l → x ∈ (allOf H l).map (·.1)
  | i :: l, hx => by
    simp only [allOf]
    cases hi : H i with
    | none =>
      rcases List.mem_cons.1 hx with rfl | hx
      · rw [hi] at hs; cases hs
      · exact mem_all hs hx
    | some b =>
      rcases List.mem_cons.1 hx with rfl | hx
      · simp
      · simp only [List.map_cons, List.mem_cons]
        exact .inr (mem_all hs hx)
theorem any_mem {i : Nat} {l : List Nat} (h : l.any (Nat.beq i) = true) : i ∈ l := by
  obtain ⟨x, hx, h0⟩ := List.any_eq_true.1 h
  have := Nat.eq_of_beq_eq_true h0
  subst this
  exact hx
theorem keep_mem (l : List Nat) : 0 ∈ keepIds l ∧ 1 ∈ keepIds l := by
  unfold keepIds
  have h0 : 0 ∈ (bif l.any (Nat.beq 0) then l else 0 :: l) := by
    cases h : l.any (Nat.beq 0) with
    | true => exact any_mem h
    | false => exact List.mem_cons_self
  dsimp only
  generalize (bif l.any (Nat.beq 0) then l else 0 :: l) = m at h0
  cases h : m.any (Nat.beq 1) with
  | true => exact ⟨h0, any_mem h⟩
  | false => exact ⟨List.mem_cons_of_mem _ h0, List.mem_cons_self⟩
theorem R.tab (h : R P W M n s a w ρ) (ap : List Nat) : R P W M n (s.tab ap n).st a w ρ := by
  have := h.keep ((allOf s.heap (List.range (4 * n))).map (·.1)) (sl := (List.range n).map fun i => keepOne s ap i (keepSV ((allOf s.heap (List.range (4 * n))).map (·.1)) (s.slot i))) fun t x hx => by
    rw [List.getElem?_map] at hx
    cases ht : (List.range n)[t]? with
    | none => rw [ht] at hx; cases hx
    | some j =>
      rw [ht] at hx
      have : j = t := by
        have := List.getElem?_eq_some_iff.1 ht
        obtain ⟨h1, h2⟩ := this
        simp at h2
        exact h2.symm
      subst this
      simp only [Option.map_some, Option.some.injEq] at hx
      subst hx
      exact keepOne_or s ap j _
  have this := this fun v hv => ⟨mem_all (h.fix v hv).2.1.1 (List.mem_range.2 (by have := (h.fix v hv).1; omega)), fun u hu => mem_all ((h.fix v hv).2.2 u hu).1 (List.mem_range.2 (by have := (h.fix v hv).1; omega))⟩
  rw [all_keys] at this
  exact this
theorem R.ren (h : R P W M n s a w ρ) (i j : Nat) (hi0 : i ≠ 0 ∧ i ≠ 1) : ∃ ρ', R P W M n (s.ren i j) a w ρ' := by
  unfold FSt.ren
  split
  · rename_i e z m c hi hj
    refine ⟨fun x => if x = j then ρ i else ρ x, ?_⟩
    have hij : i ≠ j := by rintro rfl; rw [hi] at hj; cases hj
    let s' : FSt := { slot := fun t => renSV i j (s.slot t), heap := fun x => bif Nat.beq x j then some (.row e z m c) else bif Nat.beq x i then none else match s.heap x with | some q => some (renB i j q) | none => none }
    have hheap : ∀ x, s'.heap x = if x = j then some (.row e z m c) else if x = i then none else (s.heap x).map (renB i j) := by
      intro x
      show (bif Nat.beq x j then _ else _) = _
      by_cases e1 : x = j
      · subst e1; simp
      · rw [nbeq e1, if_neg e1, cond_false]
        by_cases e2 : x = i
        · subst e2; simp
        · rw [nbeq e2, if_neg e2, cond_false]
          cases s.heap x <;> rfl
    have live : ∀ x, x ≠ i → (s.heap x).isSome = true → (s'.heap x).isSome = true ∧ x ≠ j := by
      intro x hx hs
      have hxj : x ≠ j := by rintro rfl; rw [hj] at hs; cases hs
      rw [hheap, if_neg hxj, if_neg hx]
      exact ⟨by simpa using hs, hxj⟩
    have hrel : ∀ {x : SV} {v : Value}, Rel P W M ρ s.heap x v → Rel P W M (fun x => if x = j then ρ i else ρ x) s'.heap (renSV i j x) v := by
      intro x v k
      cases x with
      | val y => exact k
      | row b =>
        by_cases e : b = i
        · subst e
          simp only [renSV, show Nat.beq b b = true by simp, cond_true]
          refine ⟨?_, ?_⟩
          · rw [hheap, if_pos rfl]; rfl
          · simp only [if_true]; exact k.2
        · simp only [renSV, nbeq e, cond_false]
          obtain ⟨l1, l2⟩ := live b e k.1
          exact ⟨l1, by simp only [if_neg l2]; exact k.2⟩
      | ptr b o =>
        by_cases e : b = i
        · subst e
          simp only [renSV, show Nat.beq b b = true by simp, cond_true]
          exact True.intro
        · simp only [renSV, nbeq e, cond_false]
          obtain ⟨l1, l2⟩ := live b e k.1
          exact ⟨l1, by simp only [if_neg l2]; exact k.2⟩
      | sub b o m' z' =>
        by_cases e : b = i
        · subst e
          simp only [renSV, show Nat.beq b b = true by simp, cond_true]
          exact True.intro
        · simp only [renSV, nbeq e, cond_false]
          obtain ⟨l1, l2⟩ := live b e k.1
          exact ⟨l1, by simp only [if_neg l2]; exact k.2⟩
      | clo f l =>
        simp only [renSV]
        cases hb : l.any (Nat.beq i) with
        | true => exact True.intro
        | false =>
          obtain ⟨vs, h1, h2⟩ := k
          refine ⟨vs, h1, h2.memMono fun x hx b hc => ?_⟩
          obtain ⟨l1, l2⟩ := live x (any_beq hb hx) hc.1
          exact ⟨l1, by simp only [if_neg l2]; exact hc.2⟩
      | fn g => exact k
      | tup l =>
        simp only [renSV]
        cases hb : killTI i l with
        | true => exact True.intro
        | false =>
          obtain ⟨vs, h1, h2⟩ := k
          refine ⟨vs, h1, h2.memMono fun x hx b hc => ?_⟩
          cases x with
          | v y => exact hc
          | r y =>
            have hy : y ≠ i := by
              rintro rfl
              have := List.any_eq_false.1 hb _ hx
              simp at this
            obtain ⟨l1, l2⟩ := live y hy hc.1
            exact ⟨l1, by simp only [if_neg l2]; exact hc.2⟩
      | agr l =>
        simp only [renSV]
        cases hb : killTI i l with
        | true => exact True.intro
        | false =>
          obtain ⟨vs, h1, h2⟩ := k
          refine ⟨vs, h1, h2.memMono fun x hx b hc => ?_⟩
          cases x with
          | v y => exact hc
          | r y =>
            have hy : y ≠ i := by
              rintro rfl
              have := List.any_eq_false.1 hb _ hx
              simp at this
            obtain ⟨l1, l2⟩ := live y hy hc.1
            exact ⟨l1, by simp only [if_neg l2]; exact hc.2⟩
      | junk => exact k
    have hinv : ∀ x b, s'.heap x = some b → (x = j ∧ b = .row e z m c) ∨ (x ≠ j ∧ x ≠ i ∧ ∃ b0, s.heap x = some b0 ∧ b = renB i j b0) := by
      intro x b hb
      rw [hheap] at hb
      split at hb
      · rename_i e1
        exact .inl ⟨e1, by simpa using hb.symm⟩
      · rename_i e1
        split at hb
        · cases hb
        · rename_i e2
          cases hs : s.heap x with
          | none => rw [hs] at hb; cases hb
          | some b0 => rw [hs] at hb; exact .inr ⟨e1, e2, b0, rfl, by simpa using hb.symm⟩
    have hown : ∀ b, ownB (renB i j b) = ownB b := fun b => by cases b <;> rfl
    refine (show R P W M n s' a w _ from ⟨h.grown, h.size, h.defers, fun t => hrel (h.slots t), fun x b hb => ?_, fun x y bx by_ g hxy hx hy ox oy gx => ?_, fun v hv => ⟨(h.fix v hv).1, ⟨(live 0 (Ne.symm hi0.1) (h.fix v hv).2.1.1).1, (if_neg (live 0 (Ne.symm hi0.1) (h.fix v hv).2.1.1).2).trans (h.fix v hv).2.1.2⟩, fun u hu => ⟨(live 1 (Ne.symm hi0.2) ((h.fix v hv).2.2 u hu).1).1, (if_neg (live 1 (Ne.symm hi0.2) ((h.fix v hv).2.2 u hu).1).2).trans ((h.fix v hv).2.2 u hu).2⟩⟩⟩)
    · rcases hinv x b hb with ⟨rfl, rfl⟩ | ⟨h1, h2, b0, hb0, rfl⟩
      · obtain ⟨k1, k2, k3⟩ := h.heap i _ hi
        exact ⟨k1, by simp only [if_true]; exact k2, by simp only [if_true]; exact k3⟩
      · have k := h.heap x b0 hb0
        cases b0 with
        | box e' cells =>
          obtain ⟨g, cs, k1, k2, k3, k4⟩ := k
          exact ⟨g, cs, by simp only [if_neg h1]; exact k1, k2, k3, k4.mapBoth fun x y (q : Rel P W M ρ s.heap x y) => hrel q⟩
        | row e' z' m' c' => exact ⟨k.1, by simp only [if_neg h1]; exact k.2.1, by simp only [if_neg h1]; exact k.2.2⟩
        | ros m' c' => simp only [renB, BRel, if_neg h1] at k ⊢; exact k
        | rop cells =>
          obtain ⟨g, o, k1, k2, k3⟩ := k
          refine ⟨g, o, by simp only [if_neg h1]; exact k1, k2, fun t v hv => ?_⟩
          rw [List.getElem?_map] at hv
          cases hc : cells[t]? with
          | none => rw [hc] at hv; cases hv
          | some x =>
            rw [hc] at hv
            obtain rfl : renSV i j x = v := by simpa using hv
            obtain ⟨u, hu, hr⟩ := k3 t x hc
            exact ⟨u, hu, hrel hr⟩
    · rcases hinv x bx hx with ⟨rfl, rfl⟩ | ⟨x1, x2, b0, hb0, rfl⟩ <;> rcases hinv y by_ hy with ⟨rfl, rfl⟩ | ⟨y1, y2, b1, hb1, rfl⟩
      · exact absurd rfl hxy
      · simp only [if_true] at gx
        simp only [if_neg y1]
        rw [hown] at oy
        exact h.apart i y _ b1 g (Ne.symm y2) hi hb1 rfl oy gx
      · simp only [if_true]
        simp only [if_neg x1] at gx
        rw [hown] at ox
        exact h.apart x i b0 _ g x2 hb0 hi ox rfl gx
      · simp only [if_neg x1] at gx
        simp only [if_neg y1]
        rw [hown] at ox oy
        exact h.apart x y b0 b1 g hxy hb0 hb1 ox oy gx
  · exact ⟨ρ, h⟩
theorem R.renOne (h : R P W M n s a w ρ) (x : SV) (i : Nat) : ∃ ρ', R P W M n (renOne x i s) a w ρ' := by
  unfold Ytnijajjdldijpaa.renOne
  split
  · split
    · rename_i b _ a0 _
      cases hb : Nat.beq a0 b || Nat.ble a0 1 with
      | true => exact ⟨ρ, h⟩
      | false =>
        refine h.ren _ _ ⟨fun e0 => ?_, fun e0 => ?_⟩
        · subst e0
          simp at hb
        · subst e0
          simp at hb
    · exact ⟨ρ, h⟩
  · exact ⟨ρ, h⟩
theorem R.renAll : ∀ (l : List SV) (i : Nat) {s : FSt} {ρ : Nat → Value}, R P W M n s a w ρ → ∃ ρ', R P W M n (renAll l i s) a w ρ'
  | [], i, s, ρ, h => ⟨ρ, h⟩
  | x :: l, i, s, ρ, h => by
    obtain ⟨ρ', h'⟩ := h.renOne x i
    exact R.renAll l (i + 1) h'
theorem keepSlots_get {l : List Nat} : ∀ (t : List SV) (i j : Nat) (x : SV), (keepSlots l s t i)[j]? = some x → x = .junk ∨ x = keepSV l (s.slot (i + j))
  | [], i, j, x, h => by simp [keepSlots] at h
  | y :: t, i, 0, x, h => by
    simp only [keepSlots, List.getElem?_cons_zero, Option.some.injEq] at h
    cases y <;> first | exact .inl h.symm | exact .inr h.symm
  | y :: t, i, j + 1, x, h => by
    simp only [keepSlots, List.getElem?_cons_succ] at h
    have := keepSlots_get t (i + 1) j x h
    rwa [show i + 1 + j = i + (j + 1) from by omega] at this
theorem R.norm (h : R P W M n s a w ρ) (t : Tab) : ∃ ρ', R P W M n (t.norm s).st a w ρ' := by
  obtain ⟨ρ', h'⟩ := R.renAll t.slots 0 h
  exact ⟨ρ', h'.keep _ (fun i x hx => by
    have := keepSlots_get _ _ _ _ hx
    rwa [Nat.zero_add] at this) fun _ _ => ⟨(keep_mem _).1, fun _ _ => (keep_mem _).2⟩⟩
/-! Code. -/
def Ex.to : Ex → Exit
  | .normal => .normal
  | .exit id => .exit id
  | .ret => .ret
def codeOK (S : Sums) : Code → Bool
  | .region _ ops draw => !draw || regOK S ops.toList
  | .seq a b => codeOK S a && codeOK S b
  | .cond _ a b => codeOK S a && codeOK S b
  | .block _ a => codeOK S a
  | .loop a => codeOK S a
  | _ => true
theorem exec_sim {α : Type} (hS : SumsOK P S) (hm : P.follows .mixedOrders = true) {x : α} {fu : Code → Nat} : ∀ (c : Code) (s : FSt) (k : Ex → FSt → Option α), codeOK S c = true → exec P S n fu c s k = some x → ∀ (a : Act) (w : World) (ρ : Nat → Value), R P W M n s a w ρ →
    ∀ Q : Exit → Act → World → Prop, (∀ e s' a' w' ρ', R P W M n s' a' w' ρ' → k e s' = some x → Q e.to a' w') → c.wp P Q a w := by
  intro c
  induction c with
  | skip =>
    intro s k hok h a w ρ hR Q hQ
    exact wp_skip (hQ .normal s a w ρ hR h)
  | region id ops draw =>
    intro s k hok h a w ρ hR Q hQ
    obtain ⟨sN, hst, hk⟩ := regK_steps (ops := ops.toList) (fun j o ho => by rw [Nat.zero_add]; exact ho) h
    rw [← List.range_eq_range'] at hst
    refine region_sim hS hm (fun hd => ?_) hst hR fun a' w' ρ' hR' => hQ .normal sN a' w' ρ' hR' hk
    subst hd
    simpa [codeOK] using hok
  | seq c d ihc ihd =>
    intro s k hok h a w ρ hR Q hQ
    simp only [codeOK, Bool.and_eq_true] at hok
    refine wp_seq (ihc s _ hok.1 h a w ρ hR _ fun e s' a' w' ρ' hR' hk => ?_)
    cases e with
    | normal => exact ihd s' k hok.2 hk a' w' ρ' hR' Q hQ
    | exit id => exact hQ (.exit id) s' a' w' ρ' hR' hk
    | ret => exact hQ .ret s' a' w' ρ' hR' hk
  | cond c t e iht ihe =>
    intro s k hok h a w ρ hR Q hQ
    simp only [codeOK, Bool.and_eq_true] at hok
    simp only [exec] at h
    split at h
    · rename_i b hb
      refine wp_cond (t := b) (ev_val hR hb) ?_
      split at h
      · rename_i hb'
        rw [if_pos hb']
        exact iht s k hok.1 h a w ρ hR Q hQ
      · rename_i hb'
        rw [if_neg hb']
        exact ihe s k hok.2 h a w ρ hR Q hQ
    · cases h
  | block id c ih =>
    intro s k hok h a w ρ hR Q hQ
    refine wp_block (ih s _ hok h a w ρ hR _ fun e s' a' w' ρ' hR' hk => ?_)
    cases e with
    | normal => exact hQ .normal s' a' w' ρ' hR' hk
    | exit i =>
      have hk : (bif Nat.beq i id then k .normal s' else k (.exit i) s') = some x := hk
      simp only [Ex.to, Exit.inBlock]
      cases hb : Nat.beq i id with
      | true =>
        simp only [hb, cond_true] at hk
        rw [if_pos (neq hb)]
        exact hQ .normal s' a' w' ρ' hR' hk
      | false =>
        simp only [hb, cond_false] at hk
        rw [if_neg (by rintro rfl; simp at hb)]
        exact hQ (.exit i) s' a' w' ρ' hR' hk
    | ret => exact hQ .ret s' a' w' ρ' hR' hk
  | loop c ih =>
    intro s k hok h a w ρ hR Q hQ
    have key : ∀ (f : Nat) (t : Tab) (a : Act) (w : World) (ρ : Nat → Value), R P W M n t.st a w ρ → loopK (fun s k => exec P S n fu c s k) f t k = some x → Code.rounds P c Q f a w := by
      intro f
      induction f with
      | zero => intro t a w ρ hR h; cases h
      | succ f ihf =>
        intro t a w ρ hR h
        rw [rounds_succ]
        refine ih t.st _ hok h a w ρ hR _ fun e s' a' w' ρ' hR' hk => ?_
        cases e with
        | normal =>
          obtain ⟨ρ2, hR2⟩ := hR'.norm t
          exact ihf _ a' w' ρ2 hR2 hk
        | exit id => exact hQ (.exit id) s' a' w' ρ' hR' hk
        | ret => exact hQ .ret s' a' w' ρ' hR' hk
    exact wp_loop_rounds (fu c) (key (fu c) _ a w ρ (hR.tab _) h)
  | exit id =>
    intro s k hok h a w ρ hR Q hQ
    exact wp_exit (hQ (.exit id) s a w ρ hR h)
  | ret =>
    intro s k hok h a w ρ hR Q hQ
    exact wp_ret (hQ .ret s a w ρ hR h)
  | _ =>
    intros
    rename_i h _ _ _ _ _ _
    first | cases h | skip
end

end Go.Proofs.Ytnijajjdldijpaa
