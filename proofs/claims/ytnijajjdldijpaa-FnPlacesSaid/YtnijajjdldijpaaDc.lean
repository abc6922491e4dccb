import Derived.Test.YtnijajjdldijpaaDb
set_option linter.unusedSimpArgs false
set_option linter.unusedVariables false
namespace Go.Proofs.Ytnijajjdldijpaa
open Go.RowKit
/-! Operations that may change places. -/
def SVok (H : Nat → Option Blk) : SV → Prop
  | .ptr id _ => (H id).isSome = true
  | .row id => (H id).isSome = true
  | .sub id _ _ _ => (H id).isSome = true
  | .clo _ l => ∀ i ∈ l, (H i).isSome = true
  | .tup l => ∀ id, TI.r id ∈ l → (H id).isSome = true
  | .agr l => ∀ id, TI.r id ∈ l → (H id).isSome = true
  | _ => True
def Bok (H : Nat → Option Blk) : Blk → Prop
  | .box _ l => ∀ v ∈ l, SVok H v
  | .rop l => ∀ v ∈ l, SVok H v
  | _ => True
structure WF (s : FSt) : Prop where
  slots : ∀ t, SVok s.heap (s.slot t)
  heap : ∀ id b, s.heap id = some b → Bok s.heap b
def Ag (H H' : Nat → Option Blk) : Prop := ∀ id, (H id).isSome = true → H' id = H id
def Grow (H H' : Nat → Option Blk) : Prop := ∀ id, (H id).isSome = true → (H' id).isSome = true
def cls (S : Sums) (o : Op) : Nat := match o with
  | .move _ | .assign _ | .pick .. | .unOp .. | .binOp .. | .build .. | .field .. | .convert .. | .makeFunc .. | .fieldAddr .. | .nilCheck .. | .index .. | .extract .. => 0
  | .alloc _ | .box .. | .buildSlice .. | .makeSlice .. => 0
  | .load .. | .indexAddr .. | .slice .. | .sliceToArrayPointer .. => 2
  | .call c => match c.callee with
    | .value f => match mutOf S f with
      | some (.box _) => 3
      | some _ => 4
      | none => 2
    | .builtin .len => 2
    | _ => 4
  | .store .. => 3
  | _ => 4
section
variable {P : Program} {S : Sums} {W : World} {M : MV} {n : Nat} {s s' : FSt} {a : Act} {w w' : World} {ρ ρ' : Nat → Value} {H H' : Nat → Option Blk} {o q : Oper} {r : Out}
theorem SVok.grow (h : Grow H H') {x : SV} (k : SVok H x) : SVok H' x := by
  cases x <;> first | exact h _ k | exact fun i hi => h _ (k i hi) | exact k
theorem Bok.grow (h : Grow H H') {b : Blk} (k : Bok H b) : Bok H' b := by
  cases b <;> first | exact fun v hv => (k v hv).grow h | exact k
theorem Rel.ok {x : SV} {v : Value} (h : Rel P W M ρ H x v) : SVok H x := by
  cases x with
  | ptr id off => exact h.1
  | row id => exact h.1
  | sub id off m z => exact h.1
  | clo f l =>
    obtain ⟨vs, hv, hc⟩ := h
    clear hv
    intro i hi
    induction l generalizing vs with
    | nil => cases hi
    | cons c l ih =>
      cases vs with
      | nil => cases hc
      | cons v vs =>
        rcases List.mem_cons.1 hi with rfl | hi
        · exact hc.1.1
        · exact ih vs hc.2 hi
  | tup l =>
    obtain ⟨vs, hv, hc⟩ := h
    clear hv
    intro i hi
    induction l generalizing vs with
    | nil => cases hi
    | cons c l ih =>
      cases vs with
      | nil => cases hc
      | cons v vs =>
        rcases List.mem_cons.1 hi with e | hi
        · rw [← e] at hc; exact hc.1.1
        · exact ih vs hc.2 hi
  | agr l =>
    obtain ⟨vs, hv, hc⟩ := h
    clear hv
    intro i hi
    induction l generalizing vs with
    | nil => cases hi
    | cons c l ih =>
      cases vs with
      | nil => cases hc
      | cons v vs =>
        rcases List.mem_cons.1 hi with e | hi
        · rw [← e] at hc; exact hc.1.1
        · exact ih vs hc.2 hi
  | val x => exact True.intro
  | fn g => exact True.intro
  | junk => exact True.intro
theorem R.wf (h : R P W M n s a w ρ) : WF s where
  slots := fun t => (h.slots t).ok
  heap := fun id b hb => by
    have k := h.heap id b hb
    cases b with
    | box e cells =>
      obtain ⟨g, cs, _, _, _, h4⟩ := k
      intro v hv
      obtain ⟨i, hi, rfl⟩ := List.getElem_of_mem hv
      obtain ⟨u, _, hr⟩ := h4.get (i := i) (a := cells[i]) (by simp)
      exact hr.ok
    | rop cells =>
      obtain ⟨g, o, _, _, h3⟩ := k
      intro v hv
      obtain ⟨i, hi, rfl⟩ := List.getElem_of_mem hv
      obtain ⟨u, _, hr⟩ := h3 i cells[i] (by simp)
      exact hr.ok
    | row e z m c => exact True.intro
    | ros m c => exact True.intro
theorem live_some {id : Nat} {b : Blk} (h : H id = some b) : (H id).isSome = true := by rw [h]; rfl
/-! What an operation tells depends on its operands and on blocks that are there. -/
theorem capOf_ag (ag : Ag H H') (wf : ∀ id b, H id = some b → Bok H b) {id : Nat} (hl : (H id).isSome = true) : capOf H' id = capOf H id := by
  unfold capOf
  rw [ag id hl]
  cases hb : H id with
  | none => rfl
  | some b =>
    have hok := wf id b hb
    have rowc : ∀ i, (H i).isSome = true → (match H' i with | some (.row _ _ n c) => some (PV.ps n c) | some (.ros n c) => some (.ps n c) | _ => none) = (match H i with | some (.row _ _ n c) => some (PV.ps n c) | some (.ros n c) => some (.ps n c) | _ => none) := fun i hi => by rw [ag i hi]
    cases b with
    | box e l =>
      match l, hok with
      | [], _ => rfl
      | [.row i], hok => exact rowc i (hok (.row i) (by simp))
      | [.val _], _ => rfl
      | [.ptr _ _], _ => rfl
      | [.sub _ _ _ _], _ => rfl
      | [.clo _ _], _ => rfl
      | [.fn _], _ => rfl
      | [.tup _], _ => rfl
      | [.agr _], _ => rfl
      | [.junk], _ => rfl
      | x :: _ :: _, _ => cases x <;> rfl
    | rop l =>
      match l, hok with
      | [], _ => rfl
      | [.row i], hok => exact rowc i (hok (.row i) (by simp))
      | [.val _], _ => rfl
      | [.ptr _ _], _ => rfl
      | [.sub _ _ _ _], _ => rfl
      | [.clo _ _], _ => rfl
      | [.fn _], _ => rfl
      | [.tup _], _ => rfl
      | [.agr _], _ => rfl
      | [.junk], _ => rfl
      | x :: _ :: _, _ => cases x <;> rfl
    | row e z m c => rfl
    | ros m c => rfl
theorem optMap_congr {α β : Type} {f g : α → Option β} : ∀ {l : List α}, (∀ a ∈ l, f a = g a) → optMap f l = optMap g l
  | [], _ => rfl
  | a :: l, h => by
    simp only [optMap]
    rw [h a (by simp), optMap_congr fun b hb => h b (by simp [hb])]
theorem cloFn_ag (ag : Ag H H') (wf : ∀ id b, H id = some b → Bok H b) {f : Nat} {l : List Nat} (hl : ∀ i ∈ l, (H i).isSome = true) : cloFn S H' f l = cloFn S H f l := by
  unfold cloFn
  rw [optMap_congr fun i hi => capOf_ag ag wf (hl i hi)]
theorem PVof_ag (ag : Ag H H') (wf : ∀ id b, H id = some b → Bok H b) {x : SV} (hx : SVok H x) : PVof H' (cloFn S H') x = PVof H (cloFn S H) x := by
  cases x with
  | row id => unfold PVof; dsimp only; rw [ag id hx]
  | sub id off m z => unfold PVof; dsimp only; rw [ag id hx]
  | clo f l => unfold PVof; dsimp only; rw [cloFn_ag ag wf hx]
  | val v =>
    cases v <;> try rfl
    rename_i a m c
    cases a <;> cases m <;> cases c <;> rfl
  | ptr id off => rfl
  | fn g => rfl
  | tup l => rfl
  | agr l => rfl
  | junk => rfl
theorem ld_ag (ag : Ag H H') {ga : Bool} {sz id off : Nat} (hl : (H id).isSome = true) : ld H' ga sz id off = ld H ga sz id off := by
  unfold ld; rw [ag id hl]
theorem st_ag (ag : Ag H H') {sz id off : Nat} {x : SV} (hl : (H id).isSome = true) : st H' sz id off x = st H sz id off x := by
  unfold st; rw [ag id hl]
theorem execOp_congr {f g : Operand → Value} (ho : (∃ op t x y u, o.op = .binOp op t x y u) ∨ (∃ op t x, o.op = .unOp op t x) ∨ (∃ t ps, o.op = .build t ps) ∨ (∃ t x f, o.op = .field t x f) ∨ (∃ t u x, o.op = .convert t u x))
    (hev : ∀ x ∈ o.op.operands.toList, f x = g x) : execOp f o = execOp g o := by
  rcases ho with ⟨op, t, x, y, u, ho⟩ | ⟨op, t, x, ho⟩ | ⟨t, ps, ho⟩ | ⟨t, x, k, ho⟩ | ⟨t, u, x, ho⟩
  all_goals rw [ho] at hev
  · have e1 := hev x (by simp [Op.operands]); have e2 := hev y (by simp [Op.operands])
    simp only [execOp, ho, e1, e2]
  · have e1 := hev x (by simp [Op.operands])
    simp only [execOp, ho, e1]
  · have e : (ps.map fun (i, x) => (i, f x)) = ps.map fun (i, x) => (i, g x) := by
      apply Array.map_congr_left
      intro p hp
      have := hev p.2 (by simp only [Op.operands]; simp; exact ⟨p.1, by simpa using hp⟩)
      simp [this]
    simp only [execOp, ho]
    rw [e]
  · have e1 := hev x (by simp [Op.operands])
    simp only [execOp, ho, e1]
  · have e1 := hev x (by simp [Op.operands])
    simp only [execOp, ho, e1]
theorem all_congr {α : Type} {f g : α → Bool} : ∀ {l : List α}, (∀ a ∈ l, f a = g a) → l.all f = l.all g
  | [], _ => rfl
  | a :: l, h => by
    simp only [List.all_cons]
    rw [h a (by simp), all_congr fun b hb => h b (by simp [hb])]
theorem opVal_ag (ho : (∃ op t x y u, o.op = .binOp op t x y u) ∨ (∃ op t x, o.op = .unOp op t x) ∨ (∃ t ps, o.op = .build t ps) ∨ (∃ t x f, o.op = .field t x f) ∨ (∃ t u x, o.op = .convert t u x))
    (hev : ∀ x ∈ o.op.operands.toList, s'.ev x = s.ev x) : opVal P s' o = opVal P s o := by
  unfold opVal
  rw [all_congr (g := fun x => (s.ev x).isVal) fun x hx => by rw [hev x hx], execOp_congr ho (g := s.evV) fun x hx => by unfold FSt.evV; rw [hev x hx]]
theorem WF.ev (wf : WF s) (x : Operand) : SVok s.heap (s.ev x) := by
  cases x with
  | tmp t => exact wf.slots t
  | const v => exact True.intro
  | global g => exact True.intro
  | func f => exact fun i hi => by cases hi
theorem bcOf_ag {H H' : Nat → Option Blk} (ag : Ag H H') {x : SV} (k : SVok H x) : bcOf H' x = bcOf H x := by
  cases x with
  | row id => unfold bcOf; dsimp only; rw [ag id k]
  | _ => rfl
theorem pvB_ag {H H' : Nat → Option Blk} (ag : Ag H H') {x : SV} (k : SVok H x) : pvB H' x = pvB H x := by
  cases x with
  | row id => unfold pvB; dsimp only; rw [ag id k]
  | _ => rfl
theorem boxOut_ag (ag : Ag s.heap s'.heap) (wf : WF s) {run : PRun} {l : List SV} (hl : ∀ x ∈ l, SVok s.heap x) : boxOut s' run l = boxOut s run l := by
  unfold boxOut
  split
  · rename_i id xs
    have h0 : s'.heap id = s.heap id := ag id (hl _ List.mem_cons_self)
    rw [h0]
    cases hb : s.heap id with
    | none => rfl
    | some b =>
      cases b with
      | box e cells =>
        dsimp only
        rw [optMap_congr (g := bcOf s.heap) fun x hx => bcOf_ag ag (wf.heap id _ hb x hx), optMap_congr (g := pvB s.heap) fun x hx => pvB_ag ag (hl x (List.mem_cons_of_mem _ hx))]
      | _ => rfl
  · rfl
theorem opOut_ag (hev : ∀ x ∈ o.op.operands.toList, s'.ev x = s.ev x) (h : cls S o.op = 0 ∨ (Ag s.heap s'.heap ∧ WF s)) (hc : cls S o.op ≠ 4) : opOut P S s' o = opOut P S s o := by
  unfold opOut
  cases ho : o.op <;> rw [ho] at hev h hc <;> dsimp only
  case move x => rw [hev x (by simp [Op.operands])]
  case assign x => rw [hev x (by simp [Op.operands])]
  case pick c x y => rw [hev c (by simp [Op.operands]), hev x (by simp [Op.operands]), hev y (by simp [Op.operands])]
  case box e x => rw [hev x (by simp [Op.operands])]
  case buildSlice t len ps =>
    have e1 : (ps.toList.all fun x => (s'.ev x.2).isVal) = ps.toList.all fun x => (s.ev x.2).isVal := all_congr fun x hx => by
      rw [hev x.2 (by simp only [Op.operands]; simp; exact ⟨x.1, by simpa using hx⟩)]
    have e2 : (ps.map fun (i, x) => (i, s'.evV x)) = ps.map fun (i, x) => (i, s.evV x) := by
      apply Array.map_congr_left
      intro p hp
      have := hev p.2 (by simp only [Op.operands]; simp; exact ⟨p.1, by simpa using hp⟩)
      simp [FSt.evV, this]
    rw [e1, e2]
  case load t x =>
    obtain ⟨ag, wf⟩ := h.resolve_left (by simp [cls])
    rw [hev x (by simp [Op.operands])]
    have hx := wf.ev x
    cases hxe : s.ev x <;> try rfl
    rename_i id off
    rw [hxe] at hx
    try dsimp only
    cases semOnly P (isAgg t) <;> try rfl
    cases semOnly P (sizeOf t) <;> try rfl
    exact ld_ag ag hx
  case store t x y =>
    obtain ⟨ag, wf⟩ := h.resolve_left (by simp [cls])
    rw [hev x (by simp [Op.operands]), hev y (by simp [Op.operands])]
    have hx := wf.ev x
    cases hxe : s.ev x <;> try rfl
    rename_i id off
    rw [hxe] at hx
    try dsimp only
    cases o.dst <;> try rfl
    cases semOnly P (sizeOf t) <;> try rfl
    exact st_ag ag hx
  case binOp op t x y u =>
    unfold opBin
    rw [hev x (by simp [Op.operands]), hev y (by simp [Op.operands]), opVal_ag (.inl ⟨_, _, _, _, _, ho⟩) (by rw [ho]; exact hev)]
  case unOp op t x => exact opVal_ag (.inr (.inl ⟨_, _, _, ho⟩)) (by rw [ho]; exact hev)
  case build t ps =>
    rw [opVal_ag (.inr (.inr (.inl ⟨_, _, ho⟩))) (by rw [ho]; exact hev)]
    have hag : agrOut P s' t ps.toList = agrOut P s t ps.toList := by
      have hev' : ∀ q ∈ ps.toList, s'.ev q.2 = s.ev q.2 := fun q hq => hev q.2 (by simp only [Op.operands]; simp; exact ⟨q.1, by simpa using hq⟩)
      generalize ps.toList = l at hev'
      cases l with
      | nil => rfl
      | cons q rest =>
        obtain ⟨i, x⟩ := q
        have hx := hev' (i, x) List.mem_cons_self
        dsimp only at hx
        have h1 : (rest.all fun q => (s'.ev q.2).isVal) = rest.all fun q => (s.ev q.2).isVal := by
          rw [Bool.eq_iff_iff, List.all_eq_true, List.all_eq_true]
          exact forall_congr' fun q => forall_congr' fun hq => by rw [hev' q (List.mem_cons_of_mem _ hq)]
        have h2 : (rest.map fun q => (q.1, s'.evV q.2)) = rest.map fun q => (q.1, s.evV q.2) := by
          apply List.map_congr_left
          intro q hq
          unfold FSt.evV
          rw [hev' q (List.mem_cons_of_mem _ hq)]
        unfold agrOut
        dsimp only
        rw [hx, h1, h2]
    rw [hag]
  case field t x f => exact opVal_ag (.inr (.inr (.inr (.inl ⟨_, _, _, ho⟩)))) (by rw [ho]; exact hev)
  case convert t u x => exact opVal_ag (.inr (.inr (.inr (.inr ⟨_, _, _, ho⟩)))) (by rw [ho]; exact hev)
  case makeFunc fn first captured =>
    cases fn <;> try rfl
    try dsimp only
    rw [optMap_congr fun x hx => by rw [hev x (by simp only [Op.operands]; simp; exact .inr (by simpa using hx))]]
  case makeSlice t x y => rw [hev x (by simp [Op.operands]), hev y (by simp [Op.operands])]
  case fieldAddr t x f => rw [hev x (by simp [Op.operands])]
  case index t x i => rw [hev x (by simp [Op.operands]), hev i (by simp [Op.operands])]
  case extract x i => rw [hev x (by simp [Op.operands])]
  case indexAddr t x i =>
    obtain ⟨ag, wf⟩ := h.resolve_left (by simp [cls])
    rw [hev x (by simp [Op.operands]), hev i (by simp [Op.operands])]
    have hx := wf.ev x
    generalize s.ev x = X at hx ⊢
    generalize s.ev i = I
    generalize P.underlying t = D
    cases X <;> try rfl
    all_goals
      cases I <;> try rfl
      rename_i v
      cases v <;> try rfl
      cases D <;> try rfl
      rename_i d
      cases d <;> try rfl
    rename_i id _ _ _
    simp only
    rw [ag id hx]
  case nilCheck x => rw [hev x (by simp [Op.operands])]
  case sliceToArrayPointer t x =>
    obtain ⟨ag, wf⟩ := h.resolve_left (by simp [cls])
    rw [hev x (by simp [Op.operands])]
    have hx := wf.ev x
    generalize s.ev x = X at hx ⊢
    generalize P.underlying t = D
    cases X <;> try rfl
    cases D <;> try rfl
    rename_i d
    cases d <;> try rfl
    rename_i id _ _
    simp only
    rw [ag id hx]
  case slice t x lo hi mx =>
    obtain ⟨ag, wf⟩ := h.resolve_left (by simp [cls])
    rw [hev x (by simp [Op.operands])]
    have hx := wf.ev x
    generalize s.ev x = X at hx ⊢
    generalize P.underlying t = D
    have hh : ∀ y, hi = some y → s'.ev y = s.ev y := fun y hy => hev y (by simp [Op.operands, hy])
    clear ho hev
    cases X <;> try rfl
    all_goals
      cases lo <;> try rfl
      cases hi <;> try rfl
      all_goals (cases mx <;> try rfl)
      all_goals (cases D <;> try rfl)
      all_goals (rename_i d; cases d <;> try rfl)
    all_goals first | (simp only [hh _ rfl]; done) | (rename_i id _ _; simp only; rw [ag id hx]; done) | (rename_i id _; simp only; rw [ag id hx]; done)
  case call c =>
    have hargs : ∀ x ∈ c.args.toList, s'.ev x = s.ev x := fun x hx => hev x (by simp only [Op.operands, Call.operands]; simp; exact .inr (by simpa using hx))
    have hmap : c.args.toList.map s'.ev = c.args.toList.map s.ev := List.map_congr_left hargs
    cases hcc : c.callee with
    | value f =>
      cases hm : mutOf S f with
      | some run =>
        cases run with
        | box run =>
          obtain ⟨ag, wf⟩ := h.resolve_left (by simp [cls, hcc, hm])
          try dsimp only
          rw [hmap, hm]
          exact boxOut_ag ag wf fun x hx => by
            obtain ⟨y, _, rfl⟩ := List.mem_map.1 hx
            exact wf.ev y
        | _ => exact absurd (by simp [cls, hcc, hm]) hc
      | none =>
      obtain ⟨ag, wf⟩ := h.resolve_left (by simp [cls, hcc, hm])
      have hf := hev f (by simp [Op.operands, Call.operands, hcc])
      try dsimp only
      rw [hf, hmap, hm]
      try dsimp only
      have hfx := wf.ev f
      cases hfe : s.ev f <;> try rfl
      rename_i g caps
      rw [hfe] at hfx
      try dsimp only
      rw [optMap_congr (g := fun x => PVof s.heap (cloFn S s.heap) (s.ev x)) fun x hx => by rw [hargs x hx, PVof_ag ag wf.heap (wf.ev x)], optMap_congr fun i hi => capOf_ag ag wf.heap (hfx i hi)]
    | invoke x m => rfl
    | builtin b =>
      cases b <;> try rfl
      · exact absurd (by simp [cls, hcc]) hc
      · obtain ⟨ag, wf⟩ := h.resolve_left (by simp [cls, hcc])
        dsimp only
        rw [hmap]
        generalize c.argTypes.toList = ts
        cases hq : c.args.toList with
        | nil => rfl
        | cons X l =>
          have hx := wf.ev X
          simp only [List.map_cons]
          generalize s.ev X = X at hx
          cases l with
          | cons Y l =>
            simp only [List.map_cons]
          | nil =>
            simp only [List.map_nil]
            match ts with
            | [] => cases X with
              | val v => cases v <;> rfl
              | _ => rfl
            | t :: u :: ts => cases X with
              | val v => cases v <;> rfl
              | _ => rfl
            | [t] => cases X with
              | val v => cases v <;> rfl
              | row id => simp only; rw [ag id hx]
              | _ => rfl
end

end Go.Proofs.Ytnijajjdldijpaa
