import Derived.Test.YtfclaacaphpoaaaDb
set_option linter.unusedSimpArgs false
set_option linter.unusedVariables false
namespace Go.Proofs.Ytfclaacaphpoaaa
open Go.RowKit
def SVok (H : Nat -> Option Blk) : SV -> Prop
 | .ptr id _ => (H id).isSome = true
 | .row id => (H id).isSome = true
 | .sub id _ _ _ => (H id).isSome = true
 | .clo _ l => ∀ i ∈ l, (H i).isSome = true
 | .tup l => ∀ id, TI.r id ∈ l -> (H id).isSome = true
 | .agr l => ∀ id, TI.r id ∈ l -> (H id).isSome = true
 | _ => True
def Bok (H : Nat -> Option Blk) : Blk -> Prop
 | .box _ l => ∀ v ∈ l, SVok H v
 | .rop l => ∀ v ∈ l, SVok H v
 | _ => True
structure WF (s : FSt) : Prop where
 slots : ∀ t, SVok s.heap (s.slot t)
 heap : ∀ id b, s.heap id = some b -> Bok s.heap b
def Ag (H H' : Nat -> Option Blk) : Prop := ∀ id, (H id).isSome = true -> H' id = H id
def Grow (H H' : Nat -> Option Blk) : Prop := ∀ id, (H id).isSome = true -> (H' id).isSome = true
def cls (S : Sums) (o : Op) : Nat := match o with
 | .move _ | .assign _ | .pick .. | .unOp .. | .binOp .. | .build .. | .field .. | .makeFunc .. | .fieldAddr .. | .nilCheck .. | .index .. | .extract .. => 0
 | .alloc _ | .box .. | .makeSlice .. => 0
 | .buildSlice .. => bif S.z then 2 else 0
 | .load .. | .convert .. | .indexAddr .. | .slice .. | .sliceToArrayPointer .. => 2
 | .call c => match c.callee with
  | .value f => match Z7X S f with
   | some (.box _) => 3
   | some _ => 4
   | none => 2
  | .builtin .len => 2
  | .builtin .max => 2
  | .builtin .min => 2
  | _ => 4
 | .store .. => 3
 | _ => 4
section
variable {P : Program} {S : Sums} {W : World} {M : MV} {n : Nat} {s s' : FSt} {a : Act} {w w' : World} {ρ ρ' : Nat -> Value} {H H' : Nat -> Option Blk} {o q : Oper} {r : Out}
theorem SVok.grow (h : Grow H H') {x : SV} (k : SVok H x) : SVok H' x := by
 cases x <;> first | exact h _ k | exact fun i hi => h _ (k i hi) | exact k
theorem Bok.grow (h : Grow H H') {b : Blk} (k : Bok H b) : Bok H' b := by
 cases b <;> first | exact fun v hv => (k v hv).grow h | exact k
theorem Rel.ok {x : SV} {v : Value} (h : Rel P W M ρ H x v) : SVok H x := by
 cases x with
 | ptr id off => exact h.1
 | row id => exact h.1
 | sub id off m z => exact h.1
 | clo f l =>
  obtain ⟨vs, hv, hc⟩ := h
  clear hv
  intro i hi
  induction l generalizing vs with
  | nil => cases hi
  | cons c l ih =>
   cases vs with
   | nil => cases hc
   | cons v vs =>
    rcases List.mem_cons.1 hi with rfl | hi
    ·exact hc.1.1
    ·exact ih vs hc.2 hi
 | tup l =>
  obtain ⟨vs, hv, hc⟩ := h
  clear hv
  intro i hi
  induction l generalizing vs with
  | nil => cases hi
  | cons c l ih =>
   cases vs with
   | nil => cases hc
   | cons v vs =>
    rcases List.mem_cons.1 hi with e | hi
    ·rw [<- e] at hc; exact hc.1.1
    ·exact ih vs hc.2 hi
 | agr l =>
  obtain ⟨vs, hv, hc⟩ := h
  clear hv
  intro i hi
  induction l generalizing vs with
  | nil => cases hi
  | cons c l ih =>
   cases vs with
   | nil => cases hc
   | cons v vs =>
    rcases List.mem_cons.1 hi with e | hi
    ·rw [<- e] at hc; exact hc.1.1
    ·exact ih vs hc.2 hi
 | val x => exact True.intro
 | fn g => exact True.intro
 | junk => exact True.intro
theorem R.wf (h : R P W M n s a w ρ) : WF s where
 slots := fun t => (h.slots t).ok
 heap := fun id b hb => by
  have k := h.heap id b hb
  cases b with
  | box e cells =>
   obtain ⟨g, cs, _, _, _, h4⟩ := k
   intro v hv
   obtain ⟨i, hi, rfl⟩ := List.getElem_of_mem hv
   obtain ⟨u, _, hr⟩ := h4.get (i := i) (a := cells[i]) (by simp)
   exact hr.ok
  | rop cells =>
   obtain ⟨g, o, _, _, h3⟩ := k
   intro v hv
   obtain ⟨i, hi, rfl⟩ := List.getElem_of_mem hv
   obtain ⟨u, _, hr⟩ := h3 i cells[i] (by simp)
   exact hr.ok
  | row e z m c => exact True.intro
  | ros m c => exact True.intro
  | fro fr m c => exact True.intro
  | dee own fr e ls => exact True.intro
theorem Zi4 {id : Nat} {b : Blk} (h : H id = some b) : (H id).isSome = true := by rw [h]; rfl
theorem ZpU (ag : Ag H H') (wf : ∀ id b, H id = some b -> Bok H b) {id : Nat} (hl : (H id).isSome = true) : Zfh H' id = Zfh H id := by
 unfold Zfh
 rw [ag id hl]
 cases hb : H id with
 | none => rfl
 | some b =>
  have hok := wf id b hb
  have rowc : ∀ i, (H i).isSome = true -> (match H' i with | some (.row _ _ n c) => some (PV.ps n c) | some (.ros n c) => some (.ps n c) | _ => none) = (match H i with | some (.row _ _ n c) => some (PV.ps n c) | some (.ros n c) => some (.ps n c) | _ => none) := fun i hi => by rw [ag i hi]
  cases b with
  | box e l =>
   match l, hok with
   | [], _ => rfl
   | [.row i], hok => exact rowc i (hok (.row i) (by simp))
   | [.val _], _ => rfl
   | [.ptr _ _], _ => rfl
   | [.sub _ _ _ _], _ => rfl
   | [.clo _ _], _ => rfl
   | [.fn _], _ => rfl
   | [.tup _], _ => rfl
   | [.agr _], _ => rfl
   | [.junk], _ => rfl
   | x :: _ :: _, _ => cases x <;> rfl
  | rop l =>
   match l, hok with
   | [], _ => rfl
   | [.row i], hok => exact rowc i (hok (.row i) (by simp))
   | [.val _], _ => rfl
   | [.ptr _ _], _ => rfl
   | [.sub _ _ _ _], _ => rfl
   | [.clo _ _], _ => rfl
   | [.fn _], _ => rfl
   | [.tup _], _ => rfl
   | [.agr _], _ => rfl
   | [.junk], _ => rfl
   | x :: _ :: _, _ => cases x <;> rfl
  | row e z m c => rfl
  | ros m c => rfl
  | fro fr m c => rfl
  | dee own fr e ls => rfl
theorem Z5w {α β : Type} {f g : α -> Option β} : ∀ {l : List α}, (∀ a ∈ l, f a = g a) -> Z1N f l = Z1N g l
 | [], _ => rfl
 | a :: l, h => by
  simp only [Z1N]
  rw [h a (by simp), Z5w fun b hb => h b (by simp [hb])]
theorem Zux (ag : Ag H H') (wf : ∀ id b, H id = some b -> Bok H b) {f : Nat} {l : List Nat} (hl : ∀ i ∈ l, (H i).isSome = true) : Zao S H' f l = Zao S H f l := by
 unfold Zao
 rw [Z5w fun i hi => ZpU ag wf (hl i hi)]
theorem Zsi (ag : Ag H H') (wf : ∀ id b, H id = some b -> Bok H b) {x : SV} (hx : SVok H x) : PVof H' (Zao S H') x = PVof H (Zao S H) x := by
 cases x with
 | row id => unfold PVof; dsimp only; rw [ag id hx]
 | sub id off m z => unfold PVof; dsimp only; rw [ag id hx]
 | clo f l => unfold PVof; dsimp only; rw [Zux ag wf hx]
 | val v =>
  cases v <;> try rfl
  rename_i a m c
  cases a <;> cases m <;> cases c <;> rfl
 | ptr id off => rfl
 | fn g => rfl
 | tup l => rfl
 | agr l => rfl
 | junk => rfl
theorem ZxC (ag : Ag H H') {ga : Bool} {sz id off : Nat} (hl : (H id).isSome = true) : ld H' ga sz id off = ld H ga sz id off := by
 unfold ld; rw [ag id hl]
theorem ZxK (ag : Ag H H') {sz id off : Nat} {x : SV} (hl : (H id).isSome = true) : st H' sz id off x = st H sz id off x := by
 unfold st; rw [ag id hl]
theorem ZoP {f g : Operand -> Value} (ho : (∃ op t x y u, o.op = .binOp op t x y u) \/ (∃ op t x, o.op = .unOp op t x) \/ (∃ t ps, o.op = .build t ps) \/ (∃ t x f, o.op = .field t x f) \/ (∃ t u x, o.op = .convert t u x))
  (hev : ∀ x ∈ o.op.operands.toList, f x = g x) : execOp f o = execOp g o := by
 rcases ho with ⟨op, t, x, y, u, ho⟩ | ⟨op, t, x, ho⟩ | ⟨t, ps, ho⟩ | ⟨t, x, k, ho⟩ | ⟨t, u, x, ho⟩
 all_goals rw [ho] at hev
 ·have e1 := hev x (by simp [Op.operands]); have e2 := hev y (by simp [Op.operands])
  simp only [execOp, ho, e1, e2]
 ·have e1 := hev x (by simp [Op.operands])
  simp only [execOp, ho, e1]
 ·have e : (ps.map fun (i, x) => (i, f x)) = ps.map fun (i, x) => (i, g x) := by
   apply Array.map_congr_left
   intro p hp
   have := hev p.2 (by simp only [Op.operands]; simp; exact ⟨p.1, by simpa using hp⟩)
   simp [this]
  simp only [execOp, ho]
  rw [e]
 ·have e1 := hev x (by simp [Op.operands])
  simp only [execOp, ho, e1]
 ·have e1 := hev x (by simp [Op.operands])
  simp only [execOp, ho, e1]
theorem ZhO {α : Type} {f g : α -> Bool} : ∀ {l : List α}, (∀ a ∈ l, f a = g a) -> l.all f = l.all g
 | [], _ => rfl
 | a :: l, h => by
  simp only [List.all_cons]
  rw [h a (by simp), ZhO fun b hb => h b (by simp [hb])]
theorem Zbt (ho : (∃ op t x y u, o.op = .binOp op t x y u) \/ (∃ op t x, o.op = .unOp op t x) \/ (∃ t ps, o.op = .build t ps) \/ (∃ t x f, o.op = .field t x f) \/ (∃ t u x, o.op = .convert t u x))
  (hev : ∀ x ∈ o.op.operands.toList, s'.ev x = s.ev x) : ZcL P s' o = ZcL P s o := by
 unfold ZcL
 rw [ZhO (g := fun x => (s.ev x).isVal) fun x hx => by rw [hev x hx], ZoP ho (g := s.evV) fun x hx => by unfold FSt.evV; rw [hev x hx]]
theorem WF.ev (wf : WF s) (x : Operand) : SVok s.heap (s.ev x) := by
 cases x with
 | tmp t => exact wf.slots t
 | const v => exact True.intro
 | global g => exact True.intro
 | func f => exact fun i hi => by cases hi
theorem ZvW {H H' : Nat -> Option Blk} (ag : Ag H H') {x : SV} (k : SVok H x) : bcOf H' x = bcOf H x := by
 cases x with
 | row id => unfold bcOf; dsimp only; rw [ag id k]
 | _ => rfl
theorem Zxq {H H' : Nat -> Option Blk} (ag : Ag H H') {x : SV} (k : SVok H x) : pvB H' x = pvB H x := by
 cases x with
 | row id => unfold pvB; dsimp only; rw [ag id k]
 | _ => rfl
theorem ZtA (ag : Ag s.heap s'.heap) (wf : WF s) {run : PRun} {l : List SV} (hl : ∀ x ∈ l, SVok s.heap x) : Z89 s' run l = Z89 s run l := by
 unfold Z89
 split
 ·rename_i id xs
  have h0 : s'.heap id = s.heap id := ag id (hl _ List.mem_cons_self)
  rw [h0]
  cases hb : s.heap id with
  | none => rfl
  | some b =>
   cases b with
   | box e cells =>
    dsimp only
    rw [Z5w (g := bcOf s.heap) fun x hx => ZvW ag (wf.heap id _ hb x hx), Z5w (g := pvB s.heap) fun x hx => Zxq ag (hl x (List.mem_cons_of_mem _ hx))]
   | _ => rfl
 ·rfl
theorem Zif (hev : ∀ x ∈ o.op.operands.toList, s'.ev x = s.ev x) (h : cls S o.op = 0 \/ (Ag s.heap s'.heap /\ WF s)) (hc : cls S o.op ≠ 4) : Z1f P S s' o = Z1f P S s o := by
 unfold Z1f
 cases ho : o.op <;> rw [ho] at hev h hc <;> dsimp only
 case move x => rw [hev x (by simp [Op.operands])]
 case assign x => rw [hev x (by simp [Op.operands])]
 case pick c x y => rw [hev c (by simp [Op.operands]), hev x (by simp [Op.operands]), hev y (by simp [Op.operands])]
 case box e x => rw [hev x (by simp [Op.operands])]
 case buildSlice t len ps =>
  have e1 : (ps.toList.all fun x => (s'.ev x.2).isVal) = ps.toList.all fun x => (s.ev x.2).isVal := ZhO fun x hx => by
   rw [hev x.2 (by simp only [Op.operands]; simp; exact ⟨x.1, by simpa using hx⟩)]
  have e2 : (ps.map fun (i, x) => (i, s'.evV x)) = ps.map fun (i, x) => (i, s.evV x) := by
   apply Array.map_congr_left
   intro p hp
   have := hev p.2 (by simp only [Op.operands]; simp; exact ⟨p.1, by simpa using hp⟩)
   simp [FSt.evV, this]
  rw [e1, e2]
 case load t x =>
  obtain ⟨ag, wf⟩ := h.resolve_left (by simp [cls])
  rw [hev x (by simp [Op.operands])]
  cases ZdE x <;> try rfl
  have hx := wf.ev x
  cases hxe : s.ev x <;> try rfl
  rename_i id off
  rw [hxe] at hx
  try dsimp only
  cases Zu P (isAgg t) <;> try rfl
  cases Zu P (sizeOf t) <;> try rfl
  exact ZxC ag hx
 case store t x y =>
  obtain ⟨ag, wf⟩ := h.resolve_left (by simp [cls])
  rw [hev x (by simp [Op.operands]), hev y (by simp [Op.operands])]
  have hx := wf.ev x
  cases hxe : s.ev x <;> try rfl
  rename_i id off
  rw [hxe] at hx
  try dsimp only
  cases o.dst <;> try rfl
  cases Zu P (sizeOf t) <;> try rfl
  exact ZxK ag hx
 case binOp op t x y u =>
  unfold ZdQ
  rw [hev x (by simp [Op.operands]), hev y (by simp [Op.operands]), Zbt (.inl ⟨_, _, _, _, _, ho⟩) (by rw [ho]; exact hev)]
 case unOp op t x => exact Zbt (.inr (.inl ⟨_, _, _, ho⟩)) (by rw [ho]; exact hev)
 case build t ps =>
  rw [Zbt (.inr (.inr (.inl ⟨_, _, ho⟩))) (by rw [ho]; exact hev)]
  have hag : ZfG P s' t ps.toList = ZfG P s t ps.toList := by
   have hev' : ∀ q ∈ ps.toList, s'.ev q.2 = s.ev q.2 := fun q hq => hev q.2 (by simp only [Op.operands]; simp; exact ⟨q.1, by simpa using hq⟩)
   generalize ps.toList = l at hev'
   cases l with
   | nil => rfl
   | cons q rest =>
    obtain ⟨i, x⟩ := q
    have hx := hev' (i, x) List.mem_cons_self
    dsimp only at hx
    have h1 : (rest.all fun q => (s'.ev q.2).isVal) = rest.all fun q => (s.ev q.2).isVal := by
     rw [Bool.eq_iff_iff, List.all_eq_true, List.all_eq_true]
     exact forall_congr' fun q => forall_congr' fun hq => by rw [hev' q (List.mem_cons_of_mem _ hq)]
    have h2 : (rest.map fun q => (q.1, s'.evV q.2)) = rest.map fun q => (q.1, s.evV q.2) := by
     apply List.map_congr_left
     intro q hq
     unfold FSt.evV
     rw [hev' q (List.mem_cons_of_mem _ hq)]
    unfold ZfG
    dsimp only
    rw [hx, h1, h2]
  rw [hag]
 case field t x f => exact Zbt (.inr (.inr (.inr (.inl ⟨_, _, _, ho⟩)))) (by rw [ho]; exact hev)
 case convert t u x =>
  obtain ⟨ag, wf⟩ := h.resolve_left (by simp [cls])
  have hv := Zbt (P := P) (s := s) (s' := s') (o := o) (.inr (.inr (.inr (.inr ⟨_, _, _, ho⟩)))) (by rw [ho]; exact hev)
  rw [hev x (by simp [Op.operands])]
  have hx := wf.ev x
  generalize s.ev x = X at hx ⊢
  cases X <;> try exact hv
  rename_i id
  simp only [Zrc]
  rw [ag id hx]
 case makeFunc fn first captured =>
  cases fn <;> try rfl
  try dsimp only
  rw [Z5w fun x hx => by rw [hev x (by simp only [Op.operands]; simp; exact .inr (by simpa using hx))]]
 case makeSlice t x y => rw [hev x (by simp [Op.operands]), hev y (by simp [Op.operands])]
 case fieldAddr t x f => rw [hev x (by simp [Op.operands])]
 case index t x i => rw [hev x (by simp [Op.operands]), hev i (by simp [Op.operands])]
 case extract x i => rw [hev x (by simp [Op.operands])]
 case indexAddr t x i =>
  obtain ⟨ag, wf⟩ := h.resolve_left (by simp [cls])
  rw [hev x (by simp [Op.operands]), hev i (by simp [Op.operands])]
  have hx := wf.ev x
  generalize s.ev x = X at hx ⊢
  generalize s.ev i = I
  generalize P.underlying t = D
  cases X <;> try rfl
  all_goals
   cases I <;> try rfl
   rename_i v
   cases v <;> try rfl
   cases D <;> try rfl
   rename_i d
   cases d <;> try rfl
  rename_i id _ _ _
  simp only
  rw [ag id hx]
 case nilCheck x => rw [hev x (by simp [Op.operands])]
 case sliceToArrayPointer t x =>
  obtain ⟨ag, wf⟩ := h.resolve_left (by simp [cls])
  rw [hev x (by simp [Op.operands])]
  have hx := wf.ev x
  generalize s.ev x = X at hx ⊢
  generalize P.underlying t = D
  cases X <;> try rfl
  cases D <;> try rfl
  rename_i d
  cases d <;> try rfl
  rename_i id _ _
  simp only
  rw [ag id hx]
 case slice t x lo hi mx =>
  obtain ⟨ag, wf⟩ := h.resolve_left (by simp [cls])
  rw [hev x (by simp [Op.operands])]
  have hx := wf.ev x
  generalize s.ev x = X at hx ⊢
  generalize P.underlying t = D
  have hh : ∀ y, hi = some y -> s'.ev y = s.ev y := fun y hy => hev y (by simp [Op.operands, hy])
  have hg : ∀ y, lo = some y -> s'.ev y = s.ev y := fun y hy => hev y (by simp [Op.operands, hy])
  have b1 : ∀ d, Z51 s' d lo = Z51 s d lo := fun d => by
   cases lo with
   | none => rfl
   | some y => simp only [Z51, hg y rfl]
  have b2 : ∀ d, Z51 s' d hi = Z51 s d hi := fun d => by
   cases hi with
   | none => rfl
   | some y => simp only [Z51, hh y rfl]
  have b3 : ∀ b, Z6O s' b lo hi = Z6O s b lo hi := fun b => by
   unfold Z6O
   rw [b1, b2]
  have b4 : ∀ id e, (s.heap id).isSome = true -> Z6N P s' id lo hi e = Z6N P s id lo hi e := fun id e hl => by
   unfold Z6N
   rw [ag id hl]
   simp only [b1, b2]
  clear ho hev hg b1 b2
  cases X with
  | row id =>
   have b4 := fun e => b4 id e hx
   cases lo <;> cases hi <;> cases mx <;> try rfl
   all_goals (cases D <;> try rfl)
   all_goals (rename_i d; cases d <;> try rfl)
   all_goals first | (simp only; rw [ag id hx]; done) | (simp only [b4]; done)
  | val v =>
   cases v <;> try rfl
   cases lo <;> cases hi <;> cases mx <;> try rfl
   all_goals (cases D <;> try rfl)
   all_goals (rename_i d; cases d <;> try rfl)
   all_goals (simp only [b3]; done)
  | ptr id off =>
   cases lo <;> cases hi <;> cases mx <;> try rfl
   all_goals (cases D <;> try rfl)
   all_goals (rename_i d; cases d <;> try rfl)
   all_goals (simp only [hh _ rfl]; done)
  | _ => rfl
 case call c =>
  have hargs : ∀ x ∈ c.args.toList, s'.ev x = s.ev x := fun x hx => hev x (by simp only [Op.operands, Call.operands]; simp; exact .inr (by simpa using hx))
  have hmap : c.args.toList.map s'.ev = c.args.toList.map s.ev := List.map_congr_left hargs
  cases hcc : c.callee with
  | value f =>
   cases hm : Z7X S f with
   | some run =>
    cases run with
    | box run =>
     obtain ⟨ag, wf⟩ := h.resolve_left (by simp [cls, hcc, hm])
     try dsimp only
     rw [hmap, hm]
     exact ZtA ag wf fun x hx => by
      obtain ⟨y, _, rfl⟩ := List.mem_map.1 hx
      exact wf.ev y
    | _ => exact absurd (by simp [cls, hcc, hm]) hc
   | none =>
   obtain ⟨ag, wf⟩ := h.resolve_left (by simp [cls, hcc, hm])
   have hf := hev f (by simp [Op.operands, Call.operands, hcc])
   try dsimp only
   rw [hf, hmap, hm]
   try dsimp only
   have hfx := wf.ev f
   cases hfe : s.ev f <;> try rfl
   rename_i g caps
   rw [hfe] at hfx
   try dsimp only
   rw [Z5w (g := fun x => PVof s.heap (Zao S s.heap) (s.ev x)) fun x hx => by rw [hargs x hx, Zsi ag wf.heap (wf.ev x)], Z5w fun i hi => ZpU ag wf.heap (hfx i hi)]
  | invoke x m => rfl
  | builtin b =>
   cases b <;> try rfl
   ·exact absurd (by simp [cls, hcc]) hc
   ·obtain ⟨ag, wf⟩ := h.resolve_left (by simp [cls, hcc])
    dsimp only
    rw [hmap]
    generalize c.argTypes.toList = ts
    cases hq : c.args.toList with
    | nil => rfl
    | cons X l =>
     have hx := wf.ev X
     simp only [List.map_cons]
     generalize s.ev X = X at hx
     cases l with
     | cons Y l =>
      simp only [List.map_cons]
     | nil =>
      simp only [List.map_nil]
      match ts with
      | [] => cases X with
       | val v => cases v <;> rfl
       | _ => rfl
      | t :: u :: ts => cases X with
       | val v => cases v <;> rfl
       | _ => rfl
      | [t] => cases X with
       | val v => cases v <;> rfl
       | row id => simp only; rw [ag id hx]
       | _ => rfl
   ·dsimp only
    rw [hmap]
   ·dsimp only
    rw [hmap]
theorem Zr0 (ag : Ag H H') {x : SV} (k : SVok H x) : ZlT H' x = ZlT H x := by
 cases x with
 | row id => unfold ZlT; dsimp only; rw [ag id k]
 | _ => rfl
theorem Zxi (hz : S.z = true) (hev : ∀ x ∈ o.op.operands.toList, s'.ev x = s.ev x) (h : cls S o.op = 0 \/ (Ag s.heap s'.heap /\ WF s)) (hc : cls S o.op ≠ 4) : opD P S s' o = opD P S s o := by
 have h0 := Zif (P := P) hev h hc
 unfold opD
 cases ho : o.op <;> rw [ho] at hev h hc <;> cases hdst : o.dst <;> try rfl
 case buildSlice.some t len parts d =>
  obtain ⟨ag, wf⟩ := h.resolve_left (by simp [cls, hz])
  dsimp only
  have hb : ZaU P s' d t len parts.toList = ZaU P s d t len parts.toList := by
   have hev' : ∀ q ∈ parts.toList, s'.ev q.2 = s.ev q.2 := fun q hq => hev q.2 (by simp only [Op.operands]; simp; exact ⟨q.1, by simpa using hq⟩)
   generalize parts.toList = l at hev'
   match l, hev' with
   | [], _ => rfl
   | [(0, x)], hev' =>
    have := hev' (0, x) (by simp)
    simp only [ZaU]
    rw [this, Zr0 ag (wf.ev x)]
   | (i + 1, x) :: l, _ => rfl
   | (0, x) :: y :: l, _ => rfl
  rw [hb, h0]
 case load.some t x d =>
  obtain ⟨ag, wf⟩ := h.resolve_left (by simp [cls])
  dsimp only
  rw [hev x (by simp [Op.operands])]
  have hx := wf.ev x
  generalize s.ev x = X at hx ⊢
  cases X <;> try rfl
  rename_i id off
  simp only [ZqI]
  rw [ag id hx]
 case store.none t x y =>
  obtain ⟨ag, wf⟩ := h.resolve_left (by simp [cls])
  dsimp only
  rw [hev x (by simp [Op.operands]), hev y (by simp [Op.operands])]
  have hx := wf.ev x
  have hy := wf.ev y
  generalize s.ev x = X at hx ⊢
  cases X <;> try rfl
  rename_i id off
  simp only [Zm8]
  rw [ag id hx, Zr0 ag hy]
 case call.some c d =>
  dsimp only
  cases hcc : c.callee with
  | value f => dsimp only; rw [h0]
  | invoke x m => rfl
  | builtin b =>
   cases b <;> try rfl
   exact absurd (by simp [cls, hcc]) hc
theorem Zvv (hev : ∀ x ∈ o.op.operands.toList, s'.ev x = s.ev x) (h : cls S o.op = 0 \/ (Ag s.heap s'.heap /\ WF s)) (hc : cls S o.op ≠ 4) : Z2v P S s' o = Z2v P S s o := by
 unfold Z2v
 cases hz : S.z
 ·exact Zif hev h hc
 ·rw [Zxi hz hev h hc, Zif hev h hc]
end

structure Spec (S : Sums) (s : FSt) (o : Oper) (r : Out) : Prop where
 drop : r.drop = none
 upd : cls S o.op ≠ 3 -> r.upd = none
 st : cls S o.op = 3 -> r.news = []
 ids : ∀ x ∈ r.news, ∃ d j, o.dst = some d /\ j < 4 /\ x.1 = 4 * d + j
 live : ∀ u, r.upd = some u -> (s.heap u.1).isSome = true
 ok : ∀ H', Grow s.heap H' -> (∀ x ∈ r.news, (H' x.1).isSome = true) -> SVok H' r.v /\ (∀ x ∈ r.news, Bok H' x.2) /\ ∀ u, r.upd = some u -> Bok H' u.2
section
variable {P : Program} {S : Sums} {n : Nat} {s s' : FSt} {H H' : Nat -> Option Blk} {o q : Oper} {r : Out}
theorem Zh1 {α : Type} {x y : α} (h : x ∈ [y]) : x = y := by simpa using h
theorem ZM {c : Bool} {v : SV} (h : SVok s.heap v) : Spec S s o (.pure c v) where
 drop := rfl
 upd := fun _ => rfl
 st := fun _ => rfl
 ids := fun x hx => by cases hx
 live := fun u hu => by cases hu
 ok := fun H' hg _ => ⟨h.grow hg, fun x hx => (by cases hx), fun u hu => (by cases hu)⟩
theorem Zaf {c : Bool} {v : SV} {d : Nat} {b : Blk} (hd : o.dst = some d) (hcl : cls S o.op ≠ 3) (h : ∀ H', Grow s.heap H' -> (H' (4 * d)).isSome = true -> SVok H' v /\ Bok H' b) : Spec S s o ⟨c, v, [(4 * d, b)], none, none⟩ where
 drop := rfl
 upd := fun _ => rfl
 st := fun e => absurd e hcl
 ids := fun x hx => by
  obtain rfl : x = (4 * d, b) := Zh1 hx
  exact ⟨d, 0, hd, by omega, rfl⟩
 live := fun u hu => by cases hu
 ok := fun H' hg hl => by
  have := h H' hg (hl (4 * d, b) (by simp))
  refine ⟨this.1, fun x hx => ?_, fun u hu => (by cases hu)⟩
  obtain rfl : x = (4 * d, b) := Zh1 hx
  exact this.2
theorem Zm3 {id : Nat} {b b' : Blk} {c : Bool} (hcl : cls S o.op = 3) (hb : s.heap id = some b) (h : ∀ H', Grow s.heap H' -> Bok H' b') : Spec S s o ⟨c, .val undef, [], some (id, b'), none⟩ where
 drop := rfl
 upd := fun e => absurd hcl e
 st := fun _ => rfl
 ids := fun x hx => by cases hx
 live := fun u hu => by
  simp only [Option.some.injEq] at hu
  subst hu
  exact Zi4 hb
 ok := fun H' hg _ => by
  refine ⟨True.intro, fun x hx => (by cases hx), fun u hu => ?_⟩
  simp only [Option.some.injEq] at hu
  subst hu
  exact h H' hg
theorem Zh3 {H : Nat -> Option Blk} : ∀ {cells : List SV} {bcs : List BC}, (∀ x ∈ cells, SVok H x) -> ∀ x ∈ Zbs cells bcs, SVok H x
 | [], [], _, x, hx => by simp [Zbs] at hx
 | [], .v _ :: _, _, x, hx => by simp [Zbs] at hx
 | [], .s _ _ :: _, _, x, hx => by simp [Zbs] at hx
 | _ :: _, [], _, x, hx => by simp [Zbs] at hx
 | c :: cs, .v v :: bs, h, x, hx => by
  rcases List.mem_cons.1 (show x ∈ SV.val v :: Zbs cs bs from hx) with rfl | hx
  ·exact True.intro
  ·exact Zh3 (fun y hy => h y (List.mem_cons_of_mem _ hy)) x hx
 | c :: cs, .s _ _ :: bs, h, x, hx => by
  rcases List.mem_cons.1 (show x ∈ c :: Zbs cs bs from hx) with rfl | hx
  ·exact h _ List.mem_cons_self
  ·exact Zh3 (fun y hy => h y (List.mem_cons_of_mem _ hy)) x hx
theorem ZtT {α : Type} {o : Option α} {x : α} (h : o = some x) : o.isSome = true := by rw [h]; rfl
theorem Zt9 {H : Nat -> Option Blk} (l : List Value) : SVok H (retV l) := by
 have : ∀ l : List Value, SVok H (.tup (l.map TI.v)) := by
  intro l id hid
  simp at hid
 match l with
 | [] => exact this []
 | [x] => exact True.intro
 | x :: y :: l => exact this (x :: y :: l)
theorem Ztq (l : List Value) : ∀ v ∈ l.map SV.val, SVok H v := by
 intro v hv
 obtain ⟨x, _, rfl⟩ := List.mem_map.1 hv
 exact True.intro
theorem ZqU {x : SV} (h : SVok H x) : ∀ v ∈ x.parts, SVok H v := by
 cases x with
 | val y => exact Ztq _
 | agr l =>
  intro v hv
  obtain ⟨q, hq, rfl⟩ := List.mem_map.1 hv
  cases q with
  | v y => exact True.intro
  | r id => exact h id hq
 | _ =>
  intro v hv
  simp only [SV.parts, List.mem_singleton] at hv
  subst hv
  exact h
theorem ZnM : ∀ (xs l : List SV) (i : Nat), (∀ v ∈ l, SVok H v) -> (∀ v ∈ xs, SVok H v) -> ∀ v ∈ Zps l i xs, SVok H v
 | [], l, i, h, _ => h
 | x :: xs, l, i, h, hx => ZnM xs _ (i + 1) (fun v hv => by
   rw [Ztg] at hv
   rcases List.mem_or_eq_of_mem_set hv with hv | rfl
   ·exact h v hv
   ·exact hx v (by simp)) fun v hv => hx v (by simp [hv])
theorem Za4 (h : ZcL P s o = some r) : Spec S s o r := by
 unfold ZcL at h
 split at h
 ·split at h
  ·simp only [Option.some.injEq] at h; subst h; exact ZM True.intro
  ·cases h
 ·cases h
theorem Zwg (wf : WF s) {ga : Bool} {sz id off : Nat} (h : ld s.heap ga sz id off = some r) : Spec S s o r := by
 have boxc : ∀ (cells : List SV), (∀ v ∈ cells, SVok s.heap v) -> (if ga = true then
   match SV.vals ((cells.drop off).take sz) with
   | some l => if Nat.beq l.length sz = true then some (Out.pure true (.val (.agg l.toArray))) else none
   | none => none
  else match cells[off]? with
   | some v => some (.pure true v)
   | none => none) = some r -> Spec S s o r := by
  intro cells hok h
  split at h
  ·split at h
   ·split at h
    ·simp only [Option.some.injEq] at h; subst h; exact ZM True.intro
    ·cases h
   ·cases h
  ·split at h
   ·rename_i v hv
    simp only [Option.some.injEq] at h; subst h
    exact ZM (hok v (List.mem_of_getElem? hv))
   ·cases h
 unfold ld at h
 split at h
 ·rename_i e cells hb; exact boxc cells (wf.heap id _ hb) h
 ·rename_i cells hb; exact boxc cells (wf.heap id _ hb) h
 ·split at h <;> (simp only [Option.some.injEq] at h; subst h; exact ZM True.intro)
 ·split at h <;> (simp only [Option.some.injEq] at h; subst h; exact ZM True.intro)
 ·split at h <;> (simp only [Option.some.injEq] at h; subst h; exact ZM True.intro)
 ·cases h
 ·cases h
theorem Zwz (wf : WF s) {sz id off : Nat} {x : SV} (hx : SVok s.heap x) (hcl : cls S o.op = 3) (h : st s.heap sz id off x = some r) : Spec S s o r := by
 unfold st at h
 split at h
 ·split at h
  ·rename_i e cells hb
   ·simp only [Option.some.injEq] at h; subst h
    exact Zm3 hcl hb fun H' hg => ZnM _ _ _ (fun v hv => (wf.heap id _ hb v hv).grow hg) (fun v hv => (ZqU hx v hv).grow hg)
  ·rename_i e z m c hb
   split at h
   ·split at h
    ·simp only [Option.some.injEq] at h; subst h
     exact Zm3 hcl hb fun H' hg => True.intro
    ·cases h
   ·cases h
  ·cases h
 ·cases h
theorem Zeo : ∀ (rs : List TR) (i : Nat), (∀ x ∈ (Z4t i rs).1, ∃ j, j < rs.length /\ x.1 = i + j /\ ∀ H, Bok H x.2) /\ ∀ id, TI.r id ∈ (Z4t i rs).2 -> ∃ x ∈ (Z4t i rs).1, x.1 = id
 | [], i => ⟨fun x hx => (by cases hx), fun id h => (by cases h)⟩
 | .v y :: l, i => by
  obtain ⟨h1, h2⟩ := Zeo l (i + 1)
  refine ⟨fun x hx => ?_, fun id h => ?_⟩
  ·obtain ⟨j, hj, e, hb⟩ := h1 x hx
   exact ⟨j + 1, by simp; omega, by omega, hb⟩
  ·have h : TI.r id ∈ (Z4t (i + 1) l).2 := by
    rcases List.mem_cons.1 h with h | h
    ·cases h
    ·exact h
   exact h2 id h
 | .s e sz k c :: l, i => by
  obtain ⟨h1, h2⟩ := Zeo l (i + 1)
  refine ⟨fun x hx => ?_, fun id h => ?_⟩
  ·rcases List.mem_cons.1 hx with rfl | hx
   ·exact ⟨0, by simp, rfl, fun _ => True.intro⟩
   ·obtain ⟨j, hj, e, hb⟩ := h1 x hx
    exact ⟨j + 1, by simp; omega, by omega, hb⟩
  ·rcases List.mem_cons.1 h with h | h
   ·cases h
    exact ⟨_, List.mem_cons_self, rfl⟩
   ·obtain ⟨x, hx, e⟩ := h2 id h
    exact ⟨x, List.mem_cons_of_mem _ hx, e⟩
 | .d e ls :: l, i => by
  obtain ⟨h1, h2⟩ := Zeo l (i + 1)
  refine ⟨fun x hx => ?_, fun id h => ?_⟩
  ·rcases List.mem_cons.1 hx with rfl | hx
   ·exact ⟨0, by simp, rfl, fun _ => True.intro⟩
   ·obtain ⟨j, hj, e, hb⟩ := h1 x hx
    exact ⟨j + 1, by simp; omega, by omega, hb⟩
  ·rcases List.mem_cons.1 h with h | h
   ·cases h
    exact ⟨_, List.mem_cons_self, rfl⟩
   ·obtain ⟨x, hx, e⟩ := h2 id h
    exact ⟨x, List.mem_cons_of_mem _ hx, e⟩
theorem ZqN : ∀ (rs : List TR) (i : Nat), rs.all isV = true -> (Z4t i rs).1 = []
 | [], _, _ => rfl
 | .v x :: l, i, h => ZqN l (i + 1) (by simpa [isV] using h)
 | .s .. :: l, i, h => by simp [isV] at h
 | .d .. :: l, i, h => by simp [isV] at h
theorem ZlL {c : Bool} {rs : List TR} (hcl : cls S o.op ≠ 3) (h : ZcM o.dst c rs = some r) : Spec S s o r := by
 cases hdst : o.dst with
 | none =>
  rw [hdst] at h
  unfold ZcM at h
  dsimp only at h
  split at h
  ·simp only [Option.some.injEq] at h; subst h; exact ZM True.intro
  ·simp only [Option.some.injEq] at h; subst h; exact ZM True.intro
  ·cases h
 | some d =>
  rw [hdst] at h
  unfold ZcM at h
  dsimp only at h
  cases hv : ZfS rs with
  | some x => rw [hv] at h; simp only [Option.some.injEq] at h; subst h; exact ZM True.intro
  | none =>
   rw [hv] at h
   dsimp only at h
   unfold Zks at h
   split at h
   ·rename_i Z5e
    obtain ⟨h1, h2⟩ := Zeo rs (4 * d)
    have ids : ∀ x ∈ (Z4t (4 * d) rs).1, ∃ d' j, o.dst = some d' /\ j < 4 /\ x.1 = 4 * d' + j := fun x hx => by
     rw [Bool.or_eq_true] at Z5e
     rcases Z5e with Z5e | Z5e
     ·have Z5e := nle Z5e
      obtain ⟨j, hj, e, _⟩ := h1 x hx
      exact ⟨d, j, hdst, by omega, e⟩
     ·rw [ZqN _ _ Z5e] at hx
      cases hx
    split at h
    ·rename_i i hi
     simp only [Option.some.injEq] at h; subst h
     refine ⟨rfl, fun _ => rfl, fun e => absurd e hcl, ids, fun u hu => (by cases hu), fun H' hg hl => ⟨?_, fun x hx => (h1 x hx).choose_spec.2.2 H', fun u hu => (by cases hu)⟩⟩
     obtain ⟨x, hx, e⟩ := h2 i (by rw [hi]; simp)
     rw [<- e]
     exact hl x hx
    ·rename_i l hl'
     simp only [Option.some.injEq] at h; subst h
     refine ⟨rfl, fun _ => rfl, fun e => absurd e hcl, ids, fun u hu => (by cases hu), fun H' hg hl => ⟨?_, fun x hx => (h1 x hx).choose_spec.2.2 H', fun u hu => (by cases hu)⟩⟩
     intro id hid
     obtain ⟨x, hx, e⟩ := h2 id hid
     rw [<- e]
     exact hl x hx
   ·cases h
theorem Zay (hc : cls S o.op ≠ 4) (wf : WF s) (h : Z1f P S s o = some r) : Spec S s o r := by
 unfold Z1f at h
 cases ho : o.op <;> rw [ho] at h hc <;> dsimp only at h
 case move x => simp only [Option.some.injEq] at h; subst h; exact ZM (wf.ev x)
 case assign x => simp only [Option.some.injEq] at h; subst h; exact ZM (wf.ev x)
 case pick c x y =>
  split at h
  ·split at h <;> (simp only [Option.some.injEq] at h; subst h)
   ·exact ZM (wf.ev x)
   ·exact ZM (wf.ev y)
  ·cases h
 case alloc e =>
  split at h
  ·simp only [Option.some.injEq] at h; subst h
   exact Zaf (by assumption) (by rw [ho]; simp [cls]) fun H' _ hl => ⟨hl, Ztq _⟩
  ·cases h
 case box e x =>
  split at h
  ·cases h
  ·simp only [Option.some.injEq] at h; subst h
   exact Zaf (by assumption) (by rw [ho]; simp [cls]) fun H' hg hl => ⟨hl, fun v hv => (ZqU (wf.ev x) v hv).grow hg⟩
  ·cases h
 case buildSlice t len ps =>
  split at h
  ·split at h
   ·split at h
    ·split at h
     ·simp only [Option.some.injEq] at h; subst h
      exact Zaf (by assumption) (by rw [ho]; simp only [cls]; cases S.z <;> decide) fun H' _ hl => ⟨hl, True.intro⟩
     ·cases h
    ·cases h
   ·cases h
  ·cases h
 case load t x =>
  split at h
  ·unfold gload at h
   split at h
   ·split at h
    ·simp only [Option.some.injEq] at h; subst h; exact ZM True.intro
    ·cases h
   ·simp only [Option.some.injEq] at h; subst h; exact ZM True.intro
   ·cases h
  ·split at h
   ·exact Zwg wf h
   ·cases h
 case store t x y =>
  split at h
  ·cases h
  ·split at h
   ·exact Zwz wf (wf.ev y) (by rw [ho]; rfl) h
   ·cases h
 case binOp op t x y u =>
  unfold ZdQ at h
  split at h
  ·simp only [Option.some.injEq] at h; subst h; exact ZM True.intro
  ·split at h
   ·simp only [Option.some.injEq] at h; subst h; exact ZM True.intro
   ·cases h
  ·split at h
   ·simp only [Option.some.injEq] at h; subst h; exact ZM True.intro
   ·cases h
  ·split at h
   ·split at h
    ·simp only [Option.some.injEq] at h; subst h; exact ZM True.intro
    ·cases h
   ·split at h
    ·split at h
     ·simp only [Option.some.injEq] at h; subst h; exact ZM True.intro
     ·cases h
    ·cases h
   ·cases h
  ·split at h
   ·split at h
    ·simp only [Option.some.injEq] at h; subst h; exact ZM True.intro
    ·cases h
   ·split at h
    ·split at h
     ·simp only [Option.some.injEq] at h; subst h; exact ZM True.intro
     ·cases h
    ·cases h
   ·cases h
  ·exact Za4 h
 case unOp op t x => exact Za4 h
 case build t ps =>
  split at h
  ·rename_i r' hr'
   simp only [Option.some.injEq] at h; subst h
   unfold ZfG at hr'
   split at hr'
   ·rename_i i x rest hps
    split at hr'
    ·rename_i id hx
     have hxo := wf.ev x
     rw [hx] at hxo
     (repeat' split at hr') <;> first
      | (cases hr'; done)
      | (
        simp only [Option.some.injEq] at hr'; subst hr'
        refine ZM fun j hj => ?_
        rcases List.mem_cons.1 hj with e | hj
        ·cases e; exact hxo
        ·obtain ⟨v, _, e⟩ := List.mem_map.1 hj
         cases e)
    ·cases hr'
   ·cases hr'
  ·exact Za4 h
 case field t x f => exact Za4 h
 case convert t u x =>
  cases hx : s.ev x with
  | row id =>
   rw [hx] at h
   dsimp only [Zrc] at h
   (repeat' split at h) <;> first
    | (cases h; done)
    | (simp only [Option.some.injEq] at h; subst h; exact ZM True.intro)
  | _ => rw [hx] at h; exact Za4 h
 case makeFunc fn first captured =>
  cases fn <;> dsimp only at h <;> try (cases h; done)
  split at h
  ·split at h
   ·rename_i l hl
    simp only [Option.some.injEq] at h; subst h
    refine ZM fun i hi => ?_
    obtain ⟨x, hx, hr⟩ := ZkZ (Z8H hl) i hi
    have hx' := wf.ev x
    split at hr
    ·rename_i id he
     simp only [Option.some.injEq] at hr; subst hr
     rw [he] at hx'
     exact hx'
    ·cases hr
   ·cases h
  ·cases h
 case makeSlice t x y =>
  split at h
  ·split at h
   ·split at h
    ·split at h
     ·simp only [Option.some.injEq] at h; subst h
      exact Zaf (by assumption) (by rw [ho]; simp [cls]) fun H' _ hl => ⟨hl, True.intro⟩
     ·cases h
    ·cases h
   ·cases h
  ·cases h
 case fieldAddr t x f =>
  have hx := wf.ev x
  split at h
  ·rename_i he _
   rw [he] at hx
   split at h
   ·split at h
    ·split at h
     ·simp only [Option.some.injEq] at h; subst h; exact ZM hx
     ·cases h
    ·cases h
   ·cases h
  ·cases h
 case nilCheck x =>
  have hx := wf.ev x
  split at h
  ·rename_i he
   rw [he] at hx
   simp only [Option.some.injEq] at h; subst h; exact ZM hx
  ·cases h
 case sliceToArrayPointer t x =>
  have hx := wf.ev x
  split at h
  ·rename_i he _
   rw [he] at hx
   split at h
   ·simp only [Option.some.injEq] at h; subst h; exact ZM hx
   ·simp only [Option.some.injEq] at h; subst h; exact ZM hx
   ·cases h
  ·cases h
 case indexAddr t x i =>
  have hx := wf.ev x
  split at h
  ·rename_i he _ _
   rw [he] at hx
   split at h
   ·simp only [Option.some.injEq] at h; subst h; exact ZM hx
   ·cases h
  ·rename_i he _ _
   rw [he] at hx
   split at h
   ·simp only [Option.some.injEq] at h; subst h; exact ZM hx
   ·simp only [Option.some.injEq] at h; subst h; exact ZM hx
   ·simp only [Option.some.injEq] at h; subst h; exact ZM hx
   ·simp only [Option.some.injEq] at h; subst h; exact ZM hx
   ·cases h
  ·rename_i he _ _
   rw [he] at hx
   split at h
   ·simp only [Option.some.injEq] at h; subst h; exact ZM hx
   ·cases h
  ·cases h
 case index t x i =>
  split at h
  ·split at h
   ·split at h
    ·simp only [Option.some.injEq] at h; subst h; exact ZM True.intro
    ·cases h
   ·cases h
  ·simp only [Option.some.injEq] at h; subst h; exact ZM True.intro
  ·cases h
 case slice t x lo hi mx =>
  have hx := wf.ev x
  clear ho hc
  split at h
  ·rename_i he _
   rw [he] at hx
   split at h
   ·simp only [Option.some.injEq] at h; subst h; exact ZM hx
   ·cases h
  ·rename_i he _
   rw [he] at hx
   split at h
   ·split at h
    ·split at h
     ·simp only [Option.some.injEq] at h; subst h; exact ZM hx
     ·cases h
    ·cases h
   ·cases h
  ·rename_i he _
   rw [he] at hx
   split at h
   ·split at h
    ·simp only [Option.some.injEq] at h; subst h; exact ZM hx
    ·simp only [Option.some.injEq] at h; subst h; exact ZM hx
    ·cases h
   ·cases h
  ·rename_i he _ _
   rw [he] at hx
   unfold Z6N at h
   split at h
   ·split at h
    ·simp only [Option.some.injEq] at h; subst h; exact ZM hx
    ·cases h
   ·split at h
    ·simp only [Option.some.injEq] at h; subst h; exact ZM hx
    ·cases h
   ·split at h
    ·simp only [Option.some.injEq] at h; subst h; exact ZM hx
    ·cases h
   ·cases h
  ·unfold Z6O at h
   split at h
   ·simp only [Option.some.injEq] at h; subst h; exact ZM True.intro
   ·cases h
  ·cases h
 case extract x i =>
  have hx := wf.ev x
  split at h
  ·rename_i l he
   rw [he] at hx
   split at h
   ·simp only [Option.some.injEq] at h; subst h; exact ZM True.intro
   ·rename_i id hi
    simp only [Option.some.injEq] at h; subst h; exact ZM (hx id (List.mem_of_getElem? hi))
   ·cases h
  ·cases h
 case call c =>
  cases hcc : c.callee with
  | value f =>
   rw [hcc] at h
   dsimp only at h
   cases hm : Z7X S f with
   | some run =>
    cases run with
    | box run =>
     have hcl : cls S o.op = 3 := by rw [ho]; simp [cls, hcc, hm]
     rw [hm] at h
     have h : Z89 s run _ = _ := h
     unfold Z89 at h
     split at h
     ·split at h
      ·rename_i id _ _ e cells hb
       split at h
       ·split at h
        ·split at h
         ·simp only [Option.some.injEq] at h; subst h
          refine ⟨rfl, fun e => absurd hcl e, fun _ => rfl, fun x hx => (by cases hx), fun u hu => ?_, fun H' hg _ => ⟨Zt9 _, fun x hx => (by cases hx), fun u hu => ?_⟩⟩
          ·simp only [Option.some.injEq] at hu
           subst hu
           exact Zi4 hb
          ·simp only [Option.some.injEq] at hu
           subst hu
           exact Zh3 fun x hx => (wf.heap _ _ hb x hx).grow hg
         ·cases h
        ·cases h
       ·cases h
      ·cases h
     ·cases h
    | _ => exact absurd (by simp [cls, hcc, hm]) hc
   | none =>
   rw [hm] at h
   have hcl : cls S o.op ≠ 3 := by rw [ho]; simp [cls, hcc, hm]
   dsimp only at h
   split at h
   ·split at h
    ·split at h
     ·exact ZlL hcl h
     ·cases h
    ·cases h
   ·split at h
    ·split at h
     ·exact ZlL hcl h
     ·cases h
    ·cases h
   ·cases h
  | invoke x m => rw [hcc] at h; cases h
  | builtin b =>
   rw [hcc] at h
   cases b <;> dsimp only at h <;> try (cases h; done)
   ·exact absurd (by simp [cls, hcc]) hc
   ·split at h
    ·split at h
     ·simp only [Option.some.injEq] at h; subst h; exact ZM True.intro
     ·cases h
    ·split at h
     ·simp only [Option.some.injEq] at h; subst h; exact ZM True.intro
     ·simp only [Option.some.injEq] at h; subst h; exact ZM True.intro
     ·simp only [Option.some.injEq] at h; subst h; exact ZM True.intro
     ·simp only [Option.some.injEq] at h; subst h; exact ZM True.intro
     ·cases h
    ·split at h
     ·simp only [Option.some.injEq] at h; subst h; exact ZM True.intro
     ·cases h
    ·cases h
   ·split at h
    ·simp only [Option.some.injEq] at h; subst h; exact ZM True.intro
    ·cases h
   ·split at h
    ·simp only [Option.some.injEq] at h; subst h; exact ZM True.intro
    ·cases h
 all_goals cases h
theorem Zr7 (h : Spec S s o r) : Spec S s o r.frz := by
 rcases ZoS r with ⟨i, e, sz, m, cc, h1, h2⟩ | h1
 ·rw [h2]
  refine ⟨h.drop, h.upd, fun e => ?_, fun x hx => ?_, h.live, fun H' hg hl => ?_⟩
  ·have := h.st e
   rw [h1] at this
   cases this
  ·obtain rfl : x = _ := Zh1 hx
   exact h.ids (i, .row e sz m cc) (by rw [h1]; simp)
  ·have hi := hl (i, .fro true m cc) (by simp)
   obtain ⟨k1, k2, k3⟩ := h.ok H' hg fun x hx => by
    rw [h1] at hx
    obtain rfl : x = _ := Zh1 hx
    exact hi
   refine ⟨k1, fun x hx => ?_, k3⟩
   obtain rfl : x = _ := Zh1 hx
   exact True.intro
 ·rw [h1]; exact h
theorem Zvu (hz : S.z = true) (hc : cls S o.op ≠ 4) (wf : WF s) (h : opD P S s o = some r) : Spec S s o r := by
 unfold opD at h
 split at h
 ·rename_i t len parts d ho hdst
  have h3 : cls S o.op ≠ 3 := by rw [ho]; simp [cls, hz]
  split at h
  ·rename_i r' hb
   simp only [Option.some.injEq] at h; subst h
   unfold ZaU at hb
   split at hb
   ·split at hb
    ·split at hb
     ·simp only [Option.some.injEq] at hb; subst hb
      exact Zaf hdst h3 fun H' _ hl => ⟨hl, True.intro⟩
     ·cases hb
    ·cases hb
   ·split at hb
    ·split at hb
     ·simp only [Option.some.injEq] at hb; subst hb
      exact Zaf hdst h3 fun H' _ hl => ⟨hl, True.intro⟩
     ·cases hb
    ·cases hb
   ·cases hb
  ·split at h
   ·cases h
   ·split at h
    ·rename_i r' h0
     simp only [Option.some.injEq] at h; subst h
     exact Zr7 (Zay hc wf h0)
    ·cases h
 ·rename_i t x d ho hdst
  have h3 : cls S o.op ≠ 3 := by rw [ho]; simp [cls]
  unfold ZqI at h
  split at h
  ·split at h
   ·simp only [Option.some.injEq] at h; subst h
    exact Zaf hdst h3 fun H' _ hl => ⟨hl, True.intro⟩
   ·cases h
  ·cases h
 ·rename_i t x y ho hdst
  have h3 : cls S o.op = 3 := by rw [ho]; rfl
  unfold Zm8 at h
  split at h
  ·split at h
   ·rename_i hb _ _
    simp only [Option.some.injEq] at h; subst h
    exact Zm3 h3 hb fun H' _ => True.intro
   ·cases h
  ·cases h
 ·rename_i c d ho hdst
  split at h
  ·split at h
   ·cases h
   ·split at h
    ·rename_i r' h0
     simp only [Option.some.injEq] at h; subst h
     exact Zr7 (Zay hc wf h0)
    ·cases h
  ·rename_i hcc
   exact absurd (by rw [ho]; simp [cls, hcc]) hc
  ·cases h
 ·cases h
theorem ZrX (hc : cls S o.op ≠ 4) (wf : WF s) (h : Z2v P S s o = some r) : Spec S s o r := by
 unfold Z2v at h
 cases hz : S.z
 ·rw [hz] at h
  exact Zay hc wf h
 ·rw [hz] at h
  simp only [cond_true] at h
  split at h
  ·rename_i r' hD
   simp only [Option.some.injEq] at h; subst h
   exact Zvu hz hc wf hD
  ·exact Zay hc wf h
end

def lk : List (Nat × Blk) -> Nat -> Option Blk
 | [], _ => none
 | (i, b) :: l, x => match lk l x with | some c => some c | none => if x = i then some b else none
def ul : Option (Nat × Blk) -> Nat -> Option Blk
 | none, _ => none
 | some (i, b), x => if x = i then some b else none
section
variable {P : Program} {S : Sums} {n : Nat} {s s' s1 s2 : FSt} {H H' : Nat -> Option Blk} {o q : Oper} {r : Out} {ops : List Oper}
theorem Z3L (hZ : S.z = false) : Z2v P S s o = Z1f P S s o := by
 unfold Z2v; rw [hZ]; rfl
theorem Z2r (i : Nat) (b : Blk) (x : Nat) : (s.set i b).heap x = if x = i then some b else s.heap x := by
 show (bif Nat.beq x i then some b else s.heap x) = _
 by_cases e : x = i
 ·subst e; simp
 ·rw [nbeq e, if_neg e]; rfl
theorem Znp : ∀ (l : List (Nat × Blk)) (s : FSt) (x : Nat), (s.news l).heap x = match lk l x with | some c => some c | none => s.heap x
 | [], s, x => rfl
 | (i, b) :: l, s, x => by
  show ((s.set i b).news l).heap x = _
  rw [Znp l]
  simp only [lk]
  cases lk l x with
  | some c => rfl
  | none =>
   simp only
   rw [Z2r]
   split <;> rfl
theorem ZnN : ∀ (l : List (Nat × Blk)) (s : FSt), (s.news l).slot = s.slot
 | [], s => rfl
 | (i, b) :: l, s => ZnN l (s.set i b)
theorem Zv3 (u : Option (Nat × Blk)) (s : FSt) (x : Nat) : (s.upd u).heap x = match ul u x with | some c => some c | none => s.heap x := by
 cases u with
 | none => rfl
 | some p =>
  obtain ⟨i, b⟩ := p
  show (s.set i b).heap x = _
  rw [Z2r]
  simp only [ul]
  split <;> rfl
theorem ZvM (u : Option (Nat × Blk)) (s : FSt) : (s.upd u).slot = s.slot := by cases u <;> rfl
theorem Z2b (d : Option Nat) (v : SV) : (s.put d v).heap = s.heap := by cases d <;> rfl
theorem Z2U (d : Option Nat) (v : SV) (t : Nat) : (s.put d v).slot t = if d = some t then v else s.slot t := by
 cases d with
 | none => rfl
 | some d =>
  show (bif Nat.beq t d then v else s.slot t) = _
  by_cases e : t = d
  ·subst e; simp
  ·rw [nbeq e, if_neg (by simp; exact fun h => e h.symm)]; rfl
theorem Z0W (hr : r.drop = none) (d : Option Nat) (x : Nat) : (s.apply d r).heap x = match ul r.upd x with | some c => some c | none => match lk r.news x with | some c => some c | none => s.heap x := by
 unfold FSt.apply
 rw [hr, Z2b, Zv3, Znp]
 rfl
theorem Z2w (hr : r.drop = none) (d : Option Nat) (t : Nat) : (s.apply d r).slot t = if d = some t then r.v else s.slot t := by
 unfold FSt.apply
 rw [hr, Z2U, ZvM, ZnN]
 rfl
theorem Zca : ∀ {l : List (Nat × Blk)} {x : Nat} {c : Blk}, lk l x = some c -> ∃ p ∈ l, p.1 = x /\ p.2 = c
 | (i, b) :: l, x, c, h => by
  simp only [lk] at h
  split at h
  ·rename_i c' hc
   obtain ⟨p, hp, e⟩ := Zca hc
   exact ⟨p, by simp [hp], by rw [e.1]; exact ⟨rfl, by simpa [e.2] using h⟩⟩
  ·split at h
   ·rename_i e
    exact ⟨(i, b), by simp, e.symm, by simpa using h⟩
   ·cases h
theorem Z2M : ∀ {l : List (Nat × Blk)}, s.fresh l = true ↔ ∀ p ∈ l, s.heap p.1 = none
 | [] => by simp [FSt.fresh]
 | (i, b) :: l => by
  simp only [FSt.fresh]
  cases h : s.heap i with
  | some c => simp [h]
  | none =>
   simp only [List.mem_cons, forall_eq_or_imp, h, true_and]
   exact Z2M
theorem Zur (wf : WF s) (sp : Spec S s o r) : WF (s.apply o.dst r) := by
 have hg : Grow s.heap (s.apply o.dst r).heap := by
  intro id hid
  rw [Z0W sp.drop]
  cases ul r.upd id with
  | some c => rfl
  | none => cases lk r.news id with
   | some c => rfl
   | none => exact hid
 have hn : ∀ x ∈ r.news, ((s.apply o.dst r).heap x.1).isSome = true := by
  intro x hx
  rw [Z0W sp.drop]
  cases ul r.upd x.1 with
  | some c => rfl
  | none =>
   have : ∃ c, lk r.news x.1 = some c := by
    clear sp hg
    generalize r.news = l at hx
    induction l with
    | nil => cases hx
    | cons p l ih =>
     simp only [lk]
     cases hl : lk l x.1 with
     | some c => exact ⟨c, rfl⟩
     | none =>
      rcases List.mem_cons.1 hx with rfl | hx
      ·exact ⟨x.2, by simp⟩
      ·obtain ⟨c, hc⟩ := ih hx
       rw [hl] at hc
       cases hc
   obtain ⟨c, hc⟩ := this
   rw [hc]
   rfl
 obtain ⟨k1, k2, k3⟩ := sp.ok _ hg hn
 refine ⟨fun t => ?_, fun id b hb => ?_⟩
 ·rw [Z2w sp.drop]
  split
  ·exact k1
  ·exact (wf.slots t).grow hg
 ·rw [Z0W sp.drop] at hb
  cases hu : ul r.upd id with
  | some c =>
   rw [hu] at hb
   simp only [Option.some.injEq] at hb; subst hb
   cases hup : r.upd with
   | none => rw [hup] at hu; cases hu
   | some p =>
    rw [hup] at hu
    simp only [ul] at hu
    split at hu
    ·simp only [Option.some.injEq] at hu; subst hu
     exact k3 p hup
    ·cases hu
  | none =>
   rw [hu] at hb
   cases hl : lk r.news id with
   | some c =>
    rw [hl] at hb
    simp only [Option.some.injEq] at hb; subst hb
    obtain ⟨p, hp, _, rfl⟩ := Zca hl
    exact k2 p hp
   | none =>
    rw [hl] at hb
    exact (wf.heap id b hb).grow hg
def allowed (a b : Nat) : Bool := match a, b with
 | 0, 0 | 0, 2 | 2, 0 | 2, 2 | 0, 3 | 3, 0 => true
 | _, _ => false
theorem Zai (h : ∀ j w, o.guard = some (j, w) -> ∀ q d, ops[j]? = some q -> q.dst = some d -> s'.slot d = s.slot d) : Z3F ops s' o = Z3F ops s o := by
 unfold Z3F
 cases hg : o.guard with
 | none => rfl
 | some p =>
  obtain ⟨j, w⟩ := p
  dsimp only
  cases hq : ops[j]? with
  | none => rfl
  | some q =>
   dsimp only
   cases hd : q.dst with
   | none => rfl
   | some d =>
    dsimp only
    rw [h j w hg q d hq hd]
theorem ZiY {x : Operand} (h : ∀ t, x = .tmp t -> s'.slot t = s.slot t) : s'.ev x = s.ev x := by
 cases x with
 | tmp t => exact h t rfl
 | const v => rfl
 | global g => rfl
 | func f => rfl
theorem Z5B {t : Nat} {opsA : Array Oper} (h : .tmp t ∈ o.op.operands.toList) : t ∈ o.looksAt opsA := by
 unfold Oper.looksAt
 refine List.mem_append.2 (.inl (List.mem_filterMap.2 ⟨_, h, rfl⟩))
theorem Z8G {j : Nat} {w : Bool} {d : Nat} (hg : o.guard = some (j, w)) (hq : ops[j]? = some q) (hd : q.dst = some d) : d ∈ o.looksAt ops.toArray := by
 unfold Oper.looksAt
 refine List.mem_append.2 (.inr ?_)
 rw [hg]
 simp [hq, hd]
theorem Z8L {o : Oper} {x : Nat} (hx : storeAt o = some x) : (∃ t y, o.op = .store t (.tmp x) y) \/ ∃ t, o.op = .load t (.tmp x) := by
 unfold storeAt at hx
 split at hx
 ·rename_i t x' y h
  simp only [Option.some.injEq] at hx
  subst hx
  exact .inl ⟨t, y, h⟩
 ·rename_i t x' h
  simp only [Option.some.injEq] at hx
  subst hx
  exact .inr ⟨t, h⟩
 ·cases hx
theorem Zhl {o : Oper} {x : Operand} (h : Z7t S o = some x) : ∃ c f run, o.op = .call c /\ c.callee = .value f /\ Z7X S f = some (.box run) /\ c.args.toList.head? = some x := by
 unfold Z7t at h
 split at h
 ·rename_i c hc
  split at h
  ·rename_i f hf
   split at h
   ·rename_i run hm
    exact ⟨c, f, run, hc, hf, hm, h⟩
   ·cases h
  ·cases h
 ·cases h
theorem Zxu {x : Operand} (hq : Z7t S o = some x) (hs : ∀ t ∈ o.looksAt ops.toArray, s'.slot t = s.slot t) : s'.ev x = s.ev x := by
 obtain ⟨c, f, run, ho, hf, hm, hh⟩ := Zhl hq
 refine ZiY fun t ht => hs t (Z5B ?_)
 rw [ho]
 simp only [Op.operands, Call.operands, Array.toList_append]
 refine List.mem_append.2 (.inr ?_)
 rw [<- ht]
 exact List.mem_of_mem_head? hh
theorem Zeh {x : Nat} (hx : storeAt o = some x) (hs : ∀ t ∈ o.looksAt ops.toArray, s'.slot t = s.slot t) : s'.slot x = s.slot x := by
 refine hs x (Z5B ?_)
 rcases Z8L hx with ⟨t, y, h⟩ | ⟨t, h⟩ <;> rw [h] <;> simp [Op.operands]
theorem Zv4 (hs : ∀ t ∈ o.looksAt ops.toArray, s'.slot t = s.slot t) (h : cls S o.op = 0 \/ (Ag s.heap s'.heap /\ WF s)) : Z8F P S ops o s' = Z8F P S ops o s := by
 unfold Z8F
 cases hx : storeAt o with
 | none =>
  cases hq : Z7t S o with
  | none => rfl
  | some x =>
   obtain ⟨c, f, run, ho, hf, hm, hh⟩ := Zhl hq
   obtain ⟨ag, wf⟩ := h.resolve_left (by rw [ho]; simp [cls, hf, hm])
   dsimp only
   rw [Zxu hq hs]
   have hk := wf.ev x
   cases he : s.ev x <;> try rfl
   rw [he] at hk
   dsimp only
   rw [ag _ hk]
 | some x =>
  have hne : cls S o.op ≠ 0 := by
   rcases Z8L hx with ⟨t, y, e⟩ | ⟨t, e⟩ <;> rw [e] <;> simp [cls]
  obtain ⟨ag, wf⟩ := h.resolve_left hne
  dsimp only
  rw [Zeh hx hs]
  have hk := wf.slots x
  cases he : s.slot x <;> try rfl
  rw [he] at hk
  dsimp only
  rw [ag _ hk]
theorem Za0 {x : Nat} (hx : storeAt o = some x) (e : s'.slot x = s.slot x) : Z9e ops o s' = Z9e ops o s := by
 unfold Z9e
 rw [hx]
 dsimp only
 unfold mixH
 rw [e]
theorem ZtS (h : Z5A o = true) : cls S o.op = 4 := by
 unfold Z5A at h
 split at h
 ·rename_i c hc
  split at h
  ·rename_i hb
   rw [hc]
   simp [cls, hb]
  ·cases h
 ·cases h
theorem Zv5 (hs : ∀ t ∈ o.looksAt ops.toArray, s'.slot t = s.slot t) (hc : cls S o.op ≠ 4) : Z9e ops o s' = Z9e ops o s := by
 cases hx : storeAt o with
 | some x => exact Za0 hx (Zeh hx hs)
 | none =>
  unfold Z9e
  rw [hx]
  dsimp only
  unfold ZgW
  cases ha : Z5A o with
  | true => exact absurd (ZtS ha) hc
  | false => rfl
theorem Zv6 (hs : ∀ t ∈ o.looksAt ops.toArray, s'.slot t = s.slot t) (h : cls S o.op = 0 \/ (Ag s.heap s'.heap /\ WF s)) (hc : cls S o.op ≠ 4) : Z3z P S ops o s' = Z3z P S ops o s := by
 unfold Z3z
 rw [Zv4 hs h, Zv5 hs hc]
theorem Z7j (hs : ∀ t ∈ o.looksAt ops.toArray, s'.slot t = s.slot t) (h : cls S o.op = 0 \/ (Ag s.heap s'.heap /\ WF s)) (hc : cls S o.op ≠ 4) : Z0H P S n ops o s' = Z0H P S n ops o s := by
 unfold Z0H
 rw [Zai fun j w hg q d hq hd => hs d (Z8G hg hq hd), Zvv (fun x hx => ZiY fun t ht => hs t (Z5B (by rw [<- ht]; exact hx))) h hc]
 unfold chkH
 rw [Zv6 hs h hc]
theorem Z9m (hc : cls S o.op ≠ 4) (wf : WF s) (h : Z0H P S n ops o s = some r) : Spec S s o r := by
 unfold Z0H at h
 split at h
 ·cases h
 ·split at h
  ·split at h
   ·split at h
    ·cases h
    ·rename_i r' hr'
     split at h
     ·simp only [Option.some.injEq] at h; subst h; exact ZrX hc wf hr'
     ·cases h
   ·simp only [Option.some.injEq] at h; subst h; exact ZM True.intro
  ·cases h
theorem Z6d (h : step P S n ops o s = some s1) : ∃ r, Z0H P S n ops o s = some r /\ s.fresh r.news = true /\ s1 = s.apply o.dst r := by
 unfold step at h
 split at h
 ·cases h
 ·rename_i r hr
  split at h
  ·rename_i hf
   simp only [Option.some.injEq] at h
   exact ⟨r, hr, hf, h.symm⟩
  ·cases h
theorem Z8w (h : Z0H P S n ops o s = some r) (hf : s.fresh r.news = true) : step P S n ops o s = some (s.apply o.dst r) := by
 unfold step
 rw [h]
 simp only [hf, if_true]
theorem ZwA (hc : cls S o.op ≠ 4) (wf : WF s) (h : step P S n ops o s = some s1) : WF s1 := by
 obtain ⟨r, hr, _, rfl⟩ := Z6d h
 exact Zur wf (Z9m hc wf hr)
theorem Zc1 {a b : Nat} (h : allowed a b = true) : (a ≠ 4 /\ b ≠ 4) /\ (a = 3 -> b = 0) /\ (b = 3 -> a = 0) := by
 unfold allowed at h
 split at h <;> simp at h ⊢
theorem ZgB (sp : Spec S s o r) (hf : s.fresh r.news = true) (h3 : cls S o.op ≠ 3) : Ag s.heap (s.apply o.dst r).heap := by
 intro id hid
 rw [Z0W sp.drop, sp.upd h3]
 cases hl : lk r.news id with
 | none => rfl
 | some c =>
  obtain ⟨p, hp, e, _⟩ := Zca hl
  rw [<- e, Z2M.1 hf p hp] at hid
  cases hid
def Za6 (o : Oper) : Bool := match o.op with
 | .indexAddr .. => true
 | .call c => match c.callee with
  | .builtin .len => true
  | _ => false
 | _ => false
def ZhQ (S : Sums) (o q : Oper) : Bool := (ZlB S o && (loadAt q || Za6 q)) || (isSt o && Za6 q)
def Zkv (ops : List Oper) (o q : Oper) : Bool := match storeAt o, storeAt q with
 | some x, some y => !(Nat.beq x y) && (crowded ops o && crowded ops q)
 | _, _ => false
theorem Zcy (h : Zkv ops o q = true) : ∃ x y, storeAt o = some x /\ storeAt q = some y /\ x ≠ y /\ crowded ops o = true /\ crowded ops q = true := by
 unfold Zkv at h
 split at h
 ·rename_i x y hx hy
  simp only [Bool.and_eq_true, Bool.not_eq_true'] at h
  refine ⟨x, y, hx, hy, ?_, h.2.1, h.2.2⟩
  rintro rfl
  have := h.1
  rw [Nat.beq_refl] at this
  cases this
 ·cases h
theorem Zm7 {x : Nat} (hx : storeAt o = some x) : (∃ t y, o.op = .store t (.tmp x) y) \/ ∃ t, o.op = .load t (.tmp x) := Z8L hx
theorem Zjm {x : Nat} (hx : storeAt o = some x) : cls S o.op = 3 \/ cls S o.op = 2 := by
 rcases Zm7 hx with ⟨_, _, e⟩ | ⟨_, e⟩ <;> rw [e]
 ·exact .inl rfl
 ·exact .inr rfl
theorem Z4W (hZ : S.z = false) {x : Nat} (hx : storeAt o = some x) (hc : crowded ops o = true) (h : Z0H P S n ops o s = some r) :
  r.news = [] /\ (∀ u, r.upd = some u -> u.1 = 4 * x) /\ ∀ s' : FSt, (∀ t ∈ o.looksAt ops.toArray, s'.slot t = s.slot t) -> s'.heap (4 * x) = s.heap (4 * x) -> Z0H P S n ops o s' = some r := by
 have ho := Zm7 hx
 have hw' : ∀ s' : FSt, (∀ t ∈ o.looksAt ops.toArray, s'.slot t = s.slot t) -> Z3F ops s' o = Z3F ops s o := fun s' hs => Zai fun j w hg q d hq hd => hs d (Z8G hg hq hd)
 unfold Z0H at h
 split at h
 ·cases h
 ·rename_i w hw
  split at h
  ·rename_i hd
   split at h
   ·rename_i hwt
    split at h
    ·cases h
    ·rename_i r' hr'
     split at h
     ·rename_i hk
      simp only [Option.some.injEq] at h; subst h
      have hh := (ZgD hk).2
      unfold Z3z at hh
      rw [Bool.and_eq_true] at hh
      replace hh := hh.2
      unfold Z8F at hh
      rw [hx] at hh
      dsimp only at hh
      rw [hc, Bool.and_eq_true] at hh
      replace hh := hh.1
      simp only [cond_true] at hh
      obtain ⟨off, hs⟩ : ∃ off, s.ev (.tmp x) = .ptr (4 * x) off := by
       split at hh
       ·rename_i i off hsl
        obtain rfl := Nat.eq_of_beq_eq_true hh
        exact ⟨off, hsl⟩
       ·cases hh
      have key : ∀ s' : FSt, (∀ t ∈ o.looksAt ops.toArray, s'.slot t = s.slot t) -> s'.heap (4 * x) = s.heap (4 * x) -> Z2v P S s' o = Z2v P S s o := by
       intro s' hs' hq
       have hev : ∀ z ∈ o.op.operands.toList, s'.ev z = s.ev z := fun z hz => ZiY fun t ht => hs' t (Z5B (by rw [<- ht]; exact hz))
       rcases ho with ⟨t, y, ho⟩ | ⟨t, ho⟩
       rotate_left
       ·rw [ho] at hev
        have e1 := hev (.tmp x) (by simp [Op.operands])
        simp only [Z3L hZ]; unfold Z1f
        rw [ho]
        dsimp only
        rw [e1, hs]
        cases Zu P (isAgg t) with
        | none => rfl
        | some ga =>
         cases Zu P (sizeOf t) with
         | none => rfl
         | some sz =>
          show ld s'.heap ga sz (4 * x) off = ld s.heap ga sz (4 * x) off
          unfold ld
          rw [hq]
       rw [ho] at hev
       have e1 := hev (.tmp x) (by simp [Op.operands])
       have e2 := hev y (by simp [Op.operands])
       simp only [Z3L hZ]; unfold Z1f
       rw [ho]
       dsimp only
       rw [e1, e2, hs]
       cases o.dst with
       | some _ => rfl
       | none =>
        cases Zu P (sizeOf t) with
        | none => rfl
        | some sz =>
         show st s'.heap sz (4 * x) off (s.ev y) = st s.heap sz (4 * x) off (s.ev y)
         unfold st
         rw [hq]
      have form : r'.news = [] /\ ∀ u, r'.upd = some u -> u.1 = 4 * x := by
       rcases ho with ⟨t, y, ho⟩ | ⟨t, ho⟩
       rotate_left
       ·simp only [Z3L hZ] at hr'; unfold Z1f at hr'
        rw [ho] at hr'
        dsimp only [ZdE] at hr'
        rw [hs] at hr'
        split at hr'
        ·unfold ld at hr'
         repeat' split at hr'
         all_goals first
          | (simp only [Option.some.injEq] at hr'; subst hr'; exact ⟨rfl, fun u hu => by cases hu⟩)
          | cases hr'
        ·cases hr'
       simp only [Z3L hZ] at hr'; unfold Z1f at hr'
       rw [ho] at hr'
       dsimp only at hr'
       rw [hs] at hr'
       split at hr'
       ·cases hr'
       ·(try dsimp only at hr')
        split at hr'
        ·rename_i e1 e2
         simp only [SV.ptr.injEq] at e1
         obtain ⟨rfl, rfl⟩ := e1
         unfold st at hr'
         repeat' split at hr'
         all_goals first
          | (simp only [Option.some.injEq] at hr'; subst hr'; exact ⟨rfl, fun u hu => by simp only [Option.some.injEq] at hu; subst hu; rfl⟩)
          | cases hr'
        ·cases hr'
      refine ⟨form.1, form.2, fun s' hs' hq => ?_⟩
      ·unfold Z0H
       rw [hw' s' hs', hw]
       dsimp only
       rw [if_pos hd, if_pos hwt, key s' hs' hq, hr']
       dsimp only
       have hB : Z3z P S ops o s' = Z3z P S ops o s := by
        have hs0 : s.slot x = .ptr (4 * x) off := hs
        unfold Z3z
        rw [Za0 hx (Zeh hx hs')]
        unfold Z8F
        rw [hx]
        dsimp only
        rw [Zeh hx hs', hs0]
        dsimp only
        rw [hq]
       unfold chkH at hk ⊢
       rw [hB, if_pos hk]
     ·cases h
   ·rename_i hwt
    simp only [Option.some.injEq] at h; subst h
    refine ⟨rfl, fun u hu => (by cases hu), fun s' hs' hq => ?_⟩
    unfold Z0H
    rw [hw' s' hs', hw]
    dsimp only
    rw [if_pos hd, if_neg hwt]
  ·cases h
theorem Zi6 (h : loadAt o = true) : ∃ t x, o.op = .load t (.tmp x) := by
 unfold loadAt at h
 split at h
 ·rename_i t x ho
  exact ⟨t, x, ho⟩
 ·cases h
theorem ZlP (h2 : Za6 q = true) : cls S q.op = 2 := by
 unfold Za6 at h2
 split at h2
 ·rename_i e; rw [e]; rfl
 ·rename_i c e
  split at h2
  ·rename_i e2; rw [e]; simp [cls, e2]
  ·cases h2
 ·cases h2
theorem Z7l (h : ZhQ S o q = true) : ((ZlB S o = true /\ (∃ x, Z7t S o = some x) /\ (loadAt q = true \/ Za6 q = true)) \/ (isSt o = true /\ Za6 q = true)) /\ cls S o.op = 3 /\ cls S q.op = 2 := by
 unfold ZhQ at h
 simp only [Bool.or_eq_true, Bool.and_eq_true] at h
 rcases h with ⟨h1, h2⟩ | ⟨h1, h2⟩
 ·have hq : cls S q.op = 2 := by
   rcases h2 with h2 | h2
   ·obtain ⟨t, x, e⟩ := Zi6 h2
    rw [e]; rfl
   ·exact ZlP h2
  have h1' := h1
  unfold ZlB at h1'
  cases hx : Z7t S o with
  | none => rw [hx] at h1'; cases h1'
  | some x =>
   obtain ⟨c, f, run, ho, hf, hm, _⟩ := Zhl hx
   exact ⟨.inl ⟨h1, ⟨x, rfl⟩, h2⟩, by rw [ho]; simp [cls, hf, hm], hq⟩
 ·refine ⟨.inr ⟨h1, h2⟩, ?_, ZlP h2⟩
  unfold isSt at h1
  split at h1
  ·rename_i e; rw [e]; rfl
  ·cases h1
def Uk (H H' : Nat -> Option Blk) : Prop := ∀ j, H' j = H j \/ (∃ e c c', H j = some (.box e c) /\ H' j = some (.box e c')) \/ ∃ e z m c c', H j = some (.row e z m c) /\ H' j = some (.row e z m c')
theorem Uk.symm {H H' : Nat -> Option Blk} (h : Uk H H') : Uk H' H := fun j => by
 rcases h j with h | ⟨e, c, c', h1, h2⟩ | ⟨e, z, m, c, c', h1, h2⟩
 ·exact .inl h.symm
 ·exact .inr (.inl ⟨e, c', c, h2, h1⟩)
 ·exact .inr (.inr ⟨e, z, m, c', c, h2, h1⟩)
def Ub (e : TypeId) (H H' : Nat -> Option Blk) : Prop := ∀ j, H' j = H j \/ ∃ c c', H j = some (.box e c) /\ H' j = some (.box e c')
theorem Ub.symm {e : TypeId} {H H' : Nat -> Option Blk} (h : Ub e H H') : Ub e H' H := fun j => by
 rcases h j with h | ⟨c, c', h1, h2⟩
 ·exact .inl h.symm
 ·exact .inr ⟨c', c, h2, h1⟩
theorem Zr8 (hZ : S.z = false) {x : Operand} (hx : Z7t S o = some x) (h : Z0H P S n ops o s = some r) : r.news = [] /\ (r.upd = none \/ ∃ e id c c', ZnO P o = some e /\ s.heap id = some (.box e c) /\ r.upd = some (id, .box e c')) := by
 obtain ⟨c, f, run, ho, hf, hm, hh⟩ := Zhl hx
 unfold Z0H at h
 split at h
 ·cases h
 ·split at h
  ·split at h
   ·split at h
    ·cases h
    ·rename_i r' hr'
     split at h
     ·rename_i hk
      simp only [Option.some.injEq] at h; subst h
      have hb := (ZgD hk).2
      unfold Z3z at hb
      rw [Bool.and_eq_true] at hb
      replace hb := hb.2
      unfold Z8F at hb
      have hst : storeAt o = none := by unfold storeAt; rw [ho]
      rw [hst, hx] at hb
      dsimp only at hb
      simp only [Z3L hZ] at hr'; unfold Z1f at hr'
      rw [ho] at hr'
      dsimp only at hr'
      rw [hf] at hr'
      dsimp only at hr'
      rw [hm] at hr'
      have hr' : Z89 s run (c.args.toList.map s.ev) = _ := hr'
      cases hl : c.args.toList with
      | nil => rw [hl] at hh; cases hh
      | cons x' xs =>
       rw [hl] at hh hr'
       simp only [List.head?_cons, Option.some.injEq] at hh
       subst hh
       simp only [List.map_cons] at hr'
       unfold Z89 at hr'
       split at hr'
       ·rename_i id xs' e1
        simp only [List.cons.injEq] at e1
        rw [e1.1] at hb
        dsimp only at hb
        split at hr'
        ·rename_i e cells hbx
         rw [hbx] at hb
         split at hr'
         ·split at hr'
          ·split at hr'
           ·simp only [Option.some.injEq] at hr'; subst hr'
            refine ⟨rfl, .inr ⟨e, id, cells, _, ?_, hbx, rfl⟩⟩
            cases hty : ZnO P o with
            | none => rw [hty] at hb; cases hb
            | some e' =>
             rw [hty] at hb
             dsimp only at hb
             rw [Nat.eq_of_beq_eq_true hb]
           ·cases hr'
          ·cases hr'
         ·cases hr'
        ·cases hr'
       ·cases hr'
     ·cases h
   ·simp only [Option.some.injEq] at h; subst h
    exact ⟨rfl, .inl rfl⟩
  ·cases h
theorem ZvP (hZ : S.z = false) {x : Operand} (hx : Z7t S o = some x) (h : Z0H P S n ops o s = some r) (hd : r.drop = none) : r.upd = none /\ (∀ d, (s.apply d r).heap = s.heap) \/ ∃ e, ZnO P o = some e /\ ∀ d, Ub e s.heap (s.apply d r).heap := by
 obtain ⟨hn, hu⟩ := Zr8 hZ hx h
 rcases hu with hu | ⟨e, id, c, c', hty, hb, hu⟩
 ·refine .inl ⟨hu, fun d => funext fun j => ?_⟩
  rw [Z0W hd, hu, hn]
  rfl
 ·refine .inr ⟨e, hty, fun d j => ?_⟩
  rw [Z0W hd, hu, hn]
  simp only [ul, lk]
  by_cases ej : j = id
  ·subst ej
   rw [if_pos rfl]
   exact .inr ⟨c, c', hb, rfl⟩
  ·rw [if_neg ej]
   exact .inl rfl
theorem Zea (hZ : S.z = false) (hk : Za6 q = true) (hs : ∀ t ∈ q.looksAt ops.toArray, s'.slot t = s.slot t) (hu : Uk s.heap s'.heap) (h : Z0H P S n ops q s = some r) : Z0H P S n ops q s' = some r := by
 have hw' : Z3F ops s' q = Z3F ops s q := Zai fun j w hg q d hq hd => hs d (Z8G hg hq hd)
 unfold Z0H at h ⊢
 rw [hw']
 split at h
 ·cases h
 ·rename_i w hw
  try dsimp only
  split at h
  ·rename_i hd
   try rw [if_pos hd]
   split at h
   ·rename_i hwt
    try rw [if_pos hwt]
    split at h
    ·cases h
    ·rename_i r' hr'
     split at h
     ·rename_i hkk
      simp only [Option.some.injEq] at h; subst h
      have hev : ∀ z ∈ q.op.operands.toList, s'.ev z = s.ev z := fun z hz => ZiY fun t ht => hs t (Z5B (by rw [<- ht]; exact hz))
      have hop : Z2v P S s' q = Z2v P S s q /\ storeAt q = none /\ Z7t S q = none := by
       unfold Za6 at hk
       split at hk
       ·rename_i t x i hq
        refine ⟨?_, by unfold storeAt; rw [hq], by unfold Z7t; rw [hq]⟩
        rw [hq] at hev
        simp only [Z3L hZ]; unfold Z1f
        rw [hq]
        dsimp only
        rw [hev x (by simp [Op.operands]), hev i (by simp [Op.operands])]
        generalize s.ev x = X
        generalize s.ev i = I
        generalize P.underlying t = D
        cases X <;> try rfl
        all_goals
         cases I <;> try rfl
         rename_i v
         cases v <;> try rfl
         cases D <;> try rfl
         rename_i d
         cases d <;> try rfl
        rename_i id _ _ _
        simp only
        rcases hu id with h | ⟨e, c, c', h1, h2⟩ | ⟨e, z, m, c, c', h1, h2⟩
        ·rw [h]
        ·rw [h1, h2]
        ·rw [h1, h2]
         cases Zu P (sizeOf _) <;> rfl
       ·rename_i c hq
        split at hk
        ·rename_i hcc
         refine ⟨?_, by unfold storeAt; rw [hq], by unfold Z7t; rw [hq]; simp only; rw [hcc]⟩
         rw [hq] at hev
         have hargs : ∀ x ∈ c.args.toList, s'.ev x = s.ev x := fun x hx => hev x (by simp only [Op.operands, Call.operands]; simp; exact .inr (by simpa using hx))
         have hmap : c.args.toList.map s'.ev = c.args.toList.map s.ev := List.map_congr_left hargs
         simp only [Z3L hZ]; unfold Z1f
         rw [hq]
         dsimp only
         rw [hcc]
         dsimp only
         rw [hmap]
         generalize c.argTypes.toList = ts
         generalize c.args.toList.map s.ev = xs
         match xs, ts with
         | [], _ => rfl
         | X :: Y :: l, ts => cases X with
          | val v => cases v <;> rfl
          | _ => rfl
         | [X], [] => cases X with
          | val v => cases v <;> rfl
          | _ => rfl
         | [X], t :: u :: ts => cases X with
          | val v => cases v <;> rfl
          | _ => rfl
         | [X], [t] => cases X with
          | val v => cases v <;> rfl
          | row id =>
           simp only
           rcases hu id with h | ⟨e, c, c', h1, h2⟩ | ⟨e, z, m, c, c', h1, h2⟩
           ·rw [h]
           ·rw [h1, h2]
           ·rw [h1, h2]
            cases P.underlying t with
            | none => rfl
            | some u => cases u <;> rfl
          | _ => rfl
        ·cases hk
       ·cases hk
      obtain ⟨hop, hst, hsr⟩ := hop
      rw [hop, hr']
      dsimp only
      have hna : Z5A q = false := by
       unfold Za6 at hk
       split at hk
       ·rename_i e; unfold Z5A; rw [e]
       ·rename_i c e
        split at hk
        ·rename_i e2; unfold Z5A; rw [e]; simp only; rw [e2]
        ·cases hk
       ·cases hk
      have hB : ∀ s : FSt, Z3z P S ops q s = true := fun s => by
       unfold Z3z Z9e Z8F
       rw [hst, hsr]
       dsimp only
       unfold ZgW
       rw [hna]
       rfl
      unfold chkH at hkk ⊢
      rw [hB] at hkk ⊢
      rw [if_pos hkk]
     ·cases h
   ·rename_i hwt
    rw [if_neg hwt]
    exact h
  ·cases h
theorem Zjl (hZ : S.z = false) {e : TypeId} (hom : o ∈ ops) (ho : ZlB S o = true) (hty : ZnO P o = some e) (hk : loadAt q = true \/ Za6 q = true) (hs : ∀ t ∈ q.looksAt ops.toArray, s'.slot t = s.slot t) (hu : Ub e s.heap s'.heap) (h : Z0H P S n ops q s = some r) : Z0H P S n ops q s' = some r := by
 by_cases hnk : Za6 q = true
 ·exact Zea hZ hnk hs (fun j => by
   rcases hu j with h | ⟨c, c', h1, h2⟩
   ·exact .inl h
   ·exact .inr (.inl ⟨_, c, c', h1, h2⟩)) h
 have hw' : Z3F ops s' q = Z3F ops s q := Zai fun j w hg q d hq hd => hs d (Z8G hg hq hd)
 have hany : ops.any (ZlB S) = true := List.any_eq_true.2 ⟨o, hom, ho⟩
 unfold Z0H at h ⊢
 rw [hw']
 split at h
 ·cases h
 ·rename_i w hw
  try dsimp only
  split at h
  ·rename_i hd
   try rw [if_pos hd]
   split at h
   ·rename_i hwt
    try rw [if_pos hwt]
    split at h
    ·cases h
    ·rename_i r' hr'
     split at h
     ·rename_i hkk
      simp only [Option.some.injEq] at h; subst h
      have hev : ∀ z ∈ q.op.operands.toList, s'.ev z = s.ev z := fun z hz => ZiY fun t ht => hs t (Z5B (by rw [<- ht]; exact hz))
      rcases hk with hk | hk
      ·obtain ⟨t, x, hq⟩ := Zi6 hk
       have hx : storeAt q = some x := by unfold storeAt; rw [hq]
       have hb := (ZgD hkk).2
       unfold Z3z at hb
       rw [Bool.and_eq_true] at hb
       replace hb := hb.2
       unfold Z8F at hb
       rw [hx] at hb
       dsimp only at hb
       rw [hk, hany, Bool.and_eq_true] at hb
       replace hb := hb.2
       simp only [Bool.true_and, cond_true] at hb
       obtain ⟨i, off, hsl, hi⟩ : ∃ i off, s.slot x = .ptr i off /\ s'.heap i = s.heap i := by
        split at hb
        ·rename_i i off hsl
         refine ⟨i, off, hsl, ?_⟩
         rcases hu i with h | ⟨c, c', h1, h2⟩
         ·exact h
         ·rw [h1] at hb
          dsimp only at hb
          have := List.all_eq_true.1 hb o hom
          rw [ho, hty] at this
          simp at this
        ·cases hb
       have e0 : s'.slot x = s.slot x := Zeh hx hs
       have hop : Z2v P S s' q = Z2v P S s q := by
        simp only [Z3L hZ]; unfold Z1f
        rw [hq]
        dsimp only
        rw [show s'.ev (.tmp x) = s.ev (.tmp x) from e0, show s.ev (.tmp x) = .ptr i off from hsl]
        cases Zu P (isAgg t) with
        | none => rfl
        | some ga =>
         cases Zu P (sizeOf t) with
         | none => rfl
         | some sz =>
          show ld s'.heap ga sz i off = ld s.heap ga sz i off
          unfold ld
          rw [hi]
       have hB : Z3z P S ops q s' = Z3z P S ops q s := by
        unfold Z3z
        rw [Za0 hx e0]
        unfold Z8F
        rw [hx]
        dsimp only
        rw [e0, hsl]
        dsimp only
        rw [hi]
       rw [hop, hr']
       dsimp only
       unfold chkH at hkk ⊢
       rw [hB, if_pos hkk]
      ·exact absurd hk hnk
     ·cases h
   ·rename_i hwt
    rw [if_neg hwt]
    exact h
  ·cases h
theorem ZwY (hZ : S.z = false) (ho : isSt o = true) (h : Z0H P S n ops o s = some r) (hd : r.drop = none) (d : Option Nat) : Uk s.heap (s.apply d r).heap := by
 have key : r.news = [] /\ (r.upd = none \/ ∃ id b, r.upd = some (id, b) /\ ((∃ e c c', s.heap id = some (.box e c) /\ b = .box e c') \/ ∃ e z m c c', s.heap id = some (.row e z m c) /\ b = .row e z m c')) := by
  unfold isSt at ho
  split at ho
  ·rename_i t x y hop
   unfold Z0H at h
   split at h
   ·cases h
   ·split at h
    ·split at h
     ·split at h
      ·cases h
      ·rename_i r' hr'
       split at h
       ·simp only [Option.some.injEq] at h; subst h
        simp only [Z3L hZ] at hr'; unfold Z1f at hr'
        rw [hop] at hr'
        dsimp only at hr'
        split at hr'
        ·cases hr'
        ·split at hr'
         ·unfold st at hr'
          split at hr'
          ·split at hr'
           ·rename_i hb
            simp only [Option.some.injEq] at hr'; subst hr'
            exact ⟨rfl, .inr ⟨_, _, rfl, .inl ⟨_, _, _, hb, rfl⟩⟩⟩
           ·rename_i hb
            split at hr'
            ·split at hr'
             ·simp only [Option.some.injEq] at hr'; subst hr'
              exact ⟨rfl, .inr ⟨_, _, rfl, .inr ⟨_, _, _, _, _, hb, rfl⟩⟩⟩
             ·cases hr'
            ·cases hr'
           ·cases hr'
          ·cases hr'
         ·cases hr'
       ·cases h
     ·simp only [Option.some.injEq] at h; subst h
      exact ⟨rfl, .inl rfl⟩
    ·cases h
  ·cases ho
 intro j
 obtain ⟨hn, hu⟩ := key
 rw [Z0W hd, hn]
 rcases hu with hu | ⟨id, b, hu, hb⟩
 ·rw [hu]; exact .inl rfl
 ·rw [hu]
  simp only [ul, lk]
  by_cases ej : j = id
  ·subst ej
   rw [if_pos rfl]
   rcases hb with ⟨e, c, c', h1, rfl⟩ | ⟨e, z, m, c, c', h1, rfl⟩
   ·exact .inr (.inl ⟨e, c, c', h1, rfl⟩)
   ·exact .inr (.inr ⟨e, z, m, c, c', h1, rfl⟩)
  ·rw [if_neg ej]
   exact .inl rfl
theorem Zeu (hom : o ∈ ops) (hqm : q ∈ ops) (wf : WF s) (hap : o.apart ops.toArray q = true) (hal : allowed (cls S o.op) (cls S q.op) = true \/ (S.z = false /\ Zkv ops o q = true) \/ (S.z = false /\ ZhQ S o q = true) \/ (S.z = false /\ ZhQ S q o = true)) (h1 : step P S n ops o s = some s1) (h2 : step P S n ops q s1 = some s2) :
  ∃ s3, step P S n ops q s = some s3 /\ step P S n ops o s3 = some s2 := by
 obtain ⟨a1, a2, a3⟩ := Oper.apart_spec hap
 have hcls : cls S o.op ≠ 4 /\ cls S q.op ≠ 4 := by
  rcases hal with hal | ⟨hZ, hal⟩ | ⟨hZ, hal⟩ | ⟨hZ, hal⟩
  ·exact (Zc1 hal).1
  ·obtain ⟨x, y, hx, hy, _⟩ := Zcy hal
   have e1 := Zjm (S := S) hx
   have e2 := Zjm (S := S) hy
   exact ⟨by omega, by omega⟩
  ·obtain ⟨_, e1, e2⟩ := Z7l hal
   exact ⟨by omega, by omega⟩
  ·obtain ⟨_, e1, e2⟩ := Z7l hal
   exact ⟨by omega, by omega⟩
 obtain ⟨hco, hcq⟩ := hcls
 obtain ⟨ro, ho, fo, rfl⟩ := Z6d h1
 have spo := Z9m hco wf ho
 obtain ⟨rq, hq, fq, rfl⟩ := Z6d h2
 have hq' : Z0H P S n ops q s = some rq := by
  have hsl : ∀ t ∈ q.looksAt ops.toArray, (s.apply o.dst ro).slot t = s.slot t := fun t ht => by
   rw [Z2w spo.drop, if_neg]
   intro e
   exact a1 t e ht
  rcases hal with hal | ⟨hZ, hal⟩ | ⟨hZ, hal⟩ | ⟨hZ, hal⟩
  rotate_left 2
  ·obtain ⟨hkind, e1, e2⟩ := Z7l hal
   rcases hkind with ⟨hs0, ⟨x, hx⟩, hk⟩ | ⟨hs0, hk⟩
   ·rcases ZvP hZ hx ho spo.drop with ⟨_, hh⟩ | ⟨e, hty, hub⟩
    ·rw [<- hq]
     exact (Z7j hsl (.inr ⟨fun id hid => by rw [hh], wf⟩) hcq).symm
    ·exact Zjl hZ hom hs0 hty hk (fun t ht => (hsl t ht).symm) (hub o.dst).symm hq
   ·exact Zea hZ hk (fun t ht => (hsl t ht).symm) (ZwY hZ hs0 ho spo.drop o.dst).symm hq
  ·obtain ⟨_, e1, e2⟩ := Z7l hal
   rw [<- hq]
   exact (Z7j hsl (.inr ⟨ZgB spo fo (by omega), wf⟩) hcq).symm
  ·rw [<- hq]
   refine (Z7j hsl ?_ hcq).symm
   by_cases h0 : cls S q.op = 0
   ·exact .inl h0
   ·refine .inr ⟨ZgB spo fo ?_, wf⟩
    intro h3
    exact h0 ((Zc1 hal).2.1 h3)
  ·obtain ⟨x, y, hx, hy, hne, hcx, hcy⟩ := Zcy hal
   have hn : ro.news = [] := (Z4W hZ hx hcx ho).1
   refine (Z4W hZ hy hcy hq).2.2 s (fun t ht => (hsl t ht).symm) ?_
   rw [Z0W spo.drop]
   have hu : ul ro.upd (4 * y) = none := by
    cases hup : ro.upd with
    | none => rfl
    | some u =>
     have := (Z4W hZ hx hcx ho).2.1 u hup
     obtain ⟨i, b⟩ := u
     simp only [ul]
     rw [if_neg]
     intro e
     dsimp only at this
     omega
   rw [hu, hn]
   rfl
 have spq := Z9m hcq wf hq'
 have live1 : ∀ id, (s.heap id).isSome = true -> ((s.apply o.dst ro).heap id).isSome = true := by
  intro id hid
  rw [Z0W spo.drop]
  cases ul ro.upd id with
  | some c => rfl
  | none => cases lk ro.news id with
   | some c => rfl
   | none => exact hid
 have fq' : s.fresh rq.news = true := Z2M.2 fun p hp => by
  have := Z2M.1 fq p hp
  cases hs : s.heap p.1 with
  | none => rfl
  | some b =>
   have := live1 p.1 (Zi4 hs)
   rw [Z2M.1 fq p hp] at this
   cases this
 have hdisj : ∀ p ∈ ro.news, ∀ p' ∈ rq.news, p.1 ≠ p'.1 := by
  intro p hp p' hp' e
  obtain ⟨d, j, hd, hj, e1⟩ := spo.ids p hp
  obtain ⟨d', j', hd', hj', e2⟩ := spq.ids p' hp'
  rw [e1, e2] at e
  have : d = d' := Nat.le_antisymm (by omega) (by omega)
  subst this
  exact a2 d hd hd'
 have ho' : Z0H P S n ops o (s.apply q.dst rq) = some ro := by
  have hsl : ∀ t ∈ o.looksAt ops.toArray, (s.apply q.dst rq).slot t = s.slot t := fun t ht => by
   rw [Z2w spq.drop, if_neg]
   intro e
   exact a3 t e ht
  rcases hal with hal | ⟨hZ, hal⟩ | ⟨hZ, hal⟩ | ⟨hZ, hal⟩
  rotate_left 2
  ·obtain ⟨_, e1, e2⟩ := Z7l hal
   rw [<- ho]
   exact Z7j hsl (.inr ⟨ZgB spq fq' (by omega), wf⟩) hco
  ·obtain ⟨hkind, e1, e2⟩ := Z7l hal
   rcases hkind with ⟨hs0, ⟨x, hx⟩, hk⟩ | ⟨hs0, hk⟩
   ·rcases ZvP hZ hx hq' spq.drop with ⟨_, hh⟩ | ⟨e, hty, hub⟩
    ·rw [<- ho]
     exact Z7j hsl (.inr ⟨fun id hid => by rw [hh], wf⟩) hco
    ·exact Zjl hZ hqm hs0 hty hk hsl (hub q.dst) ho
   ·exact Zea hZ hk hsl (ZwY hZ hs0 hq' spq.drop q.dst) ho
  ·rw [<- ho]
   refine Z7j hsl ?_ hco
   by_cases h0 : cls S o.op = 0
   ·exact .inl h0
   ·refine .inr ⟨ZgB spq fq' ?_, wf⟩
    intro h3
    exact h0 ((Zc1 hal).2.2 h3)
  ·obtain ⟨x, y, hx, hy, hne, hcx, hcy⟩ := Zcy hal
   have hn : rq.news = [] := (Z4W hZ hy hcy hq').1
   refine (Z4W hZ hx hcx ho).2.2 _ hsl ?_
   rw [Z0W spq.drop]
   have hu : ul rq.upd (4 * x) = none := by
    cases hup : rq.upd with
    | none => rfl
    | some u =>
     have := (Z4W hZ hy hcy hq').2.1 u hup
     obtain ⟨i, b⟩ := u
     simp only [ul]
     rw [if_neg]
     intro e
     dsimp only at this
     omega
   rw [hu, hn]
   rfl
 have fo' : (s.apply q.dst rq).fresh ro.news = true := Z2M.2 fun p hp => by
  rw [Z0W spq.drop]
  have hs := Z2M.1 fo p hp
  have hu : ul rq.upd p.1 = none := by
   cases hup : rq.upd with
   | none => rfl
   | some u =>
    obtain ⟨i, b⟩ := u
    simp only [ul]
    rw [if_neg]
    intro e
    have := spq.live _ hup
    rw [<- e, hs] at this
    cases this
  have hl : lk rq.news p.1 = none := by
   cases hl : lk rq.news p.1 with
   | none => rfl
   | some c =>
    obtain ⟨p', hp', e, _⟩ := Zca hl
    exact absurd e.symm (hdisj p hp p' hp')
  rw [hu, hl]
  exact hs
 refine ⟨_, Z8w hq' fq', ?_⟩
 rw [Z8w ho' fo']
 congr 1
 have hheap : ((s.apply q.dst rq).apply o.dst ro).heap = ((s.apply o.dst ro).apply q.dst rq).heap := by
  funext x
  rw [Z0W spo.drop, Z0W spq.drop, Z0W spq.drop, Z0W spo.drop]
  have hone : ∀ (u : Option (Nat × Blk)) (l : List (Nat × Blk)) (c : Blk), (∀ v, u = some v -> (s.heap v.1).isSome = true) -> s.fresh l = true -> ul u x = some c -> lk l x = none := by
   intro u l c hu hf hc
   cases hl : lk l x with
   | none => rfl
   | some c' =>
    obtain ⟨p, hp, e, _⟩ := Zca hl
    cases u with
    | none => cases hc
    | some v =>
     obtain ⟨i, b⟩ := v
     simp only [ul] at hc
     split at hc
     ·rename_i e'
      have := hu _ rfl
      rw [<- e', <- e, Z2M.1 hf p hp] at this
      cases this
     ·cases hc
  have hups : ul ro.upd x = none \/ ul rq.upd x = none := by
   rcases hal with hal | ⟨hZ, hal⟩ | ⟨hZ, hal⟩ | ⟨hZ, hal⟩
   rotate_left 2
   ·obtain ⟨_, e1, e2⟩ := Z7l hal
    right
    rw [spq.upd (by omega)]
    rfl
   ·obtain ⟨_, e1, e2⟩ := Z7l hal
    left
    rw [spo.upd (by omega)]
    rfl
   rotate_left
   ·obtain ⟨x1, y1, hx1, hy1, hne, hcx, hcy⟩ := Zcy hal
    cases huo : ro.upd with
    | none => exact .inl rfl
    | some u =>
     cases huq : rq.upd with
     | none => exact .inr rfl
     | some v =>
      have e1 := (Z4W hZ hx1 hcx ho).2.1 u huo
      have e2 := (Z4W hZ hy1 hcy hq').2.1 v huq
      obtain ⟨i, b⟩ := u
      obtain ⟨j, c⟩ := v
      dsimp only at e1 e2
      by_cases e : x = i
      ·right
       simp only [ul]
       rw [if_neg]
       omega
      ·left
       simp only [ul]
       rw [if_neg e]
   by_cases h3 : cls S o.op = 3
   ·right
    have : cls S q.op ≠ 3 := by
     intro h
     rw [h3, h] at hal
     cases hal
    rw [spq.upd this]
    rfl
   ·left
    rw [spo.upd h3]
    rfl
  cases huo : ul ro.upd x with
  | some c =>
   have huq := hups.resolve_left (by rw [huo]; simp)
   rw [huq, hone _ _ c spo.live fq' huo]
  | none =>
   cases huq : ul rq.upd x with
   | some c =>
    rw [hone _ _ c spq.live fo huq]
   | none =>
    cases hlo : lk ro.news x with
    | none => cases lk rq.news x <;> rfl
    | some c =>
     cases hlq : lk rq.news x with
     | none => rfl
     | some c' =>
      obtain ⟨p, hp, e, _⟩ := Zca hlo
      obtain ⟨p', hp', e', _⟩ := Zca hlq
      exact absurd (e.trans e'.symm) (hdisj p hp p' hp')
 have hslot : ((s.apply q.dst rq).apply o.dst ro).slot = ((s.apply o.dst ro).apply q.dst rq).slot := by
  funext t
  rw [Z2w spo.drop, Z2w spq.drop, Z2w spq.drop, Z2w spo.drop]
  by_cases e1 : o.dst = some t
  ·rw [if_pos e1, if_neg (a2 t e1), if_pos e1]
  ·rw [if_neg e1]
   by_cases e2 : q.dst = some t
   ·rw [if_pos e2, if_pos e2]
   ·rw [if_neg e2, if_neg e2, if_neg e1]
 cases hA : (s.apply q.dst rq).apply o.dst ro
 cases hB : (s.apply o.dst ro).apply q.dst rq
 rw [hA, hB] at hheap hslot
 simp only at hheap hslot
 rw [hheap, hslot]
end
section
variable {P : Program} {S : Sums} {n : Nat} {s s' s1 s2 : FSt} {o q : Oper} {r : Out} {ops : List Oper}
theorem Zwj (h : mixB ops o q = true) : ∃ x y t t' z, o.op = .load t (.tmp x) /\ q.op = .store t' (.tmp y) z /\ x ≠ y := by
 unfold mixB at h
 split at h
 ·rename_i x y hx hy
  simp only [Bool.and_eq_true, Bool.not_eq_true'] at h
  obtain ⟨⟨h1, h2⟩, h3, _⟩ := h
  have hne : x ≠ y := by rintro rfl; rw [Nat.beq_refl] at h3; cases h3
  rcases Z8L hx with ⟨t, z, e⟩ | ⟨t, e⟩
  ·unfold loadAt at h1; rw [e] at h1; cases h1
  ·rcases Z8L hy with ⟨t', z, e'⟩ | ⟨t', e'⟩
   ·exact ⟨x, y, t, t', z, e, e', hne⟩
   ·unfold isSt at h2; rw [e'] at h2; cases h2
 ·cases h
theorem Z5P (h : Z0H P S n ops o s = some r) : (Z0b n o.dst = true /\ Z3F ops s o = some true /\ Z2v P S s o = some r /\ Z3z P S ops o s = true /\ chkH P S ops o s r.chk = true) \/ (Z0b n o.dst = true /\ Z3F ops s o = some false /\ r = .pure true (.val undef)) := by
 unfold Z0H at h
 split at h
 ·cases h
 ·rename_i w hw
  split at h
  ·rename_i hd
   split at h
   ·rename_i hwt
    subst hwt
    split at h
    ·cases h
    ·rename_i r' hr'
     split at h
     ·rename_i hk
      simp only [Option.some.injEq] at h; subst h
      exact .inl ⟨hd, hw, hr', (ZgD hk).2, hk⟩
     ·cases h
   ·rename_i hwt
    simp only [Option.some.injEq] at h; subst h
    refine .inr ⟨hd, ?_, rfl⟩
    cases w
    ·exact hw
    ·exact absurd rfl hwt
  ·cases h
theorem Z8K (hd : Z0b n o.dst = true) (hw : Z3F ops s o = some true) (hr : Z2v P S s o = some r) (hk : chkH P S ops o s r.chk = true) : Z0H P S n ops o s = some r := by
 unfold Z0H
 rw [hw]
 dsimp only
 rw [if_pos hd, if_pos rfl, hr]
 dsimp only
 rw [if_pos hk]
theorem Zs7 (hd : Z0b n o.dst = true) (hw : Z3F ops s o = some false) : Z0H P S n ops o s = some (.pure true (.val undef)) := by
 unfold Z0H
 rw [hw]
 dsimp only
 rw [if_pos hd, if_neg (by simp)]
theorem Zt3 {H : Nat -> Option Blk} {ag : Bool} {sz id off : Nat} (h : ld H ag sz id off = some r) : r.news = [] /\ r.upd = none /\ r.drop = none := by
 unfold ld at h
 repeat' split at h
 all_goals first
  | (simp only [Option.some.injEq] at h; subst h; exact ⟨rfl, rfl, rfl⟩)
  | cases h
theorem ZqJ (hZ : S.z = false) {t : TypeId} {x : Nat} (ho : o.op = .load t (.tmp x)) (h : Z2v P S s o = some r) : ∃ i off ag sz, s.slot x = .ptr i off /\ Zu P (isAgg t) = some ag /\ Zu P (sizeOf t) = some sz /\ ld s.heap ag sz i off = some r := by
 simp only [Z3L hZ] at h; unfold Z1f at h
 rw [ho] at h
 dsimp only [ZdE] at h
 split at h
 ·rename_i i off ag sz hx hag hsz
  exact ⟨i, off, ag, sz, hx, hag, hsz, h⟩
 ·cases h
theorem Zt4 (hZ : S.z = false) {t : TypeId} {x i off sz : Nat} {ag : Bool} (ho : o.op = .load t (.tmp x)) (hx : s.slot x = .ptr i off) (hag : Zu P (isAgg t) = some ag) (hsz : Zu P (sizeOf t) = some sz) (hl : ld s.heap ag sz i off = some r) : Z2v P S s o = some r := by
 simp only [Z3L hZ]; unfold Z1f
 rw [ho]
 dsimp only [ZdE]
 rw [show s.ev (.tmp x) = .ptr i off from hx, hag, hsz]
 exact hl
theorem ZwT {H H' : Nat -> Option Blk} {ag : Bool} {sz id off : Nat} (h : H' id = H id) : ld H' ag sz id off = ld H ag sz id off := by
 unfold ld
 rw [h]
theorem Zhm {t : TypeId} {x : Nat} (ho : o.op = .load t (.tmp x)) : storeAt o = some x := by unfold storeAt; rw [ho]
theorem Zfm {t : TypeId} {x : Nat} {z : Operand} (ho : o.op = .store t (.tmp x) z) : storeAt o = some x := by unfold storeAt; rw [ho]
theorem Zpx (hZ : S.z = false) (hqm : q ∈ ops) (hm : mixB ops o q = true) {t : TypeId} {x y : Nat} (ho : o.op = .load t (.tmp x)) (hy : storeAt q = some y) (h : Z0H P S n ops o s = some r) :
  r.news = [] /\ r.upd = none /\ r.drop = none /\ ∀ s' : FSt, (∀ t ∈ o.looksAt ops.toArray, s'.slot t = s.slot t) -> (∀ i, i ≠ 4 * y -> s'.heap i = s.heap i) -> Z0H P S n ops o s' = some r := by
 have hx := Zhm ho
 have hw' : ∀ s' : FSt, (∀ t ∈ o.looksAt ops.toArray, s'.slot t = s.slot t) -> Z3F ops s' o = Z3F ops s o := fun s' hs => Zai fun j w hg q d hq hd => hs d (Z8G hg hq hd)
 rcases Z5P h with ⟨hd, hw, hr, hh, hk⟩ | ⟨hd, hw, rfl⟩
 ·obtain ⟨i, off, ag, sz, hsl, hag, hsz, hl⟩ := ZqJ hZ ho hr
  obtain ⟨f1, f2, f3⟩ := Zt3 hl
  refine ⟨f1, f2, f3, fun s' hs hheap => ?_⟩
  have e0 : s'.slot x = s.slot x := Zeh hx hs
  have hi : i ≠ 4 * y := by
   unfold Z3z at hh
   rw [Bool.and_eq_true] at hh
   have h1 := hh.1
   unfold Z9e at h1
   rw [hx] at h1
   dsimp only at h1
   unfold mixH at h1
   have hla : loadAt o = true := by unfold loadAt; rw [ho]
   rw [hla] at h1
   simp only [cond_true] at h1
   have := List.all_eq_true.1 h1 q hqm
   rw [hm, hy, hsl] at this
   simp only [cond_true, Bool.not_eq_true'] at this
   rintro rfl
   rw [Nat.beq_refl] at this
   cases this
  refine Z8K hd (by rw [hw' s' hs, hw]) (Zt4 hZ ho (by rw [e0, hsl]) hag hsz (by rw [ZwT (hheap i hi)]; exact hl)) ?_
  have hB : Z3z P S ops o s' = Z3z P S ops o s := by
   unfold Z3z
   rw [Za0 hx e0]
   unfold Z8F
   rw [hx]
   dsimp only
   rw [e0, hsl]
   dsimp only
   rw [hheap i hi]
  unfold chkH at hk ⊢
  rw [hB]
  exact hk
 ·exact ⟨rfl, rfl, rfl, fun s' hs _ => Zs7 hd (by rw [hw' s' hs, hw])⟩
theorem ZmM (hZ : S.z = false) (hom : o ∈ ops) (hm : mixB ops o q = true) {t : TypeId} {y : Nat} {z : Operand} (hq : q.op = .store t (.tmp y) z) (h : Z0H P S n ops q s = some r) : r.news = [] /\ r.drop = none /\ ∀ u, r.upd = some u -> u.1 = 4 * y := by
 have hy := Zfm hq
 rcases Z5P h with ⟨hd, hw, hr, hh, hk⟩ | ⟨hd, hw, rfl⟩
 ·unfold Z3z at hh
  rw [Bool.and_eq_true] at hh
  have h1 := hh.1
  unfold Z9e at h1
  rw [hy] at h1
  dsimp only at h1
  unfold mixH at h1
  have hla : loadAt q = false := by unfold loadAt; rw [hq]
  have hany : ops.any (fun z => mixB ops z q) = true := List.any_eq_true.2 ⟨o, hom, hm⟩
  rw [hla, hany] at h1
  simp only [cond_true, cond_false] at h1
  obtain ⟨off, hsl⟩ : ∃ off, s.slot y = .ptr (4 * y) off := by
   split at h1
   ·rename_i i off hsl
    obtain rfl := Nat.eq_of_beq_eq_true h1
    exact ⟨off, hsl⟩
   ·cases h1
  simp only [Z3L hZ] at hr; unfold Z1f at hr
  rw [hq] at hr
  dsimp only at hr
  rw [show s.ev (.tmp y) = .ptr (4 * y) off from hsl] at hr
  split at hr
  ·cases hr
  ·(try dsimp only at hr)
   split at hr
   ·rename_i e1 e2
    simp only [SV.ptr.injEq] at e1
    obtain ⟨rfl, rfl⟩ := e1
    unfold st at hr
    repeat' split at hr
    all_goals first
     | (simp only [Option.some.injEq] at hr; subst hr; exact ⟨rfl, rfl, fun u hu => by simp only [Option.some.injEq] at hu; subst hu; rfl⟩)
     | cases hr
   ·cases hr
 ·exact ⟨rfl, rfl, fun u hu => by cases hu⟩
theorem ZvQ (hZ : S.z = false) (hom : o ∈ ops) (hqm : q ∈ ops) (wf : WF s) (hap : o.apart ops.toArray q = true) (hm : mixB ops o q = true) (h1 : step P S n ops o s = some s1) (h2 : step P S n ops q s1 = some s2) :
  ∃ s3, step P S n ops q s = some s3 /\ step P S n ops o s3 = some s2 := by
 obtain ⟨a1, a2, a3⟩ := Oper.apart_spec hap
 obtain ⟨x, y, t, t', z, eo, eq, hne⟩ := Zwj hm
 have hco : cls S o.op ≠ 4 := by rw [eo]; simp [cls]
 have hcq : cls S q.op ≠ 4 := by rw [eq]; simp [cls]
 have hy := Zfm eq
 obtain ⟨ro, ho, fo, rfl⟩ := Z6d h1
 have spo := Z9m hco wf ho
 obtain ⟨n1, u1, d1, keep⟩ := Zpx hZ hqm hm eo hy ho
 obtain ⟨rq, hq, fq, rfl⟩ := Z6d h2
 have hsl : ∀ t ∈ q.looksAt ops.toArray, (s.apply o.dst ro).slot t = s.slot t := fun t ht => by
  rw [Z2w d1, if_neg]
  intro e
  exact a1 t e ht
 have hh1 : (s.apply o.dst ro).heap = s.heap := by
  funext j
  rw [Z0W d1, u1, n1]
  rfl
 have hq' : Z0H P S n ops q s = some rq := by
  rw [<- hq]
  exact (Z7j hsl (.inr ⟨fun id _ => by rw [hh1], wf⟩) hcq).symm
 obtain ⟨n2, d2, u2⟩ := ZmM hZ hom hm eq hq'
 have ho' : Z0H P S n ops o (s.apply q.dst rq) = some ro := by
  refine keep _ (fun t ht => ?_) fun i hi => ?_
  ·rw [Z2w d2, if_neg]
   intro e
   exact a3 t e ht
  ·rw [Z0W d2, n2]
   have : ul rq.upd i = none := by
    cases hu : rq.upd with
    | none => rfl
    | some u =>
     have := u2 u hu
     obtain ⟨j, b⟩ := u
     simp only [ul]
     rw [if_neg]
     intro e
     dsimp only at this
     omega
   rw [this]
   rfl
 refine ⟨_, Z8w hq' (by rw [n2]; rfl), ?_⟩
 rw [Z8w ho' (by rw [n1]; rfl)]
 congr 1
 have e1 : ((s.apply q.dst rq).apply o.dst ro).heap = ((s.apply o.dst ro).apply q.dst rq).heap := by
  funext j
  rw [Z0W d1, Z0W d2, Z0W d2, Z0W d1, u1, n1, n2]
  rfl
 have e2 : ((s.apply q.dst rq).apply o.dst ro).slot = ((s.apply o.dst ro).apply q.dst rq).slot := by
  funext j
  rw [Z2w d1, Z2w d2, Z2w d2, Z2w d1]
  by_cases c1 : o.dst = some j
  ·rw [if_pos c1, if_neg (a2 j c1), if_pos c1]
  ·rw [if_neg c1]
   by_cases c2 : q.dst = some j
   ·rw [if_pos c2, if_pos c2]
   ·rw [if_neg c2, if_neg c2, if_neg c1]
 generalize (s.apply q.dst rq).apply o.dst ro = A at e1 e2
 generalize (s.apply o.dst ro).apply q.dst rq = B at e1 e2
 cases A; cases B
 simp only at e1 e2
 rw [e1, e2]
end
section
variable {P : Program} {S : Sums} {n : Nat} {s s' s1 s2 : FSt} {o q : Oper} {r : Out} {ops : List Oper}
def kS : Option Nat -> SV -> SV
 | none, v => v
 | some id, v => Z0X id v
def kB : Option Nat -> Blk -> Blk
 | none, b => b
 | some id, b => Z9f id b
theorem Z4P (dr : Option Nat) (t : Nat) : (s.dropped dr).slot t = kS dr (s.slot t) := by cases dr <;> rfl
theorem Z7G {dr : Option Nat} {i : Nat} (h : dr ≠ some i) : (s.dropped dr).heap i = (s.heap i).map (kB dr) := by
 cases dr with
 | none => show s.heap i = _; cases s.heap i <;> rfl
 | some id =>
  have : i ≠ id := by rintro rfl; exact h rfl
  show (s.kill id).heap i = _
  rw [ZhZ this]
  cases s.heap i <;> rfl
theorem ZgH (id : Nat) : (s.dropped (some id)).heap id = none := by
 show (bif Nat.beq id id then none else _) = none
 simp
theorem Zxb {dr : Option Nat} {v : SV} {i off : Nat} (h : kS dr v = .ptr i off) : v = .ptr i off /\ dr ≠ some i := by
 cases dr with
 | none => exact ⟨h, by simp⟩
 | some id =>
  cases v with
  | ptr j o =>
   simp only [kS, Z0X] at h
   cases hb : Nat.beq j id with
   | true => rw [hb] at h; cases h
   | false =>
    rw [hb] at h
    simp only [cond_false, SV.ptr.injEq] at h
    obtain ⟨rfl, rfl⟩ := h
    exact ⟨rfl, by rintro ⟨⟩; rw [Nat.beq_refl] at hb; cases hb⟩
  | row j => simp only [kS, Z0X] at h; cases hb : Nat.beq j id <;> rw [hb] at h <;> cases h
  | sub j o k z => simp only [kS, Z0X] at h; cases hb : Nat.beq j id <;> rw [hb] at h <;> cases h
  | clo f l => simp only [kS, Z0X] at h; cases hb : l.any (Nat.beq id) <;> rw [hb] at h <;> cases h
  | tup l => simp only [kS, Z0X] at h; cases hb : Z6x id l <;> rw [hb] at h <;> cases h
  | agr l => simp only [kS, Z0X] at h; cases hb : Z6x id l <;> rw [hb] at h <;> cases h
  | val v => cases h
  | fn g => cases h
  | junk => cases h
theorem Zi3 {dr : Option Nat} {v : SV} {x : Value} (h : kS dr v = .val x) : v = .val x := by
 cases dr with
 | none => exact h
 | some id =>
  cases v with
  | val y => exact h
  | ptr j o => simp only [kS, Z0X] at h; cases hb : Nat.beq j id <;> rw [hb] at h <;> cases h
  | row j => simp only [kS, Z0X] at h; cases hb : Nat.beq j id <;> rw [hb] at h <;> cases h
  | sub j o k z => simp only [kS, Z0X] at h; cases hb : Nat.beq j id <;> rw [hb] at h <;> cases h
  | clo f l => simp only [kS, Z0X] at h; cases hb : l.any (Nat.beq id) <;> rw [hb] at h <;> cases h
  | tup l => simp only [kS, Z0X] at h; cases hb : Z6x id l <;> rw [hb] at h <;> cases h
  | agr l => simp only [kS, Z0X] at h; cases hb : Z6x id l <;> rw [hb] at h <;> cases h
  | fn g => cases h
  | junk => cases h
theorem Zi2 (dr : Option Nat) (x : Value) : kS dr (.val x) = .val x := by cases dr <;> rfl
theorem Ztp {dr : Option Nat} : ∀ {l : List SV} {m : List Value}, SV.vals (l.map (kS dr)) = some m -> SV.vals l = some m
 | [], m, h => h
 | x :: l, m, h => by
  rw [List.map_cons] at h
  cases hx : kS dr x with
  | val y =>
   rw [hx] at h
   simp only [SV.vals] at h
   split at h
   ·rename_i m' hm
    simp only [Option.some.injEq] at h; subst h
    rw [Zi3 hx]
    simp only [SV.vals, Ztp hm]
   ·cases h
  | _ => rw [hx] at h; cases h
theorem Zwf {H H' : Nat -> Option Blk} {dr : Option Nat} {ag : Bool} {sz i off : Nat} (hH : H' i = (H i).map (kB dr)) (h : ld H' ag sz i off = some r) : ∃ v0, ld H ag sz i off = some ⟨r.chk, v0, [], none, none⟩ /\ r = ⟨r.chk, kS dr v0, [], none, none⟩ := by
 cases dr with
 | none =>
  have e : H' i = H i := by rw [hH]; cases H i <;> rfl
  rw [ZwT e] at h
  obtain ⟨f1, f2, f3⟩ := Zt3 h
  obtain ⟨c, v, l, u, d⟩ := r
  simp only at f1 f2 f3
  subst f1; subst f2; subst f3
  exact ⟨v, h, rfl⟩
 | some id =>
  unfold ld at h ⊢
  rw [hH] at h
  cases hb : H i with
  | none => rw [hb] at h; cases h
  | some b =>
   rw [hb] at h
   have boxy : ∀ cells : List SV, (if ag = true then
     match SV.vals (((cells.map (Z0X id)).drop off).take sz) with
     | some l => if Nat.beq l.length sz = true then some (Out.pure true (.val (.agg l.toArray))) else none
     | none => none
    else match (cells.map (Z0X id))[off]? with
     | some v => some (.pure true v)
     | none => none) = some r -> ∃ v0, (if ag = true then
     match SV.vals ((cells.drop off).take sz) with
     | some l => if Nat.beq l.length sz = true then some (Out.pure true (.val (.agg l.toArray))) else none
     | none => none
    else match cells[off]? with
     | some v => some (.pure true v)
     | none => none) = some ⟨r.chk, v0, [], none, none⟩ /\ r = ⟨r.chk, kS (some id) v0, [], none, none⟩ := by
    intro cells h
    cases ag with
    | true =>
     simp only [if_true] at h ⊢
     split at h
     ·rename_i l hl
      rw [<- List.map_drop, <- List.map_take] at hl
      rw [Ztp (dr := some id) hl]
      dsimp only
      split at h
      ·rename_i Z5e
       rw [if_pos Z5e]
       simp only [Option.some.injEq] at h; subst h
       exact ⟨_, rfl, rfl⟩
      ·cases h
     ·cases h
    | false =>
     simp only [Bool.false_eq_true, if_false] at h ⊢
     rw [List.getElem?_map] at h
     cases hc : cells[off]? with
     | none => rw [hc] at h; cases h
     | some v =>
      rw [hc] at h
      simp only [Option.map_some, Option.some.injEq] at h; subst h
      exact ⟨v, rfl, rfl⟩
   cases b with
   | box e cells => exact boxy cells h
   | rop cells => exact boxy cells h
   | row e z m c =>
    simp only [Option.map_some, kB, Z9f] at h
    dsimp only at h ⊢
    split at h
    ·rename_i ha
     rw [if_pos ha]
     simp only [Option.some.injEq] at h; subst h
     exact ⟨_, rfl, rfl⟩
    ·rename_i ha
     rw [if_neg ha]
     simp only [Option.some.injEq] at h; subst h
     exact ⟨_, rfl, rfl⟩
   | ros m c =>
    simp only [Option.map_some, kB, Z9f] at h
    dsimp only at h ⊢
    split at h
    ·rename_i ha
     rw [if_pos ha]
     simp only [Option.some.injEq] at h; subst h
     exact ⟨_, rfl, rfl⟩
    ·rename_i ha
     rw [if_neg ha]
     simp only [Option.some.injEq] at h; subst h
     exact ⟨_, rfl, rfl⟩
   | fro fr m c =>
    simp only [Option.map_some, kB, Z9f] at h
    dsimp only at h ⊢
    split at h
    ·rename_i ha
     rw [if_pos ha]
     simp only [Option.some.injEq] at h; subst h
     exact ⟨_, rfl, rfl⟩
    ·rename_i ha
     rw [if_neg ha]
     simp only [Option.some.injEq] at h; subst h
     exact ⟨_, rfl, rfl⟩
   | dee own fr e ls => simp only [Option.map_some, kB, Z9f] at h; cases h
theorem ZfI (h : Z5A o = true) : ∃ c, o.op = .call c /\ c.callee = .builtin .append := by
 unfold Z5A at h
 split at h
 ·rename_i c hc
  split at h
  ·rename_i hb
   exact ⟨c, hc, hb⟩
  ·cases h
 ·cases h
theorem Zsr (hZ : S.z = false) (ha : Z5A o = true) (h : Z2v P S s o = some r) : ∃ d e z m c dr ck, o.dst = some d /\ r = ⟨ck, .row (4 * d), [(4 * d, .row e z m c)], none, dr⟩ /\ (∀ id, dr = some id -> ZfH o s = .row id) := by
 obtain ⟨c, ho, hc⟩ := ZfI ha
 simp only [Z3L hZ] at h; unfold Z1f at h
 rw [ho] at h
 dsimp only at h
 rw [hc] at h
 dsimp only at h
 split at h
 ·rename_i d x y t u hd hargs hts
  split at h
  ·have harg : ZfH o s = x := by
    unfold ZfH
    rw [ho]
    dsimp only
    cases hl : c.args.toList with
    | nil => rw [hl] at hargs; cases hargs
    | cons a l =>
     rw [hl] at hargs
     simp only [List.map_cons, List.cons.injEq] at hargs
     exact hargs.1
   rw [harg]
   unfold Z7k at h
   split at h
   ·split at h
    ·split at h
     ·split at h
      ·split at h
       ·simp only [Option.some.injEq] at h; subst h
        exact ⟨d, _, _, _, _, none, _, hd, rfl, fun id e => by cases e⟩
       ·rename_i id
        split at h
        ·split at h
         ·split at h
          ·simp only [Option.some.injEq] at h; subst h
           exact ⟨d, _, _, _, _, some id, _, hd, rfl, fun id' e => by cases e; rfl⟩
          ·cases h
         ·cases h
        ·cases h
       ·cases h
      ·cases h
     ·cases h
    ·cases h
   ·cases h
  ·cases h
 ·cases h
theorem Ztz (ag : Ag s.heap s'.heap) (wf : WF s) {d : Nat} {t : TypeId} {x y : SV} (hx : SVok s.heap x) (hy : SVok s.heap y) : Z7k P s' d t x y = Z7k P s d t x y := by
 have hpv : PVof s'.heap (fun _ _ => none) y = PVof s.heap (fun _ _ => none) y := by
  have h := Zsi (S := ⟨fun _ => none, fun _ => none, false, false⟩) ag wf.heap hy
  have e : ∀ H, Zao ⟨fun _ => none, fun _ => none, false, false⟩ H = fun _ _ => none := fun H => by funext f caps; rfl
  rwa [e, e] at h
 unfold Z7k
 rw [hpv]
 cases x with
 | row id =>
  have hx : (s.heap id).isSome = true := hx
  simp only [ag id hx]
 | val v =>
  cases v <;> try rfl
  rename_i a m c
  cases a <;> cases m <;> cases c <;> rfl
 | ptr i o => rfl
 | sub i o k z => rfl
 | clo f l => rfl
 | fn g => rfl
 | tup l => rfl
 | agr l => rfl
 | junk => rfl
theorem Zx1 (hZ : S.z = false) (ha : Z5A o = true) (hs : ∀ t ∈ o.looksAt ops.toArray, s'.slot t = s.slot t) (ag : Ag s.heap s'.heap) (wf : WF s) : Z2v P S s' o = Z2v P S s o := by
 obtain ⟨c, ho, hc⟩ := ZfI ha
 have hev : ∀ z ∈ o.op.operands.toList, s'.ev z = s.ev z := fun z hz => ZiY fun t ht => hs t (Z5B (by rw [<- ht]; exact hz))
 rw [ho] at hev
 have hargs : ∀ x ∈ c.args.toList, s'.ev x = s.ev x := fun x hx => hev x (by simp only [Op.operands, Call.operands]; simp; exact .inr (by simpa using hx))
 have hmap : c.args.toList.map s'.ev = c.args.toList.map s.ev := List.map_congr_left hargs
 simp only [Z3L hZ]; unfold Z1f
 rw [ho]
 dsimp only
 rw [hc]
 dsimp only
 rw [hmap]
 cases o.dst with
 | none => rfl
 | some d =>
  cases hl : c.args.toList with
  | nil => rfl
  | cons X l =>
   have wX := wf.ev X
   cases l with
   | nil => rfl
   | cons Y l =>
    have wY := wf.ev Y
    cases l with
    | cons Z l => rfl
    | nil =>
     simp only [List.map_cons, List.map_nil]
     generalize c.argTypes.toList = ts
     match ts with
     | [] => rfl
     | [_] => rfl
     | [t, u] =>
      dsimp only
      rw [Ztz ag wf wX wY]
     | _ :: _ :: _ :: _ => rfl
theorem ZpR (ha : Z5A o = true) (hs : ∀ t ∈ o.looksAt ops.toArray, s'.slot t = s.slot t) : Z3z P S ops o s' = Z3z P S ops o s := by
 obtain ⟨c, ho, hc⟩ := ZfI ha
 have hev : ∀ z ∈ o.op.operands.toList, s'.ev z = s.ev z := fun z hz => ZiY fun t ht => hs t (Z5B (by rw [<- ht]; exact hz))
 rw [ho] at hev
 have h1 : storeAt o = none := by unfold storeAt; rw [ho]
 have h2 : Z7t S o = none := by unfold Z7t; rw [ho]; simp only; rw [hc]
 have h3 : ZfH o s' = ZfH o s := by
  unfold ZfH
  rw [ho]
  dsimp only
  cases hl : c.args.toList with
  | nil => rfl
  | cons a l =>
   have h0 : a ∈ c.args.toList := by rw [hl]; simp
   exact hev a (by simp only [Op.operands, Call.operands]; simp; exact .inr (by simpa using h0))
 unfold Z3z Z9e Z8F
 rw [h1, h2]
 dsimp only
 unfold ZgW
 rw [h3]
theorem Z5l (h : bare o = true) : Z3F ops s o = some true := by
 unfold bare at h
 unfold Z3F
 split at h
 ·rename_i e; rw [e]
 ·cases h
theorem Zud (hZ : S.z = false) (hqm : q ∈ ops) (wf : WF s) (hap : o.apart ops.toArray q = true) (hl : Zt2 ops o q = true) (h1 : step P S n ops o s = some s1) (h2 : step P S n ops q s1 = some s2) :
  ∃ s3, step P S n ops q s = some s3 /\ step P S n ops o s3 = some s2 := by
 obtain ⟨a1, a2, a3⟩ := Oper.apart_spec hap
 have hl0 := hl
 unfold Zt2 at hl
 simp only [Bool.and_eq_true, Bool.or_eq_true] at hl
 obtain ⟨ha, hk, ⟨bo, bq⟩, _⟩ := hl
 obtain ⟨ro, ho, fo, rfl⟩ := Z6d h1
 obtain ⟨rq, hq, fq, rfl⟩ := Z6d h2
 rcases Z5P ho with ⟨hdo, _, hro, hho, hko⟩ | ⟨_, hw, _⟩
 rotate_left
 ·rw [Z5l bo] at hw; cases hw
 rcases Z5P hq with ⟨hdq, _, hrq, hhq, hkq⟩ | ⟨_, hw, _⟩
 rotate_left
 ·rw [Z5l bq] at hw; cases hw
 obtain ⟨d, e, z, m, c, dr, ck, hd, rfl, hdr⟩ := Zsr hZ ha hro
 have hfd : s.heap (4 * d) = none := Z2M.1 fo _ (List.mem_singleton.2 rfl)
 have sl1 : ∀ t, t ≠ d -> (s.apply o.dst ⟨ck, .row (4 * d), [(4 * d, .row e z m c)], none, dr⟩).slot t = kS dr (s.slot t) := by
  intro t ht
  show (((s.dropped dr).set (4 * d) _).put o.dst _).slot t = _
  rw [Z2U, hd, if_neg (by simpa using fun h => ht h.symm)]
  exact Z4P dr t
 have hp1 : ∀ i, i ≠ 4 * d -> dr ≠ some i -> (s.apply o.dst ⟨ck, .row (4 * d), [(4 * d, .row e z m c)], none, dr⟩).heap i = (s.heap i).map (kB dr) := by
  intro i hi hne
  show (((s.dropped dr).set (4 * d) _).put o.dst _).heap i = _
  rw [Z2b, Z2r, if_neg hi]
  exact Z7G hne
 have hqd : ∀ t ∈ q.looksAt ops.toArray, t ≠ d := fun t ht e => a1 t (by rw [hd, e]) ht
 -- the whole, once the other operation is known in the first state
 have fin : ∀ rq0 : Out, Z2v P S s q = some rq0 -> chkH P S ops q s rq0.chk = true -> s.fresh rq0.news = true -> rq0.upd = none -> rq0.drop = none -> (∀ p ∈ rq0.news, dr ≠ some p.1 /\ p.1 ≠ 4 * d) ->
   (∀ j, ((((s.apply q.dst rq0).dropped dr).set (4 * d) (.row e z m c)).put o.dst (.row (4 * d))).heap j = ((s.apply o.dst ⟨ck, .row (4 * d), [(4 * d, .row e z m c)], none, dr⟩).apply q.dst rq).heap j) ->
   (∀ j, ((((s.apply q.dst rq0).dropped dr).set (4 * d) (.row e z m c)).put o.dst (.row (4 * d))).slot j = ((s.apply o.dst ⟨ck, .row (4 * d), [(4 * d, .row e z m c)], none, dr⟩).apply q.dst rq).slot j) ->
   ∃ s3, step P S n ops q s = some s3 /\ step P S n ops o s3 = some ((s.apply o.dst ⟨ck, .row (4 * d), [(4 * d, .row e z m c)], none, dr⟩).apply q.dst rq) := by
  intro rq0 hop hck hf0 hu0 hd0 hnw hheap hslot
  have ag : Ag s.heap (s.apply q.dst rq0).heap := by
   intro id hid
   rw [Z0W hd0, hu0]
   simp only [ul]
   cases hlk : lk rq0.news id with
   | none => rfl
   | some c' =>
    obtain ⟨p, hp, e', _⟩ := Zca hlk
    rw [<- e', Z2M.1 hf0 p hp] at hid
    cases hid
  have hso : ∀ t ∈ o.looksAt ops.toArray, (s.apply q.dst rq0).slot t = s.slot t := fun t ht => by
   rw [Z2w hd0, if_neg]
   intro e'
   exact a3 t e' ht
  refine ⟨_, Z8w (Z8K hdq (Z5l bq) hop hck) hf0, ?_⟩
  have hko' : chkH P S ops o (s.apply q.dst rq0) ck = true := by
   unfold chkH at hko ⊢
   rw [ZpR ha hso]
   exact hko
  have hfo' : (s.apply q.dst rq0).fresh [(4 * d, .row e z m c)] = true := Z2M.2 fun p hp => by
   rw [List.mem_singleton.1 hp]
   show (s.apply q.dst rq0).heap (4 * d) = none
   rw [Z0W hd0, hu0]
   simp only [ul]
   cases hlk : lk rq0.news (4 * d) with
   | none => exact hfd
   | some c' =>
    obtain ⟨p, hp, e', _⟩ := Zca hlk
    exact absurd e' (hnw p hp).2
  rw [Z8w (Z8K hdo (Z5l bo) ((Zx1 hZ ha hso ag wf).trans hro) hko') hfo']
  congr 1
  show (((s.apply q.dst rq0).dropped dr).set (4 * d) (.row e z m c)).put o.dst (.row (4 * d)) = _
  have e1 := funext hheap
  have e2 := funext hslot
  generalize (((s.apply q.dst rq0).dropped dr).set (4 * d) (.row e z m c)).put o.dst (.row (4 * d)) = A at e1 e2
  generalize (s.apply o.dst ⟨ck, .row (4 * d), [(4 * d, .row e z m c)], none, dr⟩).apply q.dst rq = B at e1 e2
  cases A; cases B
  simp only at e1 e2
  rw [e1, e2]
 rcases hk with hk | hk
 ·obtain ⟨t, x, hqo⟩ := Zi6 hk
  have hx := Zhm hqo
  have hxd : x ≠ d := hqd x (Z5B (by rw [hqo]; simp [Op.operands]))
  obtain ⟨i, off, ag, sz, hsl, hag, hsz, hld⟩ := ZqJ hZ hqo hrq
  have hsl' := hsl
  rw [sl1 x hxd] at hsl'
  obtain ⟨hs0, hne⟩ := Zxb hsl'
  have hid : i ≠ 4 * d := by
   rintro rfl
   have := wf.slots x
   rw [hs0] at this
   have : (s.heap (4 * d)).isSome = true := this
   rw [hfd] at this
   cases this
  obtain ⟨v0, hl0', hrq'⟩ := Zwf (hp1 i hid hne) hld
  refine fin ⟨rq.chk, v0, [], none, none⟩ (Zt4 hZ hqo hs0 hag hsz hl0') ?_ rfl rfl rfl (fun p hp => by cases hp) ?_ ?_
  ·have hB : Z3z P S ops q s = Z3z P S ops q (s.apply o.dst ⟨ck, .row (4 * d), [(4 * d, .row e z m c)], none, dr⟩) := by
    unfold Z3z
    rw [Za0 hx (s := s.apply o.dst ⟨ck, .row (4 * d), [(4 * d, .row e z m c)], none, dr⟩) (s' := s) (by rw [hs0, hsl])]
    unfold Z8F
    rw [hx]
    dsimp only
    rw [hs0, hsl]
    dsimp only
    rw [hp1 i hid hne]
    cases s.heap i with
    | none => rfl
    | some b => cases b <;> cases dr <;> rfl
   unfold chkH at hkq ⊢
   rw [hB]
   exact hkq
  ·intro j
   rw [hrq']
   show ((((s.put q.dst v0).dropped dr).set (4 * d) _).put o.dst _).heap j = ((((s.dropped dr).set (4 * d) _).put o.dst _).put q.dst _).heap j
   have eL : ((((s.put q.dst v0).dropped dr).set (4 * d) (.row e z m c)).put o.dst (.row (4 * d))).heap j = if j = 4 * d then some (.row e z m c) else ((s.put q.dst v0).dropped dr).heap j := by rw [Z2b, Z2r]
   have eR : ((((s.dropped dr).set (4 * d) (.row e z m c)).put o.dst (.row (4 * d))).put q.dst (kS dr v0)).heap j = if j = 4 * d then some (.row e z m c) else (s.dropped dr).heap j := by rw [Z2b, Z2b, Z2r]
   rw [eL, eR]
   have e3 : ((s.put q.dst v0).dropped dr).heap j = (s.dropped dr).heap j := by
    cases dr with
    | none => exact congrFun (Z2b q.dst v0) j
    | some id =>
     show (bif Nat.beq j id then none else match (s.put q.dst v0).heap j with | some b => some (Z9f id b) | none => none) = _
     rw [Z2b]
     rfl
   rw [e3]
  ·intro j
   rw [hrq']
   show ((((s.put q.dst v0).dropped dr).set (4 * d) _).put o.dst _).slot j = ((((s.dropped dr).set (4 * d) _).put o.dst _).put q.dst _).slot j
   rw [Z2U, Z2U (d := q.dst), Z2U]
   by_cases c1 : o.dst = some j
   ·rw [if_pos c1, if_neg (a2 j c1), if_pos c1]
   ·rw [if_neg c1]
    show (((s.put q.dst v0).dropped dr)).slot j = _
    rw [Z4P, Z2U]
    by_cases c2 : q.dst = some j
    ·rw [if_pos c2, if_pos c2]
    ·rw [if_neg c2, if_neg c2, if_neg c1]
     exact (Z4P dr j).symm
 ·obtain ⟨t, len, parts, hqo⟩ : ∃ t len parts, q.op = .buildSlice t len parts := by
   unfold ZoY at hk
   split at hk
   ·rename_i e'; exact ⟨_, _, _, e'⟩
   ·cases hk
  have hev : ∀ y ∈ q.op.operands.toList, ((s.apply o.dst ⟨ck, .row (4 * d), [(4 * d, .row e z m c)], none, dr⟩).ev y).isVal = true -> s.ev y = (s.apply o.dst ⟨ck, .row (4 * d), [(4 * d, .row e z m c)], none, dr⟩).ev y := by
   intro y hy hv
   cases y with
   | tmp t =>
    have htd : t ≠ d := hqd t (Z5B hy)
    have e1 := sl1 t htd
    have hv : ((s.apply o.dst ⟨ck, .row (4 * d), [(4 * d, .row e z m c)], none, dr⟩).slot t).isVal = true := hv
    show s.slot t = (s.apply o.dst _).slot t
    rw [e1] at hv ⊢
    cases hk' : kS dr (s.slot t) with
    | val v => exact Zi3 hk'
    | _ => rw [hk'] at hv; cases hv
   | const v => rfl
   | global g => rfl
   | func f => rfl
  have hop : Z2v P S s q = some rq /\ ∃ dq b, q.dst = some dq /\ rq = ⟨true, .row (4 * dq), [(4 * dq, b)], none, none⟩ /\ ∀ id, Z9f id b = b := by
   simp only [Z3L hZ] at hrq ⊢; unfold Z1f at hrq ⊢
   rw [hqo] at hrq hev ⊢
   dsimp only at hrq ⊢
   split at hrq
   ·rename_i dq hdq'
    split at hrq
    ·rename_i hall
     have hparts : ∀ y ∈ parts.toList, s.ev y.2 = (s.apply o.dst ⟨ck, .row (4 * d), [(4 * d, .row e z m c)], none, dr⟩).ev y.2 := fun y hy =>
      hev y.2 (by simp only [Op.operands]; simp; exact ⟨y.1, by simpa using hy⟩) (List.all_eq_true.1 hall y hy)
     have e1 : (parts.toList.all fun y => (s.ev y.2).isVal) = true := List.all_eq_true.2 fun y hy => by
      rw [hparts y hy]
      exact List.all_eq_true.1 hall y hy
     have e2 : (parts.map fun (i, y) => (i, s.evV y)) = parts.map fun (i, y) => (i, (s.apply o.dst ⟨ck, .row (4 * d), [(4 * d, .row e z m c)], none, dr⟩).evV y) := by
      apply Array.map_congr_left
      intro p hp
      have := hparts p (by simpa using hp)
      simp [FSt.evV, this]
     rw [if_pos e1, e2]
     refine ⟨hrq, ?_⟩
     split at hrq
     ·split at hrq
      ·simp only [Option.some.injEq] at hrq; subst hrq
       exact ⟨dq, _, hdq', rfl, fun id => rfl⟩
      ·cases hrq
     ·cases hrq
    ·cases hrq
   ·cases hrq
  obtain ⟨hop, dq, b, hdq', rfl, hb⟩ := hop
  have hnd0 : dq ≠ d := fun e' => a2 d hd (by rw [hdq', e'])
  have hnd : ¬ (@Eq Nat dq d) := hnd0
  have hnd4 : ¬ (@Eq Nat (4 * dq) (4 * d)) := by omega
  have hndr : dr ≠ some (4 * dq) := by
   intro e'
   have harg := hdr _ e'
   unfold Z3z at hho
   rw [Bool.and_eq_true] at hho
   have h1 := hho.1
   obtain ⟨cc, hoc, _⟩ := ZfI ha
   have hst : storeAt o = none := by unfold storeAt; rw [hoc]
   unfold Z9e at h1
   rw [hst] at h1
   dsimp only at h1
   unfold ZgW at h1
   rw [ha] at h1
   simp only [cond_true] at h1
   have := List.all_eq_true.1 h1 q hqm
   rw [hk, hl0, hdq', harg] at this
   simp at this
  have hfq : s.heap (4 * dq) = none := by
   have := Z2M.1 fq _ (List.mem_singleton.2 rfl)
   dsimp only at this
   rw [hp1 (4 * dq) hnd4 hndr] at this
   cases hs : s.heap (4 * dq) with
   | none => rfl
   | some b' => rw [hs] at this; cases this
  have hkb : kB dr b = b := by cases dr <;> first | rfl | exact hb _
  refine fin ⟨true, .row (4 * dq), [(4 * dq, b)], none, none⟩ hop ?_ (Z2M.2 fun p hp => by rw [List.mem_singleton.1 hp]; exact hfq) rfl rfl (fun p hp => by rw [List.mem_singleton.1 hp]; exact ⟨hndr, hnd4⟩) ?_ ?_
  ·have hB : Z3z P S ops q s = true := by
    have q1 : storeAt q = none := by unfold storeAt; rw [hqo]
    have q2 : Z7t S q = none := by unfold Z7t; rw [hqo]
    have q3 : Z5A q = false := by unfold Z5A; rw [hqo]
    unfold Z3z Z9e Z8F
    rw [q1, q2]
    dsimp only
    unfold ZgW
    rw [q3]
    rfl
   unfold chkH
   rw [hB]
   rfl
  ·intro j
   show ((((((s.set (4 * dq) b).put q.dst (.row (4 * dq)))).dropped dr).set (4 * d) _).put o.dst _).heap j = (((((s.dropped dr).set (4 * d) _).put o.dst _).set (4 * dq) b).put q.dst _).heap j
   have eL : ((((((s.set (4 * dq) b).put q.dst (.row (4 * dq)))).dropped dr).set (4 * d) (.row e z m c)).put o.dst (.row (4 * d))).heap j = if j = 4 * d then some (.row e z m c) else (((s.set (4 * dq) b).put q.dst (.row (4 * dq))).dropped dr).heap j := by rw [Z2b, Z2r]
   have eR : (((((s.dropped dr).set (4 * d) (.row e z m c)).put o.dst (.row (4 * d))).set (4 * dq) b).put q.dst (.row (4 * dq))).heap j = if j = 4 * dq then some b else if j = 4 * d then some (.row e z m c) else (s.dropped dr).heap j := by rw [Z2b, Z2r, Z2b, Z2r]
   rw [eL, eR]
   by_cases c1 : j = 4 * d
   ·rw [if_pos c1, if_neg (fun e' => hnd4 (e'.symm.trans c1)), if_pos c1]
   ·rw [if_neg c1]
    by_cases c2 : j = 4 * dq
    ·rw [if_pos c2, c2, Z7G hndr, Z2b, Z2r, if_pos rfl, Option.map_some, hkb]
    ·rw [if_neg c2, if_neg c1]
     by_cases c3 : dr = some j
     ·rw [c3]
      rw [ZgH, ZgH]
     ·rw [Z7G c3, Z7G c3, Z2b, Z2r, if_neg c2]
  ·intro j
   show ((((((s.set (4 * dq) b).put q.dst (.row (4 * dq)))).dropped dr).set (4 * d) _).put o.dst _).slot j = (((((s.dropped dr).set (4 * d) _).put o.dst _).set (4 * dq) b).put q.dst _).slot j
   rw [Z2U, Z2U (d := q.dst)]
   by_cases c1 : o.dst = some j
   ·rw [if_pos c1, if_neg (a2 j c1)]
    show _ = (((s.dropped dr).set (4 * d) _).put o.dst _).slot j
    rw [Z2U, if_pos c1]
   ·rw [if_neg c1]
    show (((s.set (4 * dq) b).put q.dst (.row (4 * dq))).dropped dr).slot j = _
    rw [Z4P, Z2U]
    by_cases c2 : q.dst = some j
    ·rw [if_pos c2, if_pos c2]
     cases dr with
     | none => rfl
     | some id =>
      have : 4 * dq ≠ id := by rintro rfl; exact hndr rfl
      simp only [kS, Z0X, nbeq this, cond_false]
    ·rw [if_neg c2, if_neg c2]
     show kS dr (s.slot j) = (((s.dropped dr).set (4 * d) _).put o.dst _).slot j
     rw [Z2U, if_neg c1]
     exact (Z4P dr j).symm
def Zq6 (q : Oper) : Bool := match q.op with
 | .move _ => true
 | .binOp .. => true
 | .slice _ _ (some _) none none => true
 | _ => false
def Zve (o q : Oper) : Bool := Z5A o && (Zq6 q && (bare o && bare q))
theorem Zxc {dr : Option Nat} {v : SV} {i : Nat} (h : kS dr v = .row i) : v = .row i /\ dr ≠ some i := by
 cases dr with
 | none => exact ⟨h, by simp⟩
 | some id =>
  cases v with
  | row j =>
   simp only [kS, Z0X] at h
   cases hb : Nat.beq j id with
   | true => rw [hb] at h; cases h
   | false =>
    rw [hb] at h
    simp only [cond_false, SV.row.injEq] at h
    subst h
    exact ⟨rfl, by rintro ⟨⟩; rw [Nat.beq_refl] at hb; cases hb⟩
  | ptr j o => simp only [kS, Z0X] at h; cases hb : Nat.beq j id <;> rw [hb] at h <;> cases h
  | sub j o k z => simp only [kS, Z0X] at h; cases hb : Nat.beq j id <;> rw [hb] at h <;> cases h
  | clo f l => simp only [kS, Z0X] at h; cases hb : l.any (Nat.beq id) <;> rw [hb] at h <;> cases h
  | tup l => simp only [kS, Z0X] at h; cases hb : Z6x id l <;> rw [hb] at h <;> cases h
  | agr l => simp only [kS, Z0X] at h; cases hb : Z6x id l <;> rw [hb] at h <;> cases h
  | val v => cases h
  | fn g => cases h
  | junk => cases h
theorem ZpS (ha : Z5A o = true) (h : Z2v P S s o = some r) : ∃ d b dr ck, o.dst = some d /\ r = ⟨ck, .row (4 * d), [(4 * d, b)], none, dr⟩ /\ ∀ H, Bok H b := by
 have h0 : ∀ r, Z1f P S s o = some r -> ∃ d b dr ck, o.dst = some d /\ r = ⟨ck, .row (4 * d), [(4 * d, b)], none, dr⟩ /\ ∀ H, Bok H b := fun r h => by
  obtain ⟨d, e, z, m, c, dr, ck, h1, h2, _⟩ := Zsr (S := ⟨S.f, S.m, S.k, false⟩) (P := P) (s := s) (r := r) rfl ha (by
   obtain ⟨c, ho, hc⟩ := ZfI ha
   rw [Z3L rfl, <- h]
   unfold Z1f
   rw [ho]
   dsimp only
   rw [hc])
  exact ⟨d, _, dr, ck, h1, h2, fun _ => True.intro⟩
 unfold Z2v at h
 cases hz : S.z
 ·rw [hz] at h; exact h0 r h
 ·rw [hz] at h
  simp only [cond_true] at h
  split at h
  ·rename_i r' hD
   simp only [Option.some.injEq] at h; subst h
   obtain ⟨c, ho, hc⟩ := ZfI ha
   unfold opD at hD
   rw [ho] at hD
   cases hd : o.dst with
   | none => rw [hd] at hD; cases hD
   | some d =>
    rw [hd] at hD
    dsimp only at hD
    rw [hc] at hD
    dsimp only at hD
    split at hD
    ·split at hD
     ·unfold appD at hD
      split at hD
      ·split at hD
       ·split at hD
        ·split at hD
         ·simp only [Option.some.injEq] at hD; subst hD
          exact ⟨d, _, _, _, rfl, rfl, fun _ => True.intro⟩
         ·cases hD
        ·cases hD
       ·cases hD
      ·cases hD
     ·cases hD
    ·cases hD
  ·exact h0 r h
theorem Zup (ha : Z5A o = true) (hs : ∀ t ∈ o.looksAt ops.toArray, s'.slot t = s.slot t) (hh : s'.heap = s.heap) : Z2v P S s' o = Z2v P S s o := by
 obtain ⟨c, ho, hc⟩ := ZfI ha
 have hev : ∀ z ∈ o.op.operands.toList, s'.ev z = s.ev z := fun z hz => ZiY fun t ht => hs t (Z5B (by rw [<- ht]; exact hz))
 rw [ho] at hev
 have hargs : ∀ x ∈ c.args.toList, s'.ev x = s.ev x := fun x hx => hev x (by simp only [Op.operands, Call.operands]; simp; exact .inr (by simpa using hx))
 have hmap : c.args.toList.map s'.ev = c.args.toList.map s.ev := List.map_congr_left hargs
 have e0 : Z1f P S s' o = Z1f P S s o := by
  unfold Z1f
  rw [ho]
  dsimp only
  rw [hc]
  dsimp only
  rw [hmap]
  simp only [Z7k, hh]
 have e1 : opD P S s' o = opD P S s o := by
  unfold opD
  rw [ho]
  cases o.dst with
  | none => rfl
  | some d =>
   dsimp only
   rw [hc]
   dsimp only
   rw [hmap]
   have : ∀ t x y, appD P s' d t x y = appD P s d t x y := fun t x y => by
    cases y <;> try rfl
    simp only [appD, hh]
   simp only [this]
 unfold Z2v
 rw [e0, e1]
theorem ZrW {op : BinOp} {t : TypeId} {x y : Operand} (hop : o.op.operands.toList = [x, y]) (h : ZdQ P s o op t x y = some r) : (∃ v, s.ev x = .val v) /\ (∃ v, s.ev y = .val v) /\ ∃ c v, r = .pure c (.val v) := by
 have isv : ∀ {v : SV}, v.isVal = true -> ∃ x, v = .val x := fun {v} h => by cases v <;> first | exact ⟨_, rfl⟩ | cases h
 unfold ZdQ at h
 split at h
 ·rename_i h1 h2
  simp only [Option.some.injEq] at h; subst h
  exact ⟨⟨_, h1⟩, ⟨_, h2⟩, _, _, rfl⟩
 ·rename_i h1 h2
  split at h
  ·simp only [Option.some.injEq] at h; subst h
   exact ⟨⟨_, h1⟩, ⟨_, h2⟩, _, _, rfl⟩
  ·cases h
 ·rename_i h1 h2
  split at h
  ·simp only [Option.some.injEq] at h; subst h
   exact ⟨⟨_, h1⟩, ⟨_, h2⟩, _, _, rfl⟩
  ·cases h
 ·rename_i h1 h2
  refine ⟨⟨_, h1⟩, ⟨_, h2⟩, ?_⟩
  split at h
  ·split at h
   ·simp only [Option.some.injEq] at h; subst h; exact ⟨_, _, rfl⟩
   ·cases h
  ·split at h
   ·split at h
    ·simp only [Option.some.injEq] at h; subst h; exact ⟨_, _, rfl⟩
    ·cases h
   ·cases h
  ·cases h
 ·rename_i h1 h2
  refine ⟨⟨_, h1⟩, ⟨_, h2⟩, ?_⟩
  split at h
  ·split at h
   ·simp only [Option.some.injEq] at h; subst h; exact ⟨_, _, rfl⟩
   ·cases h
  ·split at h
   ·split at h
    ·simp only [Option.some.injEq] at h; subst h; exact ⟨_, _, rfl⟩
    ·cases h
   ·cases h
  ·cases h
 ·unfold ZcL at h
  split at h
  ·rename_i hall
   rw [hop] at hall
   simp only [List.all_cons, List.all_nil, Bool.and_true, Bool.and_eq_true] at hall
   refine ⟨isv hall.1, isv hall.2, ?_⟩
   split at h
   ·simp only [Option.some.injEq] at h; subst h; exact ⟨_, _, rfl⟩
   ·cases h
  ·cases h
theorem Zaz (h : opD P S s o = none) : Z2v P S s o = Z1f P S s o := by
 unfold Z2v
 cases S.z
 ·rfl
 ·rw [h]; rfl
theorem Zoh {A : FSt} {dr : Option Nat} {d l : Int} {x : Option Operand} (he : ∀ z, x = some z -> A.ev z = kS dr (s.ev z)) (h : Z51 A d x = some l) : Z51 s d x = some l := by
 cases x with
 | none => exact h
 | some z =>
  unfold Z51 at h ⊢
  dsimp only at h ⊢
  split at h
  ·rename_i k hk
   have := Zi3 ((he z rfl).symm.trans hk)
   rw [this]
   exact h
  ·cases h
theorem ZuG {A : FSt} {dr : Option Nat} (hk : Zq6 q = true) (he : ∀ z ∈ q.op.operands.toList, A.ev z = kS dr (s.ev z)) (hp : ∀ i, (s.heap i).isSome = true -> dr ≠ some i -> A.heap i = (s.heap i).map (kB dr)) (wf : WF s) (h : Z2v P S A q = some r) :
  ∃ v0, Z2v P S s q = some (.pure r.chk v0) /\ r = .pure r.chk (kS dr v0) := by
 unfold Zq6 at hk
 split at hk
 ·rename_i x hq
  rw [hq] at he
  have e1 : ∀ s : FSt, Z2v P S s q = some (.pure true (s.ev x)) := fun s => by
   rw [Zaz (by unfold opD; rw [hq])]
   unfold Z1f; rw [hq]
  rw [e1] at h
  simp only [Option.some.injEq] at h; subst h
  exact ⟨s.ev x, e1 s, by rw [he x (by simp [Op.operands])]; rfl⟩
 ·rename_i op t x y u hq
  rw [hq] at he
  have e1 : ∀ s : FSt, Z2v P S s q = ZdQ P s q op t x y := fun s => by
   rw [Zaz (by unfold opD; rw [hq])]
   unfold Z1f; rw [hq]
  rw [e1] at h
  obtain ⟨⟨vx, hx⟩, ⟨vy, hy⟩, c, v, hr⟩ := ZrW (by rw [hq]; simp [Op.operands]) h
  have ex : s.ev x = A.ev x := by rw [hx]; exact Zi3 ((he x (by simp [Op.operands])).symm.trans hx)
  have ey : s.ev y = A.ev y := by rw [hy]; exact Zi3 ((he y (by simp [Op.operands])).symm.trans hy)
  have e2 : ZdQ P s q op t x y = ZdQ P A q op t x y := by
   unfold ZdQ
   rw [ex, ey, Zbt (.inl ⟨_, _, _, _, _, hq⟩) (s' := s) (s := A) (by
    rw [hq]
    intro z hz
    simp [Op.operands] at hz
    rcases hz with rfl | rfl
    ·exact ex
    ·exact ey)]
  subst hr
  exact ⟨.val v, by rw [e1, e2]; exact h, by rw [Zi2]; rfl⟩
 ·rename_i t x lo hq
  rw [hq] at he
  have e1 : ∀ s : FSt, Z2v P S s q = (match s.ev x, P.underlying t with
   | .row id, some (.slice e) => Z6N P s id (some lo) none e
   | .val (.string b), some .string => Z6O s b (some lo) none
   | _, _ => none) := fun s => by
   rw [Zaz (by unfold opD; rw [hq])]
   unfold Z1f; rw [hq]
   dsimp only
   cases s.ev x with
   | val v => cases v <;> (try rfl) <;> (cases P.underlying t <;> try rfl) <;> (rename_i d; cases d <;> rfl)
   | row id => cases P.underlying t <;> (try rfl) <;> (rename_i d; cases d <;> rfl)
   | ptr id off => cases P.underlying t <;> (try rfl) <;> (rename_i d; cases d <;> rfl)
   | _ => rfl
  have hlo : ∀ z, some lo = some z -> A.ev z = kS dr (s.ev z) := fun z hz => by
   cases hz
   exact he lo (by simp [Op.operands])
  have hno : ∀ z, (none : Option Operand) = some z -> A.ev z = kS dr (s.ev z) := fun z hz => by cases hz
  have hx := he x (by simp [Op.operands])
  have wx := wf.ev x
  rw [e1] at h
  rw [e1]
  split at h
  ·rename_i id e hA hu
   obtain ⟨hs, hne⟩ := Zxc (hx.symm.trans hA)
   rw [hs] at wx
   rw [hs, hu]
   dsimp only
   have hAh := hp id wx hne
   unfold Z6N at h ⊢
   rw [hAh] at h
   have ks : ∀ off k z, kS dr (.sub id off k z) = .sub id off k z := fun off k z => by
    cases dr with
    | none => rfl
    | some i =>
     have : id ≠ i := fun e => hne (by rw [e])
     simp only [kS, Z0X, nbeq this, cond_false]
   cases hb : s.heap id with
   | none => rw [hb] at h; simp at h
   | some b =>
    rw [hb] at h
    cases hsz : Zu P (sizeOf e) with
    | none => rw [hsz] at h; cases b <;> cases dr <;> cases h
    | some sz =>
     rw [hsz] at h
     have hkB : (some b).map (kB dr) = some (kB dr b) := rfl
     rw [hkB] at h
     have fin : ∀ (n : Int) (r : Out), (match Z51 A 0 (some lo), Z51 A n none with
       | some l, some h => some (Out.pure (decide (0 <= l) && decide (l <= h) && decide (h <= n)) (.sub id (l.toNat * sz) (h.toNat - l.toNat) sz))
       | _, _ => none) = some r -> ∃ v0, (match Z51 s 0 (some lo), Z51 s n none with
       | some l, some h => some (Out.pure (decide (0 <= l) && decide (l <= h) && decide (h <= n)) (.sub id (l.toNat * sz) (h.toNat - l.toNat) sz))
       | _, _ => none) = some (.pure r.chk v0) /\ r = .pure r.chk (kS dr v0) := fun n r h => by
      split at h
      ·rename_i l k h1 h2
       simp only [Option.some.injEq] at h; subst h
       rw [Zoh hlo h1, Zoh hno h2]
       exact ⟨_, rfl, by rw [ks]; rfl⟩
      ·cases h
     cases b with
     | row e' z m c =>
       have hk0 : kB dr (.row e' z m c) = .row e' z m c := by cases dr <;> rfl
       rw [hk0] at h; exact fin _ _ h
     | ros m c =>
       have hk0 : kB dr (.ros m c) = .ros m c := by cases dr <;> rfl
       rw [hk0] at h; exact fin _ _ h
     | dee own fr e' ls =>
       have hk0 : kB dr (.dee own fr e' ls) = .dee own fr e' ls := by cases dr <;> rfl
       rw [hk0] at h; exact fin _ _ h
     | box _ _ => cases dr <;> cases h
     | rop _ => cases dr <;> cases h
     | fro _ _ _ => cases dr <;> cases h
  ·rename_i b hA hu
   have hs := Zi3 (hx.symm.trans hA)
   rw [hs, hu]
   dsimp only
   unfold Z6O at h ⊢
   split at h
   ·rename_i l k h1 h2
    simp only [Option.some.injEq] at h; subst h
    rw [Zoh hlo h1, Zoh hno h2]
    exact ⟨_, rfl, by rw [Zi2]; rfl⟩
   ·cases h
  ·cases h
 ·cases hk
theorem ZtD (hk : Zq6 q = true) (s : FSt) : Z3z P S ops q s = true := by
 unfold Zq6 at hk
 split at hk
 ·rename_i hq
  unfold Z3z Z9e Z8F ZgW storeAt Z7t Z5A
  rw [hq]
  rfl
 ·rename_i hq
  unfold Z3z Z9e Z8F ZgW storeAt Z7t Z5A
  rw [hq]
  rfl
 ·rename_i hq
  unfold Z3z Z9e Z8F ZgW storeAt Z7t Z5A
  rw [hq]
  rfl
 ·cases hk
theorem Zs8 (wf : WF s) (hap : o.apart ops.toArray q = true) (hl : Zve o q = true) (h1 : step P S n ops o s = some s1) (h2 : step P S n ops q s1 = some s2) :
  ∃ s3, step P S n ops q s = some s3 /\ step P S n ops o s3 = some s2 := by
 obtain ⟨a1, a2, a3⟩ := Oper.apart_spec hap
 unfold Zve at hl
 simp only [Bool.and_eq_true] at hl
 obtain ⟨ha, hk, bo, bq⟩ := hl
 obtain ⟨ro, ho, fo, rfl⟩ := Z6d h1
 obtain ⟨rq, hq, fq, rfl⟩ := Z6d h2
 rcases Z5P ho with ⟨hdo, _, hro, hho, hko⟩ | ⟨_, hw, _⟩
 rotate_left
 ·rw [Z5l bo] at hw; cases hw
 rcases Z5P hq with ⟨hdq, _, hrq, hhq, hkq⟩ | ⟨_, hw, _⟩
 rotate_left
 ·rw [Z5l bq] at hw; cases hw
 obtain ⟨d, b, dr, ck, hd, rfl, hbok⟩ := ZpS ha hro
 have hfd : s.heap (4 * d) = none := Z2M.1 fo _ (List.mem_singleton.2 rfl)
 have sl1 : ∀ t, t ≠ d -> (s.apply o.dst ⟨ck, .row (4 * d), [(4 * d, b)], none, dr⟩).slot t = kS dr (s.slot t) := by
  intro t ht
  show (((s.dropped dr).set (4 * d) _).put o.dst _).slot t = _
  rw [Z2U, hd, if_neg (by simpa using fun h => ht h.symm)]
  exact Z4P dr t
 have hp1 : ∀ i, (s.heap i).isSome = true -> dr ≠ some i -> (s.apply o.dst ⟨ck, .row (4 * d), [(4 * d, b)], none, dr⟩).heap i = (s.heap i).map (kB dr) := by
  intro i hi hne
  have hid : i ≠ 4 * d := by rintro rfl; rw [hfd] at hi; cases hi
  show (((s.dropped dr).set (4 * d) _).put o.dst _).heap i = _
  rw [Z2b, Z2r, if_neg hid]
  exact Z7G hne
 have hqd : ∀ t ∈ q.looksAt ops.toArray, t ≠ d := fun t ht e => a1 t (by rw [hd, e]) ht
 have hev : ∀ z ∈ q.op.operands.toList, (s.apply o.dst ⟨ck, .row (4 * d), [(4 * d, b)], none, dr⟩).ev z = kS dr (s.ev z) := fun z hz => by
  cases z with
  | tmp t => exact sl1 t (hqd t (Z5B hz))
  | const v => exact (Zi2 dr v).symm
  | global g => cases dr <;> rfl
  | func f => cases dr <;> rfl
 obtain ⟨v0, hop, hrq'⟩ := ZuG hk hev hp1 wf hrq
 have hck : chkH P S ops q s rq.chk = true := by
  unfold chkH at hkq ⊢
  rw [ZtD hk] at hkq ⊢
  exact hkq
 generalize hcq : rq.chk = cq at hop hrq' hck
 subst hrq'
 have hs3 : (s.apply q.dst (.pure cq v0)).heap = s.heap := by
  show (s.put q.dst v0).heap = _
  exact Z2b _ _
 have hso : ∀ t ∈ o.looksAt ops.toArray, (s.apply q.dst (.pure cq v0)).slot t = s.slot t := fun t ht => by
  show (s.put q.dst v0).slot t = _
  rw [Z2U, if_neg]
  intro e'
  exact a3 t e' ht
 refine ⟨_, Z8w (Z8K hdq (Z5l bq) hop hck) rfl, ?_⟩
 have hko' : chkH P S ops o (s.apply q.dst (.pure cq v0)) ck = true := by
  unfold chkH at hko ⊢
  rw [ZpR ha hso]
  exact hko
 have hfo' : (s.apply q.dst (.pure cq v0)).fresh [(4 * d, b)] = true := Z2M.2 fun p hp => by
  rw [hs3]
  exact Z2M.1 fo p hp
 rw [Z8w (Z8K hdo (Z5l bo) ((Zup ha hso hs3).trans hro) hko') hfo']
 congr 1
 show ((((s.put q.dst v0).dropped dr).set (4 * d) b).put o.dst (.row (4 * d))) = (((s.dropped dr).set (4 * d) b).put o.dst (.row (4 * d))).put q.dst (kS dr v0)
 have e1 : ∀ t, ((((s.put q.dst v0).dropped dr).set (4 * d) b).put o.dst (.row (4 * d))).slot t = ((((s.dropped dr).set (4 * d) b).put o.dst (.row (4 * d))).put q.dst (kS dr v0)).slot t := fun t => by
  rw [Z2U, Z2U, Z2U]
  show (if o.dst = some t then _ else ((s.put q.dst v0).dropped dr).slot t) = if q.dst = some t then _ else if o.dst = some t then _ else (s.dropped dr).slot t
  rw [Z4P, Z4P, Z2U]
  by_cases c1 : o.dst = some t
  ·rw [if_pos c1, if_neg (a2 t c1), if_pos c1]
  ·rw [if_neg c1, if_neg c1]
   by_cases c2 : q.dst = some t
   ·rw [if_pos c2, if_pos c2]
   ·rw [if_neg c2, if_neg c2]
 have e2 : ((((s.put q.dst v0).dropped dr).set (4 * d) b).put o.dst (.row (4 * d))).heap = ((((s.dropped dr).set (4 * d) b).put o.dst (.row (4 * d))).put q.dst (kS dr v0)).heap := by
  rw [Z2b, Z2b, Z2b]
  have : ((s.put q.dst v0).dropped dr).heap = (s.dropped dr).heap := by
   cases dr with
   | none => exact Z2b _ _
   | some id => show (fun x => bif Nat.beq x id then none else match (s.put q.dst v0).heap x with | some b => some (Z9f id b) | none => none) = _; rw [Z2b]; rfl
  funext i
  rw [Z2r, Z2r, this]
 have e1 := funext e1
 generalize (((s.put q.dst v0).dropped dr).set (4 * d) b).put o.dst (.row (4 * d)) = A at e1 e2
 generalize (((s.dropped dr).set (4 * d) b).put o.dst (.row (4 * d))).put q.dst (kS dr v0) = B at e1 e2
 cases A; cases B
 simp only at e1 e2
 rw [e1, e2]
end

end Go.Proofs.Ytfclaacaphpoaaa
