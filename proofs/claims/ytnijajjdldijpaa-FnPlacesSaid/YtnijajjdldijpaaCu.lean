import Derived.Test.YtnijajjdldijpaaCt
set_option linter.unusedSimpArgs false
set_option linter.unusedVariables false
namespace Go.Proofs.Ytnijajjdldijpaa
open Go.RowKit
/-! One operation: that it does what the reading says. -/
section
variable {P : Program} {S : Sums} {W : World} {M : MV} {n : Nat} {s : FSt} {a : Act} {w w' : World} {ρ ρ' : Nat → Value} {H : Nat → Option Blk} {o : Oper} {r : Out} {Q : Exit → Act → World → Prop} {K : Act → World → Prop}
theorem wp_val {v : Value} (h : (execOp a.eval o).run P w = .ok (.value v) w') (k : K (a.put o.dst v) w') : o.wp P a w K Q := by
  unfold Oper.wp; rw [h]; exact k
theorem wp_skp (h : (execOp a.eval o).run P w = .ok .skip w') (k : K (a.put o.dst undef) w') : o.wp P a w K Q := by
  unfold Oper.wp; rw [h]; exact k
/-- What is to be shown of an operation. -/
def Goal (P : Program) (W : World) (M : MV) (n : Nat) (o : Oper) (s : FSt) (r : Out) (a : Act) (w : World) (Q : Exit → Act → World → Prop) : Prop :=
  o.wp P a w (fun a' w' => ∃ ρ', R P W M n (s.apply o.dst r) a' w' ρ') Q
theorem goal_pure (h : R P W M n s a w ρ) (hd : inRange n o.dst = true) {c : Bool} {x : SV} {v : Value} (hr : (execOp a.eval o).run P w = .ok (.value v) w) (hx : o.dst = none ∨ Rel P W M ρ s.heap x v) : Goal P W M n o s (.pure c x) a w Q :=
  wp_val hr ⟨ρ, h.put hd hx⟩
theorem evV_eq (h : R P W M n s a w ρ) {x : Operand} (hv : (s.ev x).isVal = true) : s.evV x = a.eval x := by
  have := h.ev x
  unfold FSt.evV
  cases hx : s.ev x with
  | val v => rw [hx] at this; exact this.symm
  | _ => rw [hx] at hv; cases hv
theorem ev_val (h : R P W M n s a w ρ) {x : Operand} {v : Value} (hv : s.ev x = .val v) : a.eval x = v := by
  have := h.ev x
  rw [hv] at this
  exact this
theorem run_bind_ok {α β : Type} {m : Sem α} {f : α → Sem β} {x : α} {w1 : World} (h : m.run P w = .ok x w1) : (m >>= f).run P w = (f x).run P w1 := by
  rw [Sem.run_bind, h]
  rfl
theorem goal_opVal (h : R P W M n s a w ρ) (hd : inRange n o.dst = true) (ho : (∃ op t x y u, o.op = .binOp op t x y u) ∨ (∃ op t x, o.op = .unOp op t x) ∨ (∃ t ps, o.op = .build t ps) ∨ (∃ t x f, o.op = .field t x f) ∨ (∃ t u x, o.op = .convert t u x))
    (hr : opVal P s o = some r) : Goal P W M n o s r a w Q := by
  unfold opVal at hr
  split at hr
  · rename_i hall
    have hev : ∀ x ∈ o.op.operands.toList, s.evV x = a.eval x := fun x hx => evV_eq h (List.all_eq_true.1 hall x hx)
    have hcong : execOp s.evV o = execOp a.eval o := by
      rcases ho with ⟨op, t, x, y, u, ho⟩ | ⟨op, t, x, ho⟩ | ⟨t, ps, ho⟩ | ⟨t, x, f, ho⟩ | ⟨t, u, x, ho⟩
      all_goals rw [ho] at hev
      · have e1 := hev x (by simp [Op.operands]); have e2 := hev y (by simp [Op.operands])
        simp only [execOp, ho, e1, e2]
      · have e1 := hev x (by simp [Op.operands])
        simp only [execOp, ho, e1]
      · have e : (ps.map fun (i, x) => (i, s.evV x)) = ps.map fun (i, x) => (i, a.eval x) := by
          apply Array.map_congr_left
          intro p hp
          have := hev p.2 (by simp only [Op.operands]; simp; exact ⟨p.1, by simpa using hp⟩)
          simp [this]
        simp only [execOp, ho]
        rw [e]
      · have e1 := hev x (by simp [Op.operands])
        simp only [execOp, ho, e1]
      · have e1 := hev x (by simp [Op.operands])
        simp only [execOp, ho, e1]
    split at hr
    · rename_i v hs
      simp only [Option.some.injEq] at hr
      subst hr
      rw [hcong] at hs
      exact goal_pure h hd (semOnly_run hs w) (.inr rfl)
    · cases hr
  · cases hr
/-- A new block and its name. -/
theorem goal_new (h : R P W M n s a w ρ) (hd : inRange n o.dst = true) {i : Nat} {b : Blk} {x : SV} {v u : Value} {c : Bool} (hf : s.fresh [(i, b)] = true)
    (hr : (execOp a.eval o).run P w = .ok (.value v) w') (hg : w.grownBy w' none)
    (hb : BRel P W M w' (fun x => if x = i then u else ρ x) (s.set i b).heap i b)
    (hap : ownB b = true → ∀ g, ownOf u = some g → w.heap.size ≤ g)
    (hx : (∀ H, (H i).isSome = true → Rel P W M (fun x => if x = i then u else ρ x) H x v)) : Goal P W M n o s ⟨c, x, [(i, b)], none, none⟩ a w Q := by
  have hi : s.heap i = none := by
    simp only [FSt.fresh] at hf
    split at hf
    · cases hf
    · assumption
  refine wp_val hr ⟨_, R.put (R.new (h.ext hg) hi hb fun ob g hgu j bj hj oj gj => ?_) hd (.inr (hx _ ?_))⟩
  · have := own_lt (h.heap j bj hj) oj gj
    have := hap ob g hgu
    omega
  · show (bif Nat.beq i i then some b else s.heap i).isSome = true
    simp
theorem alloc_grown (w : World) (o : Obj) : w.grownBy (w.alloc o) none := World.grownBy_alloc w o none
theorem own_new (h : R P W M n s a w ρ) : Own W M w.heap.size := .inl h.grown.size
theorem box_new (h : R P W M n s a w ρ) {i : Nat} {e : TypeId} {cells : List SV} {cs : Array Value} (hc : All2 (Rel P W M ρ s.heap) cells cs.toList) (hi : s.heap i = none) :
    BRel P W M (w.alloc (.cells cs e)) (fun x => if x = i then .pointer (some ⟨w.heap.size, 0, none⟩) else ρ x) (s.set i (.box e cells)).heap i (.box e cells) := by
  refine ⟨w.heap.size, cs, if_pos rfl, own_new h, Deep.blk_alloc_new w _, hc.mono fun x y k => k.mono fun id hid => ?_⟩
  have hne : id ≠ i := by rintro rfl; rw [hi] at hid; cases hid
  exact ⟨by simp only [FSt.set, nbeq hne, cond_false]; exact hid, if_neg hne⟩
theorem fresh1 {i : Nat} {b : Blk} (hf : s.fresh [(i, b)] = true) : s.heap i = none := by
  simp only [FSt.fresh] at hf
  split at hf
  · cases hf
  · assumption
theorem rel_vals (l : List Value) : All2 (Rel P W M ρ H) (l.map SV.val) l := by
  induction l with
  | nil => exact True.intro
  | cons a l ih => exact ⟨rfl, ih⟩
theorem goal_move (h : R P W M n s a w ρ) (hd : inRange n o.dst = true) {x : Operand} (ho : o.op = .move x ∨ o.op = .assign x)
    (hr : some (Out.pure true (s.ev x)) = some r) : Goal P W M n o s r a w Q := by
  have hrun : (execOp a.eval o).run P w = .ok (.value (a.eval x)) w := by rcases ho with ho | ho <;> simp only [execOp, ho] <;> rfl
  simp only [Option.some.injEq] at hr
  subst hr
  exact goal_pure h hd hrun (.inr (h.ev x))
theorem goal_pick (h : R P W M n s a w ρ) (hd : inRange n o.dst = true) {c x y : Operand} (ho : o.op = .pick c x y)
    (hr : (match s.ev c with
    | .val (.bool t) => match t with
      | true => some (Out.pure true (s.ev x))
      | false => some (.pure true (s.ev y))
    | _ => none) = some r) : Goal P W M n o s r a w Q := by
  split at hr
  · rename_i t hc
    have hc' := ev_val h hc
    cases t <;> simp only [Option.some.injEq] at hr <;> subst hr
    · exact goal_pure h hd (v := a.eval y) (by simp only [execOp, ho, hc']; rfl) (.inr (h.ev y))
    · exact goal_pure h hd (v := a.eval x) (by simp only [execOp, ho, hc']; rfl) (.inr (h.ev x))
  · cases hr
theorem goal_alloc (h : R P W M n s a w ρ) (hd : inRange n o.dst = true) {e : TypeId} (ho : o.op = .alloc e)
    (hr : (match o.dst, semOnly P (zeroValue e) with
    | some d, some z => some (⟨true, .ptr (4 * d) 0, [(4 * d, .box e (z.cells.toList.map .val))], none, none⟩ : Out)
    | _, _ => none) = some r) (hf : s.fresh r.news = true) : Goal P W M n o s r a w Q := by
  split at hr
  · rename_i d z hdst hz
    simp only [Option.some.injEq] at hr
    subst hr
    have hz' := semOnly_run hz w
    refine goal_new (w' := w.alloc (.cells z.cells e)) (v := .pointer (some ⟨w.heap.size, 0, none⟩)) h hd hf ?_ (alloc_grown _ _) (box_new h (rel_vals _) (fresh1 hf)) (fun _ g hg => ?_) (fun H hH => ⟨hH, w.heap.size, 0, ?_, rfl⟩)
    · simp only [execOp, ho, Instr.alloc, newVar, newRow]
      simp [Sem.run_bind, hz']
    · obtain rfl : w.heap.size = g := by simpa [ownOf, atOf] using hg
      exact Nat.le_refl _
    · simp only [if_true]; rfl
  · cases hr
theorem rho_one (h : R P W M n s a w ρ) {id : Nat} (hl : (s.heap id).isSome = true) : (ρ id).cells = #[ρ id] ∧ (ρ id).oneCell' = true := by
  cases hb : s.heap id with
  | none => rw [hb] at hl; cases hl
  | some b =>
    have k := h.heap id b hb
    cases b with
    | box e cells => obtain ⟨g, cs, h1, _⟩ := k; rw [h1]; exact ⟨rfl, rfl⟩
    | row e sz m c => rcases k.2.1.2 with ⟨h1, _⟩ | ⟨g, cap, cur, h1, _⟩ <;> rw [h1] <;> exact ⟨rfl, rfl⟩
    | ros m c => rcases k.2 with ⟨h1, _⟩ | ⟨g, o, cap, h1, _⟩ <;> rw [h1] <;> exact ⟨rfl, rfl⟩
    | rop cells => obtain ⟨g, o, h1, _⟩ := k; rw [h1]; exact ⟨rfl, rfl⟩
theorem parts_rel (h : R P W M n s a w ρ) {x : SV} {v : Value} (hx : Rel P W M ρ s.heap x v) (hj : x ≠ .junk) : All2 (Rel P W M ρ s.heap) x.parts v.cells.toList := by
  cases x with
  | val y =>
    rw [show v = y from hx]
    exact rel_vals _
  | ptr i off => have hx' := hx; obtain ⟨_, g, o, _, rfl⟩ := hx'; exact ⟨hx, True.intro⟩
  | row i =>
    have hx' := hx
    obtain ⟨hl, rfl⟩ := hx'
    rw [(rho_one h hl).1]
    exact ⟨hx, True.intro⟩
  | sub i off m z => have hx' := hx; obtain ⟨_, g, o, cap, _, rfl, _⟩ := hx'; exact ⟨hx, True.intro⟩
  | clo f l => have hx' := hx; obtain ⟨vs, rfl, _⟩ := hx'; exact ⟨hx, True.intro⟩
  | fn g => have hx' := hx; obtain ⟨f, caps, rfl, _⟩ := hx'; exact ⟨hx, True.intro⟩
  | tup l => have hx' := hx; obtain ⟨vs, rfl, _⟩ := hx'; exact ⟨hx, True.intro⟩
  | agr l =>
    obtain ⟨vs, rfl, hall⟩ := hx
    have key : ∀ {l : List TI} {vs : List Value}, All2 (TIRel ρ s.heap) l vs → All2 (Rel P W M ρ s.heap) (l.map tiSV) vs := by
      intro l
      induction l with
      | nil => intro vs h; cases vs with
        | nil => exact True.intro
        | cons v vs => cases h
      | cons x l ih => intro vs h; cases vs with
        | nil => cases h
        | cons v vs =>
          refine ⟨?_, ih h.2⟩
          cases x with
          | v y => exact h.1
          | r id => exact h.1
    exact key hall
  | junk => exact absurd rfl hj
theorem fold_set0 {v : Value} {off : Nat} (ho : 1 ≤ off) : ∀ (l : List (Value × Nat)) (cs : Array Value), l.foldl (fun cs x => cs.setIfInBounds (off + x.2) x.1) (cs.setIfInBounds 0 v) = (l.foldl (fun cs x => cs.setIfInBounds (off + x.2) x.1) cs).setIfInBounds 0 v
  | [], cs => rfl
  | (c, j) :: l, cs => by
    simp only [List.foldl_cons]
    rw [← fold_set0 ho l, Array.setIfInBounds_comm _ _ (by omega)]
theorem fill_set0 {v : Value} {places : Array (Nat × Nat)} : ∀ (l : List (Nat × Value)) (cs : Array Value), (∀ q ∈ l, offOK places q.1 = true) → Instr.fill (places[·]?) (cs.setIfInBounds 0 v) l = (Instr.fill (places[·]?) cs l).map fun c => c.setIfInBounds 0 v
  | [], cs, _ => rfl
  | (i, x) :: l, cs, h => by
    have h0 := h (i, x) List.mem_cons_self
    unfold offOK at h0
    simp only [Instr.fill]
    split at h0
    · rename_i o z hp
      have h0 := Nat.le_of_ble_eq_true h0
      dsimp only at hp
      rw [hp]
      dsimp only
      rw [Array.size_setIfInBounds]
      split
      · rfl
      · rw [← fill_set0 l _ (fun q hq => h q (List.mem_cons_of_mem _ hq)), ← Array.foldl_toList, ← Array.foldl_toList, fold_set0 h0]
    · cases h0
theorem fill_size {places : Array (Nat × Nat)} : ∀ (l : List (Nat × Value)) (cs c : Array Value), Instr.fill (places[·]?) cs l = some c → c.size = cs.size
  | [], cs, c, h => by simp only [Instr.fill, Option.some.injEq] at h; subst h; rfl
  | (i, x) :: l, cs, c, h => by
    have key : ∀ (off : Nat) (m : List (Value × Nat)) (cs : Array Value), (m.foldl (fun cs x => cs.setIfInBounds (off + x.2) x.1) cs).size = cs.size := by
      intro off m
      induction m with
      | nil => intro cs; rfl
      | cons y m ih => intro cs; rw [List.foldl_cons, ih, Array.size_setIfInBounds]
    simp only [Instr.fill] at h
    split at h
    · cases h
    · split at h
      · cases h
      · rw [fill_size l _ _ h, ← Array.foldl_toList, key]
theorem goal_agr (h : R P W M n s a w ρ) (hd : inRange n o.dst = true) {t : TypeId} {ps : Array (Nat × Operand)} (ho : o.op = .build t ps) (hr : agrOut P s t ps.toList = some r) : Goal P W M n o s r a w Q := by
  unfold agrOut at hr
  split at hr
  · rename_i i x rest hps
    split at hr
    · rename_i id hx
      split at hr
      · rename_i hvals
        split at hr
        · rename_i fields hu
          split at hr
          · rename_i places z hpl hz
            split at hr
            · rename_i hpi
              split at hr
              · rename_i hoff
                split at hr
                · rename_i cells hfill
                  split at hr
                  · rename_i hsz
                    simp only [Option.some.injEq] at hr; subst hr
                    have hsz := Nat.le_of_ble_eq_true hsz
                    have hv := h.ev x
                    rw [hx] at hv
                    obtain ⟨hl, he⟩ := hv
                    have hone := (rho_one h hl).1
                    have hmap : rest.map (fun q => (q.1, a.eval q.2)) = rest.map fun q => (q.1, s.evV q.2) := by
                      apply List.map_congr_left
                      intro q hq
                      rw [evV_eq h (List.all_eq_true.1 hvals q hq)]
                    have hfull : Instr.fill (places[·]?) z.cells ((i, ρ id) :: rest.map fun q => (q.1, s.evV q.2)) = some (cells.setIfInBounds 0 (ρ id)) := by
                      simp only [Instr.fill, hpi, hone]
                      rw [if_neg (by
                        rw [Bool.or_eq_true, decide_eq_true_eq, decide_eq_true_eq]
                        show ¬ ((1 : Nat) ≠ 1 ∨ 0 + 1 > _)
                        omega)]
                      have := fill_set0 (v := ρ id) (places := places) (rest.map fun q => (q.1, s.evV q.2)) z.cells (fun q hq => by
                        obtain ⟨q0, hq0, rfl⟩ := List.mem_map.1 hq
                        exact List.all_eq_true.1 hoff q0 hq0)
                      rw [hfill] at this
                      exact this
                    have hcs := fill_size _ _ _ hfill
                    refine goal_pure h hd (v := .agg (cells.setIfInBounds 0 (ρ id))) ?_ (.inr ?_)
                    · simp only [execOp, ho]
                      have hb : (Instr.build t (ps.map fun q => (q.1, a.eval q.2))).run P w = .ok (.agg (cells.setIfInBounds 0 (ρ id))) w := by
                        unfold Instr.build
                        rw [run_bind_ok (semOnly_run hz w), run_bind_ok (run_underlying hu w)]
                        dsimp only
                        rw [run_bind_ok (semOnly_run hpl w)]
                        have e1 : (ps.map fun q => (q.1, a.eval q.2)).toList = (i, ρ id) :: rest.map fun q => (q.1, s.evV q.2) := by
                          rw [Array.toList_map, hps, List.map_cons, he, hmap]
                        rw [e1, hfull]
                        rfl
                      rw [run_bind_ok hb]
                      rfl
                    · refine ⟨ρ id :: cells.toList.drop 1, ?_, ⟨hl, rfl⟩, ?_⟩
                      · congr 1
                        apply Array.toList_inj.1
                        rw [Array.toList_setIfInBounds]
                        cases hc : cells.toList with
                        | nil => have : cells.size = 0 := by rw [← Array.length_toList, hc]; rfl
                                 omega
                        | cons y l => simp
                      · generalize cells.toList.drop 1 = l
                        induction l with
                        | nil => exact True.intro
                        | cons y l ih => exact ⟨rfl, ih⟩
                  · cases hr
                · cases hr
              · cases hr
            · cases hr
          · cases hr
        · cases hr
      · cases hr
    · cases hr
  · cases hr
theorem goal_box (h : R P W M n s a w ρ) (hd : inRange n o.dst = true) {e : TypeId} {x : Operand} (ho : o.op = .box e x)
    (hr : (match o.dst, s.ev x with
    | _, .junk => none
    | some d, _ => some (⟨true, .ptr (4 * d) 0, [(4 * d, .box e (s.ev x).parts)], none, none⟩ : Out)
    | none, _ => none) = some r) (hf : s.fresh r.news = true) : Goal P W M n o s r a w Q := by
  split at hr
  · cases hr
  · rename_i d y hdst hj
    simp only [Option.some.injEq] at hr
    subst hr
    refine goal_new (w' := w.alloc (.cells (a.eval x).cells e)) (v := .pointer (some ⟨w.heap.size, 0, none⟩)) h hd hf ?_ (alloc_grown _ _) (box_new h (parts_rel h (h.ev x) hj) (fresh1 hf)) (fun _ g hg => ?_) (fun H hH => ⟨hH, w.heap.size, 0, ?_, rfl⟩)
    · simp only [execOp, ho, Instr.box, newVar, newRow]
      simp [Sem.run_bind]
    · obtain rfl : w.heap.size = g := by simpa [ownOf, atOf] using hg
      exact Nat.le_refl _
    · simp only [if_true]; rfl
  · cases hr
theorem semOnly_bind {α β : Type} (f : α → Sem β) : ∀ m : Sem α, semOnly P (m >>= f) = (semOnly P m).bind fun x => semOnly P (f x)
  | .pure a => rfl
  | .program k => semOnly_bind f (k P)
  | .load .. => rfl
  | .store .. => rfl
  | .new .. => rfl
  | .shape .. => rfl
  | .freeze .. => rfl
  | .frozen .. => rfl
  | .getObj .. => rfl
  | .setObj .. => rfl
  | .choose .. => rfl
  | .sys .. => rfl
  | .mark .. => rfl
  | .halt .. => rfl
theorem only_bind {α β : Type} {f : α → Sem β} {m : Sem α} {y : β} (h : semOnly P (m >>= f) = some y) : ∃ x, semOnly P m = some x ∧ semOnly P (f x) = some y := by
  rw [semOnly_bind] at h
  cases hm : semOnly P m with
  | none => rw [hm] at h; cases h
  | some x => rw [hm] at h; exact ⟨x, rfl, h⟩
theorem run_only {α β : Type} {f : α → Sem β} {m : Sem α} {x : α} (h : semOnly P m = some x) (w : World) : (m >>= f).run P w = (f x).run P w := run_bind_ok (semOnly_run h w)
theorem only_underlying {t : TypeId} {d : TypeDesc} (h : semOnly P (underlying t) = some d) : P.underlying t = some d := by
  have : semOnly P (underlying t) = P.underlying t := by
    show semOnly P (match P.underlying t with | some d => Pure.pure d | none => stuck "no such type") = _
    cases P.underlying t <;> rfl
  rw [← this]; exact h
theorem bs_run {t : TypeId} {len : Nat} {parts : Array (Nat × Value)} {e sz : Nat} {cells : Array Value} (h : semOnly P (bsCells t len parts) = some (e, sz, cells)) (w : World) :
    (Instr.buildSlice t len parts).run P w = .ok (.slice (some ⟨w.heap.size, 0, none⟩) len len) (w.alloc (.cells cells e)) := by
  unfold bsCells at h
  unfold Instr.buildSlice
  obtain ⟨d, hu, h⟩ := only_bind h
  rw [run_only hu]
  cases d <;> try (cases h; done)
  rename_i el
  dsimp only at h ⊢
  obtain ⟨size, hs, h⟩ := only_bind h
  rw [run_only hs]
  by_cases hbig : len * size > 2 ^ 24
  · simp only [hbig, if_true] at h
    obtain ⟨_, hx, _⟩ := only_bind h
    cases hx
  · simp only [hbig, if_false] at h ⊢
    have fin : ∀ zero : Array Value, semOnly P (match Instr.fill (fun i => some (i * size, size)) (Array.map (fun x => zero[x % zero.size]!) (Array.range (len * size))) parts.toList with
        | some cells => (Pure.pure (el, size, cells) : Sem (TypeId × Nat × Array Value))
        | _ => stuck "buildSlice: a part of the wrong size") = some (e, sz, cells) →
        (match Instr.fill (fun i => some (i * size, size)) (Array.map (fun x => zero[x % zero.size]!) (Array.range (len * size))) parts.toList with
        | some cells => (do Pure.pure (.slice (some (← newRow el cells)) len len) : Sem Value)
        | _ => stuck "buildSlice: a part of the wrong size").run P w = .ok (.slice (some ⟨w.heap.size, 0, none⟩) len len) (w.alloc (.cells cells e)) := by
      intro zero h
      split at h
      · rename_i cs hf
        obtain ⟨rfl, rfl, rfl⟩ : el = e ∧ size = sz ∧ cs = cells := by simpa [semOnly, Pure.pure] using h
        simp [newRow, Sem.run_bind]
      · cases h
    by_cases hz0 : len * size = 0
    · rw [if_pos hz0] at h ⊢
      obtain ⟨zero, hz, h⟩ := only_bind h
      rw [run_only hz]
      exact fin _ h
    · rw [if_neg hz0] at h ⊢
      obtain ⟨z1, hz1, h⟩ := only_bind h
      rw [run_only hz1]
      obtain ⟨zero, hz, h⟩ := only_bind h
      rw [run_only hz]
      exact fin _ h
end

end Go.Proofs.Ytnijajjdldijpaa
