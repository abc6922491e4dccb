import Derived.Test.YtnijajjdldijpaaCw
set_option linter.unusedSimpArgs false
set_option linter.unusedVariables false
namespace Go.Proofs.Ytnijajjdldijpaa
open Go.RowKit
/-! Operations on values and addresses. -/
section
variable {P : Program} {S : Sums} {W : World} {M : MV} {n : Nat} {s : FSt} {a : Act} {w w' : World} {ρ ρ' : Nat → Value} {H : Nat → Option Blk} {o : Oper} {r : Out} {Q : Exit → Act → World → Prop} {K : Act → World → Prop}
theorem only_run_eq {α : Type} {m : Sem α} {x : α} (h : semOnly P m = some x) (w : World) : m.run P w = .ok x w := semOnly_run h w
theorem only_sizeOf {t : TypeId} {k : Nat} (h : semOnly P (sizeOf t) = some k) : ∃ i, P.info? t = some i ∧ i.size = k := by
  have h' := semOnly_run h (default : World)
  unfold sizeOf typeInfo at h'
  cases hi : P.info? t with
  | none => simp [hi] at h'
  | some i => exact ⟨i, rfl, by simpa [hi] using h'⟩
theorem eqL_eq : ∀ l m : List Int, eqL l m = (l == m)
  | [], [] => rfl
  | [], _ :: _ => rfl
  | [_], [] => rfl
  | _ :: _ :: _, [] => rfl
  | [a], [b] => by simp [eqL]
  | [a], b :: c :: m => by simp [eqL]
  | a :: c :: l, [b] => by simp [eqL]
  | a :: c :: l, b :: d :: m => by
    have := eqL_eq (c :: l) (d :: m)
    show (a == b && eqL (c :: l) (d :: m)) = _
    rw [this]; rfl
theorem eqInts_spec {xs ys : List Value} {b : Bool} (h : eqInts xs ys = some b) : ∃ l m : List Int, xs = l.map (Value.int .i64) ∧ ys = m.map (Value.int .i64) ∧ b = (l == m) := by
  unfold eqInts at h
  split at h
  · rename_i l m h1 h2
    simp only [Option.some.injEq] at h; subst h
    exact ⟨l, m, intsOf_vals h1, intsOf_vals h2, eqL_eq l m⟩
  · cases h
theorem intArr_spec {t : TypeId} {k : Nat} (h : intArr P t = some k) : ∃ e q, P.underlying t = some (.array k e) ∧ P.underlying e = some (.int q) ∧ semOnly P (sizeOf e) = some 1 := by
  unfold intArr at h
  split at h
  · rename_i n e hu
    split at h
    · rename_i q hq hs
      simp only [Option.some.injEq] at h; subst h
      exact ⟨e, q, hu, hq, hs⟩
    · cases h
  · cases h
/-- Arrays of whole numbers compared. -/
theorem run_forEq {B : Nat → (Option Bool × Unit) → Sem (ForInStep ((Option Bool × Unit)))} {g : Nat → Bool} : ∀ (l : List Nat) (w : World),
    (∀ i ∈ l, ∀ st w, (B i st).run P w = .ok (if g i = true then ForInStep.yield (none, ()) else ForInStep.done (some false, ())) w) →
    (forIn l ((none, ()) : (Option Bool × Unit)) B).run P w = .ok (if l.all g = true then (none, ()) else (some false, ())) w
  | [], w, _ => rfl
  | i :: l, w, h => by
    rw [List.forIn_cons, run_bind_ok (h i (by simp) _ w)]
    cases hg : g i
    · simp only [Bool.false_eq_true, if_false, Sem.run_pure, List.all_cons, hg, Bool.false_and]
    · simp only [if_true, List.all_cons, hg, Bool.true_and]
      exact run_forEq l w fun j hj => h j (by simp [hj])
theorem part_run {e : TypeId} {q : IntKind} (he : P.underlying e = some (.int q)) (l : List Int) (i : Nat) (hi : i < l.length) (w : World) : (part e (l.map (Value.int .i64)).toArray i).run P w = .ok (.int .i64 (l.getD i 0)) w := by
  have ha : (isAgg e).run P w = .ok false w := by
    unfold isAgg
    rw [Sem.run_bind, run_underlying he]
    rfl
  unfold part
  rw [Sem.run_bind, ha]
  simp [hi, List.getD_eq_getElem?_getD]
theorem all_range_eq : ∀ (l m : List Int), l.length = m.length → (List.range' 0 l.length).all (fun i => l.getD i 0 == m.getD i 0) = (l == m) := by
  intro l m h
  rw [Bool.eq_iff_iff]
  constructor
  · intro h1
    have h2 : ∀ i, i < l.length → l.getD i 0 = m.getD i 0 := fun i hi => by
      have := List.all_eq_true.1 h1 i (by simp [List.mem_range'_1]; exact hi)
      simpa using this
    rw [beq_iff_eq]
    apply List.ext_getElem h
    intro i hi hj
    have := h2 i hi
    simpa [List.getD_eq_getElem?_getD, hi, hj] using this
  · intro h1
    rw [beq_iff_eq] at h1
    subst h1
    simp
theorem run_equalIn_ints {d n : Nat} {t e : TypeId} {q : IntKind} (ht : P.underlying t = some (.array n e)) (he : P.underlying e = some (.int q)) (hs : semOnly P (sizeOf e) = some 1) (l m : List Int) (hl : l.length = n) (hm : m.length = n) (w : World) :
    (Op.equalIn (d + 2) t (.agg (l.map (Value.int .i64)).toArray) (.agg (m.map (Value.int .i64)).toArray)).run P w = .ok (l == m) w := by
  rw [Op.equalIn]
  rw [run_bind_ok (run_underlying ht w)]
  dsimp only
  rw [run_only hs]
  subst hl
  simp only [Std.Legacy.Range.forIn_eq_forIn_range', Std.Legacy.Range.size, Nat.sub_zero, Nat.add_sub_cancel, Nat.div_one, Nat.mul_one]
  rw [run_bind_ok (run_forEq (g := fun i => l.getD i 0 == m.getD i 0) (List.range' 0 l.length) w ?_)]
  · rw [all_range_eq l m hm.symm]
    cases (l == m) <;> rfl
  · intro i hi st w
    have hi : i < l.length := by simpa [List.mem_range'_1] using hi
    rw [run_bind_ok (part_run he l i hi w), run_bind_ok (part_run he m i (by omega) w), run_bind_ok (run_equalIn_int w d e .i64 q _ _ he)]
    cases (l.getD i 0 == m.getD i 0) <;> rfl
theorem goal_bin (h : R P W M n s a w ρ) (hd : inRange n o.dst = true) {op : BinOp} {t u : TypeId} {x y : Operand} (ho : o.op = .binOp op t x y u)
    (hg : ∀ k, intArr P t = some k → P.eqGuardType P.depth t = false) (hr : opBin P s o op t x y = some r) (hchk : r.chk = true) : Goal P W M n o s r a w Q := by
  have hrun : ∀ {v : Value}, (eqGuard op t x y (a.eval x) (a.eval y)).run P w = .ok () w → (binOp op t (a.eval x) (a.eval y)).run P w = .ok v w → (execOp a.eval o).run P w = .ok (.value v) w := by
    intro v h1 h2
    simp only [execOp, ho]
    rw [run_bind_ok ((run_bind_ok h1).trans h2)]
    rfl
  unfold opBin at hr
  split at hr
  · rename_i k p k' q hx hy
    split at hr
    · rename_i hk
      subst hk
      simp only [Option.some.injEq] at hr; subst hr
      have e1 := ev_val h hx; have e2 := ev_val h hy
      have hq : q ≠ 0 := by simpa [Out.pure] using hchk
      refine goal_pure h hd (v := .int k (k.wrap (p.tdiv q))) (hrun ?_ ?_) (.inr rfl)
      · rw [e1, e2]; rfl
      · rw [e1, e2]; simp [binOp, Op.intDiv, hq]
    · cases hr
  · rename_i k p k' q hx hy
    split at hr
    · rename_i hk
      subst hk
      simp only [Option.some.injEq] at hr; subst hr
      have e1 := ev_val h hx; have e2 := ev_val h hy
      have hq : q ≠ 0 := by simpa [Out.pure] using hchk
      refine goal_pure h hd (v := .int k (p.tmod q)) (hrun ?_ ?_) (.inr rfl)
      · rw [e1, e2]; rfl
      · rw [e1, e2]; simp [binOp, Op.intDiv, hq]
    · cases hr
  · rename_i p q hx hy
    split at hr
    · rename_i k b hk hb
      split at hr
      · rename_i hsz
        simp only [Option.some.injEq] at hr; subst hr
        simp only [Bool.and_eq_true] at hsz
        have e1 := ev_val h hx; have e2 := ev_val h hy
        obtain ⟨e, q', ht, he, hs⟩ := intArr_spec hk
        obtain ⟨l, m, h1, h2, rfl⟩ := eqInts_spec hb
        have p1 : p = (l.map (Value.int .i64)).toArray := by rw [← h1]
        have p2 : q = (m.map (Value.int .i64)).toArray := by rw [← h2]
        have l1 : l.length = k := by have := neq hsz.1; rw [p1] at this; simpa using this
        have l2 : m.length = k := by have := neq hsz.2; rw [p2] at this; simpa using this
        refine goal_pure h hd (v := .bool (l == m)) (hrun ?_ ?_) (.inr rfl)
        · rw [e1, e2]; exact run_eqGuard_agg w .eql t x y p q (hg k hk)
        · rw [e1, e2, p1, p2, run_eql_struct, run_equalIn_ints (d := 9998) ht he hs l m l1 l2 w]
          rfl
      · cases hr
    · cases hr
  · rename_i p q hx hy
    split at hr
    · rename_i k b hk hb
      split at hr
      · rename_i hsz
        simp only [Option.some.injEq] at hr; subst hr
        simp only [Bool.and_eq_true] at hsz
        have e1 := ev_val h hx; have e2 := ev_val h hy
        obtain ⟨e, q', ht, he, hs⟩ := intArr_spec hk
        obtain ⟨l, m, h1, h2, rfl⟩ := eqInts_spec hb
        have p1 : p = (l.map (Value.int .i64)).toArray := by rw [← h1]
        have p2 : q = (m.map (Value.int .i64)).toArray := by rw [← h2]
        have l1 : l.length = k := by have := neq hsz.1; rw [p1] at this; simpa using this
        have l2 : m.length = k := by have := neq hsz.2; rw [p2] at this; simpa using this
        refine goal_pure h hd (v := .bool (!(l == m))) (hrun ?_ ?_) (.inr rfl)
        · rw [e1, e2]; exact run_eqGuard_agg w .neq t x y p q (hg k hk)
        · rw [e1, e2, p1, p2, run_neq_struct, run_equalIn_ints (d := 9998) ht he hs l m l1 l2 w]
          rfl
      · cases hr
    · cases hr
  · exact goal_opVal h hd (.inl ⟨_, _, _, _, _, ho⟩) hr
theorem eqGuard_ints {t : TypeId} {k : Nat} (h : intArr P t = some k) (hd : 2 ≤ P.depth) : P.eqGuardType P.depth t = false := by
  obtain ⟨e, q, ht, he, _⟩ := intArr_spec h
  obtain ⟨d, hd⟩ : ∃ d, P.depth = d + 2 := ⟨P.depth - 2, by omega⟩
  rw [hd]
  unfold Program.eqGuardType
  rw [ht]
  dsimp only
  unfold Program.eqGuardType
  rw [he]
end

end Go.Proofs.Ytnijajjdldijpaa
