import Derived.Test.YtnijajjdldijpaaCu
set_option linter.unusedSimpArgs false
set_option linter.unusedVariables false
namespace Go.Proofs.Ytnijajjdldijpaa
open Go.RowKit
/-! More operations. -/
section
variable {P : Program} {S : Sums} {W : World} {M : MV} {n : Nat} {s : FSt} {a : Act} {w w' : World} {ρ ρ' : Nat → Value} {H : Nat → Option Blk} {o : Oper} {r : Out} {Q : Exit → Act → World → Prop} {K : Act → World → Prop}
theorem nle {a b : Nat} (h : Nat.ble a b = true) : a ≤ b := Nat.le_of_ble_eq_true h
theorem neq {a b : Nat} (h : Nat.beq a b = true) : a = b := Nat.eq_of_beq_eq_true h
theorem row_new {i : Nat} {e sz m : Nat} {cs : Array Value} {c : Cells} (h : R P W M n s a w ρ) (hc : c.ok) (hv : c.toVals = cs.toList) (hl : cs.size = m * sz) (hm : m ≤ 1000000) :
    BRel P W M (w.alloc (.cells cs e)) (fun x => if x = i then .slice (some ⟨w.heap.size, 0, none⟩) m m else ρ x) H i (.row e sz m c) := by
  refine ⟨hc, ?_, ?_⟩
  · simp only [if_true]
    rw [hv]
    exact World.ownsRow_lit w cs m (Nat.zero_le _) (by unfold maxLen; omega) hl
  · intro g hg
    simp only [if_true] at hg
    obtain rfl : w.heap.size = g := by simpa [ownOf, atOf] using hg
    exact own_new h
theorem goal_buildSlice (h : R P W M n s a w ρ) (hd : inRange n o.dst = true) {t : TypeId} {len : Nat} {parts : Array (Nat × Operand)} (ho : o.op = .buildSlice t len parts)
    (hr : (match o.dst with
    | some d => if (parts.toList.all fun x => (s.ev x.2).isVal) = true then
        match semOnly P (bsCells t len (parts.map fun (i, x) => (i, s.evV x))) with
        | some (e, sz, cells) => if (Nat.beq cells.size (len * sz) && Nat.ble len 1000000 && (cellsOf cells.toList).okB) = true then some (⟨true, .row (4 * d), [(4 * d, .row e sz len (cellsOf cells.toList))], none, none⟩ : Out) else none
        | none => none
      else none
    | none => none) = some r) (hf : s.fresh r.news = true) : Goal P W M n o s r a w Q := by
  split at hr
  · rename_i d hdst
    split at hr
    · rename_i hall
      split at hr
      · rename_i e sz cells hbs
        split at hr
        · rename_i hck
          simp only [Option.some.injEq] at hr
          subst hr
          simp only [Bool.and_eq_true] at hck
          obtain ⟨⟨h1, h2⟩, h3⟩ := hck
          have hparts : (parts.map fun (i, x) => (i, s.evV x)) = parts.map fun (i, x) => (i, a.eval x) := by
            apply Array.map_congr_left
            intro p hp
            have := evV_eq h (x := p.2) (List.all_eq_true.1 hall p (by simpa using hp))
            simp [this]
          rw [hparts] at hbs
          refine goal_new (w' := w.alloc (.cells cells e)) (u := .slice (some ⟨w.heap.size, 0, none⟩) len len) (v := .slice (some ⟨w.heap.size, 0, none⟩) len len) h hd hf ?_ (alloc_grown _ _) (row_new h (okB_ok h3) (cellsOf_vals _) (neq h1) (nle h2)) (fun _ g hg => ?_) (fun H hH => ⟨hH, ?_⟩)
          · simp only [execOp, ho]
            exact (run_bind_ok (bs_run hbs w)).trans rfl
          · obtain rfl : w.heap.size = g := by simpa [ownOf, atOf] using hg
            exact Nat.le_refl _
          · simp only [if_true]
        · cases hr
      · cases hr
    · cases hr
  · cases hr
theorem at_pos {id g o' : Nat} (h : atOf (ρ id) = some (g, o')) : ownOf (ρ id) = some g := by simp [ownOf, h]
/-- The cells that a pointer leads to, of a slice. -/
theorem cells_at (h : R P W M n s a w ρ) {id g o' m : Nat} {c : Cells} {b : Blk} (hb : s.heap id = some b) (hk : b = .ros m c ∨ ∃ e sz, b = .row e sz m c) (ha : atOf (ρ id) = some (g, o')) :
    ∀ j, j < c.len → w.cell? ⟨g, o' + j, none⟩ = some (c.get j) := by
  intro j hj
  have hr : RosRel w none (ρ id) m c := by
    rcases hk with rfl | ⟨e, sz, rfl⟩
    · exact ros_at h hb
    · exact row_at h hb
  rcases hr.2 with ⟨h0, _⟩ | ⟨g', o'', cap, h1, _, _, h4⟩
  · rw [h0] at ha; cases ha
  · rw [h1] at ha
    obtain ⟨rfl, rfl⟩ : g' = g ∧ o'' = o' := by simpa [atOf] using ha
    exact h4 j _ (Cells.get_toVals c hj)
theorem load_run {t : TypeId} {sz g o' : Nat} {l : List Value} (hag : semOnly P (isAgg t) = some true) (hsz : semOnly P (sizeOf t) = some sz) (hl : l.length = sz) (hc : ∀ j u, l[j]? = some u → w.cell? ⟨g, o' + j, none⟩ = some u) :
    (Instr.loadAt t (.pointer (some ⟨g, o', none⟩))).run P w = .ok (.agg l.toArray) w := by
  subst hl
  unfold Instr.loadAt Instr.sureAddr
  rw [run_only (x := ⟨g, o', none⟩) rfl]
  unfold loadVar
  rw [run_only hag]
  simp only [if_true]
  rw [run_only hsz, run_bind_ok (run_loadCells_list w ⟨g, o', none⟩ l (fun j v hv => by
    rw [show (⟨g, o', none⟩ : Addr).add j = ⟨g, o' + j, none⟩ by unfold Addr.add; split <;> simp_all]
    exact hc j v hv))]
  rfl
theorem load_run1 {t : TypeId} {g o' : Nat} {u : Value} (hag : semOnly P (isAgg t) = some false) (hc : w.cell? ⟨g, o', none⟩ = some u) :
    (Instr.loadAt t (.pointer (some ⟨g, o', none⟩))).run P w = .ok u w := by
  unfold Instr.loadAt Instr.sureAddr
  rw [run_only (x := ⟨g, o', none⟩) rfl]
  unfold loadVar
  rw [run_only hag]
  simp [hc]
/-- What a load reads. -/
theorem ld_ok (h : R P W M n s a w ρ) {t : TypeId} {ag : Bool} {sz id off g o' : Nat} {r : Out} (hag : semOnly P (isAgg t) = some ag) (hsz : semOnly P (sizeOf t) = some sz) (hl : ld s.heap ag sz id off = some r) (hchk : r.chk = true) (ha : atOf (ρ id) = some (g, o')) :
    ∃ v, r = .pure r.chk r.v ∧ Rel P W M ρ s.heap r.v v ∧ (Instr.loadAt t (.pointer (some ⟨g, o' + off, none⟩))).run P w = .ok v w := by
  have boxcase : ∀ (cells : List SV) (b : Blk), s.heap id = some b → (b = .rop cells ∨ ∃ e, b = .box e cells) →
      (if ag = true then
        match SV.vals ((cells.drop off).take sz) with
        | some l => if Nat.beq l.length sz = true then some (Out.pure true (.val (.agg l.toArray))) else none
        | none => none
      else match cells[off]? with
        | some v => some (.pure true v)
        | none => none) = some r → ∃ v, r = .pure r.chk r.v ∧ Rel P W M ρ s.heap r.v v ∧ (Instr.loadAt t (.pointer (some ⟨g, o' + off, none⟩))).run P w = .ok v w := by
    intro cells b hb hk hm
    cases ag with
    | true =>
      simp only [if_true] at hm
      split at hm
      · rename_i l hv
        split at hm
        · rename_i hlen
          simp only [Option.some.injEq] at hm; subst hm
          refine ⟨_, rfl, rfl, load_run hag hsz (neq hlen) fun j u hu => ?_⟩
          have hj := vals_get hv hu
          have hjk : j < sz := by
            have := (List.getElem?_eq_some_iff.1 hu).1
            have := neq hlen
            omega
          rw [List.getElem?_take_of_lt hjk, List.getElem?_drop] at hj
          obtain ⟨u', hu', hr⟩ := box_cell h hb hk ha (off + j) _ hj
          rw [show u' = u from hr, ← Nat.add_assoc] at hu'
          exact hu'
        · cases hm
      · cases hm
    | false =>
      simp only [Bool.false_eq_true, if_false] at hm
      split at hm
      · rename_i v hv
        simp only [Option.some.injEq] at hm; subst hm
        obtain ⟨u, hu, hr⟩ := box_cell h hb hk ha off _ hv
        exact ⟨u, rfl, hr, load_run1 hag hu⟩
      · cases hm
  have rowcase : ∀ (m : Nat) (c : Cells) (b : Blk), s.heap id = some b → (b = .ros m c ∨ ∃ e z, b = .row e z m c) →
      (if ag = true then some (Out.pure (Nat.ble (off + sz) c.len) (.val (.agg ((List.range sz).map fun j => c.get (off + j)).toArray)))
      else some (.pure (Nat.ble (off + 1) c.len) (.val (c.get off)))) = some r → ∃ v, r = .pure r.chk r.v ∧ Rel P W M ρ s.heap r.v v ∧ (Instr.loadAt t (.pointer (some ⟨g, o' + off, none⟩))).run P w = .ok v w := by
    intro m c b hb hk hm
    cases ag with
    | true =>
      simp only [if_true, Option.some.injEq] at hm; subst hm
      have hlen := nle hchk
      refine ⟨_, rfl, rfl, load_run hag hsz (by simp) fun j u hu => ?_⟩
      have hjk : j < sz := by simpa using (List.getElem?_eq_some_iff.1 hu).1
      simp [hjk] at hu
      subst hu
      have := cells_at h hb hk ha (off + j) (by omega)
      rwa [← Nat.add_assoc] at this
    | false =>
      simp only [Bool.false_eq_true, if_false, Option.some.injEq] at hm; subst hm
      have hlen := nle hchk
      exact ⟨_, rfl, rfl, load_run1 hag (cells_at h hb hk ha off (by omega))⟩
  unfold ld at hl
  split at hl
  · rename_i e cells hb; exact boxcase cells _ hb (.inr ⟨_, rfl⟩) hl
  · rename_i cells hb; exact boxcase cells _ hb (.inl rfl) hl
  · rename_i e z m c hb; exact rowcase m c _ hb (.inr ⟨_, _, rfl⟩) hl
  · rename_i m c hb; exact rowcase m c _ hb (.inl rfl) hl
  · cases hl
theorem goal_load (h : R P W M n s a w ρ) (hd : inRange n o.dst = true) {t : TypeId} {x : Operand} (ho : o.op = .load t x)
    (hr : (match s.ev x, semOnly P (isAgg t), semOnly P (sizeOf t) with
    | .ptr id off, some a, some sz => ld s.heap a sz id off
    | _, _, _ => none) = some r) (hchk : r.chk = true) : Goal P W M n o s r a w Q := by
  split at hr
  · rename_i id off ag sz hx hag hsz
    have hv := h.ev x
    rw [hx] at hv
    obtain ⟨hl, g, o', ha, he⟩ := hv
    obtain ⟨v, hp, hrel, hrun⟩ := ld_ok h hag hsz hr hchk ha
    rw [hp]
    exact goal_pure h hd (v := v) (by simp only [execOp, ho, he]; exact (run_bind_ok hrun).trans rfl) (.inr hrel)
  · cases hr
end

end Go.Proofs.Ytnijajjdldijpaa
