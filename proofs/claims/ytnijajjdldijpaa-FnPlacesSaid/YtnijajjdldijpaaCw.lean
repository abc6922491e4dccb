import Derived.Test.YtnijajjdldijpaaCv
set_option linter.unusedSimpArgs false
set_option linter.unusedVariables false
namespace Go.Proofs.Ytnijajjdldijpaa
open Go.RowKit
/-! Stores. -/
def setV : List Value → Nat → List Value → List Value
  | l, _, [] => l
  | l, i, v :: vs => setV (l.set i v) (i + 1) vs
theorem setV_len : ∀ (vs l : List Value) (i : Nat), (setV l i vs).length = l.length
  | [], _, _ => rfl
  | v :: vs, l, i => by rw [setV, setV_len vs]; simp
theorem setV_take : ∀ (vs l : List Value) (i k : Nat), (setV l i vs).take k = setV (l.take k) i vs
  | [], _, _, _ => rfl
  | v :: vs, l, i, k => by rw [setV, setV_take vs, List.take_set]; rfl
theorem setCell_grown (w : World) (g i : Nat) (v : Value) : w.grownBy (w.setCell ⟨g, i, none⟩ v) (some g) :=
  ⟨rfl, rfl, rfl, by simp [World.setCell], fun k _ hne => Deep.blk_setCell_other _ _ _ _ (fun e => hne (by rw [show k = g from e]))⟩
theorem setCell_heap {w : World} {g i : Nat} {cs : Array Value} {e : TypeId} {v : Value} {fz : Nat × Nat} (h : w.heap[g]? = some (.cells cs e fz)) : (w.setCell ⟨g, i, none⟩ v).heap[g]? = some (.cells (cs.setIfInBounds i v) e fz) := by
  simp [World.setCell, Array.getElem?_modify, h]
theorem setCells_heap {g : Nat} {e : TypeId} {fz : Nat × Nat} : ∀ (vs : List Value) (i : Nat) (w : World) (cs : Array Value), w.heap[g]? = some (.cells cs e fz) →
    (∃ cs' : Array Value, (w.setCells g i vs).heap[g]? = some (.cells cs' e fz) ∧ cs'.toList = setV cs.toList i vs) ∧ w.grownBy (w.setCells g i vs) (some g)
  | [], i, w, cs, h => ⟨⟨cs, h, rfl⟩, World.grownBy.refl w _⟩
  | v :: vs, i, w, cs, h => by
    obtain ⟨⟨cs', h1, h2⟩, h3⟩ := setCells_heap vs (i + 1) _ _ (setCell_heap (i := i) (v := v) h)
    exact ⟨⟨cs', h1, by rw [h2]; simp [setV]⟩, (setCell_grown w g i v).trans h3⟩
section
variable {P : Program} {S : Sums} {W : World} {M : MV} {n : Nat} {s : FSt} {a : Act} {w w' : World} {ρ ρ' : Nat → Value} {H : Nat → Option Blk} {o : Oper} {r : Out} {Q : Exit → Act → World → Prop} {K : Act → World → Prop}
theorem keeps_one (h : R P W M n s a w ρ) {x : SV} {v : Value} (hx : Rel P W M ρ s.heap x v) (hk : x.keeps = true) : v.oneCell' = true := by
  cases x with
  | val y =>
    rw [show v = y from hx]
    cases y <;> first | rfl | (cases hk)
  | ptr i off => obtain ⟨_, g, o, _, rfl⟩ := hx; rfl
  | row i => obtain ⟨hl, rfl⟩ := hx; exact (rho_one h hl).2
  | sub i off m z => obtain ⟨_, g, o, cap, _, rfl, _⟩ := hx; rfl
  | clo f l => obtain ⟨vs, rfl, _⟩ := hx; rfl
  | fn g => obtain ⟨f, caps, rfl, _⟩ := hx; rfl
  | tup l => cases hk
  | agr l => cases hk
  | junk => cases hk
theorem all2_mem {α β : Type} {R : α → β → Prop} : ∀ {l : List α} {m : List β}, All2 R l m → ∀ b ∈ m, ∃ a ∈ l, R a b
  | [], [], _, b, h => by cases h
  | a :: l, c :: m, ⟨p, q⟩, b, h => by
    rcases List.mem_cons.1 h with rfl | h
    · exact ⟨a, by simp, p⟩
    · obtain ⟨x, hx, hr⟩ := all2_mem q b h
      exact ⟨x, by simp [hx], hr⟩
theorem upd1_eq (y c : SV) (b : Bool) : upd1 y c b = bif b then y else c := by
  unfold upd1
  split
  · split
    · rename_i k v k' x e
      subst e
      cases b <;> rfl
    · rfl
  · rfl
theorem set1_go (y : SV) (off : Nat) : ∀ (l : List SV) (j : Nat), set1 y off l j = if j ≤ off then l.set (off - j) y else l
  | [], j => by simp [set1]
  | c :: l, j => by
    simp only [set1, upd1_eq, set1_go y off l (j + 1)]
    by_cases e : off = j
    · subst e
      rw [if_neg (by omega), if_pos (Nat.le_refl _), Nat.sub_self, show Nat.beq off off = true by simp]
      rfl
    · rw [nbeq e, cond_false]
      by_cases h : j ≤ off
      · rw [if_pos (by omega), if_pos h, show off - j = (off - (j + 1)) + 1 from by omega]
        rfl
      · rw [if_neg (by omega), if_neg h]
theorem set1_eq (y : SV) (off : Nat) (l : List SV) : set1 y off l 0 = l.set off y := by rw [set1_go]; simp
theorem setAll_rel {ρ : Nat → Value} {H : Nat → Option Blk} : ∀ {xs : List SV} {vs : List Value}, All2 (Rel P W M ρ H) xs vs → ∀ {l : List SV} {m : List Value} (i : Nat), All2 (Rel P W M ρ H) l m → All2 (Rel P W M ρ H) (setAll l i xs) (setV m i vs)
  | [], [], _, _, _, _, h => h
  | _ :: _, _ :: _, ⟨p, q⟩, _, _, i, h => setAll_rel q (i + 1) (by rw [set1_eq]; exact h.set i p)
theorem put_spec {c c' : Cells} {i : Nat} {v : Value} (h : c.put i v = some c') (ho : c.ok) : c'.ok ∧ c'.toVals = c.toVals.set i v ∧ c'.len = c.len := by
  unfold Cells.put at h
  split at h
  · simp only [Option.some.injEq] at h; subst h
    exact ⟨True.intro, by simp [Cells.toVals, List.map_set], by simp [Cells.len]⟩
  · simp only [Option.some.injEq] at h; subst h
    exact ⟨True.intro, by simp [Cells.toVals, List.map_set], by simp [Cells.len]⟩
  · simp only [Option.some.injEq] at h; subst h
    refine ⟨fun u hu => ?_, rfl, by simp [Cells.len]⟩
    rcases List.mem_or_eq_of_mem_set hu with hu | rfl
    · exact ho u hu
    · rfl
  · simp only [Option.some.injEq] at h; subst h
    refine ⟨fun u hu => ?_, rfl, by simp [Cells.len]⟩
    rcases List.mem_or_eq_of_mem_set hu with hu | rfl
    · exact ho u hu
    · rfl
  · cases h
theorem puts_spec : ∀ {vs : List Value} {c c' : Cells} {i : Nat}, c.puts i vs = some c' → c.ok → c'.ok ∧ c'.toVals = setV c.toVals i vs ∧ c'.len = c.len
  | [], c, c', i, h, ho => by simp only [Cells.puts, Option.some.injEq] at h; subst h; exact ⟨ho, rfl, rfl⟩
  | v :: vs, c, c', i, h, ho => by
    simp only [Cells.puts] at h
    split at h
    · rename_i c1 h1
      obtain ⟨o1, e1, l1⟩ := put_spec h1 ho
      obtain ⟨o2, e2, l2⟩ := puts_spec h o1
      exact ⟨o2, by rw [e2, e1]; rfl, by rw [l2, l1]⟩
    · cases h
theorem store_run {t : TypeId} {sz g i : Nat} {v : Value} (hsz : semOnly P (sizeOf t) = some sz) (hv : v.cells.size = sz) (hc : ∀ j, j < sz → (w.cell? ⟨g, i + j, none⟩).isSome = true ∧ w.frozen? ⟨g, i + j, none⟩ = false) (h1 : ∀ u ∈ v.cells.toList, u.oneCell' = true) :
    (Instr.storeAt t (.pointer (some ⟨g, i, none⟩)) v).run P w = .ok () (w.setCells g i v.cells.toList) := by
  unfold Instr.storeAt Instr.sureAddr
  rw [run_only (x := ⟨g, i, none⟩) rfl]
  unfold storeVar
  rw [run_only hsz]
  rw [if_neg (by simp [hv])]
  have := run_storeCells_cells (P := P) g i v.cells.toList 0 w (fun j hj => by simpa using (hc j (by simp at hj; omega)).1) (fun j hj => by simpa using (hc j (by simp at hj; omega)).2) h1
  simpa [Sem.run_bind] using this
theorem goal_store (h : R P W M n s a w ρ) (hd : inRange n o.dst = true) {t : TypeId} {x y : Operand} (ho : o.op = .store t x y)
    (hr : (match s.ev x, semOnly P (sizeOf t) with
    | .ptr id off, some sz => st s.heap sz id off (s.ev y)
    | _, _ => none) = some r) (hchk : r.chk = true) (hdst : o.dst = none) : Goal P W M n o s r a w Q := by
  split at hr
  · rename_i id off sz hx hsz
    have hv := h.ev x
    rw [hx] at hv
    obtain ⟨hl, g, o', ha, he⟩ := hv
    have hy := h.ev y
    unfold st at hr
    split at hr
    · rename_i hck
      simp only [Bool.and_eq_true] at hck
      obtain ⟨hlen, hkeep⟩ := hck
      have hlen := neq hlen
      have hj : s.ev y ≠ .junk := by
        intro e
        rw [e] at hkeep
        simp [SV.parts, SV.keeps] at hkeep
      have hparts := parts_rel h hy hj
      have hvs : (a.eval y).cells.size = sz := by
        have := hparts.len
        simp at this
        omega
      have hone : ∀ u ∈ (a.eval y).cells.toList, u.oneCell' = true := fun u hu => by
        obtain ⟨x', hx', hr'⟩ := all2_mem hparts u hu
        exact keeps_one h hr' (List.all_eq_true.1 hkeep x' hx')
      have hwp : ∀ {g i : Nat}, a.eval x = .pointer (some ⟨g, i, none⟩) → (∀ j, j < sz → (w.cell? ⟨g, i + j, none⟩).isSome = true ∧ w.frozen? ⟨g, i + j, none⟩ = false) → (execOp a.eval o).run P w = .ok .skip (w.setCells g i (a.eval y).cells.toList) := by
        intro g i he hc
        simp only [execOp, ho, he]
        exact (run_bind_ok (store_run hsz hvs hc hone)).trans rfl
      split at hr
      · rename_i e cells hb
        · simp only [Option.some.injEq] at hr; subst hr
          have hle := nle hchk
          obtain ⟨g', cs, h1, h2, h3, h4⟩ := h.heap id _ hb
          rw [h1] at ha
          obtain ⟨rfl, rfl⟩ : g' = g ∧ 0 = o' := by simpa [atOf] using ha
          have hcl := h4.len
          obtain ⟨⟨cs', hh, hcs'⟩, hg⟩ := setCells_heap (a.eval y).cells.toList off w cs h3
          refine wp_skp (hwp (by rw [he, Nat.zero_add]) fun j hj => ?_) ⟨ρ, ?_⟩
          · have hlt : off + j < cs.size := by simp at hcl; omega
            exact ⟨by simp [World.cell?, h3, hlt], by simp [World.frozen?, h3]⟩
          · rw [hdst]
            show R P W M n (s.set id _) a _ ρ
            exact h.write hb rfl rfl (at_pos (o' := 0) (by rw [h1]; rfl)) h2 hg ⟨g', cs', h1, h2, hh, by rw [hcs']; exact setAll_rel hparts off h4⟩
      · rename_i e z m c hb
        split at hr
        · rename_i v hyv
          split at hr
          · rename_i c' hputs
            simp only [Option.some.injEq] at hr; subst hr
            have hle := nle hchk
            obtain ⟨k1, k2, k3⟩ := h.heap id _ hb
            have hyv' := ev_val h hyv
            rw [← hyv'] at hputs
            obtain ⟨p1, p2, p3⟩ := puts_spec hputs k1
            rcases k2.2 with ⟨h0, _⟩ | ⟨g', cap, cur, hv, hb0, hg, hc, hm, hz, hx0⟩
            · rw [h0] at ha; cases ha
            · rw [hv] at ha
              obtain ⟨rfl, rfl⟩ : g' = g ∧ 0 = o' := by simpa [atOf] using ha
              obtain ⟨⟨cs', hh, hcs'⟩, hgr⟩ := setCells_heap (a.eval y).cells.toList off w cur hg
              have hlc : c.len = m * z := by rw [← Cells.len_toVals]; exact k2.1
              have hcur : cur.size = cap * z := hz
              have hle2 : m * z ≤ cap * z := Nat.mul_le_mul_right z hc
              refine wp_skp (hwp (by rw [he, Nat.zero_add]) fun j hj => ?_) ⟨ρ, ?_⟩
              · have hlt : off + j < cur.size := by omega
                exact ⟨by simp [World.cell?, hg, hlt], by simp [World.frozen?, hg]⟩
              · rw [hdst]
                show R P W M n (s.set id _) a _ ρ
                refine h.write hb rfl rfl (at_pos (o' := 0) (by rw [hv]; rfl)) (k3 g' (by rw [hv]; rfl)) hgr ⟨p1, ⟨by rw [Cells.len_toVals, p3, hlc], .inr ⟨g', cap, cs', hv, hb0, hh, hc, hm, ?_, ?_⟩⟩, k3⟩
                · have := congrArg List.length hcs'
                  rw [setV_len] at this
                  simp at this
                  omega
                · rw [hcs', setV_take, hx0, p2]
          · cases hr
        · cases hr
      · cases hr
    · cases hr
  · cases hr
end

end Go.Proofs.Ytnijajjdldijpaa
