import Derived.Test.YtfclaacaphpoaaaCu
set_option linter.unusedSimpArgs false
set_option linter.unusedVariables false
namespace Go.Proofs.Ytfclaacaphpoaaa
open Go.RowKit
section
variable {P : Program} {S : Sums} {W : World} {M : MV} {n : Nat} {s : FSt} {a : Act} {w w' : World} {ρ ρ' : Nat -> Value} {H : Nat -> Option Blk} {o : Oper} {r : Out} {Q : Exit -> Act -> World -> Prop} {K : Act -> World -> Prop}
theorem nle {a b : Nat} (h : Nat.ble a b = true) : a <= b := Nat.le_of_ble_eq_true h
theorem neq {a b : Nat} (h : Nat.beq a b = true) : a = b := Nat.eq_of_beq_eq_true h
theorem Zww {i : Nat} {e sz m : Nat} {cs : Array Value} {c : Cells} (h : R P W M n s a w ρ) (hc : c.ok) (hv : c.toVals = cs.toList) (hl : cs.size = m * sz) (hm : m <= 2000000) :
  BRel P W M (w.alloc (.cells cs e)) (fun x => if x = i then .slice (some ⟨w.heap.size, 0, none⟩) m m else ρ x) H i (.row e sz m c) := by
 refine ⟨hc, ?_, ?_⟩
 ·simp only [if_true]
  rw [hv]
  exact World.ownsRow_lit w cs m (Nat.zero_le _) (by unfold maxLen; omega) hl
 ·intro g hg
  simp only [if_true] at hg
  obtain rfl : w.heap.size = g := by simpa [Z07, atOf] using hg
  exact Zes h
theorem ZjM (h : R P W M n s a w ρ) (hd : Z0b n o.dst = true) {t : TypeId} {len : Nat} {parts : Array (Nat × Operand)} (ho : o.op = .buildSlice t len parts)
  (hr : (match o.dst with
  | some d => if (parts.toList.all fun x => (s.ev x.2).isVal) = true then
    match Zu P (Z9i t len (parts.map fun (i, x) => (i, s.evV x))) with
    | some (e, sz, cells) => if (Nat.beq cells.size (len * sz) && Nat.ble len 2000000 && (Zl3 P e cells.toList).okB) = true then some (⟨true, .row (4 * d), [(4 * d, .row e sz len (Zl3 P e cells.toList))], none, none⟩ : Out) else none
    | none => none
   else none
  | none => none) = some r) (hf : s.fresh r.news = true) : Goal P W M n o s r a w Q := by
 split at hr
 ·rename_i d hdst
  split at hr
  ·rename_i hall
   split at hr
   ·rename_i e sz cells hbs
    split at hr
    ·rename_i hck
     simp only [Option.some.injEq] at hr
     subst hr
     simp only [Bool.and_eq_true] at hck
     obtain ⟨⟨h1, h2⟩, h3⟩ := hck
     have hparts : (parts.map fun (i, x) => (i, s.evV x)) = parts.map fun (i, x) => (i, a.eval x) := by
      apply Array.map_congr_left
      intro p hp
      have := ZrF h (x := p.2) (List.all_eq_true.1 hall p (by simpa using hp))
      simp [this]
     rw [hparts] at hbs
     refine Zbl (w' := w.alloc (.cells cells e)) (u := .slice (some ⟨w.heap.size, 0, none⟩) len len) (v := .slice (some ⟨w.heap.size, 0, none⟩) len len) h hd hf ?_ (Z8E _ _) (Zww h (ZrV h3) (ZpW _ _ _) (neq h1) (Nat.le_trans (nle h2) (by decide))) (fun _ g hg => ?_) (fun H hH => ⟨hH, ?_⟩)
     ·simp only [execOp, ho]
      exact (Zv (Zuw hbs w)).trans rfl
     ·obtain rfl : w.heap.size = g := by simpa [Z07, atOf] using hg
      exact Nat.le_refl _
     ·simp only [if_true]
    ·cases hr
   ·cases hr
  ·cases hr
 ·cases hr
theorem Zus {id g o' : Nat} (h : atOf (ρ id) = some (g, o')) : Z07 (ρ id) = some g := by simp [Z07, h]
theorem ZpX (h : R P W M n s a w ρ) {id g o' m : Nat} {c : Cells} {b : Blk} (hb : s.heap id = some b) (hk : b = .ros m c \/ (∃ fr, b = .fro fr m c) \/ ∃ e sz, b = .row e sz m c) (ha : atOf (ρ id) = some (g, o')) :
  ∀ j, j < c.len -> w.cell? ⟨g, o' + j, none⟩ = some (c.get j) := by
 intro j hj
 have hr : Z16 w none (ρ id) m c := by
  rcases hk with rfl | ⟨fr, rfl⟩ | ⟨e, sz, rfl⟩
  ·exact ZaY h hb
  ·exact (h.heap id _ hb).1
  ·exact Z8X h hb
 rcases hr.2 with ⟨h0, _⟩ | ⟨g', o'', cap, h1, _, _, h4⟩
 ·rw [h0] at ha; cases ha
 ·rw [h1] at ha
  obtain ⟨rfl, rfl⟩ : g' = g /\ o'' = o' := by simpa [atOf] using ha
  exact h4 j _ (Cells.get_toVals c hj)
theorem ZlG {t : TypeId} {sz g o' : Nat} {l : List Value} (hag : Zu P (isAgg t) = some true) (hsz : Zu P (sizeOf t) = some sz) (hl : l.length = sz) (hc : ∀ j u, l[j]? = some u -> w.cell? ⟨g, o' + j, none⟩ = some u) :
  (Instr.loadAt t (.pointer (some ⟨g, o', none⟩))).run P w = .ok (.agg l.toArray) w := by
 subst hl
 unfold Instr.loadAt Instr.sureAddr
 rw [Z0l (x := ⟨g, o', none⟩) rfl]
 unfold loadVar
 rw [Z0l hag]
 simp only [if_true]
 rw [Z0l hsz, Zv (run_loadCells_list w ⟨g, o', none⟩ l (fun j v hv => by
  rw [show (⟨g, o', none⟩ : Addr).add j = ⟨g, o' + j, none⟩ by unfold Addr.add; split <;> simp_all]
  exact hc j v hv))]
 rfl
theorem Zel {t : TypeId} {g o' : Nat} {u : Value} (hag : Zu P (isAgg t) = some false) (hc : w.cell? ⟨g, o', none⟩ = some u) :
  (Instr.loadAt t (.pointer (some ⟨g, o', none⟩))).run P w = .ok u w := by
 unfold Instr.loadAt Instr.sureAddr
 rw [Z0l (x := ⟨g, o', none⟩) rfl]
 unfold loadVar
 rw [Z0l hag]
 simp [hc]
theorem Zvf (h : R P W M n s a w ρ) {t : TypeId} {ag : Bool} {sz id off g o' : Nat} {r : Out} (hag : Zu P (isAgg t) = some ag) (hsz : Zu P (sizeOf t) = some sz) (hl : ld s.heap ag sz id off = some r) (Z0t : r.chk = true) (ha : atOf (ρ id) = some (g, o')) :
  ∃ v, r = .pure r.chk r.v /\ Rel P W M ρ s.heap r.v v /\ (Instr.loadAt t (.pointer (some ⟨g, o' + off, none⟩))).run P w = .ok v w := by
 have boxcase : ∀ (cells : List SV) (b : Blk), s.heap id = some b -> (b = .rop cells \/ ∃ e, b = .box e cells) ->
   (if ag = true then
    match SV.vals ((cells.drop off).take sz) with
    | some l => if Nat.beq l.length sz = true then some (Out.pure true (.val (.agg l.toArray))) else none
    | none => none
   else match cells[off]? with
    | some v => some (.pure true v)
    | none => none) = some r -> ∃ v, r = .pure r.chk r.v /\ Rel P W M ρ s.heap r.v v /\ (Instr.loadAt t (.pointer (some ⟨g, o' + off, none⟩))).run P w = .ok v w := by
  intro cells b hb hk hm
  cases ag with
  | true =>
   simp only [if_true] at hm
   split at hm
   ·rename_i l hv
    split at hm
    ·rename_i Z5e
     simp only [Option.some.injEq] at hm; subst hm
     refine ⟨_, rfl, rfl, ZlG hag hsz (neq Z5e) fun j u hu => ?_⟩
     have hj := Zht hv hu
     have hjk : j < sz := by
      have := (List.getElem?_eq_some_iff.1 hu).1
      have := neq Z5e
      omega
     rw [List.getElem?_take_of_lt hjk, List.getElem?_drop] at hj
     obtain ⟨u', hu', hr⟩ := Z9W h hb hk ha (off + j) _ hj
     rw [show u' = u from hr, <- Nat.add_assoc] at hu'
     exact hu'
    ·cases hm
   ·cases hm
  | false =>
   simp only [Bool.false_eq_true, if_false] at hm
   split at hm
   ·rename_i v hv
    simp only [Option.some.injEq] at hm; subst hm
    obtain ⟨u, hu, hr⟩ := Z9W h hb hk ha off _ hv
    exact ⟨u, rfl, hr, Zel hag hu⟩
   ·cases hm
 have rowcase : ∀ (m : Nat) (c : Cells) (b : Blk), s.heap id = some b -> (b = .ros m c \/ (∃ fr, b = .fro fr m c) \/ ∃ e z, b = .row e z m c) ->
   (if ag = true then some (Out.pure (Nat.ble (off + sz) c.len) (.val (.agg ((List.range sz).map fun j => c.get (off + j)).toArray)))
   else some (.pure (Nat.ble (off + 1) c.len) (.val (c.get off)))) = some r -> ∃ v, r = .pure r.chk r.v /\ Rel P W M ρ s.heap r.v v /\ (Instr.loadAt t (.pointer (some ⟨g, o' + off, none⟩))).run P w = .ok v w := by
  intro m c b hb hk hm
  cases ag with
  | true =>
   simp only [if_true, Option.some.injEq] at hm; subst hm
   have Z5e := nle Z0t
   refine ⟨_, rfl, rfl, ZlG hag hsz (by simp) fun j u hu => ?_⟩
   have hjk : j < sz := by simpa using (List.getElem?_eq_some_iff.1 hu).1
   simp [hjk] at hu
   subst hu
   have := ZpX h hb hk ha (off + j) (by omega)
   rwa [<- Nat.add_assoc] at this
  | false =>
   simp only [Bool.false_eq_true, if_false, Option.some.injEq] at hm; subst hm
   have Z5e := nle Z0t
   exact ⟨_, rfl, rfl, Zel hag (ZpX h hb hk ha off (by omega))⟩
 unfold ld at hl
 split at hl
 ·rename_i e cells hb; exact boxcase cells _ hb (.inr ⟨_, rfl⟩) hl
 ·rename_i cells hb; exact boxcase cells _ hb (.inl rfl) hl
 ·rename_i e z m c hb; exact rowcase m c _ hb (.inr (.inr ⟨_, _, rfl⟩)) hl
 ·rename_i m c hb; exact rowcase m c _ hb (.inl rfl) hl
 ·rename_i fr m c hb; exact rowcase m c _ hb (.inr (.inl ⟨_, rfl⟩)) hl
 ·cases hl
 ·cases hl
theorem ZtO (h : R P W M n s a w ρ) (hd : Z0b n o.dst = true) {t : TypeId} {x : Operand} (ho : o.op = .load t x)
  (hr : (match s.ev x, Zu P (isAgg t), Zu P (sizeOf t) with
  | .ptr id off, some a, some sz => ld s.heap a sz id off
  | _, _, _ => none) = some r) (Z0t : r.chk = true) : Goal P W M n o s r a w Q := by
 split at hr
 ·rename_i id off ag sz hx hag hsz
  have hv := h.ev x
  rw [hx] at hv
  obtain ⟨hl, g, o', ha, he⟩ := hv
  obtain ⟨v, hp, hrel, hrun⟩ := Zvf h hag hsz hr Z0t ha
  rw [hp]
  exact Z08 h hd (v := v) (by simp only [execOp, ho, he]; exact (Zv hrun).trans rfl) (.inr hrel)
 ·cases hr
theorem Zqs {x : Operand} {g : Nat} (h : ZdE x = some g) : x = .global g := by
 cases x <;> simp [ZdE] at h
 rw [h]
theorem ZrI (hB : Base W M) (h : R P W M n s a w ρ) (hd : Z0b n o.dst = true) {t : TypeId} {g : Nat} (ho : o.op = .load t (.global g)) (hr : gload P t g = some r) : Goal P W M n o s r a w Q := by
 have hG := h.gok hB
 unfold gload at hr
 have hev : a.eval (.global g) = .pointer (some ⟨g, 0, none⟩) := rfl
 split at hr
 ·rename_i vals sz hv hag hsz
  split at hr
  ·rename_i Z5e
   have Z5e := neq Z5e
   simp only [Option.some.injEq] at hr; subst hr
   refine Z08 h hd (v := .agg vals.toArray) ?_ (.inr rfl)
   simp only [execOp, ho, hev]
   exact (Zv (ZlG hag hsz Z5e fun j u hu => by rw [Nat.zero_add]; exact hG.2 g vals hv j u hu)).trans rfl
  ·cases hr
 ·rename_i v sz hv hag hsz
  simp only [Option.some.injEq] at hr; subst hr
  refine Z08 h hd (v := v) ?_ (.inr rfl)
  simp only [execOp, ho, hev]
  exact (Zv (Zel hag (hG.2 g [v] hv 0 v rfl))).trans rfl
 ·cases hr
end

def setV : List Value -> Nat -> List Value -> List Value
 | l, _, [] => l
 | l, i, v :: vs => setV (l.set i v) (i + 1) vs
theorem ZlY : ∀ (vs l : List Value) (i : Nat), (setV l i vs).length = l.length
 | [], _, _ => rfl
 | v :: vs, l, i => by rw [setV, ZlY vs]; simp
theorem Zil : ∀ (vs l : List Value) (i k : Nat), (setV l i vs).take k = setV (l.take k) i vs
 | [], _, _, _ => rfl
 | v :: vs, l, i, k => by rw [setV, Zil vs, List.take_set]; rfl
theorem ZmK (w : World) (g i : Nat) (v : Value) : w.grownBy (w.setCell ⟨g, i, none⟩ v) (some g) :=
 ⟨rfl, rfl, rfl, by simp [World.setCell], fun k _ hne => Deep.blk_setCell_other _ _ _ _ (fun e => hne (by rw [show k = g from e]))⟩
theorem Zpt {w : World} {g i : Nat} {cs : Array Value} {e : TypeId} {v : Value} {fz : Nat × Nat} (h : w.heap[g]? = some (.cells cs e fz)) : (w.setCell ⟨g, i, none⟩ v).heap[g]? = some (.cells (cs.setIfInBounds i v) e fz) := by
 simp [World.setCell, Array.getElem?_modify, h]
theorem Z8v {g : Nat} {e : TypeId} {fz : Nat × Nat} : ∀ (vs : List Value) (i : Nat) (w : World) (cs : Array Value), w.heap[g]? = some (.cells cs e fz) ->
  (∃ cs' : Array Value, (w.setCells g i vs).heap[g]? = some (.cells cs' e fz) /\ cs'.toList = setV cs.toList i vs) /\ w.grownBy (w.setCells g i vs) (some g)
 | [], i, w, cs, h => ⟨⟨cs, h, rfl⟩, World.grownBy.refl w _⟩
 | v :: vs, i, w, cs, h => by
  obtain ⟨⟨cs', h1, h2⟩, h3⟩ := Z8v vs (i + 1) _ _ (Zpt (i := i) (v := v) h)
  exact ⟨⟨cs', h1, by rw [h2]; simp [setV]⟩, (ZmK w g i v).trans h3⟩
section
variable {P : Program} {S : Sums} {W : World} {M : MV} {n : Nat} {s : FSt} {a : Act} {w w' : World} {ρ ρ' : Nat -> Value} {H : Nat -> Option Blk} {o : Oper} {r : Out} {Q : Exit -> Act -> World -> Prop} {K : Act -> World -> Prop}
theorem ZtV (h : R P W M n s a w ρ) {x : SV} {v : Value} (hx : Rel P W M ρ s.heap x v) (hk : x.keeps = true) : v.oneCell' = true := by
 cases x with
 | val y =>
  rw [show v = y from hx]
  cases y <;> first | rfl | (cases hk)
 | ptr i off => obtain ⟨_, g, o, _, rfl⟩ := hx; rfl
 | row i => obtain ⟨hl, rfl⟩ := hx; exact (Zh8 h hl).2
 | sub i off m z => obtain ⟨_, q, cap, rfl, _⟩ := hx; rfl
 | clo f l => obtain ⟨vs, rfl, _⟩ := hx; rfl
 | fn g => obtain ⟨f, caps, rfl, _⟩ := hx; rfl
 | tup l => cases hk
 | agr l => cases hk
 | junk => cases hk
theorem ZkZ {α β : Type} {R : α -> β -> Prop} : ∀ {l : List α} {m : List β}, All2 R l m -> ∀ b ∈ m, ∃ a ∈ l, R a b
 | [], [], _, b, h => by cases h
 | a :: l, c :: m, ⟨p, q⟩, b, h => by
  rcases List.mem_cons.1 h with rfl | h
  ·exact ⟨a, by simp, p⟩
  ·obtain ⟨x, hx, hr⟩ := ZkZ q b h
   exact ⟨x, by simp [hx], hr⟩
theorem ZwF (y c : SV) (b : Bool) : upd1 y c b = bif b then y else c := by
 unfold upd1
 split
 ·split
  ·rename_i k v k' x e
   subst e
   cases b <;> rfl
  ·rfl
 ·rfl
theorem Zth (y : SV) (off : Nat) : ∀ (l : List SV) (j : Nat), set1 y off l j = if j <= off then l.set (off - j) y else l
 | [], j => by simp [set1]
 | c :: l, j => by
  simp only [set1, ZwF, Zth y off l (j + 1)]
  by_cases e : off = j
  ·subst e
   rw [if_neg (by omega), if_pos (Nat.le_refl _), Nat.sub_self, show Nat.beq off off = true by simp]
   rfl
  ·rw [nbeq e, cond_false]
   by_cases h : j <= off
   ·rw [if_pos (by omega), if_pos h, show off - j = (off - (j + 1)) + 1 from by omega]
    rfl
   ·rw [if_neg (by omega), if_neg h]
theorem Ztg (y : SV) (off : Nat) (l : List SV) : set1 y off l 0 = l.set off y := by rw [Zth]; simp
theorem ZlX {ρ : Nat -> Value} {H : Nat -> Option Blk} : ∀ {xs : List SV} {vs : List Value}, All2 (Rel P W M ρ H) xs vs -> ∀ {l : List SV} {m : List Value} (i : Nat), All2 (Rel P W M ρ H) l m -> All2 (Rel P W M ρ H) (Zps l i xs) (setV m i vs)
 | [], [], _, _, _, _, h => h
 | _ :: _, _ :: _, ⟨p, q⟩, _, _, i, h => ZlX q (i + 1) (by rw [Ztg]; exact h.set i p)
theorem ZvE {c c' : Cells} {i : Nat} {v : Value} (h : c.put i v = some c') (ho : c.ok) : c'.ok /\ c'.toVals = c.toVals.set i v /\ c'.len = c.len := by
 unfold Cells.put at h
 split at h
 ·simp only [Option.some.injEq] at h; subst h
  exact ⟨True.intro, by simp [Cells.toVals, List.map_set], by simp [Cells.len]⟩
 ·simp only [Option.some.injEq] at h; subst h
  exact ⟨True.intro, by simp [Cells.toVals, List.map_set], by simp [Cells.len]⟩
 ·simp only [Option.some.injEq] at h; subst h
  exact ⟨True.intro, by simp [Cells.toVals, List.map_set], by simp [Cells.len]⟩
 ·simp only [Option.some.injEq] at h; subst h
  refine ⟨fun u hu => ?_, rfl, by simp [Cells.len]⟩
  rcases List.mem_or_eq_of_mem_set hu with hu | rfl
  ·exact ho u hu
  ·rfl
 ·simp only [Option.some.injEq] at h; subst h
  refine ⟨fun u hu => ?_, rfl, by simp [Cells.len]⟩
  rcases List.mem_or_eq_of_mem_set hu with hu | rfl
  ·exact ho u hu
  ·rfl
 ·cases h
theorem ZnI : ∀ {vs : List Value} {c c' : Cells} {i : Nat}, c.puts i vs = some c' -> c.ok -> c'.ok /\ c'.toVals = setV c.toVals i vs /\ c'.len = c.len
 | [], c, c', i, h, ho => by simp only [Cells.puts, Option.some.injEq] at h; subst h; exact ⟨ho, rfl, rfl⟩
 | v :: vs, c, c', i, h, ho => by
  simp only [Cells.puts] at h
  split at h
  ·rename_i c1 h1
   obtain ⟨o1, e1, l1⟩ := ZvE h1 ho
   obtain ⟨o2, e2, l2⟩ := ZnI h o1
   exact ⟨o2, by rw [e2, e1]; rfl, by rw [l2, l1]⟩
  ·cases h
theorem ZnP {t : TypeId} {sz g i : Nat} {v : Value} (hsz : Zu P (sizeOf t) = some sz) (hv : v.cells.size = sz) (hc : ∀ j, j < sz -> (w.cell? ⟨g, i + j, none⟩).isSome = true /\ w.frozen? ⟨g, i + j, none⟩ = false) (h1 : ∀ u ∈ v.cells.toList, u.oneCell' = true) :
  (Instr.storeAt t (.pointer (some ⟨g, i, none⟩)) v).run P w = .ok () (w.setCells g i v.cells.toList) := by
 unfold Instr.storeAt Instr.sureAddr
 rw [Z0l (x := ⟨g, i, none⟩) rfl]
 unfold storeVar
 rw [Z0l hsz]
 rw [if_neg (by simp [hv])]
 have := run_storeCells_cells (P := P) g i v.cells.toList 0 w (fun j hj => by simpa using (hc j (by simp at hj; omega)).1) (fun j hj => by simpa using (hc j (by simp at hj; omega)).2) h1
 simpa [Sem.run_bind] using this
theorem ZrM (h : R P W M n s a w ρ) (hd : Z0b n o.dst = true) {t : TypeId} {x y : Operand} (ho : o.op = .store t x y)
  (hr : (match s.ev x, Zu P (sizeOf t) with
  | .ptr id off, some sz => st s.heap sz id off (s.ev y)
  | _, _ => none) = some r) (Z0t : r.chk = true) (hdst : o.dst = none) : Goal P W M n o s r a w Q := by
 split at hr
 ·rename_i id off sz hx hsz
  have hv := h.ev x
  rw [hx] at hv
  obtain ⟨hl, g, o', ha, he⟩ := hv
  have hy := h.ev y
  unfold st at hr
  split at hr
  ·rename_i hck
   simp only [Bool.and_eq_true] at hck
   obtain ⟨Z5e, hkeep⟩ := hck
   have Z5e := neq Z5e
   have hj : s.ev y ≠ .junk := by
    intro e
    rw [e] at hkeep
    simp [SV.parts, SV.keeps] at hkeep
   have hparts := ZnH h hy hj
   have hvs : (a.eval y).cells.size = sz := by
    have := hparts.len
    simp at this
    omega
   have hone : ∀ u ∈ (a.eval y).cells.toList, u.oneCell' = true := fun u hu => by
    obtain ⟨x', hx', hr'⟩ := ZkZ hparts u hu
    exact ZtV h hr' (List.all_eq_true.1 hkeep x' hx')
   have hwp : ∀ {g i : Nat}, a.eval x = .pointer (some ⟨g, i, none⟩) -> (∀ j, j < sz -> (w.cell? ⟨g, i + j, none⟩).isSome = true /\ w.frozen? ⟨g, i + j, none⟩ = false) -> (execOp a.eval o).run P w = .ok .skip (w.setCells g i (a.eval y).cells.toList) := by
    intro g i he hc
    simp only [execOp, ho, he]
    exact (Zv (ZnP hsz hvs hc hone)).trans rfl
   split at hr
   ·rename_i e cells hb
    ·simp only [Option.some.injEq] at hr; subst hr
     have hle := nle Z0t
     obtain ⟨g', cs, h1, h2, h3, h4⟩ := h.heap id _ hb
     rw [h1] at ha
     obtain ⟨rfl, rfl⟩ : g' = g /\ 0 = o' := by simpa [atOf] using ha
     have hcl := h4.len
     obtain ⟨⟨cs', hh, hcs'⟩, hg⟩ := Z8v (a.eval y).cells.toList off w cs h3
     refine Zsf (hwp (by rw [he, Nat.zero_add]) fun j hj => ?_) ⟨ρ, ?_⟩
     ·have hlt : off + j < cs.size := by simp at hcl; omega
      exact ⟨by simp [World.cell?, h3, hlt], by simp [World.frozen?, h3]⟩
     ·rw [hdst]
      show R P W M n (s.set id _) a _ ρ
      exact h.write hb rfl rfl (Zus (o' := 0) (by rw [h1]; rfl)) h2 hg ⟨g', cs', h1, h2, hh, by rw [hcs']; exact ZlX hparts off h4⟩ (by intro _ hh; cases hh)
   ·rename_i e z m c hb
    split at hr
    ·rename_i v hyv
     split at hr
     ·rename_i c' hputs
      simp only [Option.some.injEq] at hr; subst hr
      have hle := nle Z0t
      obtain ⟨k1, k2, k3⟩ := h.heap id _ hb
      have hyv' := Z1L h hyv
      rw [<- hyv'] at hputs
      obtain ⟨p1, p2, p3⟩ := ZnI hputs k1
      rcases k2.2 with ⟨h0, _⟩ | ⟨g', cap, cur, hv, hb0, hg, hc, hm, hz, hx0⟩
      ·rw [h0] at ha; cases ha
      ·rw [hv] at ha
       obtain ⟨rfl, rfl⟩ : g' = g /\ 0 = o' := by simpa [atOf] using ha
       obtain ⟨⟨cs', hh, hcs'⟩, hgr⟩ := Z8v (a.eval y).cells.toList off w cur hg
       have hlc : c.len = m * z := by rw [<- Cells.len_toVals]; exact k2.1
       have hcur : cur.size = cap * z := hz
       have hle2 : m * z <= cap * z := Nat.mul_le_mul_right z hc
       refine Zsf (hwp (by rw [he, Nat.zero_add]) fun j hj => ?_) ⟨ρ, ?_⟩
       ·have hlt : off + j < cur.size := by omega
        exact ⟨by simp [World.cell?, hg, hlt], by simp [World.frozen?, hg]⟩
       ·rw [hdst]
        show R P W M n (s.set id _) a _ ρ
        refine h.write hb rfl rfl (Zus (o' := 0) (by rw [hv]; rfl)) (k3 g' (by rw [hv]; rfl)) hgr ⟨p1, ⟨by rw [Cells.len_toVals, p3, hlc], .inr ⟨g', cap, cs', hv, hb0, hh, hc, hm, ?_, ?_⟩⟩, k3⟩ (by intro _ hh; cases hh)
        ·have := congrArg List.length hcs'
         rw [ZlY] at this
         simp at this
         omega
        ·rw [hcs', Zil, hx0, p2]
     ·cases hr
    ·cases hr
   ·cases hr
  ·cases hr
 ·cases hr
end

section
variable {P : Program} {S : Sums} {W : World} {M : MV} {n : Nat} {s : FSt} {a : Act} {w w' : World} {ρ ρ' : Nat -> Value} {H : Nat -> Option Blk} {o : Oper} {r : Out} {Q : Exit -> Act -> World -> Prop} {K : Act -> World -> Prop}
theorem ZqQ {t : TypeId} {k : Nat} (h : Zu P (sizeOf t) = some k) : ∃ i, P.info? t = some i /\ i.size = k := by
 have h' := Z47 h (default : World)
 unfold sizeOf typeInfo at h'
 cases hi : P.info? t with
 | none => simp [hi] at h'
 | some i => exact ⟨i, rfl, by simpa [hi] using h'⟩
theorem ZuJ : ∀ l m : List Int, eqL l m = (l == m)
 | [], [] => rfl
 | [], _ :: _ => rfl
 | [_], [] => rfl
 | _ :: _ :: _, [] => rfl
 | [a], [b] => by simp [eqL]
 | [a], b :: c :: m => by simp [eqL]
 | a :: c :: l, [b] => by simp [eqL]
 | a :: c :: l, b :: d :: m => by
  have := ZuJ (c :: l) (d :: m)
  show (a == b && eqL (c :: l) (d :: m)) = _
  rw [this]; rfl
theorem Zas {xs ys : List Value} {b : Bool} (h : Zor xs ys = some b) : ∃ l m : List Int, xs = l.map (Value.int .i64) /\ ys = m.map (Value.int .i64) /\ b = (l == m) := by
 unfold Zor at h
 split at h
 ·rename_i l m h1 h2
  simp only [Option.some.injEq] at h; subst h
  exact ⟨l, m, Zav h1, Zav h2, ZuJ l m⟩
 ·cases h
theorem ZdJ {t : TypeId} {k : Nat} (h : Zi1 P t = some k) : ∃ e q, P.underlying t = some (.array k e) /\ P.underlying e = some (.int q) /\ Zu P (sizeOf e) = some 1 := by
 unfold Zi1 at h
 split at h
 ·rename_i n e hu
  split at h
  ·rename_i q hq hs
   simp only [Option.some.injEq] at h; subst h
   exact ⟨e, q, hu, hq, hs⟩
  ·cases h
 ·cases h
theorem ZnL {B : Nat -> (Option Bool × Unit) -> Sem (ForInStep ((Option Bool × Unit)))} {g : Nat -> Bool} : ∀ (l : List Nat) (w : World),
  (∀ i ∈ l, ∀ st w, (B i st).run P w = .ok (if g i = true then ForInStep.yield (none, ()) else ForInStep.done (some false, ())) w) ->
  (forIn l ((none, ()) : (Option Bool × Unit)) B).run P w = .ok (if l.all g = true then (none, ()) else (some false, ())) w
 | [], w, _ => rfl
 | i :: l, w, h => by
  rw [List.forIn_cons, Zv (h i (by simp) _ w)]
  cases hg : g i
  ·simp only [Bool.false_eq_true, if_false, Sem.run_pure, List.all_cons, hg, Bool.false_and]
  ·simp only [if_true, List.all_cons, hg, Bool.true_and]
   exact ZnL l w fun j hj => h j (by simp [hj])
theorem Zh5 {e : TypeId} {q : IntKind} (he : P.underlying e = some (.int q)) (l : List Int) (i : Nat) (hi : i < l.length) (w : World) : (part e (l.map (Value.int .i64)).toArray i).run P w = .ok (.int .i64 (l.getD i 0)) w := by
 have ha : (isAgg e).run P w = .ok false w := by
  unfold isAgg
  rw [Sem.run_bind, run_underlying he]
  rfl
 unfold part
 rw [Sem.run_bind, ha]
 simp [hi, List.getD_eq_getElem?_getD]
theorem Zof : ∀ (l m : List Int), l.length = m.length -> (List.range' 0 l.length).all (fun i => l.getD i 0 == m.getD i 0) = (l == m) := by
 intro l m h
 rw [Bool.eq_iff_iff]
 constructor
 ·intro h1
  have h2 : ∀ i, i < l.length -> l.getD i 0 = m.getD i 0 := fun i hi => by
   have := List.all_eq_true.1 h1 i (by simp [List.mem_range'_1]; exact hi)
   simpa using this
  rw [beq_iff_eq]
  apply List.ext_getElem h
  intro i hi hj
  have := h2 i hi
  simpa [List.getD_eq_getElem?_getD, hi, hj] using this
 ·intro h1
  rw [beq_iff_eq] at h1
  subst h1
  simp
theorem Zbw {d n : Nat} {t e : TypeId} {q : IntKind} (ht : P.underlying t = some (.array n e)) (he : P.underlying e = some (.int q)) (hs : Zu P (sizeOf e) = some 1) (l m : List Int) (hl : l.length = n) (hm : m.length = n) (w : World) :
  (Op.equalIn (d + 2) t (.agg (l.map (Value.int .i64)).toArray) (.agg (m.map (Value.int .i64)).toArray)).run P w = .ok (l == m) w := by
 rw [Op.equalIn]
 rw [Zv (run_underlying ht w)]
 dsimp only
 rw [Z0l hs]
 subst hl
 simp only [Std.Legacy.Range.forIn_eq_forIn_range', Std.Legacy.Range.size, Nat.sub_zero, Nat.add_sub_cancel, Nat.div_one, Nat.mul_one]
 rw [Zv (ZnL (g := fun i => l.getD i 0 == m.getD i 0) (List.range' 0 l.length) w ?_)]
 ·rw [Zof l m hm.symm]
  cases (l == m) <;> rfl
 ·intro i hi st w
  have hi : i < l.length := by simpa [List.mem_range'_1] using hi
  rw [Zv (Zh5 he l i hi w), Zv (Zh5 he m i (by omega) w), Zv (run_equalIn_int w d e .i64 q _ _ he)]
  cases (l.getD i 0 == m.getD i 0) <;> rfl
theorem Zeb {t : TypeId} {k : Nat} (h : szB P t k = true) : Zu P (sizeOf t) = some k := by
 unfold szB at h
 split at h
 ·rename_i k' e
  rw [e, neq h]
 ·cases h
abbrev Z6f (l : List Int) : Array Value := (l.map (Value.int .i64)).toArray
def EqF (P : Program) (dd : Nat) (e : TypeId) (k : Nat) : Prop := ∀ (w : World) (off : Nat) (xs ys : List Int), off + k <= xs.length -> off + k <= ys.length ->
 ∃ a b r, (part e (Z6f xs) off).run P w = .ok a w /\ (part e (Z6f ys) off).run P w = .ok b w /\ (Op.equalIn dd e a b).run P w = .ok r w /\ (r = true ↔ (xs.drop off).take k = (ys.drop off).take k)
theorem ZoQ (xs : List Int) (off k : Nat) : (Z6f xs).extract off (off + k) = Z6f ((xs.drop off).take k) := by
 unfold Z6f
 apply Array.toList_inj.1
 simp [List.map_drop, List.map_take]
theorem Zbu {e : TypeId} {k : Nat} (ha : (∃ n e', P.underlying e = some (.array n e')) \/ ∃ fs, P.underlying e = some (.struct fs)) (hs : Zu P (sizeOf e) = some k) (xs : List Int) (off : Nat) (w : World) : (part e (Z6f xs) off).run P w = .ok (.agg (Z6f ((xs.drop off).take k))) w := by
 have hag : (isAgg e).run P w = .ok true w := by
  unfold isAgg
  rcases ha with ⟨n, e', h⟩ | ⟨fs, h⟩ <;> rw [Sem.run_bind, run_underlying h] <;> rfl
 unfold part
 rw [Zv hag]
 simp only [if_true]
 rw [Z0l hs, <- ZoQ]
 rfl
theorem Zm9 (xs ys : List Int) (o k n : Nat) (hx : o + k <= xs.length) (hy : o + k <= ys.length) : (xs.drop o).take (k + n) = (ys.drop o).take (k + n) ↔ (xs.drop o).take k = (ys.drop o).take k /\ (xs.drop (o + k)).take n = (ys.drop (o + k)).take n := by
 have e : ∀ l : List Int, (l.drop o).take (k + n) = (l.drop o).take k ++ (l.drop (o + k)).take n := fun l => by
  rw [List.take_add, List.drop_drop]
 rw [e, e]
 constructor
 ·intro h
  exact List.append_inj h (by simp; omega)
 ·rintro ⟨h1, h2⟩
  rw [h1, h2]
theorem Zle {dd : Nat} {g : TypeId -> Option Nat} (ih : ∀ t k, g t = some k -> EqF P dd t k) (xs ys : List Int) (w : World) : ∀ (fs : List Field) (o k : Nat), Zlv g fs o = some k -> k <= xs.length -> k <= ys.length -> o <= k /\
  ∃ r, (Op.eqFields dd (Z6f xs) (Z6f ys) fs).run P w = .ok r w /\ (r = true ↔ (xs.drop o).take (k - o) = (ys.drop o).take (k - o))
 | [], o, k, h, hx, hy => by
  simp only [Zlv, Option.some.injEq] at h
  subst h
  refine ⟨Nat.le_refl _, true, by simp [Op.eqFields], by simp⟩
 | f :: fs, o, k, h, hx, hy => by
  simp only [Zlv] at h
  split at h
  ·rename_i hc
   simp only [Bool.and_eq_true, bne_iff_ne, ne_eq] at hc
   have ho := neq hc.1
   split at h
   ·rename_i kf hg
    obtain ⟨hle, r', hr', hiff'⟩ := Zle ih xs ys w fs (o + kf) k h hx hy
    obtain ⟨a, b, r, p1, p2, p3, hiff⟩ := ih f.type kf hg w o xs ys (by omega) (by omega)
    refine ⟨by omega, ?_⟩
    have hspl := Zm9 xs ys o kf (k - (o + kf)) (by omega) (by omega)
    rw [show kf + (k - (o + kf)) = k - o from by omega] at hspl
    rw [<- ho] at p1 p2
    simp only [Op.eqFields, hc.2, ne_eq, not_false_eq_true, if_true, Sem.run_bind, p1, p2, p3, Result.andThen_ok]
    cases r
    ·refine ⟨false, by simp, ?_⟩
     rw [hspl, <- hiff]
     simp
    ·refine ⟨r', by simpa using hr', ?_⟩
     rw [hspl, <- hiff, hiff']
     simp
   ·cases h
  ·cases h
theorem Zne {dd : Nat} {e : TypeId} {k : Nat} (ih : EqF P dd e k) (xs ys : List Int) (w : World) {B : Nat -> (Option Bool × Unit) -> Sem (ForInStep ((Option Bool × Unit)))}
  (hB : ∀ i st, B i st = (do
   let a <- part e (Z6f xs) (i * k)
   let b <- part e (Z6f ys) (i * k)
   let r <- Op.equalIn dd e a b
   if (!r) = true then pure (ForInStep.done (some false, ())) else pure (ForInStep.yield (none, ())))) : ∀ (n i : Nat), (i + n) * k <= xs.length -> (i + n) * k <= ys.length ->
  ∃ r : Bool, (forIn (List.range' i n) ((none, ()) : (Option Bool × Unit)) B).run P w = .ok (if r = true then (none, ()) else (some false, ())) w /\ (r = true ↔ (xs.drop (i * k)).take (n * k) = (ys.drop (i * k)).take (n * k))
 | 0, i, _, _ => ⟨true, rfl, by simp⟩
 | n + 1, i, hx, hy => by
  have e1 : (i + (n + 1)) * k = i * k + (k + n * k) := by rw [Nat.add_mul, Nat.add_mul]; omega
  have e2 : (i + 1) * k = i * k + k := by rw [Nat.add_mul]; omega
  have e3 : (n + 1) * k = k + n * k := by rw [Nat.add_mul]; omega
  obtain ⟨a, b, r, p1, p2, p3, hiff⟩ := ih w (i * k) xs ys (by omega) (by omega)
  obtain ⟨r', hr', hiff'⟩ := Zne ih xs ys w hB n (i + 1) (by rw [Nat.add_mul, e2]; omega) (by rw [Nat.add_mul, e2]; omega)
  have hspl := Zm9 xs ys (i * k) k (n * k) (by omega) (by omega)
  rw [List.range'_succ, List.forIn_cons, hB]
  rw [Zv (x := if r = true then ForInStep.yield (none, ()) else ForInStep.done (some false, ())) (w1 := w) (by
   rw [Zv p1, Zv p2, Zv p3]
   cases r <;> rfl)]
  cases r
  ·refine ⟨false, rfl, ?_⟩
   rw [e3, hspl, <- hiff]
   simp
  ·refine ⟨r', hr', ?_⟩
   rw [e3, hspl, <- hiff, hiff', e2]
   simp
theorem ZoR (j : Nat) : ∀ (m : Nat) (t : TypeId) (k : Nat), ZgQ P m t = some k -> EqF P (j + m) t k /\ Zu P (sizeOf t) = some k
 | 0, t, k, h => by cases h
 | m + 1, t, k, h => by
  simp only [ZgQ] at h
  split at h
  ·rename_i q hu
   split at h
   ·rename_i hs
    simp only [Option.some.injEq] at h; subst h
    refine ⟨fun w off xs ys hx hy => ⟨_, _, _, Zh5 hu xs off (by omega) w, Zh5 hu ys off (by omega) w, run_equalIn_int w _ t .i64 q _ _ hu, ?_⟩, Zeb hs⟩
    have e : ∀ l : List Int, off + 1 <= l.length -> (l.drop off).take 1 = [l.getD off 0] := fun l hl => by
     rw [List.take_one, List.head?_drop, List.getD_eq_getElem?_getD, List.getElem?_eq_getElem (by omega)]
     rfl
    rw [e xs hx, e ys hy]
    simp
   ·cases h
  ·rename_i n e hu
   split at h
   ·rename_i kk hk
    split at h
    ·rename_i hs
     simp only [Bool.and_eq_true] at hs
     simp only [Option.some.injEq] at h; subst h
     have ih := (ZoR j m e kk hk).1
     refine ⟨fun w off xs ys hx hy => ?_, Zeb hs.1⟩
     have l1 : ((xs.drop off).take (n * kk)).length = n * kk := by simp; omega
     have l2 : ((ys.drop off).take (n * kk)).length = n * kk := by simp; omega
     generalize hX : (xs.drop off).take (n * kk) = X at l1
     generalize hY : (ys.drop off).take (n * kk) = Y at l2
     have q1 := Zbu (.inl ⟨n, e, hu⟩) (Zeb hs.1) xs off w
     have q2 := Zbu (.inl ⟨n, e, hu⟩) (Zeb hs.1) ys off w
     rw [hX] at q1
     rw [hY] at q2
     obtain ⟨r, hr, hiff⟩ := Zne ih X Y w (B := fun i st => do
      let a <- part e (Z6f X) (i * kk)
      let b <- part e (Z6f Y) (i * kk)
      let r <- Op.equalIn (j + m) e a b
      if (!r) = true then pure (ForInStep.done (some false, ())) else pure (ForInStep.yield (none, ()))) (fun _ _ => rfl) n 0 (by rw [Nat.zero_add]; omega) (by rw [Nat.zero_add]; omega)
     refine ⟨_, _, r, q1, q2, ?_, ?_⟩
     ·rw [show j + (m + 1) = (j + m) + 1 from rfl, Op.equalIn]
      rw [Zv (run_underlying hu w)]
      dsimp only
      rw [Z0l (Zeb hs.2)]
      simp only [Std.Legacy.Range.forIn_eq_forIn_range', Std.Legacy.Range.size, Nat.sub_zero, Nat.add_sub_cancel, Nat.div_one]
      rw [Zv hr]
      cases r <;> rfl
     ·rw [hiff]
      simp only [Nat.zero_mul, List.drop_zero]
      rw [List.take_of_length_le (by omega), List.take_of_length_le (by omega)]
    ·cases h
   ·cases h
  ·rename_i fs hu
   split at h
   ·rename_i hst
    split at h
    ·rename_i kk hk
     split at h
     ·rename_i hs
      simp only [Option.some.injEq] at h; subst h
      refine ⟨fun w off xs ys hx hy => ?_, Zeb hs⟩
      have l1 : ((xs.drop off).take kk).length = kk := by simp; omega
      have l2 : ((ys.drop off).take kk).length = kk := by simp; omega
      generalize hX : (xs.drop off).take kk = X at l1
      generalize hY : (ys.drop off).take kk = Y at l2
      have q1 := Zbu (.inr ⟨fs, hu⟩) (Zeb hs) xs off w
      have q2 := Zbu (.inr ⟨fs, hu⟩) (Zeb hs) ys off w
      rw [hX] at q1
      rw [hY] at q2
      obtain ⟨_, r, hr, hiff⟩ := Zle (dd := j + m) (fun t k h => (ZoR j m t k h).1) X Y w fs.toList 0 kk hk (by omega) (by omega)
      have hfs : P.fieldsOf t = fs := by simp [Program.fieldsOf, hu]
      refine ⟨_, _, r, q1, q2, ?_, ?_⟩
      ·rw [show j + (m + 1) = (j + m) + 1 from rfl, run_equalIn_struct w (j + m) t _ _ (by rw [hfs]; exact hu) hst, hfs]
       exact hr
      ·rw [hiff]
       simp only [Nat.sub_zero, List.drop_zero]
       rw [List.take_of_length_le (by omega), List.take_of_length_le (by omega)]
     ·cases h
    ·cases h
   ·cases h
  ·cases h
theorem Zbv {t : TypeId} {k : Nat} (h : ZgQ P 4 t = some k) (hag : (∃ n e', P.underlying t = some (.array n e')) \/ ∃ fs, P.underlying t = some (.struct fs)) (l m : List Int) (hl : l.length = k) (hm : m.length = k) (w : World) : (Op.equalIn 10000 t (.agg (Z6f l)) (.agg (Z6f m))).run P w = .ok (l == m) w := by
 obtain ⟨hE, hs⟩ := ZoR 9996 4 t k h
 obtain ⟨a, b, r, p1, p2, p3, hiff⟩ := hE w 0 l m (by omega) (by omega)
 have q1 := Zbu hag hs l 0 w
 have q2 := Zbu hag hs m 0 w
 rw [p1] at q1
 rw [p2] at q2
 simp only [List.drop_zero] at q1 q2 hiff
 rw [List.take_of_length_le (by omega)] at q1
 rw [List.take_of_length_le (by omega)] at q2
 rw [List.take_of_length_le (by omega), List.take_of_length_le (by omega)] at hiff
 simp only [Result.ok.injEq, and_true] at q1 q2
 rw [q1, q2] at p3
 have : r = (l == m) := by
  rw [Bool.eq_iff_iff, hiff, beq_iff_eq]
 rw [<- this]
 exact p3
theorem Zqn {t : TypeId} {k : Nat} (h : ZgQ P 4 t = some k) (hag : Zu P (isAgg t) = some true) : (∃ n e', P.underlying t = some (.array n e')) \/ ∃ fs, P.underlying t = some (.struct fs) := by
 simp only [ZgQ] at h
 split at h
 ·rename_i q hu
  have h1 := Z47 hag (default : World)
  have h2 : (isAgg t).run P (default : World) = .ok false (default : World) := by
   unfold isAgg
   rw [Sem.run_bind, run_underlying hu]
   rfl
  rw [h2] at h1
  cases h1
 ·rename_i n e hu; exact .inl ⟨n, e, hu⟩
 ·rename_i fs hu; exact .inr ⟨fs, hu⟩
 ·cases h
theorem ZrN (h : R P W M n s a w ρ) (hd : Z0b n o.dst = true) {t u : TypeId} {x : Operand} {id : Nat} (ho : o.op = .convert t u x) (hx : s.ev x = .row id) (hr : Zrc P s t u id = some r) (Z0t : r.chk = true) : Goal P W M n o s r a w Q := by
 unfold Zrc at hr
 split at hr
 ·rename_i e ht hu
  split at hr
  ·rename_i e' sz m l he hb
   simp only [Option.some.injEq] at hr; subst hr
   have hl : l.length = m := neq Z0t
   have hv : a.eval x = ρ id := by
    have := h.ev x
    rw [hx] at this
    exact this.2
   have k := Z8X h hb
   refine Z08 h hd (v := .string (ZwZ l)) ?_ (.inr rfl)
   simp only [execOp, ho, hv]
   rcases k.2 with ⟨h0, hm, hn⟩ | ⟨g, o', cap, h1, h2, h3, h4⟩
   ·have : l = [] := by simpa [Cells.toVals] using hn
    subst this
    rw [h0]
    exact (Zv ((run_convert_bytes_string w t u e none 0 0 ht he hu).trans rfl)).trans rfl
   ·rw [h1]
    have hload := run_loadCells_list (P := P) w ⟨g, o', none⟩ (l.map (Value.int .u8)) (fun j v hv => by
     rw [show (⟨g, o', none⟩ : Addr).add j = ⟨g, o' + j, none⟩ by unfold Addr.add; split <;> simp_all]
     exact h4 j v hv)
    rw [List.length_map, hl] at hload
    exact (Zv ((run_convert_bytes_string w t u e (some ⟨g, o', none⟩) m cap ht he hu).trans (run_bytesToString w _ m cap l hload))).trans rfl
  ·cases hr
 ·cases hr
theorem ZuU (h : R P W M n s a w ρ) (hd : Z0b n o.dst = true) {op : BinOp} {t u : TypeId} {x y : Operand} (ho : o.op = .binOp op t x y u)
  (hg : ∀ k, Zi1 P t = some k -> P.eqGuardType P.depth t = false) (hr : ZdQ P s o op t x y = some r) (Z0t : r.chk = true) : Goal P W M n o s r a w Q := by
 have hrun : ∀ {v : Value}, (eqGuard op t x y (a.eval x) (a.eval y)).run P w = .ok () w -> (binOp op t (a.eval x) (a.eval y)).run P w = .ok v w -> (execOp a.eval o).run P w = .ok (.value v) w := by
  intro v h1 h2
  simp only [execOp, ho]
  rw [Zv ((Zv h1).trans h2)]
  rfl
 unfold ZdQ at hr
 split at hr
 ·rename_i p q hx hy
  simp only [Option.some.injEq] at hr; subst hr
  have e1 := Z1L h hx; have e2 := Z1L h hy
  have hq : p.size + q.size <= 9223372036854775807 := nle Z0t
  refine Z08 h hd (v := .string (p ++ q)) (hrun ?_ ?_) (.inr rfl)
  ·rw [e1, e2]; rfl
  ·rw [e1, e2]
   show (Op.stringOp .add p q).run P w = _
   unfold Op.stringOp
   dsimp only
   rw [if_neg (by
     have : IntKind.i64.max = 9223372036854775807 := by decide
     rw [this]; omega)]
   rfl
 ·rename_i k p k' q hx hy
  split at hr
  ·rename_i hk
   subst hk
   simp only [Option.some.injEq] at hr; subst hr
   have e1 := Z1L h hx; have e2 := Z1L h hy
   have hq : q ≠ 0 := by simpa [Out.pure] using Z0t
   refine Z08 h hd (v := .int k (k.wrap (p.tdiv q))) (hrun ?_ ?_) (.inr rfl)
   ·rw [e1, e2]; rfl
   ·rw [e1, e2]; simp [binOp, Op.intDiv, hq]
  ·cases hr
 ·rename_i k p k' q hx hy
  split at hr
  ·rename_i hk
   subst hk
   simp only [Option.some.injEq] at hr; subst hr
   have e1 := Z1L h hx; have e2 := Z1L h hy
   have hq : q ≠ 0 := by simpa [Out.pure] using Z0t
   refine Z08 h hd (v := .int k (p.tmod q)) (hrun ?_ ?_) (.inr rfl)
   ·rw [e1, e2]; rfl
   ·rw [e1, e2]; simp [binOp, Op.intDiv, hq]
  ·cases hr
 ·rename_i p q hx hy
  split at hr
  ·rename_i k b hk hb
   split at hr
   ·rename_i hsz
    simp only [Option.some.injEq] at hr; subst hr
    simp only [Bool.and_eq_true] at hsz
    have e1 := Z1L h hx; have e2 := Z1L h hy
    obtain ⟨e, q', ht, he, hs⟩ := ZdJ hk
    obtain ⟨l, m, h1, h2, rfl⟩ := Zas hb
    have p1 : p = (l.map (Value.int .i64)).toArray := by rw [<- h1]
    have p2 : q = (m.map (Value.int .i64)).toArray := by rw [<- h2]
    have l1 : l.length = k := by have := neq hsz.1; rw [p1] at this; simpa using this
    have l2 : m.length = k := by have := neq hsz.2; rw [p2] at this; simpa using this
    refine Z08 h hd (v := .bool (l == m)) (hrun ?_ ?_) (.inr rfl)
    ·rw [e1, e2]; exact run_eqGuard_agg w .eql t x y p q (hg k hk)
    ·rw [e1, e2, p1, p2, run_eql_struct, Zbw (d := 9998) ht he hs l m l1 l2 w]
     rfl
   ·cases hr
  ·rename_i b hn hb
   split at hr
   ·rename_i k hk hag
    split at hr
    ·rename_i hsz
     simp only [Option.some.injEq] at hr; subst hr
     simp only [Bool.and_eq_true, Bool.not_eq_true'] at hsz
     have e1 := Z1L h hx; have e2 := Z1L h hy
     obtain ⟨l, m, h1, h2, rfl⟩ := Zas hb
     have p1 : p = Z6f l := by unfold Z6f; rw [<- h1]
     have p2 : q = Z6f m := by unfold Z6f; rw [<- h2]
     have l1 : l.length = k := by have := neq hsz.1.1; rw [p1] at this; simpa using this
     have l2 : m.length = k := by have := neq hsz.1.2; rw [p2] at this; simpa using this
     refine Z08 h hd (v := .bool (l == m)) (hrun ?_ ?_) (.inr rfl)
     ·rw [e1, e2]; exact run_eqGuard_agg w .eql t x y p q hsz.2
     ·rw [e1, e2, p1, p2, run_eql_struct, Zbv hk (Zqn hk hag) l m l1 l2 w]
      rfl
    ·cases hr
   ·cases hr
  ·cases hr
 ·rename_i p q hx hy
  split at hr
  ·rename_i k b hk hb
   split at hr
   ·rename_i hsz
    simp only [Option.some.injEq] at hr; subst hr
    simp only [Bool.and_eq_true] at hsz
    have e1 := Z1L h hx; have e2 := Z1L h hy
    obtain ⟨e, q', ht, he, hs⟩ := ZdJ hk
    obtain ⟨l, m, h1, h2, rfl⟩ := Zas hb
    have p1 : p = (l.map (Value.int .i64)).toArray := by rw [<- h1]
    have p2 : q = (m.map (Value.int .i64)).toArray := by rw [<- h2]
    have l1 : l.length = k := by have := neq hsz.1; rw [p1] at this; simpa using this
    have l2 : m.length = k := by have := neq hsz.2; rw [p2] at this; simpa using this
    refine Z08 h hd (v := .bool (!(l == m))) (hrun ?_ ?_) (.inr rfl)
    ·rw [e1, e2]; exact run_eqGuard_agg w .neq t x y p q (hg k hk)
    ·rw [e1, e2, p1, p2, run_neq_struct, Zbw (d := 9998) ht he hs l m l1 l2 w]
     rfl
   ·cases hr
  ·rename_i b hn hb
   split at hr
   ·rename_i k hk hag
    split at hr
    ·rename_i hsz
     simp only [Option.some.injEq] at hr; subst hr
     simp only [Bool.and_eq_true, Bool.not_eq_true'] at hsz
     have e1 := Z1L h hx; have e2 := Z1L h hy
     obtain ⟨l, m, h1, h2, rfl⟩ := Zas hb
     have p1 : p = Z6f l := by unfold Z6f; rw [<- h1]
     have p2 : q = Z6f m := by unfold Z6f; rw [<- h2]
     have l1 : l.length = k := by have := neq hsz.1.1; rw [p1] at this; simpa using this
     have l2 : m.length = k := by have := neq hsz.1.2; rw [p2] at this; simpa using this
     refine Z08 h hd (v := .bool (!(l == m))) (hrun ?_ ?_) (.inr rfl)
     ·rw [e1, e2]; exact run_eqGuard_agg w .neq t x y p q hsz.2
     ·rw [e1, e2, p1, p2, run_neq_struct, Zbv hk (Zqn hk hag) l m l1 l2 w]
      rfl
    ·cases hr
   ·cases hr
  ·cases hr
 ·exact Z9Z h hd (.inl ⟨_, _, _, _, _, ho⟩) hr
theorem Zoq {t : TypeId} {k : Nat} (h : Zi1 P t = some k) (hd : 2 <= P.depth) : P.eqGuardType P.depth t = false := by
 obtain ⟨e, q, ht, he, _⟩ := ZdJ h
 obtain ⟨d, hd⟩ : ∃ d, P.depth = d + 2 := ⟨P.depth - 2, by omega⟩
 rw [hd]
 unfold Program.eqGuardType
 rw [ht]
 dsimp only
 unfold Program.eqGuardType
 rw [he]
end

section
variable {P : Program} {S : Sums} {W : World} {M : MV} {n : Nat} {s : FSt} {a : Act} {w w' : World} {ρ ρ' : Nat -> Value} {H : Nat -> Option Blk} {o : Oper} {r : Out} {Q : Exit -> Act -> World -> Prop} {K : Act -> World -> Prop}
theorem Z8D (g i j : Nat) : (⟨g, i, none⟩ : Addr).add j = ⟨g, i + j, none⟩ := by unfold Addr.add; split <;> simp_all
theorem ZmC (h : R P W M n s a w ρ) (hd : Z0b n o.dst = true) {f : Nat} {first captured : Array Operand} (ho : o.op = .makeFunc (.func f) first captured)
  (hr : (if Nat.beq first.size 0 = true then
  match Z1N (fun x => match s.ev x with | .ptr id 0 => some id | _ => none) captured.toList with
  | some l => some (Out.pure true (.clo f l))
  | none => none
  else none) = some r) : Goal P W M n o s r a w Q := by
 split at hr
 ·rename_i h0
  split at hr
  ·rename_i l hl
   simp only [Option.some.injEq] at hr; subst hr
   have hf : first = #[] := Array.eq_empty_of_size_eq_zero (neq h0)
   refine Z08 h hd (v := .func (.func f) #[] (captured.toList.map a.eval).toArray) ?_ (.inr ⟨captured.toList.map a.eval, rfl, ?_⟩)
   ·simp only [execOp, ho, Instr.makeFunc, hf]
    have e : captured.map a.eval = (captured.toList.map a.eval).toArray := by apply Array.toList_inj.1; simp
    rw [e]
    simp
   ·have := Z8H hl
    clear hl ho
    generalize captured.toList = cs at this
    induction cs generalizing l with
    | nil => cases l <;> first | exact True.intro | cases this
    | cons c cs ih =>
     cases l with
     | nil => cases this
     | cons i l =>
      obtain ⟨p, q⟩ := this
      refine ⟨?_, ih _ q⟩
      have hc := h.ev c
      split at p
      ·rename_i id hx
       simp only [Option.some.injEq] at p; subst p
       rw [hx] at hc
       obtain ⟨hl, g, o', ha, he⟩ := hc
       exact ⟨hl, g, o', ha, he⟩
      ·cases p
  ·cases hr
 ·cases hr
theorem Zlw (h : R P W M n s a w ρ) (hd : Z0b n o.dst = true) {t : TypeId} {x : Operand} {f : Nat} (ho : o.op = .fieldAddr t x f)
  (hr : (match s.ev x, P.underlying t with
  | .ptr id off, some (.struct fs) => match fs[f]? with
   | some fd => match Zu P (sizeOf fd.type) with
    | some sz => if Nat.ble 1 sz = true then some (Out.pure true (.ptr id (off + fd.offset))) else none
    | none => none
   | none => none
  | _, _ => none) = some r) : Goal P W M n o s r a w Q := by
 split at hr
 ·rename_i id off fs hx hu
  split at hr
  ·rename_i fd hf
   split at hr
   ·rename_i sz hsz
    split at hr
    ·rename_i hle
     simp only [Option.some.injEq] at hr; subst hr
     have hv := h.ev x
     rw [hx] at hv
     obtain ⟨hl, g, o', ha, he⟩ := hv
     refine Z08 h hd (v := .pointer (some ⟨g, o' + (off + fd.offset), none⟩)) ?_ (.inr ⟨hl, g, o', ha, rfl⟩)
     have hle := nle hle
     simp only [execOp, ho, he, Instr.fieldAt]
     rw [Zv (x := .pointer (some ⟨g, o' + (off + fd.offset), none⟩)) (w1 := w)]
     ·rfl
     ·rw [Zv (run_underlying hu w)]
      simp only [hf]
      rw [Z0l (x := (⟨g, o' + off, none⟩ : Addr)) rfl]
      unfold fieldPlace
      have : (do if (<- sizeOf fd.type) = 0 then partAt ⟨g, o' + off, none⟩ fd.offset fd.byteOffset else Pure.pure ((⟨g, o' + off, none⟩ : Addr).add fd.offset) : Sem Addr).run P w = .ok ⟨g, o' + (off + fd.offset), none⟩ w := by
       rw [Z0l hsz, if_neg (by omega), Z8D, Nat.add_assoc]
       rfl
      rw [Zv this]
      rfl
    ·cases hr
   ·cases hr
  ·cases hr
 ·cases hr
theorem Z0R {m : Sem Value} {v : Value} {w1 : World} (h : m.run P w = .ok v w1) : ((do Pure.pure (Next.value (<- m)) : Sem Next)).run P w = .ok (.value v) w1 := by
 rw [Zv h]; rfl
theorem Zxa {t e : TypeId} {k : IntKind} {i : Int} {len sz g o' : Nat} (ht : P.underlying t = some (.array len e)) (hs : Zu P (sizeOf e) = some sz) (h0 : 0 <= i) (h1 : i < (len : Int)) (w : World) :
  (Instr.indexAt t (.pointer (some ⟨g, o', none⟩)) (.int k i)).run P w = .ok (.pointer (some ⟨g, o' + i.toNat * sz, none⟩)) w := by
 unfold Instr.indexAt
 rw [Z0l (x := (k, i)) rfl]
 dsimp only
 rw [Zv (run_underlying ht w)]
 dsimp only
 rw [Z0l (x := (⟨g, o', none⟩ : Addr)) rfl]
 rw [Z0l (x := (some (⟨g, o', none⟩ : Addr), len, e)) rfl]
 dsimp only
 rw [Zv (run_underlying ht w)]
 dsimp only
 rw [if_pos ⟨h0, h1⟩, Z0l hs, Z8D]
 rfl
theorem ZwP {t e : TypeId} {k : IntKind} {i : Int} {len cap sz g o' : Nat} (ht : P.underlying t = some (.slice e)) (hs : Zu P (sizeOf e) = some sz) (h0 : 0 <= i) (h1 : i < (len : Int)) (w : World) :
  (Instr.indexAt t (.slice (some ⟨g, o', none⟩) len cap) (.int k i)).run P w = .ok (.pointer (some ⟨g, o' + i.toNat * sz, none⟩)) w := by
 unfold Instr.indexAt
 rw [Z0l (x := (k, i)) rfl]
 dsimp only
 rw [Zv (run_underlying ht w)]
 dsimp only
 rw [Z0l (x := (some (⟨g, o', none⟩ : Addr), len, e)) rfl]
 dsimp only
 rw [Zv (run_underlying ht w)]
 dsimp only
 rw [if_pos ⟨h0, h1⟩, Z0l hs, Z8D]
 rfl
theorem Zr2 {id m : Nat} {c : Cells} (hr : Z16 w none (ρ id) m c) (hm : 0 < m) : ∃ g o' cap, ρ id = .slice (some ⟨g, o', none⟩) m cap := by
 rcases hr.2 with ⟨_, h0, _⟩ | ⟨g, o', cap, h1, _⟩
 ·omega
 ·exact ⟨g, o', cap, h1⟩
theorem Zlx (h : R P W M n s a w ρ) (hd : Z0b n o.dst = true) {t : TypeId} {x i : Operand} (ho : o.op = .indexAddr t x i)
  (hr : (match s.ev x, s.ev i, P.underlying t with
  | .ptr id off, .val (.int _ n), some (.array len e) => match Zu P (sizeOf e) with
   | some sz => some (Out.pure (decide (0 <= n) && decide (n < (len : Int))) (.ptr id (off + n.toNat * sz)))
   | none => none
  | .row id, .val (.int _ n), some (.slice e) => match s.heap id, Zu P (sizeOf e) with
   | some (.row _ _ len _), some sz => some (.pure (decide (0 <= n) && decide (n < (len : Int))) (.ptr id (n.toNat * sz)))
   | some (.ros len _), some sz => some (.pure (decide (0 <= n) && decide (n < (len : Int))) (.ptr id (n.toNat * sz)))
   | some (.fro _ len _), some sz => some (.pure (decide (0 <= n) && decide (n < (len : Int))) (.ptr id (n.toNat * sz)))
   | some (.dee _ _ _ ls), some sz => some (.pure (decide (0 <= n) && decide (n < (ls.length : Int))) (.ptr id (n.toNat * sz)))
   | _, _ => none
  | .sub id off len _, .val (.int _ n), some (.slice e) => match Zu P (sizeOf e) with
   | some sz => some (.pure (decide (0 <= n) && decide (n < (len : Int))) (.ptr id (off + n.toNat * sz)))
   | none => none
  | _, _, _ => none) = some r) (Z0t : r.chk = true) : Goal P W M n o s r a w Q := by
 have hv := h.ev x
 split at hr
 ·rename_i id off k i' len e hx hi hu
  rw [hx] at hv
  obtain ⟨hl, g, o', ha, he⟩ := hv
  split at hr
  ·rename_i sz hs
   simp only [Option.some.injEq] at hr; subst hr
   simp only [Out.pure, Bool.and_eq_true, decide_eq_true_eq] at Z0t
   refine Z08 h hd (v := .pointer (some ⟨g, o' + (off + i'.toNat * sz), none⟩)) ?_ (.inr ⟨hl, g, o', ha, rfl⟩)
   simp only [execOp, ho, he, Z1L h hi]
   rw [Z0R (Zxa hu hs Z0t.1 Z0t.2 w), Nat.add_assoc]
  ·cases hr
 ·rename_i id k i' e hx hi hu
  rw [hx] at hv
  obtain ⟨hl, he⟩ := hv
  have fin : ∀ (m sz : Nat) (c : Cells), Z16 w none (ρ id) m c -> Zu P (sizeOf e) = some sz -> (decide (0 <= i') && decide (i' < (m : Int))) = true ->
    Goal P W M n o s (.pure (decide (0 <= i') && decide (i' < (m : Int))) (.ptr id (i'.toNat * sz))) a w Q := by
   intro m sz c hrr hs Z0t
   simp only [Bool.and_eq_true, decide_eq_true_eq] at Z0t
   obtain ⟨g, o', cap, hf⟩ := Zr2 hrr (by omega)
   refine Z08 h hd (v := .pointer (some ⟨g, o' + i'.toNat * sz, none⟩)) ?_ (.inr ⟨hl, g, o', by rw [hf]; rfl, rfl⟩)
   simp only [execOp, ho, he, hf, Z1L h hi]
   exact Z0R (ZwP hu hs Z0t.1 Z0t.2 w)
  split at hr
  ·rename_i e' z m c sz hb hs
   simp only [Option.some.injEq] at hr; subst hr
   exact fin m sz c (Z8X h hb) hs Z0t
  ·rename_i m c sz hb hs
   simp only [Option.some.injEq] at hr; subst hr
   exact fin m sz c (ZaY h hb) hs Z0t
  ·rename_i fr m c sz hb hs
   simp only [Option.some.injEq] at hr; subst hr
   exact fin m sz c (h.heap _ _ hb).1 hs Z0t
  ·rename_i own fr e' ls sz hb hs
   simp only [Option.some.injEq] at hr; subst hr
   obtain ⟨vs, _, hrr⟩ := Zom h hb
   exact fin ls.length sz _ hrr hs Z0t
  ·cases hr
 ·rename_i id off len z k i' e hx hi hu
  rw [hx] at hv
  obtain ⟨hl, q, cap, he, hq⟩ := hv
  split at hr
  ·rename_i sz hs
   simp only [Option.some.injEq] at hr; subst hr
   simp only [Out.pure, Bool.and_eq_true, decide_eq_true_eq] at Z0t
   rcases hq with ⟨_, hk0, _⟩ | ⟨g, o', o2, ha, rfl, hc, ho2⟩
   ·omega
   obtain rfl := ho2 (by omega)
   refine Z08 h hd (v := .pointer (some ⟨g, o' + (off + i'.toNat * sz), none⟩)) ?_ (.inr ⟨hl, g, o', ha, rfl⟩)
   simp only [execOp, ho, he, Z1L h hi]
   rw [Z0R (ZwP hu hs Z0t.1 Z0t.2 w), Nat.add_assoc]
  ·cases hr
 ·cases hr
theorem ZmD (h : R P W M n s a w ρ) (hd : Z0b n o.dst = true) {x : Operand} (ho : o.op = .nilCheck x)
  (hr : (match s.ev x with
  | .ptr id off => some (Out.pure true (.ptr id off))
  | _ => none) = some r) : Goal P W M n o s r a w Q := by
 have hv := h.ev x
 split at hr
 ·rename_i id off hx
  rw [hx] at hv
  simp only [Option.some.injEq] at hr; subst hr
  obtain ⟨hl, g, o', ha, he⟩ := hv
  refine Z08 h hd (v := .pointer (some ⟨g, o' + off, none⟩)) ?_ (.inr ⟨hl, g, o', ha, rfl⟩)
  simp only [execOp, ho, he]
  rfl
 ·cases hr
theorem ZmE (h : R P W M n s a w ρ) (hd : Z0b n o.dst = true) {t : TypeId} {x : Operand} (ho : o.op = .sliceToArrayPointer t x)
  (hr : (match s.ev x, P.underlying t with
  | .row id, some (.array len _) => match s.heap id with
   | some (.row _ _ m _) => some (Out.pure (Nat.ble len m && Nat.ble 1 m) (.ptr id 0))
   | some (.ros m _) => some (.pure (Nat.ble len m && Nat.ble 1 m) (.ptr id 0))
   | _ => none
  | _, _ => none) = some r) (Z0t : r.chk = true) : Goal P W M n o s r a w Q := by
 have hv := h.ev x
 split at hr
 ·rename_i id len e hx hu
  rw [hx] at hv
  obtain ⟨hl, he⟩ := hv
  have fin : ∀ (m : Nat) (c : Cells) (b : Blk), s.heap id = some b -> (b = .ros m c \/ ∃ e sz, b = .row e sz m c) -> (Nat.ble len m && Nat.ble 1 m) = true ->
    Goal P W M n o s (.pure (Nat.ble len m && Nat.ble 1 m) (.ptr id 0)) a w Q := by
   intro m c b hb hk Z0t
   simp only [Bool.and_eq_true] at Z0t
   have h1 := Nat.le_of_ble_eq_true Z0t.1
   have h2 := Nat.le_of_ble_eq_true Z0t.2
   obtain ⟨g, o', cap, hf⟩ := Zr2 (c := c) (show Z16 w none (ρ id) m c by rcases hk with rfl | ⟨e, sz, rfl⟩; exact ZaY h hb; exact Z8X h hb) (by omega)
   refine Z08 h hd (v := .pointer (some ⟨g, o', none⟩)) ?_ (.inr ⟨hl, g, o', by rw [hf]; rfl, rfl⟩)
   simp only [execOp, ho, he, hf]
   refine Z0R ?_
   unfold Instr.arrayAt
   rw [Zv (run_underlying hu w)]
   dsimp only
   rw [if_neg (by omega)]
   rfl
  split at hr
  ·rename_i e' z m c hb
   simp only [Option.some.injEq] at hr; subst hr
   exact fin m c _ hb (.inr ⟨_, _, rfl⟩) Z0t
  ·rename_i m c hb
   simp only [Option.some.injEq] at hr; subst hr
   exact fin m c _ hb (.inl rfl) Z0t
  ·cases hr
 ·cases hr
theorem ZrJ (h : R P W M n s a w ρ) (hd : Z0b n o.dst = true) {t : TypeId} {x i : Operand} (ho : o.op = .index t x i)
  (hr : (match s.ev x, s.ev i, P.underlying t with
  | .val (.agg cs), .val (.int _ n), some (.array len e) => match Zu P (sizeOf e) with
   | some sz => match Zu P (part e cs (n.toNat * sz)) with
    | some v => some (Out.pure (decide (0 <= n) && decide (n < (len : Int))) (.val v))
    | none => none
   | none => none
  | .val (.string b), .val (.int _ n), some .string => some (.pure (decide (0 <= n) && decide (n < (b.size : Int))) (.val (.int .u8 (b.data.getD n.toNat 0).toNat)))
  | _, _, _ => none) = some r) (Z0t : r.chk = true) : Goal P W M n o s r a w Q := by
 split at hr
 ·rename_i cs k i' len e hx hi hu
  split at hr
  ·rename_i sz hs
   split at hr
   ·rename_i v hp
    simp only [Option.some.injEq] at hr; subst hr
    simp only [Out.pure, Bool.and_eq_true, decide_eq_true_eq] at Z0t
    refine Z08 h hd (v := v) ?_ (.inr rfl)
    simp only [execOp, ho, Z1L h hx, Z1L h hi]
    refine Z0R ?_
    unfold Instr.index
    rw [Z0l (x := (k, i')) rfl]
    dsimp only
    rw [Zv (run_underlying hu w)]
    dsimp only
    rw [if_pos Z0t, Z0l hs]
    exact Z47 hp w
   ·cases hr
  ·cases hr
 ·rename_i b k i' hx hi hu
  simp only [Option.some.injEq] at hr; subst hr
  simp only [Out.pure, Bool.and_eq_true, decide_eq_true_eq] at Z0t
  refine Z08 h hd (v := .int .u8 (b.data.getD i'.toNat 0).toNat) ?_ (.inr rfl)
  simp only [execOp, ho, Z1L h hx, Z1L h hi]
  refine Z0R ?_
  unfold Instr.index
  rw [Z0l (x := (k, i')) rfl]
  dsimp only
  rw [Zv (run_underlying hu w)]
  dsimp only
  rw [if_pos Z0t.1]
  have hlt : i'.toNat < b.size := by omega
  have : b[i'.toNat]? = some (b.data.getD i'.toNat 0) := by
   have h2 : i'.toNat < b.data.size := hlt
   rw [getElem?_pos b i'.toNat hlt]
   simp only [Array.getD_eq_getD_getElem?, Array.getElem?_eq_getElem h2, Option.getD_some]
   rfl
  rw [this]
  rfl
 ·cases hr
theorem Zuu (h : R P W M n s a w ρ) {d k : Int} {x : Option Operand} (hb : Z51 s d x = some k) : (x = none /\ k = d) \/ ∃ y, x = some y /\ a.eval y = .int .i64 k := by
 cases x with
 | none => simp only [Z51, Option.some.injEq] at hb; exact .inl ⟨rfl, hb.symm⟩
 | some y =>
  simp only [Z51] at hb
  split at hb
  ·rename_i k' hy
   simp only [Option.some.injEq] at hb; subst hb
   exact .inr ⟨y, rfl, Z1L h hy⟩
  ·cases hb
theorem Zl1 (h : R P W M n s a w ρ) {isS : Bool} {len cap : Nat} {lo hi : Option Operand} {l k : Int} (hl : Z51 s 0 lo = some l) (hk : Z51 s (len : Int) hi = some k) (h0 : 0 <= l) (h1 : l <= k) (h2 : k <= (len : Int)) (h3 : len <= cap) :
  (Instr.sliceBounds isS len cap (lo.map a.eval) (hi.map a.eval) none).run P w = .ok (l.toNat, k.toNat, cap) w := by
 have one : ∀ (i : Int) (y : Nat) (Zx5 : BoundsCode), 0 <= i -> i <= y -> (Instr.sliceBound (.int .i64 i) y Zx5).run P w = .ok i.toNat w := by
  intro i y Zx5 hi0 hi1
  unfold Instr.sliceBound
  rw [Z0l (x := (IntKind.i64, i)) rfl]
  dsimp only
  rw [if_pos ⟨hi0, hi1⟩]
  rfl
 unfold Instr.sliceBounds
 dsimp only
 rw [Z0l (x := cap) rfl]
 rcases Zuu h hk with ⟨rfl, rfl⟩ | ⟨y, rfl, hy⟩ <;> rcases Zuu h hl with ⟨rfl, rfl⟩ | ⟨z, rfl, hz⟩
 ·show (pure (0, len, cap) : Sem (Nat × Nat × Nat)).run P w = _
  rw [Int.toNat_natCast]
  rfl
 ·simp only [Option.map_none, Option.map_some, hz]
  rw [Z0l (x := len) rfl, Zv (one l len _ h0 h1), Int.toNat_natCast]
  rfl
 ·simp only [Option.map_none, Option.map_some, hy]
  rw [Zv (one k cap _ (by omega) (by omega)), Z0l (x := 0) rfl]
  rfl
 ·simp only [Option.map_some, hy, hz]
  rw [Zv (one k cap _ (by omega) (by omega)), Zv (one l k.toNat _ h0 (by omega))]
  rfl
theorem ZmF (h : R P W M n s a w ρ) (hd : Z0b n o.dst = true) {t e : TypeId} {x : Operand} {lo hi : Option Operand} {id : Nat} (ho : o.op = .slice t x lo hi none) (hx : s.ev x = .row id) (hu : P.underlying t = some (.slice e)) (hr : Z6N P s id lo hi e = some r) (Z0t : r.chk = true) : Goal P W M n o s r a w Q := by
 have hv := h.ev x
 rw [hx] at hv
 obtain ⟨hl, he⟩ := hv
 have fin : ∀ (m sz : Nat) (c : Cells) (l k : Int), Z16 w none (ρ id) m c -> Zu P (sizeOf e) = some sz -> Z51 s 0 lo = some l -> Z51 s (m : Int) hi = some k -> (decide (0 <= l) && decide (l <= k) && decide (k <= (m : Int))) = true ->
   Goal P W M n o s (.pure (decide (0 <= l) && decide (l <= k) && decide (k <= (m : Int))) (.sub id (l.toNat * sz) (k.toNat - l.toNat) sz)) a w Q := by
  intro m sz c l k hrr hs hbl hbk hck
  simp only [Bool.and_eq_true, decide_eq_true_eq] at hck
  obtain ⟨⟨c1, c2⟩, c3⟩ := hck
  have run : ∀ (q : Option Addr) (cap : Nat), m <= cap -> (Instr.sliceAt t (.slice q m cap) (lo.map a.eval) (hi.map a.eval) none).run P w = .ok (.slice (if cap = l.toNat then q else q.map (·.add (l.toNat * sz))) (k.toNat - l.toNat) (cap - l.toNat)) w := by
   intro q cap hcap
   unfold Instr.sliceAt
   rw [Zv (run_underlying hu w)]
   dsimp only
   unfold Instr.slice
   rw [Zv (run_underlying hu w)]
   dsimp only
   rw [Zv (Zl1 h hbl hbk c1 c2 c3 hcap)]
   dsimp only
   rw [Z0l hs]
   rfl
  rcases hrr.2 with ⟨h0, hm, _⟩ | ⟨g, o', cap, h0, hcap, _⟩
  ·subst hm
   have e1 : l.toNat = 0 := by omega
   have e2 : k.toNat = 0 := by omega
   refine Z08 h hd (v := .slice none 0 0) ?_ (.inr ⟨hl, none, 0, by rw [e1, e2], .inl ⟨rfl, by rw [e1, e2], rfl⟩⟩)
   simp only [execOp, ho, he, h0, Option.map_none]
   rw [Z0R (run none 0 (Nat.le_refl _)), e1, e2]
   rfl
  ·refine Z08 h hd (v := .slice (if cap = l.toNat then some ⟨g, o', none⟩ else some ⟨g, o' + l.toNat * sz, none⟩) (k.toNat - l.toNat) (cap - l.toNat)) ?_ (.inr ⟨hl, _, _, rfl, .inr ?_⟩)
   ·simp only [execOp, ho, he, h0, Option.map_none]
    rw [Z0R (run _ cap hcap)]
    split
    ·rfl
    ·rw [Option.map_some, Z8D]
   ·by_cases hc : cap = l.toNat
    ·rw [if_pos hc]
     exact ⟨g, o', o', by rw [h0]; rfl, rfl, by omega, fun hp => by omega⟩
    ·rw [if_neg hc]
     exact ⟨g, o', _, by rw [h0]; rfl, rfl, by omega, fun _ => rfl⟩
 unfold Z6N at hr
 split at hr
 ·rename_i sz e' z m c hs hb
  split at hr
  ·rename_i l k hbl hbk
   simp only [Option.some.injEq] at hr; subst hr
   exact fin m sz c l k (Z8X h hb) hs hbl hbk Z0t
  ·cases hr
 ·rename_i sz m c hs hb
  split at hr
  ·rename_i l k hbl hbk
   simp only [Option.some.injEq] at hr; subst hr
   exact fin m sz c l k (ZaY h hb) hs hbl hbk Z0t
  ·cases hr
 ·rename_i sz own fr e' ls hs hb
  split at hr
  ·rename_i l k hbl hbk
   simp only [Option.some.injEq] at hr; subst hr
   obtain ⟨vs, _, hrr⟩ := Zom h hb
   exact fin ls.length sz _ l k hrr hs hbl hbk Z0t
  ·cases hr
 ·cases hr
theorem ZmG (h : R P W M n s a w ρ) (hd : Z0b n o.dst = true) {t : TypeId} {x : Operand} {lo hi : Option Operand} {b : ByteArray} (ho : o.op = .slice t x lo hi none) (hx : s.ev x = .val (.string b)) (hu : P.underlying t = some .string) (hr : Z6O s b lo hi = some r) (Z0t : r.chk = true) : Goal P W M n o s r a w Q := by
 have hv := Z1L h hx
 unfold Z6O at hr
 split at hr
 ·rename_i l k hbl hbk
  simp only [Option.some.injEq] at hr; subst hr
  simp only [Out.pure, Bool.and_eq_true, decide_eq_true_eq] at Z0t
  obtain ⟨⟨c1, c2⟩, c3⟩ := Z0t
  refine Z08 h hd (v := .string (b.extract l.toNat k.toNat)) ?_ (.inr rfl)
  simp only [execOp, ho, hv, Option.map_none]
  refine Z0R ?_
  unfold Instr.sliceAt
  rw [Zv (run_underlying hu w)]
  dsimp only
  unfold Instr.slice
  rw [Zv (run_underlying hu w)]
  dsimp only
  rw [if_neg (by simp), Zv (Zl1 h hbl hbk c1 c2 c3 (Nat.le_refl _))]
  rfl
 ·cases hr
theorem ZrL (h : R P W M n s a w ρ) (hd : Z0b n o.dst = true) {t : TypeId} {x : Operand} {lo hi mx : Option Operand}
  (hr : (match s.ev x, lo, hi, mx, P.underlying t with
  | .ptr id off, none, none, none, some (.array n e) => match Zu P (sizeOf e) with
   | some sz => some (Out.pure true (.sub id off n sz))
   | none => none
  | .ptr id off, none, some hx, none, some (.array n e) => match s.ev hx with
   | .val hv => match Zu P (Instr.sliceBounds false n n none (some hv) none), Zu P (sizeOf e) with
    | some (0, h, m), some sz => if Nat.ble h m = true then some (.pure true (.sub id off h sz)) else none
    | _, _ => none
   | _ => none
  | .row id, none, none, none, some (.slice e) => match Zu P (sizeOf e) with
   | some _ => match s.heap id with
    | some (.row ..) => some (.pure true (.row id))
    | some (.ros ..) => some (.pure true (.row id))
    | _ => none
   | none => none
  | .row id, lo, hi, none, some (.slice e) => Z6N P s id lo hi e
  | .val (.string b), lo, hi, none, some .string => Z6O s b lo hi
  | _, _, _, _, _ => none) = some r) (Z0t : r.chk = true) (ho : o.op = .slice t x lo hi mx) : Goal P W M n o s r a w Q := by
 have hv := h.ev x
 split at hr
 ·rename_i id off k e hx hu
  rw [hx] at hv
  obtain ⟨hl, g, o', ha, he⟩ := hv
  split at hr
  ·rename_i sz hs
   simp only [Option.some.injEq] at hr; subst hr
   refine Z08 h hd (v := .slice (some ⟨g, o' + off, none⟩) k k) ?_ (.inr ⟨hl, _, k, rfl, .inr ⟨g, o', _, ha, rfl, Nat.le_refl _, fun _ => rfl⟩⟩)
   simp only [execOp, ho, he, Option.map_none]
   refine Z0R ?_
   unfold Instr.sliceAt
   rw [Zv (run_underlying hu w)]
   dsimp only
   rw [Z0l (x := (⟨g, o' + off, none⟩ : Addr)) rfl]
   rw [Z0l (x := (0, k, k)) rfl]
   dsimp only
   rw [Z0l hs, Nat.zero_mul, Z8D]
   simp
  ·cases hr
 ·rename_i id off hx' k e hx hu
  rw [hx] at hv
  obtain ⟨hl, g, o', ha, he⟩ := hv
  split at hr
  ·rename_i hvv hvx
   split at hr
   ·rename_i h' m' sz hb hs
    split at hr
    ·rename_i hle
     simp only [Option.some.injEq] at hr; subst hr
     have hle := nle hle
     have hev := Z1L h hvx
     refine Z08 h hd (v := .slice (some ⟨g, o' + off, none⟩) h' m') ?_ (.inr ⟨hl, _, m', rfl, .inr ⟨g, o', _, ha, rfl, hle, fun _ => rfl⟩⟩)
     simp only [execOp, ho, he, Option.map_none, Option.map_some, hev]
     refine Z0R ?_
     unfold Instr.sliceAt
     rw [Zv (run_underlying hu w)]
     dsimp only
     rw [Z0l (x := (⟨g, o' + off, none⟩ : Addr)) rfl]
     rw [Z0l hb]
     dsimp only
     rw [Z0l hs, Nat.zero_mul, Z8D]
     simp
    ·cases hr
   ·cases hr
  ·cases hr
 ·rename_i id e hx hu
  rw [hx] at hv
  obtain ⟨hl, he⟩ := hv
  split at hr
  ·rename_i sz hs
   have fin : ∀ (m : Nat) (c : Cells), Z16 w none (ρ id) m c -> Goal P W M n o s (.pure true (.row id)) a w Q := by
    intro m c hrr
    refine Z08 h hd (v := ρ id) ?_ (.inr ⟨hl, rfl⟩)
    simp only [execOp, ho, he, Option.map_none]
    refine Z0R ?_
    have key : ∀ (q : Option Addr) (len cap : Nat), q = none \/ (∃ g i, q = some ⟨g, i, none⟩) -> (Instr.sliceAt t (.slice q len cap) none none none).run P w = .ok (.slice q len cap) w := by
     intro q len cap hq
     unfold Instr.sliceAt
     rw [Zv (run_underlying hu w)]
     dsimp only
     unfold Instr.slice
     rw [Zv (run_underlying hu w)]
     dsimp only
     rw [Z0l (x := (0, len, cap)) rfl]
     dsimp only
     rw [Z0l hs, Nat.zero_mul]
     have : (if cap = 0 then q else q.map fun x => x.add 0) = q := by
      split
      ·rfl
      ·rcases hq with rfl | ⟨g, i, rfl⟩ <;> simp [Addr.add]
     simp [this]
    rcases hrr.2 with ⟨h0, _⟩ | ⟨g, i, cap, h0, _⟩ <;> rw [h0]
    ·exact key none 0 0 (.inl rfl)
    ·exact key _ _ _ (.inr ⟨g, i, rfl⟩)
   split at hr
   ·rename_i hb
    simp only [Option.some.injEq] at hr; subst hr
    exact fin _ _ (Z8X h hb)
   ·rename_i hb
    simp only [Option.some.injEq] at hr; subst hr
    exact fin _ _ (ZaY h hb)
   ·cases hr
  ·cases hr
 ·exact ZmF h hd ho (by assumption) (by assumption) hr Z0t
 ·exact ZmG h hd ho (by assumption) (by assumption) hr Z0t
 ·cases hr
theorem ZoV (h : R P W M n s a w ρ) (hd : Z0b n o.dst = true) {x : Operand} {i : Nat} (ho : o.op = .extract x i)
  (hr : (match s.ev x with
  | .tup l => match l[i]? with
   | some (.v v) => some (Out.pure true (.val v))
   | some (.r id) => some (.pure true (.row id))
   | none => none
  | _ => none) = some r) : Goal P W M n o s r a w Q := by
 have hv := h.ev x
 split at hr
 ·rename_i l hx
  rw [hx] at hv
  obtain ⟨vs, he, hall⟩ := hv
  have hrun : ∀ v, vs[i]? = some v -> (execOp a.eval o).run P w = .ok (.value v) w := by
   intro v hv
   simp only [execOp, ho, he]
   refine Z0R ?_
   unfold Instr.extract
   simp [hv]
  split at hr
  ·rename_i v hi
   simp only [Option.some.injEq] at hr; subst hr
   obtain ⟨u, hu, hrel⟩ := hall.get hi
   exact Z08 h hd (v := u) (hrun u hu) (.inr hrel)
  ·rename_i id hi
   simp only [Option.some.injEq] at hr; subst hr
   obtain ⟨u, hu, hrel⟩ := hall.get hi
   exact Z08 h hd (v := u) (hrun u hu) (.inr hrel)
  ·cases hr
 ·cases hr
theorem Zxw {c : Call} {x : Operand} {t : TypeId} (hx : c.args.toList = [x]) (ht : c.argTypes.toList = [t]) : c.args = #[x] /\ c.argTypes = #[t] :=
 ⟨Array.toList_inj.1 hx, Array.toList_inj.1 ht⟩
theorem Z5C {c : Call} {b : Builtin} {ty : TypeId} (hc : c.callee = .builtin b) : ∃ cs, ∀ w : World, (resolve a.eval c ty).run P w = .ok { target := .builtin b c.argTypes ty cs, args := c.args.map a.eval } w := by
 unfold resolve
 rw [hc]
 exact ⟨_, fun w => rfl⟩
theorem ZuW (h : R P W M n s a w ρ) (hd : Z0b n o.dst = true) {c : Call} (ho : o.op = .call c) (hc : c.callee = .builtin .len)
  (hr : (match c.args.toList.map s.ev, c.argTypes.toList with
   | [.val (.string b)], [t] => match P.underlying t with
    | some .string => some (Out.pure true (.val (.int .i64 b.size)))
    | _ => none
   | [.row id], [t] => match s.heap id, P.underlying t with
    | some (.row _ _ n _), some (.slice _) => some (.pure true (.val (.int .i64 n)))
    | some (.ros n _), some (.slice _) => some (.pure true (.val (.int .i64 n)))
    | some (.fro _ n _), some (.slice _) => some (.pure true (.val (.int .i64 n)))
    | some (.dee _ _ _ ls), some (.slice _) => some (.pure true (.val (.int .i64 ls.length)))
    | _, _ => none
   | [.sub _ _ n _], [t] => match P.underlying t with
    | some (.slice _) => some (.pure true (.val (.int .i64 n)))
    | _ => none
   | _, _ => none) = some r) : Goal P W M n o s r a w Q := by
 have one : ∀ {v : SV}, c.args.toList.map s.ev = [v] -> ∃ x, c.args.toList = [x] /\ s.ev x = v := by
  intro v hv
  match hq : c.args.toList, hv with
  | [x], hv => exact ⟨x, rfl, by simpa using hv⟩
  | [], hv => cases hv
  | _ :: _ :: _, hv => simp at hv
 have hrun : ∀ {x : Operand} {t : TypeId} {v : Value}, c.args.toList = [x] -> c.argTypes.toList = [t] -> (Builtin.len_ #[t] o.type #[a.eval x]).run P w = .ok v w -> (execOp a.eval o).run P w = .ok (.value v) w := by
  intro x t v hx ht hl
  obtain ⟨e1, e2⟩ := Zxw hx ht
  simp only [execOp, ho]
  obtain ⟨cs, this⟩ := Z5C (P := P) (a := a) (ty := o.type) hc
  rw [e1, e2, show Array.map a.eval #[x] = #[a.eval x] from by simp] at this
  rw [Zv (this w)]
  exact Z0R hl
 have slen : ∀ {t e : TypeId} {q : Option Addr} {k cap : Nat}, P.underlying t = some (.slice e) -> (Builtin.len_ #[t] o.type #[.slice q k cap]).run P w = .ok (.int .i64 k) w := by
  intro t e q k cap hu
  unfold Builtin.len_
  simp [Sem.run_bind, run_underlying hu, goInt]
 split at hr
 ·rename_i b t ha ht
  obtain ⟨x, hx, hxe⟩ := one ha
  split at hr
  ·rename_i hu
   simp only [Option.some.injEq] at hr; subst hr
   refine Z08 h hd (v := .int .i64 b.size) (hrun hx ht ?_) (.inr rfl)
   rw [Z1L h hxe]
   unfold Builtin.len_
   simp [Sem.run_bind, run_underlying hu, goInt]
  ·cases hr
 ·rename_i id t ha ht
  obtain ⟨x, hx, hxe⟩ := one ha
  have hv := h.ev x
  rw [hxe] at hv
  obtain ⟨hl, he⟩ := hv
  have fin : ∀ (m : Nat) (cc : Cells) (e : TypeId), Z16 w none (ρ id) m cc -> P.underlying t = some (.slice e) -> Goal P W M n o s (.pure true (.val (.int .i64 m))) a w Q := by
   intro m cc e hrr hu
   refine Z08 h hd (v := .int .i64 m) (hrun hx ht ?_) (.inr rfl)
   rw [he]
   rcases hrr.2 with ⟨h0, hm, _⟩ | ⟨g, i, cap, h0, _⟩ <;> rw [h0]
   ·rw [hm]; exact slen hu
   ·exact slen hu
  split at hr
  ·rename_i hb hu
   simp only [Option.some.injEq] at hr; subst hr
   exact fin _ _ _ (Z8X h hb) hu
  ·rename_i hb hu
   simp only [Option.some.injEq] at hr; subst hr
   exact fin _ _ _ (ZaY h hb) hu
  ·rename_i hb hu
   simp only [Option.some.injEq] at hr; subst hr
   exact fin _ _ _ (h.heap _ _ hb).1 hu
  ·rename_i hb hu
   simp only [Option.some.injEq] at hr; subst hr
   obtain ⟨vs, _, hrr⟩ := Zom h hb
   exact fin _ _ _ hrr hu
  ·cases hr
 ·rename_i id off k sz t ha ht
  obtain ⟨x, hx, hxe⟩ := one ha
  have hv := h.ev x
  rw [hxe] at hv
  obtain ⟨hl, q, cap, he, hq⟩ := hv
  split at hr
  ·rename_i hu
   simp only [Option.some.injEq] at hr; subst hr
   refine Z08 h hd (v := .int .i64 k) (hrun hx ht ?_) (.inr rfl)
   rw [he]
   exact slen hu
  ·cases hr
 ·cases hr
theorem ZuX (h : R P W M n s a w ρ) (hd : Z0b n o.dst = true) {c : Call} (ho : o.op = .call c) (hc : c.callee = .builtin .max)
  (hr : (match c.args.toList.map s.ev with
   | [.val (.int .i64 x), .val (.int .i64 y)] => some (Out.pure true (.val (.int .i64 (maxI x y))))
   | _ => none) = some r) : Goal P W M n o s r a w Q := by
 split at hr
 ·rename_i x y ha
  simp only [Option.some.injEq] at hr; subst hr
  obtain ⟨X, Y, hX, e1, e2⟩ : ∃ X Y, c.args.toList = [X, Y] /\ s.ev X = .val (.int .i64 x) /\ s.ev Y = .val (.int .i64 y) := by
   match hq : c.args.toList, ha with
   | [X, Y], ha =>
    simp at ha
    exact ⟨X, Y, rfl, ha.1, ha.2⟩
   | [], ha => cases ha
   | [_], ha => simp at ha
   | _ :: _ :: _ :: _, ha => simp at ha
  refine Z08 h hd (v := .int .i64 (maxI x y)) ?_ (.inr rfl)
  have hA : c.args = #[X, Y] := Array.toList_inj.1 hX
  simp only [execOp, ho]
  obtain ⟨cs, this⟩ := Z5C (P := P) (a := a) (ty := o.type) hc
  rw [hA, show Array.map a.eval #[X, Y] = #[a.eval X, a.eval Y] from by simp] at this
  rw [Zv (this w), Z1L h e1, Z1L h e2]
  refine Z0R ?_
  unfold Builtin.max_
  rfl
 ·cases hr
theorem ZuY (h : R P W M n s a w ρ) (hd : Z0b n o.dst = true) {c : Call} (ho : o.op = .call c) (hc : c.callee = .builtin .min)
  (hr : (match c.args.toList.map s.ev with
   | [.val (.int .i64 x), .val (.int .i64 y)] => some (Out.pure true (.val (.int .i64 (minI x y))))
   | _ => none) = some r) : Goal P W M n o s r a w Q := by
 split at hr
 ·rename_i x y ha
  simp only [Option.some.injEq] at hr; subst hr
  obtain ⟨X, Y, hX, e1, e2⟩ : ∃ X Y, c.args.toList = [X, Y] /\ s.ev X = .val (.int .i64 x) /\ s.ev Y = .val (.int .i64 y) := by
   match hq : c.args.toList, ha with
   | [X, Y], ha =>
    simp at ha
    exact ⟨X, Y, rfl, ha.1, ha.2⟩
   | [], ha => cases ha
   | [_], ha => simp at ha
   | _ :: _ :: _ :: _, ha => simp at ha
  refine Z08 h hd (v := .int .i64 (minI x y)) ?_ (.inr rfl)
  have hA : c.args = #[X, Y] := Array.toList_inj.1 hX
  simp only [execOp, ho]
  obtain ⟨cs, this⟩ := Z5C (P := P) (a := a) (ty := o.type) hc
  rw [hA, show Array.map a.eval #[X, Y] = #[a.eval X, a.eval Y] from by simp] at this
  rw [Zv (this w), Z1L h e1, Z1L h e2]
  refine Z0R ?_
  unfold Builtin.min_
  rfl
 ·cases hr
end

end Go.Proofs.Ytfclaacaphpoaaa
