import Derived.Test.YtnijajjdldijpaaCn
set_option linter.unusedSimpArgs false
set_option linter.unusedVariables false
namespace Go.Proofs.Ytnijajjdldijpaa
open Go.RowKit
/-! The reading is right: what it tells is what every run does. -/
theorem semOnly_run {α : Type} {P : Program} : ∀ {s : Sem α} {v : α}, semOnly P s = some v → ∀ w, s.run P w = .ok v w
  | .pure a, v, h, w => by simp only [semOnly, Option.some.injEq] at h; subst h; rfl
  | .program k, v, h, w => semOnly_run (s := k P) (by simpa only [semOnly] using h) w
  | .load .., _, h, _ => by simp [semOnly] at h
  | .store .., _, h, _ => by simp [semOnly] at h
  | .new .., _, h, _ => by simp [semOnly] at h
  | .shape .., _, h, _ => by simp [semOnly] at h
  | .freeze .., _, h, _ => by simp [semOnly] at h
  | .frozen .., _, h, _ => by simp [semOnly] at h
  | .getObj .., _, h, _ => by simp [semOnly] at h
  | .setObj .., _, h, _ => by simp [semOnly] at h
  | .choose .., _, h, _ => by simp [semOnly] at h
  | .sys .., _, h, _ => by simp [semOnly] at h
  | .mark .., _, h, _ => by simp [semOnly] at h
  | .halt .., _, h, _ => by simp [semOnly] at h
theorem nbeq {x y : Nat} (h : x ≠ y) : Nat.beq x y = false := by
  cases hb : Nat.beq x y
  · rfl
  · exact absurd (Nat.eq_of_beq_eq_true hb) h
def All2 {α β : Type} (R : α → β → Prop) : List α → List β → Prop
  | [], [] => True
  | a :: l, b :: m => R a b ∧ All2 R l m
  | _, _ => False
section
variable {α β : Type} {R Q : α → β → Prop}
theorem All2.mono (h : ∀ a b, R a b → Q a b) : ∀ {l : List α} {m : List β}, All2 R l m → All2 Q l m
  | [], [], _ => True.intro
  | _ :: _, _ :: _, ⟨a, b⟩ => ⟨h _ _ a, All2.mono h b⟩
theorem All2.len : ∀ {l : List α} {m : List β}, All2 R l m → l.length = m.length
  | [], [], _ => rfl
  | _ :: _, _ :: _, ⟨_, b⟩ => by simp [All2.len b]
theorem All2.get : ∀ {l : List α} {m : List β}, All2 R l m → ∀ {i : Nat} {a : α}, l[i]? = some a → ∃ b, m[i]? = some b ∧ R a b
  | [], [], _, i, a, h => by simp at h
  | _ :: _, y :: _, ⟨p, q⟩, 0, a, h => by
    simp at h; subst h; exact ⟨y, by simp, p⟩
  | _ :: _, _ :: _, ⟨p, q⟩, i + 1, a, h => by
    simp at h; simpa using All2.get q h
theorem All2.set : ∀ {l : List α} {m : List β}, All2 R l m → ∀ (i : Nat) {a : α} {b : β}, R a b → All2 R (l.set i a) (m.set i b)
  | [], [], _, _, _, _, _ => True.intro
  | _ :: _, _ :: _, ⟨_, q⟩, 0, _, _, h => ⟨h, q⟩
  | _ :: _, _ :: _, ⟨p, q⟩, i + 1, _, _, h => ⟨p, All2.set q i h⟩
theorem All2.drop : ∀ {l : List α} {m : List β}, All2 R l m → ∀ (i : Nat), All2 R (l.drop i) (m.drop i)
  | _, _, h, 0 => h
  | [], [], _, i + 1 => True.intro
  | _ :: _, _ :: _, ⟨_, q⟩, i + 1 => All2.drop q i
theorem All2.take : ∀ {l : List α} {m : List β}, All2 R l m → ∀ (i : Nat), All2 R (l.take i) (m.take i)
  | l, m, h, 0 => by simp [All2]
  | [], [], _, i + 1 => True.intro
  | _ :: _, _ :: _, ⟨p, q⟩, i + 1 => ⟨p, All2.take q i⟩
theorem All2.app : ∀ {l : List α} {m : List β} {l' : List α} {m' : List β}, All2 R l m → All2 R l' m' → All2 R (l ++ l') (m ++ m')
  | [], [], _, _, _, h => h
  | _ :: _, _ :: _, _, _, ⟨p, q⟩, h => ⟨p, All2.app q h⟩
theorem All2.mapL {γ : Type} (f : γ → α) : ∀ {l : List γ} {m : List β}, All2 (fun c b => R (f c) b) l m → All2 R (l.map f) m
  | [], [], _ => True.intro
  | _ :: _, _ :: _, ⟨p, q⟩ => ⟨p, All2.mapL f q⟩
theorem All2.of_map (f : α → β) : ∀ (l : List α), (∀ a ∈ l, R a (f a)) → All2 R l (l.map f)
  | [], _ => True.intro
  | a :: l, h => ⟨h a (by simp), All2.of_map f l fun b hb => h b (by simp [hb])⟩
end
theorem optMap_all2 {α β : Type} {f : α → Option β} : ∀ {l : List α} {m : List β}, optMap f l = some m → All2 (fun a b => f a = some b) l m
  | [], m, h => by simp only [optMap, Option.some.injEq] at h; subst h; exact True.intro
  | a :: l, m, h => by
    simp only [optMap] at h
    split at h
    · rename_i b hb
      split at h
      · rename_i m' hm
        simp only [Option.some.injEq] at h; subst h
        exact ⟨hb, optMap_all2 hm⟩
      · cases h
    · cases h
def atOf : Value → Option (Nat × Nat)
  | .pointer (some ⟨b, o, none⟩) => some (b, o)
  | .slice (some ⟨b, o, none⟩) _ _ => some (b, o)
  | _ => none
def ownOf (v : Value) : Option Nat := match atOf v with | some (b, _) => some b | none => none
def Cells.ok : Cells → Prop
  | .ints _ => True
  | .byts _ => True
  | .vals l => ∀ u ∈ l, u.oneCell' = true
theorem Cells.ok_one {c : Cells} (h : c.ok) : ∀ u ∈ c.toVals, u.oneCell' = true := by
  cases c with
  | ints l =>
    intro u hu
    obtain ⟨n, _, rfl⟩ := List.mem_map.1 hu
    rfl
  | byts l =>
    intro u hu
    obtain ⟨n, _, rfl⟩ := List.mem_map.1 hu
    rfl
  | vals l => exact h
theorem Cells.len_toVals (c : Cells) : c.toVals.length = c.len := by cases c <;> simp [Cells.toVals, Cells.len]
theorem Cells.get_toVals (c : Cells) {i : Nat} (h : i < c.len) : c.toVals[i]? = some (c.get i) := by
  cases c with
  | ints l =>
    have h' : i < l.length := h
    simp [Cells.toVals, Cells.get, h', List.getD_eq_getElem?_getD]
  | byts l =>
    have h' : i < l.length := h
    simp [Cells.toVals, Cells.get, h', List.getD_eq_getElem?_getD]
  | vals l =>
    have h' : i < l.length := h
    simp [Cells.toVals, Cells.get, h', List.getD_eq_getElem?_getD]
/-- A place that a function may write, and a slice in it. -/
abbrev MV := Option (Value × Option Value)
/-- The cells of a slice that is only read. -/
def mB : MV → Option Nat
  | some v => ownOf v.1
  | none => none
def RosRel (W : World) (M : Option Nat) (v : Value) (n : Nat) (c : Cells) : Prop :=
  c.ok ∧ ((v = .slice none 0 0 ∧ n = 0 ∧ c.toVals = []) ∨ ∃ g o cap, v = .slice (some ⟨g, o, none⟩) n cap ∧ n ≤ cap ∧ (M ≠ some g ∧ g < W.heap.size) ∧ ∀ j u, c.toVals[j]? = some u → W.cell? ⟨g, o + j, none⟩ = some u)
def FnRel (P : Program) (W : World) (M : Option Nat) (v : Value) (g : List Value → Option (Bool × Value)) : Prop :=
  ∃ (f : Nat) (caps : Array Value), v = .func (.func f) #[] caps ∧ (∀ (args : Array Value) (w : World), (callFunc f args).run P w = .ok (.enter f args) w) ∧
    ∀ w, W.grownBy w M → ∀ args r, g args = some (true, r) → Calls P f (args.toArray ++ caps) w fun e w' => e = .returned r ∧ w.grownBy w' none
def TIRel (ρ : Nat → Value) (H : Nat → Option Blk) : TI → Value → Prop
  | .v x, v => v = x
  | .r id, v => (H id).isSome = true ∧ v = ρ id
def CapRel (ρ : Nat → Value) (H : Nat → Option Blk) (id : Nat) (v : Value) : Prop :=
  (H id).isSome = true ∧ ∃ g o, atOf (ρ id) = some (g, o) ∧ v = .pointer (some ⟨g, o, none⟩)
section
variable (P : Program) (W : World) (M : MV)
def Rel (ρ : Nat → Value) (H : Nat → Option Blk) : SV → Value → Prop
  | .val x, v => v = x
  | .ptr id off, v => (H id).isSome = true ∧ ∃ g o, atOf (ρ id) = some (g, o) ∧ v = .pointer (some ⟨g, o + off, none⟩)
  | .row id, v => (H id).isSome = true ∧ v = ρ id
  | .sub id off n _, v => (H id).isSome = true ∧ ∃ g o cap, atOf (ρ id) = some (g, o) ∧ v = .slice (some ⟨g, o + off, none⟩) n cap ∧ n ≤ cap
  | .clo f l, v => ∃ vs : List Value, v = .func (.func f) #[] vs.toArray ∧ All2 (CapRel ρ H) l vs
  | .fn g, v => FnRel P W (mB M) v g
  | .tup l, v => ∃ vs : List Value, v = .tuple vs.toArray ∧ All2 (TIRel ρ H) l vs
  | .agr l, v => ∃ vs : List Value, v = .agg vs.toArray ∧ All2 (TIRel ρ H) l vs
  | .junk, _ => True
def Own (g : Nat) : Prop := W.heap.size ≤ g ∨ mB M = some g
def BRel (w : World) (ρ : Nat → Value) (H : Nat → Option Blk) (id : Nat) : Blk → Prop
  | .box e cells => ∃ g cs, ρ id = .pointer (some ⟨g, 0, none⟩) ∧ Own W M g ∧ w.heap[g]? = some (.cells cs e (0, 0)) ∧ All2 (Rel P W M ρ H) cells cs.toList
  | .row e sz n c => c.ok ∧ w.ownsRow 0 e sz (ρ id) n c.toVals ∧ ∀ g, ownOf (ρ id) = some g → Own W M g
  | .ros n c => RosRel W (mB M) (ρ id) n c
  | .rop cells => ∃ g o, ρ id = .pointer (some ⟨g, o, none⟩) ∧ mB M ≠ some g ∧ ∀ j v, cells[j]? = some v → ∃ u, W.cell? ⟨g, o + j, none⟩ = some u ∧ Rel P W M ρ H v u
structure R (n : Nat) (s : FSt) (a : Act) (w : World) (ρ : Nat → Value) : Prop where
  grown : W.grownBy w (mB M)
  size : a.tmps.size = n
  defers : a.defers = []
  slots : ∀ t, Rel P W M ρ s.heap (s.slot t) (a.tmps.getD t undef)
  heap : ∀ id b, s.heap id = some b → BRel P W M w ρ s.heap id b
  apart : ∀ i j bi bj g, i ≠ j → s.heap i = some bi → s.heap j = some bj → ownB bi = true → ownB bj = true → ownOf (ρ i) = some g → ownOf (ρ j) ≠ some g
  fix : ∀ v, M = some v → 0 < n ∧ ((s.heap 0).isSome = true ∧ ρ 0 = v.1) ∧ ∀ u, v.2 = some u → (s.heap 1).isSome = true ∧ ρ 1 = u
end
section
variable {P : Program} {W : World} {M : MV} {n : Nat} {s : FSt} {a : Act} {w : World} {ρ ρ' : Nat → Value} {H H' : Nat → Option Blk}
theorem TIRel.mono (h : ∀ id, (H id).isSome = true → (H' id).isSome = true ∧ ρ' id = ρ id) {x : TI} {v : Value} (k : TIRel ρ H x v) : TIRel ρ' H' x v := by
  cases x with
  | v x => exact k
  | r id => exact ⟨(h id k.1).1, by rw [(h id k.1).2]; exact k.2⟩
theorem CapRel.mono (h : ∀ id, (H id).isSome = true → (H' id).isSome = true ∧ ρ' id = ρ id) {x : Nat} {v : Value} (k : CapRel ρ H x v) : CapRel ρ' H' x v :=
  ⟨(h x k.1).1, by rw [(h x k.1).2]; exact k.2⟩
theorem Rel.mono (h : ∀ id, (H id).isSome = true → (H' id).isSome = true ∧ ρ' id = ρ id) {x : SV} {v : Value} (k : Rel P W M ρ H x v) : Rel P W M ρ' H' x v := by
  cases x with
  | val x => exact k
  | ptr id off => exact ⟨(h id k.1).1, by rw [(h id k.1).2]; exact k.2⟩
  | row id => exact ⟨(h id k.1).1, by rw [(h id k.1).2]; exact k.2⟩
  | sub id off m z => exact ⟨(h id k.1).1, by rw [(h id k.1).2]; exact k.2⟩
  | clo f l => exact ⟨k.choose, k.choose_spec.1, k.choose_spec.2.mono fun _ _ => CapRel.mono h⟩
  | fn g => exact k
  | tup l => exact ⟨k.choose, k.choose_spec.1, k.choose_spec.2.mono fun _ _ => TIRel.mono h⟩
  | agr l => exact ⟨k.choose, k.choose_spec.1, k.choose_spec.2.mono fun _ _ => TIRel.mono h⟩
  | junk => exact k
theorem BRel.mono (h : ∀ id, (H id).isSome = true → (H' id).isSome = true ∧ ρ' id = ρ id) {id : Nat} {b : Blk} (hid : ρ' id = ρ id) (k : BRel P W M w ρ H id b) : BRel P W M w ρ' H' id b := by
  cases b with
  | box e cells =>
    obtain ⟨g, cs, h1, h2, h3, h4⟩ := k
    exact ⟨g, cs, by rw [hid]; exact h1, h2, h3, h4.mono fun _ _ => Rel.mono h⟩
  | row e sz m c =>
    obtain ⟨h1, h2, h3⟩ := k
    exact ⟨h1, by rw [hid]; exact h2, by rw [hid]; exact h3⟩
  | ros m c => simp only [BRel] at k ⊢; rw [hid]; exact k
  | rop cells =>
    obtain ⟨g, o, h1, h2, h3⟩ := k
    refine ⟨g, o, by rw [hid]; exact h1, h2, fun j v hv => ?_⟩
    obtain ⟨u, hu, hr⟩ := h3 j v hv
    exact ⟨u, hu, hr.mono h⟩
theorem ownOf_row {e sz m : Nat} {v : Value} {xs : List Value} {b : Nat} (h : w.ownsRow b e sz v m xs) : v.ownBlock = ownOf v := by
  rcases h.2 with ⟨rfl, _⟩ | ⟨g, cap, cur, rfl, _⟩ <;> rfl
theorem BRel.grown {w' : World} {row : Option Nat} {id : Nat} {b : Blk} (k : BRel P W M w ρ H id b) (hg : w.grownBy w' row) (hne : ownB b = true → ∀ g, ownOf (ρ id) = some g → row ≠ some g) : BRel P W M w' ρ H id b := by
  cases b with
  | box e cells =>
    obtain ⟨g, cs, h1, h2, h3, h4⟩ := k
    refine ⟨g, cs, h1, h2, ?_, h4⟩
    rw [hg.block g (Array.getElem?_eq_some_iff.1 h3).1 (fun e => hne rfl g (by rw [h1]; rfl) e.symm)]
    exact h3
  | row e sz m c =>
    obtain ⟨h1, h2, h3⟩ := k
    refine ⟨h1, h2.kept hg ?_, h3⟩
    rw [ownOf_row h2]
    cases ho : ownOf (ρ id) with
    | none => exact .inl rfl
    | some g => exact .inr fun e => hne rfl g ho e.symm
  | ros m c => exact k
  | rop cells => exact k
theorem own_lt {id : Nat} {b : Blk} (k : BRel P W M w ρ H id b) (hb : ownB b = true) {g : Nat} (hg : ownOf (ρ id) = some g) : g < w.heap.size := by
  cases b with
  | box e cells =>
    obtain ⟨g', cs, h1, h2, h3, h4⟩ := k
    rw [h1] at hg
    obtain rfl : g' = g := by simpa [ownOf, atOf] using hg
    exact (Array.getElem?_eq_some_iff.1 h3).1
  | row e sz m c => exact (k.2.1.lt g (by rw [ownOf_row k.2.1]; exact hg)).2
  | ros m c => cases hb
  | rop cells => cases hb
theorem grown_step {w' : World} {row : Option Nat} (h : W.grownBy w (mB M)) (k : w.grownBy w' row) (hr : ∀ g, row = some g → Own W M g) : W.grownBy w' (mB M) :=
  ⟨k.os.trans h.os, k.tape.trans h.tape, k.output.trans h.output, Nat.le_trans h.size k.size, fun i hi hne => by
    rw [k.block i (Nat.lt_of_lt_of_le hi h.size) (fun e => ?_), h.block i hi hne]
    rcases hr i e.symm with h1 | h1
    · omega
    · exact hne h1.symm⟩
/-- The world grows. -/
theorem R.ext (h : R P W M n s a w ρ) {w' : World} (hg : w.grownBy w' none) : R P W M n s a w' ρ where
  grown := grown_step h.grown hg (fun _ e => by cases e)
  size := h.size
  defers := h.defers
  slots := h.slots
  heap := fun id b hb => (h.heap id b hb).grown hg (fun _ _ _ e => by cases e)
  apart := h.apart
  fix := h.fix
theorem tmps_put (a : Act) (d t : Nat) (v : Value) (hd : d < a.tmps.size) : (a.put (some d) v).tmps.getD t undef = if t = d then v else a.tmps.getD t undef := by
  unfold Act.put
  by_cases e : t = d
  · subst e
    simp [hd]
  · simp only [Array.getD_eq_getD_getElem?, Array.getElem?_setIfInBounds_ne (fun h => e h.symm), if_neg e]
theorem R.put (h : R P W M n s a w ρ) {d : Option Nat} {x : SV} {v : Value} (hd : inRange n d = true) (hx : d = none ∨ Rel P W M ρ s.heap x v) : R P W M n (s.put d x) (a.put d v) w ρ := by
  cases d with
  | none => exact h
  | some d =>
    have hd' : d < a.tmps.size := by
      rw [h.size]; simp [inRange] at hd; omega
    refine ⟨h.grown, by simpa [Act.put] using h.size, h.defers, fun t => ?_, h.heap, h.apart, h.fix⟩
    rw [tmps_put a d t v hd']
    show Rel P W M ρ s.heap (bif Nat.beq t d then x else s.slot t) _
    by_cases e : t = d
    · subst e
      simp only [if_true]
      have : Nat.beq t t = true := by simp
      rw [this]
      rcases hx with hx | hx
      · cases hx
      · exact hx
    · rw [if_neg e]
      have : Nat.beq t d = false := nbeq e
      rw [this]
      exact h.slots t
/-- A new block. -/
theorem R.new (h : R P W M n s a w ρ) {i : Nat} {b : Blk} {v : Value} (hi : s.heap i = none) (hb : BRel P W M w (fun x => if x = i then v else ρ x) (s.set i b).heap i b)
    (hap : ownB b = true → ∀ g, ownOf v = some g → ∀ j bj, s.heap j = some bj → ownB bj = true → ownOf (ρ j) ≠ some g) : R P W M n (s.set i b) a w (fun x => if x = i then v else ρ x) := by
  have hm : ∀ id, (s.heap id).isSome = true → ((s.set i b).heap id).isSome = true ∧ (fun x => if x = i then v else ρ x) id = ρ id := by
    intro id hid
    have hne : id ≠ i := by rintro rfl; rw [hi] at hid; cases hid
    have : Nat.beq id i = false := nbeq hne
    exact ⟨by simp only [FSt.set, this, cond_false]; exact hid, if_neg hne⟩
  have hheap : ∀ id c, (s.set i b).heap id = some c → (id = i ∧ c = b) ∨ (id ≠ i ∧ s.heap id = some c) := by
    intro id c hc
    by_cases e : id = i
    · subst e
      have : Nat.beq id id = true := by simp
      simp only [FSt.set, this, cond_true, Option.some.injEq] at hc
      exact .inl ⟨rfl, hc.symm⟩
    · have : Nat.beq id i = false := nbeq e
      simp only [FSt.set, this, cond_false] at hc
      exact .inr ⟨e, hc⟩
  refine ⟨h.grown, h.size, h.defers, fun t => (h.slots t).mono hm, fun id c hc => ?_, fun x y bx by_ g hxy hx hy ox oy gx => ?_, fun v0 hv0 => ?_⟩
  rotate_right
  · obtain ⟨f1, f2, f3⟩ := h.fix v0 hv0
    exact ⟨f1, ⟨(hm 0 f2.1).1, (hm 0 f2.1).2.trans f2.2⟩, fun u hu => ⟨(hm 1 (f3 u hu).1).1, (hm 1 (f3 u hu).1).2.trans (f3 u hu).2⟩⟩
  · rcases hheap id c hc with ⟨rfl, rfl⟩ | ⟨hne, hc⟩
    · exact hb
    · exact (h.heap id c hc).mono hm (if_neg hne)
  · rcases hheap x bx hx with ⟨rfl, rfl⟩ | ⟨hnx, hx'⟩ <;> rcases hheap y by_ hy with ⟨rfl, rfl⟩ | ⟨hny, hy'⟩
    · exact absurd rfl hxy
    · simp only [if_true] at gx
      simp only [if_neg hny]
      exact hap ox g gx y by_ hy' oy
    · simp only [if_true]
      simp only [if_neg hnx] at gx
      intro gy
      exact hap oy g gy x bx hx' ox gx
    · simp only [if_neg hnx] at gx
      simp only [if_neg hny]
      exact h.apart x y bx by_ g hxy hx' hy' ox oy gx
/-- A block is written. -/
theorem R.write (h : R P W M n s a w ρ) {i : Nat} {b b' : Blk} {w' : World} {g : Nat} (hi : s.heap i = some b) (hob : ownB b = true) (hob' : ownB b' = true) (hgi : ownOf (ρ i) = some g) (hown : Own W M g) (hg : w.grownBy w' (some g))
    (hb : BRel P W M w' ρ s.heap i b') : R P W M n (s.set i b') a w' ρ := by
  have hm : ∀ id, (s.heap id).isSome = true → ((s.set i b').heap id).isSome = true ∧ ρ id = ρ id := by
    intro id hid
    refine ⟨?_, rfl⟩
    show (bif Nat.beq id i then some b' else s.heap id).isSome = true
    cases Nat.beq id i
    · exact hid
    · rfl
  have hheap : ∀ id c, (s.set i b').heap id = some c → (id = i ∧ c = b') ∨ (id ≠ i ∧ s.heap id = some c) := by
    intro id c hc
    by_cases e : id = i
    · subst e
      have : Nat.beq id id = true := by simp
      simp only [FSt.set, this, cond_true, Option.some.injEq] at hc
      exact .inl ⟨rfl, hc.symm⟩
    · have : Nat.beq id i = false := nbeq e
      simp only [FSt.set, this, cond_false] at hc
      exact .inr ⟨e, hc⟩
  refine ⟨grown_step h.grown hg (fun x e => by cases e; exact hown), h.size, h.defers, fun t => (h.slots t).mono hm, fun id c hc => ?_, fun x y bx by_ g' hxy hx hy ox oy gx => ?_, fun v0 hv0 => ⟨(h.fix v0 hv0).1, ⟨(hm 0 (h.fix v0 hv0).2.1.1).1, (h.fix v0 hv0).2.1.2⟩, fun u hu => ⟨(hm 1 ((h.fix v0 hv0).2.2 u hu).1).1, ((h.fix v0 hv0).2.2 u hu).2⟩⟩⟩
  · rcases hheap id c hc with ⟨rfl, rfl⟩ | ⟨hne, hc⟩
    · exact hb.mono hm rfl
    · refine ((h.heap id c hc).grown hg fun oc g' hg' e => ?_).mono hm rfl
      cases e
      exact h.apart i id b c g (Ne.symm hne) hi hc hob oc hgi hg'
  · rcases hheap x bx hx with ⟨rfl, rfl⟩ | ⟨hnx, hx'⟩ <;> rcases hheap y by_ hy with ⟨rfl, rfl⟩ | ⟨hny, hy'⟩
    · exact absurd rfl hxy
    · exact h.apart _ _ _ _ g' hxy hi hy' hob oy gx
    · exact h.apart _ _ _ _ g' hxy hx' hi ox hob gx
    · exact h.apart _ _ _ _ g' hxy hx' hy' ox oy gx
end

end Go.Proofs.Ytnijajjdldijpaa
