import Derived.Test.YtfclaacaphpoaaaCn
set_option linter.unusedSimpArgs false
set_option linter.unusedVariables false
namespace Go.Proofs.Ytfclaacaphpoaaa
open Go.RowKit
theorem Z47 {α : Type} {P : Program} : ∀ {s : Sem α} {v : α}, Zu P s = some v -> ∀ w, s.run P w = .ok v w
 | .pure a, v, h, w => by simp only [Zu, Option.some.injEq] at h; subst h; rfl
 | .program k, v, h, w => Z47 (s := k P) (by simpa only [Zu] using h) w
 | .load .., _, h, _ => by simp [Zu] at h
 | .store .., _, h, _ => by simp [Zu] at h
 | .new .., _, h, _ => by simp [Zu] at h
 | .shape .., _, h, _ => by simp [Zu] at h
 | .freeze .., _, h, _ => by simp [Zu] at h
 | .frozen .., _, h, _ => by simp [Zu] at h
 | .getObj .., _, h, _ => by simp [Zu] at h
 | .setObj .., _, h, _ => by simp [Zu] at h
 | .choose .., _, h, _ => by simp [Zu] at h
 | .sys .., _, h, _ => by simp [Zu] at h
 | .mark .., _, h, _ => by simp [Zu] at h
 | .halt .., _, h, _ => by simp [Zu] at h
theorem nbeq {x y : Nat} (h : x ≠ y) : Nat.beq x y = false := by
 cases hb : Nat.beq x y
 ·rfl
 ·exact absurd (Nat.eq_of_beq_eq_true hb) h
def All2 {α β : Type} (R : α -> β -> Prop) : List α -> List β -> Prop
 | [], [] => True
 | a :: l, b :: m => R a b /\ All2 R l m
 | _, _ => False
section
variable {α β : Type} {R Q : α -> β -> Prop}
theorem All2.mono (h : ∀ a b, R a b -> Q a b) : ∀ {l : List α} {m : List β}, All2 R l m -> All2 Q l m
 | [], [], _ => True.intro
 | _ :: _, _ :: _, ⟨a, b⟩ => ⟨h _ _ a, All2.mono h b⟩
theorem All2.len : ∀ {l : List α} {m : List β}, All2 R l m -> l.length = m.length
 | [], [], _ => rfl
 | _ :: _, _ :: _, ⟨_, b⟩ => by simp [All2.len b]
theorem All2.get : ∀ {l : List α} {m : List β}, All2 R l m -> ∀ {i : Nat} {a : α}, l[i]? = some a -> ∃ b, m[i]? = some b /\ R a b
 | [], [], _, i, a, h => by simp at h
 | _ :: _, y :: _, ⟨p, q⟩, 0, a, h => by
  simp at h; subst h; exact ⟨y, by simp, p⟩
 | _ :: _, _ :: _, ⟨p, q⟩, i + 1, a, h => by
  simp at h; simpa using All2.get q h
theorem All2.set : ∀ {l : List α} {m : List β}, All2 R l m -> ∀ (i : Nat) {a : α} {b : β}, R a b -> All2 R (l.set i a) (m.set i b)
 | [], [], _, _, _, _, _ => True.intro
 | _ :: _, _ :: _, ⟨_, q⟩, 0, _, _, h => ⟨h, q⟩
 | _ :: _, _ :: _, ⟨p, q⟩, i + 1, _, _, h => ⟨p, All2.set q i h⟩
theorem All2.drop : ∀ {l : List α} {m : List β}, All2 R l m -> ∀ (i : Nat), All2 R (l.drop i) (m.drop i)
 | _, _, h, 0 => h
 | [], [], _, i + 1 => True.intro
 | _ :: _, _ :: _, ⟨_, q⟩, i + 1 => All2.drop q i
theorem All2.take : ∀ {l : List α} {m : List β}, All2 R l m -> ∀ (i : Nat), All2 R (l.take i) (m.take i)
 | l, m, h, 0 => by simp [All2]
 | [], [], _, i + 1 => True.intro
 | _ :: _, _ :: _, ⟨p, q⟩, i + 1 => ⟨p, All2.take q i⟩
theorem All2.app : ∀ {l : List α} {m : List β} {l' : List α} {m' : List β}, All2 R l m -> All2 R l' m' -> All2 R (l ++ l') (m ++ m')
 | [], [], _, _, _, h => h
 | _ :: _, _ :: _, _, _, ⟨p, q⟩, h => ⟨p, All2.app q h⟩
theorem All2.mapL {γ : Type} (f : γ -> α) : ∀ {l : List γ} {m : List β}, All2 (fun c b => R (f c) b) l m -> All2 R (l.map f) m
 | [], [], _ => True.intro
 | _ :: _, _ :: _, ⟨p, q⟩ => ⟨p, All2.mapL f q⟩
theorem All2.of_map (f : α -> β) : ∀ (l : List α), (∀ a ∈ l, R a (f a)) -> All2 R l (l.map f)
 | [], _ => True.intro
 | a :: l, h => ⟨h a (by simp), All2.of_map f l fun b hb => h b (by simp [hb])⟩
end
theorem Z8H {α β : Type} {f : α -> Option β} : ∀ {l : List α} {m : List β}, Z1N f l = some m -> All2 (fun a b => f a = some b) l m
 | [], m, h => by simp only [Z1N, Option.some.injEq] at h; subst h; exact True.intro
 | a :: l, m, h => by
  simp only [Z1N] at h
  split at h
  ·rename_i b hb
   split at h
   ·rename_i m' hm
    simp only [Option.some.injEq] at h; subst h
    exact ⟨hb, Z8H hm⟩
   ·cases h
  ·cases h
def atOf : Value -> Option (Nat × Nat)
 | .pointer (some ⟨b, o, none⟩) => some (b, o)
 | .slice (some ⟨b, o, none⟩) _ _ => some (b, o)
 | _ => none
def Z07 (v : Value) : Option Nat := match atOf v with | some (b, _) => some b | none => none
def Cells.ok : Cells -> Prop
 | .ints _ => True
 | .byts _ => True
 | .strs _ => True
 | .vals l => ∀ u ∈ l, u.oneCell' = true
theorem Cells.ok_one {c : Cells} (h : c.ok) : ∀ u ∈ c.toVals, u.oneCell' = true := by
 cases c with
 | ints l =>
  intro u hu
  obtain ⟨n, _, rfl⟩ := List.mem_map.1 hu
  rfl
 | byts l =>
  intro u hu
  obtain ⟨n, _, rfl⟩ := List.mem_map.1 hu
  rfl
 | strs l =>
  intro u hu
  obtain ⟨n, _, rfl⟩ := List.mem_map.1 hu
  rfl
 | vals l => exact h
theorem Cells.len_toVals (c : Cells) : c.toVals.length = c.len := by cases c <;> simp [Cells.toVals, Cells.len]
theorem Cells.get_toVals (c : Cells) {i : Nat} (h : i < c.len) : c.toVals[i]? = some (c.get i) := by
 cases c with
 | ints l =>
  have h' : i < l.length := h
  simp [Cells.toVals, Cells.get, h', List.getD_eq_getElem?_getD]
 | byts l =>
  have h' : i < l.length := h
  simp [Cells.toVals, Cells.get, h', List.getD_eq_getElem?_getD]
 | strs l =>
  have h' : i < l.length := h
  simp [Cells.toVals, Cells.get, h', List.getD_eq_getElem?_getD]
 | vals l =>
  have h' : i < l.length := h
  simp [Cells.toVals, Cells.get, h', List.getD_eq_getElem?_getD]
abbrev MV := Option (Value × Option Value)
def mB : MV -> Option Nat
 | some v => Z07 v.1
 | none => none
def Z16 (W : World) (M : Option Nat) (v : Value) (n : Nat) (c : Cells) : Prop :=
 c.ok /\ ((v = .slice none 0 0 /\ n = 0 /\ c.toVals = []) \/ ∃ g o cap, v = .slice (some ⟨g, o, none⟩) n cap /\ n <= cap /\ (M ≠ some g /\ g < W.heap.size) /\ ∀ j u, c.toVals[j]? = some u -> W.cell? ⟨g, o + j, none⟩ = some u)
def Inn (w : World) (l : List Int) (u : Value) : Prop := Z16 w none u l.length (.ints l)
def Held (w : World) (v : Value) : Blk -> Nat -> Prop
 | .fro _ _ _, g => Z07 v = some g
 | .dee own _ _ ls, g => (own = false /\ Z07 v = some g) \/ ∃ g0 o j u, atOf v = some (g0, o) /\ j < ls.length /\ w.cell? ⟨g0, o + j, none⟩ = some u /\ Z07 u = some g
 | _, _ => False
def Touch (w : World) (v : Value) (b : Blk) (g : Nat) : Prop := (ownB b = true /\ Z07 v = some g) \/ Held w v b g
def ZwI (r : Value) (off n : Nat) (q : Option Addr) (cap : Nat) : Prop :=
 (q = none /\ n = 0 /\ cap = 0) \/ ∃ g o o', atOf r = some (g, o) /\ q = some ⟨g, o', none⟩ /\ n <= cap /\ (0 < n -> o' = o + off)
def Zsg (P : Program) (W : World) (M : Option Nat) (v : Value) (g : List Value -> Option (Bool × Value)) : Prop :=
 ∃ (f : Nat) (caps : Array Value), v = .func (.func f) #[] caps /\ (∀ (args : Array Value) (w : World), (callFunc f args).run P w = .ok (.enter f args) w) /\
  ∀ w, W.grownBy w M -> ∀ args r, g args = some (true, r) -> Calls P f (args.toArray ++ caps) w fun e w' => e = .returned r /\ w.grownBy w' none
def TIRel (ρ : Nat -> Value) (H : Nat -> Option Blk) : TI -> Value -> Prop
 | .v x, v => v = x
 | .r id, v => (H id).isSome = true /\ v = ρ id
def CapRel (ρ : Nat -> Value) (H : Nat -> Option Blk) (id : Nat) (v : Value) : Prop :=
 (H id).isSome = true /\ ∃ g o, atOf (ρ id) = some (g, o) /\ v = .pointer (some ⟨g, o, none⟩)
section
variable (P : Program) (W : World) (M : MV)
def Rel (ρ : Nat -> Value) (H : Nat -> Option Blk) : SV -> Value -> Prop
 | .val x, v => v = x
 | .ptr id off, v => (H id).isSome = true /\ ∃ g o, atOf (ρ id) = some (g, o) /\ v = .pointer (some ⟨g, o + off, none⟩)
 | .row id, v => (H id).isSome = true /\ v = ρ id
 | .sub id off n _, v => (H id).isSome = true /\ ∃ q cap, v = .slice q n cap /\ ZwI (ρ id) off n q cap
 | .clo f l, v => ∃ vs : List Value, v = .func (.func f) #[] vs.toArray /\ All2 (CapRel ρ H) l vs
 | .fn g, v => Zsg P W (mB M) v g
 | .tup l, v => ∃ vs : List Value, v = .tuple vs.toArray /\ All2 (TIRel ρ H) l vs
 | .agr l, v => ∃ vs : List Value, v = .agg vs.toArray /\ All2 (TIRel ρ H) l vs
 | .junk, _ => True
def Own (g : Nat) : Prop := W.heap.size <= g \/ mB M = some g
def BRel (w : World) (ρ : Nat -> Value) (H : Nat -> Option Blk) (id : Nat) : Blk -> Prop
 | .box e cells => ∃ g cs, ρ id = .pointer (some ⟨g, 0, none⟩) /\ Own W M g /\ w.heap[g]? = some (.cells cs e (0, 0)) /\ All2 (Rel P W M ρ H) cells cs.toList
 | .row e sz n c => c.ok /\ w.ownsRow 0 e sz (ρ id) n c.toVals /\ ∀ g, Z07 (ρ id) = some g -> Own W M g
 | .ros n c => Z16 W (mB M) (ρ id) n c
 | .rop cells => ∃ g o, ρ id = .pointer (some ⟨g, o, none⟩) /\ mB M ≠ some g /\ ∀ j v, cells[j]? = some v -> ∃ u, W.cell? ⟨g, o + j, none⟩ = some u /\ Rel P W M ρ H v u
 | .fro fr n c => Z16 w none (ρ id) n c /\ (fr = true -> ∀ g, Z07 (ρ id) = some g -> Own W M g)
 | .dee own fr e ls => (∃ vs : List Value, All2 (Inn w) ls vs /\ (own = true -> w.ownsRow 0 e 1 (ρ id) ls.length vs) /\ (own = false -> Z16 w none (ρ id) ls.length (.vals vs))) /\ (own = true -> ∀ g, Z07 (ρ id) = some g -> Own W M g) /\ (fr = true -> ∀ g, Held w (ρ id) (.dee own fr e ls) g -> Own W M g)
structure R (n : Nat) (s : FSt) (a : Act) (w : World) (ρ : Nat -> Value) : Prop where
 grown : W.grownBy w (mB M)
 size : a.tmps.size = n
 defers : a.defers = []
 slots : ∀ t, Rel P W M ρ s.heap (s.slot t) (a.tmps.getD t undef)
 heap : ∀ id b, s.heap id = some b -> BRel P W M w ρ s.heap id b
 apart : ∀ i j bi bj g, i ≠ j -> s.heap i = some bi -> s.heap j = some bj -> ownB bi = true -> ownB bj = true -> Z07 (ρ i) = some g -> Z07 (ρ j) ≠ some g
 froz : ∀ i b g, s.heap i = some b -> Held w (ρ i) b g -> ∀ j bj, s.heap j = some bj -> ownB bj = true -> Z07 (ρ j) ≠ some g
 fix : ∀ v, M = some v -> 0 < n /\ ((s.heap 0).isSome = true /\ ρ 0 = v.1) /\ ∀ u, v.2 = some u -> (s.heap 1).isSome = true /\ ρ 1 = u
end
section
variable {P : Program} {W : World} {M : MV} {n : Nat} {s : FSt} {a : Act} {w : World} {ρ ρ' : Nat -> Value} {H H' : Nat -> Option Blk}
theorem TIRel.mono (h : ∀ id, (H id).isSome = true -> (H' id).isSome = true /\ ρ' id = ρ id) {x : TI} {v : Value} (k : TIRel ρ H x v) : TIRel ρ' H' x v := by
 cases x with
 | v x => exact k
 | r id => exact ⟨(h id k.1).1, by rw [(h id k.1).2]; exact k.2⟩
theorem CapRel.mono (h : ∀ id, (H id).isSome = true -> (H' id).isSome = true /\ ρ' id = ρ id) {x : Nat} {v : Value} (k : CapRel ρ H x v) : CapRel ρ' H' x v :=
 ⟨(h x k.1).1, by rw [(h x k.1).2]; exact k.2⟩
theorem Rel.mono (h : ∀ id, (H id).isSome = true -> (H' id).isSome = true /\ ρ' id = ρ id) {x : SV} {v : Value} (k : Rel P W M ρ H x v) : Rel P W M ρ' H' x v := by
 cases x with
 | val x => exact k
 | ptr id off => exact ⟨(h id k.1).1, by rw [(h id k.1).2]; exact k.2⟩
 | row id => exact ⟨(h id k.1).1, by rw [(h id k.1).2]; exact k.2⟩
 | sub id off m z => exact ⟨(h id k.1).1, by rw [(h id k.1).2]; exact k.2⟩
 | clo f l => exact ⟨k.choose, k.choose_spec.1, k.choose_spec.2.mono fun _ _ => CapRel.mono h⟩
 | fn g => exact k
 | tup l => exact ⟨k.choose, k.choose_spec.1, k.choose_spec.2.mono fun _ _ => TIRel.mono h⟩
 | agr l => exact ⟨k.choose, k.choose_spec.1, k.choose_spec.2.mono fun _ _ => TIRel.mono h⟩
 | junk => exact k
theorem BRel.mono (h : ∀ id, (H id).isSome = true -> (H' id).isSome = true /\ ρ' id = ρ id) {id : Nat} {b : Blk} (hid : ρ' id = ρ id) (k : BRel P W M w ρ H id b) : BRel P W M w ρ' H' id b := by
 cases b with
 | box e cells =>
  obtain ⟨g, cs, h1, h2, h3, h4⟩ := k
  exact ⟨g, cs, by rw [hid]; exact h1, h2, h3, h4.mono fun _ _ => Rel.mono h⟩
 | row e sz m c =>
  obtain ⟨h1, h2, h3⟩ := k
  exact ⟨h1, by rw [hid]; exact h2, by rw [hid]; exact h3⟩
 | ros m c => simp only [BRel] at k ⊢; rw [hid]; exact k
 | fro fr m c => simp only [BRel] at k ⊢; rw [hid]; exact k
 | dee own fr e ls => simp only [BRel] at k ⊢; rw [hid]; exact k
 | rop cells =>
  obtain ⟨g, o, h1, h2, h3⟩ := k
  refine ⟨g, o, by rw [hid]; exact h1, h2, fun j v hv => ?_⟩
  obtain ⟨u, hu, hr⟩ := h3 j v hv
  exact ⟨u, hu, hr.mono h⟩
theorem Z3O {e sz m : Nat} {v : Value} {xs : List Value} {b : Nat} (h : w.ownsRow b e sz v m xs) : v.ownBlock = Z07 v := by
 rcases h.2 with ⟨rfl, _⟩ | ⟨g, cap, cur, rfl, _⟩ <;> rfl
theorem Zh9 {w' : World} {row : Option Nat} {v : Value} {m : Nat} {c : Cells} (h : Z16 w none v m c) (hg : w.grownBy w' row) (hne : ∀ g, Z07 v = some g -> row ≠ some g) : Z16 w' none v m c := by
 refine ⟨h.1, ?_⟩
 rcases h.2 with h0 | ⟨g, o, cap, h1, h2, h3, h4⟩
 ·exact .inl h0
 ·refine .inr ⟨g, o, cap, h1, h2, ⟨by simp, Nat.lt_of_lt_of_le h3.2 hg.size⟩, fun j u hu => World.grownBy.cell hg (h4 j u hu) (fun e => hne g (by rw [h1]; rfl) e.symm)⟩
theorem Zsp {α β : Type} {R Q : α -> β -> Prop} : ∀ {l : List α} {m : List β}, (∀ (j : Nat) (a : α) (b : β), l[j]? = some a -> m[j]? = some b -> R a b -> Q a b) -> All2 R l m -> All2 Q l m
 | [], [], _, _ => True.intro
 | a :: l, b :: m, h, ⟨p, q⟩ => ⟨h 0 a b rfl rfl p, Zsp (fun j x y hx hy => h (j + 1) x y (by simpa using hx) (by simpa using hy)) q⟩
theorem ZhN {α β : Type} {R : α -> β -> Prop} : ∀ {l : List α} {m : List β}, All2 R l m -> ∀ {j : Nat} {a : α} {b : β}, l[j]? = some a -> m[j]? = some b -> R a b
 | [], [], _, j, a, b, h, _ => by simp at h
 | x :: l, y :: m, ⟨p, q⟩, 0, a, b, h1, h2 => by simp at h1 h2; rw [<- h1, <- h2]; exact p
 | x :: l, y :: m, ⟨p, q⟩, j + 1, a, b, h1, h2 => ZhN q (by simpa using h1) (by simpa using h2)
theorem Zbj {own : Bool} {e : TypeId} {m : Nat} {v : Value} {vs : List Value} (hl : vs.length = m) (h1 : own = true -> w.ownsRow 0 e 1 v m vs) (h2 : own = false -> Z16 w none v m (.vals vs)) {j : Nat} {u : Value} (hu : vs[j]? = some u) : j < m /\ ∃ g0 o, atOf v = some (g0, o) /\ g0 < w.heap.size /\ w.cell? ⟨g0, o + j, none⟩ = some u := by
 cases own with
 | true =>
  have h := h1 rfl
  have Z5e := h.1
  have hj : j < m := by have := (List.getElem?_eq_some_iff.1 hu).1; omega
  rcases h.2 with ⟨_, h0⟩ | ⟨g, cap, cur, rfl, hb, hg, hc, hm, hz, hx⟩
  ·omega
  ·refine ⟨hj, g, 0, rfl, (Array.getElem?_eq_some_iff.1 hg).1, ?_⟩
   have := h.cells (g := g) rfl j u hu
   have e : (⟨g, 0, none⟩ : Addr).add j = ⟨g, 0 + j, none⟩ := by unfold Addr.add; split <;> simp_all
   rwa [e] at this
 | false =>
  have h := h2 rfl
  rcases h.2 with ⟨_, _, h0⟩ | ⟨g, o, cap, rfl, hc, h3, h4⟩
  ·rw [show vs = [] from h0] at hu; simp at hu
  ·exact ⟨by have := (List.getElem?_eq_some_iff.1 hu).1; omega, g, o, rfl, h3.2, h4 j u hu⟩
theorem Zbm {own fr : Bool} {e : TypeId} {ls : List (List Int)} {v : Value} {vs : List Value} (hl : vs.length = ls.length) (h1 : own = true -> w.ownsRow 0 e 1 v ls.length vs) (h2 : own = false -> Z16 w none v ls.length (.vals vs)) {g : Nat} (hh : Held w v (.dee own fr e ls) g) : (own = false /\ Z07 v = some g) \/ ∃ u ∈ vs, Z07 u = some g := by
 rcases hh with h | ⟨g0, o, j, u, k1, k2, k3, k4⟩
 ·exact .inl h
 ·have hj : j < vs.length := by omega
  obtain ⟨_, g1, o1, a1, _, a3⟩ := Zbj hl h1 h2 (List.getElem?_eq_getElem hj)
  rw [k1] at a1
  obtain ⟨rfl, rfl⟩ : g0 = g1 /\ o = o1 := by simpa using a1
  rw [k3] at a3
  obtain rfl := Option.some.inj a3
  exact .inr ⟨_, List.getElem_mem hj, k4⟩
theorem Zbr {own fr : Bool} {e : TypeId} {ls : List (List Int)} {v : Value} {vs : List Value} (hl : vs.length = ls.length) (h1 : own = true -> w.ownsRow 0 e 1 v ls.length vs) (h2 : own = false -> Z16 w none v ls.length (.vals vs)) {g : Nat} {u : Value} (hu : u ∈ vs) (hg : Z07 u = some g) : Held w v (.dee own fr e ls) g := by
 obtain ⟨j, hj, rfl⟩ := List.getElem_of_mem hu
 obtain ⟨c1, g1, o1, a1, _, a3⟩ := Zbj hl h1 h2 (List.getElem?_eq_getElem hj)
 exact .inr ⟨g1, o1, j, _, a1, c1, a3, hg⟩
theorem Held.back {w' : World} {row : Option Nat} {id : Nat} {b : Blk} (k : BRel P W M w ρ H id b) (hg : w.grownBy w' row) (hne : ∀ g, Touch w (ρ id) b g -> row ≠ some g) {g : Nat} (h : Held w' (ρ id) b g) : Held w (ρ id) b g := by
 cases b with
 | box _ _ => cases h
 | row _ _ _ _ => cases h
 | ros _ _ => cases h
 | rop _ => cases h
 | fro _ _ _ => exact h
 | dee own fr e ls =>
  rcases h with h | ⟨g0, o, j, u, h1, h2, h3, h4⟩
  ·exact .inl h
  ·refine .inr ⟨g0, o, j, u, h1, h2, ?_, h4⟩
   have ho : Z07 (ρ id) = some g0 := by unfold Z07; rw [h1]
   have ht : Touch w (ρ id) (.dee own fr e ls) g0 := by
    cases own with
    | true => exact .inl ⟨rfl, ho⟩
    | false => exact .inr (.inl ⟨rfl, ho⟩)
   obtain ⟨⟨vs, q2, q3, q4⟩, _, _⟩ := k
   have hj : j < vs.length := by rw [<- q2.len]; exact h2
   obtain ⟨_, g1, o1, a1, a2, _⟩ := Zbj q2.len.symm q3 q4 (List.getElem?_eq_getElem hj)
   rw [h1] at a1
   obtain ⟨rfl, rfl⟩ : g0 = g1 /\ o = o1 := by simpa using a1
   have := hg.block g0 a2 (fun e => hne g0 ht e.symm)
   unfold World.cell? at h3 ⊢
   rw [this] at h3
   exact h3
def nh : Blk -> Bool
 | .fro .. => false
 | .dee .. => false
 | _ => true
theorem Zwa {b : Blk} (h : nh b = true) {w : World} {v : Value} {g : Nat} (k : Held w v b g) : False := by
 cases b <;> first | exact k | cases h
theorem Zah {w' : World} {row : Option Nat} {id : Nat} {b : Blk} (k : BRel P W M w ρ H id b) (hg : w.grownBy w' row) (hne : ∀ g, Touch w (ρ id) b g -> row ≠ some g) {g : Nat} (h : Touch w' (ρ id) b g) : Touch w (ρ id) b g := h.imp (fun q => q) (Held.back k hg hne)
theorem BRel.grown {w' : World} {row : Option Nat} {id : Nat} {b : Blk} (k : BRel P W M w ρ H id b) (hg : w.grownBy w' row) (hne : ∀ g, Touch w (ρ id) b g -> row ≠ some g) : BRel P W M w' ρ H id b := by
 have hback := @Held.back P W M w ρ H w' row id b k hg hne
 cases b with
 | box e cells =>
  obtain ⟨g, cs, h1, h2, h3, h4⟩ := k
  refine ⟨g, cs, h1, h2, ?_, h4⟩
  rw [hg.block g (Array.getElem?_eq_some_iff.1 h3).1 (fun e => hne g (.inl ⟨rfl, by rw [h1]; rfl⟩) e.symm)]
  exact h3
 | row e sz m c =>
  obtain ⟨h1, h2, h3⟩ := k
  refine ⟨h1, h2.kept hg ?_, h3⟩
  rw [Z3O h2]
  cases ho : Z07 (ρ id) with
  | none => exact .inl rfl
  | some g => exact .inr fun e => hne g (.inl ⟨rfl, ho⟩) e.symm
 | ros m c => exact k
 | rop cells => exact k
 | fro fr m c => exact ⟨Zh9 k.1 hg fun g h => hne g (.inr h), k.2⟩
 | dee own fr e ls =>
  obtain ⟨⟨vs, q2, q3, q4⟩, q5, q6⟩ := k
  refine ⟨⟨vs, Zsp (fun j l u hl hu hi => ?_) q2, fun ho => ?_, fun ho => ?_⟩, q5, fun hf g hh => q6 hf g (hback hh)⟩
  ·obtain ⟨c1, g0, o, c2, c3, c4⟩ := Zbj q2.len.symm q3 q4 hu
   exact Zh9 hi hg fun g h => hne g (.inr (.inr ⟨g0, o, j, u, c2, c1, c4, h⟩))
  ·have h2 := q3 ho
   refine h2.kept hg ?_
   rw [Z3O h2]
   cases hq : Z07 (ρ id) with
   | none => exact .inl rfl
   | some g => exact .inr fun e => hne g (.inl ⟨ho, hq⟩) e.symm
  ·exact Zh9 (q4 ho) hg fun g h => hne g (.inr (.inl ⟨ho, h⟩))
theorem Zxk {id : Nat} {b : Blk} (k : BRel P W M w ρ H id b) (hb : ownB b = true) {g : Nat} (hg : Z07 (ρ id) = some g) : g < w.heap.size := by
 cases b with
 | box e cells =>
  obtain ⟨g', cs, h1, h2, h3, h4⟩ := k
  rw [h1] at hg
  obtain rfl : g' = g := by simpa [Z07, atOf] using hg
  exact (Array.getElem?_eq_some_iff.1 h3).1
 | row e sz m c => exact (k.2.1.lt g (by rw [Z3O k.2.1]; exact hg)).2
 | ros m c => cases hb
 | rop cells => cases hb
 | fro fr m c => cases hb
 | dee own fr e ls =>
  obtain ⟨⟨vs, q2, q3, q4⟩, q5, q6⟩ := k
  have h2 := q3 hb
  exact (h2.lt g (by rw [Z3O h2]; exact hg)).2
theorem Zpn {v : Value} {m : Nat} {c : Cells} (h : Z16 w none v m c) {g : Nat} (hg : Z07 v = some g) : g < w.heap.size := by
 rcases h.2 with ⟨rfl, _⟩ | ⟨g', o, cap, rfl, h2, h3, h4⟩
 ·cases hg
 ·obtain rfl : g' = g := by simpa [Z07, atOf] using hg
  exact h3.2
theorem Zw9 {id : Nat} {b : Blk} (k : BRel P W M w ρ H id b) {g : Nat} (hh : Held w (ρ id) b g) : g < w.heap.size := by
 cases b with
 | box _ _ => cases hh
 | row _ _ _ _ => cases hh
 | ros _ _ => cases hh
 | rop _ => cases hh
 | fro fr m c => exact Zpn k.1 hh
 | dee own fr e ls =>
  obtain ⟨⟨vs, q2, q3, q4⟩, q5, q6⟩ := k
  rcases hh with ⟨h1, h2⟩ | ⟨g0, o, j, u, h1, h2, h3, h4⟩
  ·exact Zpn (q4 h1) h2
  ·have hl : vs.length = ls.length := q2.len.symm
   have hj : j < vs.length := by omega
   obtain ⟨_, g1, o1, a1, a2, a3⟩ := Zbj hl q3 q4 (List.getElem?_eq_getElem hj)
   rw [h1] at a1
   obtain ⟨rfl, rfl⟩ : g0 = g1 /\ o = o1 := by simpa using a1
   rw [h3] at a3
   obtain rfl := Option.some.inj a3
   have hj' : j < ls.length := by omega
   have := ZhN q2 (List.getElem?_eq_getElem hj') (List.getElem?_eq_getElem hj)
   exact Zpn this h4
theorem Zeg {id : Nat} {b : Blk} (k : BRel P W M w ρ H id b) {g : Nat} (hh : Touch w (ρ id) b g) : g < w.heap.size := by
 rcases hh with ⟨h1, h2⟩ | h
 ·exact Zxk k h1 h2
 ·exact Zw9 k h
theorem Z78 {w' : World} {row : Option Nat} (h : W.grownBy w (mB M)) (k : w.grownBy w' row) (hr : ∀ g, row = some g -> Own W M g) : W.grownBy w' (mB M) :=
 ⟨k.os.trans h.os, k.tape.trans h.tape, k.output.trans h.output, Nat.le_trans h.size k.size, fun i hi hne => by
  rw [k.block i (Nat.lt_of_lt_of_le hi h.size) (fun e => ?_), h.block i hi hne]
  rcases hr i e.symm with h1 | h1
  ·omega
  ·exact hne h1.symm⟩
theorem R.ext (h : R P W M n s a w ρ) {w' : World} (hg : w.grownBy w' none) : R P W M n s a w' ρ where
 grown := Z78 h.grown hg (fun _ e => by cases e)
 size := h.size
 defers := h.defers
 slots := h.slots
 heap := fun id b hb => (h.heap id b hb).grown hg (fun _ _ e => by cases e)
 apart := h.apart
 froz := fun i b g hb hh => h.froz i b g hb (Held.back (h.heap i b hb) hg (fun _ _ e => by cases e) hh)
 fix := h.fix
theorem ZvS (a : Act) (d t : Nat) (v : Value) (hd : d < a.tmps.size) : (a.put (some d) v).tmps.getD t undef = if t = d then v else a.tmps.getD t undef := by
 unfold Act.put
 by_cases e : t = d
 ·subst e
  simp [hd]
 ·simp only [Array.getD_eq_getD_getElem?, Array.getElem?_setIfInBounds_ne (fun h => e h.symm), if_neg e]
theorem R.put (h : R P W M n s a w ρ) {d : Option Nat} {x : SV} {v : Value} (hd : Z0b n d = true) (hx : d = none \/ Rel P W M ρ s.heap x v) : R P W M n (s.put d x) (a.put d v) w ρ := by
 cases d with
 | none => exact h
 | some d =>
  have hd' : d < a.tmps.size := by
   rw [h.size]; simp [Z0b] at hd; omega
  refine ⟨h.grown, by simpa [Act.put] using h.size, h.defers, fun t => ?_, h.heap, h.apart, h.froz, h.fix⟩
  rw [ZvS a d t v hd']
  show Rel P W M ρ s.heap (bif Nat.beq t d then x else s.slot t) _
  by_cases e : t = d
  ·subst e
   simp only [if_true]
   have : Nat.beq t t = true := by simp
   rw [this]
   rcases hx with hx | hx
   ·cases hx
   ·exact hx
  ·rw [if_neg e]
   have : Nat.beq t d = false := nbeq e
   rw [this]
   exact h.slots t
theorem R.new (h : R P W M n s a w ρ) {i : Nat} {b : Blk} {v : Value} (hi : s.heap i = none) (hb : BRel P W M w (fun x => if x = i then v else ρ x) (s.set i b).heap i b)
  (hap : ownB b = true -> ∀ g, Z07 v = some g -> ∀ j bj, s.heap j = some bj -> ¬ Touch w (ρ j) bj g)
  (hfz : ∀ g, Held w v b g -> (ownB b = true -> Z07 v ≠ some g) /\ ∀ j bj, s.heap j = some bj -> ownB bj = true -> Z07 (ρ j) ≠ some g) : R P W M n (s.set i b) a w (fun x => if x = i then v else ρ x) := by
 have hm : ∀ id, (s.heap id).isSome = true -> ((s.set i b).heap id).isSome = true /\ (fun x => if x = i then v else ρ x) id = ρ id := by
  intro id hid
  have hne : id ≠ i := by rintro rfl; rw [hi] at hid; cases hid
  have : Nat.beq id i = false := nbeq hne
  exact ⟨by simp only [FSt.set, this, cond_false]; exact hid, if_neg hne⟩
 have hheap : ∀ id c, (s.set i b).heap id = some c -> (id = i /\ c = b) \/ (id ≠ i /\ s.heap id = some c) := by
  intro id c hc
  by_cases e : id = i
  ·subst e
   have : Nat.beq id id = true := by simp
   simp only [FSt.set, this, cond_true, Option.some.injEq] at hc
   exact .inl ⟨rfl, hc.symm⟩
  ·have : Nat.beq id i = false := nbeq e
   simp only [FSt.set, this, cond_false] at hc
   exact .inr ⟨e, hc⟩
 refine ⟨h.grown, h.size, h.defers, fun t => (h.slots t).mono hm, fun id c hc => ?_, fun x y bx by_ g hxy hx hy ox oy gx => ?_, fun x bx g hx hh y by_ hy oy gy => ?_, fun v0 hv0 => ?_⟩
 rotate_right
 ·obtain ⟨f1, f2, f3⟩ := h.fix v0 hv0
  exact ⟨f1, ⟨(hm 0 f2.1).1, (hm 0 f2.1).2.trans f2.2⟩, fun u hu => ⟨(hm 1 (f3 u hu).1).1, (hm 1 (f3 u hu).1).2.trans (f3 u hu).2⟩⟩
 ·rcases hheap id c hc with ⟨rfl, rfl⟩ | ⟨hne, hc⟩
  ·exact hb
  ·exact (h.heap id c hc).mono hm (if_neg hne)
 ·rcases hheap x bx hx with ⟨rfl, rfl⟩ | ⟨hnx, hx'⟩ <;> rcases hheap y by_ hy with ⟨rfl, rfl⟩ | ⟨hny, hy'⟩
  ·exact absurd rfl hxy
  ·simp only [if_true] at gx
   simp only [if_neg hny]
   exact fun q => hap ox g gx y by_ hy' (.inl ⟨oy, q⟩)
  ·simp only [if_true]
   simp only [if_neg hnx] at gx
   intro gy
   exact hap oy g gy x bx hx' (.inl ⟨ox, gx⟩)
  ·simp only [if_neg hnx] at gx
   simp only [if_neg hny]
   exact h.apart x y bx by_ g hxy hx' hy' ox oy gx
 ·rcases hheap x bx hx with ⟨rfl, rfl⟩ | ⟨hnx, hx'⟩ <;> rcases hheap y by_ hy with ⟨rfl, rfl⟩ | ⟨hny, hy'⟩
  ·simp only [if_true] at hh gy
   exact (hfz g hh).1 oy gy
  ·simp only [if_true] at hh
   simp only [if_neg hny] at gy
   exact (hfz g hh).2 y by_ hy' oy gy
  ·simp only [if_neg hnx] at hh
   simp only [if_true] at gy
   exact hap oy g gy x bx hx' (.inr hh)
  ·simp only [if_neg hnx] at hh
   simp only [if_neg hny] at gy
   exact h.froz x bx g hx' hh y by_ hy' oy gy
theorem R.write (h : R P W M n s a w ρ) {i : Nat} {b b' : Blk} {w' : World} {g : Nat} (hi : s.heap i = some b) (hob : ownB b = true) (hob' : ownB b' = true) (hgi : Z07 (ρ i) = some g) (hown : Own W M g) (hg : w.grownBy w' (some g))
  (hb : BRel P W M w' ρ s.heap i b') (hfz : ∀ g, Held w' (ρ i) b' g -> ∀ j bj, s.heap j = some bj -> ownB bj = true -> Z07 (ρ j) ≠ some g) : R P W M n (s.set i b') a w' ρ := by
 have hm : ∀ id, (s.heap id).isSome = true -> ((s.set i b').heap id).isSome = true /\ ρ id = ρ id := by
  intro id hid
  refine ⟨?_, rfl⟩
  show (bif Nat.beq id i then some b' else s.heap id).isSome = true
  cases Nat.beq id i
  ·exact hid
  ·rfl
 have hheap : ∀ id c, (s.set i b').heap id = some c -> (id = i /\ c = b') \/ (id ≠ i /\ s.heap id = some c) := by
  intro id c hc
  by_cases e : id = i
  ·subst e
   have : Nat.beq id id = true := by simp
   simp only [FSt.set, this, cond_true, Option.some.injEq] at hc
   exact .inl ⟨rfl, hc.symm⟩
  ·have : Nat.beq id i = false := nbeq e
   simp only [FSt.set, this, cond_false] at hc
   exact .inr ⟨e, hc⟩
 have hoff : ∀ id c, id ≠ i -> s.heap id = some c -> ∀ g', Touch w (ρ id) c g' -> some g ≠ some g' := by
  intro id c hne hc g' ht e
  cases e
  rcases ht with ⟨oc, hg'⟩ | hh
  ·exact h.apart i id b c g (Ne.symm hne) hi hc hob oc hgi hg'
  ·exact h.froz id c g hc hh i b hi hob hgi
 refine ⟨Z78 h.grown hg (fun x e => by cases e; exact hown), h.size, h.defers, fun t => (h.slots t).mono hm, fun id c hc => ?_, fun x y bx by_ g' hxy hx hy ox oy gx => ?_, fun x bx g2 hx hh y by_ hy oy gy => ?_, fun v0 hv0 => ⟨(h.fix v0 hv0).1, ⟨(hm 0 (h.fix v0 hv0).2.1.1).1, (h.fix v0 hv0).2.1.2⟩, fun u hu => ⟨(hm 1 ((h.fix v0 hv0).2.2 u hu).1).1, ((h.fix v0 hv0).2.2 u hu).2⟩⟩⟩
 ·rcases hheap id c hc with ⟨rfl, rfl⟩ | ⟨hne, hc⟩
  ·exact hb.mono hm rfl
  ·refine ((h.heap id c hc).grown hg (hoff id c hne hc)).mono hm rfl
 ·rcases hheap x bx hx with ⟨rfl, rfl⟩ | ⟨hnx, hx'⟩ <;> rcases hheap y by_ hy with ⟨rfl, rfl⟩ | ⟨hny, hy'⟩
  ·exact absurd rfl hxy
  ·exact h.apart _ _ _ _ g' hxy hi hy' hob oy gx
  ·exact h.apart _ _ _ _ g' hxy hx' hi ox hob gx
  ·exact h.apart _ _ _ _ g' hxy hx' hy' ox oy gx
 ·rcases hheap x bx hx with ⟨rfl, rfl⟩ | ⟨hnx, hx'⟩ <;> rcases hheap y by_ hy with ⟨rfl, rfl⟩ | ⟨hny, hy'⟩
  ·exact hfz g2 hh _ _ hi hob gy
  ·exact hfz g2 hh y by_ hy' oy gy
  ·exact h.froz x bx g2 hx' (Held.back (h.heap x bx hx') hg (hoff x bx hnx hx') hh) _ _ hi hob gy
  ·exact h.froz x bx g2 hx' (Held.back (h.heap x bx hx') hg (hoff x bx hnx hx') hh) y by_ hy' oy gy
end

def GOK (W : World) : Prop := gvars.length <= W.heap.size /\ ∀ g vals, gvars[g]? = some vals -> ∀ j u, vals[j]? = some u -> W.cell? ⟨g, j, none⟩ = some u
def Base (W : World) (M : MV) : Prop := GOK W /\ ∀ g, mB M = some g -> gvars.length <= g
theorem GOK.grown {W w : World} {row : Option Nat} (h : GOK W) (hg : W.grownBy w row) (hr : ∀ g, row = some g -> gvars.length <= g) : GOK w :=
 ⟨Nat.le_trans h.1 hg.size, fun g vals hv j u hu => World.grownBy.cell hg (h.2 g vals hv j u hu) fun e => by
  have h1 := hr g e.symm
  have h2 := (List.getElem?_eq_some_iff.1 hv).1
  omega⟩
def Callable (P : Program) (f : Nat) : Prop := ∀ (args : Array Value) (w : World), (callFunc f args).run P w = .ok (.enter f args) w
def Z5s (P : Program) (W : World) : PV -> Value -> Prop
 | .v x, a => a = x
 | .s n c, a => Z16 W none a n c
 | .f g, a => Zsg P W none a g
 | .p l, a => ∃ g o, a = .pointer (some ⟨g, o, none⟩) /\ ∀ j u, l[j]? = some u -> W.cell? ⟨g, o + j, none⟩ = some u
 | .ps n c, a => ∃ g o v, a = .pointer (some ⟨g, o, none⟩) /\ W.cell? ⟨g, o, none⟩ = some v /\ Z16 W none v n c
 | .pf f, a => ∃ g o v, a = .pointer (some ⟨g, o, none⟩) /\ W.cell? ⟨g, o, none⟩ = some v /\ Zsg P W none v f
 | .d ls, a => ∃ vs, All2 (Inn W) ls vs /\ Z16 W none a ls.length (.vals vs)
def TRel (W W' : World) : TR -> Value -> Prop
 | .v x, v => v = x
 | .s e sz n c, v => c.ok /\ W'.ownsRow W.heap.size e sz v n c.toVals
 | .d e ls, v => ∃ vs, All2 (Inn W') ls vs /\ W'.ownsRow W.heap.size e 1 v ls.length vs /\ ∀ u ∈ vs, ∀ g, Z07 u = some g -> W.heap.size <= g /\ Z07 v ≠ some g
def SOff (g : Nat) : List TR -> List Value -> Prop
 | .s _ _ _ _ :: l, v :: vs => Z07 v ≠ some g /\ SOff g l vs
 | .v _ :: l, _ :: vs => SOff g l vs
 | .d _ _ :: _, _ :: _ => False
 | _, _ => True
def TApart : List TR -> List Value -> Prop
 | .s _ _ _ _ :: l, v :: vs => (∀ g, Z07 v = some g -> SOff g l vs) /\ TApart l vs
 | .d _ _ :: l, _ :: _ => l = []
 | _ :: l, _ :: vs => TApart l vs
 | _, _ => True
def Zfs (W W' : World) (rs : List TR) (rv : Value) : Prop := match rs with
 | [r] => TRel W W' r rv
 | rs => ∃ vs : List Value, rv = .tuple vs.toArray /\ All2 (TRel W W') rs vs /\ TApart rs vs
def Sound (P : Program) (g : Nat) (run : List PV -> Option (Bool × List TR)) : Prop :=
 ∀ (W : World) (pvs : List PV) (avs : List Value) (rs : List TR), GOK W -> All2 (Z5s P W) pvs avs -> run pvs = some (true, rs) ->
  Calls P g avs.toArray W fun e W' => ∃ rv, e = .returned rv /\ Zfs W W' rs rv /\ W.grownBy W' none
def Zum (P : Program) (g : Nat) (run : MRun) : Prop :=
 ∀ (W : World) (e : TypeId) (sz n : Nat) (c : Cells) (v : Value) (vs : List Value) (r : Value) (c' : Cells), GOK W -> (∀ g, Z07 v = some g -> gvars.length <= g) -> c.ok -> W.ownsRow 0 e sz v n c.toVals -> run e sz n c vs = some (true, r, c') ->
  Calls P g (v :: vs).toArray W fun x W' => x = .returned r /\ c'.ok /\ W'.ownsRow 0 e sz v n c'.toVals /\ W.grownBy W' (Z07 v)
def BCRel (W : World) (b : Nat) : BC -> Value -> Prop
 | .v x, a => a = x
 | .s n c, a => Z16 W (some b) a n c
def ArgB (W : World) (b : Nat) : PV -> Value -> Prop
 | .v x, a => a = x
 | .s n c, a => Z16 W (some b) a n c
 | _, _ => False
def newC : List BC -> List Value -> List Value
 | .v x :: l, _ :: m => x :: newC l m
 | .s _ _ :: l, u :: m => u :: newC l m
 | _, _ => []
def Zjg : List Value -> Value
 | [x] => x
 | l => .tuple l.toArray
def Z7E (P : Program) (g : Nat) (run : PRun) : Prop :=
 ∀ (W : World) (e : TypeId) (b : Nat) (cs : Array Value) (bcs : List BC) (pvs : List PV) (avs rs : List Value) (bcs' : List BC), GOK W -> gvars.length <= b -> W.heap[b]? = some (.cells cs e (0, 0)) -> All2 (BCRel W b) bcs cs.toList -> All2 (ArgB W b) pvs avs ->
  run e bcs pvs = some (true, rs, bcs') -> Zhb bcs bcs' = true -> Calls P g (.pointer (some ⟨b, 0, none⟩) :: avs).toArray W fun y W' => y = .returned (Zjg rs) /\ W'.heap[b]? = some (.cells (newC bcs' cs.toList).toArray e (0, 0)) /\ W.grownBy W' (some b)
def Zul (P : Program) (g : Nat) (run : PRun) : Prop :=
 ∀ (W : World) (e : TypeId) (b g' o' : Nat) (cs : Array Value) (bcs : List BC) (pvs : List PV) (avs rs : List Value) (bcs' : List BC), GOK W -> gvars.length <= b -> W.heap[b]? = some (.cells cs e (0, 0)) -> W.cell? ⟨g', o', none⟩ = some (.pointer (some ⟨b, 0, none⟩)) -> g' ≠ b -> All2 (BCRel W b) bcs cs.toList -> All2 (ArgB W b) pvs avs ->
  run e bcs pvs = some (true, rs, bcs') -> Zhb bcs bcs' = true -> Calls P g (avs ++ [Value.pointer (some ⟨g', o', none⟩)]).toArray W fun y W' => y = .returned (Zjg rs) /\ W'.heap[b]? = some (.cells (newC bcs' cs.toList).toArray e (0, 0)) /\ W.grownBy W' (some b)
def Zod (P : Program) (g : Nat) (run : BRun) : Prop :=
 ∀ (W : World) (n : Nat) (c : Cells) (v : Value) (e : TypeId) (vals : List Value), GOK W -> Z16 W none v n c -> run [.s n c] = some (true, e, vals) ->
  Calls P g [v].toArray W fun y W' => ∃ b, y = .returned (.pointer (some ⟨b, 0, none⟩)) /\ W.heap.size <= b /\ W'.heap[b]? = some (.cells (v :: vals).toArray e (0, 0)) /\ W.grownBy W' none
def Zoe (P : Program) (g : Nat) : MFn -> Prop
 | .row run => Zum P g run
 | .box run => Z7E P g run
 | .src run => Zod P g run
 | .cap run => Zul P g run
def ZJ (P : Program) (S : Sums) : Prop := (∀ g run, S.f g = some run -> Callable P g /\ Sound P g run) /\ ∀ g run, S.m g = some run -> Callable P g /\ Zoe P g run
def Z6w (P : Program) (S : Sums) (W : World) (M : MV) : Prop := ZJ P S /\ Base W M
section
variable {P : Program} {W : World} {M : MV} {n : Nat} {s : FSt} {a : Act} {w w' : World} {ρ ρ' : Nat -> Value} {H H' : Nat -> Option Blk}
theorem R.gok (h : R P W M n s a w ρ) (hB : Base W M) : GOK w := hB.1.grown h.grown hB.2
theorem Own.far (hB : Base W M) {g : Nat} (h : Own W M g) : gvars.length <= g := by
 rcases h with h | h
 ·exact Nat.le_trans hB.1.1 h
 ·exact hB.2 g h
theorem R.ev (h : R P W M n s a w ρ) (x : Operand) : Rel P W M ρ s.heap (s.ev x) (a.eval x) := by
 cases x with
 | tmp t => exact h.slots t
 | const v => exact rfl
 | global g => exact True.intro
 | func f => exact ⟨[], rfl, True.intro⟩
theorem R.extOff (h : R P W M n s a w ρ) {row : Option Nat} (hg : w.grownBy w' row) (hr : ∀ g, row = some g -> Own W M g /\ ∀ j bj, s.heap j = some bj -> ¬ Touch w (ρ j) bj g) : R P W M n s a w' ρ where
 grown := Z78 h.grown hg fun g e => (hr g e).1
 size := h.size
 defers := h.defers
 slots := h.slots
 heap := fun id b hb => (h.heap id b hb).grown hg fun g ht e => (hr g e).2 id b hb ht
 apart := h.apart
 froz := fun i b g hb hh => h.froz i b g hb (Held.back (h.heap i b hb) hg (fun g ht e => (hr g e).2 i b hb ht) hh)
 fix := h.fix
theorem Zog {l : List Nat} {id : Nat} (h : l.any (Nat.beq id) = false) {i : Nat} (hi : i ∈ l) : i ≠ id := by
 rintro rfl
 have := List.any_eq_false.1 h i hi
 simp at this
theorem ZhZ {id i : Nat} (h : i ≠ id) : (s.kill id).heap i = match s.heap i with | some b => some (Z9f id b) | none => none := by
 show (bif Nat.beq i id then none else _) = _
 rw [nbeq h, cond_false]
 all_goals (cases s.heap i <;> rfl)
theorem Z3N {id i : Nat} (h : i ≠ id) (hl : (s.heap i).isSome = true) : ((s.kill id).heap i).isSome = true := by
 rw [ZhZ h]
 cases hs : s.heap i with
 | none => rw [hs] at hl; cases hl
 | some b => rfl
theorem All2.memMono {α β : Type} {R Q : α -> β -> Prop} : ∀ {l : List α} {m : List β}, (∀ a ∈ l, ∀ b, R a b -> Q a b) -> All2 R l m -> All2 Q l m
 | [], [], _, _ => True.intro
 | a :: l, b :: m, h, ⟨p, q⟩ => ⟨h a (by simp) b p, All2.memMono (fun x hx => h x (by simp [hx])) q⟩
theorem Rel.kill {id : Nat} {x : SV} {v : Value} (k : Rel P W M ρ s.heap x v) : Rel P W M ρ (s.kill id).heap (Z0X id x) v := by
 cases x with
 | val x => exact k
 | ptr i off =>
  by_cases e : i = id
  ·subst e; simp only [Z0X, show Nat.beq i i = true by simp, cond_true]; exact True.intro
  ·simp only [Z0X, nbeq e, cond_false]; exact ⟨Z3N e k.1, k.2⟩
 | row i =>
  by_cases e : i = id
  ·subst e; simp only [Z0X, show Nat.beq i i = true by simp, cond_true]; exact True.intro
  ·simp only [Z0X, nbeq e, cond_false]; exact ⟨Z3N e k.1, k.2⟩
 | sub i off m z =>
  by_cases e : i = id
  ·subst e; simp only [Z0X, show Nat.beq i i = true by simp, cond_true]; exact True.intro
  ·simp only [Z0X, nbeq e, cond_false]; exact ⟨Z3N e k.1, k.2⟩
 | clo f l =>
  simp only [Z0X]
  cases hb : l.any (Nat.beq id) with
  | true => exact True.intro
  | false =>
   obtain ⟨vs, h1, h2⟩ := k
   exact ⟨vs, h1, h2.memMono fun i hi b hc => ⟨Z3N (Zog hb hi) hc.1, hc.2⟩⟩
 | fn g => exact k
 | tup l =>
  simp only [Z0X]
  cases hb : Z6x id l with
  | true => exact True.intro
  | false =>
   obtain ⟨vs, h1, h2⟩ := k
   refine ⟨vs, h1, h2.memMono fun i hi b hc => ?_⟩
   cases i with
   | v x => exact hc
   | r j =>
    refine ⟨Z3N ?_ hc.1, hc.2⟩
    rintro rfl
    have := List.any_eq_false.1 hb _ hi
    simp at this
 | agr l =>
  simp only [Z0X]
  cases hb : Z6x id l with
  | true => exact True.intro
  | false =>
   obtain ⟨vs, h1, h2⟩ := k
   refine ⟨vs, h1, h2.memMono fun i hi b hc => ?_⟩
   cases i with
   | v x => exact hc
   | r j =>
    refine ⟨Z3N ?_ hc.1, hc.2⟩
    rintro rfl
    have := List.any_eq_false.1 hb _ hi
    simp at this
 | junk => exact k
theorem Zer (id : Nat) (b : Blk) : ownB (Z9f id b) = ownB b := by cases b <;> rfl
theorem All2.mapBoth {α β : Type} {R Q : α -> β -> Prop} {f : α -> α} (h : ∀ a b, R a b -> Q (f a) b) : ∀ {l : List α} {m : List β}, All2 R l m -> All2 Q (l.map f) m
 | [], [], _ => True.intro
 | _ :: _, _ :: _, ⟨p, q⟩ => ⟨h _ _ p, All2.mapBoth h q⟩
theorem BRel.kill {id i : Nat} {b : Blk} (k : BRel P W M w ρ s.heap i b) : BRel P W M w ρ (s.kill id).heap i (Z9f id b) := by
 cases b with
 | box e cells =>
  obtain ⟨g, cs, h1, h2, h3, h4⟩ := k
  exact ⟨g, cs, h1, h2, h3, h4.mapBoth fun x y (k : Rel P W M ρ s.heap x y) => k.kill⟩
 | row e sz m c => exact k
 | ros m c => exact k
 | fro fr m c => exact k
 | dee own fr e ls => exact k
 | rop cells =>
  obtain ⟨g, o, h1, h2, h3⟩ := k
  refine ⟨g, o, h1, h2, fun j v hv => ?_⟩
  rw [List.getElem?_map] at hv
  cases hc : cells[j]? with
  | none => rw [hc] at hv; cases hv
  | some x =>
   rw [hc] at hv
   obtain rfl : Z0X id x = v := by simpa using hv
   obtain ⟨u, hu, hr⟩ := h3 j x hc
   exact ⟨u, hu, hr.kill⟩
theorem Znq (w : World) (v : Value) (id : Nat) (b : Blk) (g : Nat) : Held w v (Z9f id b) g = Held w v b g := by cases b <;> rfl
theorem Zmh {w : World} {v : Value} {id : Nat} {b : Blk} {g : Nat} (h : Touch w v (Z9f id b) g) : Touch w v b g := by
 unfold Touch at h ⊢
 rw [Zer, Znq] at h
 exact h
theorem Z7I {id j : Nat} {bj : Blk} (h : (s.kill id).heap j = some bj) : j ≠ id /\ ∃ b, s.heap j = some b /\ bj = Z9f id b := by
 by_cases e : j = id
 ·subst e
  simp only [FSt.kill, show Nat.beq j j = true by simp, cond_true] at h
  cases h
 ·rw [ZhZ e] at h
  cases hs : s.heap j with
  | none => rw [hs] at h; cases h
  | some b => rw [hs] at h; exact ⟨e, b, rfl, by simpa using h.symm⟩
theorem R.kill (h : R P W M n s a w ρ) (id : Nat) (hid : id ≠ 0 /\ id ≠ 1) : R P W M n (s.kill id) a w ρ where
 grown := h.grown
 size := h.size
 defers := h.defers
 slots := fun t => (h.slots t).kill
 heap := fun j bj hb => by
  obtain ⟨_, b, hs, rfl⟩ := Z7I hb
  exact (h.heap j b hs).kill
 apart := fun i j bi bj g hij hi hj oi oj gi => by
  obtain ⟨_, b, hs, rfl⟩ := Z7I hi
  obtain ⟨_, b', hs', rfl⟩ := Z7I hj
  rw [Zer] at oi oj
  exact h.apart i j b b' g hij hs hs' oi oj gi
 froz := fun i bi g hi hh j bj hj oj => by
  obtain ⟨_, b, hs, rfl⟩ := Z7I hi
  obtain ⟨_, b', hs', rfl⟩ := Z7I hj
  rw [Zer] at oj
  rw [Znq] at hh
  exact h.froz i b g hs hh j b' hs' oj
 fix := fun v hv => ⟨(h.fix v hv).1, ⟨Z3N (Ne.symm hid.1) (h.fix v hv).2.1.1, (h.fix v hv).2.1.2⟩, fun u hu => ⟨Z3N (Ne.symm hid.2) ((h.fix v hv).2.2 u hu).1, ((h.fix v hv).2.2 u hu).2⟩⟩
theorem Zpm {B : Option Nat} {v : Value} {m : Nat} {c : Cells} (h : Z16 w B v m c) {w' : World} (hg : w.grownBy w' B) : Z16 w' none v m c := by
 refine ⟨h.1, ?_⟩
 rcases h.2 with h0 | ⟨g, o, cap, h1, h2, h3, h4⟩
 ·exact .inl h0
 ·exact .inr ⟨g, o, cap, h1, h2, ⟨by simp, Nat.lt_of_lt_of_le h3.2 hg.size⟩, fun j u hu => World.grownBy.cell hg (h4 j u hu) (fun e => h3.1 e.symm)⟩
theorem Zcn {b e sz m : Nat} {v : Value} {c : Cells} (ho : c.ok) (h : w.ownsRow b e sz v m c.toVals) : Z16 w none v m c := by
 refine ⟨ho, ?_⟩
 rcases h.2 with ⟨h0, h1⟩ | ⟨g, cap, cur, rfl, hb, hg, hc, hm, hz, hx⟩
 ·exact .inl ⟨h0, h1, by have := h.1; rw [h1] at this; simpa using this⟩
 ·refine .inr ⟨g, 0, cap, rfl, hc, ⟨by simp, (Array.getElem?_eq_some_iff.1 hg).1⟩, fun j u hu => ?_⟩
  have := h.cells (g := g) rfl j u hu
  have e : (⟨g, 0, none⟩ : Addr).add j = ⟨g, 0 + j, none⟩ := by unfold Addr.add; split <;> simp_all
  rwa [e] at this
theorem ZaY (h : R P W M n s a w ρ) {id m : Nat} {c : Cells} (hb : s.heap id = some (.ros m c)) : Z16 w none (ρ id) m c := Zpm (h.heap id _ hb) h.grown
theorem Z8X (h : R P W M n s a w ρ) {id e sz m : Nat} {c : Cells} (hb : s.heap id = some (.row e sz m c)) : Z16 w none (ρ id) m c := Zcn (h.heap id _ hb).1 (h.heap id _ hb).2.1
theorem Zwb {l : List Int} {u : Value} (h : Inn w l u) : u.oneCell' = true := by
 rcases h.2 with ⟨rfl, _⟩ | ⟨g, o, cap, rfl, _⟩ <;> rfl
theorem ZdI : ∀ {ls : List (List Int)} {vs : List Value}, All2 (Inn w) ls vs -> ∀ u ∈ vs, u.oneCell' = true
 | [], [], _, u, hu => by cases hu
 | _ :: _, v :: vs, ⟨p, q⟩, u, hu => by
  rcases List.mem_cons.1 hu with rfl | hu
  ·exact Zwb p
  ·exact ZdI q u hu
theorem Zom (h : R P W M n s a w ρ) {id : Nat} {own fr : Bool} {e : TypeId} {ls : List (List Int)} (hb : s.heap id = some (.dee own fr e ls)) : ∃ vs, All2 (Inn w) ls vs /\ Z16 w none (ρ id) ls.length (.vals vs) := by
 obtain ⟨⟨vs, q2, q3, q4⟩, _⟩ := h.heap id _ hb
 refine ⟨vs, q2, ?_⟩
 cases own with
 | true => exact Zcn (c := .vals vs) (ZdI q2) (q3 rfl)
 | false => exact q4 rfl
theorem Zey : ∀ {l : List SV} {m vs : List Value}, SV.vals l = some vs -> All2 (Rel P W M ρ H) l m -> m = vs
 | [], [], vs, h, _ => by simpa [SV.vals] using h
 | .val x :: l, b :: m, vs, h, ⟨p, q⟩ => by
  simp only [SV.vals] at h
  split at h
  ·rename_i l' hl
   simp only [Option.some.injEq] at h
   subst h
   rw [Zey hl q, show b = x from p]
  ·cases h
 | .ptr .. :: _, _ :: _, _, h, _ => by simp [SV.vals] at h
 | .row .. :: _, _ :: _, _, h, _ => by simp [SV.vals] at h
 | .sub .. :: _, _ :: _, _, h, _ => by simp [SV.vals] at h
 | .clo .. :: _, _ :: _, _, h, _ => by simp [SV.vals] at h
 | .fn .. :: _, _ :: _, _, h, _ => by simp [SV.vals] at h
 | .tup .. :: _, _ :: _, _, h, _ => by simp [SV.vals] at h
 | .junk :: _, _ :: _, _, h, _ => by simp [SV.vals] at h
theorem Zav : ∀ {l : List Value} {m : List Int}, Z1M l = some m -> l = m.map (Value.int .i64)
 | [], m, h => by simp only [Z1M, Option.some.injEq] at h; subst h; rfl
 | .int .i64 x :: l, m, h => by
  simp only [Z1M] at h
  split at h
  ·rename_i m' hm
   simp only [Option.some.injEq] at h
   subst h
   rw [Zav hm]
   rfl
  ·cases h
 | .int .i8 _ :: _, _, h => by simp [Z1M] at h
 | .int .i16 _ :: _, _, h => by simp [Z1M] at h
 | .int .i32 _ :: _, _, h => by simp [Z1M] at h
 | .int .u8 _ :: _, _, h => by simp [Z1M] at h
 | .int .u16 _ :: _, _, h => by simp [Z1M] at h
 | .int .u32 _ :: _, _, h => by simp [Z1M] at h
 | .int .u64 _ :: _, _, h => by simp [Z1M] at h
 | .bool _ :: _, _, h => by simp [Z1M] at h
 | .float _ _ :: _, _, h => by simp [Z1M] at h
 | .complex _ _ _ :: _, _, h => by simp [Z1M] at h
 | .string _ :: _, _, h => by simp [Z1M] at h
 | .pointer _ :: _, _, h => by simp [Z1M] at h
 | .slice _ _ _ :: _, _, h => by simp [Z1M] at h
 | .map _ :: _, _, h => by simp [Z1M] at h
 | .chan _ :: _, _, h => by simp [Z1M] at h
 | .func _ _ _ :: _, _, h => by simp [Z1M] at h
 | .nilFunc :: _, _, h => by simp [Z1M] at h
 | .iface _ _ :: _, _, h => by simp [Z1M] at h
 | .nilIface :: _, _, h => by simp [Z1M] at h
 | .agg _ :: _, _, h => by simp [Z1M] at h
 | .tuple _ :: _, _, h => by simp [Z1M] at h
theorem ZiT : ∀ {l : List Value} {m : List Int}, Z3p l = some m -> l = m.map (Value.int .u8)
 | [], m, h => by simp only [Z3p, Option.some.injEq] at h; subst h; rfl
 | .int .u8 x :: l, m, h => by
  simp only [Z3p] at h
  split at h
  ·rename_i m' hm
   simp only [Option.some.injEq] at h
   subst h
   rw [ZiT hm]
   rfl
  ·cases h
 | .int .i8 _ :: _, _, h => by simp [Z3p] at h
 | .int .i16 _ :: _, _, h => by simp [Z3p] at h
 | .int .i32 _ :: _, _, h => by simp [Z3p] at h
 | .int .i64 _ :: _, _, h => by simp [Z3p] at h
 | .int .u16 _ :: _, _, h => by simp [Z3p] at h
 | .int .u32 _ :: _, _, h => by simp [Z3p] at h
 | .int .u64 _ :: _, _, h => by simp [Z3p] at h
 | .bool _ :: _, _, h => by simp [Z3p] at h
 | .float _ _ :: _, _, h => by simp [Z3p] at h
 | .complex _ _ _ :: _, _, h => by simp [Z3p] at h
 | .string _ :: _, _, h => by simp [Z3p] at h
 | .pointer _ :: _, _, h => by simp [Z3p] at h
 | .slice _ _ _ :: _, _, h => by simp [Z3p] at h
 | .map _ :: _, _, h => by simp [Z3p] at h
 | .chan _ :: _, _, h => by simp [Z3p] at h
 | .func _ _ _ :: _, _, h => by simp [Z3p] at h
 | .nilFunc :: _, _, h => by simp [Z3p] at h
 | .iface _ _ :: _, _, h => by simp [Z3p] at h
 | .nilIface :: _, _, h => by simp [Z3p] at h
 | .agg _ :: _, _, h => by simp [Z3p] at h
 | .tuple _ :: _, _, h => by simp [Z3p] at h
theorem Zjn : ∀ {l : List Value} {m : List ByteArray}, Z3y l = some m -> l = m.map Value.string
 | [], m, h => by simp only [Z3y, Option.some.injEq] at h; subst h; rfl
 | .string x :: l, m, h => by
  simp only [Z3y] at h
  split at h
  ·rename_i m' hm
   simp only [Option.some.injEq] at h
   subst h
   rw [Zjn hm]
   rfl
  ·cases h
 | .int .i8 _ :: _, _, h => by simp [Z3y] at h
 | .int .i16 _ :: _, _, h => by simp [Z3y] at h
 | .int .i32 _ :: _, _, h => by simp [Z3y] at h
 | .int .i64 _ :: _, _, h => by simp [Z3y] at h
 | .int .u16 _ :: _, _, h => by simp [Z3y] at h
 | .int .u32 _ :: _, _, h => by simp [Z3y] at h
 | .int .u64 _ :: _, _, h => by simp [Z3y] at h
 | .bool _ :: _, _, h => by simp [Z3y] at h
 | .float _ _ :: _, _, h => by simp [Z3y] at h
 | .complex _ _ _ :: _, _, h => by simp [Z3y] at h
 | .int .u8 _ :: _, _, h => by simp [Z3y] at h
 | .pointer _ :: _, _, h => by simp [Z3y] at h
 | .slice _ _ _ :: _, _, h => by simp [Z3y] at h
 | .map _ :: _, _, h => by simp [Z3y] at h
 | .chan _ :: _, _, h => by simp [Z3y] at h
 | .func _ _ _ :: _, _, h => by simp [Z3y] at h
 | .nilFunc :: _, _, h => by simp [Z3y] at h
 | .iface _ _ :: _, _, h => by simp [Z3y] at h
 | .nilIface :: _, _, h => by simp [Z3y] at h
 | .agg _ :: _, _, h => by simp [Z3y] at h
 | .tuple _ :: _, _, h => by simp [Z3y] at h
theorem Zc4 (l : List Value) : (cellsOf l).toVals = l := by
 unfold cellsOf
 cases h : Z1M l with
 | none =>
  cases k : Z3p l with
  | none =>
   cases q : Z3y l with
   | none => rfl
   | some m => exact (Zjn q).symm
  | some m => exact (ZiT k).symm
 | some m => exact (Zav h).symm
theorem ZpW (P : Program) (e : TypeId) (l : List Value) : (Zl3 P e l).toVals = l := by
 cases l with
 | nil =>
  show (Zrz P e).toVals = []
  unfold Zrz
  split <;> rfl
 | cons x l => exact Zc4 (x :: l)
theorem ZrV {c : Cells} (h : c.okB = true) : c.ok := by
 cases c with
 | ints l => exact True.intro
 | byts l => exact True.intro
 | strs l => exact True.intro
 | vals l => exact fun u hu => List.all_eq_true.1 h u hu
theorem ZuA {c : Cells} (h : c.ok) (lo k : Nat) : (c.cut lo k).ok := by
 cases c with
 | ints l => exact True.intro
 | byts l => exact True.intro
 | strs l => exact True.intro
 | vals l => exact fun u hu => h u (List.mem_of_mem_drop (List.mem_of_mem_take hu))
theorem Zq3 (c : Cells) (lo k : Nat) : (c.cut lo k).toVals = (c.toVals.drop lo).take k := by
 cases c with
 | ints l => simp [Cells.cut, Cells.toVals, List.map_take, List.map_drop]
 | byts l => simp [Cells.cut, Cells.toVals, List.map_take, List.map_drop]
 | strs l => simp [Cells.cut, Cells.toVals, List.map_take, List.map_drop]
 | vals l => rfl
theorem Zsw (c : Cells) (lo : Nat) : (c.cut lo 0).toVals = [] := by
 rw [Zq3, List.take_zero]
theorem Zku {v x : Value} {m k cap lo sz : Nat} {q : Option Addr} {c : Cells} (h : Z16 w none v m c) (hx : x = .slice q k cap) (hq : ZwI v lo k q cap) : Z16 w none x k (c.cut lo (k * sz)) := by
 rcases hq with ⟨rfl, rfl, rfl⟩ | ⟨g, o, o', ha, rfl, hk, ho⟩
 ·exact ⟨ZuA h.1 _ _, .inl ⟨hx, rfl, by rw [Nat.zero_mul]; exact Zsw c lo⟩⟩
 have hlt : g < w.heap.size := by
  rcases h.2 with ⟨rfl, _⟩ | ⟨g', o', cap', rfl, h2, h3, h4⟩
  ·cases ha
  ·obtain ⟨rfl, rfl⟩ : g' = g /\ o' = o := by simpa [atOf] using ha
   exact h3.2
 refine ⟨ZuA h.1 _ _, .inr ⟨g, o', cap, hx, hk, ⟨by simp, hlt⟩, fun j u hu => ?_⟩⟩
 rcases Nat.eq_zero_or_pos k with hk0 | hk0
 ·subst hk0
  rw [Nat.zero_mul, Zsw] at hu
  simp at hu
 obtain rfl := ho hk0
 rcases h.2 with ⟨rfl, _⟩ | ⟨g', o', cap', rfl, h2, h3, h4⟩
 ·cases ha
 ·obtain ⟨rfl, rfl⟩ : g' = g /\ o' = o := by simpa [atOf] using ha
  rw [Zq3] at hu
  have hj : j < k * sz := by
   rcases Nat.lt_or_ge j (k * sz) with hj | hj
   ·exact hj
   ·rw [List.getElem?_eq_none (by simp; omega)] at hu; cases hu
  rw [List.getElem?_take_of_lt hj, List.getElem?_drop] at hu
  have := h4 (lo + j) u hu
  rwa [<- Nat.add_assoc] at this
theorem Zx3 (h : R P W M n s a w ρ) {id g o : Nat} {e : TypeId} {cells : List SV} (hb : s.heap id = some (.box e cells)) (ha : atOf (ρ id) = some (g, o)) : g < w.heap.size := by
 obtain ⟨g', cs, h1, h2, h3, h4⟩ := h.heap id _ hb
 rw [h1] at ha
 obtain ⟨rfl, _⟩ : g' = g /\ 0 = o := by simpa [atOf] using ha
 exact (Array.getElem?_eq_some_iff.1 h3).1
theorem Z9W (h : R P W M n s a w ρ) {id g o : Nat} {cells : List SV} {b : Blk} (hb : s.heap id = some b) (hc : b = .rop cells \/ ∃ e, b = .box e cells) (ha : atOf (ρ id) = some (g, o)) :
  ∀ j x, cells[j]? = some x -> ∃ u, w.cell? ⟨g, o + j, none⟩ = some u /\ Rel P W M ρ s.heap x u := by
 intro j x hx
 have k := h.heap id b hb
 rcases hc with rfl | ⟨e, rfl⟩
 ·obtain ⟨g', o', h1, h2, h3⟩ := k
  rw [h1] at ha
  obtain ⟨rfl, rfl⟩ : g' = g /\ o' = o := by simpa [atOf] using ha
  obtain ⟨u, hu, hr⟩ := h3 j x hx
  exact ⟨u, World.grownBy.cell h.grown hu (fun e => h2 e.symm), hr⟩
 ·obtain ⟨g', cs, h1, h2, h3, h4⟩ := k
  rw [h1] at ha
  obtain ⟨rfl, rfl⟩ : g' = g /\ 0 = o := by simpa [atOf] using ha
  obtain ⟨u, hu, hr⟩ := h4.get hx
  refine ⟨u, ?_, hr⟩
  simp only [World.cell?, h3, Nat.zero_add]
  simpa using hu
theorem Zht : ∀ {l : List SV} {vs : List Value}, SV.vals l = some vs -> ∀ {j : Nat} {u : Value}, vs[j]? = some u -> l[j]? = some (.val u)
 | [], vs, h, j, u, hu => by simp only [SV.vals, Option.some.injEq] at h; subst h; simp at hu
 | .val x :: l, vs, h, j, u, hu => by
  simp only [SV.vals] at h
  split at h
  ·rename_i l' hl
   simp only [Option.some.injEq] at h
   subst h
   cases j with
   | zero => simp at hu; subst hu; rfl
   | succ j => simp at hu; simpa using Zht hl hu
  ·cases h
 | .ptr .. :: _, _, h, _, _, _ => by simp [SV.vals] at h
 | .row .. :: _, _, h, _, _, _ => by simp [SV.vals] at h
 | .sub .. :: _, _, h, _, _, _ => by simp [SV.vals] at h
 | .clo .. :: _, _, h, _, _, _ => by simp [SV.vals] at h
 | .fn .. :: _, _, h, _, _, _ => by simp [SV.vals] at h
 | .tup .. :: _, _, h, _, _, _ => by simp [SV.vals] at h
 | .junk :: _, _, h, _, _, _ => by simp [SV.vals] at h
theorem ZpV (h : R P W M n s a w ρ) (hg : w.grownBy w' none) {id : Nat} {pv : PV} {x : Value} (hc : CapRel ρ s.heap id x) (hp : Zfh s.heap id = some pv) : Z5s P w' pv x := by
 obtain ⟨hl, g, o, ha, rfl⟩ := hc
 have cell : ∀ {g o : Nat} {u : Value}, w.cell? ⟨g, o, none⟩ = some u -> w'.cell? ⟨g, o, none⟩ = some u := fun hu => World.grownBy.cell hg hu (by simp)
 have rowcase : ∀ (cells : List SV) (b : Blk) (i : Nat), s.heap id = some b -> (b = .rop cells \/ ∃ e, b = .box e cells) -> cells = [.row i] -> (match s.heap i with | some (.row _ _ n c) => some (PV.ps n c) | some (.ros n c) => some (.ps n c) | _ => none) = some pv -> Z5s P w' pv (.pointer (some ⟨g, o, none⟩)) := by
  intro cells b i hb hk Zc7 hm
  obtain ⟨u, hu, hr⟩ := Z9W h hb hk ha 0 (.row i) (by simp [Zc7])
  obtain ⟨hl, rfl⟩ := hr
  have hu' := cell hu
  cases hi : s.heap i with
  | none => rw [hi] at hm; cases hm
  | some bi =>
   rw [hi] at hm
   cases bi with
   | row e sz m c =>
    simp only [Option.some.injEq] at hm; subst hm
    exact ⟨g, o, _, rfl, hu', Zpm (Z8X h hi) hg⟩
   | ros m c =>
    simp only [Option.some.injEq] at hm; subst hm
    exact ⟨g, o, _, rfl, hu', Zpm (ZaY h hi) hg⟩
   | box _ _ => cases hm
   | rop _ => cases hm
   | fro _ _ _ => cases hm
   | dee _ _ _ _ => cases hm
 have valcase : ∀ (cells : List SV) (b : Blk), s.heap id = some b -> (b = .rop cells \/ ∃ e, b = .box e cells) -> (match SV.vals cells with | some l => some (PV.p l) | none => none) = some pv -> Z5s P w' pv (.pointer (some ⟨g, o, none⟩)) := by
  intro cells b hb hk hm
  cases hv : SV.vals cells with
  | none => rw [hv] at hm; cases hm
  | some l =>
   rw [hv] at hm
   simp only [Option.some.injEq] at hm; subst hm
   refine ⟨g, o, rfl, fun j u hu => cell ?_⟩
   obtain ⟨u', hu', hr⟩ := Z9W h hb hk ha j _ (Zht hv hu)
   rw [show u' = u from hr] at hu'
   exact hu'
 have fncase : ∀ (cells : List SV) (b : Blk) (f : List Value -> Option (Bool × Value)), s.heap id = some b -> (b = .rop cells \/ ∃ e, b = .box e cells) -> cells = [.fn f] -> some (PV.pf f) = some pv -> Z5s P w' pv (.pointer (some ⟨g, o, none⟩)) := by
  intro cells b f hb hk Zc7 hm
  simp only [Option.some.injEq] at hm; subst hm
  obtain ⟨u, hu, hr⟩ := Z9W h hb hk ha 0 (.fn f) (by simp [Zc7])
  obtain ⟨fi, caps, h1, h2, h3⟩ := hr
  exact ⟨g, o, u, rfl, cell hu, fi, caps, h1, h2, fun w2 hw => h3 w2 (Z78 (Z78 h.grown hg fun _ e => by cases e) hw fun _ e => by cases e)⟩
 unfold Zfh at hp
 split at hp
 ·rename_i i hb; exact rowcase _ _ i hb (.inr ⟨_, rfl⟩) rfl hp
 ·rename_i i hb; exact rowcase _ _ i hb (.inl rfl) rfl hp
 ·rename_i f hb; exact fncase _ _ f hb (.inr ⟨_, rfl⟩) rfl hp
 ·rename_i f hb; exact fncase _ _ f hb (.inl rfl) rfl hp
 ·rename_i hb; exact valcase _ _ hb (.inr ⟨_, rfl⟩) hp
 ·rename_i hb; exact valcase _ _ hb (.inl rfl) hp
 ·cases hp
theorem All2.join {α β γ : Type} {R : α -> β -> Prop} {Q : α -> γ -> Prop} {T : β -> γ -> Prop} (h : ∀ a b c, R a b -> Q a c -> T b c) : ∀ {l : List α} {m : List β} {k : List γ}, All2 R l m -> All2 Q l k -> All2 T m k
 | [], [], [], _, _ => True.intro
 | _ :: _, _ :: _, _ :: _, ⟨p, q⟩, ⟨p', q'⟩ => ⟨h _ _ _ p p', All2.join h q q'⟩
theorem Zqz {b : World} (h : W.grownBy b (mB M)) (k : b.grownBy w none) : W.grownBy w (mB M) := Z78 h k fun _ e => by cases e
theorem Zuy {S : Sums} (hS : Z6w P S W M) (h : R P W M n s a w ρ) {f : Nat} {l : List Nat} {v : Value} {g : List Value -> Option (Bool × Value)} (hr : Rel P W M ρ s.heap (.clo f l) v) (hg : Zao S s.heap f l = some g) : Zsg P w none v g := by
 obtain ⟨vs, rfl, hc⟩ := hr
 unfold Zao at hg
 split at hg
 ·rename_i run cs hrun hcs
  simp only [Option.some.injEq] at hg
  subst hg
  obtain ⟨hcall, hsound⟩ := hS.1.1 f run hrun
  refine ⟨f, vs.toArray, rfl, hcall, fun w' hw args r hr => ?_⟩
  have hr' : run (args.map PV.v ++ cs) = some (true, [.v r]) := by
   dsimp only at hr
   split at hr
   ·rename_i c r' he
    simp only [Option.some.injEq, Prod.mk.injEq] at hr
    obtain ⟨rfl, rfl⟩ := hr
    exact he
   ·cases hr
  have hargs : All2 (Z5s P w') (args.map PV.v ++ cs) (args ++ vs) := by
   refine All2.app (All2.mapL _ ?_) (All2.join (T := Z5s P w') (fun id pv x (hp : Zfh s.heap id = some pv) (hx : CapRel ρ s.heap id x) => ZpV h hw hx hp) (Z8H hcs) hc)
   have := All2.of_map (R := fun (c : Value) b => Z5s P w' (PV.v c) b) id args (fun a _ => rfl)
   simpa using this
  have := hsound w' _ _ _ ((h.gok hS.2).grown hw fun _ e => by cases e) hargs hr'
  rw [show (args ++ vs).toArray = args.toArray ++ vs.toArray from by simp] at this
  exact this.mono fun e w2 ⟨rv, he, hres, hgr⟩ => ⟨by rw [he, show rv = r from hres], hgr⟩
 ·cases hg
theorem Zsj {S : Sums} (hS : Z6w P S W M) (h : R P W M n s a w ρ) {x : SV} {v : Value} {pv : PV} (hr : Rel P W M ρ s.heap x v) (hp : PVof s.heap (Zao S s.heap) x = some pv) : Z5s P w pv v := by
 unfold PVof at hp
 split at hp
 ·simp only [Option.some.injEq] at hp; subst hp
  exact ⟨True.intro, .inl ⟨hr, rfl, rfl⟩⟩
 ·simp only [Option.some.injEq] at hp; subst hp; exact hr
 ·rename_i id
  obtain ⟨hl, rfl⟩ := hr
  split at hp
  ·rename_i hb; simp only [Option.some.injEq] at hp; subst hp; exact Z8X h hb
  ·rename_i hb; simp only [Option.some.injEq] at hp; subst hp; exact ZaY h hb
  ·rename_i hb; simp only [Option.some.injEq] at hp; subst hp; exact (h.heap _ _ hb).1
  ·rename_i hb; simp only [Option.some.injEq] at hp; subst hp; exact Zom h hb
  ·cases hp
 ·rename_i id off k sz
  obtain ⟨hl, q, cap, rfl, hq⟩ := hr
  split at hp
  ·rename_i hb
   simp only [Option.some.injEq] at hp; subst hp; exact Zku (Z8X h hb) rfl hq
  ·rename_i hb
   simp only [Option.some.injEq] at hp; subst hp; exact Zku (ZaY h hb) rfl hq
  ·rename_i hb
   simp only [Option.some.injEq] at hp; subst hp; exact Zku (h.heap _ _ hb).1 rfl hq
  ·rename_i e cells hb
   split at hp
   ·rename_i l hv
    split at hp
    ·rename_i hck
     simp only [Option.some.injEq] at hp; subst hp
     simp only [Bool.and_eq_true] at hck
     have hll := Nat.eq_of_beq_eq_true hck.1
     rcases hq with ⟨rfl, rfl, rfl⟩ | ⟨g, o, o', ha, rfl, hk, ho⟩
     ·refine ⟨ZrV hck.2, .inl ⟨rfl, rfl, ?_⟩⟩
      rw [Zc4]
      exact List.eq_nil_of_length_eq_zero (by rw [hll, Nat.zero_mul])
     refine ⟨ZrV hck.2, .inr ⟨g, o', cap, rfl, hk, ⟨by simp, Zx3 h hb ha⟩, fun j u hu => ?_⟩⟩
     rw [Zc4] at hu
     rcases Nat.eq_zero_or_pos k with hk0 | hk0
     ·subst hk0
      have hl0 : l = [] := List.eq_nil_of_length_eq_zero (by rw [hll, Nat.zero_mul])
      rw [hl0] at hu
      simp at hu
     obtain rfl := ho hk0
     have hj := Zht hv hu
     have hjk : j < k * sz := by
      rcases Nat.lt_or_ge j (k * sz) with hj' | hj'
      ·exact hj'
      ·rw [List.getElem?_eq_none (by simp; omega)] at hj; cases hj
     rw [List.getElem?_take_of_lt hjk, List.getElem?_drop] at hj
     obtain ⟨u', hu', hr⟩ := Z9W h hb (.inr ⟨_, rfl⟩) ha (off + j) _ hj
     rw [show u' = u from hr, <- Nat.add_assoc] at hu'
     exact hu'
    ·cases hp
   ·cases hp
  ·cases hp
 ·split at hp
  ·rename_i g hg
   simp only [Option.some.injEq] at hp; subst hp
   exact Zuy hS h hr hg
  ·cases hp
 ·simp only [Option.some.injEq] at hp; subst hp
  obtain ⟨f, caps, h1, h2, h3⟩ := hr
  exact ⟨f, caps, h1, h2, fun w' hw => h3 w' (Zqz h.grown hw)⟩
 ·cases hp
end

section
variable {P : Program} {S : Sums} {W : World} {M : MV} {n : Nat} {s : FSt} {a : Act} {w w' : World} {ρ ρ' : Nat -> Value} {H : Nat -> Option Blk} {o : Oper} {r : Out} {Q : Exit -> Act -> World -> Prop} {K : Act -> World -> Prop}
theorem Zmj {v : Value} (h : (execOp a.eval o).run P w = .ok (.value v) w') (k : K (a.put o.dst v) w') : o.wp P a w K Q := by
 unfold Oper.wp; rw [h]; exact k
theorem Zsf (h : (execOp a.eval o).run P w = .ok .skip w') (k : K (a.put o.dst undef) w') : o.wp P a w K Q := by
 unfold Oper.wp; rw [h]; exact k
def Goal (P : Program) (W : World) (M : MV) (n : Nat) (o : Oper) (s : FSt) (r : Out) (a : Act) (w : World) (Q : Exit -> Act -> World -> Prop) : Prop :=
 o.wp P a w (fun a' w' => ∃ ρ', R P W M n (s.apply o.dst r) a' w' ρ') Q
theorem Z08 (h : R P W M n s a w ρ) (hd : Z0b n o.dst = true) {c : Bool} {x : SV} {v : Value} (hr : (execOp a.eval o).run P w = .ok (.value v) w) (hx : o.dst = none \/ Rel P W M ρ s.heap x v) : Goal P W M n o s (.pure c x) a w Q :=
 Zmj hr ⟨ρ, h.put hd hx⟩
theorem ZrF (h : R P W M n s a w ρ) {x : Operand} (hv : (s.ev x).isVal = true) : s.evV x = a.eval x := by
 have := h.ev x
 unfold FSt.evV
 cases hx : s.ev x with
 | val v => rw [hx] at this; exact this.symm
 | _ => rw [hx] at hv; cases hv
theorem Z1L (h : R P W M n s a w ρ) {x : Operand} {v : Value} (hv : s.ev x = .val v) : a.eval x = v := by
 have := h.ev x
 rw [hv] at this
 exact this
theorem Zv {α β : Type} {m : Sem α} {f : α -> Sem β} {x : α} {w1 : World} (h : m.run P w = .ok x w1) : (m >>= f).run P w = (f x).run P w1 := by
 rw [Sem.run_bind, h]
 rfl
theorem Z9Z (h : R P W M n s a w ρ) (hd : Z0b n o.dst = true) (ho : (∃ op t x y u, o.op = .binOp op t x y u) \/ (∃ op t x, o.op = .unOp op t x) \/ (∃ t ps, o.op = .build t ps) \/ (∃ t x f, o.op = .field t x f) \/ (∃ t u x, o.op = .convert t u x))
  (hr : ZcL P s o = some r) : Goal P W M n o s r a w Q := by
 unfold ZcL at hr
 split at hr
 ·rename_i hall
  have hev : ∀ x ∈ o.op.operands.toList, s.evV x = a.eval x := fun x hx => ZrF h (List.all_eq_true.1 hall x hx)
  have hcong : execOp s.evV o = execOp a.eval o := by
   rcases ho with ⟨op, t, x, y, u, ho⟩ | ⟨op, t, x, ho⟩ | ⟨t, ps, ho⟩ | ⟨t, x, f, ho⟩ | ⟨t, u, x, ho⟩
   all_goals rw [ho] at hev
   ·have e1 := hev x (by simp [Op.operands]); have e2 := hev y (by simp [Op.operands])
    simp only [execOp, ho, e1, e2]
   ·have e1 := hev x (by simp [Op.operands])
    simp only [execOp, ho, e1]
   ·have e : (ps.map fun (i, x) => (i, s.evV x)) = ps.map fun (i, x) => (i, a.eval x) := by
     apply Array.map_congr_left
     intro p hp
     have := hev p.2 (by simp only [Op.operands]; simp; exact ⟨p.1, by simpa using hp⟩)
     simp [this]
    simp only [execOp, ho]
    rw [e]
   ·have e1 := hev x (by simp [Op.operands])
    simp only [execOp, ho, e1]
   ·have e1 := hev x (by simp [Op.operands])
    simp only [execOp, ho, e1]
  split at hr
  ·rename_i v hs
   simp only [Option.some.injEq] at hr
   subst hr
   rw [hcong] at hs
   exact Z08 h hd (Z47 hs w) (.inr rfl)
  ·cases hr
 ·cases hr
theorem Zbl (h : R P W M n s a w ρ) (hd : Z0b n o.dst = true) {i : Nat} {b : Blk} {x : SV} {v u : Value} {c : Bool} (hf : s.fresh [(i, b)] = true)
  (hr : (execOp a.eval o).run P w = .ok (.value v) w') (hg : w.grownBy w' none)
  (hb : BRel P W M w' (fun x => if x = i then u else ρ x) (s.set i b).heap i b)
  (hap : ownB b = true -> ∀ g, Z07 u = some g -> w.heap.size <= g)
  (hx : (∀ H, (H i).isSome = true -> Rel P W M (fun x => if x = i then u else ρ x) H x v))
  (hfz : ∀ g, Held w' u b g -> (ownB b = true -> Z07 u ≠ some g) /\ ∀ j bj, s.heap j = some bj -> ownB bj = true -> Z07 (ρ j) ≠ some g := by intro _ hh; cases hh) : Goal P W M n o s ⟨c, x, [(i, b)], none, none⟩ a w Q := by
 have hi : s.heap i = none := by
  simp only [FSt.fresh] at hf
  split at hf
  ·cases hf
  ·assumption
 refine Zmj hr ⟨_, R.put (R.new (h.ext hg) hi hb (fun ob g hgu j bj hj oj => ?_) hfz) hd (.inr (hx _ ?_))⟩
 ·have := Zeg (h.heap j bj hj) (Zah (h.heap j bj hj) hg (fun _ _ e => by cases e) oj)
  have := hap ob g hgu
  omega
 ·show (bif Nat.beq i i then some b else s.heap i).isSome = true
  simp
theorem Z8E (w : World) (o : Obj) : w.grownBy (w.alloc o) none := World.grownBy_alloc w o none
theorem Zes (h : R P W M n s a w ρ) : Own W M w.heap.size := .inl h.grown.size
theorem Zsu (h : R P W M n s a w ρ) {i : Nat} {e : TypeId} {cells : List SV} {cs : Array Value} (hc : All2 (Rel P W M ρ s.heap) cells cs.toList) (hi : s.heap i = none) :
  BRel P W M (w.alloc (.cells cs e)) (fun x => if x = i then .pointer (some ⟨w.heap.size, 0, none⟩) else ρ x) (s.set i (.box e cells)).heap i (.box e cells) := by
 refine ⟨w.heap.size, cs, if_pos rfl, Zes h, Deep.blk_alloc_new w _, hc.mono fun x y k => k.mono fun id hid => ?_⟩
 have hne : id ≠ i := by rintro rfl; rw [hi] at hid; cases hid
 exact ⟨by simp only [FSt.set, nbeq hne, cond_false]; exact hid, if_neg hne⟩
theorem ZhY {i : Nat} {b : Blk} (hf : s.fresh [(i, b)] = true) : s.heap i = none := by
 simp only [FSt.fresh] at hf
 split at hf
 ·cases hf
 ·assumption
theorem ZlR (l : List Value) : All2 (Rel P W M ρ H) (l.map SV.val) l := by
 induction l with
 | nil => exact True.intro
 | cons a l ih => exact ⟨rfl, ih⟩
theorem Zno (h : R P W M n s a w ρ) (hd : Z0b n o.dst = true) {x : Operand} (ho : o.op = .move x \/ o.op = .assign x)
  (hr : some (Out.pure true (s.ev x)) = some r) : Goal P W M n o s r a w Q := by
 have hrun : (execOp a.eval o).run P w = .ok (.value (a.eval x)) w := by rcases ho with ho | ho <;> simp only [execOp, ho] <;> rfl
 simp only [Option.some.injEq] at hr
 subst hr
 exact Z08 h hd hrun (.inr (h.ev x))
theorem ZtP (h : R P W M n s a w ρ) (hd : Z0b n o.dst = true) {c x y : Operand} (ho : o.op = .pick c x y)
  (hr : (match s.ev c with
  | .val (.bool t) => match t with
   | true => some (Out.pure true (s.ev x))
   | false => some (.pure true (s.ev y))
  | _ => none) = some r) : Goal P W M n o s r a w Q := by
 split at hr
 ·rename_i t hc
  have hc' := Z1L h hc
  cases t <;> simp only [Option.some.injEq] at hr <;> subst hr
  ·exact Z08 h hd (v := a.eval y) (by simp only [execOp, ho, hc']; rfl) (.inr (h.ev y))
  ·exact Z08 h hd (v := a.eval x) (by simp only [execOp, ho, hc']; rfl) (.inr (h.ev x))
 ·cases hr
theorem ZrH (h : R P W M n s a w ρ) (hd : Z0b n o.dst = true) {e : TypeId} (ho : o.op = .alloc e)
  (hr : (match o.dst, Zu P (zeroValue e) with
  | some d, some z => some (⟨true, .ptr (4 * d) 0, [(4 * d, .box e (z.cells.toList.map .val))], none, none⟩ : Out)
  | _, _ => none) = some r) (hf : s.fresh r.news = true) : Goal P W M n o s r a w Q := by
 split at hr
 ·rename_i d z hdst hz
  simp only [Option.some.injEq] at hr
  subst hr
  have hz' := Z47 hz w
  refine Zbl (w' := w.alloc (.cells z.cells e)) (v := .pointer (some ⟨w.heap.size, 0, none⟩)) h hd hf ?_ (Z8E _ _) (Zsu h (ZlR _) (ZhY hf)) (fun _ g hg => ?_) (fun H hH => ⟨hH, w.heap.size, 0, ?_, rfl⟩)
  ·simp only [execOp, ho, Instr.alloc, newVar, newRow]
   simp [Sem.run_bind, hz']
  ·obtain rfl : w.heap.size = g := by simpa [Z07, atOf] using hg
   exact Nat.le_refl _
  ·simp only [if_true]; rfl
 ·cases hr
theorem Zh8 (h : R P W M n s a w ρ) {id : Nat} (hl : (s.heap id).isSome = true) : (ρ id).cells = #[ρ id] /\ (ρ id).oneCell' = true := by
 cases hb : s.heap id with
 | none => rw [hb] at hl; cases hl
 | some b =>
  have k := h.heap id b hb
  cases b with
  | box e cells => obtain ⟨g, cs, h1, _⟩ := k; rw [h1]; exact ⟨rfl, rfl⟩
  | row e sz m c => rcases k.2.1.2 with ⟨h1, _⟩ | ⟨g, cap, cur, h1, _⟩ <;> rw [h1] <;> exact ⟨rfl, rfl⟩
  | ros m c => rcases k.2 with ⟨h1, _⟩ | ⟨g, o, cap, h1, _⟩ <;> rw [h1] <;> exact ⟨rfl, rfl⟩
  | rop cells => obtain ⟨g, o, h1, _⟩ := k; rw [h1]; exact ⟨rfl, rfl⟩
  | fro fr m c => rcases k.1.2 with ⟨h1, _⟩ | ⟨g, o, cap, h1, _⟩ <;> rw [h1] <;> exact ⟨rfl, rfl⟩
  | dee own fr e ls =>
   obtain ⟨⟨vs, _, q3, q4⟩, _⟩ := k
   cases own with
   | true => rcases (q3 rfl).2 with ⟨h1, _⟩ | ⟨g, cap, cur, h1, _⟩ <;> rw [h1] <;> exact ⟨rfl, rfl⟩
   | false => rcases (q4 rfl).2 with ⟨h1, _⟩ | ⟨g, o, cap, h1, _⟩ <;> rw [h1] <;> exact ⟨rfl, rfl⟩
theorem ZnH (h : R P W M n s a w ρ) {x : SV} {v : Value} (hx : Rel P W M ρ s.heap x v) (hj : x ≠ .junk) : All2 (Rel P W M ρ s.heap) x.parts v.cells.toList := by
 cases x with
 | val y =>
  rw [show v = y from hx]
  exact ZlR _
 | ptr i off => have hx' := hx; obtain ⟨_, g, o, _, rfl⟩ := hx'; exact ⟨hx, True.intro⟩
 | row i =>
  have hx' := hx
  obtain ⟨hl, rfl⟩ := hx'
  rw [(Zh8 h hl).1]
  exact ⟨hx, True.intro⟩
 | sub i off m z => have hx' := hx; obtain ⟨_, q, cap, rfl, _⟩ := hx'; exact ⟨hx, True.intro⟩
 | clo f l => have hx' := hx; obtain ⟨vs, rfl, _⟩ := hx'; exact ⟨hx, True.intro⟩
 | fn g => have hx' := hx; obtain ⟨f, caps, rfl, _⟩ := hx'; exact ⟨hx, True.intro⟩
 | tup l => have hx' := hx; obtain ⟨vs, rfl, _⟩ := hx'; exact ⟨hx, True.intro⟩
 | agr l =>
  obtain ⟨vs, rfl, hall⟩ := hx
  have key : ∀ {l : List TI} {vs : List Value}, All2 (TIRel ρ s.heap) l vs -> All2 (Rel P W M ρ s.heap) (l.map tiSV) vs := by
   intro l
   induction l with
   | nil => intro vs h; cases vs with
    | nil => exact True.intro
    | cons v vs => cases h
   | cons x l ih => intro vs h; cases vs with
    | nil => cases h
    | cons v vs =>
     refine ⟨?_, ih h.2⟩
     cases x with
     | v y => exact h.1
     | r id => exact h.1
  exact key hall
 | junk => exact absurd rfl hj
theorem Znk {v : Value} {off : Nat} (ho : 1 <= off) : ∀ (l : List (Value × Nat)) (cs : Array Value), l.foldl (fun cs x => cs.setIfInBounds (off + x.2) x.1) (cs.setIfInBounds 0 v) = (l.foldl (fun cs x => cs.setIfInBounds (off + x.2) x.1) cs).setIfInBounds 0 v
 | [], cs => rfl
 | (c, j) :: l, cs => by
  simp only [List.foldl_cons]
  rw [<- Znk ho l, Array.setIfInBounds_comm _ _ (by omega)]
theorem Znf {v : Value} {places : Array (Nat × Nat)} : ∀ (l : List (Nat × Value)) (cs : Array Value), (∀ q ∈ l, Zvt places q.1 = true) -> Instr.fill (places[·]?) (cs.setIfInBounds 0 v) l = (Instr.fill (places[·]?) cs l).map fun c => c.setIfInBounds 0 v
 | [], cs, _ => rfl
 | (i, x) :: l, cs, h => by
  have h0 := h (i, x) List.mem_cons_self
  unfold Zvt at h0
  simp only [Instr.fill]
  split at h0
  ·rename_i o z hp
   have h0 := Nat.le_of_ble_eq_true h0
   dsimp only at hp
   rw [hp]
   dsimp only
   rw [Array.size_setIfInBounds]
   split
   ·rfl
   ·rw [<- Znf l _ (fun q hq => h q (List.mem_cons_of_mem _ hq)), <- Array.foldl_toList, <- Array.foldl_toList, Znk h0]
  ·cases h0
theorem Zng {places : Array (Nat × Nat)} : ∀ (l : List (Nat × Value)) (cs c : Array Value), Instr.fill (places[·]?) cs l = some c -> c.size = cs.size
 | [], cs, c, h => by simp only [Instr.fill, Option.some.injEq] at h; subst h; rfl
 | (i, x) :: l, cs, c, h => by
  have key : ∀ (off : Nat) (m : List (Value × Nat)) (cs : Array Value), (m.foldl (fun cs x => cs.setIfInBounds (off + x.2) x.1) cs).size = cs.size := by
   intro off m
   induction m with
   | nil => intro cs; rfl
   | cons y m ih => intro cs; rw [List.foldl_cons, ih, Array.size_setIfInBounds]
  simp only [Instr.fill] at h
  split at h
  ·cases h
  ·split at h
   ·cases h
   ·rw [Zng l _ _ h, <- Array.foldl_toList, key]
theorem ZuT (h : R P W M n s a w ρ) (hd : Z0b n o.dst = true) {t : TypeId} {ps : Array (Nat × Operand)} (ho : o.op = .build t ps) (hr : ZfG P s t ps.toList = some r) : Goal P W M n o s r a w Q := by
 unfold ZfG at hr
 split at hr
 ·rename_i i x rest hps
  split at hr
  ·rename_i id hx
   split at hr
   ·rename_i hvals
    split at hr
    ·rename_i fields hu
     split at hr
     ·rename_i places z hpl hz
      split at hr
      ·rename_i hpi
       split at hr
       ·rename_i hoff
        split at hr
        ·rename_i cells hfill
         split at hr
         ·rename_i hsz
          simp only [Option.some.injEq] at hr; subst hr
          have hsz := Nat.le_of_ble_eq_true hsz
          have hv := h.ev x
          rw [hx] at hv
          obtain ⟨hl, he⟩ := hv
          have hone := (Zh8 h hl).1
          have hmap : rest.map (fun q => (q.1, a.eval q.2)) = rest.map fun q => (q.1, s.evV q.2) := by
           apply List.map_congr_left
           intro q hq
           rw [ZrF h (List.all_eq_true.1 hvals q hq)]
          have hfull : Instr.fill (places[·]?) z.cells ((i, ρ id) :: rest.map fun q => (q.1, s.evV q.2)) = some (cells.setIfInBounds 0 (ρ id)) := by
           simp only [Instr.fill, hpi, hone]
           rw [if_neg (by
            rw [Bool.or_eq_true, decide_eq_true_eq, decide_eq_true_eq]
            show ¬ ((1 : Nat) ≠ 1 \/ 0 + 1 > _)
            omega)]
           have := Znf (v := ρ id) (places := places) (rest.map fun q => (q.1, s.evV q.2)) z.cells (fun q hq => by
            obtain ⟨q0, hq0, rfl⟩ := List.mem_map.1 hq
            exact List.all_eq_true.1 hoff q0 hq0)
           rw [hfill] at this
           exact this
          have hcs := Zng _ _ _ hfill
          refine Z08 h hd (v := .agg (cells.setIfInBounds 0 (ρ id))) ?_ (.inr ?_)
          ·simp only [execOp, ho]
           have hb : (Instr.build t (ps.map fun q => (q.1, a.eval q.2))).run P w = .ok (.agg (cells.setIfInBounds 0 (ρ id))) w := by
            unfold Instr.build
            rw [Zv (Z47 hz w), Zv (run_underlying hu w)]
            dsimp only
            rw [Zv (Z47 hpl w)]
            have e1 : (ps.map fun q => (q.1, a.eval q.2)).toList = (i, ρ id) :: rest.map fun q => (q.1, s.evV q.2) := by
             rw [Array.toList_map, hps, List.map_cons, he, hmap]
            rw [e1, hfull]
            rfl
           rw [Zv hb]
           rfl
          ·refine ⟨ρ id :: cells.toList.drop 1, ?_, ⟨hl, rfl⟩, ?_⟩
           ·congr 1
            apply Array.toList_inj.1
            rw [Array.toList_setIfInBounds]
            cases hc : cells.toList with
            | nil =>
              have : cells.size = 0 := by rw [<- Array.length_toList, hc]; rfl
              omega
            | cons y l => simp
           ·generalize cells.toList.drop 1 = l
            induction l with
            | nil => exact True.intro
            | cons y l ih => exact ⟨rfl, ih⟩
         ·cases hr
        ·cases hr
       ·cases hr
      ·cases hr
     ·cases hr
    ·cases hr
   ·cases hr
  ·cases hr
 ·cases hr
theorem ZuV (h : R P W M n s a w ρ) (hd : Z0b n o.dst = true) {e : TypeId} {x : Operand} (ho : o.op = .box e x)
  (hr : (match o.dst, s.ev x with
  | _, .junk => none
  | some d, _ => some (⟨true, .ptr (4 * d) 0, [(4 * d, .box e (s.ev x).parts)], none, none⟩ : Out)
  | none, _ => none) = some r) (hf : s.fresh r.news = true) : Goal P W M n o s r a w Q := by
 split at hr
 ·cases hr
 ·rename_i d y hdst hj
  simp only [Option.some.injEq] at hr
  subst hr
  refine Zbl (w' := w.alloc (.cells (a.eval x).cells e)) (v := .pointer (some ⟨w.heap.size, 0, none⟩)) h hd hf ?_ (Z8E _ _) (Zsu h (ZnH h (h.ev x) hj) (ZhY hf)) (fun _ g hg => ?_) (fun H hH => ⟨hH, w.heap.size, 0, ?_, rfl⟩)
  ·simp only [execOp, ho, Instr.box, newVar, newRow]
   simp [Sem.run_bind]
  ·obtain rfl : w.heap.size = g := by simpa [Z07, atOf] using hg
   exact Nat.le_refl _
  ·simp only [if_true]; rfl
 ·cases hr
theorem Z43 {α β : Type} (f : α -> Sem β) : ∀ m : Sem α, Zu P (m >>= f) = (Zu P m).bind fun x => Zu P (f x)
 | .pure a => rfl
 | .program k => Z43 f (k P)
 | .load .. => rfl
 | .store .. => rfl
 | .new .. => rfl
 | .shape .. => rfl
 | .freeze .. => rfl
 | .frozen .. => rfl
 | .getObj .. => rfl
 | .setObj .. => rfl
 | .choose .. => rfl
 | .sys .. => rfl
 | .mark .. => rfl
 | .halt .. => rfl
theorem Z9q {α β : Type} {f : α -> Sem β} {m : Sem α} {y : β} (h : Zu P (m >>= f) = some y) : ∃ x, Zu P m = some x /\ Zu P (f x) = some y := by
 rw [Z43] at h
 cases hm : Zu P m with
 | none => rw [hm] at h; cases h
 | some x => rw [hm] at h; exact ⟨x, rfl, h⟩
theorem Z0l {α β : Type} {f : α -> Sem β} {m : Sem α} {x : α} (h : Zu P m = some x) (w : World) : (m >>= f).run P w = (f x).run P w := Zv (Z47 h w)
theorem Zuw {t : TypeId} {len : Nat} {parts : Array (Nat × Value)} {e sz : Nat} {cells : Array Value} (h : Zu P (Z9i t len parts) = some (e, sz, cells)) (w : World) :
  (Instr.buildSlice t len parts).run P w = .ok (.slice (some ⟨w.heap.size, 0, none⟩) len len) (w.alloc (.cells cells e)) := by
 unfold Z9i at h
 unfold Instr.buildSlice
 obtain ⟨d, hu, h⟩ := Z9q h
 rw [Z0l hu]
 cases d <;> try (cases h; done)
 rename_i el
 dsimp only at h ⊢
 obtain ⟨size, hs, h⟩ := Z9q h
 rw [Z0l hs]
 by_cases hbig : len * size > 2 ^ 24
 ·simp only [hbig, if_true] at h
  obtain ⟨_, hx, _⟩ := Z9q h
  cases hx
 ·simp only [hbig, if_false] at h ⊢
  have fin : ∀ zero : Array Value, Zu P (match Instr.fill (fun i => some (i * size, size)) (Array.map (fun x => zero[x % zero.size]!) (Array.range (len * size))) parts.toList with
    | some cells => (Pure.pure (el, size, cells) : Sem (TypeId × Nat × Array Value))
    | _ => stuck "buildSlice: a part of the wrong size") = some (e, sz, cells) ->
    (match Instr.fill (fun i => some (i * size, size)) (Array.map (fun x => zero[x % zero.size]!) (Array.range (len * size))) parts.toList with
    | some cells => (do Pure.pure (.slice (some (<- newRow el cells)) len len) : Sem Value)
    | _ => stuck "buildSlice: a part of the wrong size").run P w = .ok (.slice (some ⟨w.heap.size, 0, none⟩) len len) (w.alloc (.cells cells e)) := by
   intro zero h
   split at h
   ·rename_i cs hf
    obtain ⟨rfl, rfl, rfl⟩ : el = e /\ size = sz /\ cs = cells := by simpa [Zu, Pure.pure] using h
    simp [newRow, Sem.run_bind]
   ·cases h
  by_cases hz0 : len * size = 0
  ·rw [if_pos hz0] at h ⊢
   obtain ⟨zero, hz, h⟩ := Z9q h
   rw [Z0l hz]
   exact fin _ h
  ·rw [if_neg hz0] at h ⊢
   obtain ⟨z1, hz1, h⟩ := Z9q h
   rw [Z0l hz1]
   obtain ⟨zero, hz, h⟩ := Z9q h
   rw [Z0l hz]
   exact fin _ h
end

end Go.Proofs.Ytfclaacaphpoaaa
