import Derived.Test.YtcechmaoihckgaaRows
import Derived.WalkKit
import Derived.WalkSpells
import Derived.WalkLawsBesides
import Derived.Lib.Hide
import Derived.Deep.QuietTactic
import Derived.BigQuiet
import Derived.Deep.Draws
import Derived.Deep.RegionWith
import Derived.Deep.RegionHeld3
import Derived.Deep.DeepMust
import Derived.Maps.AppendAt
import Derived.Deep.AppendLies
import Derived.Deep.OwnRows
import Derived.StillTailTactics
set_option linter.unusedSimpArgs false
set_option linter.unusedVariables false
namespace Go.Proofs.Ytcechmaoihckgaa
open Go.RowKit

/-! Worlds that only grow. -/
def Ext (w w' : World) : Prop := Below w.heap.size w w'
theorem Ext.refl (w : World) : Ext w w := Below.refl _ _
theorem Ext.size {w w' : World} (h : Ext w w') : w.heap.size ≤ w'.heap.size := Below.size h
theorem Ext.trans {a b c : World} (h : Ext a b) (k : Ext b c) : Ext a c := Below.trans h (Below.mono k h.size)
theorem Ext.alloc {a w : World} (h : Ext a w) (o : Obj) : Ext a (w.alloc o) := Below.alloc h h.size o
theorem Ext.setCell {a w : World} (h : Ext a w) {p : Addr} (hp : a.heap.size ≤ p.block) (u : Value) : Ext a (w.setCell p u) := Below.setCell h hp u
theorem Ext.drew {a w : World} (h : Ext a w) : Ext a w.drew := Below.drew h
theorem Ext.drewN {a w : World} (h : Ext a w) (n : Nat) : Ext a (w.drewN n) := Below.trans h ⟨rfl, rfl, rfl, Nat.le_refl _, fun _ _ => rfl⟩
theorem Ext.cell {W w1 : World} (hb : Ext W w1) {b o : Nat} {v : Value} (h : W.cell? ⟨b, o, none⟩ = some v) : w1.cell? ⟨b, o, none⟩ = some v :=
  (Below.cell (p := ⟨b, o, none⟩) hb (World.block_lt_of_cell? W _ h)).trans h
theorem Ext.cells {W w1 : World} (hb : Ext W w1) : (∀ b o, b < W.heap.size → w1.cell? ⟨b, o, none⟩ = W.cell? ⟨b, o, none⟩) ∧ (∀ b o, b < W.heap.size → w1.frozen? ⟨b, o, none⟩ = W.frozen? ⟨b, o, none⟩) ∧ (∀ n, n < W.heap.size → n < w1.heap.size) :=
  ⟨fun b o h => Below.cell (p := ⟨b, o, none⟩) hb h, fun b o h => Below.frozen (p := ⟨b, o, none⟩) hb h, fun _ h => Nat.lt_of_lt_of_le h (Below.size hb)⟩

theorem szA (w : World) (o : Obj) : (w.alloc o).heap.size = w.heap.size + 1 := by simp
theorem szS (w : World) (a : Addr) (v : Value) : (w.setCell a v).heap.size = w.heap.size := by simp [World.setCell]
theorem szD (w : World) : w.drew.heap.size = w.heap.size := rfl

/-! Numbers, points, lines: what a slice holds. -/
abbrev P2 := Int × Int
abbrev P3 := Int × Int × Int
abbrev P4 := Int × Int × Int × Int
abbrev P6 := Int × Int × Int × Int × Int × Int
def nth (l : List Int) (i : Nat) : Int := l.getD i 0
def nth2 (l : List P2) (i : Nat) : P2 := l.getD i (0, 0)
def nth3 (l : List P3) (i : Nat) : P3 := l.getD i (0, 0, 0)
def CellsAt (w : World) (b : Nat) : Nat → List Int → Prop
  | _, [] => True
  | off, x :: l => w.cell? ⟨b, off, none⟩ = some (.int .i64 x) ∧ CellsAt w b (off + 1) l
def CellsAt2 (w : World) (b : Nat) : Nat → List P2 → Prop
  | _, [] => True
  | off, a :: l => w.cell? ⟨b, off, none⟩ = some (.int .i64 a.1) ∧ w.cell? ⟨b, off + 1, none⟩ = some (.int .i64 a.2) ∧ CellsAt2 w b (off + 2) l
def CellsAt3 (w : World) (b : Nat) : Nat → List P3 → Prop
  | _, [] => True
  | off, a :: l => w.cell? ⟨b, off, none⟩ = some (.int .i64 a.1) ∧ w.cell? ⟨b, off + 1, none⟩ = some (.int .i64 a.2.1) ∧ w.cell? ⟨b, off + 2, none⟩ = some (.int .i64 a.2.2) ∧ CellsAt3 w b (off + 3) l
theorem CellsAt.ext {w w1 : World} {b : Nat} (hb : Ext w w1) : ∀ {off : Nat} {l : List Int}, CellsAt w b off l → CellsAt w1 b off l
  | _, [], _ => True.intro
  | _, _ :: _, h => ⟨hb.cell h.1, CellsAt.ext hb h.2⟩
theorem CellsAt2.ext {w w1 : World} {b : Nat} (hb : Ext w w1) : ∀ {off : Nat} {l : List P2}, CellsAt2 w b off l → CellsAt2 w1 b off l
  | _, [], _ => True.intro
  | _, _ :: _, h => ⟨hb.cell h.1, hb.cell h.2.1, CellsAt2.ext hb h.2.2⟩
theorem CellsAt3.ext {w w1 : World} {b : Nat} (hb : Ext w w1) : ∀ {off : Nat} {l : List P3}, CellsAt3 w b off l → CellsAt3 w1 b off l
  | _, [], _ => True.intro
  | _, _ :: _, h => ⟨hb.cell h.1, hb.cell h.2.1, hb.cell h.2.2.1, CellsAt3.ext hb h.2.2.2⟩
theorem CellsAt.get {w : World} {b : Nat} : ∀ {off : Nat} {l : List Int}, CellsAt w b off l → ∀ {i : Nat}, i < l.length → w.cell? ⟨b, off + i, none⟩ = some (.int .i64 (nth l i))
  | _, [], _, i, hi => absurd hi (Nat.not_lt_zero i)
  | _, _ :: _, h, 0, _ => h.1
  | off, _ :: l, h, i + 1, hi => by
    have := CellsAt.get h.2 (i := i) (by simpa using hi)
    rw [show off + (i + 1) = off + 1 + i from by omega]
    exact this
theorem CellsAt2.get {w : World} {b : Nat} : ∀ {off : Nat} {l : List P2}, CellsAt2 w b off l → ∀ {i : Nat}, i < l.length →
    w.cell? ⟨b, off + i * 2, none⟩ = some (.int .i64 (nth2 l i).1) ∧ w.cell? ⟨b, off + i * 2 + 1, none⟩ = some (.int .i64 (nth2 l i).2)
  | _, [], _, i, hi => absurd hi (Nat.not_lt_zero i)
  | _, _ :: _, h, 0, _ => ⟨by simpa [nth2] using h.1, by simpa [nth2] using h.2.1⟩
  | off, _ :: l, h, i + 1, hi => by
    have := CellsAt2.get h.2.2 (i := i) (by simpa using hi)
    rw [show off + (i + 1) * 2 = off + 2 + i * 2 from by omega]
    exact this
theorem CellsAt3.get {w : World} {b : Nat} : ∀ {off : Nat} {l : List P3}, CellsAt3 w b off l → ∀ {i : Nat}, i < l.length →
    w.cell? ⟨b, off + i * 3, none⟩ = some (.int .i64 (nth3 l i).1) ∧ w.cell? ⟨b, off + i * 3 + 1, none⟩ = some (.int .i64 (nth3 l i).2.1) ∧ w.cell? ⟨b, off + i * 3 + 2, none⟩ = some (.int .i64 (nth3 l i).2.2)
  | _, [], _, i, hi => absurd hi (Nat.not_lt_zero i)
  | _, _ :: _, h, 0, _ => ⟨by simpa [nth3] using h.1, by simpa [nth3] using h.2.1, by simpa [nth3] using h.2.2.1⟩
  | off, _ :: l, h, i + 1, hi => by
    have := CellsAt3.get h.2.2.2 (i := i) (by simpa using hi)
    rw [show off + (i + 1) * 3 = off + 3 + i * 3 from by omega]
    exact this
theorem all_take {α : Type} (f : α → Bool) (d : α) (xs : List α) (k : Nat) (h : k < xs.length) : (xs.take (k+1)).all f = ((xs.take k).all f && f (xs.getD k d)) := by
  rw [List.take_succ_eq_append_getElem h, List.all_append, List.getD_eq_getElem?_getD, List.getElem?_eq_getElem h]
  simp
theorem all_false {α : Type} {f : α → Bool} (d : α) {xs : List α} {k : Nat} (h : k < xs.length) (hf : f (xs.getD k d) = false) : xs.all f = false := by
  rw [List.all_eq_false]
  refine ⟨xs.getD k d, ?_, by rw [hf]; simp⟩
  rw [List.getD_eq_getElem?_getD, List.getElem?_eq_getElem h]
  simp

/-! Rests. -/
def Pr (p : Int) : Prop := 1 ≤ p ∧ p ≤ 31
theorem Pr.ne {p : Int} (h : Pr p) : p ≠ 0 := by unfold Pr at h; omega
theorem tmod_bd (x p : Int) (h1 : 1 ≤ p) : -p < x.tmod p ∧ x.tmod p < p := by
  have := Int.tmod_lt_of_pos x (show 0 < p by omega)
  have h2 := Int.lt_tmod_of_pos x (show 0 < p by omega)
  omega
theorem rest_eq (x p : Int) : (x.tmod p + p) % p = x % p := by
  rw [Int.add_emod_right]
  have h := Int.mul_tdiv_add_tmod x p
  conv => rhs; rw [← h, Int.add_comm, Int.add_mul_emod_self_left]

/-! A region that draws its order, whose operations read and whose callees make memory of their own: one walk serves every order. -/
def ExtW (W : World) : Type := {w : World // Ext W w}
def ExtW.wd {W : World} (x : ExtW W) : World := x.val
instance ExtW.some (W : World) : Nonempty (ExtW W) := ⟨⟨W, Ext.refl W⟩⟩
theorem ExtW.ext {a W : World} (h : Ext a W) (x : ExtW W) : Ext a x.wd := h.trans x.2
theorem ExtW.cell {W : World} (x : ExtW W) (b o : Nat) (h : b < W.heap.size) : x.wd.cell? ⟨b, o, none⟩ = W.cell? ⟨b, o, none⟩ := x.2.cells.1 b o h
theorem ExtW.frozen {W : World} (x : ExtW W) (b o : Nat) (h : b < W.heap.size) : x.wd.frozen? ⟨b, o, none⟩ = W.frozen? ⟨b, o, none⟩ := x.2.cells.2.1 b o h
theorem ExtW.lt {W : World} (x : ExtW W) (n : Nat) (h : n < W.heap.size) : n < x.wd.heap.size := x.2.cells.2.2 n h
attribute [go_sem] ExtW.cell ExtW.frozen ExtW.lt
theorem wp_region_ext {P : Program} {id : Nat} {Q : Exit → Act → World → Prop} {a : Act} {w : World} {l : List Oper} (hm : P.follows .mixedOrders = true) (hB : Region.lexB .any l.toArray = true)
    (h : wpQuiet P l.toArray (fun w' => ∃ x : ExtW w, w' = x.wd) (fun a' => ∀ x : ExtW w, Q .normal a' x.wd) l a) : (Code.region id l.toArray true).wp P Q a w :=
  wp_region_quiet (C := fun w' => ∃ x : ExtW w, w' = x.wd) hm hB ⟨⟨_, (Ext.refl w).drew⟩, rfl⟩ (by
    have e : (fun a' => ∀ w', (∃ x : ExtW w, w' = x.wd) → Q .normal a' w') = fun a' => ∀ x : ExtW w, Q .normal a' x.wd := by
      funext a'
      exact propext ⟨fun h x => h _ ⟨x, rfl⟩, fun h w' ⟨x, hx⟩ => hx ▸ h x⟩
    rw [e]
    simpa using h)
section
variable {P : Program} {f : FuncId} {args : Array Value} {W : World} {x : ExtW W}
theorem Calls.ext_of {v : Value} (h : Calls P f args x.wd fun e w' => e = .returned v ∧ Ext x.wd w') : Calls P f args x.wd fun e w'' => e = .returned v ∧ ∃ y : ExtW W, w'' = y.wd :=
  h.mono fun _ w' ⟨he, hb⟩ => ⟨he, ⟨w', x.2.trans hb⟩, rfl⟩
theorem Calls.ext_of_same {v : Value} (h : Calls P f args x.wd fun e w' => e = .returned v ∧ x.wd = w') : Calls P f args x.wd fun e w'' => e = .returned v ∧ ∃ y : ExtW W, w'' = y.wd :=
  h.mono fun _ _ ⟨he, hb⟩ => ⟨he, x, hb.symm⟩
theorem Calls.ext_of_b {b c : Bool} (hb : b = c) (h : Calls P f args x.wd fun e w' => e = .returned (.bool b) ∧ Ext x.wd w') : Calls P f args x.wd fun e w'' => e = .returned (.bool c) ∧ ∃ y : ExtW W, w'' = y.wd := by
  subst hb; exact Calls.ext_of h
theorem Calls.ext_of_same_b {b c : Bool} (hb : b = c) (h : Calls P f args x.wd fun e w' => e = .returned (.bool b) ∧ x.wd = w') : Calls P f args x.wd fun e w'' => e = .returned (.bool c) ∧ ∃ y : ExtW W, w'' = y.wd := by
  subst hb; exact Calls.ext_of_same h
end
/-! Slices that a call has made. -/
def fc1 (l : List Int) : List Value := l.map (Value.int .i64)
def fc2 (l : List P2) : List Value := l.flatMap fun a => [Value.int .i64 a.1, Value.int .i64 a.2]
def fc3 (l : List P3) : List Value := l.flatMap fun a => [Value.int .i64 a.1, Value.int .i64 a.2.1, Value.int .i64 a.2.2]
def Own1 (T : TypeId) (w : World) (base : Nat) (v : Value) (l : List Int) : Prop := w.ownsRow base T 1 v l.length (fc1 l)
def Own2 (T : TypeId) (w : World) (base : Nat) (v : Value) (l : List P2) : Prop := w.ownsRow base T 2 v l.length (fc2 l)
def Own3 (T : TypeId) (w : World) (base : Nat) (v : Value) (l : List P3) : Prop := w.ownsRow base T 3 v l.length (fc3 l)
theorem fc1_app (l m : List Int) : fc1 (l ++ m) = fc1 l ++ fc1 m := by simp [fc1]
theorem fc2_app (l m : List P2) : fc2 (l ++ m) = fc2 l ++ fc2 m := by simp [fc2]
theorem fc3_app (l m : List P3) : fc3 (l ++ m) = fc3 l ++ fc3 m := by simp [fc3]
theorem Ext.grown {w w1 : World} (h : Ext w w1) (row : Option Nat) : w.grownBy w1 row := ⟨Below.os h, Below.tape h, Below.output h, Below.size h, fun k hk _ => Below.block h k hk⟩
theorem Ext.of_grown {a w w1 : World} {row : Option Nat} (h : Ext a w) (hg : w.grownBy w1 row) (hr : ∀ k, row = some k → a.heap.size ≤ k) : Ext a w1 := Below.grown h hg h.size hr
theorem owns_mono {w : World} {base base' : Nat} {e : TypeId} {size : Nat} {v : Value} {n : Nat} {xs : List Value} (h : w.ownsRow base e size v n xs) (hb : base' ≤ base) : w.ownsRow base' e size v n xs := by
  refine ⟨h.1, ?_⟩
  rcases h.2 with h | ⟨g, cap, cur, h1, h2, h3⟩
  · exact .inl h
  · exact .inr ⟨g, cap, cur, h1, Nat.le_trans hb h2, h3⟩
theorem owns_ext {w w1 : World} {base : Nat} {e : TypeId} {size : Nat} {v : Value} {n : Nat} {xs : List Value} (h : w.ownsRow base e size v n xs) (hb : Ext w w1) : w1.ownsRow base e size v n xs := by
  refine h.kept (hb.grown none) ?_
  cases hv : v.ownBlock
  · exact .inl rfl
  · exact .inr (by simp)
/-- The row of a slice whose block lies from 'base' on is not written by what writes a row below it, or another row. -/
theorem owns_far {w w1 : World} {base : Nat} {e : TypeId} {size : Nat} {v : Value} {n : Nat} {xs : List Value} {row : Option Nat} (h : w.ownsRow base e size v n xs) (hg : w.grownBy w1 row) (hne : ∀ k, v.ownBlock = some k → row ≠ some k) : w1.ownsRow base e size v n xs := by
  refine h.kept hg ?_
  cases hv : v.ownBlock with
  | none => exact .inl rfl
  | some k => exact .inr (fun e => hne k hv e.symm)
def Holds1 (w : World) (v : Value) (l : List Int) : Prop := (v = .slice none 0 0 ∧ l = []) ∨ ∃ g cap, v = .slice (some ⟨g, 0, none⟩) l.length cap ∧ CellsAt w g 0 l
def Holds2 (w : World) (v : Value) (l : List P2) : Prop := (v = .slice none 0 0 ∧ l = []) ∨ ∃ g cap, v = .slice (some ⟨g, 0, none⟩) l.length cap ∧ CellsAt2 w g 0 l
def Holds3 (w : World) (v : Value) (l : List P3) : Prop := (v = .slice none 0 0 ∧ l = []) ∨ ∃ g cap, v = .slice (some ⟨g, 0, none⟩) l.length cap ∧ CellsAt3 w g 0 l
theorem CellsAt.of_fc {w : World} {g : Nat} : ∀ {off : Nat} {l : List Int}, (∀ j u, (fc1 l)[j]? = some u → w.cell? ⟨g, off + j, none⟩ = some u) → CellsAt w g off l
  | _, [], _ => True.intro
  | off, x :: l, h => ⟨by simpa using h 0 (.int .i64 x) (by simp [fc1]), CellsAt.of_fc fun j u hu => by
      have := h (j + 1) u (by simpa [fc1] using hu)
      rwa [show off + (j + 1) = off + 1 + j from by omega] at this⟩
theorem CellsAt2.of_fc {w : World} {g : Nat} : ∀ {off : Nat} {l : List P2}, (∀ j u, (fc2 l)[j]? = some u → w.cell? ⟨g, off + j, none⟩ = some u) → CellsAt2 w g off l
  | _, [], _ => True.intro
  | off, x :: l, h => ⟨by simpa using h 0 (.int .i64 x.1) (by simp [fc2]), by simpa using h 1 (.int .i64 x.2) (by simp [fc2]), CellsAt2.of_fc fun j u hu => by
      have := h (j + 2) u (by simpa [fc2] using hu)
      rwa [show off + (j + 2) = off + 2 + j from by omega] at this⟩
theorem CellsAt3.of_fc {w : World} {g : Nat} : ∀ {off : Nat} {l : List P3}, (∀ j u, (fc3 l)[j]? = some u → w.cell? ⟨g, off + j, none⟩ = some u) → CellsAt3 w g off l
  | _, [], _ => True.intro
  | off, x :: l, h => ⟨by simpa using h 0 (.int .i64 x.1) (by simp [fc3]), by simpa using h 1 (.int .i64 x.2.1) (by simp [fc3]), by simpa using h 2 (.int .i64 x.2.2) (by simp [fc3]), CellsAt3.of_fc fun j u hu => by
      have := h (j + 3) u (by simpa [fc3] using hu)
      rwa [show off + (j + 3) = off + 3 + j from by omega] at this⟩
theorem owns_holds {w : World} {base : Nat} {e : TypeId} {size : Nat} {v : Value} {n : Nat} {xs : List Value} (h : w.ownsRow base e size v n xs) :
    (v = .slice none 0 0 ∧ n = 0) ∨ ∃ g cap, v = .slice (some ⟨g, 0, none⟩) n cap ∧ base ≤ g ∧ g < w.heap.size ∧ n ≤ cap ∧ ∀ j u, xs[j]? = some u → w.cell? ⟨g, 0 + j, none⟩ = some u := by
  rcases h.2 with h0 | ⟨g, cap, cur, rfl, hb, hg, hc, _⟩
  · exact .inl h0
  · refine .inr ⟨g, cap, rfl, hb, (Array.getElem?_eq_some_iff.1 hg).1, hc, fun j u hu => ?_⟩
    have := h.cells (g := g) rfl j u hu
    have e : (⟨g, 0, none⟩ : Addr).add j = ⟨g, 0 + j, none⟩ := by unfold Addr.add; split <;> simp_all
    rwa [e] at this
theorem Own1.holds {T : TypeId} {w : World} {base : Nat} {v : Value} {l : List Int} (h : Own1 T w base v l) : Holds1 w v l := by
  rcases owns_holds h with ⟨rfl, h0⟩ | ⟨g, cap, rfl, _, _, _, hc⟩
  · exact .inl ⟨rfl, List.eq_nil_of_length_eq_zero h0⟩
  · exact .inr ⟨g, cap, rfl, CellsAt.of_fc hc⟩
theorem Own2.holds {T : TypeId} {w : World} {base : Nat} {v : Value} {l : List P2} (h : Own2 T w base v l) : Holds2 w v l := by
  rcases owns_holds h with ⟨rfl, h0⟩ | ⟨g, cap, rfl, _, _, _, hc⟩
  · exact .inl ⟨rfl, List.eq_nil_of_length_eq_zero h0⟩
  · exact .inr ⟨g, cap, rfl, CellsAt2.of_fc hc⟩
theorem Own3.holds {T : TypeId} {w : World} {base : Nat} {v : Value} {l : List P3} (h : Own3 T w base v l) : Holds3 w v l := by
  rcases owns_holds h with ⟨rfl, h0⟩ | ⟨g, cap, rfl, _, _, _, hc⟩
  · exact .inl ⟨rfl, List.eq_nil_of_length_eq_zero h0⟩
  · exact .inr ⟨g, cap, rfl, CellsAt3.of_fc hc⟩
theorem Own1.ext {T : TypeId} {w w1 : World} {base : Nat} {v : Value} {l : List Int} (h : Own1 T w base v l) (hb : Ext w w1) : Own1 T w1 base v l := owns_ext h hb
theorem Own2.ext {T : TypeId} {w w1 : World} {base : Nat} {v : Value} {l : List P2} (h : Own2 T w base v l) (hb : Ext w w1) : Own2 T w1 base v l := owns_ext h hb
theorem Own3.ext {T : TypeId} {w w1 : World} {base : Nat} {v : Value} {l : List P3} (h : Own3 T w base v l) (hb : Ext w w1) : Own3 T w1 base v l := owns_ext h hb
theorem Holds1.ext {w w1 : World} {v : Value} {l : List Int} (h : Holds1 w v l) (hb : Ext w w1) : Holds1 w1 v l := by
  rcases h with h | ⟨g, cap, h1, h2⟩
  · exact .inl h
  · exact .inr ⟨g, cap, h1, h2.ext hb⟩
theorem Holds2.ext {w w1 : World} {v : Value} {l : List P2} (h : Holds2 w v l) (hb : Ext w w1) : Holds2 w1 v l := by
  rcases h with h | ⟨g, cap, h1, h2⟩
  · exact .inl h
  · exact .inr ⟨g, cap, h1, h2.ext hb⟩
theorem Holds3.ext {w w1 : World} {v : Value} {l : List P3} (h : Holds3 w v l) (hb : Ext w w1) : Holds3 w1 v l := by
  rcases h with h | ⟨g, cap, h1, h2⟩
  · exact .inl h
  · exact .inr ⟨g, cap, h1, h2.ext hb⟩
theorem Own1.grown_ext {T : TypeId} {a w w1 : World} {base : Nat} {v : Value} {l : List Int} (h : Own1 T w base v l) (hb : a.heap.size ≤ base) (he : Ext a w) (hg : w.grownBy w1 v.ownBlock) : Ext a w1 :=
  Ext.of_grown he hg fun k hk => Nat.le_trans hb (World.ownsRow.lt h k hk).1
theorem Own2.grown_ext {T : TypeId} {a w w1 : World} {base : Nat} {v : Value} {l : List P2} (h : Own2 T w base v l) (hb : a.heap.size ≤ base) (he : Ext a w) (hg : w.grownBy w1 v.ownBlock) : Ext a w1 :=
  Ext.of_grown he hg fun k hk => Nat.le_trans hb (World.ownsRow.lt h k hk).1
theorem Own3.grown_ext {T : TypeId} {a w w1 : World} {base : Nat} {v : Value} {l : List P3} (h : Own3 T w base v l) (hb : a.heap.size ≤ base) (he : Ext a w) (hg : w.grownBy w1 v.ownBlock) : Ext a w1 :=
  Ext.of_grown he hg fun k hk => Nat.le_trans hb (World.ownsRow.lt h k hk).1
section
variable {P : Program} {w : World} {ops : Array Oper} {rest : List Oper} {o : Oper} {a : Act} {Q : Exit → Act → World → Prop}
theorem app1 (hgd : o.guard = none) (s x : Operand) (t e : TypeId) (ho : o.op = .call { callee := .builtin .append, args := #[s, x], argTypes := #[t, t] }) (ht : P.underlying t = some (.slice e))
    (hinfo : (P.info? e).map (fun i => (i.zero, i.size, i.bytes)) = some (some (.int .i64 0), 1, 8))
    (base : Nat) (v : Value) (l : List Int) (hs : a.eval s = v) (hown : Own1 e w base v l) (g : Nat) (y : Int) (hx : a.eval x = .slice (some ⟨g, 0, none⟩) 1 1) (hnew : w.heap[g]? = some (.cells #[.int .i64 y] e)) (hlen : l.length ≤ 100000000) (hbase : base ≤ w.heap.size)
    (h : ∀ v' w', Own1 e w' base v' (l ++ [y]) → w.grownBy w' v.ownBlock → wpList P ops Q rest (a.put o.dst v') w') : wpList P ops Q (o :: rest) a w := by
  obtain ⟨i0, hi, hz0, hz1, hz2⟩ := info_parts hinfo
  refine wpList_append_own w hgd s x t ho base e i0 (.int .i64 0) 1 8 ht hi hz0 hz1 hz2 rfl (by decide) v l.length (fc1 l) hs hown ⟨g, 0, none⟩ 1 1 [.int .i64 y] hx rfl (World.news_of_block (cs := #[.int .i64 y]) hnew) (by simp [Value.oneCell']) (by unfold maxLen; omega) (by omega) hbase ?_
  intro v' w' h1 h2 _
  refine h v' w' ?_ h2
  show w'.ownsRow base e 1 v' (l ++ [y]).length (fc1 (l ++ [y]))
  rw [fc1_app, List.length_append]
  exact h1
theorem app2 (hgd : o.guard = none) (s x : Operand) (t e : TypeId) (ho : o.op = .call { callee := .builtin .append, args := #[s, x], argTypes := #[t, t] }) (ht : P.underlying t = some (.slice e))
    (hinfo : (P.info? e).map (fun i => (i.zero, i.size, i.bytes)) = some (some (.agg #[.int .i64 0, .int .i64 0]), 2, 16))
    (base : Nat) (v : Value) (l : List P2) (hs : a.eval s = v) (hown : Own2 e w base v l) (g : Nat) (y0 y1 : Int) (hx : a.eval x = .slice (some ⟨g, 0, none⟩) 1 1) (hnew : w.heap[g]? = some (.cells #[.int .i64 y0, .int .i64 y1] e)) (hlen : l.length ≤ 100000000) (hbase : base ≤ w.heap.size)
    (h : ∀ v' w', Own2 e w' base v' (l ++ [(y0, y1)]) → w.grownBy w' v.ownBlock → wpList P ops Q rest (a.put o.dst v') w') : wpList P ops Q (o :: rest) a w := by
  obtain ⟨i0, hi, hz0, hz1, hz2⟩ := info_parts hinfo
  refine wpList_append_own w hgd s x t ho base e i0 _ 2 16 ht hi hz0 hz1 hz2 rfl (by decide) v l.length (fc2 l) hs hown ⟨g, 0, none⟩ 1 1 [.int .i64 y0, .int .i64 y1] hx rfl (World.news_of_block (cs := #[.int .i64 y0, .int .i64 y1]) hnew) (by simp [Value.oneCell']) (by unfold maxLen; omega) (by omega) hbase ?_
  intro v' w' h1 h2 _
  refine h v' w' ?_ h2
  show w'.ownsRow base e 2 v' (l ++ [(y0, y1)]).length (fc2 (l ++ [(y0, y1)]))
  rw [fc2_app, List.length_append]
  exact h1
theorem app3 (hgd : o.guard = none) (s x : Operand) (t e : TypeId) (ho : o.op = .call { callee := .builtin .append, args := #[s, x], argTypes := #[t, t] }) (ht : P.underlying t = some (.slice e))
    (hinfo : (P.info? e).map (fun i => (i.zero, i.size, i.bytes)) = some (some (.agg #[.int .i64 0, .int .i64 0, .int .i64 0]), 3, 24))
    (base : Nat) (v : Value) (l : List P3) (hs : a.eval s = v) (hown : Own3 e w base v l) (g : Nat) (y0 y1 y2 : Int) (hx : a.eval x = .slice (some ⟨g, 0, none⟩) 1 1) (hnew : w.heap[g]? = some (.cells #[.int .i64 y0, .int .i64 y1, .int .i64 y2] e)) (hlen : l.length ≤ 100000000) (hbase : base ≤ w.heap.size)
    (h : ∀ v' w', Own3 e w' base v' (l ++ [(y0, y1, y2)]) → w.grownBy w' v.ownBlock → wpList P ops Q rest (a.put o.dst v') w') : wpList P ops Q (o :: rest) a w := by
  obtain ⟨i0, hi, hz0, hz1, hz2⟩ := info_parts hinfo
  refine wpList_append_own w hgd s x t ho base e i0 _ 3 24 ht hi hz0 hz1 hz2 rfl (by decide) v l.length (fc3 l) hs hown ⟨g, 0, none⟩ 1 1 [.int .i64 y0, .int .i64 y1, .int .i64 y2] hx rfl (World.news_of_block (cs := #[.int .i64 y0, .int .i64 y1, .int .i64 y2]) hnew) (by simp [Value.oneCell']) (by unfold maxLen; omega) (by omega) hbase ?_
  intro v' w' h1 h2 _
  refine h v' w' ?_ h2
  show w'.ownsRow base e 3 v' (l ++ [(y0, y1, y2)]).length (fc3 (l ++ [(y0, y1, y2)]))
  rw [fc3_app, List.length_append]
  exact h1
end
theorem Own1.lit (T : TypeId) (w : World) (y : Int) : Own1 T (w.alloc (.cells #[.int .i64 y] T)) w.heap.size (.slice (some ⟨w.heap.size, 0, none⟩) 1 1) [y] :=
  World.ownsRow_lit w #[.int .i64 y] 1 (Nat.le_refl _) (by unfold maxLen; omega) rfl
theorem Own3.lit (T : TypeId) (w : World) (y0 y1 y2 : Int) : Own3 T (w.alloc (.cells #[.int .i64 y0, .int .i64 y1, .int .i64 y2] T)) w.heap.size (.slice (some ⟨w.heap.size, 0, none⟩) 1 1) [(y0, y1, y2)] :=
  World.ownsRow_lit w #[.int .i64 y0, .int .i64 y1, .int .i64 y2] 1 (Nat.le_refl _) (by unfold maxLen; omega) rfl
theorem Own1.none (T : TypeId) (w : World) : Own1 T (w.alloc (.cells #[] T)) w.heap.size (.slice (some ⟨w.heap.size, 0, none⟩) 0 0) [] :=
  World.ownsRow_lit w #[] 0 (Nat.le_refl _) (by unfold maxLen; omega) rfl
theorem Own2.none (T : TypeId) (w : World) : Own2 T (w.alloc (.cells #[] T)) w.heap.size (.slice (some ⟨w.heap.size, 0, none⟩) 0 0) [] :=
  World.ownsRow_lit w #[] 0 (Nat.le_refl _) (by unfold maxLen; omega) rfl
theorem Own3.none (T : TypeId) (w : World) : Own3 T (w.alloc (.cells #[] T)) w.heap.size (.slice (some ⟨w.heap.size, 0, none⟩) 0 0) [] :=
  World.ownsRow_lit w #[] 0 (Nat.le_refl _) (by unfold maxLen; omega) rfl
@[go_sem] theorem eqAgg22 (a0 a1 a2 b0 b1 b2 : Int) (w : World) : (Op.equalIn 10000 22 (.agg #[.int .i64 a0, .int .i64 a1, .int .i64 a2]) (.agg #[.int .i64 b0, .int .i64 b1, .int .i64 b2])).run Try.prog w = .ok ((a0, a1, a2) == (b0, b1, b2)) w := by
  have u3 := Try.underlying2
  have a3 := Try.isAgg2
  have z3 := Try.sizeOf2
  rw [show (10000 : Nat) = 9999 + 1 from rfl, Op.equalIn]
  simp only [Sem.run_bind, run_underlying Try.underlying22, Result.andThen_ok]
  simp only [Std.Legacy.Range.forIn_eq_forIn_range', Std.Legacy.Range.size, Nat.sub_zero, Nat.add_sub_cancel, Nat.div_one, List.range'_succ, List.range'_zero, List.forIn_cons, List.forIn_nil]
  go_simp
  by_cases h0 : a0 = b0 <;> by_cases h1 : a1 = b1 <;> by_cases h2 : a2 = b2 <;> simp [h0, h1, h2]
@[go_sem] theorem eqAgg25 (a0 a1 a2 b0 b1 b2 : Int) (w : World) : (Op.equalIn 10000 25 (.agg #[.int .i64 a0, .int .i64 a1, .int .i64 a2]) (.agg #[.int .i64 b0, .int .i64 b1, .int .i64 b2])).run Try.prog w = .ok ((a0, a1, a2) == (b0, b1, b2)) w := by
  have u3 := Try.underlying2
  have a3 := Try.isAgg2
  have z3 := Try.sizeOf2
  rw [show (10000 : Nat) = 9999 + 1 from rfl, Op.equalIn]
  simp only [Sem.run_bind, run_underlying Try.underlying25, Result.andThen_ok]
  simp only [Std.Legacy.Range.forIn_eq_forIn_range', Std.Legacy.Range.size, Nat.sub_zero, Nat.add_sub_cancel, Nat.div_one, List.range'_succ, List.range'_zero, List.forIn_cons, List.forIn_nil]
  go_simp
  by_cases h0 : a0 = b0 <;> by_cases h1 : a1 = b1 <;> by_cases h2 : a2 = b2 <;> simp [h0, h1, h2]
@[go_sem] theorem eqAgg54 (a0 a1 b0 b1 : Int) (w : World) : (Op.equalIn 10000 54 (.agg #[.int .i64 a0, .int .i64 a1]) (.agg #[.int .i64 b0, .int .i64 b1])).run Try.prog w = .ok ((a0, a1) == (b0, b1)) w := by
  have u3 := Try.underlying2
  have a3 := Try.isAgg2
  have z3 := Try.sizeOf2
  rw [show (10000 : Nat) = 9999 + 1 from rfl, Op.equalIn]
  simp only [Sem.run_bind, run_underlying Try.underlying54, Result.andThen_ok]
  simp only [Std.Legacy.Range.forIn_eq_forIn_range', Std.Legacy.Range.size, Nat.sub_zero, Nat.add_sub_cancel, Nat.div_one, List.range'_succ, List.range'_zero, List.forIn_cons, List.forIn_nil]
  go_simp
  by_cases h0 : a0 = b0 <;> by_cases h1 : a1 = b1 <;> simp [h0, h1]
@[go_sem] theorem eqAgg55 (a0 a1 b0 b1 : Int) (w : World) : (Op.equalIn 10000 55 (.agg #[.int .i64 a0, .int .i64 a1]) (.agg #[.int .i64 b0, .int .i64 b1])).run Try.prog w = .ok ((a0, a1) == (b0, b1)) w := by
  have u3 := Try.underlying2
  have a3 := Try.isAgg2
  have z3 := Try.sizeOf2
  rw [show (10000 : Nat) = 9999 + 1 from rfl, Op.equalIn]
  simp only [Sem.run_bind, run_underlying Try.underlying55, Result.andThen_ok]
  simp only [Std.Legacy.Range.forIn_eq_forIn_range', Std.Legacy.Range.size, Nat.sub_zero, Nat.add_sub_cancel, Nat.div_one, List.range'_succ, List.range'_zero, List.forIn_cons, List.forIn_nil]
  go_simp
  by_cases h0 : a0 = b0 <;> by_cases h1 : a1 = b1 <;> simp [h0, h1]
theorem ret_bb {x0 : Bool} {x1 : Bool} {r : Bool × Bool} (h : (x0, x1) = r) : Ending.returned (.tuple #[.bool (x0), .bool (x1)]) = Ending.returned (.tuple #[.bool (r.1), .bool (r.2)]) := by subst h; rfl

theorem ret_bbb {x0 : Bool} {x1 : Bool} {x2 : Bool} {r : Bool × Bool × Bool} (h : (x0, x1, x2) = r) : Ending.returned (.tuple #[.bool (x0), .bool (x1), .bool (x2)]) = Ending.returned (.tuple #[.bool (r.1), .bool (r.2.1), .bool (r.2.2)]) := by subst h; rfl

theorem ret_bbi {x0 : Bool} {x1 : Bool} {x2 : Int} {r : Bool × Bool × Int} (h : (x0, x1, x2) = r) : Ending.returned (.tuple #[.bool (x0), .bool (x1), .int .i64 (x2)]) = Ending.returned (.tuple #[.bool (r.1), .bool (r.2.1), .int .i64 (r.2.2)]) := by subst h; rfl

theorem ret_bi {x0 : Bool} {x1 : Int} {r : Bool × Int} (h : (x0, x1) = r) : Ending.returned (.tuple #[.bool (x0), .int .i64 (x1)]) = Ending.returned (.tuple #[.bool (r.1), .int .i64 (r.2)]) := by subst h; rfl

theorem ret_bib {x0 : Bool} {x1 : Int} {x2 : Bool} {r : Bool × Int × Bool} (h : (x0, x1, x2) = r) : Ending.returned (.tuple #[.bool (x0), .int .i64 (x1), .bool (x2)]) = Ending.returned (.tuple #[.bool (r.1), .int .i64 (r.2.1), .bool (r.2.2)]) := by subst h; rfl

theorem ret_bii {x0 : Bool} {x1 : Int} {x2 : Int} {r : Bool × Int × Int} (h : (x0, x1, x2) = r) : Ending.returned (.tuple #[.bool (x0), .int .i64 (x1), .int .i64 (x2)]) = Ending.returned (.tuple #[.bool (r.1), .int .i64 (r.2.1), .int .i64 (r.2.2)]) := by subst h; rfl

theorem ret_ib {x0 : Int} {x1 : Bool} {r : Int × Bool} (h : (x0, x1) = r) : Ending.returned (.tuple #[.int .i64 (x0), .bool (x1)]) = Ending.returned (.tuple #[.int .i64 (r.1), .bool (r.2)]) := by subst h; rfl

theorem ret_ibb {x0 : Int} {x1 : Bool} {x2 : Bool} {r : Int × Bool × Bool} (h : (x0, x1, x2) = r) : Ending.returned (.tuple #[.int .i64 (x0), .bool (x1), .bool (x2)]) = Ending.returned (.tuple #[.int .i64 (r.1), .bool (r.2.1), .bool (r.2.2)]) := by subst h; rfl

theorem ret_ibi {x0 : Int} {x1 : Bool} {x2 : Int} {r : Int × Bool × Int} (h : (x0, x1, x2) = r) : Ending.returned (.tuple #[.int .i64 (x0), .bool (x1), .int .i64 (x2)]) = Ending.returned (.tuple #[.int .i64 (r.1), .bool (r.2.1), .int .i64 (r.2.2)]) := by subst h; rfl

theorem ret_ii {x0 : Int} {x1 : Int} {r : Int × Int} (h : (x0, x1) = r) : Ending.returned (.tuple #[.int .i64 (x0), .int .i64 (x1)]) = Ending.returned (.tuple #[.int .i64 (r.1), .int .i64 (r.2)]) := by subst h; rfl

theorem ret_iib {x0 : Int} {x1 : Int} {x2 : Bool} {r : Int × Int × Bool} (h : (x0, x1, x2) = r) : Ending.returned (.tuple #[.int .i64 (x0), .int .i64 (x1), .bool (x2)]) = Ending.returned (.tuple #[.int .i64 (r.1), .int .i64 (r.2.1), .bool (r.2.2)]) := by subst h; rfl

theorem ret_iii {x0 : Int} {x1 : Int} {x2 : Int} {r : Int × Int × Int} (h : (x0, x1, x2) = r) : Ending.returned (.tuple #[.int .i64 (x0), .int .i64 (x1), .int .i64 (x2)]) = Ending.returned (.tuple #[.int .i64 (r.1), .int .i64 (r.2.1), .int .i64 (r.2.2)]) := by subst h; rfl

theorem ret_iiii {x0 : Int} {x1 : Int} {x2 : Int} {x3 : Int} {r : Int × Int × Int × Int} (h : (x0, x1, x2, x3) = r) : Ending.returned (.tuple #[.int .i64 (x0), .int .i64 (x1), .int .i64 (x2), .int .i64 (x3)]) = Ending.returned (.tuple #[.int .i64 (r.1), .int .i64 (r.2.1), .int .i64 (r.2.2.1), .int .i64 (r.2.2.2)]) := by subst h; rfl


end Go.Proofs.Ytcechmaoihckgaa
