import Derived.Test.YtnijajjdldijpaaCs
set_option linter.unusedSimpArgs false
set_option linter.unusedVariables false
namespace Go.Proofs.Ytnijajjdldijpaa
open Go.RowKit
/-! One operation. -/
def Callable (P : Program) (f : Nat) : Prop := ∀ (args : Array Value) (w : World), (callFunc f args).run P w = .ok (.enter f args) w
def ArgRel (P : Program) (W : World) : PV → Value → Prop
  | .v x, a => a = x
  | .s n c, a => RosRel W none a n c
  | .f g, a => FnRel P W none a g
  | .p l, a => ∃ g o, a = .pointer (some ⟨g, o, none⟩) ∧ ∀ j u, l[j]? = some u → W.cell? ⟨g, o + j, none⟩ = some u
  | .ps n c, a => ∃ g o v, a = .pointer (some ⟨g, o, none⟩) ∧ W.cell? ⟨g, o, none⟩ = some v ∧ RosRel W none v n c
def TRel (W W' : World) : TR → Value → Prop
  | .v x, v => v = x
  | .s e sz n c, v => c.ok ∧ W'.ownsRow W.heap.size e sz v n c.toVals
def SOff (g : Nat) : List TR → List Value → Prop
  | .s _ _ _ _ :: l, v :: vs => ownOf v ≠ some g ∧ SOff g l vs
  | .v _ :: l, _ :: vs => SOff g l vs
  | _, _ => True
def TApart : List TR → List Value → Prop
  | .s _ _ _ _ :: l, v :: vs => (∀ g, ownOf v = some g → SOff g l vs) ∧ TApart l vs
  | _ :: l, _ :: vs => TApart l vs
  | _, _ => True
def ResRel (W W' : World) (rs : List TR) (rv : Value) : Prop := match rs with
  | [r] => TRel W W' r rv
  | rs => ∃ vs : List Value, rv = .tuple vs.toArray ∧ All2 (TRel W W') rs vs ∧ TApart rs vs
def Sound (P : Program) (g : Nat) (run : List PV → Option (Bool × List TR)) : Prop :=
  ∀ (W : World) (pvs : List PV) (avs : List Value) (rs : List TR), All2 (ArgRel P W) pvs avs → run pvs = some (true, rs) →
    Calls P g avs.toArray W fun e W' => ∃ rv, e = .returned rv ∧ ResRel W W' rs rv ∧ W.grownBy W' none
def SoundM (P : Program) (g : Nat) (run : MRun) : Prop :=
  ∀ (W : World) (e : TypeId) (sz n : Nat) (c : Cells) (v : Value) (vs : List Value) (r : Value) (c' : Cells), c.ok → W.ownsRow 0 e sz v n c.toVals → run e sz n c vs = some (true, r, c') →
    Calls P g (v :: vs).toArray W fun x W' => x = .returned r ∧ c'.ok ∧ W'.ownsRow 0 e sz v n c'.toVals ∧ W.grownBy W' (ownOf v)
/-- A slice that does not lie in block b. -/
def BCRel (W : World) (b : Nat) : BC → Value → Prop
  | .v x, a => a = x
  | .s n c, a => RosRel W (some b) a n c
def ArgB (W : World) (b : Nat) : PV → Value → Prop
  | .v x, a => a = x
  | .s n c, a => RosRel W (some b) a n c
  | _, _ => False
def newC : List BC → List Value → List Value
  | .v x :: l, _ :: m => x :: newC l m
  | .s _ _ :: l, u :: m => u :: newC l m
  | _, _ => []
def retOf : List Value → Value
  | [x] => x
  | l => .tuple l.toArray
def SoundP (P : Program) (g : Nat) (run : PRun) : Prop :=
  ∀ (W : World) (e : TypeId) (b : Nat) (cs : Array Value) (bcs : List BC) (pvs : List PV) (avs : List Value) (rs : List Value) (bcs' : List BC), W.heap[b]? = some (.cells cs e (0, 0)) → All2 (BCRel W b) bcs cs.toList → All2 (ArgB W b) pvs avs →
    run e bcs pvs = some (true, rs, bcs') → sameB bcs bcs' = true → Calls P g (.pointer (some ⟨b, 0, none⟩) :: avs).toArray W fun y W' => y = .returned (retOf rs) ∧ W'.heap[b]? = some (.cells (newC bcs' cs.toList).toArray e (0, 0)) ∧ W.grownBy W' (some b)
def SoundB (P : Program) (g : Nat) (run : BRun) : Prop :=
  ∀ (W : World) (n : Nat) (c : Cells) (v : Value) (e : TypeId) (vals : List Value), RosRel W none v n c → run [.s n c] = some (true, e, vals) →
    Calls P g [v].toArray W fun y W' => ∃ b, y = .returned (.pointer (some ⟨b, 0, none⟩)) ∧ W.heap.size ≤ b ∧ W'.heap[b]? = some (.cells (v :: vals).toArray e (0, 0)) ∧ W.grownBy W' none
def SoundF (P : Program) (g : Nat) : MFn → Prop
  | .row run => SoundM P g run
  | .box run => SoundP P g run
  | .src run => SoundB P g run
def SumsOK (P : Program) (S : Sums) : Prop := (∀ g run, S.f g = some run → Callable P g ∧ Sound P g run) ∧ ∀ g run, S.m g = some run → Callable P g ∧ SoundF P g run
section
variable {P : Program} {W : World} {M : MV} {n : Nat} {s : FSt} {a : Act} {w w' : World} {ρ ρ' : Nat → Value} {H H' : Nat → Option Blk}
theorem R.ev (h : R P W M n s a w ρ) (x : Operand) : Rel P W M ρ s.heap (s.ev x) (a.eval x) := by
  cases x with
  | tmp t => exact h.slots t
  | const v => exact rfl
  | global g => exact True.intro
  | func f => exact ⟨[], rfl, True.intro⟩
theorem R.extOff (h : R P W M n s a w ρ) {row : Option Nat} (hg : w.grownBy w' row) (hr : ∀ g, row = some g → Own W M g ∧ ∀ j bj, s.heap j = some bj → ownB bj = true → ownOf (ρ j) ≠ some g) : R P W M n s a w' ρ where
  grown := grown_step h.grown hg fun g e => (hr g e).1
  size := h.size
  defers := h.defers
  slots := h.slots
  heap := fun id b hb => (h.heap id b hb).grown hg fun ob g hgo e => (hr g e).2 id b hb ob hgo
  apart := h.apart
  fix := h.fix
theorem any_beq {l : List Nat} {id : Nat} (h : l.any (Nat.beq id) = false) {i : Nat} (hi : i ∈ l) : i ≠ id := by
  rintro rfl
  have := List.any_eq_false.1 h i hi
  simp at this
theorem heap_kill {id i : Nat} (h : i ≠ id) : (s.kill id).heap i = match s.heap i with | some b => some (killB id b) | none => none := by
  show (bif Nat.beq i id then none else _) = _
  rw [nbeq h, cond_false]
  cases s.heap i <;> rfl
theorem live_kill {id i : Nat} (h : i ≠ id) (hl : (s.heap i).isSome = true) : ((s.kill id).heap i).isSome = true := by
  rw [heap_kill h]
  cases hs : s.heap i with
  | none => rw [hs] at hl; cases hl
  | some b => rfl
theorem All2.memMono {α β : Type} {R Q : α → β → Prop} : ∀ {l : List α} {m : List β}, (∀ a ∈ l, ∀ b, R a b → Q a b) → All2 R l m → All2 Q l m
  | [], [], _, _ => True.intro
  | a :: l, b :: m, h, ⟨p, q⟩ => ⟨h a (by simp) b p, All2.memMono (fun x hx => h x (by simp [hx])) q⟩
theorem Rel.kill {id : Nat} {x : SV} {v : Value} (k : Rel P W M ρ s.heap x v) : Rel P W M ρ (s.kill id).heap (killSV id x) v := by
  cases x with
  | val x => exact k
  | ptr i off =>
    by_cases e : i = id
    · subst e; simp only [killSV, show Nat.beq i i = true by simp, cond_true]; exact True.intro
    · simp only [killSV, nbeq e, cond_false]; exact ⟨live_kill e k.1, k.2⟩
  | row i =>
    by_cases e : i = id
    · subst e; simp only [killSV, show Nat.beq i i = true by simp, cond_true]; exact True.intro
    · simp only [killSV, nbeq e, cond_false]; exact ⟨live_kill e k.1, k.2⟩
  | sub i off m z =>
    by_cases e : i = id
    · subst e; simp only [killSV, show Nat.beq i i = true by simp, cond_true]; exact True.intro
    · simp only [killSV, nbeq e, cond_false]; exact ⟨live_kill e k.1, k.2⟩
  | clo f l =>
    simp only [killSV]
    cases hb : l.any (Nat.beq id) with
    | true => exact True.intro
    | false =>
      obtain ⟨vs, h1, h2⟩ := k
      exact ⟨vs, h1, h2.memMono fun i hi b hc => ⟨live_kill (any_beq hb hi) hc.1, hc.2⟩⟩
  | fn g => exact k
  | tup l =>
    simp only [killSV]
    cases hb : killTI id l with
    | true => exact True.intro
    | false =>
      obtain ⟨vs, h1, h2⟩ := k
      refine ⟨vs, h1, h2.memMono fun i hi b hc => ?_⟩
      cases i with
      | v x => exact hc
      | r j =>
        refine ⟨live_kill ?_ hc.1, hc.2⟩
        rintro rfl
        have := List.any_eq_false.1 hb _ hi
        simp at this
  | agr l =>
    simp only [killSV]
    cases hb : killTI id l with
    | true => exact True.intro
    | false =>
      obtain ⟨vs, h1, h2⟩ := k
      refine ⟨vs, h1, h2.memMono fun i hi b hc => ?_⟩
      cases i with
      | v x => exact hc
      | r j =>
        refine ⟨live_kill ?_ hc.1, hc.2⟩
        rintro rfl
        have := List.any_eq_false.1 hb _ hi
        simp at this
  | junk => exact k
theorem ownB_kill (id : Nat) (b : Blk) : ownB (killB id b) = ownB b := by cases b <;> rfl
theorem All2.mapBoth {α β : Type} {R Q : α → β → Prop} {f : α → α} (h : ∀ a b, R a b → Q (f a) b) : ∀ {l : List α} {m : List β}, All2 R l m → All2 Q (l.map f) m
  | [], [], _ => True.intro
  | _ :: _, _ :: _, ⟨p, q⟩ => ⟨h _ _ p, All2.mapBoth h q⟩
theorem BRel.kill {id i : Nat} {b : Blk} (k : BRel P W M w ρ s.heap i b) : BRel P W M w ρ (s.kill id).heap i (killB id b) := by
  cases b with
  | box e cells =>
    obtain ⟨g, cs, h1, h2, h3, h4⟩ := k
    exact ⟨g, cs, h1, h2, h3, h4.mapBoth fun x y (k : Rel P W M ρ s.heap x y) => k.kill⟩
  | row e sz m c => exact k
  | ros m c => exact k
  | rop cells =>
    obtain ⟨g, o, h1, h2, h3⟩ := k
    refine ⟨g, o, h1, h2, fun j v hv => ?_⟩
    rw [List.getElem?_map] at hv
    cases hc : cells[j]? with
    | none => rw [hc] at hv; cases hv
    | some x =>
      rw [hc] at hv
      obtain rfl : killSV id x = v := by simpa using hv
      obtain ⟨u, hu, hr⟩ := h3 j x hc
      exact ⟨u, hu, hr.kill⟩
theorem kill_inv {id j : Nat} {bj : Blk} (h : (s.kill id).heap j = some bj) : j ≠ id ∧ ∃ b, s.heap j = some b ∧ bj = killB id b := by
  by_cases e : j = id
  · subst e
    simp only [FSt.kill, show Nat.beq j j = true by simp, cond_true] at h
    cases h
  · rw [heap_kill e] at h
    cases hs : s.heap j with
    | none => rw [hs] at h; cases h
    | some b => rw [hs] at h; exact ⟨e, b, rfl, by simpa using h.symm⟩
theorem R.kill (h : R P W M n s a w ρ) (id : Nat) (hid : id ≠ 0 ∧ id ≠ 1) : R P W M n (s.kill id) a w ρ where
  grown := h.grown
  size := h.size
  defers := h.defers
  slots := fun t => (h.slots t).kill
  heap := fun j bj hb => by
    obtain ⟨_, b, hs, rfl⟩ := kill_inv hb
    exact (h.heap j b hs).kill
  apart := fun i j bi bj g hij hi hj oi oj gi => by
    obtain ⟨_, b, hs, rfl⟩ := kill_inv hi
    obtain ⟨_, b', hs', rfl⟩ := kill_inv hj
    rw [ownB_kill] at oi oj
    exact h.apart i j b b' g hij hs hs' oi oj gi
  fix := fun v hv => ⟨(h.fix v hv).1, ⟨live_kill (Ne.symm hid.1) (h.fix v hv).2.1.1, (h.fix v hv).2.1.2⟩, fun u hu => ⟨live_kill (Ne.symm hid.2) ((h.fix v hv).2.2 u hu).1, ((h.fix v hv).2.2 u hu).2⟩⟩
/-! What a slice holds, wherever it lies. -/
theorem ros_ext {B : Option Nat} {v : Value} {m : Nat} {c : Cells} (h : RosRel w B v m c) {w' : World} (hg : w.grownBy w' B) : RosRel w' none v m c := by
  refine ⟨h.1, ?_⟩
  rcases h.2 with h0 | ⟨g, o, cap, h1, h2, h3, h4⟩
  · exact .inl h0
  · exact .inr ⟨g, o, cap, h1, h2, ⟨by simp, Nat.lt_of_lt_of_le h3.2 hg.size⟩, fun j u hu => World.grownBy.cell hg (h4 j u hu) (fun e => h3.1 e.symm)⟩
theorem ros_of_row {b e sz m : Nat} {v : Value} {c : Cells} (ho : c.ok) (h : w.ownsRow b e sz v m c.toVals) : RosRel w none v m c := by
  refine ⟨ho, ?_⟩
  rcases h.2 with ⟨h0, h1⟩ | ⟨g, cap, cur, rfl, hb, hg, hc, hm, hz, hx⟩
  · exact .inl ⟨h0, h1, by have := h.1; rw [h1] at this; simpa using this⟩
  · refine .inr ⟨g, 0, cap, rfl, hc, ⟨by simp, (Array.getElem?_eq_some_iff.1 hg).1⟩, fun j u hu => ?_⟩
    have := h.cells (g := g) rfl j u hu
    have e : (⟨g, 0, none⟩ : Addr).add j = ⟨g, 0 + j, none⟩ := by unfold Addr.add; split <;> simp_all
    rwa [e] at this
theorem ros_at (h : R P W M n s a w ρ) {id m : Nat} {c : Cells} (hb : s.heap id = some (.ros m c)) : RosRel w none (ρ id) m c := ros_ext (h.heap id _ hb) h.grown
theorem row_at (h : R P W M n s a w ρ) {id e sz m : Nat} {c : Cells} (hb : s.heap id = some (.row e sz m c)) : RosRel w none (ρ id) m c := ros_of_row (h.heap id _ hb).1 (h.heap id _ hb).2.1
theorem vals_all2 : ∀ {l : List SV} {m : List Value} {vs : List Value}, SV.vals l = some vs → All2 (Rel P W M ρ H) l m → m = vs
  | [], [], vs, h, _ => by simpa [SV.vals] using h
  | .val x :: l, b :: m, vs, h, ⟨p, q⟩ => by
    simp only [SV.vals] at h
    split at h
    · rename_i l' hl
      simp only [Option.some.injEq] at h
      subst h
      rw [vals_all2 hl q, show b = x from p]
    · cases h
  | .ptr .. :: _, _ :: _, _, h, _ => by simp [SV.vals] at h
  | .row .. :: _, _ :: _, _, h, _ => by simp [SV.vals] at h
  | .sub .. :: _, _ :: _, _, h, _ => by simp [SV.vals] at h
  | .clo .. :: _, _ :: _, _, h, _ => by simp [SV.vals] at h
  | .fn .. :: _, _ :: _, _, h, _ => by simp [SV.vals] at h
  | .tup .. :: _, _ :: _, _, h, _ => by simp [SV.vals] at h
  | .junk :: _, _ :: _, _, h, _ => by simp [SV.vals] at h
theorem intsOf_vals : ∀ {l : List Value} {m : List Int}, intsOf l = some m → l = m.map (Value.int .i64)
  | [], m, h => by simp only [intsOf, Option.some.injEq] at h; subst h; rfl
  | .int .i64 x :: l, m, h => by
    simp only [intsOf] at h
    split at h
    · rename_i m' hm
      simp only [Option.some.injEq] at h
      subst h
      rw [intsOf_vals hm]
      rfl
    · cases h
  | .int .i8 _ :: _, _, h => by simp [intsOf] at h
  | .int .i16 _ :: _, _, h => by simp [intsOf] at h
  | .int .i32 _ :: _, _, h => by simp [intsOf] at h
  | .int .u8 _ :: _, _, h => by simp [intsOf] at h
  | .int .u16 _ :: _, _, h => by simp [intsOf] at h
  | .int .u32 _ :: _, _, h => by simp [intsOf] at h
  | .int .u64 _ :: _, _, h => by simp [intsOf] at h
  | .bool _ :: _, _, h => by simp [intsOf] at h
  | .float _ _ :: _, _, h => by simp [intsOf] at h
  | .complex _ _ _ :: _, _, h => by simp [intsOf] at h
  | .string _ :: _, _, h => by simp [intsOf] at h
  | .pointer _ :: _, _, h => by simp [intsOf] at h
  | .slice _ _ _ :: _, _, h => by simp [intsOf] at h
  | .map _ :: _, _, h => by simp [intsOf] at h
  | .chan _ :: _, _, h => by simp [intsOf] at h
  | .func _ _ _ :: _, _, h => by simp [intsOf] at h
  | .nilFunc :: _, _, h => by simp [intsOf] at h
  | .iface _ _ :: _, _, h => by simp [intsOf] at h
  | .nilIface :: _, _, h => by simp [intsOf] at h
  | .agg _ :: _, _, h => by simp [intsOf] at h
  | .tuple _ :: _, _, h => by simp [intsOf] at h
theorem bytsOf_vals : ∀ {l : List Value} {m : List Int}, bytsOf l = some m → l = m.map (Value.int .u8)
  | [], m, h => by simp only [bytsOf, Option.some.injEq] at h; subst h; rfl
  | .int .u8 x :: l, m, h => by
    simp only [bytsOf] at h
    split at h
    · rename_i m' hm
      simp only [Option.some.injEq] at h
      subst h
      rw [bytsOf_vals hm]
      rfl
    · cases h
  | .int .i8 _ :: _, _, h => by simp [bytsOf] at h
  | .int .i16 _ :: _, _, h => by simp [bytsOf] at h
  | .int .i32 _ :: _, _, h => by simp [bytsOf] at h
  | .int .i64 _ :: _, _, h => by simp [bytsOf] at h
  | .int .u16 _ :: _, _, h => by simp [bytsOf] at h
  | .int .u32 _ :: _, _, h => by simp [bytsOf] at h
  | .int .u64 _ :: _, _, h => by simp [bytsOf] at h
  | .bool _ :: _, _, h => by simp [bytsOf] at h
  | .float _ _ :: _, _, h => by simp [bytsOf] at h
  | .complex _ _ _ :: _, _, h => by simp [bytsOf] at h
  | .string _ :: _, _, h => by simp [bytsOf] at h
  | .pointer _ :: _, _, h => by simp [bytsOf] at h
  | .slice _ _ _ :: _, _, h => by simp [bytsOf] at h
  | .map _ :: _, _, h => by simp [bytsOf] at h
  | .chan _ :: _, _, h => by simp [bytsOf] at h
  | .func _ _ _ :: _, _, h => by simp [bytsOf] at h
  | .nilFunc :: _, _, h => by simp [bytsOf] at h
  | .iface _ _ :: _, _, h => by simp [bytsOf] at h
  | .nilIface :: _, _, h => by simp [bytsOf] at h
  | .agg _ :: _, _, h => by simp [bytsOf] at h
  | .tuple _ :: _, _, h => by simp [bytsOf] at h
theorem cellsOf_vals (l : List Value) : (cellsOf l).toVals = l := by
  unfold cellsOf
  cases h : intsOf l with
  | none =>
    cases k : bytsOf l with
    | none => rfl
    | some m => exact (bytsOf_vals k).symm
  | some m => exact (intsOf_vals h).symm
theorem okB_ok {c : Cells} (h : c.okB = true) : c.ok := by
  cases c with
  | ints l => exact True.intro
  | byts l => exact True.intro
  | vals l => exact fun u hu => List.all_eq_true.1 h u hu
theorem cut_ok {c : Cells} (h : c.ok) (lo k : Nat) : (c.cut lo k).ok := by
  cases c with
  | ints l => exact True.intro
  | byts l => exact True.intro
  | vals l => exact fun u hu => h u (List.mem_of_mem_drop (List.mem_of_mem_take hu))
theorem cut_vals (c : Cells) (lo k : Nat) : (c.cut lo k).toVals = (c.toVals.drop lo).take k := by
  cases c with
  | ints l => simp [Cells.cut, Cells.toVals, List.map_take, List.map_drop]
  | byts l => simp [Cells.cut, Cells.toVals, List.map_take, List.map_drop]
  | vals l => rfl
theorem ros_sub {v x : Value} {m k cap g o lo sz : Nat} {c : Cells} (h : RosRel w none v m c) (ha : atOf v = some (g, o)) (hx : x = .slice (some ⟨g, o + lo, none⟩) k cap) (hk : k ≤ cap) : RosRel w none x k (c.cut lo (k * sz)) := by
  have hlt : g < w.heap.size := by
    rcases h.2 with ⟨rfl, _⟩ | ⟨g', o', cap', rfl, h2, h3, h4⟩
    · cases ha
    · obtain ⟨rfl, rfl⟩ : g' = g ∧ o' = o := by simpa [atOf] using ha
      exact h3.2
  refine ⟨cut_ok h.1 _ _, .inr ⟨g, o + lo, cap, hx, hk, ⟨by simp, hlt⟩, fun j u hu => ?_⟩⟩
  rcases h.2 with ⟨rfl, _⟩ | ⟨g', o', cap', rfl, h2, h3, h4⟩
  · cases ha
  · obtain ⟨rfl, rfl⟩ : g' = g ∧ o' = o := by simpa [atOf] using ha
    rw [cut_vals] at hu
    have hj : j < k * sz := by
      rcases Nat.lt_or_ge j (k * sz) with hj | hj
      · exact hj
      · rw [List.getElem?_eq_none (by simp; omega)] at hu; cases hu
    rw [List.getElem?_take_of_lt hj, List.getElem?_drop] at hu
    have := h4 (lo + j) u hu
    rwa [← Nat.add_assoc] at this
theorem box_lt (h : R P W M n s a w ρ) {id g o : Nat} {e : TypeId} {cells : List SV} (hb : s.heap id = some (.box e cells)) (ha : atOf (ρ id) = some (g, o)) : g < w.heap.size := by
  obtain ⟨g', cs, h1, h2, h3, h4⟩ := h.heap id _ hb
  rw [h1] at ha
  obtain ⟨rfl, _⟩ : g' = g ∧ 0 = o := by simpa [atOf] using ha
  exact (Array.getElem?_eq_some_iff.1 h3).1
theorem box_cell (h : R P W M n s a w ρ) {id g o : Nat} {cells : List SV} {b : Blk} (hb : s.heap id = some b) (hc : b = .rop cells ∨ ∃ e, b = .box e cells) (ha : atOf (ρ id) = some (g, o)) :
    ∀ j x, cells[j]? = some x → ∃ u, w.cell? ⟨g, o + j, none⟩ = some u ∧ Rel P W M ρ s.heap x u := by
  intro j x hx
  have k := h.heap id b hb
  rcases hc with rfl | ⟨e, rfl⟩
  · obtain ⟨g', o', h1, h2, h3⟩ := k
    rw [h1] at ha
    obtain ⟨rfl, rfl⟩ : g' = g ∧ o' = o := by simpa [atOf] using ha
    obtain ⟨u, hu, hr⟩ := h3 j x hx
    exact ⟨u, World.grownBy.cell h.grown hu (fun e => h2 e.symm), hr⟩
  · obtain ⟨g', cs, h1, h2, h3, h4⟩ := k
    rw [h1] at ha
    obtain ⟨rfl, rfl⟩ : g' = g ∧ 0 = o := by simpa [atOf] using ha
    obtain ⟨u, hu, hr⟩ := h4.get hx
    refine ⟨u, ?_, hr⟩
    simp only [World.cell?, h3, Nat.zero_add]
    simpa using hu
theorem vals_get : ∀ {l : List SV} {vs : List Value}, SV.vals l = some vs → ∀ {j : Nat} {u : Value}, vs[j]? = some u → l[j]? = some (.val u)
  | [], vs, h, j, u, hu => by simp only [SV.vals, Option.some.injEq] at h; subst h; simp at hu
  | .val x :: l, vs, h, j, u, hu => by
    simp only [SV.vals] at h
    split at h
    · rename_i l' hl
      simp only [Option.some.injEq] at h
      subst h
      cases j with
      | zero => simp at hu; subst hu; rfl
      | succ j => simp at hu; simpa using vals_get hl hu
    · cases h
  | .ptr .. :: _, _, h, _, _, _ => by simp [SV.vals] at h
  | .row .. :: _, _, h, _, _, _ => by simp [SV.vals] at h
  | .sub .. :: _, _, h, _, _, _ => by simp [SV.vals] at h
  | .clo .. :: _, _, h, _, _, _ => by simp [SV.vals] at h
  | .fn .. :: _, _, h, _, _, _ => by simp [SV.vals] at h
  | .tup .. :: _, _, h, _, _, _ => by simp [SV.vals] at h
  | .junk :: _, _, h, _, _, _ => by simp [SV.vals] at h
theorem capOf_ok (h : R P W M n s a w ρ) (hg : w.grownBy w' none) {id : Nat} {pv : PV} {x : Value} (hc : CapRel ρ s.heap id x) (hp : capOf s.heap id = some pv) : ArgRel P w' pv x := by
  obtain ⟨hl, g, o, ha, rfl⟩ := hc
  have cell : ∀ {g o : Nat} {u : Value}, w.cell? ⟨g, o, none⟩ = some u → w'.cell? ⟨g, o, none⟩ = some u := fun hu => World.grownBy.cell hg hu (by simp)
  have rowcase : ∀ (cells : List SV) (b : Blk) (i : Nat), s.heap id = some b → (b = .rop cells ∨ ∃ e, b = .box e cells) → cells = [.row i] → (match s.heap i with | some (.row _ _ n c) => some (PV.ps n c) | some (.ros n c) => some (.ps n c) | _ => none) = some pv → ArgRel P w' pv (.pointer (some ⟨g, o, none⟩)) := by
    intro cells b i hb hk hcells hm
    obtain ⟨u, hu, hr⟩ := box_cell h hb hk ha 0 (.row i) (by simp [hcells])
    obtain ⟨hl, rfl⟩ := hr
    have hu' := cell hu
    cases hi : s.heap i with
    | none => rw [hi] at hm; cases hm
    | some bi =>
      rw [hi] at hm
      cases bi with
      | row e sz m c =>
        simp only [Option.some.injEq] at hm; subst hm
        exact ⟨g, o, _, rfl, hu', ros_ext (row_at h hi) hg⟩
      | ros m c =>
        simp only [Option.some.injEq] at hm; subst hm
        exact ⟨g, o, _, rfl, hu', ros_ext (ros_at h hi) hg⟩
      | box _ _ => cases hm
      | rop _ => cases hm
  have valcase : ∀ (cells : List SV) (b : Blk), s.heap id = some b → (b = .rop cells ∨ ∃ e, b = .box e cells) → (match SV.vals cells with | some l => some (PV.p l) | none => none) = some pv → ArgRel P w' pv (.pointer (some ⟨g, o, none⟩)) := by
    intro cells b hb hk hm
    cases hv : SV.vals cells with
    | none => rw [hv] at hm; cases hm
    | some l =>
      rw [hv] at hm
      simp only [Option.some.injEq] at hm; subst hm
      refine ⟨g, o, rfl, fun j u hu => cell ?_⟩
      obtain ⟨u', hu', hr⟩ := box_cell h hb hk ha j _ (vals_get hv hu)
      rw [show u' = u from hr] at hu'
      exact hu'
  unfold capOf at hp
  split at hp
  · rename_i i hb; exact rowcase _ _ i hb (.inr ⟨_, rfl⟩) rfl hp
  · rename_i i hb; exact rowcase _ _ i hb (.inl rfl) rfl hp
  · rename_i hb; exact valcase _ _ hb (.inr ⟨_, rfl⟩) hp
  · rename_i hb; exact valcase _ _ hb (.inl rfl) hp
  · cases hp
theorem All2.join {α β γ : Type} {R : α → β → Prop} {Q : α → γ → Prop} {T : β → γ → Prop} (h : ∀ a b c, R a b → Q a c → T b c) : ∀ {l : List α} {m : List β} {k : List γ}, All2 R l m → All2 Q l k → All2 T m k
  | [], [], [], _, _ => True.intro
  | _ :: _, _ :: _, _ :: _, ⟨p, q⟩, ⟨p', q'⟩ => ⟨h _ _ _ p p', All2.join h q q'⟩
theorem grown_trans {b : World} (h : W.grownBy b (mB M)) (k : b.grownBy w none) : W.grownBy w (mB M) := grown_step h k fun _ e => by cases e
theorem cloFn_ok {S : Sums} (hS : SumsOK P S) (h : R P W M n s a w ρ) {f : Nat} {l : List Nat} {v : Value} {g : List Value → Option (Bool × Value)} (hr : Rel P W M ρ s.heap (.clo f l) v) (hg : cloFn S s.heap f l = some g) : FnRel P w none v g := by
  obtain ⟨vs, rfl, hc⟩ := hr
  unfold cloFn at hg
  split at hg
  · rename_i run cs hrun hcs
    simp only [Option.some.injEq] at hg
    subst hg
    obtain ⟨hcall, hsound⟩ := hS.1 f run hrun
    refine ⟨f, vs.toArray, rfl, hcall, fun w' hw args r hr => ?_⟩
    have hr' : run (args.map PV.v ++ cs) = some (true, [.v r]) := by
      dsimp only at hr
      split at hr
      · rename_i c r' he
        simp only [Option.some.injEq, Prod.mk.injEq] at hr
        obtain ⟨rfl, rfl⟩ := hr
        exact he
      · cases hr
    have hargs : All2 (ArgRel P w') (args.map PV.v ++ cs) (args ++ vs) := by
      refine All2.app (All2.mapL _ ?_) (All2.join (T := ArgRel P w') (fun id pv x (hp : capOf s.heap id = some pv) (hx : CapRel ρ s.heap id x) => capOf_ok h hw hx hp) (optMap_all2 hcs) hc)
      have := All2.of_map (R := fun (c : Value) b => ArgRel P w' (PV.v c) b) id args (fun a _ => rfl)
      simpa using this
    have := hsound w' _ _ _ hargs hr'
    rw [show (args ++ vs).toArray = args.toArray ++ vs.toArray from by simp] at this
    exact this.mono fun e w2 ⟨rv, he, hres, hgr⟩ => ⟨by rw [he, show rv = r from hres], hgr⟩
  · cases hg
theorem PVof_ok {S : Sums} (hS : SumsOK P S) (h : R P W M n s a w ρ) {x : SV} {v : Value} {pv : PV} (hr : Rel P W M ρ s.heap x v) (hp : PVof s.heap (cloFn S s.heap) x = some pv) : ArgRel P w pv v := by
  unfold PVof at hp
  split at hp
  · simp only [Option.some.injEq] at hp; subst hp
    exact ⟨True.intro, .inl ⟨hr, rfl, rfl⟩⟩
  · simp only [Option.some.injEq] at hp; subst hp; exact hr
  · rename_i id
    obtain ⟨hl, rfl⟩ := hr
    split at hp
    · rename_i hb; simp only [Option.some.injEq] at hp; subst hp; exact row_at h hb
    · rename_i hb; simp only [Option.some.injEq] at hp; subst hp; exact ros_at h hb
    · cases hp
  · rename_i id off k sz
    obtain ⟨hl, g, o, cap, ha, rfl, hk⟩ := hr
    split at hp
    · rename_i hb
      split at hp
      · simp only [Option.some.injEq] at hp; subst hp; exact ros_sub (row_at h hb) ha rfl hk
      · cases hp
    · rename_i hb
      split at hp
      · simp only [Option.some.injEq] at hp; subst hp; exact ros_sub (ros_at h hb) ha rfl hk
      · cases hp
    · rename_i e cells hb
      split at hp
      · rename_i l hv
        split at hp
        · rename_i hck
          simp only [Option.some.injEq] at hp; subst hp
          simp only [Bool.and_eq_true] at hck
          refine ⟨okB_ok hck.2, .inr ⟨g, o + off, cap, rfl, hk, ⟨by simp, box_lt h hb ha⟩, fun j u hu => ?_⟩⟩
          rw [cellsOf_vals] at hu
          have hj := vals_get hv hu
          have hjk : j < k * sz := by
            rcases Nat.lt_or_ge j (k * sz) with hj' | hj'
            · exact hj'
            · rw [List.getElem?_eq_none (by simp; omega)] at hj; cases hj
          rw [List.getElem?_take_of_lt hjk, List.getElem?_drop] at hj
          obtain ⟨u', hu', hr⟩ := box_cell h hb (.inr ⟨_, rfl⟩) ha (off + j) _ hj
          rw [show u' = u from hr, ← Nat.add_assoc] at hu'
          exact hu'
        · cases hp
      · cases hp
    · cases hp
  · split at hp
    · rename_i g hg
      simp only [Option.some.injEq] at hp; subst hp
      exact cloFn_ok hS h hr hg
    · cases hp
  · simp only [Option.some.injEq] at hp; subst hp
    obtain ⟨f, caps, h1, h2, h3⟩ := hr
    exact ⟨f, caps, h1, h2, fun w' hw => h3 w' (grown_trans h.grown hw)⟩
  · cases hp
end

end Go.Proofs.Ytnijajjdldijpaa
