import Derived.Test.YtnijajjdldijpaaDk
set_option linter.unusedSimpArgs false
set_option linter.unusedVariables false
namespace Go.Proofs.Ytnijajjdldijpaa
open Go.RowKit
/-! Slices as lists of tuples, and loops that count up. -/
def flat2 (l : List P2) : List Int := l.flatMap fun a => [a.1, a.2]
def flat3 (l : List P3) : List Int := l.flatMap fun a => [a.1, a.2.1, a.2.2]
def R2 (l : List Int) (k : Nat) : P2 := (l.getD (k * 2) 0, l.getD (k * 2 + 1) 0)
def R3 (l : List Int) (k : Nat) : P3 := (l.getD (k * 3) 0, l.getD (k * 3 + 1) 0, l.getD (k * 3 + 2) 0)
theorem flat2_app (a b : List P2) : flat2 (a ++ b) = flat2 a ++ flat2 b := by simp [flat2]
theorem flat3_app (a b : List P3) : flat3 (a ++ b) = flat3 a ++ flat3 b := by simp [flat3]
theorem flat1_app (a b : List Int) : id (a ++ b) = id a ++ id b := rfl
theorem flat2_len (l : List P2) : (flat2 l).length = 2 * l.length := by
  induction l with
  | nil => rfl
  | cons a l ih => show (a.1 :: a.2 :: flat2 l).length = _; simp [ih]; omega
theorem flat3_len (l : List P3) : (flat3 l).length = 3 * l.length := by
  induction l with
  | nil => rfl
  | cons a l ih => show (a.1 :: a.2.1 :: a.2.2 :: flat3 l).length = _; simp [ih]; omega
theorem R2_flat : ∀ (l : List P2) (k : Nat), R2 (flat2 l) k = l.getD k (0, 0)
  | [], k => by simp [R2, flat2]
  | a :: l, 0 => rfl
  | a :: l, k + 1 => by
    have h := R2_flat l k
    unfold R2 at h ⊢
    rw [show (k + 1) * 2 = k * 2 + 1 + 1 from by omega]
    show ((a.1 :: a.2 :: flat2 l).getD (k * 2 + 1 + 1) 0, (a.1 :: a.2 :: flat2 l).getD (k * 2 + 1 + 1 + 1) 0) = _
    simp only [List.getD_cons_succ]
    exact h
theorem R3_flat : ∀ (l : List P3) (k : Nat), R3 (flat3 l) k = l.getD k (0, 0, 0)
  | [], k => by simp [R3, flat3]
  | a :: l, 0 => rfl
  | a :: l, k + 1 => by
    have h := R3_flat l k
    unfold R3 at h ⊢
    rw [show (k + 1) * 3 = k * 3 + 1 + 1 + 1 from by omega]
    show ((a.1 :: a.2.1 :: a.2.2 :: flat3 l).getD (k * 3 + 1 + 1 + 1) 0, (a.1 :: a.2.1 :: a.2.2 :: flat3 l).getD (k * 3 + 1 + 1 + 1 + 1) 0, (a.1 :: a.2.1 :: a.2.2 :: flat3 l).getD (k * 3 + 1 + 1 + 1 + 2) 0) = _
    simp only [List.getD_cons_succ]
    exact h
theorem map_getD {α : Type} (l : List α) (d : α) : (List.range l.length).map (fun k => l.getD k d) = l := by
  apply List.ext_getElem (by simp)
  intro i h1 h2
  simp [List.getD_eq_getElem?_getD, h2]
theorem rows2_flat2 (l : List P2) : rows2 l.length (flat2 l) = l := by
  have h : rows2 l.length (flat2 l) = (List.range l.length).map (fun k => l.getD k (0, 0)) := by
    unfold rows2
    apply List.map_congr_left
    intro k _
    exact R2_flat l k
  rw [h, map_getD]
theorem rows3_flat3 (l : List P3) : rows3 l.length (flat3 l) = l := by
  have h : rows3 l.length (flat3 l) = (List.range l.length).map (fun k => l.getD k (0, 0, 0)) := by
    unfold rows3
    apply List.map_congr_left
    intro k _
    exact R3_flat l k
  rw [h, map_getD]
theorem rows2_R (n : Nat) (l : List Int) : rows2 n l = (List.range n).map (R2 l) := rfl
theorem rows3_R (n : Nat) (l : List Int) : rows3 n l = (List.range n).map (R3 l) := rfl
theorem getD_range {α : Type} (l : List α) (d : α) (f : α → Bool) : ((List.range l.length).map (fun k => l.getD k d)).filter f = l.filter f := by rw [map_getD]
theorem filter_flat {α : Type} (l : List α) (q : α → Bool) : (l.flatMap fun a => if q a = true then [a] else []) = l.filter q := by
  induction l with
  | nil => rfl
  | cons a l ih => rw [List.flatMap_cons, ih, List.filter_cons]; cases q a <;> rfl
/-- The rows of a slice that a test lets through. -/
theorem keep2 (n : Nat) (l : List Int) (q : P2 → Bool) : ((List.range n).flatMap fun k => if q (R2 l k) = true then [R2 l k] else []) = (rows2 n l).filter q := by
  rw [rows2_R, ← filter_flat, List.flatMap_map]
theorem keep3 (n : Nat) (l : List Int) (q : P3 → Bool) : ((List.range n).flatMap fun k => if q (R3 l k) = true then [R3 l k] else []) = (rows3 n l).filter q := by
  rw [rows3_R, ← filter_flat, List.flatMap_map]
theorem keep1 (n : Nat) (l : List Int) (q : Int → Bool) : ((List.range n).flatMap fun k => if q (l.getD k 0) = true then [l.getD k 0] else []) = ((List.range n).map fun k => l.getD k 0).filter q := by
  rw [← filter_flat, List.flatMap_map]
theorem len_flatMap_le {α : Type} {g : Nat → List α} {b : Nat} : ∀ {n : Nat}, (∀ k, k < n → (g k).length ≤ b) → ((List.range n).flatMap g).length ≤ n * b
  | 0, _ => by simp
  | n + 1, h => by
    have h1 := len_flatMap_le (g := g) (b := b) (n := n) fun k hk => h k (by omega)
    have h2 := h n (by omega)
    rw [List.range_succ, List.flatMap_append, List.length_append, List.flatMap_singleton]
    rw [Nat.succ_mul]
    omega
/-- A loop that counts up and keeps a state. -/
theorem upto_go {α σ : Type} {L : Nat → σ → Int → Option α} {n : Nat} (I : Nat → σ → Prop) (step : σ → Nat → σ) {K : σ → Option α}
    (hL : ∀ f k s, k < n → I k s → L (f + 1) s (k : Int) = L f (step s k) ((k + 1 : Nat) : Int)) (hI : ∀ k s, k < n → I k s → I (k + 1) (step s k))
    (hE : ∀ f s, I n s → L (f + 1) s (n : Int) = K s) : ∀ (m k F : Nat) (s : σ), k + m = n → m < F → I k s → L F s (k : Int) = K ((List.range' k m).foldl step s)
  | m, k, 0, s, _, h, _ => absurd h (Nat.not_lt_zero m)
  | 0, k, F + 1, s, hk, _, h0 => by
    obtain rfl : k = n := by omega
    exact hE F s h0
  | m + 1, k, F + 1, s, hk, hF, h0 => by
    rw [hL F k s (by omega) h0, upto_go I step hL hI hE m (k + 1) F (step s k) (by omega) (by omega) (hI k s (by omega) h0), List.range'_succ, List.foldl_cons]
theorem upto {α σ : Type} {L : Nat → σ → Int → Option α} {n : Nat} (I : Nat → σ → Prop) (step : σ → Nat → σ) {K : σ → Option α}
    (hL : ∀ f k s, k < n → I k s → L (f + 1) s (k : Int) = L f (step s k) ((k + 1 : Nat) : Int)) (hI : ∀ k s, k < n → I k s → I (k + 1) (step s k))
    (hE : ∀ f s, I n s → L (f + 1) s (n : Int) = K s) {F : Nat} {s : σ} (hF : n < F) (h0 : I 0 s) : L F s 0 = K ((List.range n).foldl step s) := by
  rw [List.range_eq_range']
  exact upto_go I step hL hI hE n 0 F s (by omega) hF h0
/-- A loop that counts up and appends. -/
theorem gather {α T : Type} {flat : List T → List Int} (hf : ∀ a b, flat (a ++ b) = flat a ++ flat b) (hn : flat [] = []) {L : Nat → List Int → Nat → Int → Option α} {n b M : Nat} (g : Nat → List T) {K : Option α} {F m : Nat} {l : List Int}
    (hg : ∀ k, k < n → (g k).length ≤ b)
    (hL : ∀ f k l m, k < n → m ≤ M + k * b → L (f + 1) l m (k : Int) = L f (l ++ flat (g k)) (m + (g k).length) ((k + 1 : Nat) : Int))
    (hE : ∀ f, m + ((List.range n).flatMap g).length ≤ M + n * b → L (f + 1) (l ++ flat ((List.range n).flatMap g)) (m + ((List.range n).flatMap g).length) (n : Int) = K) (hF : n < F) (hm : m ≤ M) :
    L F l m 0 = K := by
  have hI : ∀ k, k ≤ n → m + ((List.range k).flatMap g).length ≤ M + k * b := fun k hk => by
    have := len_flatMap_le (g := g) (b := b) (n := k) fun j hj => hg j (by omega)
    omega
  have h := upto (L := fun f (s : List Int × Nat) i => L f s.1 s.2 i) (n := n) (fun k s => k ≤ n ∧ s = (l ++ flat ((List.range k).flatMap g), m + ((List.range k).flatMap g).length)) (fun s k => (s.1 ++ flat (g k), s.2 + (g k).length)) (K := fun s => K)
    (fun f k s hk hs => by
      obtain ⟨h1, rfl⟩ := hs
      exact hL f k _ _ hk (hI k h1)) (fun k s hk hs => by
      obtain ⟨h1, rfl⟩ := hs
      refine ⟨hk, ?_⟩
      rw [List.range_succ, List.flatMap_append, List.flatMap_singleton, hf, List.length_append]
      simp [List.append_assoc, Nat.add_assoc]) (fun f s hs => by
      obtain ⟨h1, rfl⟩ := hs
      exact hE f (hI n h1)) (s := (l, m)) hF ⟨Nat.zero_le _, by simp [hn]⟩
  exact h
def orO {α : Type} (a e : Option α) : Option α := match a with | some r => some r | none => e
/-- A loop that counts up and ends at the first find. -/
theorem seek_go {α : Type} {L : Nat → Int → Option α} {n : Nat} {q : Nat → Option α} {e : α} (hL : ∀ f k : Nat, k < n → L (f + 1) (k : Int) = orO (q k) (L f ((k + 1 : Nat) : Int))) (hE : ∀ f : Nat, L (f + 1) (n : Int) = some e) :
    ∀ (m k f : Nat), k + m = n → m < f → L f (k : Int) = some (((List.range' k m).findSome? q).getD e)
  | m, k, 0, _, h => absurd h (Nat.not_lt_zero m)
  | 0, k, f + 1, h, _ => by
    obtain rfl : k = n := by omega
    rw [hE]; rfl
  | m + 1, k, f + 1, h, hf => by
    rw [hL f k (by omega), seek_go hL hE m (k + 1) f (by omega) (by omega), List.range'_succ, List.findSome?_cons]
    cases q k <;> rfl
theorem seek {α : Type} {L : Nat → Int → Option α} {n F : Nat} {q : Nat → Option α} {e : α} (hF : n < F) (hL : ∀ f k : Nat, k < n → L (f + 1) (k : Int) = orO (q k) (L f ((k + 1 : Nat) : Int))) (hE : ∀ f : Nat, L (f + 1) (n : Int) = some e) :
    L F 0 = some (((List.range n).findSome? q).getD e) := by
  rw [List.range_eq_range']
  exact seek_go hL hE n 0 F (by omega) hF
theorem cnd {a n : Nat} (h : a < n) : decide ((a : Int) < ((n : Nat) : Int)) = true := by simpa using h
theorem cndE (n : Nat) : decide ((n : Int) < ((n : Nat) : Int)) = false := by simp
theorem cnd2 {a n : Nat} (h : a < n) : (decide (0 ≤ (a : Int)) && decide ((a : Int) < ((n : Nat) : Int))) = true := by simpa using h
theorem cndp {a : Nat} {p : Int} (h : a < p.toNat) : decide ((a : Int) < p) = true := by simp; omega
theorem cndpE {p : Int} (h : 0 ≤ p) : decide (((p.toNat : Nat) : Int) < p) = false := by simp; omega
theorem leb1 {m : Nat} (h : m < 1000000) : (Nat.ble 1 1 && Nat.ble (m + 1) 1000000) = true := by simp; omega
theorem beq33 : Nat.beq 3 3 = true := rfl
theorem beq22 : Nat.beq 2 2 = true := rfl
theorem beq11 : Nat.beq 1 1 = true := rfl
/-- All points and all places, in order. -/
def pts (p : Int) : List P2 := (List.range p.toNat).flatMap fun x : Nat => (List.range p.toNat).map fun y : Nat => ((x : Int), (y : Int))
def places (p : Int) : List P3 := (0, 0, 1) :: (((List.range p.toNat).map fun z : Nat => (0, 1, (z : Int))) ++ (List.range p.toNat).flatMap fun y : Nat => (List.range p.toNat).map fun z : Nat => (1, (y : Int), (z : Int)))
theorem prB_nat {p : Int} (h : prB p = true) : p.toNat ≤ 31 ∧ 0 ≤ p ∧ ((p.toNat : Nat) : Int) = p := by
  obtain ⟨h1, h2⟩ := prB_Pr h
  omega
theorem pts_len {p : Int} (h : prB p = true) : (pts p).length ≤ 961 := by
  obtain ⟨h1, _, _⟩ := prB_nat h
  have h2 := len_flatMap_le (n := p.toNat) (b := p.toNat) (g := fun x : Nat => (List.range p.toNat).map fun y : Nat => ((x : Int), (y : Int))) (fun k _ => by simp)
  have h3 : p.toNat * p.toNat ≤ 31 * 31 := Nat.mul_le_mul h1 h1
  unfold pts; omega
theorem places_len {p : Int} (h : prB p = true) : (places p).length ≤ 993 := by
  obtain ⟨h1, _, _⟩ := prB_nat h
  have h2 := len_flatMap_le (n := p.toNat) (b := p.toNat) (g := fun y : Nat => (List.range p.toNat).map fun z : Nat => ((1 : Int), (y : Int), (z : Int))) (fun k _ => by simp)
  have h3 : p.toNat * p.toNat ≤ 31 * 31 := Nat.mul_le_mul h1 h1
  unfold places
  rw [List.length_cons, List.length_append, List.length_map, List.length_range]
  omega
theorem flatMap_one {α β : Type} (l : List α) (f : α → β) : (l.flatMap fun a => [f a]) = l.map f := by
  induction l with
  | nil => rfl
  | cons a l ih => rw [List.flatMap_cons, ih]; rfl
theorem mk2 (l : List P2) : ((l.length, flat2 l).1, (l.length, flat2 l).2) = (l.length, flat2 l) := rfl
/-- What the checks of a row say. -/
theorem row3_ok {n k : Nat} {l : List Int} (hl : l.length = 3 * n) (h : k < n) : Nat.ble (k * 3 + 3) l.length = true := leb (by omega)
theorem row2_ok {n k : Nat} {l : List Int} (hl : l.length = 2 * n) (h : k < n) : Nat.ble (k * 2 + 2) l.length = true := leb (by omega)
theorem row1_ok {n k : Nat} {l : List Int} (hl : l.length = n) (h : k < n) : Nat.ble (k * 1 + 1) l.length = true := leb (by omega)
theorem all_of {α : Type} {l : List α} {k : α → Bool} (h : ∀ a, k a = true) : l.all k = true := by
  rw [List.all_eq_true]; exact fun a _ => h a
theorem and_all {α : Type} {l : List α} {k : α → Bool} {p : Int} (h : prB p = true) (hk : ∀ a, k a = true) : (prB p && l.all k) = true := by rw [h, all_of hk]; rfl
theorem mk_ok {p : Int} (h : prB p = true) : (decide (0 ≤ p) && decide (p ≤ 1000000) && p == p) = true := by
  obtain ⟨h1, h2⟩ := prB_Pr h
  simp; omega
/-- A loop that counts. -/
theorem tally {α : Type} {L : Nat → Int → Int → Option α} {n F : Nat} {q : Nat → Bool} {K : Int → Option α} (hF : n < F)
    (hL : ∀ (f k : Nat) (s : Int), k < n → 0 ≤ s → s ≤ (k : Int) → L (f + 1) s (k : Int) = L f (if q k = true then s + 1 else s) ((k + 1 : Nat) : Int))
    (hE : ∀ (f : Nat) (s : Int), L (f + 1) s (n : Int) = K s) : L F 0 0 = K (((List.range n).filter q).length : Nat) := by
  have h := upto (L := L) (n := n) (fun k s => 0 ≤ s ∧ s ≤ (k : Int)) (fun s k => if q k = true then s + 1 else s) (K := K) (fun f k s hk hs => hL f k s hk hs.1 hs.2) (fun k s hk hs => by
    split <;> omega) (fun f s _ => hE f s) (s := 0) hF ⟨Int.le_refl _, by simp⟩
  have hfold : ∀ (r : List Nat) (s : Int), r.foldl (fun s k => if q k = true then s + 1 else s) s = s + ((r.filter q).length : Nat) := by
    intro r
    induction r with
    | nil => intro s; simp
    | cons k r ih => intro s; rw [List.foldl_cons, ih, List.filter_cons]; cases q k <;> simp; omega
  rw [hfold] at h
  simpa using h
theorem count3 (n : Nat) (l : List Int) (q : P3 → Bool) : ((List.range n).filter fun k => q (R3 l k)).length = ((rows3 n l).filter q).length := by
  rw [rows3_R, List.filter_map, List.length_map]; rfl
theorem count2 (n : Nat) (l : List Int) (q : P2 → Bool) : ((List.range n).filter fun k => q (R2 l k)).length = ((rows2 n l).filter q).length := by
  rw [rows2_R, List.filter_map, List.length_map]; rfl
/-- One more at a place of a list. -/
def bump (l : List Int) (i : Nat) : List Int := l.set i (wI (l.getD i 0 + 1))
theorem bump_len (l : List Int) (i : Nat) : (bump l i).length = l.length := by simp [bump]
theorem bumps {α T : Type} {L : Nat → List Int → Int → Option α} {n F N : Nat} {row : Nat → T} {q : T → Bool} {f : T → Nat} {K : List Int → Option α} {l : List Int} (hF : n < F) (hl : l.length = N)
    (hL : ∀ (F k : Nat) (s : List Int), k < n → s.length = N → L (F + 1) s (k : Int) = L F (if q (row k) = true then bump s (f (row k)) else s) ((k + 1 : Nat) : Int))
    (hE : ∀ (F : Nat) (s : List Int), L (F + 1) s (n : Int) = K s) : L F l 0 = K ((((List.range n).map row).filter q).foldl (fun s a => bump s (f a)) l) := by
  have h := upto (L := L) (n := n) (fun k s => s.length = N) (fun s k => if q (row k) = true then bump s (f (row k)) else s) (K := K) (fun F k s hk hs => hL F k s hk hs) (fun k s hk hs => by
    split
    · rw [bump_len, hs]
    · exact hs) (fun F s _ => hE F s) (s := l) hF hl
  rw [h, List.foldl_filter, List.foldl_map]
theorem bumps_len {T : Type} (f : T → Nat) : ∀ (r : List T) (l : List Int), (r.foldl (fun s a => bump s (f a)) l).length = l.length
  | [], _ => rfl
  | a :: r, l => by rw [List.foldl_cons, bumps_len f r, bump_len]
theorem filter_yes {α : Type} (l : List α) : l.filter (fun _ => true) = l := by induction l with | nil => rfl | cons a l ih => rw [List.filter_cons, ih]; rfl
theorem lenB3 {l : List P3} (h : l.length ≤ 100000000000) : lenB l.length 3 (flat3 l) = true := lenB_of (flat3_len l) h
theorem lenB2 {l : List P2} (h : l.length ≤ 100000000000) : lenB l.length 2 (flat2 l) = true := lenB_of (flat2_len l) h
theorem filter_same {α : Type} {l : List α} {f g : α → Bool} (h : ∀ a ∈ l, f a = g a) : l.filter f = l.filter g := List.filter_congr h
theorem filter_flatMap {α β : Type} (l : List α) (f : α → List β) (q : β → Bool) : (l.flatMap f).filter q = l.flatMap fun a => (f a).filter q := by
  induction l with
  | nil => rfl
  | cons a l ih => rw [List.flatMap_cons, List.filter_append, ih, List.flatMap_cons]
theorem grid_filter (n : Nat) (q : P2 → Bool) : ((List.range n).flatMap fun x : Nat => (List.range n).flatMap fun y : Nat => if q ((x : Int), (y : Int)) = true then [((x : Int), (y : Int))] else []) = (((List.range n).flatMap fun x : Nat => (List.range n).map fun y : Nat => ((x : Int), (y : Int))).filter q) := by
  rw [filter_flatMap]
  congr 1
  funext x
  rw [← filter_flat, List.flatMap_map]
/-- A search over the rows of a list ends at the one that fits. -/
theorem find_row {α β : Type} (l : List α) (d : α) (q : α → Option β) : (List.range l.length).findSome? (fun k => q (l.getD k d)) = l.findSome? q := by
  have h : l.findSome? q = ((List.range l.length).map (fun k => l.getD k d)).findSome? q := by rw [map_getD]
  rw [h, List.findSome?_map]
  rfl
theorem find_if {α : Type} (l : List α) (q : α → Bool) : (l.findSome? fun a => if q a = true then some a else none) = l.find? q := by
  induction l with
  | nil => rfl
  | cons a l ih => rw [List.findSome?_cons, List.find?_cons, ih]; cases q a <;> rfl
theorem find_only {α : Type} {l : List α} {q : α → Bool} {a : α} (ha : a ∈ l) (hq : q a = true) (hu : ∀ b ∈ l, q b = true → b = a) : l.find? q = some a := by
  cases h : l.find? q with
  | none =>
    rw [List.find?_eq_none] at h
    exact absurd hq (h a ha)
  | some b =>
    rw [hu b (List.mem_of_find?_eq_some h) (List.find?_some h)]
theorem mem_pts {p : Int} {a : P2} : a ∈ pts p ↔ (0 ≤ a.1 ∧ a.1 < p) ∧ (0 ≤ a.2 ∧ a.2 < p) := by
  obtain ⟨x, y⟩ := a
  simp only [pts, List.mem_flatMap, List.mem_range, List.mem_map, Prod.mk.injEq]
  constructor
  · rintro ⟨i, hi, j, hj, rfl, rfl⟩
    omega
  · rintro ⟨h1, h2⟩
    exact ⟨x.toNat, by omega, y.toNat, by omega, by omega, by omega⟩
theorem and3 {a b c : Bool} (ha : a = true) (hb : b = true) (hc : c = true) : (a && b && c) = true := by rw [ha, hb, hc]; rfl
theorem seekO_go {α : Type} {L : Nat → Int → Option α} {n : Nat} {q : Nat → Option α} {e : Option α} (hL : ∀ f k : Nat, k < n → L (f + 1) (k : Int) = orO (q k) (L f ((k + 1 : Nat) : Int))) (hE : ∀ f : Nat, L (f + 1) (n : Int) = e) :
    ∀ (m k f : Nat), k + m = n → m < f → L f (k : Int) = orO ((List.range' k m).findSome? q) e
  | m, k, 0, _, h => absurd h (Nat.not_lt_zero m)
  | 0, k, f + 1, h, _ => by
    obtain rfl : k = n := by omega
    rw [hE]; rfl
  | m + 1, k, f + 1, h, hf => by
    rw [hL f k (by omega), seekO_go hL hE m (k + 1) f (by omega) (by omega), List.range'_succ, List.findSome?_cons]
    cases q k <;> rfl
theorem seekO {α : Type} {L : Nat → Int → Option α} {n F : Nat} {q : Nat → Option α} {e : Option α} (hF : n < F) (hL : ∀ f k : Nat, k < n → L (f + 1) (k : Int) = orO (q k) (L f ((k + 1 : Nat) : Int))) (hE : ∀ f : Nat, L (f + 1) (n : Int) = e) :
    L F 0 = orO ((List.range n).findSome? q) e := by
  rw [List.range_eq_range']
  exact seekO_go hL hE n 0 F (by omega) hF
theorem find_grid {β : Type} (n : Nat) (g : P2 → Option β) : (List.range n).findSome? (fun x : Nat => (List.range n).findSome? fun y : Nat => g ((x : Int), (y : Int))) = ((List.range n).flatMap fun x : Nat => (List.range n).map fun y : Nat => ((x : Int), (y : Int))).findSome? g := by
  have h : ∀ (l : List Nat), l.findSome? (fun x : Nat => (List.range n).findSome? fun y : Nat => g ((x : Int), (y : Int))) = (l.flatMap fun x : Nat => (List.range n).map fun y : Nat => ((x : Int), (y : Int))).findSome? g := by
    intro l
    induction l with
    | nil => rfl
    | cons x l ih =>
      rw [List.findSome?_cons, List.flatMap_cons, List.findSome?_append, List.findSome?_map, ih]
      show (match (List.range n).findSome? (fun y : Nat => g ((x : Int), (y : Int))) with | some b => some b | none => _) = ((List.range n).findSome? (g ∘ fun y : Nat => ((x : Int), (y : Int)))).or _
      cases h : (List.range n).findSome? (fun y : Nat => g ((x : Int), (y : Int))) with
      | none => rw [show (List.range n).findSome? (g ∘ fun y : Nat => ((x : Int), (y : Int))) = none from h]; rfl
      | some r => rw [show (List.range n).findSome? (g ∘ fun y : Nat => ((x : Int), (y : Int))) = some r from h]; rfl
  exact h _
theorem len6' {l : List Int} (h : l.length = 6) : ∃ a b c d e f, l = [a, b, c, d, e, f] := by
  match l, h with
  | [a, b, c, d, e, f], _ => exact ⟨a, b, c, d, e, f, rfl⟩

end Go.Proofs.Ytnijajjdldijpaa
