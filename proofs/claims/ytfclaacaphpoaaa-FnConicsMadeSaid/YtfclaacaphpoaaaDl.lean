import Derived.Test.YtfclaacaphpoaaaDi
set_option linter.unusedSimpArgs false
set_option linter.unusedVariables false
namespace Go.Proofs.Ytfclaacaphpoaaa
open Go.RowKit
abbrev P2 := Int × Int
abbrev P3 := Int × Int × Int
abbrev P6 := Int × Int × Int × Int × Int × Int
def Pr (p : Int) : Prop := 1 <= p /\ p <= 31
theorem Zih {p : Int} (h : prB p = true) : Pr p := by
 unfold prB at h
 simp at h
 exact h
theorem Z9R {p : Int} (h : Pr p) : prB p = true := by
 unfold prB Pr at *
 simp
 exact h
theorem Pr.ne {p : Int} (h : Pr p) : p ≠ 0 := by unfold Pr at h; omega
theorem Ztn (x p : Int) (h1 : 1 <= p) : -p < x.tmod p /\ x.tmod p < p := by
 have := Int.tmod_lt_of_pos x (show 0 < p by omega)
 have h2 := Int.lt_tmod_of_pos x (show 0 < p by omega)
 omega
theorem Zwu (x p : Int) : (x.tmod p + p) % p = x % p := by
 rw [Int.add_emod_right]
 have h := Int.mul_tdiv_add_tmod x p
 conv => rhs; rw [<- h, Int.add_comm, Int.add_mul_emod_self_left]
theorem ZqX {p : Int} (hp : prB p = true) (x : Int) : (wrap64 (x.tmod p + p)).tmod p = x % p := by
 obtain ⟨h1, h2⟩ := Zih hp
 obtain ⟨t1, t2⟩ := Ztn x p h1
 have : wrap64 (x.tmod p + p) = x.tmod p + p := by unfold wrap64; omega
 rw [this, Int.tmod_eq_emod_of_nonneg (by omega), Zwu]
theorem Z2o {k n : Nat} (h : k < n) (hn : n <= 100000000001) : wI ((k : Int) + 1) = ((k + 1 : Nat) : Int) := by
 rw [Z03]; unfold wrap64; omega
def Z06 (n : Nat) (l : List Int) : List P2 := (List.range n).map fun k => (l.getD (k * 2) 0, l.getD (k * 2 + 1) 0)
def Zr3 (n : Nat) (l : List Int) : List P3 := (List.range n).map fun k => (l.getD (k * 3) 0, l.getD (k * 3 + 1) 0, l.getD (k * 3 + 2) 0)
theorem Ztc {α : Type} {L : Nat -> Int -> Option α} {n : Nat} {q : Nat -> Bool} {bad good : α} (hL : ∀ f k : Nat, k < n -> L (f + 1) (k : Int) = if (!(q k)) = true then some bad else L f ((k + 1 : Nat) : Int)) (hE : ∀ f : Nat, L (f + 1) (n : Int) = some good) :
  ∀ (m k f : Nat), k + m = n -> m < f -> L f (k : Int) = some (if (List.range' k m).all q = true then good else bad)
 | m, k, 0, _, h => absurd h (Nat.not_lt_zero m)
 | 0, k, f + 1, h, _ => by
  obtain rfl : k = n := by omega
  rw [hE]; rfl
 | m + 1, k, f + 1, h, hf => by
  rw [hL f k (by omega), Ztc hL hE m (k + 1) f (by omega) (by omega), List.range'_succ, List.all_cons]
  cases q k <;> simp only [Bool.not_false, Bool.not_true, if_true, Bool.false_and, Bool.true_and, Bool.false_eq_true, if_false]
theorem scan {α : Type} {L : Nat -> Int -> Option α} {n F : Nat} {q : Nat -> Bool} {bad good : α} (hF : n < F) (hL : ∀ f k : Nat, k < n -> L (f + 1) (k : Int) = if (!(q k)) = true then some bad else L f ((k + 1 : Nat) : Int)) (hE : ∀ f : Nat, L (f + 1) (n : Int) = some good) :
  L F 0 = some (if (List.range n).all q = true then good else bad) := by
 rw [List.range_eq_range']
 exact Ztc hL hE n 0 F (by omega) hF
theorem Zty (n : Nat) (l : List Int) (g : P3 -> Bool) : (Zr3 n l).all g = (List.range n).all fun k => g (l.getD (k * 3) 0, l.getD (k * 3 + 1) 0, l.getD (k * 3 + 2) 0) := by
 unfold Zr3; rw [List.all_map]; rfl
theorem ZhP (n : Nat) (l : List Int) (g : P2 -> Bool) : (Z06 n l).all g = (List.range n).all fun k => g (l.getD (k * 2) 0, l.getD (k * 2 + 1) 0) := by
 unfold Z06; rw [List.all_map]; rfl
theorem Znb (n : Nat) (l : List Int) (h : l.length = n) (g : Int -> Bool) : l.all g = (List.range n).all fun k => g (l.getD (k * 1) 0) := by
 subst h
 have : l = (List.range l.length).map fun k => l.getD (k * 1) 0 := by
  apply List.ext_getElem (by simp)
  intro i h1 h2
  simp [List.getD_eq_getElem?_getD, h1]
 conv => lhs; rw [this]
 rw [List.all_map]; rfl
theorem leb {a b : Nat} (h : a <= b) : Nat.ble a b = true := Nat.ble_eq_true_of_le h
def lenB (n sz : Nat) (l : List Int) : Bool := Nat.beq l.length (sz * n) && Nat.ble n 100000000000
theorem Z53 {n sz : Nat} {l : List Int} (h : lenB n sz l = true) : l.length = sz * n /\ n <= 100000000000 := by
 unfold lenB at h
 simp at h
 exact ⟨h.1, h.2⟩
theorem ZgX {n sz : Nat} {l : List Int} (h : l.length = sz * n) (hn : n <= 100000000000) : lenB n sz l = true := by
 unfold lenB
 simp [h, hn]
theorem Z1G {a b : Bool} (h : a = true) (k : b = true) : (a && b) = true := by rw [h, k]; rfl
section
variable {P : Program} {S : Sums} {W : World} {M : MV} {n : Nat} {s s1 s2 : FSt} {a : Act} {w w' : World} {ρ ρ' : Nat -> Value}
end

def Z0Y (l : List P2) : List Int := l.flatMap fun a => [a.1, a.2]
def Z5d (l : List P3) : List Int := l.flatMap fun a => [a.1, a.2.1, a.2.2]
def R2 (l : List Int) (k : Nat) : P2 := (l.getD (k * 2) 0, l.getD (k * 2 + 1) 0)
def R3 (l : List Int) (k : Nat) : P3 := (l.getD (k * 3) 0, l.getD (k * 3 + 1) 0, l.getD (k * 3 + 2) 0)
theorem Zbk (a b : List P2) : Z0Y (a ++ b) = Z0Y a ++ Z0Y b := by simp [Z0Y]
theorem Zni (a b : List P3) : Z5d (a ++ b) = Z5d a ++ Z5d b := by simp [Z5d]
theorem Z0q (l : List P2) : (Z0Y l).length = 2 * l.length := by
 induction l with
 | nil => rfl
 | cons a l ih => show (a.1 :: a.2 :: Z0Y l).length = _; simp [ih]; omega
theorem Z0y (l : List P3) : (Z5d l).length = 3 * l.length := by
 induction l with
 | nil => rfl
 | cons a l ih => show (a.1 :: a.2.1 :: a.2.2 :: Z5d l).length = _; simp [ih]; omega
theorem Zkh : ∀ (l : List P2) (k : Nat), R2 (Z0Y l) k = l.getD k (0, 0)
 | [], k => by simp [R2, Z0Y]
 | a :: l, 0 => rfl
 | a :: l, k + 1 => by
  have h := Zkh l k
  unfold R2 at h ⊢
  rw [show (k + 1) * 2 = k * 2 + 1 + 1 from by omega]
  show ((a.1 :: a.2 :: Z0Y l).getD (k * 2 + 1 + 1) 0, (a.1 :: a.2 :: Z0Y l).getD (k * 2 + 1 + 1 + 1) 0) = _
  simp only [List.getD_cons_succ]
  exact h
theorem Zsl : ∀ (l : List P3) (k : Nat), R3 (Z5d l) k = l.getD k (0, 0, 0)
 | [], k => by simp [R3, Z5d]
 | a :: l, 0 => rfl
 | a :: l, k + 1 => by
  have h := Zsl l k
  unfold R3 at h ⊢
  rw [show (k + 1) * 3 = k * 3 + 1 + 1 + 1 from by omega]
  show ((a.1 :: a.2.1 :: a.2.2 :: Z5d l).getD (k * 3 + 1 + 1 + 1) 0, (a.1 :: a.2.1 :: a.2.2 :: Z5d l).getD (k * 3 + 1 + 1 + 1 + 1) 0, (a.1 :: a.2.1 :: a.2.2 :: Z5d l).getD (k * 3 + 1 + 1 + 1 + 2) 0) = _
  simp only [List.getD_cons_succ]
  exact h
theorem ZqL {α : Type} (l : List α) (d : α) : (List.range l.length).map (fun k => l.getD k d) = l := by
 apply List.ext_getElem (by simp)
 intro i h1 h2
 simp [List.getD_eq_getElem?_getD, h2]
theorem Zjh (l : List P2) : Z06 l.length (Z0Y l) = l := by
 have h : Z06 l.length (Z0Y l) = (List.range l.length).map (fun k => l.getD k (0, 0)) := by
  unfold Z06
  apply List.map_congr_left
  intro k _
  exact Zkh l k
 rw [h, ZqL]
theorem Zwx (n : Nat) (l : List Int) : Z06 n l = (List.range n).map (R2 l) := rfl
theorem ZdD {α : Type} (l : List α) (q : α -> Bool) : (l.flatMap fun a => if q a = true then [a] else []) = l.filter q := by
 induction l with
 | nil => rfl
 | cons a l ih => rw [List.flatMap_cons, ih, List.filter_cons]; cases q a <;> rfl
theorem ZxB (n : Nat) (l : List Int) (q : P2 -> Bool) : ((List.range n).flatMap fun k => if q (R2 l k) = true then [R2 l k] else []) = (Z06 n l).filter q := by
 rw [Zwx, <- ZdD, List.flatMap_map]
theorem Z66 {α : Type} {g : Nat -> List α} {b : Nat} : ∀ {n : Nat}, (∀ k, k < n -> (g k).length <= b) -> ((List.range n).flatMap g).length <= n * b
 | 0, _ => by simp
 | n + 1, h => by
  have h1 := Z66 (g := g) (b := b) (n := n) fun k hk => h k (by omega)
  have h2 := h n (by omega)
  rw [List.range_succ, List.flatMap_append, List.length_append, List.flatMap_singleton]
  rw [Nat.succ_mul]
  omega
theorem Zto {α σ : Type} {L : Nat -> σ -> Int -> Option α} {n : Nat} (I : Nat -> σ -> Prop) (step : σ -> Nat -> σ) {K : σ -> Option α}
  (hL : ∀ f k s, k < n -> I k s -> L (f + 1) s (k : Int) = L f (step s k) ((k + 1 : Nat) : Int)) (hI : ∀ k s, k < n -> I k s -> I (k + 1) (step s k))
  (hE : ∀ f s, I n s -> L (f + 1) s (n : Int) = K s) : ∀ (m k F : Nat) (s : σ), k + m = n -> m < F -> I k s -> L F s (k : Int) = K ((List.range' k m).foldl step s)
 | m, k, 0, s, _, h, _ => absurd h (Nat.not_lt_zero m)
 | 0, k, F + 1, s, hk, _, h0 => by
  obtain rfl : k = n := by omega
  exact hE F s h0
 | m + 1, k, F + 1, s, hk, hF, h0 => by
  rw [hL F k s (by omega) h0, Zto I step hL hI hE m (k + 1) F (step s k) (by omega) (by omega) (hI k s (by omega) h0), List.range'_succ, List.foldl_cons]
theorem upto {α σ : Type} {L : Nat -> σ -> Int -> Option α} {n : Nat} (I : Nat -> σ -> Prop) (step : σ -> Nat -> σ) {K : σ -> Option α}
  (hL : ∀ f k s, k < n -> I k s -> L (f + 1) s (k : Int) = L f (step s k) ((k + 1 : Nat) : Int)) (hI : ∀ k s, k < n -> I k s -> I (k + 1) (step s k))
  (hE : ∀ f s, I n s -> L (f + 1) s (n : Int) = K s) {F : Nat} {s : σ} (hF : n < F) (h0 : I 0 s) : L F s 0 = K ((List.range n).foldl step s) := by
 rw [List.range_eq_range']
 exact Zto I step hL hI hE n 0 F s (by omega) hF h0
theorem gather {α T : Type} {flat : List T -> List Int} (hf : ∀ a b, flat (a ++ b) = flat a ++ flat b) (hn : flat [] = []) {L : Nat -> List Int -> Nat -> Int -> Option α} {n b M : Nat} (g : Nat -> List T) {K : Option α} {F m : Nat} {l : List Int}
  (hg : ∀ k, k < n -> (g k).length <= b)
  (hL : ∀ f k l m, k < n -> m <= M + k * b -> L (f + 1) l m (k : Int) = L f (l ++ flat (g k)) (m + (g k).length) ((k + 1 : Nat) : Int))
  (hE : ∀ f, m + ((List.range n).flatMap g).length <= M + n * b -> L (f + 1) (l ++ flat ((List.range n).flatMap g)) (m + ((List.range n).flatMap g).length) (n : Int) = K) (hF : n < F) (hm : m <= M) :
  L F l m 0 = K := by
 have hI : ∀ k, k <= n -> m + ((List.range k).flatMap g).length <= M + k * b := fun k hk => by
  have := Z66 (g := g) (b := b) (n := k) fun j hj => hg j (by omega)
  omega
 have h := upto (L := fun f (s : List Int × Nat) i => L f s.1 s.2 i) (n := n) (fun k s => k <= n /\ s = (l ++ flat ((List.range k).flatMap g), m + ((List.range k).flatMap g).length)) (fun s k => (s.1 ++ flat (g k), s.2 + (g k).length)) (K := fun s => K)
  (fun f k s hk hs => by
   obtain ⟨h1, rfl⟩ := hs
   exact hL f k _ _ hk (hI k h1)) (fun k s hk hs => by
   obtain ⟨h1, rfl⟩ := hs
   refine ⟨hk, ?_⟩
   rw [List.range_succ, List.flatMap_append, List.flatMap_singleton, hf, List.length_append]
   simp [List.append_assoc, Nat.add_assoc]) (fun f s hs => by
   obtain ⟨h1, rfl⟩ := hs
   exact hE f (hI n h1)) (s := (l, m)) hF ⟨Nat.zero_le _, by simp [hn]⟩
 exact h
def orO {α : Type} (a e : Option α) : Option α := match a with | some r => some r | none => e
theorem Ztf {α : Type} {L : Nat -> Int -> Option α} {n : Nat} {q : Nat -> Option α} {e : α} (hL : ∀ f k : Nat, k < n -> L (f + 1) (k : Int) = orO (q k) (L f ((k + 1 : Nat) : Int))) (hE : ∀ f : Nat, L (f + 1) (n : Int) = some e) :
  ∀ (m k f : Nat), k + m = n -> m < f -> L f (k : Int) = some (((List.range' k m).findSome? q).getD e)
 | m, k, 0, _, h => absurd h (Nat.not_lt_zero m)
 | 0, k, f + 1, h, _ => by
  obtain rfl : k = n := by omega
  rw [hE]; rfl
 | m + 1, k, f + 1, h, hf => by
  rw [hL f k (by omega), Ztf hL hE m (k + 1) f (by omega) (by omega), List.range'_succ, List.findSome?_cons]
  cases q k <;> rfl
theorem seek {α : Type} {L : Nat -> Int -> Option α} {n F : Nat} {q : Nat -> Option α} {e : α} (hF : n < F) (hL : ∀ f k : Nat, k < n -> L (f + 1) (k : Int) = orO (q k) (L f ((k + 1 : Nat) : Int))) (hE : ∀ f : Nat, L (f + 1) (n : Int) = some e) :
  L F 0 = some (((List.range n).findSome? q).getD e) := by
 rw [List.range_eq_range']
 exact Ztf hL hE n 0 F (by omega) hF
theorem cnd {a n : Nat} (h : a < n) : decide ((a : Int) < ((n : Nat) : Int)) = true := by simpa using h
theorem cndE (n : Nat) : decide ((n : Int) < ((n : Nat) : Int)) = false := by simp
theorem cnd2 {a n : Nat} (h : a < n) : (decide (0 <= (a : Int)) && decide ((a : Int) < ((n : Nat) : Int))) = true := by simpa using h
theorem cndp {a : Nat} {p : Int} (h : a < p.toNat) : decide ((a : Int) < p) = true := by simp; omega
theorem Zxx : Nat.beq 2 2 = true := rfl
def pts (p : Int) : List P2 := (List.range p.toNat).flatMap fun x : Nat => (List.range p.toNat).map fun y : Nat => ((x : Int), (y : Int))
def places (p : Int) : List P3 := (0, 0, 1) :: (((List.range p.toNat).map fun z : Nat => (0, 1, (z : Int))) ++ (List.range p.toNat).flatMap fun y : Nat => (List.range p.toNat).map fun z : Nat => (1, (y : Int), (z : Int)))
theorem Z7J {p : Int} (h : prB p = true) : p.toNat <= 31 /\ 0 <= p /\ ((p.toNat : Nat) : Int) = p := by
 obtain ⟨h1, h2⟩ := Zih h
 omega
theorem Zkt {p : Int} (h : prB p = true) : (pts p).length <= 961 := by
 obtain ⟨h1, _, _⟩ := Z7J h
 have h2 := Z66 (n := p.toNat) (b := p.toNat) (g := fun x : Nat => (List.range p.toNat).map fun y : Nat => ((x : Int), (y : Int))) (fun k _ => by simp)
 have h3 : p.toNat * p.toNat <= 31 * 31 := Nat.mul_le_mul h1 h1
 unfold pts; omega
theorem ZiZ {α β : Type} (l : List α) (f : α -> β) : (l.flatMap fun a => [f a]) = l.map f := by
 induction l with
 | nil => rfl
 | cons a l ih => rw [List.flatMap_cons, ih]; rfl
theorem Zwv {n k : Nat} {l : List Int} (hl : l.length = 3 * n) (h : k < n) : Nat.ble (k * 3 + 3) l.length = true := leb (by omega)
theorem Zta {n k : Nat} {l : List Int} (hl : l.length = 2 * n) (h : k < n) : Nat.ble (k * 2 + 2) l.length = true := leb (by omega)
theorem Zx0 {α : Type} {l : List α} {k : α -> Bool} (h : ∀ a, k a = true) : l.all k = true := by
 rw [List.all_eq_true]; exact fun a _ => h a
theorem Z8o {α : Type} {l : List α} {k : α -> Bool} {p : Int} (h : prB p = true) (hk : ∀ a, k a = true) : (prB p && l.all k) = true := by rw [h, Zx0 hk]; rfl
theorem ZqM {p : Int} (h : prB p = true) : (decide (0 <= p) && decide (p <= 2000000) && p == p) = true := by
 obtain ⟨h1, h2⟩ := Zih h
 simp; omega
theorem ZxD {l : List P2} (h : l.length <= 100000000000) : lenB l.length 2 (Z0Y l) = true := ZgX (Z0q l) h
theorem Zqk {α : Type} {l : List α} {f g : α -> Bool} (h : ∀ a ∈ l, f a = g a) : l.filter f = l.filter g := List.filter_congr h
theorem Zlu {α β : Type} (l : List α) (f : α -> List β) (q : β -> Bool) : (l.flatMap f).filter q = l.flatMap fun a => (f a).filter q := by
 induction l with
 | nil => rfl
 | cons a l ih => rw [List.flatMap_cons, List.filter_append, ih, List.flatMap_cons]
theorem Zqx (n : Nat) (q : P2 -> Bool) : ((List.range n).flatMap fun x : Nat => (List.range n).flatMap fun y : Nat => if q ((x : Int), (y : Int)) = true then [((x : Int), (y : Int))] else []) = (((List.range n).flatMap fun x : Nat => (List.range n).map fun y : Nat => ((x : Int), (y : Int))).filter q) := by
 rw [Zlu]
 congr 1
 funext x
 rw [<- ZdD, List.flatMap_map]
theorem ZuO {α β : Type} (l : List α) (d : α) (q : α -> Option β) : (List.range l.length).findSome? (fun k => q (l.getD k d)) = l.findSome? q := by
 have h : l.findSome? q = ((List.range l.length).map (fun k => l.getD k d)).findSome? q := by rw [ZqL]
 rw [h, List.findSome?_map]
 rfl
theorem Zw7 {α : Type} (l : List α) (q : α -> Bool) : (l.findSome? fun a => if q a = true then some a else none) = l.find? q := by
 induction l with
 | nil => rfl
 | cons a l ih => rw [List.findSome?_cons, List.find?_cons, ih]; cases q a <;> rfl
theorem ZtK {α : Type} {l : List α} {q : α -> Bool} {a : α} (ha : a ∈ l) (hq : q a = true) (hu : ∀ b ∈ l, q b = true -> b = a) : l.find? q = some a := by
 cases h : l.find? q with
 | none =>
  rw [List.find?_eq_none] at h
  exact absurd hq (h a ha)
 | some b =>
  rw [hu b (List.mem_of_find?_eq_some h) (List.find?_some h)]
theorem Zkp {p : Int} {a : P2} : a ∈ pts p ↔ (0 <= a.1 /\ a.1 < p) /\ (0 <= a.2 /\ a.2 < p) := by
 obtain ⟨x, y⟩ := a
 simp only [pts, List.mem_flatMap, List.mem_range, List.mem_map, Prod.mk.injEq]
 constructor
 ·rintro ⟨i, hi, j, hj, rfl, rfl⟩
  omega
 ·rintro ⟨h1, h2⟩
  exact ⟨x.toNat, by omega, y.toNat, by omega, by omega, by omega⟩
theorem and3 {a b c : Bool} (ha : a = true) (hb : b = true) (hc : c = true) : (a && b && c) = true := by rw [ha, hb, hc]; rfl
theorem Zvg {l : List Int} (h : l.length = 6) : ∃ a b c d e f, l = [a, b, c, d, e, f] := by
 match l, h with
 | [a, b, c, d, e, f], _ => exact ⟨a, b, c, d, e, f, rfl⟩

end Go.Proofs.Ytfclaacaphpoaaa
