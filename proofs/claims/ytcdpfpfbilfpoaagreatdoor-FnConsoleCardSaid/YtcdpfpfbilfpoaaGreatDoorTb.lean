import Derived.Test.YtcdpfpfbilfpoaaGreatDoorTa
set_option linter.unusedSimpArgs false
set_option linter.unusedVariables false
namespace Go.Proofs.YtcdpfpfbilfpoaaGreatDoor
open Go.RowKit
def toL (s : ByteArray) : List UInt8 := s.data.toList
theorem ZcQ (l : List UInt8) : toL (bs l) = l := rfl
theorem ZND (s : ByteArray) : bs (toL s) = s := rfl
theorem Zec (a b : ByteArray) : toL (a ++ b) = toL a ++ toL b := by
 unfold toL
 rw [ByteArray.data_append]
 simp
theorem Ztg {a b : ByteArray} (h : toL a = toL b) : a = b := by
 rw [<- ZND a, <- ZND b, h]
theorem ZX (s : ByteArray) : s.size = (toL s).length := rfl
theorem Z0T {a b : ByteArray} : eqS a b = true ↔ a = b := by
 unfold eqS
 rw [ByteArray.toList_eq, ByteArray.toList_eq, beq_iff_eq]
 exact ⟨fun h => Ztg h, fun h => by rw [h]⟩
def jn (sep : List UInt8) : List (List UInt8) -> List UInt8
 | [] => []
 | [x] => x
 | x :: y :: r => x ++ sep ++ jn sep (y :: r)
theorem ZLu (sep y : List UInt8) : ∀ L : List (List UInt8), L ≠ [] -> jn sep (L ++ [y]) = jn sep L ++ sep ++ y
 | [], h => absurd rfl h
 | [x], _ => rfl
 | x :: z :: r, _ => by
  have := ZLu sep y (z :: r) (by simp)
  show x ++ sep ++ jn sep ((z :: r) ++ [y]) = x ++ sep ++ jn sep (z :: r) ++ sep ++ y
  rw [this]
  simp [List.append_assoc]
theorem ZGS {sep : List UInt8} {M : Nat} (hs : sep.length <= 10) : ∀ L : List (List UInt8), (∀ x ∈ L, x.length <= M) -> (jn sep L).length <= L.length * (M + 10)
 | [], _ => by simp [jn]
 | [x], h => by have := h x (by simp); simp [jn]; omega
 | x :: y :: r, h => by
  have h1 := h x (by simp)
  have h2 := ZGS hs (y :: r) fun z hz => h z (by simp [hz])
  simp only [jn, List.length_append]
  have e : (x :: y :: r).length * (M + 10) = (y :: r).length * (M + 10) + (M + 10) := by rw [List.length_cons (a := x), Nat.add_mul, Nat.one_mul]
  omega
def Z6d (L : List (List UInt8)) : List UInt8 := match L with
 | [] => [110, 111, 110, 101]
 | _ => jn [32] L
def num1 (x : Int) : Bool := decide (0 <= x) && decide (x < 100)
theorem Zjj {x : Int} : num1 x = true ↔ 0 <= x /\ x < 100 := by unfold num1; simp
theorem Z7D {x : Int} (h : num1 x = true) : Z5X x = true := by
 have := Zjj.1 h
 unfold Z5X
 simp
 omega
theorem ZPy (x : Int) : toL (Z01 x) = decL x.toNat := rfl
def nlB (n : Nat) (l : List Int) : Bool := lenB n 1 l && (l.all Z5X && Nat.ble n 100000)
def numB (n : Nat) (l : List Int) : Bool := lenB n 1 l && (l.all num1 && Nat.ble n 100000)
def ptsB (n : Nat) (l : List Int) : Bool := lenB n 2 l && (l.all num1 && Nat.ble n 3000)
def lnsB (n : Nat) (l : List Int) : Bool := lenB n 3 l && (l.all num1 && Nat.ble n 3000)
def lenT (n : Nat) (l : List ByteArray) : Bool := Nat.beq l.length n
def txB (n : Nat) (l : List ByteArray) : Bool := lenT n l && (l.all (fun s => Nat.ble s.size 200) && Nat.ble n 100000)
theorem Z7z {q : Int -> Bool} {l : List Int} (h : l.all q = true) {k : Nat} (hk : k < l.length) : q (l.getD k 0) = true := by
 rw [List.getD_eq_getElem?_getD, List.getElem?_eq_getElem hk]
 exact List.all_eq_true.1 h _ (List.getElem_mem hk)
theorem ZLS {n : Nat} {l : List Int} (h : numB n l = true) : nlB n l = true := by
 unfold numB at h
 unfold nlB
 simp only [Bool.and_eq_true] at h ⊢
 exact ⟨h.1, List.all_eq_true.2 fun x hx => Z7D (List.all_eq_true.1 h.2.1 x hx), h.2.2⟩
theorem Z1O {k n : Nat} (h : k < n) (hn : n <= 4000000) : wI ((k : Int) + 1) = ((k + 1 : Nat) : Int) := by
 rw [Zz]
 unfold wrap64
 omega
theorem ZNn {L : Nat -> ByteArray -> Int -> Option ByteArray} {item : Nat -> ByteArray} {sep : ByteArray} {n M : Nat} (hM : M <= 1000) (hsep : sep.size <= 10) (hn : n <= 100000) (hi : ∀ k, k < n -> (item k).size <= M)
  (hs : ∀ f out k, k < n -> out.size <= 200000000 -> L (f + 1) out (k : Int) = L f ((if k = 0 then out else out ++ sep) ++ item k) ((k + 1 : Nat) : Int)) (he : ∀ f out, L (f + 1) out (n : Int) = some out) :
  ∀ (j k F : Nat), k + j = n -> j < F -> L F (bs (jn (toL sep) ((List.range k).map fun q => toL (item q)))) (k : Int) = some (bs (jn (toL sep) ((List.range n).map fun q => toL (item q))))
 | j, k, 0, _, h => absurd h (Nat.not_lt_zero j)
 | 0, k, F + 1, h, _ => by
  obtain rfl : k = n := by omega
  exact he F _
 | j + 1, k, F + 1, h, hF => by
  have hsz : (bs (jn (toL sep) ((List.range k).map fun q => toL (item q)))).size <= 200000000 := by
   rw [ZX, ZcQ]
   have := ZGS (M := M) (show (toL sep).length <= 10 from hsep) ((List.range k).map fun q => toL (item q)) fun x hx => by
    obtain ⟨q, hq, rfl⟩ := List.mem_map.1 hx
    exact hi q (by have := List.mem_range.1 hq; omega)
   rw [List.length_map, List.length_range] at this
   have h2 : k * (M + 10) <= 100000 * 1010 := Nat.mul_le_mul (by omega) (by omega)
   omega
  rw [hs F _ k (by omega) hsz, <- ZNn hM hsep hn hi hs he j (k + 1) F (by omega) (by omega)]
  congr 1
  apply Ztg
  rw [List.range_succ, List.map_append, List.map_cons, List.map_nil]
  cases k with
  | zero => rw [if_pos rfl, Zec]; rfl
  | succ k =>
   rw [if_neg (by omega), Zec, Zec, ZcQ, ZcQ, ZLu _ _ _ (by rw [List.range_succ]; simp)]
   rfl
theorem ZA3 {L : Nat -> ByteArray -> Int -> Option ByteArray} {item : Nat -> ByteArray} {sep : ByteArray} {n M F : Nat} (hM : M <= 1000) (hsep : sep.size <= 10) (hn : n <= 100000) (hF : n < F) (hi : ∀ k, k < n -> (item k).size <= M)
  (hs : ∀ f out k, k < n -> out.size <= 200000000 -> L (f + 1) out (k : Int) = L f ((if k = 0 then out else out ++ sep) ++ item k) ((k + 1 : Nat) : Int)) (he : ∀ f out, L (f + 1) out (n : Int) = some out) :
  L F (bs []) 0 = some (bs (jn (toL sep) ((List.range n).map fun q => toL (item q)))) := ZNn hM hsep hn hi hs he n 0 F (by omega) hF
theorem ZLr {T : Type} {L : Nat -> List ByteArray -> Nat -> Int -> Option T} {item : Nat -> ByteArray} {n : Nat} {r : Option T}
  (hs : ∀ f l k, k < n -> l.length = k -> L (f + 1) l k (k : Int) = L f (l ++ [item k]) (k + 1) ((k + 1 : Nat) : Int)) (he : ∀ f, L (f + 1) ((List.range n).map item) n (n : Int) = r) :
  ∀ (j k F : Nat), k + j = n -> j < F -> L F ((List.range k).map item) k (k : Int) = r
 | j, k, 0, _, h => absurd h (Nat.not_lt_zero j)
 | 0, k, F + 1, h, _ => by
  obtain rfl : k = n := by omega
  exact he F
 | j + 1, k, F + 1, h, hF => by
  rw [hs F _ k (by omega) (by simp), <- ZLr hs he j (k + 1) F (by omega) (by omega), List.range_succ, List.map_append]
  rfl
theorem Zjc {T : Type} {L : Nat -> List ByteArray -> Nat -> Int -> Option T} {item : Nat -> ByteArray} {n F : Nat} {r : Option T} (hF : n < F)
  (hs : ∀ f l k, k < n -> l.length = k -> L (f + 1) l k (k : Int) = L f (l ++ [item k]) (k + 1) ((k + 1 : Nat) : Int)) (he : ∀ f, L (f + 1) ((List.range n).map item) n (n : Int) = r) : L F [] 0 0 = r := ZLr hs he n 0 F (by omega) hF
theorem ZgB {a b : ByteArray} (h1 : a.size <= 300000000) (h2 : b.size <= 300000000) : Nat.ble (a.size + b.size) 9223372036854775807 = true := Nat.ble_eq_true_of_le (by omega)
theorem Z1a (a b : ByteArray) : (a ++ b).size = a.size + b.size := by
 rw [ZX, Zec, List.length_append]
 rfl
theorem ZgN {k n : Nat} (h : k < n) : (decide (0 <= (k : Int)) && decide ((k : Int) < ((n : Nat) : Int))) = true := by simp; omega
theorem ZpL {m : Nat} (h : m < 2000000) : (Nat.ble 0 1 && Nat.ble (m + 1) 2000000 && Nat.beq 1 (1)) = true := by simp; omega

def Z7S (n base : Int) : ByteArray := Z01 n
def ZnV (n base : Int) : Bool := num1 n && base == 10
theorem ZJp {n : Int} (h : num1 n = true) : ZnV n 10 = true := by unfold ZnV; rw [h]; rfl
def ZOS (n : Nat) (l : List ByteArray) (sep : ByteArray) : ByteArray := bs (jn (toL sep) (l.map toL))
def ZGT (n : Nat) (l : List ByteArray) (sep : ByteArray) : Bool := txB n l && Nat.ble sep.size 10
def spL (c : UInt8) : List UInt8 -> List (List UInt8)
 | [] => [[]]
 | b :: l => if b = c then [] :: spL c l else match spL c l with
  | x :: r => (b :: x) :: r
  | [] => [[b]]
def sepB (sep : ByteArray) : UInt8 := sep.data.getD 0 0
def Z0l (s sep : ByteArray) : Nat × List ByteArray := ((spL (sepB sep) (toL s)).length, (spL (sepB sep) (toL s)).map bs)
def ZnY (s sep : ByteArray) : Bool := Nat.ble s.size 4294967280 && Nat.beq sep.size 1

def num2 (a : P2) : Bool := num1 a.1 && num1 a.2
def num3 (a : P3) : Bool := num1 a.1 && (num1 a.2.1 && num1 a.2.2)
theorem Zkr {x y : Int} (h1 : num1 x = true) (h2 : num1 y = true) : num2 (x, y) = true := by unfold num2; rw [h1, h2]; rfl
theorem ZnP {x y z : Int} (h1 : num1 x = true) (h2 : num1 y = true) (h3 : num1 z = true) : num3 (x, y, z) = true := by unfold num3; rw [h1, h2, h3]; rfl
theorem ZLQ {a : P2} (h : num2 a = true) : (numB 2 [a.1, a.2] && Nat.ble (bs [44]).size 10) = true := by
 unfold num2 at h
 simp only [Bool.and_eq_true] at h
 unfold numB
 simp [h.1, h.2, lenB]
 decide
theorem ZLR {a : P3} (h : num3 a = true) : (numB 3 [a.1, a.2.1, a.2.2] && Nat.ble (bs [44]).size 10) = true := by
 unfold num3 at h
 simp only [Bool.and_eq_true] at h
 unfold numB
 simp [h.1, h.2.1, h.2.2, lenB]
 decide
theorem ZPe {a : P2} (h : num2 a = true) : nlB 2 [a.1, a.2] = true := ZLS (by have := ZLQ h; rw [Bool.and_eq_true] at this; exact this.1)
theorem ZPf {a : P3} (h : num3 a = true) : nlB 3 [a.1, a.2.1, a.2.2] = true := ZLS (by have := ZLR h; rw [Bool.and_eq_true] at this; exact this.1)
theorem lenD {x : Int} (h : num1 x = true) : (decL x.toNat).length <= 14 := ZsS (Z7D h)
theorem Zdv {a : P2} (h : num2 a = true) : (bs (jn [44] [decL a.1.toNat, decL a.2.toNat])).size <= 100 := by
 unfold num2 at h
 simp only [Bool.and_eq_true] at h
 have h1 := lenD h.1; have h2 := lenD h.2
 rw [ZX, ZcQ]
 simp [jn]
 omega
theorem ZnM {a : P3} (h : num3 a = true) : (bs (jn [44] [decL a.1.toNat, decL a.2.1.toNat, decL a.2.2.toNat])).size <= 100 := by
 unfold num3 at h
 simp only [Bool.and_eq_true] at h
 have h1 := lenD h.1; have h2 := lenD h.2.1; have h3 := lenD h.2.2
 rw [ZX, ZcQ]
 simp [jn]
 omega
theorem ZJG {n : Nat} {item : Nat -> ByteArray} (hn : n <= 100000) (h : ∀ q, q < n -> (item q).size <= 200) : txB n ((List.range n).map item) = true := by
 unfold txB lenT
 simp only [Bool.and_eq_true, List.all_eq_true]
 refine ⟨by rw [List.length_map, List.length_range]; exact Nat.beq_refl n, fun x hx => ?_, Nat.ble_eq_true_of_le hn⟩
 obtain ⟨q, hq, rfl⟩ := List.mem_map.1 hx
 exact Nat.ble_eq_true_of_le (h q (List.mem_range.1 hq))

theorem ZvI (c : UInt8) : ∀ l, spL c l ≠ []
 | [] => by simp [spL]
 | b :: l => by
  unfold spL
  split
  ·simp
  ·split <;> simp
theorem ZBO {c : UInt8} : ∀ {D : List UInt8}, c ∉ D -> spL c D = [D]
 | [], _ => rfl
 | b :: D, h => by
  unfold spL
  rw [if_neg (fun e => h (by rw [e]; simp)), ZBO (fun hc => h (by simp [hc]))]
theorem Zzc {c : UInt8} (Q : List UInt8) : ∀ {D : List UInt8}, c ∉ D -> spL c (D ++ c :: Q) = D :: spL c Q
 | [], _ => by rw [List.nil_append, spL, if_pos rfl]
 | b :: D, h => by
  rw [List.cons_append, spL, if_neg (fun e => h (by rw [e]; simp)), Zzc Q (fun hc => h (by simp [hc]))]
theorem ZnX (c : UInt8) : ∀ l, (spL c l).length <= l.length + 1
 | [] => by simp [spL]
 | b :: l => by
  have ih := ZnX c l
  unfold spL
  split
  ·simp; omega
  ·split
   ·rename_i x r e; rw [e] at ih; simp at ih ⊢; omega
   ·simp
theorem Znu {c : UInt8} : ∀ {l x : List UInt8}, x ∈ spL c l -> x.length <= l.length
 | [], x, h => by simp [spL] at h; subst h; simp
 | b :: l, x, h => by
  unfold spL at h
  split at h
  ·rcases List.mem_cons.1 h with rfl | h
   ·simp
   ·have := Znu h; simp; omega
  ·split at h
   ·rename_i y r e
    rcases List.mem_cons.1 h with rfl | h
    ·have := Znu (c := c) (l := l) (x := y) (by rw [e]; simp)
     simp; omega
    ·have := Znu (c := c) (l := l) (x := x) (by rw [e]; simp [h])
     simp; omega
   ·rename_i e; exact absurd e (ZvI c l)
theorem ZnW (c : UInt8) : ∀ l : List UInt8, (c ∉ l /\ spL c l = [l]) \/ ∃ x r, c ∉ x /\ l = x ++ c :: r /\ spL c l = x :: spL c r
 | [] => .inl ⟨by simp, rfl⟩
 | b :: l => by
  by_cases e : b = c
  ·subst e
   exact .inr ⟨[], l, by simp, rfl, by rw [spL, if_pos rfl]⟩
  ·rcases ZnW c l with ⟨h1, h2⟩ | ⟨x, r, h1, h2, h3⟩
   ·have : c ∉ b :: l := by simp [h1]; exact fun q => e q.symm
    exact .inl ⟨this, ZBO this⟩
   ·have : c ∉ b :: x := by simp [h1]; exact fun q => e q.symm
    refine .inr ⟨b :: x, r, this, by rw [h2]; rfl, ?_⟩
    rw [h2]
    exact Zzc r this
theorem Zuu (s : ByteArray) (k : Nat) : s.data.getD k 0 = (toL s).getD k 0 := by
 unfold toL
 rw [Array.getD_eq_getD_getElem?, List.getD_eq_getElem?_getD, Array.getElem?_toList]
theorem Zgz {s : ByteArray} {D Q : List UInt8} {c : UInt8} (h : toL s = D ++ c :: Q) : s.data.getD D.length 0 = c := by
 rw [Zuu, h, List.getD_eq_getElem?_getD, List.getElem?_append_right (Nat.le_refl _)]
 simp
theorem Zny (s : ByteArray) (a b : Nat) : toL (s.extract a b) = ((toL s).drop a).take (b - a) := by
 unfold toL
 rw [ByteArray.data_extract, Array.toList_extract]
theorem ZhI {s : ByteArray} {A D Q : List UInt8} (h : toL s = A ++ D ++ Q) : s.extract A.length (A.length + D.length) = bs D := by
 apply Ztg
 rw [Zny, h, ZcQ, List.append_assoc, List.drop_left, show A.length + D.length - A.length = D.length by omega, List.take_left]
def dgt (c : UInt8) : Bool := Nat.ble 48 c.toNat && Nat.ble c.toNat 57
theorem Z7W {c : UInt8} : dgt c = true ↔ 48 <= c.toNat /\ c.toNat <= 57 := by unfold dgt; simp
def valF : Nat -> List UInt8 -> Option Nat
 | a, [] => some a
 | a, c :: l => if dgt c = true then valF (a * 10 + (c.toNat - 48)) l else none
def numL (l : List UInt8) : Option Nat := if l.length = 0 \/ 9 < l.length \/ (1 < l.length /\ l.getD 0 0 = 48) then none else valF 0 l
theorem ZgH {c : UInt8} (h : dgt c = true) : wI (IntKind.u8.wrap ((c.toNat : Int) - 48)) = ((c.toNat - 48 : Nat) : Int) := by
 obtain ⟨h1, h2⟩ := Z7W.1 h
 have : ∀ k : Nat, 48 <= k -> k <= 57 -> wI (IntKind.u8.wrap ((k : Int) - 48)) = ((k - 48 : Nat) : Int) := by
  intro k h1 h2
  have hk : k = 48 \/ k = 49 \/ k = 50 \/ k = 51 \/ k = 52 \/ k = 53 \/ k = 54 \/ k = 55 \/ k = 56 \/ k = 57 := by omega
  rcases hk with rfl | rfl | rfl | rfl | rfl | rfl | rfl | rfl | rfl | rfl <;> decide +kernel
 exact this _ h1 h2
theorem Zj4 {a k d : Nat} (ha : a < 10 ^ k) (hd : d < 10) : a * 10 + d < 10 ^ (k + 1) := by rw [Nat.pow_succ]; omega
theorem pow9 {k : Nat} (h : k <= 9) : 10 ^ k <= 1000000000 := Nat.le_trans (Nat.pow_le_pow_right (by decide) h) (by decide)
theorem ZHz : ∀ (l : List UInt8) (a n : Nat), valF a l = some n -> a * 10 ^ l.length <= n
 | [], a, n, h => by simp [valF] at h; simp; omega
 | c :: l, a, n, h => by
  unfold valF at h
  split at h
  ·have := ZHz l _ n h
   rw [List.length_cons, Nat.pow_succ, Nat.mul_comm (10 ^ l.length) 10, <- Nat.mul_assoc]
   exact Nat.le_trans (Nat.mul_le_mul_right _ (Nat.le_add_right _ _)) this
  ·cases h
theorem ZtH : ∀ (D Q : List UInt8) (a : Nat), (∀ c ∈ D, dgt c = true) -> ∃ b, valF a D = some b /\ valF a (D ++ Q) = valF b Q
 | [], Q, a, _ => ⟨a, rfl, rfl⟩
 | c :: D, Q, a, h => by
  obtain ⟨b, h1, h2⟩ := ZtH D Q (a * 10 + (c.toNat - 48)) fun x hx => h x (by simp [hx])
  refine ⟨b, ?_, ?_⟩
  ·rw [valF, if_pos (h c (by simp))]; exact h1
  ·rw [List.cons_append, valF, if_pos (h c (by simp))]; exact h2
def numP (p : Int) (x : List UInt8) : Option Nat := match numL x with
 | some n => if (n : Int) < p then some n else none
 | none => none
theorem ZMX {p : Int} {x : List UInt8} (h1 : 1 < x.length) (h2 : x.getD 0 0 = 48) : numP p x = none := by
 unfold numP numL
 rw [if_pos (Or.inr (Or.inr ⟨h1, h2⟩))]
theorem Zn1 {p : Int} {x : List UInt8} (h : ∀ n, valF 0 x = some n -> p <= (n : Int)) : numP p x = none := by
 unfold numP numL
 by_cases c : x.length = 0 \/ 9 < x.length \/ (1 < x.length /\ x.getD 0 0 = 48)
 ·rw [if_pos c]
 ·rw [if_neg c]
  cases hv : valF 0 x with
  | none => rfl
  | some n =>
   have := h n hv
   dsimp only
   rw [if_neg (by omega)]
theorem ZMW {p : Int} {x : List UInt8} {n : Nat} (h0 : x.length ≠ 0) (h9 : x.length <= 9) (h1 : ¬ (1 < x.length /\ x.getD 0 0 = 48)) (hv : valF 0 x = some n) (hn : (n : Int) < p) : numP p x = some n := by
 unfold numP numL
 rw [if_neg (by rintro (q | q | q); exact h0 q; omega; exact h1 q), hv]
 dsimp only
 rw [if_pos hn]
theorem ZCs {c : UInt8} {E : List UInt8} (hc : ¬ dgt c = true) {D : List UInt8} (hD : ∀ d ∈ D, dgt d = true) : valF 0 (D ++ c :: E) = none := by
 obtain ⟨b, _, h2⟩ := ZtH D (c :: E) 0 hD
 rw [h2, valF, if_neg hc]
theorem ZNa {d : UInt8} {D : List UInt8} {a : Nat} (hD : (d :: D).length = 3) (hd : dgt d = true) (h0 : d ≠ 48) (hv : valF 0 (d :: D) = some a) : 100 <= a := by
 rw [valF, if_pos hd] at hv
 have := ZHz D _ a hv
 have h2 : D.length = 2 := by simpa using hD
 have h3 : 1 <= d.toNat - 48 := by
  have := (Z7W.1 hd).1
  have : d.toNat ≠ 48 := fun e => h0 (by apply UInt8.toNat_inj.1; rw [e]; rfl)
  omega
 rw [h2] at this
 omega
def ZGY (text : ByteArray) : Bool := true
def lnsN (L : List (List UInt8)) : Nat := if L.getD (L.length - 1) [] = [] then L.length - 1 else L.length
def Z0Q (text : ByteArray) : (Nat × List ByteArray) × Bool := if 4000 < text.size then ((0, []), false) else ((lnsN (spL 10 (toL text)), ((spL 10 (toL text)).take (lnsN (spL 10 (toL text)))).map bs), Nat.ble (lnsN (spL 10 (toL text))) 40)

end Go.Proofs.YtcdpfpfbilfpoaaGreatDoor
