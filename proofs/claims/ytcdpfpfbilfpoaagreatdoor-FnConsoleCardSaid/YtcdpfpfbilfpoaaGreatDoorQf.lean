import Derived.Test.YtcdpfpfbilfpoaaGreatDoorFe
import Derived.Test.YtcdpfpfbilfpoaaGreatDoorFf
import Derived.Test.YtcdpfpfbilfpoaaGreatDoorQd
set_option linter.unusedSimpArgs false
set_option linter.unusedVariables false
namespace Go.Proofs.YtcdpfpfbilfpoaaGreatDoor
open Go.RowKit
abbrev Dk := D8i
theorem ZJH : ∀ (l : List UInt8) (a n : Nat), valF a l = some n -> 0 < a -> decL n = decL a ++ l
 | [], a, n, h, _ => by
  obtain rfl : a = n := by simpa [valF] using h
  simp
 | c :: l, a, n, h, ha => by
  unfold valF at h
  by_cases hd : dgt c = true
  ·rw [if_pos hd] at h
   obtain ⟨d1, d2⟩ := Z7W.1 hd
   have hc : UInt8.ofNat (48 + (c.toNat - 48)) = c := by
    apply UInt8.toNat_inj.1
    rw [UInt8.toNat_ofNat_of_lt' (by show 48 + (c.toNat - 48) < 256; omega)]
    omega
   rw [ZJH l _ n h (by omega), ZmF (n := a * 10 + (c.toNat - 48)) (by omega), show (a * 10 + (c.toNat - 48)) / 10 = a by omega, show (a * 10 + (c.toNat - 48)) % 10 = c.toNat - 48 by omega, hc]
   simp
  ·rw [if_neg hd] at h
   cases h
theorem ZJ7 {l : List UInt8} {n : Nat} (h : numL l = some n) : decL n = l := by
 unfold numL at h
 by_cases h0 : l.length = 0 \/ 9 < l.length \/ (1 < l.length /\ l.getD 0 0 = 48)
 ·rw [if_pos h0] at h
  cases h
 ·rw [if_neg h0] at h
  cases l with
  | nil => exact absurd (.inl rfl) h0
  | cons c r =>
   unfold valF at h
   by_cases hd : dgt c = true
   ·rw [if_pos hd] at h
    obtain ⟨d1, d2⟩ := Z7W.1 hd
    have hc : UInt8.ofNat (48 + (c.toNat - 48)) = c := by
     apply UInt8.toNat_inj.1
     rw [UInt8.toNat_ofNat_of_lt' (by show 48 + (c.toNat - 48) < 256; omega)]
     omega
    have hs : decL (0 * 10 + (c.toNat - 48)) = [c] := by rw [Zdl (by omega), Nat.zero_mul, Nat.zero_add, hc]
    by_cases hz : c.toNat = 48
    ·have hr : r = [] := by
      cases r with
      | nil => rfl
      | cons e t =>
       refine absurd (.inr (.inr ⟨by simp, ?_⟩)) h0
       show c = 48
       exact UInt8.toNat_inj.1 hz
     rw [hr] at h
     obtain rfl : 0 * 10 + (c.toNat - 48) = n := by simpa [valF] using h
     rw [hs, hr]
    ·rw [ZJH r _ n h (by omega), hs]
     rfl
   ·rw [if_neg hd] at h
    cases h
theorem ZQn {l : List UInt8} {n : Nat} (h : numL l = some n) : n < 10 ^ 9 := by
 have e := ZJ7 h
 unfold numL at h
 by_cases h0 : l.length = 0 \/ 9 < l.length \/ (1 < l.length /\ l.getD 0 0 = 48)
 ·rw [if_pos h0] at h
  cases h
 ·have hl : l.length <= 9 := by omega
  rw [if_neg h0] at h
  have key : ∀ (l : List UInt8) (a n m : Nat), valF a l = some n -> a < 10 ^ m -> n < 10 ^ (m + l.length) := by
   intro l
   induction l with
   | nil =>
    intro a n m h ha
    obtain rfl : a = n := by simpa [valF] using h
    simpa using ha
   | cons c r ih =>
    intro a n m h ha
    unfold valF at h
    by_cases hd : dgt c = true
    ·rw [if_pos hd] at h
     obtain ⟨d1, d2⟩ := Z7W.1 hd
     have := ih _ _ (m + 1) h (Zj4 ha (by omega))
     rw [List.length_cons, show m + (r.length + 1) = m + 1 + r.length by omega]
     exact this
    ·rw [if_neg hd] at h
     cases h
  have h1 := key l 0 n 0 h (by decide)
  rw [Nat.zero_add] at h1
  exact Nat.lt_of_lt_of_le h1 (Nat.pow_le_pow_right (by decide) hl)
-- one point of a text
def ppt (p : Int) : List (List UInt8) -> P2 × Int
 | [x, y] => match numP p x with
  | some n => (match numP p y with
   | some k => (((n : Int), (k : Int)), 0)
   | none => ((0, 0), 6))
  | none => ((0, 0), 6)
 | _ => ((0, 0), 6)
theorem ZLY (p : Int) (x y : List UInt8) : ppt p [x, y] = (match numP p x with
  | some n => (match numP p y with
   | some k => (((n : Int), (k : Int)), 0)
   | none => ((0, 0), 6))
  | none => ((0, 0), 6)) := rfl
theorem ZPm (p : Int) (x y z : List UInt8) (r : List (List UInt8)) : (ZnT p (x :: y :: z :: r)).2 = false := by
 rw [Zev]
 cases numP p x with
 | none => rfl
 | some n =>
  cases numP p y with
  | none => rfl
  | some k =>
   dsimp only
   rw [if_neg (List.cons_ne_nil z r)]
theorem ZnQ {p : Int} {x : List UInt8} {n : Nat} (h : numP p x = some n) : numI x = (n : Int) /\ (n : Int) < p := by
 unfold numP at h
 unfold numI
 cases hx : numL x with
 | none => rw [hx] at h; cases h
 | some k =>
  rw [hx] at h
  dsimp only at h
  by_cases hk : (k : Int) < p
  ·rw [if_pos hk] at h
   obtain rfl : k = n := by simpa using h
   exact ⟨rfl, hk⟩
  ·rw [if_neg hk] at h
   cases h
theorem ZF7 {p : Int} {x : List UInt8} (h : numP p x = none) : Z0p p (numI x) = false := by
 unfold numP at h
 unfold numI
 cases hx : numL x with
 | none => exact Bool.eq_false_iff.2 fun q => absurd (Z1c.1 q) (by show ¬ (0 <= (-1 : Int) /\ _); omega)
 | some k =>
  rw [hx] at h
  dsimp only at h
  by_cases hk : (k : Int) < p
  ·rw [if_pos hk] at h
   cases h
  ·exact Bool.eq_false_iff.2 fun q => hk (Z1c.1 q).2
theorem Zep {p : Int} (hf : Z6 p = true) : 3 <= p /\ p <= 31 := by
 have hm := Z7B hf
 simp at hm
 omega
theorem ZLW {p : Int} (hf : Z6 p = true) {text : ByteArray} (ht : text.size <= 1048576) : Z3H p text = some (ppt p (spL 44 (toL text))) := by
 have hr : Zvq p text 2 = true := by unfold Zvq; have := Zep hf; simp; omega
 have e : Z2P p text 2 = ZnT p (spL 44 (toL text)) := rfl
 unfold Z3H
 rw [if_neg (by rw [hf]; decide), if_pos hr, e]
 generalize spL 44 (toL text) = L
 match L with
 | [] => rfl
 | [x] => rw [ZwO]; cases numP p x <;> rfl
 | [x, y] =>
  rw [Zev, ZLY]
  cases hx : numP p x with
  | none => rfl
  | some n =>
   cases hy : numP p y with
   | none => rfl
   | some k => rfl
 | x :: y :: z :: r =>
  rw [if_pos (by rw [ZPm]; rfl)]
  rfl
theorem ZLX {p : Int} (hf : Z6 p = true) {text : ByteArray} (ht : text.size <= 1048576) : Z3J p text = some (ppt p (spL 44 (toL text))) := by
 have n0 : Z00 p [] = 0 := by rw [ZgR p true]; exact ask1 hf rfl
 have e : Z33 text = ((spL 44 (toL text)).length, (spL 44 (toL text)).map numI) := rfl
 unfold Z3J
 rw [n0, if_neg (by decide), if_pos (Nat.ble_eq_true_of_le ht), e]
 generalize spL 44 (toL text) = L
 match L with
 | [] => rfl
 | [x] => rfl
 | [x, y] =>
  have hl : lenB [x, y].length 1 ([x, y].map numI) = true := rfl
  dsimp only
  rw [if_neg (by simp), if_pos hl]
  have en : Z00 p ([x, y].map numI) = ZK p true (ZM p [numI x, numI y]) := ZgR p true [numI x, numI y]
  have ea : ZM p [numI x, numI y] = (Z0p p (numI x) && (Z0p p (numI y) && true)) := by simp [ZM]
  rw [en, ea, ZLY]
  cases hx : numP p x with
  | none => 
   rw [ZF7 hx, Bool.false_and, ask2 hf rfl]
   rfl
  | some n =>
   cases hy : numP p y with
   | none =>
    rw [ZF7 hy, Bool.false_and, Bool.and_false, ask2 hf rfl]
    rfl
   | some k =>
    obtain ⟨x1, x2⟩ := ZnQ hx
    obtain ⟨y1, y2⟩ := ZnQ hy
    have g1 : Z0p p (numI x) = true := Z1c.2 (by rw [x1]; omega)
    have g2 : Z0p p (numI y) = true := Z1c.2 (by rw [y1]; omega)
    rw [g1, g2, show (true && (true && true)) = true from rfl, ask1 hf rfl, if_neg (by decide), if_pos (by rfl), if_pos (by rfl), if_pos (by rfl), if_pos (by rfl)]
    show some ((numI x, numI y), (0 : Int)) = some (((n : Int), (k : Int)), (0 : Int))
    rw [x1, y1]
 | x :: y :: z :: r =>
  dsimp only
  rw [if_pos (by simp; omega)]
  rfl
theorem ZKO {p : Int} (hf : Z6 p = true) (L : List (List UInt8)) : num2 (ppt p L).1 = true /\ ((ppt p L).2 = 0 -> Z5 p (ppt p L).1 = true) := by
 have z : num2 (0, 0) = true := rfl
 unfold ppt
 split
 ·rename_i x y
  split
  ·rename_i n hx
   split
   ·rename_i k hy
    obtain ⟨_, x2⟩ := ZnQ hx
    obtain ⟨_, y2⟩ := ZnQ hy
    have g : Z5 p ((n : Int), (k : Int)) = true := by simp [Z5, ZM, Z1c]; omega
    exact ⟨Z7h hf g, fun _ => g⟩
   ·exact ⟨z, fun q => absurd q (by decide)⟩
  ·exact ⟨z, fun q => absurd q (by decide)⟩
 ·exact ⟨z, fun q => absurd q (by decide)⟩
theorem Zqz {p : Int} (hf : Z6 p = true) {text : ByteArray} (ht : text.size <= 1048576) : Z2Y p text = true /\ Z2Z p text = true /\ ZV p text = ppt p (spL 44 (toL text)) /\ Z0a p text = ppt p (spL 44 (toL text)) :=
 ⟨Zqu (ZLW hf ht), Zqw (ZLX hf ht), Zy2 (ZLW hf ht), Zyj (ZLX hf ht)⟩

theorem Z2A {a b : List UInt8} (h : (a == b) = false) : ¬ eqS (bs a) (bs b) = true := fun q => by
 have e : a = b := congrArg toL (Z0T.1 q)
 rw [e, beq_self_eq_true] at h
 cases h
theorem nE {a b : List UInt8} {α : Type} {x y : α} {i : Decidable (eqS (bs a) (bs b) = true)} (h : (a == b) = false) : @ite α (eqS (bs a) (bs b) = true) i x y = y := if_neg (Z2A h)
theorem Z07 (a : List UInt8) : eqS (bs a) (bs a) = true := Z0T.2 rfl
theorem Zo3 {p : Int} (hf : Z6 p = true) : Z5 p (0, 0) = true := by
 have := Zep hf
 simp [Z5, ZM, Z1c]; omega
theorem ZLZ {p : Int} (hf : Z6 p = true) (x y : Int) : Z5 p (ZF p x, ZF p y) = true := by
 have hp := Zy hf
 have h1 := Zak hp x; have h2 := Zak hp y
 unfold ZF
 simp [Z5, ZM, Z1c]; omega
theorem ZQs {p : Int} {a b : P2} (hf : Z6 p = true) (ha : Z5 p a = true) (hb : Z5 p b = true) : Z5 p (Z1w p a b).1 = true := by
 obtain ⟨e, h⟩ := ZBr hf ha hb
 have hz : ZK p true (ZE p [a, b]) = 0 := ask1 hf (by simp [ZE, ha, hb])
 unfold Z1w
 rw [pointcode p true, hz, if_neg (by decide)]
 exact h
theorem ZPk {p c : Int} {a : P2} {l : P3} (hf : Z6 p = true) : Z5 p (Zeq p c a l).1 = true := by
 unfold Zeq
 split
 ·exact Zo3 hf
 ·split
  ·exact Zo3 hf
  ·unfold Z4H Zcc Z0L
   exact ZLZ hf _ _
theorem ZN3 {p c : Int} (hf : Z6 p = true) (a b d : P2) : Z5 p (Z0E p c a b d).1 = true := by
 rw [<- (ZpN a b d).1]
 unfold Z4d
 by_cases h : Zk p c a b d = 0
 ·obtain ⟨_, hc, _⟩ := Z2h h
  rw [h, Zj5 h hc]
  exact Z9R h hc
 ·rw [if_pos (bne_iff_ne.2 h)]
  exact Zo3 hf
theorem ZOy {p c : Int} (hf : Z6 p = true) (a b d : P2) : Z5 p (Z0N p c a b d).1 = true := by
 rw [<- (Zut a b d).1]
 unfold Z4Y
 by_cases h : Zk p c a b d = 0
 ·obtain ⟨_, hc, _⟩ := Z2h h
  rw [h, ZgU h hc]
  exact Z9s h hc
 ·rw [if_pos (bne_iff_ne.2 h)]
  exact Zo3 hf
theorem ZPj {p : Int} {a b : P2} (hf : Z6 p = true) (t : Int) : Z5 p (Z1H p a b t).1 = true := by
 unfold Z1H
 split
 ·exact Zo3 hf
 ·unfold Z1B
  exact ZLZ hf _ _
-- what single answers say
theorem ZOB {p : Int} (hf : Z6 p = true) (c : Int) (x y : P2) : num1 (ZA p c x y) = true := by
 have hp := Zy hf
 unfold ZA Z2z ZF
 split
 ·exact Z7Z hf (Zak hp _)
 ·split
  ·exact Z7Z hf (Zak hp _)
  ·exact Z7Z hf (Zak hp _)
theorem Zz9 {n : Int} (h : num1 n = true) (k : Int) : Z2l n k = true /\ Z3S n k = (Z01 n, k) := by
 have e : Z4x n k = some (Z01 n, k) := by
  unfold Z4x
  have hn : numB 1 [n] = true := by simp [numB, lenB, h]
  rw [hn, if_pos (by rfl)]
  rfl
 exact ⟨ZsC e, ZB4 e⟩
theorem ZsF {l : P3} (h : num3 l = true) (k : Int) : Z4r l k = true /\ Z8F l k = (Z2N l, k) := by
 have e : Z6L l k = some (Z2N l, k) := by
  unfold Z6L
  rw [if_pos h]
  rfl
 exact ⟨Zye e, ZGP e⟩
theorem ZMZ {l : P2} (h : num2 l = true) (k : Int) : Z78 l k = true /\ Zbj l k = (Z02 l, k) := by
 have e : Z5i l k = some (Z02 l, k) := by
  unfold Z5i
  rw [if_pos h]
  rfl
 exact ⟨Zvi e, ZDI e⟩
theorem ZBo {n : Nat} {L : List Int} (h : ptsB n L = true) (k : Int) : Z2s n L k = true /\ Z3r n L k = (Z17 n L, k) := by
 have e : Z3I n L k = some (Z17 n L, k) := by
  unfold Z3I
  rw [if_pos h]
  rfl
 exact ⟨Zqv e, Zy3 e⟩
theorem ZJ4 {n : Nat} {L : List Int} (h : lnsB n L = true) (k : Int) : Z4J n L k = true /\ Z7O n L k = (Z55 n L, k) := by
 have e : Z4w n L k = some (Z55 n L, k) := by
  unfold Z4w
  rw [if_pos h]
  rfl
 exact ⟨ZsB e, ZB3 e⟩
theorem ZF2 {n : Nat} {L : List Int} (h : numB n L = true) (k : Int) : Z3d n L k = true /\ Z5s n L k = (Z2O n L, k) := by
 have e : Z34 n L k = some (Z2O n L, k) := by
  unfold Z34
  rw [if_pos h]
  rfl
 exact ⟨Zor e, Zv0 e⟩
-- sizes
theorem ZqW {n : Nat} {item : Nat -> ByteArray} (hn : n <= 100000) (hi : ∀ q, q < n -> (item q).size <= 100) : (bs (Z6d ((List.range n).map fun q => toL (item q)))).size <= 100000000 := by
 rw [ZX, ZcQ]
 have key := ZGS (sep := [32]) (M := 100) (by decide) ((List.range n).map fun q => toL (item q)) (fun x hx => by
  obtain ⟨q, hq, rfl⟩ := List.mem_map.1 hx
  rw [<- ZX]
  exact hi q (List.mem_range.1 hq))
 rw [List.length_map, List.length_range] at key
 unfold Z6d
 split
 ·decide
 ·omega
def ERR : ByteArray := bs [101, 114, 114, 111, 114]
def TX (t : ByteArray) : Prop := t.size <= 100000000 /\ t ≠ ERR
theorem Zsw {t : ByteArray} (h : ∀ c ∈ toL t, c ≠ 101) : t ≠ ERR := fun e => h 101 (by rw [e]; exact List.mem_cons_self) rfl
theorem ZIe : ∀ n : Nat, n < 10 -> UInt8.ofNat (48 + n) ≠ 101 := by decide
theorem ZAi : ∀ (n : Nat), ∀ c ∈ decL n, c ≠ 101 := by
 intro n
 induction n using Nat.strongRecOn with
 | _ n ih =>
  intro c hc
  by_cases h : n < 10
  ·rw [Zdl h, List.mem_singleton] at hc
   rw [hc]
   exact ZIe n h
  ·rw [ZmF h] at hc
   rcases List.mem_append.1 hc with hc | hc
   ·exact ih (n / 10) (by omega) c hc
   ·rw [List.mem_singleton] at hc
    rw [hc]
    exact ZIe _ (by omega)
theorem ZLt {sep : List UInt8} (hs : ∀ c ∈ sep, c ≠ 101) : ∀ (L : List (List UInt8)), (∀ x ∈ L, ∀ c ∈ x, c ≠ 101) -> ∀ c ∈ jn sep L, c ≠ 101
 | [], _, c, hc => by simp [jn] at hc
 | [x], h, c, hc => h x (by simp) c hc
 | x :: y :: r, h, c, hc => by
  rcases List.mem_append.1 (show c ∈ x ++ sep ++ jn sep (y :: r) from hc) with hc | hc
  ·rcases List.mem_append.1 hc with hc | hc
   ·exact h x (by simp) c hc
   ·exact hs c hc
  ·exact ZLt hs (y :: r) (fun z hz => h z (List.mem_cons_of_mem _ hz)) c hc
theorem ZBV {L : List (List UInt8)} (h : ∀ x ∈ L, ∀ c ∈ x, c ≠ 101) : bs (Z6d L) ≠ ERR := by
 cases L with
 | nil => exact fun e => absurd (congrArg toL e) (by decide)
 | cons x r => exact Zsw (ZLt (by decide) (x :: r) h)
theorem ZGR {n : Nat} {item : Nat -> ByteArray} (h : ∀ q, ∀ c ∈ toL (item q), c ≠ 101) : ∀ x ∈ (List.range n).map (fun q => toL (item q)), ∀ c ∈ x, c ≠ 101 := by
 intro x hx
 obtain ⟨q, _, rfl⟩ := List.mem_map.1 hx
 exact h q
theorem ZOO (a b : Nat) : ∀ c ∈ jn [44] [decL a, decL b], c ≠ 101 := ZLt (by decide) _ fun x hx => by
 simp at hx
 rcases hx with rfl | rfl <;> exact ZAi _
theorem ZJw (a b d : Nat) : ∀ c ∈ jn [44] [decL a, decL b, decL d], c ≠ 101 := ZLt (by decide) _ fun x hx => by
 simp at hx
 rcases hx with rfl | rfl | rfl <;> exact ZAi _
theorem ZPZ (a : P2) : ∀ c ∈ toL (Z02 a), c ≠ 101 := ZOO _ _
theorem ZQM (a : P3) : ∀ c ∈ toL (Z2N a), c ≠ 101 := ZJw _ _ _
theorem Zjk {n : Int} (h : num1 n = true) : TX (Z01 n) := ⟨Nat.le_trans (ZsS (Z7D h)) (by decide), Zsw (ZAi _)⟩
theorem ZsK {a : P2} (h : num2 a = true) : TX (Z02 a) := ⟨Nat.le_trans (Zdv h) (by decide), Zsw (ZPZ a)⟩
theorem Zz5 {a : P3} (h : num3 a = true) : TX (Z2N a) := ⟨Nat.le_trans (ZnM h) (by decide), Zsw (ZQM a)⟩
theorem Zn8 {n : Nat} {L : List Int} (h : ptsB n L = true) : TX (Z17 n L) := by
 obtain ⟨_, h2, h3⟩ := Zc9 h
 exact ⟨ZqW h2 fun q hq => Zdv (h3 q hq), ZBV (ZGR fun q => ZOO _ _)⟩
theorem ZJ0 {n : Nat} {L : List Int} (h : lnsB n L = true) : TX (Z55 n L) := by
 obtain ⟨_, h2, h3⟩ := Zdi h
 exact ⟨ZqW h2 fun q hq => ZnM (h3 q hq), ZBV (ZGR fun q => ZJw _ _ _)⟩
theorem ZnR {n : Nat} {L : List Int} (h : numB n L = true) : TX (Z2O n L) := by
 obtain ⟨_, h2, h3⟩ := Zf6 h
 exact ⟨ZqW h2 fun q hq => Nat.le_trans (ZsS (h3 q hq)) (by decide), ZBV (ZGR fun q => ZAi _)⟩
theorem Zz8 {l : P3} (h : num3 l = true) : lnsB 1 [l.1, l.2.1, l.2.2] = true := by
 unfold num3 at h
 simp only [Bool.and_eq_true] at h
 simp [lnsB, lenB, h.1, h.2.1, h.2.2]
-- a Zl alone that changes nothing: what the reference and the program say
def Ans (p c a1 a2 b1 b2 d1 d2 : Int) (w : ByteArray) : Prop := ∃ t1 t2 k, Z0q p c (a1, a2) (b1, b2) (d1, d2) w = some (t1, k) /\ Z0d (p, c, a1, a2, b1, b2, d1, d2) 1 [w] = some (t2, k, (p, c, a1, a2, b1, b2, d1, d2)) /\ (k = 0 -> t1 = t2 /\ TX t1)
theorem ZNq {p c a1 a2 b1 b2 d1 d2 : Int} (hf : Z6 p = true) (hc : isC c) (ha : Z5 p (a1, a2) = true) (hb : Z5 p (b1, b2) = true) (hd : Z5 p (d1, d2) = true) : Ans p c a1 a2 b1 b2 d1 d2 (bs [97, 114, 101, 97]) := by
 have e1 := (ZI7 hf ha hb hd).1
 have n1 := (ZI7 hf ha hb hd).2
 obtain ⟨o1, o2⟩ := Zz9 n1 (Z27 p (a1, a2) (b1, b2) (d1, d2)).2
 refine ⟨Z01 (Z27 p (a1, a2) (b1, b2) (d1, d2)).1, Z01 (Z27 p (a1, a2) (b1, b2) (d1, d2)).1, (Z27 p (a1, a2) (b1, b2) (d1, d2)).2, ?_, ?_, fun _ => ⟨rfl, Zjk n1⟩⟩
 ·unfold Z0q
  dsimp only
  rw [nE (by decide), nE (by decide), if_pos (Z07 _), if_pos (Z7D n1)]
 ·unfold Z0d
  rw [if_neg (by decide), if_pos (by decide), if_pos (by rfl)]
  simp only [List.getD_cons_zero]
  rw [nE (by decide), nE (by decide), if_pos (Z07 _)]
  dsimp only [ZIV, ZOd]
  rw [if_pos (by rw [e1]; exact o1), e1, o2]
theorem ZJW {p c a1 a2 b1 b2 d1 d2 : Int} (hf : Z6 p = true) (hc : isC c) (ha : Z5 p (a1, a2) = true) (hb : Z5 p (b1, b2) = true) (hd : Z5 p (d1, d2) = true) : Ans p c a1 a2 b1 b2 d1 d2 (bs [115, 112, 114, 101, 97, 100]) := by
 have e1 := (ZAg hf hc ha hb hd).1
 have n1 := (ZAg hf hc ha hb hd).2
 obtain ⟨o1, o2⟩ := Zz9 n1 (Z4g p c (a1, a2) (b1, b2) (d1, d2)).2
 refine ⟨Z01 (Z4g p c (a1, a2) (b1, b2) (d1, d2)).1, Z01 (Z4g p c (a1, a2) (b1, b2) (d1, d2)).1, (Z4g p c (a1, a2) (b1, b2) (d1, d2)).2, ?_, ?_, fun _ => ⟨rfl, Zjk n1⟩⟩
 ·unfold Z0q
  dsimp only
  rw [nE (by decide), nE (by decide), nE (by decide), nE (by decide), nE (by decide), if_pos (Z07 _), if_pos (Z7D n1)]
 ·unfold Z0d
  rw [if_neg (by decide), if_pos (by decide), if_pos (by rfl)]
  simp only [List.getD_cons_zero]
  rw [nE (by decide), nE (by decide), nE (by decide), nE (by decide), nE (by decide), nE (by decide), nE (by decide), if_pos (Z07 _)]
  dsimp only [ZB7, ZKq]
  rw [if_pos (by rw [e1]; exact o1), e1, o2]
theorem ZHX {p c a1 a2 b1 b2 d1 d2 : Int} (hf : Z6 p = true) (hc : isC c) (ha : Z5 p (a1, a2) = true) (hb : Z5 p (b1, b2) = true) (hd : Z5 p (d1, d2) = true) : Ans p c a1 a2 b1 b2 d1 d2 (bs [113, 117, 97, 100, 114, 101, 97]) := by
 have e1 := (ZwD (p := p) (c := c) (a1, a2) (b1, b2) (d1, d2)).1
 have n1 := (ZwD (p := p) (c := c) (a1, a2) (b1, b2) (d1, d2)).2
 obtain ⟨o1, o2⟩ := Zz9 n1 (Z2n p c (a1, a2) (b1, b2) (d1, d2)).2
 refine ⟨Z01 (Z2n p c (a1, a2) (b1, b2) (d1, d2)).1, Z01 (Z2n p c (a1, a2) (b1, b2) (d1, d2)).1, (Z2n p c (a1, a2) (b1, b2) (d1, d2)).2, ?_, ?_, fun _ => ⟨rfl, Zjk n1⟩⟩
 ·unfold Z0q
  dsimp only
  rw [nE (by decide), nE (by decide), nE (by decide), nE (by decide), nE (by decide), nE (by decide), if_pos (Z07 _), if_pos (Z7D n1)]
 ·unfold Z0d
  rw [if_neg (by decide), if_pos (by decide), if_pos (by rfl)]
  simp only [List.getD_cons_zero]
  rw [nE (by decide), nE (by decide), nE (by decide), nE (by decide), nE (by decide), nE (by decide), nE (by decide), nE (by decide), if_pos (Z07 _)]
  dsimp only [ZB8, ZKr]
  rw [if_pos (by rw [e1]; exact o1), e1, o2]
theorem ZFZ {p c a1 a2 b1 b2 d1 d2 : Int} (hf : Z6 p = true) (hc : isC c) (ha : Z5 p (a1, a2) = true) (hb : Z5 p (b1, b2) = true) (hd : Z5 p (d1, d2) = true) : Ans p c a1 a2 b1 b2 d1 d2 (bs [99, 101, 110, 116, 114, 111, 105, 100]) := by
 have e1 := (ZrT (p := p) (a1, a2) (b1, b2) (d1, d2)).1
 have n1 := (ZrT (p := p) (a1, a2) (b1, b2) (d1, d2)).2
 obtain ⟨o1, o2⟩ := ZMZ n1 (Z2B p (a1, a2) (b1, b2) (d1, d2)).2
 refine ⟨Z02 (Z2B p (a1, a2) (b1, b2) (d1, d2)).1, Z02 (Z2B p (a1, a2) (b1, b2) (d1, d2)).1, (Z2B p (a1, a2) (b1, b2) (d1, d2)).2, ?_, ?_, fun _ => ⟨rfl, ZsK n1⟩⟩
 ·unfold Z0q
  dsimp only
  rw [nE (by decide), nE (by decide), nE (by decide), nE (by decide), nE (by decide), nE (by decide), nE (by decide), if_pos (Z07 _), if_pos (n1)]
 ·unfold Z0d
  rw [if_neg (by decide), if_pos (by decide), if_pos (by rfl)]
  simp only [List.getD_cons_zero]
  rw [nE (by decide), nE (by decide), nE (by decide), nE (by decide), nE (by decide), nE (by decide), nE (by decide), nE (by decide), nE (by decide), if_pos (Z07 _)]
  dsimp only [ZB9, ZKs]
  rw [if_pos (by rw [e1]; exact o1), e1, o2]
theorem ZJU {p c a1 a2 b1 b2 d1 d2 : Int} (hf : Z6 p = true) (hc : isC c) (ha : Z5 p (a1, a2) = true) (hb : Z5 p (b1, b2) = true) (hd : Z5 p (d1, d2) = true) : Ans p c a1 a2 b1 b2 d1 d2 (bs [111, 114, 116, 104, 105, 99]) := by
 have e1 := (ZAe (p := p) (c := c) (a1, a2) (b1, b2) (d1, d2)).1
 have n1 := (ZAe (p := p) (c := c) (a1, a2) (b1, b2) (d1, d2)).2
 obtain ⟨o1, o2⟩ := ZBo n1 (Z0D p c (a1, a2) (b1, b2) (d1, d2)).2
 refine ⟨Z17 (Z0D p c (a1, a2) (b1, b2) (d1, d2)).1.1 (Z0D p c (a1, a2) (b1, b2) (d1, d2)).1.2, Z17 (Z0D p c (a1, a2) (b1, b2) (d1, d2)).1.1 (Z0D p c (a1, a2) (b1, b2) (d1, d2)).1.2, (Z0D p c (a1, a2) (b1, b2) (d1, d2)).2, ?_, ?_, fun _ => ⟨rfl, Zn8 n1⟩⟩
 ·unfold Z0q
  dsimp only
  rw [nE (by decide), nE (by decide), nE (by decide), nE (by decide), nE (by decide), nE (by decide), nE (by decide), nE (by decide), nE (by decide), if_pos (Z07 _), if_pos (n1)]
 ·unfold Z0d
  rw [if_neg (by decide), if_pos (by decide), if_pos (by rfl)]
  simp only [List.getD_cons_zero]
  rw [nE (by decide), nE (by decide), nE (by decide), nE (by decide), nE (by decide), nE (by decide), nE (by decide), nE (by decide), nE (by decide), nE (by decide), nE (by decide), nE (by decide), nE (by decide), if_pos (Z07 _)]
  dsimp only [Zqa, ZKw]
  rw [if_pos (by rw [e1]; exact o1), e1, o2]
theorem ZMs {p c a1 a2 b1 b2 d1 d2 : Int} (hf : Z6 p = true) (hc : isC c) (ha : Z5 p (a1, a2) = true) (hb : Z5 p (b1, b2) = true) (hd : Z5 p (d1, d2) = true) : Ans p c a1 a2 b1 b2 d1 d2 (bs [111, 109, 101, 103, 97]) := by
 have e1 := (ZEC (p := p) (a1, a2) (b1, b2) (d1, d2)).1
 have n1 := (ZEC (p := p) (a1, a2) (b1, b2) (d1, d2)).2
 obtain ⟨o1, o2⟩ := ZBo n1 (Z0I p (a1, a2) (b1, b2) (d1, d2)).2
 refine ⟨Z17 (Z0I p (a1, a2) (b1, b2) (d1, d2)).1.1 (Z0I p (a1, a2) (b1, b2) (d1, d2)).1.2, Z17 (Z0I p (a1, a2) (b1, b2) (d1, d2)).1.1 (Z0I p (a1, a2) (b1, b2) (d1, d2)).1.2, (Z0I p (a1, a2) (b1, b2) (d1, d2)).2, ?_, ?_, fun _ => ⟨rfl, Zn8 n1⟩⟩
 ·unfold Z0q
  dsimp only
  rw [nE (by decide), nE (by decide), nE (by decide), nE (by decide), nE (by decide), nE (by decide), nE (by decide), nE (by decide), nE (by decide), nE (by decide), if_pos (Z07 _), if_pos (n1)]
 ·unfold Z0d
  rw [if_neg (by decide), if_pos (by decide), if_pos (by rfl)]
  simp only [List.getD_cons_zero]
  rw [nE (by decide), nE (by decide), nE (by decide), nE (by decide), nE (by decide), nE (by decide), nE (by decide), nE (by decide), nE (by decide), nE (by decide), nE (by decide), nE (by decide), nE (by decide), nE (by decide), nE (by decide), if_pos (Z07 _)]
  dsimp only [Zqb, ZKy]
  rw [if_pos (by rw [e1]; exact o1), e1, o2]
theorem ZJV {p c a1 a2 b1 b2 d1 d2 : Int} (hf : Z6 p = true) (hc : isC c) (ha : Z5 p (a1, a2) = true) (hb : Z5 p (b1, b2) = true) (hd : Z5 p (d1, d2) = true) : Ans p c a1 a2 b1 b2 d1 d2 (bs [114, 105, 103, 104, 116, 115]) := by
 have e1 := (ZAf (p := p) (a1, a2) (b1, b2) (d1, d2)).1
 have n1 := (ZAf (p := p) (a1, a2) (b1, b2) (d1, d2)).2
 obtain ⟨o1, o2⟩ := ZF2 n1 (Z0s p (a1, a2) (b1, b2) (d1, d2)).2
 refine ⟨Z2O (Z0s p (a1, a2) (b1, b2) (d1, d2)).1.1 (Z0s p (a1, a2) (b1, b2) (d1, d2)).1.2, Z2O (Z0s p (a1, a2) (b1, b2) (d1, d2)).1.1 (Z0s p (a1, a2) (b1, b2) (d1, d2)).1.2, (Z0s p (a1, a2) (b1, b2) (d1, d2)).2, ?_, ?_, fun _ => ⟨rfl, ZnR n1⟩⟩
 ·unfold Z0q
  dsimp only
  rw [nE (by decide), nE (by decide), nE (by decide), nE (by decide), nE (by decide), nE (by decide), nE (by decide), nE (by decide), nE (by decide), nE (by decide), nE (by decide), if_pos (Z07 _), if_pos (n1)]
 ·unfold Z0d
  rw [if_neg (by decide), if_pos (by decide), if_pos (by rfl)]
  simp only [List.getD_cons_zero]
  rw [nE (by decide), nE (by decide), nE (by decide), nE (by decide), nE (by decide), nE (by decide), nE (by decide), nE (by decide), nE (by decide), nE (by decide), nE (by decide), nE (by decide), nE (by decide), nE (by decide), nE (by decide), nE (by decide), nE (by decide), if_pos (Z07 _)]
  dsimp only [Zqd, ZKA]
  rw [if_pos (by rw [e1]; exact o1), e1, o2]
theorem ZMu {p c a1 a2 b1 b2 d1 d2 : Int} (hf : Z6 p = true) (hc : isC c) (ha : Z5 p (a1, a2) = true) (hb : Z5 p (b1, b2) = true) (hd : Z5 p (d1, d2) = true) : Ans p c a1 a2 b1 b2 d1 d2 (bs [117, 110, 105, 116, 115]) := by
 have e1 := (ZEE hf).1
 have n1 := (ZEE hf).2
 obtain ⟨o1, o2⟩ := ZF2 n1 (Z0V p).2
 refine ⟨Z2O (Z0V p).1.1 (Z0V p).1.2, Z2O (Z0V p).1.1 (Z0V p).1.2, (Z0V p).2, ?_, ?_, fun _ => ⟨rfl, ZnR n1⟩⟩
 ·unfold Z0q
  dsimp only
  rw [nE (by decide), nE (by decide), nE (by decide), nE (by decide), nE (by decide), nE (by decide), nE (by decide), nE (by decide), nE (by decide), nE (by decide), nE (by decide), nE (by decide), if_pos (Z07 _), if_pos (n1)]
 ·unfold Z0d
  rw [if_neg (by decide), if_pos (by decide), if_pos (by rfl)]
  simp only [List.getD_cons_zero]
  rw [nE (by decide), nE (by decide), nE (by decide), nE (by decide), nE (by decide), nE (by decide), nE (by decide), nE (by decide), nE (by decide), nE (by decide), nE (by decide), nE (by decide), nE (by decide), nE (by decide), nE (by decide), nE (by decide), nE (by decide), nE (by decide), if_pos (Z07 _)]
  dsimp only [ZKB]
  rw [if_pos (by rw [e1]; exact o1), e1, o2]
theorem ZNu {p c a1 a2 b1 b2 d1 d2 : Int} (hf : Z6 p = true) (hc : isC c) (ha : Z5 p (a1, a2) = true) (hb : Z5 p (b1, b2) = true) (hd : Z5 p (d1, d2) = true) : Ans p c a1 a2 b1 b2 d1 d2 (bs [115, 105, 100, 101]) := by
 have e1 := (ZAc hf hb hd).1
 have n1 := (ZAc hf hb hd).2.1
 obtain ⟨o1, o2⟩ := ZsF n1 (ZT p (b1, b2) (d1, d2)).2
 refine ⟨Z2N (ZT p (b1, b2) (d1, d2)).1, Z2N (ZT p (b1, b2) (d1, d2)).1, (ZT p (b1, b2) (d1, d2)).2, ?_, ?_, fun _ => ⟨rfl, Zz5 n1⟩⟩
 ·have es : Z0U p c (a1, a2) (b1, b2) (d1, d2) (bs [115, 105, 100, 101]) = some ((1, [(ZT p (b1, b2) (d1, d2)).1.1, (ZT p (b1, b2) (d1, d2)).1.2.1, (ZT p (b1, b2) (d1, d2)).1.2.2]), (ZT p (b1, b2) (d1, d2)).2) := by
   unfold Z0U
   rw [if_pos (Z07 _)]
  have es1 := Z50 es
  have es2 := Z89 es
  unfold Z0q
  rw [nE (by decide), nE (by decide), nE (by decide), nE (by decide), nE (by decide), nE (by decide), nE (by decide), nE (by decide), nE (by decide), nE (by decide), nE (by decide), nE (by decide), nE (by decide), if_pos es1, es2, if_pos (Zz8 n1)]
  rfl
 ·unfold Z0d
  rw [if_neg (by decide), if_pos (by decide), if_pos (by rfl)]
  simp only [List.getD_cons_zero]
  rw [nE (by decide), nE (by decide), nE (by decide), if_pos (Z07 _)]
  dsimp only [ZIW, ZOe]
  rw [if_pos (by rw [e1]; exact o1), e1, o2]
theorem ZJT {p c a1 a2 b1 b2 d1 d2 : Int} (hf : Z6 p = true) (hc : isC c) (ha : Z5 p (a1, a2) = true) (hb : Z5 p (b1, b2) = true) (hd : Z5 p (d1, d2) = true) : Ans p c a1 a2 b1 b2 d1 d2 (bs [109, 101, 100, 105, 97, 110]) := by
 have e1 := (ZAd (p := p) (a1, a2) (b1, b2) (d1, d2)).1
 have n1 := (ZAd (p := p) (a1, a2) (b1, b2) (d1, d2)).2
 obtain ⟨o1, o2⟩ := ZsF n1 (Z2c p (a1, a2) (b1, b2) (d1, d2)).2
 refine ⟨Z2N (Z2c p (a1, a2) (b1, b2) (d1, d2)).1, Z2N (Z2c p (a1, a2) (b1, b2) (d1, d2)).1, (Z2c p (a1, a2) (b1, b2) (d1, d2)).2, ?_, ?_, fun _ => ⟨rfl, Zz5 n1⟩⟩
 ·have es : Z0U p c (a1, a2) (b1, b2) (d1, d2) (bs [109, 101, 100, 105, 97, 110]) = some ((1, [(Z2c p (a1, a2) (b1, b2) (d1, d2)).1.1, (Z2c p (a1, a2) (b1, b2) (d1, d2)).1.2.1, (Z2c p (a1, a2) (b1, b2) (d1, d2)).1.2.2]), (Z2c p (a1, a2) (b1, b2) (d1, d2)).2) := by
   unfold Z0U
   rw [nE (by decide), if_pos (Z07 _)]
  have es1 := Z50 es
  have es2 := Z89 es
  unfold Z0q
  rw [nE (by decide), nE (by decide), nE (by decide), nE (by decide), nE (by decide), nE (by decide), nE (by decide), nE (by decide), nE (by decide), nE (by decide), nE (by decide), nE (by decide), nE (by decide), if_pos es1, es2, if_pos (Zz8 n1)]
  rfl
 ·unfold Z0d
  rw [if_neg (by decide), if_pos (by decide), if_pos (by rfl)]
  simp only [List.getD_cons_zero]
  rw [nE (by decide), nE (by decide), nE (by decide), nE (by decide), nE (by decide), nE (by decide), nE (by decide), nE (by decide), nE (by decide), nE (by decide), if_pos (Z07 _)]
  dsimp only [ZBa, ZKt]
  rw [if_pos (by rw [e1]; exact o1), e1, o2]
theorem ZFY {p c a1 a2 b1 b2 d1 d2 : Int} (hf : Z6 p = true) (hc : isC c) (ha : Z5 p (a1, a2) = true) (hb : Z5 p (b1, b2) = true) (hd : Z5 p (d1, d2) = true) : Ans p c a1 a2 b1 b2 d1 d2 (bs [97, 108, 116, 105, 116, 117, 100, 101]) := by
 have e1 := (ZrS (p := p) (c := c) (a1, a2) (b1, b2) (d1, d2)).1
 have n1 := (ZrS (p := p) (c := c) (a1, a2) (b1, b2) (d1, d2)).2
 obtain ⟨o1, o2⟩ := ZsF n1 (Z1e p c (a1, a2) (b1, b2) (d1, d2)).2
 refine ⟨Z2N (Z1e p c (a1, a2) (b1, b2) (d1, d2)).1, Z2N (Z1e p c (a1, a2) (b1, b2) (d1, d2)).1, (Z1e p c (a1, a2) (b1, b2) (d1, d2)).2, ?_, ?_, fun _ => ⟨rfl, Zz5 n1⟩⟩
 ·have es : Z0U p c (a1, a2) (b1, b2) (d1, d2) (bs [97, 108, 116, 105, 116, 117, 100, 101]) = some ((1, [(Z1e p c (a1, a2) (b1, b2) (d1, d2)).1.1, (Z1e p c (a1, a2) (b1, b2) (d1, d2)).1.2.1, (Z1e p c (a1, a2) (b1, b2) (d1, d2)).1.2.2]), (Z1e p c (a1, a2) (b1, b2) (d1, d2)).2) := by
   unfold Z0U
   rw [nE (by decide), nE (by decide), if_pos (Z07 _)]
  have es1 := Z50 es
  have es2 := Z89 es
  unfold Z0q
  rw [nE (by decide), nE (by decide), nE (by decide), nE (by decide), nE (by decide), nE (by decide), nE (by decide), nE (by decide), nE (by decide), nE (by decide), nE (by decide), nE (by decide), nE (by decide), if_pos es1, es2, if_pos (Zz8 n1)]
  rfl
 ·unfold Z0d
  rw [if_neg (by decide), if_pos (by decide), if_pos (by rfl)]
  simp only [List.getD_cons_zero]
  rw [nE (by decide), nE (by decide), nE (by decide), nE (by decide), nE (by decide), nE (by decide), nE (by decide), nE (by decide), nE (by decide), nE (by decide), nE (by decide), if_pos (Z07 _)]
  dsimp only [ZBb, ZKu]
  rw [if_pos (by rw [e1]; exact o1), e1, o2]
theorem ZMq {p c a1 a2 b1 b2 d1 d2 : Int} (hf : Z6 p = true) (hc : isC c) (ha : Z5 p (a1, a2) = true) (hb : Z5 p (b1, b2) = true) (hd : Z5 p (d1, d2) = true) : Ans p c a1 a2 b1 b2 d1 d2 (bs [101, 117, 108, 101, 114]) := by
 have e1 := (ZEA (p := p) (c := c) (a1, a2) (b1, b2) (d1, d2)).1
 have n1 := (ZEA (p := p) (c := c) (a1, a2) (b1, b2) (d1, d2)).2
 obtain ⟨o1, o2⟩ := ZsF n1 (Z0H p c (a1, a2) (b1, b2) (d1, d2)).2
 refine ⟨Z2N (Z0H p c (a1, a2) (b1, b2) (d1, d2)).1, Z2N (Z0H p c (a1, a2) (b1, b2) (d1, d2)).1, (Z0H p c (a1, a2) (b1, b2) (d1, d2)).2, ?_, ?_, fun _ => ⟨rfl, Zz5 n1⟩⟩
 ·have es : Z0U p c (a1, a2) (b1, b2) (d1, d2) (bs [101, 117, 108, 101, 114]) = some ((1, [(Z0H p c (a1, a2) (b1, b2) (d1, d2)).1.1, (Z0H p c (a1, a2) (b1, b2) (d1, d2)).1.2.1, (Z0H p c (a1, a2) (b1, b2) (d1, d2)).1.2.2]), (Z0H p c (a1, a2) (b1, b2) (d1, d2)).2) := by
   unfold Z0U
   rw [nE (by decide), nE (by decide), nE (by decide), if_pos (Z07 _)]
  have es1 := Z50 es
  have es2 := Z89 es
  unfold Z0q
  rw [nE (by decide), nE (by decide), nE (by decide), nE (by decide), nE (by decide), nE (by decide), nE (by decide), nE (by decide), nE (by decide), nE (by decide), nE (by decide), nE (by decide), nE (by decide), if_pos es1, es2, if_pos (Zz8 n1)]
  rfl
 ·unfold Z0d
  rw [if_neg (by decide), if_pos (by decide), if_pos (by rfl)]
  simp only [List.getD_cons_zero]
  rw [nE (by decide), nE (by decide), nE (by decide), nE (by decide), nE (by decide), nE (by decide), nE (by decide), nE (by decide), nE (by decide), nE (by decide), nE (by decide), nE (by decide), if_pos (Z07 _)]
  dsimp only [ZBc, ZKv]
  rw [if_pos (by rw [e1]; exact o1), e1, o2]
theorem ZNs {p c a1 a2 b1 b2 d1 d2 : Int} (hf : Z6 p = true) (hc : isC c) (ha : Z5 p (a1, a2) = true) (hb : Z5 p (b1, b2) = true) (hd : Z5 p (d1, d2) = true) : Ans p c a1 a2 b1 b2 d1 d2 (bs [110, 117, 108, 108]) := by
 have e1 := (ZEB hf hc ha).1
 have n1 := (ZEB hf hc ha).2
 obtain ⟨o1, o2⟩ := ZJ4 n1 (Z1x p c (a1, a2)).2
 refine ⟨Z55 (Z1x p c (a1, a2)).1.1 (Z1x p c (a1, a2)).1.2, Z55 (Z1x p c (a1, a2)).1.1 (Z1x p c (a1, a2)).1.2, (Z1x p c (a1, a2)).2, ?_, ?_, fun _ => ⟨rfl, ZJ0 n1⟩⟩
 ·have es : Z0U p c (a1, a2) (b1, b2) (d1, d2) (bs [110, 117, 108, 108]) = some (((Z1x p c (a1, a2)).1.1, (Z1x p c (a1, a2)).1.2), (Z1x p c (a1, a2)).2) := by
   unfold Z0U
   rw [nE (by decide), nE (by decide), nE (by decide), nE (by decide), if_pos (Z07 _)]
  have es1 := Z50 es
  have es2 := Z89 es
  unfold Z0q
  rw [nE (by decide), nE (by decide), nE (by decide), nE (by decide), nE (by decide), nE (by decide), nE (by decide), nE (by decide), nE (by decide), nE (by decide), nE (by decide), nE (by decide), nE (by decide), if_pos es1, es2, if_pos (n1)]
 ·unfold Z0d
  rw [if_neg (by decide), if_pos (by decide), if_pos (by rfl)]
  simp only [List.getD_cons_zero]
  rw [nE (by decide), nE (by decide), nE (by decide), nE (by decide), nE (by decide), if_pos (Z07 _)]
  dsimp only [Zq9, ZKp]
  rw [if_pos (by rw [e1]; exact o1), e1, o2]
theorem ZJS {p c a1 a2 b1 b2 d1 d2 : Int} (hf : Z6 p = true) (hc : isC c) (ha : Z5 p (a1, a2) = true) (hb : Z5 p (b1, b2) = true) (hd : Z5 p (d1, d2) = true) : Ans p c a1 a2 b1 b2 d1 d2 (bs [101, 117, 108, 101, 114, 115]) := by
 have e1 := (ZED (p := p) (a1, a2) (b1, b2) (d1, d2)).1
 have n1 := (ZED (p := p) (a1, a2) (b1, b2) (d1, d2)).2
 obtain ⟨o1, o2⟩ := ZJ4 n1 (Z03 p (a1, a2) (b1, b2) (d1, d2)).2
 refine ⟨Z55 (Z03 p (a1, a2) (b1, b2) (d1, d2)).1.1 (Z03 p (a1, a2) (b1, b2) (d1, d2)).1.2, Z55 (Z03 p (a1, a2) (b1, b2) (d1, d2)).1.1 (Z03 p (a1, a2) (b1, b2) (d1, d2)).1.2, (Z03 p (a1, a2) (b1, b2) (d1, d2)).2, ?_, ?_, fun _ => ⟨rfl, ZJ0 n1⟩⟩
 ·have es : Z0U p c (a1, a2) (b1, b2) (d1, d2) (bs [101, 117, 108, 101, 114, 115]) = some (((Z03 p (a1, a2) (b1, b2) (d1, d2)).1.1, (Z03 p (a1, a2) (b1, b2) (d1, d2)).1.2), (Z03 p (a1, a2) (b1, b2) (d1, d2)).2) := by
   unfold Z0U
   rw [nE (by decide), nE (by decide), nE (by decide), nE (by decide), nE (by decide), if_pos (Z07 _)]
  have es1 := Z50 es
  have es2 := Z89 es
  unfold Z0q
  rw [nE (by decide), nE (by decide), nE (by decide), nE (by decide), nE (by decide), nE (by decide), nE (by decide), nE (by decide), nE (by decide), nE (by decide), nE (by decide), nE (by decide), nE (by decide), if_pos es1, es2, if_pos (n1)]
 ·unfold Z0d
  rw [if_neg (by decide), if_pos (by decide), if_pos (by rfl)]
  simp only [List.getD_cons_zero]
  rw [nE (by decide), nE (by decide), nE (by decide), nE (by decide), nE (by decide), nE (by decide), nE (by decide), nE (by decide), nE (by decide), nE (by decide), nE (by decide), nE (by decide), nE (by decide), nE (by decide), nE (by decide), nE (by decide), if_pos (Z07 _)]
  dsimp only [Zqc, ZKz]
  rw [if_pos (by rw [e1]; exact o1), e1, o2]
theorem ZPX {c : Int} (hc : isC c) : num1 c = true := by rcases hc with rfl | rfl | rfl <;> rfl
theorem ZNt {p c a1 a2 b1 b2 d1 d2 : Int} (hf : Z6 p = true) (hc : isC c) (ha : Z5 p (a1, a2) = true) (hb : Z5 p (b1, b2) = true) (hd : Z5 p (d1, d2) = true) : Ans p c a1 a2 b1 b2 d1 d2 (bs [115, 104, 111, 119]) := by
 have n1 : ptsB 3 [a1, a2, b1, b2, d1, d2] = true := by
  have x := Z7h hf ha; have y := Z7h hf hb; have z := Z7h hf hd
  unfold num2 at x y z
  simp only [Bool.and_eq_true] at x y z
  simp [ptsB, lenB, x.1, x.2, y.1, y.2, z.1, z.2]
 refine ⟨Z17 3 [a1, a2, b1, b2, d1, d2], Z17 3 [a1, a2, b1, b2, d1, d2], 0, ?_, ?_, fun _ => ⟨rfl, Zn8 n1⟩⟩
 ·unfold Z0q
  dsimp only
  rw [if_pos (Z07 _), if_pos n1]
 ·unfold Z0d
  rw [if_neg (by decide), if_pos (by decide), if_pos (by rfl)]
  simp only [List.getD_cons_zero]
  rw [if_pos (Z07 _)]
  dsimp only [ZPV]
  rw [if_pos n1]
  rfl
theorem ZMr {p c a1 a2 b1 b2 d1 d2 : Int} (hf : Z6 p = true) (hc : isC c) (ha : Z5 p (a1, a2) = true) (hb : Z5 p (b1, b2) = true) (hd : Z5 p (d1, d2) = true) : Ans p c a1 a2 b1 b2 d1 d2 (bs [102, 105, 101, 108, 100]) := by
 have n1 : numB 2 [p, c] = true := by
  have x : num1 p = true := by rw [Zjj]; have := Zep hf; omega
  simp [numB, lenB, x, ZPX hc]
 refine ⟨Z2O 2 [p, c], Z2O 2 [p, c], 0, ?_, ?_, fun _ => ⟨rfl, ZnR n1⟩⟩
 ·unfold Z0q
  rw [nE (by decide), if_pos (Z07 _), if_pos n1]
 ·unfold Z0d
  rw [if_neg (by decide), if_pos (by decide), if_pos (by rfl)]
  simp only [List.getD_cons_zero]
  rw [nE (by decide), if_pos (Z07 _)]
  try dsimp only
  rw [if_pos n1]
  rfl
theorem ZA7 {p c a1 a2 b1 b2 d1 d2 : Int} (hf : Z6 p = true) (hc : isC c) (ha : Z5 p (a1, a2) = true) (hb : Z5 p (b1, b2) = true) (hd : Z5 p (d1, d2) = true) : Ans p c a1 a2 b1 b2 d1 d2 (bs [113, 117, 97, 100, 114, 97, 110, 99, 101, 115]) := by
 have hp : prB p = true := ZfX hf
 have q1 := Z6G hf hc hb hd; have q2 := Z6G hf hc ha hd; have q3 := Z6G hf hc ha hb
 have n1 : numB 3 [Zp p c (b1, b2) (d1, d2), Zp p c (a1, a2) (d1, d2), Zp p c (a1, a2) (b1, b2)] = true := by
  have g : ∀ x y : P2, num1 (ZA p c x y) = true := fun x y => ZOB hf c x y
  rw [q1, q2, q3]
  simp [numB, lenB, g]
 refine ⟨Z2O 3 _, Z2O 3 _, 0, ?_, ?_, fun _ => ⟨rfl, ZnR n1⟩⟩
 ·unfold Z0q
  rw [nE (by decide), nE (by decide), nE (by decide), if_pos (Z07 _), if_pos hp, if_pos hp, if_pos hp, if_pos n1]
 ·unfold Z0d
  rw [if_neg (by decide), if_pos (by decide), if_pos (by rfl)]
  simp only [List.getD_cons_zero]
  rw [nE (by decide), nE (by decide), nE (by decide), nE (by decide), if_pos (Z07 _)]
  dsimp only [ZKm, ZKn, ZKo, ZOb]
  rw [if_pos hp, if_pos hp, if_pos hp, if_pos (by rw [<- q1, <- q2, <- q3]; exact n1), <- q1, <- q2, <- q3]
  rfl
theorem ZMt {p c a1 a2 b1 b2 d1 d2 : Int} (hf : Z6 p = true) (hc : isC c) (ha : Z5 p (a1, a2) = true) (hb : Z5 p (b1, b2) = true) (hd : Z5 p (d1, d2) = true) : Ans p c a1 a2 b1 b2 d1 d2 (bs [114, 105, 103, 104, 116]) := by
 have hp : prB p = true := ZfX hf
 have e1 := ZMB hf hc ha hb hd
 refine ⟨Zjw (Z6E p c (a1, a2) (b1, b2) (d1, d2)), Zjw (Z6E p c (a1, a2) (b1, b2) (d1, d2)), 0, ?_, ?_, fun _ => ⟨rfl, ?_⟩⟩
 ·unfold Z0q
  rw [nE (by decide), nE (by decide), nE (by decide), nE (by decide), if_pos (Z07 _), e1]
 ·unfold Z0d
  rw [if_neg (by decide), if_pos (by decide), if_pos (by rfl)]
  simp only [List.getD_cons_zero]
  rw [nE (by decide), nE (by decide), nE (by decide), nE (by decide), nE (by decide), nE (by decide), if_pos (Z07 _)]
  dsimp only [ZOc]
  rw [if_pos hp]
  by_cases hr : Z6E p c (a1, a2) (b1, b2) (d1, d2) = true
  ·rw [if_pos hr, hr]
   rfl
  ·rw [if_neg hr, Bool.eq_false_iff.2 hr]
   rfl
 ·cases Z6E p c (a1, a2) (b1, b2) (d1, d2) <;> exact ⟨by decide, fun e => absurd (congrArg toL e) (by decide)⟩
theorem ZJR {p c a1 a2 b1 b2 d1 d2 : Int} (hf : Z6 p = true) (hc : isC c) (ha : Z5 p (a1, a2) = true) (hb : Z5 p (b1, b2) = true) (hd : Z5 p (d1, d2) = true) : Ans p c a1 a2 b1 b2 d1 d2 (bs [99, 105, 114, 99, 108, 101]) := by
 have e1 := (ZAb (p := p) (c := c) (a1, a2) (b1, b2) (d1, d2)).1
 have n1 := (ZAb (p := p) (c := c) (a1, a2) (b1, b2) (d1, d2)).2
 have h3 := n1
 unfold num3 at h3
 simp only [Bool.and_eq_true] at h3
 have m1 : num2 ((ZC p c (a1, a2) (b1, b2) (d1, d2)).1.1, (ZC p c (a1, a2) (b1, b2) (d1, d2)).1.2.1) = true := Zkr h3.1 h3.2.1
 have m2 : num1 (ZC p c (a1, a2) (b1, b2) (d1, d2)).1.2.2 = true := h3.2.2
 have m3 : (numB 1 [(ZC p c (a1, a2) (b1, b2) (d1, d2)).1.2.2] && Nat.ble (bs [32]).size 10) = true := by
  have hn : numB 1 [(ZC p c (a1, a2) (b1, b2) (d1, d2)).1.2.2] = true := by simp [numB, lenB, m2]
  rw [hn]
  rfl
 have z1 := Zdv m1; have z2 := ZsS (Z7D m2)
 have s1 : Nat.ble ((Z02 ((ZC p c (a1, a2) (b1, b2) (d1, d2)).1.1, (ZC p c (a1, a2) (b1, b2) (d1, d2)).1.2.1)).size + (bs [32]).size) 9223372036854775807 = true := ZgB (Nat.le_trans z1 (by decide)) (by decide)
 have s2 : Nat.ble ((Z02 ((ZC p c (a1, a2) (b1, b2) (d1, d2)).1.1, (ZC p c (a1, a2) (b1, b2) (d1, d2)).1.2.1) ++ bs [32]).size + (Z01 (ZC p c (a1, a2) (b1, b2) (d1, d2)).1.2.2).size) 9223372036854775807 = true := ZgB (by rw [Z1a]; have : (bs [32]).size = 1 := rfl; have := z1; show (Z02 _).size + (bs [32]).size <= _; unfold Z02; omega) (Nat.le_trans z2 (by decide))
 refine ⟨Z02 ((ZC p c (a1, a2) (b1, b2) (d1, d2)).1.1, (ZC p c (a1, a2) (b1, b2) (d1, d2)).1.2.1) ++ bs [32] ++ Z01 (ZC p c (a1, a2) (b1, b2) (d1, d2)).1.2.2, Z02 ((ZC p c (a1, a2) (b1, b2) (d1, d2)).1.1, (ZC p c (a1, a2) (b1, b2) (d1, d2)).1.2.1) ++ bs [32] ++ Z01 (ZC p c (a1, a2) (b1, b2) (d1, d2)).1.2.2, (ZC p c (a1, a2) (b1, b2) (d1, d2)).2, ?_, ?_, fun _ => ⟨rfl, ?_⟩⟩
 ·unfold Z0q
  rw [nE (by decide), nE (by decide), nE (by decide), nE (by decide), nE (by decide), nE (by decide), nE (by decide), nE (by decide), if_pos (Z07 _), if_pos m1, if_pos s1, if_pos (Z7D m2), if_pos s2]
 ·unfold Z0d
  rw [if_neg (by decide), if_pos (by decide), if_pos (by rfl)]
  simp only [List.getD_cons_zero]
  rw [nE (by decide), nE (by decide), nE (by decide), nE (by decide), nE (by decide), nE (by decide), nE (by decide), nE (by decide), nE (by decide), nE (by decide), nE (by decide), nE (by decide), nE (by decide), nE (by decide), if_pos (Z07 _)]
  dsimp only [ZmS, ZGV, ZKx]
  rw [if_pos (by rw [e1]; exact m1), if_pos (by rw [e1]; exact s1), if_pos (by rw [e1]; exact m3), if_pos (by rw [e1]; exact s2), e1]
  rfl
 ·refine ⟨?_, Zsw ?_⟩
  ·rw [Z1a, Z1a]
   have : (bs [32]).size = 1 := rfl
   have z1' : (Z02 ((ZC p c (a1, a2) (b1, b2) (d1, d2)).1.1, (ZC p c (a1, a2) (b1, b2) (d1, d2)).1.2.1)).size <= 100 := z1
   omega
  ·intro x hx
   rw [Zec, Zec] at hx
   rcases List.mem_append.1 hx with hx | hx
   ·rcases List.mem_append.1 hx with hx | hx
    ·exact ZPZ _ x hx
    ·rw [List.mem_singleton.1 hx]; decide
   ·exact ZAi _ x hx

def Res (s : Option (Dk × ByteArray × Int)) (D : Dk) (n : Nat) (l : List ByteArray) : Prop :=
 (∃ D1 D2 t1 t2 k1 k2, s = some (D1, t1, k1) /\ Z0f D n l = some (t2, k2, true, D2) /\ (k1 = 0 ↔ k2 = 0) /\ (k1 = 0 -> D1 = D2 /\ t1 = t2 /\ TX t1 /\ Z0n D1 = true)) \/
 (∃ t1 t2 k, s = some (D, t1, k) /\ Z0f D n l = some (bs [], 0, false, D) /\ Z0d D n l = some (t2, k, D) /\ (k = 0 -> t1 = t2 /\ TX t1))
theorem Zkq {p c a1 a2 b1 b2 d1 d2 : Int} (hf : Z6 p = true) (hc : isC c) (ha : Z5 p (a1, a2) = true) (hb : Z5 p (b1, b2) = true) (hd : Z5 p (d1, d2) = true) : Z0n (p, c, a1, a2, b1, b2, d1, d2) = true := by
 unfold Z0n
 dsimp only
 rw [if_pos hf, if_pos (Z8B hc)]
 simp [ZE, ha, hb, hd]
theorem ZLT {p c a1 a2 b1 b2 d1 d2 : Int} (h : Z0n (p, c, a1, a2, b1, b2, d1, d2) = true) : Z6 p = true /\ isC c /\ Z5 p (a1, a2) = true /\ Z5 p (b1, b2) = true /\ Z5 p (d1, d2) = true := by
 unfold Z0n at h
 dsimp only at h
 by_cases hf : Z6 p = true
 ·rw [if_pos hf] at h
  by_cases hc : Z05 c = true
  ·rw [if_pos hc] at h
   simp [ZE] at h
   exact ⟨hf, ZKk hc, h⟩
  ·rw [if_neg hc] at h
   cases h
 ·rw [if_neg hf] at h
  cases h
theorem Zus {x : P2} (h : num2 x = true) (k : Int) (D : Dk) : Z1Z x k D = true /\ Z2J x k D = (Z1D x, k, true, D.1, D.2.1, x.1, x.2, D.2.2.2.2) := by
 have e : Z4v x k D = some (Z1D x, k, true, D.1, D.2.1, x.1, x.2, D.2.2.2.2) := by
  unfold Z4v
  rw [if_pos h]
 exact ⟨ZsA e, ZB2 e⟩
theorem put0 {p c a1 a2 b1 b2 d1 d2 : Int} {x : P2} (h : num2 x = true) (k : Int) : Z29 (p, c, a1, a2, b1, b2, d1, d2) 0 x k = true /\ Z0S (p, c, a1, a2, b1, b2, d1, d2) 0 x k = (if k = 0 then ((p, c, x.1, x.2, b1, b2, d1, d2), Z02 x, 0) else ((p, c, a1, a2, b1, b2, d1, d2), bs [], k)) := by
 have e : Z3K (p, c, a1, a2, b1, b2, d1, d2) 0 x k = some (if k = 0 then ((p, c, x.1, x.2, b1, b2, d1, d2), Z02 x, 0) else ((p, c, a1, a2, b1, b2, d1, d2), bs [], k)) := by
  unfold Z3K
  by_cases hk : k = 0
  ·subst hk
   rw [if_neg (by decide), if_pos (by decide), if_pos (by decide), if_pos h]
   rfl
  ·rw [if_pos (bne_iff_ne.2 hk), if_neg hk]
 exact ⟨ZgS e, Znj e⟩
theorem put1 {p c a1 a2 b1 b2 d1 d2 : Int} {x : P2} (h : num2 x = true) (k : Int) : Z29 (p, c, a1, a2, b1, b2, d1, d2) 1 x k = true /\ Z0S (p, c, a1, a2, b1, b2, d1, d2) 1 x k = (if k = 0 then ((p, c, a1, a2, x.1, x.2, d1, d2), Z02 x, 0) else ((p, c, a1, a2, b1, b2, d1, d2), bs [], k)) := by
 have e : Z3K (p, c, a1, a2, b1, b2, d1, d2) 1 x k = some (if k = 0 then ((p, c, a1, a2, x.1, x.2, d1, d2), Z02 x, 0) else ((p, c, a1, a2, b1, b2, d1, d2), bs [], k)) := by
  unfold Z3K
  by_cases hk : k = 0
  ·subst hk
   rw [if_neg (by decide), if_pos (by decide), if_pos (by decide), if_pos h]
   rfl
  ·rw [if_pos (bne_iff_ne.2 hk), if_neg hk]
 exact ⟨ZgS e, Znj e⟩
theorem put2 {p c a1 a2 b1 b2 d1 d2 : Int} {x : P2} (h : num2 x = true) (k : Int) : Z29 (p, c, a1, a2, b1, b2, d1, d2) 2 x k = true /\ Z0S (p, c, a1, a2, b1, b2, d1, d2) 2 x k = (if k = 0 then ((p, c, a1, a2, b1, b2, x.1, x.2), Z02 x, 0) else ((p, c, a1, a2, b1, b2, d1, d2), bs [], k)) := by
 have e : Z3K (p, c, a1, a2, b1, b2, d1, d2) 2 x k = some (if k = 0 then ((p, c, a1, a2, b1, b2, x.1, x.2), Z02 x, 0) else ((p, c, a1, a2, b1, b2, d1, d2), bs [], k)) := by
  unfold Z3K
  by_cases hk : k = 0
  ·subst hk
   rw [if_neg (by decide), if_pos (by decide), if_pos (by decide), if_pos h]
   rfl
  ·rw [if_pos (bne_iff_ne.2 hk), if_neg hk]
 exact ⟨ZgS e, Znj e⟩
theorem ZsR {p c a1 a2 b1 b2 d1 d2 : Int} (hf : Z6 p = true) (hc : isC c) (ha : Z5 p (a1, a2) = true) (hb : Z5 p (b1, b2) = true) (hd : Z5 p (d1, d2) = true) {x : P2} (k : Int) (h : num2 x = true) (hx : Z5 p x = true) : ∃ D1 D2 t1 t2, some ((Z0S (p, c, a1, a2, b1, b2, d1, d2) 0 x k).1, (Z0S (p, c, a1, a2, b1, b2, d1, d2) 0 x k).2.1, (Z0S (p, c, a1, a2, b1, b2, d1, d2) 0 x k).2.2) = some (D1, t1, k) /\ some (Z2J x k (p, c, a1, a2, b1, b2, d1, d2)) = some (t2, k, true, D2) /\ (k = 0 -> D1 = D2 /\ t1 = t2 /\ TX t1 /\ Z0n D1 = true) := by
 rw [(put0 h k).2, (Zus h k _).2]
 by_cases hk : k = 0
 ·subst hk
  rw [if_pos rfl]
  exact ⟨_, _, _, _, rfl, rfl, fun _ => ⟨rfl, rfl, ZsK h, Zkq hf hc hx hb hd⟩⟩
 ·rw [if_neg hk]
  exact ⟨_, _, _, _, rfl, rfl, fun q => absurd q hk⟩
theorem ZNH {p c a1 a2 b1 b2 d1 d2 : Int} (hf : Z6 p = true) (hc : isC c) (ha : Z5 p (a1, a2) = true) (hb : Z5 p (b1, b2) = true) (hd : Z5 p (d1, d2) = true) : Res (Z0h (p, c, a1, a2, b1, b2, d1, d2) (bs [116, 117, 114, 110])) (p, c, a1, a2, b1, b2, d1, d2) 1 [bs [116, 117, 114, 110]] := by
 have n1 : ptsB 3 [b1, b2, d1, d2, a1, a2] = true := by
  have x := Z7h hf ha; have y := Z7h hf hb; have z := Z7h hf hd
  unfold num2 at x y z
  simp only [Bool.and_eq_true] at x y z
  simp [ptsB, lenB, x.1, x.2, y.1, y.2, z.1, z.2]
 refine .inl ⟨(p, c, b1, b2, d1, d2, a1, a2), (p, c, b1, b2, d1, d2, a1, a2), Z17 3 [b1, b2, d1, d2, a1, a2], Z17 3 [b1, b2, d1, d2, a1, a2], 0, 0, ?_, ?_, Iff.rfl, fun _ => ⟨rfl, rfl, Zn8 n1, Zkq hf hc hb hd ha⟩⟩
 ·unfold Z0h
  rw [if_pos (Z07 _)]
  try dsimp only
  rw [if_pos n1]
 ·unfold Z0f
  rw [if_pos (by decide), if_pos (by decide), if_pos (by rfl)]
  simp only [List.getD_cons_zero]
  rw [if_pos (Z07 _)]
  try dsimp only [ZPO]
  rw [if_pos n1]
  rfl
theorem ZJZ {p c a1 a2 b1 b2 d1 d2 : Int} (hf : Z6 p = true) (hc : isC c) (ha : Z5 p (a1, a2) = true) (hb : Z5 p (b1, b2) = true) (hd : Z5 p (d1, d2) = true) : Res (Z0h (p, c, a1, a2, b1, b2, d1, d2) (bs [109, 105, 100, 100, 108, 101])) (p, c, a1, a2, b1, b2, d1, d2) 1 [bs [109, 105, 100, 100, 108, 101]] := by
 have e1 := (ZLd hf ha hb).1
 have n1 := (ZLd hf ha hb).2
 obtain ⟨D1, D2, t1, t2, h1, h2, h3⟩ := ZsR hf hc ha hb hd (Z1w p (a1, a2) (b1, b2)).2 n1 (ZQs hf ha hb)
 refine .inl ⟨D1, D2, t1, t2, _, _, ?_, ?_, Iff.rfl, h3⟩
 ·unfold Z0h
  rw [nE (by decide), if_pos (Z07 _)]
  try dsimp only
  rw [if_pos (put0 n1 _).1]
  exact h1
 ·unfold Z0f
  rw [if_pos (by decide), if_pos (by decide), if_pos (by rfl)]
  simp only [List.getD_cons_zero]
  rw [nE (by decide), if_pos (Z07 _)]
  try dsimp only [ZIR, ZPP]
  rw [if_pos (by rw [e1]; exact (Zus n1 _ _).1), e1]
  exact h2
theorem ZJY {p c a1 a2 b1 b2 d1 d2 : Int} (hf : Z6 p = true) (hc : isC c) (ha : Z5 p (a1, a2) = true) (hb : Z5 p (b1, b2) = true) (hd : Z5 p (d1, d2) = true) : Res (Z0h (p, c, a1, a2, b1, b2, d1, d2) (bs [99, 101, 110, 116, 114, 101])) (p, c, a1, a2, b1, b2, d1, d2) 1 [bs [99, 101, 110, 116, 114, 101]] := by
 have e1 := (ZpN (p := p) (c := c) (a1, a2) (b1, b2) (d1, d2)).1
 have n1 := (ZpN (p := p) (c := c) (a1, a2) (b1, b2) (d1, d2)).2
 obtain ⟨D1, D2, t1, t2, h1, h2, h3⟩ := ZsR hf hc ha hb hd (Z0E p c (a1, a2) (b1, b2) (d1, d2)).2 n1 (ZN3 (c := c) hf (a1, a2) (b1, b2) (d1, d2))
 refine .inl ⟨D1, D2, t1, t2, _, _, ?_, ?_, Iff.rfl, h3⟩
 ·unfold Z0h
  rw [nE (by decide), nE (by decide), nE (by decide), if_pos (Z07 _)]
  try dsimp only
  rw [if_pos (put0 n1 _).1]
  exact h1
 ·unfold Z0f
  rw [if_pos (by decide), if_pos (by decide), if_pos (by rfl)]
  simp only [List.getD_cons_zero]
  rw [nE (by decide), nE (by decide), nE (by decide), if_pos (Z07 _)]
  try dsimp only [ZIT, ZPQ]
  rw [if_pos (by rw [e1]; exact (Zus n1 _ _).1), e1]
  exact h2
theorem ZNG {p c a1 a2 b1 b2 d1 d2 : Int} (hf : Z6 p = true) (hc : isC c) (ha : Z5 p (a1, a2) = true) (hb : Z5 p (b1, b2) = true) (hd : Z5 p (d1, d2) = true) : Res (Z0h (p, c, a1, a2, b1, b2, d1, d2) (bs [104, 105, 103, 104])) (p, c, a1, a2, b1, b2, d1, d2) 1 [bs [104, 105, 103, 104]] := by
 have e1 := (Zut (p := p) (c := c) (a1, a2) (b1, b2) (d1, d2)).1
 have n1 := (Zut (p := p) (c := c) (a1, a2) (b1, b2) (d1, d2)).2
 obtain ⟨D1, D2, t1, t2, h1, h2, h3⟩ := ZsR hf hc ha hb hd (Z0N p c (a1, a2) (b1, b2) (d1, d2)).2 n1 (ZOy (c := c) hf (a1, a2) (b1, b2) (d1, d2))
 refine .inl ⟨D1, D2, t1, t2, _, _, ?_, ?_, Iff.rfl, h3⟩
 ·unfold Z0h
  rw [nE (by decide), nE (by decide), nE (by decide), nE (by decide), if_pos (Z07 _)]
  try dsimp only
  rw [if_pos (put0 n1 _).1]
  exact h1
 ·unfold Z0f
  rw [if_pos (by decide), if_pos (by decide), if_pos (by rfl)]
  simp only [List.getD_cons_zero]
  rw [nE (by decide), nE (by decide), nE (by decide), nE (by decide), if_pos (Z07 _)]
  try dsimp only [ZIU, ZPR]
  rw [if_pos (by rw [e1]; exact (Zus n1 _ _).1), e1]
  exact h2
theorem ZNF {p c a1 a2 b1 b2 d1 d2 : Int} (hf : Z6 p = true) (hc : isC c) (ha : Z5 p (a1, a2) = true) (hb : Z5 p (b1, b2) = true) (hd : Z5 p (d1, d2) = true) : Res (Z0h (p, c, a1, a2, b1, b2, d1, d2) (bs [102, 111, 111, 116])) (p, c, a1, a2, b1, b2, d1, d2) 1 [bs [102, 111, 111, 116]] := by
 obtain ⟨e0, m0, l0⟩ := ZAc hf hb hd
 by_cases hk : (ZT p (b1, b2) (d1, d2)).2 = 0
 ·have hl := l0 hk
  have e1 := (ZI8 hf hc ha hl).1
  have n1 := (ZI8 hf hc ha hl).2
  have x1 : Z5 p (Z5a p c (a1, a2) (ZT p (b1, b2) (d1, d2)).1).1 = true := by rw [<- e1]; exact ZPk hf
  obtain ⟨D1, D2, t1, t2, h1, h2, h3⟩ := ZsR hf hc ha hb hd (Z5a p c (a1, a2) (ZT p (b1, b2) (d1, d2)).1).2 n1 x1
  refine .inl ⟨D1, D2, t1, t2, _, _, ?_, ?_, Iff.rfl, h3⟩
  ·unfold Z0h
   rw [nE (by decide), nE (by decide), if_pos (Z07 _)]
   try dsimp only
   rw [if_neg (by rw [hk]; decide), if_pos (put0 n1 _).1]
   exact h1
  ·unfold Z0f
   rw [if_pos (by decide), if_pos (by decide), if_pos (by rfl)]
   simp only [List.getD_cons_zero]
   rw [nE (by decide), nE (by decide), if_pos (Z07 _)]
   try dsimp only [ZIS, ZEW, ZOa]
   rw [if_neg (by rw [e0, hk]; decide), if_pos (by rw [e0, e1]; exact (Zus n1 _ _).1), e0, e1]
   exact h2
 ·refine .inl ⟨(p, c, a1, a2, b1, b2, d1, d2), (p, c, a1, a2, b1, b2, d1, d2), bs [], bs [], (ZT p (b1, b2) (d1, d2)).2, (ZT p (b1, b2) (d1, d2)).2, ?_, ?_, Iff.rfl, fun q => absurd q hk⟩
  ·unfold Z0h
   rw [nE (by decide), nE (by decide), if_pos (Z07 _)]
   try dsimp only
   rw [if_pos (bne_iff_ne.2 hk)]
  ·unfold Z0f
   rw [if_pos (by decide), if_pos (by decide), if_pos (by rfl)]
   simp only [List.getD_cons_zero]
   rw [nE (by decide), nE (by decide), if_pos (Z07 _)]
   try dsimp only [ZIS, ZEW, ZOa]
   rw [if_pos (by rw [e0]; exact bne_iff_ne.2 hk), e0]
theorem ZMy {p c a1 a2 b1 b2 d1 d2 : Int} (hf : Z6 p = true) (hc : isC c) (ha : Z5 p (a1, a2) = true) (hb : Z5 p (b1, b2) = true) (hd : Z5 p (d1, d2) = true) : Res (Z0h (p, c, a1, a2, b1, b2, d1, d2) (bs [114, 101, 115, 101, 116])) (p, c, a1, a2, b1, b2, d1, d2) 1 [bs [114, 101, 115, 101, 116]] := by
 refine .inl ⟨Zn 7, Zn 7, bs [111, 107], bs [111, 107], 0, 0, ?_, ?_, Iff.rfl, fun _ => ⟨rfl, rfl, ⟨by decide, fun e => absurd (congrArg toL e) (by decide)⟩, by decide⟩⟩
 ·unfold Z0h
  rw [nE (by decide), nE (by decide), nE (by decide), nE (by decide), nE (by decide), if_pos (Z07 _)]
  try dsimp only
  try rfl
 ·unfold Z0f
  rw [if_pos (by decide), if_pos (by decide), if_pos (by rfl)]
  simp only [List.getD_cons_zero]
  rw [nE (by decide), nE (by decide), nE (by decide), nE (by decide), nE (by decide), if_pos (Z07 _)]
  try dsimp only
  rfl
theorem ZPd {p c a1 a2 b1 b2 d1 d2 : Int} {w : ByteArray} (g0 : ¬ eqS w (bs [116, 117, 114, 110]) = true) (g1 : ¬ eqS w (bs [109, 105, 100, 100, 108, 101]) = true) (g2 : ¬ eqS w (bs [102, 111, 111, 116]) = true) (g3 : ¬ eqS w (bs [99, 101, 110, 116, 114, 101]) = true) (g4 : ¬ eqS w (bs [104, 105, 103, 104]) = true) (g5 : ¬ eqS w (bs [114, 101, 115, 101, 116]) = true) (h : Ans p c a1 a2 b1 b2 d1 d2 w) : Res (Z0h (p, c, a1, a2, b1, b2, d1, d2) w) (p, c, a1, a2, b1, b2, d1, d2) 1 [w] := by
 obtain ⟨t1, t2, k, e1, e2, e3⟩ := h
 refine .inr ⟨t1, t2, k, ?_, ?_, e2, e3⟩
 ·unfold Z0h
  rw [if_neg g0, if_neg g1, if_neg g2, if_neg g3, if_neg g4, if_neg g5]
  dsimp only
  rw [if_pos (ZBt e1), ZJm e1]
 ·unfold Z0f
  rw [if_pos (by decide), if_pos (by decide), if_pos (by rfl)]
  simp only [List.getD_cons_zero]
  rw [if_neg g0, if_neg g1, if_neg g2, if_neg g3, if_neg g4, if_neg g5]
theorem ZNr {p c a1 a2 b1 b2 d1 d2 : Int} {w : ByteArray} (g_show : ¬ eqS w (bs [115, 104, 111, 119]) = true) (g_field : ¬ eqS w (bs [102, 105, 101, 108, 100]) = true) (g_area : ¬ eqS w (bs [97, 114, 101, 97]) = true) (g_quadrances : ¬ eqS w (bs [113, 117, 97, 100, 114, 97, 110, 99, 101, 115]) = true) (g_right : ¬ eqS w (bs [114, 105, 103, 104, 116]) = true) (g_spread : ¬ eqS w (bs [115, 112, 114, 101, 97, 100]) = true) (g_quadrea : ¬ eqS w (bs [113, 117, 97, 100, 114, 101, 97]) = true) (g_centroid : ¬ eqS w (bs [99, 101, 110, 116, 114, 111, 105, 100]) = true) (g_circle : ¬ eqS w (bs [99, 105, 114, 99, 108, 101]) = true) (g_orthic : ¬ eqS w (bs [111, 114, 116, 104, 105, 99]) = true) (g_omega : ¬ eqS w (bs [111, 109, 101, 103, 97]) = true) (g_rights : ¬ eqS w (bs [114, 105, 103, 104, 116, 115]) = true) (g_units : ¬ eqS w (bs [117, 110, 105, 116, 115]) = true) (g_side : ¬ eqS w (bs [115, 105, 100, 101]) = true) (g_median : ¬ eqS w (bs [109, 101, 100, 105, 97, 110]) = true) (g_altitude : ¬ eqS w (bs [97, 108, 116, 105, 116, 117, 100, 101]) = true) (g_euler : ¬ eqS w (bs [101, 117, 108, 101, 114]) = true) (g_null : ¬ eqS w (bs [110, 117, 108, 108]) = true) (g_eulers : ¬ eqS w (bs [101, 117, 108, 101, 114, 115]) = true) : Ans p c a1 a2 b1 b2 d1 d2 w := by
 refine ⟨Z55 0 [], bs [], 6, ?_, ?_, fun q => absurd q (by decide)⟩
 ·have es : Z0U p c (a1, a2) (b1, b2) (d1, d2) w = some ((0, []), 6) := by
   unfold Z0U
   rw [if_neg g_side, if_neg g_median, if_neg g_altitude, if_neg g_euler, if_neg g_null, if_neg g_eulers]
  have es1 := Z50 es
  have es2 := Z89 es
  unfold Z0q
  rw [if_neg g_show, if_neg g_field, if_neg g_area, if_neg g_quadrances, if_neg g_right, if_neg g_spread, if_neg g_quadrea, if_neg g_centroid, if_neg g_circle, if_neg g_orthic, if_neg g_omega, if_neg g_rights, if_neg g_units, if_pos es1, es2, if_pos (by rfl)]
 ·unfold Z0d
  rw [if_neg (by decide), if_pos (by decide), if_pos (by rfl)]
  simp only [List.getD_cons_zero]
  rw [if_neg g_show, if_neg g_field, if_neg g_area, if_neg g_side, if_neg g_quadrances, if_neg g_null, if_neg g_right, if_neg g_spread, if_neg g_quadrea, if_neg g_centroid, if_neg g_median, if_neg g_altitude, if_neg g_euler, if_neg g_orthic, if_neg g_circle, if_neg g_omega, if_neg g_eulers, if_neg g_rights, if_neg g_units]
theorem ZOs {p c a1 a2 b1 b2 d1 d2 : Int} (hf : Z6 p = true) (hc : isC c) (ha : Z5 p (a1, a2) = true) (hb : Z5 p (b1, b2) = true) (hd : Z5 p (d1, d2) = true) (w : ByteArray) : Res (Z0h (p, c, a1, a2, b1, b2, d1, d2) w) (p, c, a1, a2, b1, b2, d1, d2) 1 [w] := by
 by_cases g_turn : eqS w (bs [116, 117, 114, 110]) = true
 ·rw [Z0T.1 g_turn]
  exact ZNH hf hc ha hb hd
 by_cases g_middle : eqS w (bs [109, 105, 100, 100, 108, 101]) = true
 ·rw [Z0T.1 g_middle]
  exact ZJZ hf hc ha hb hd
 by_cases g_foot : eqS w (bs [102, 111, 111, 116]) = true
 ·rw [Z0T.1 g_foot]
  exact ZNF hf hc ha hb hd
 by_cases g_centre : eqS w (bs [99, 101, 110, 116, 114, 101]) = true
 ·rw [Z0T.1 g_centre]
  exact ZJY hf hc ha hb hd
 by_cases g_high : eqS w (bs [104, 105, 103, 104]) = true
 ·rw [Z0T.1 g_high]
  exact ZNG hf hc ha hb hd
 by_cases g_reset : eqS w (bs [114, 101, 115, 101, 116]) = true
 ·rw [Z0T.1 g_reset]
  exact ZMy hf hc ha hb hd
 refine ZPd g_turn g_middle g_foot g_centre g_high g_reset ?_
 by_cases g_show : eqS w (bs [115, 104, 111, 119]) = true
 ·rw [Z0T.1 g_show]
  exact ZNt hf hc ha hb hd
 by_cases g_field : eqS w (bs [102, 105, 101, 108, 100]) = true
 ·rw [Z0T.1 g_field]
  exact ZMr hf hc ha hb hd
 by_cases g_area : eqS w (bs [97, 114, 101, 97]) = true
 ·rw [Z0T.1 g_area]
  exact ZNq hf hc ha hb hd
 by_cases g_quadrances : eqS w (bs [113, 117, 97, 100, 114, 97, 110, 99, 101, 115]) = true
 ·rw [Z0T.1 g_quadrances]
  exact ZA7 hf hc ha hb hd
 by_cases g_right : eqS w (bs [114, 105, 103, 104, 116]) = true
 ·rw [Z0T.1 g_right]
  exact ZMt hf hc ha hb hd
 by_cases g_spread : eqS w (bs [115, 112, 114, 101, 97, 100]) = true
 ·rw [Z0T.1 g_spread]
  exact ZJW hf hc ha hb hd
 by_cases g_quadrea : eqS w (bs [113, 117, 97, 100, 114, 101, 97]) = true
 ·rw [Z0T.1 g_quadrea]
  exact ZHX hf hc ha hb hd
 by_cases g_centroid : eqS w (bs [99, 101, 110, 116, 114, 111, 105, 100]) = true
 ·rw [Z0T.1 g_centroid]
  exact ZFZ hf hc ha hb hd
 by_cases g_circle : eqS w (bs [99, 105, 114, 99, 108, 101]) = true
 ·rw [Z0T.1 g_circle]
  exact ZJR hf hc ha hb hd
 by_cases g_orthic : eqS w (bs [111, 114, 116, 104, 105, 99]) = true
 ·rw [Z0T.1 g_orthic]
  exact ZJU hf hc ha hb hd
 by_cases g_omega : eqS w (bs [111, 109, 101, 103, 97]) = true
 ·rw [Z0T.1 g_omega]
  exact ZMs hf hc ha hb hd
 by_cases g_rights : eqS w (bs [114, 105, 103, 104, 116, 115]) = true
 ·rw [Z0T.1 g_rights]
  exact ZJV hf hc ha hb hd
 by_cases g_units : eqS w (bs [117, 110, 105, 116, 115]) = true
 ·rw [Z0T.1 g_units]
  exact ZMu hf hc ha hb hd
 by_cases g_side : eqS w (bs [115, 105, 100, 101]) = true
 ·rw [Z0T.1 g_side]
  exact ZNu hf hc ha hb hd
 by_cases g_median : eqS w (bs [109, 101, 100, 105, 97, 110]) = true
 ·rw [Z0T.1 g_median]
  exact ZJT hf hc ha hb hd
 by_cases g_altitude : eqS w (bs [97, 108, 116, 105, 116, 117, 100, 101]) = true
 ·rw [Z0T.1 g_altitude]
  exact ZFY hf hc ha hb hd
 by_cases g_euler : eqS w (bs [101, 117, 108, 101, 114]) = true
 ·rw [Z0T.1 g_euler]
  exact ZMq hf hc ha hb hd
 by_cases g_null : eqS w (bs [110, 117, 108, 108]) = true
 ·rw [Z0T.1 g_null]
  exact ZNs hf hc ha hb hd
 by_cases g_eulers : eqS w (bs [101, 117, 108, 101, 114, 115]) = true
 ·rw [Z0T.1 g_eulers]
  exact ZJS hf hc ha hb hd
 exact ZNr g_show g_field g_area g_quadrances g_right g_spread g_quadrea g_centroid g_circle g_orthic g_omega g_rights g_units g_side g_median g_altitude g_euler g_null g_eulers

theorem ZNf {p c a1 a2 b1 b2 d1 d2 : Int} (hf : Z6 p = true) (hc : isC c) (ha : Z5 p (a1, a2) = true) (hb : Z5 p (b1, b2) = true) (hd : Z5 p (d1, d2) = true) {line w1 : ByteArray} (Z6c : Z9h line 32 = true) (hs : Z7 line 32 = (2, [bs [102, 105, 114, 115, 116], w1])) (hz : w1.size <= 1048576) : Res (ZO (p, c, a1, a2, b1, b2, d1, d2) line) (p, c, a1, a2, b1, b2, d1, d2) 2 [bs [102, 105, 114, 115, 116], w1] := by
 obtain ⟨pi, ps, vi, vs⟩ := Zqz hf hz
 have hv := ZKO hf (spL 44 (toL w1))
 generalize ppt p (spL 44 (toL w1)) = v at vi vs hv
 obtain ⟨n1, x1⟩ := hv
 by_cases hk : v.2 = 0
 ·refine .inl ⟨(p, c, v.1.1, v.1.2, b1, b2, d1, d2), (p, c, v.1.1, v.1.2, b1, b2, d1, d2), Z02 v.1, Z02 v.1, 0, 0, ?_, ?_, Iff.rfl, fun _ => ⟨rfl, rfl, ZsK n1, Zkq hf hc (x1 hk) hb hd⟩⟩
  ·unfold ZO
   rw [hs]
   simp only [List.getD_cons_zero, List.getD_cons_succ]
   rw [if_pos Z6c, if_pos (by first | decide | rfl), if_pos (by rfl), if_neg (by first | decide | simp), if_neg (by first | decide | simp), if_pos (Z07 _), if_pos (by first | decide | rfl), if_pos (by rfl), if_pos ps, if_pos (by rw [vs]; exact (put0 n1 _).1), vs, (put0 n1 _).2, if_pos hk]
   try rfl
  ·unfold Z0f
   rw [if_neg (by first | decide | simp), if_pos (by first | decide | rfl), if_pos (by rfl)]
   simp only [List.getD_cons_zero, List.getD_cons_succ]
   rw [if_pos (Z07 _), if_pos (by first | decide | rfl), if_pos (by rfl), if_pos pi, if_pos (by show num2 (ZV p w1).1 = true; rw [vi]; exact n1)]
   show some (Z1D (ZV p w1).1, (ZV p w1).2, true, p, c, (ZV p w1).1.1, (ZV p w1).1.2, b1, b2, d1, d2) = _
   rw [vi, hk]
   try rfl
 ·refine .inl ⟨(p, c, a1, a2, b1, b2, d1, d2), (p, c, v.1.1, v.1.2, b1, b2, d1, d2), bs [], Z02 v.1, v.2, v.2, ?_, ?_, Iff.rfl, fun q => absurd q hk⟩
  ·unfold ZO
   rw [hs]
   simp only [List.getD_cons_zero, List.getD_cons_succ]
   rw [if_pos Z6c, if_pos (by first | decide | rfl), if_pos (by rfl), if_neg (by first | decide | simp), if_neg (by first | decide | simp), if_pos (Z07 _), if_pos (by first | decide | rfl), if_pos (by rfl), if_pos ps, if_pos (by rw [vs]; exact (put0 n1 _).1), vs, (put0 n1 _).2, if_neg hk]
   try rfl
  ·unfold Z0f
   rw [if_neg (by first | decide | simp), if_pos (by first | decide | rfl), if_pos (by rfl)]
   simp only [List.getD_cons_zero, List.getD_cons_succ]
   rw [if_pos (Z07 _), if_pos (by first | decide | rfl), if_pos (by rfl), if_pos pi, if_pos (by show num2 (ZV p w1).1 = true; rw [vi]; exact n1)]
   show some (Z1D (ZV p w1).1, (ZV p w1).2, true, p, c, (ZV p w1).1.1, (ZV p w1).1.2, b1, b2, d1, d2) = _
   rw [vi]
   try rfl
theorem ZL1 {p c a1 a2 b1 b2 d1 d2 : Int} (hf : Z6 p = true) (hc : isC c) (ha : Z5 p (a1, a2) = true) (hb : Z5 p (b1, b2) = true) (hd : Z5 p (d1, d2) = true) {line w1 : ByteArray} (Z6c : Z9h line 32 = true) (hs : Z7 line 32 = (2, [bs [115, 101, 99, 111, 110, 100], w1])) (hz : w1.size <= 1048576) : Res (ZO (p, c, a1, a2, b1, b2, d1, d2) line) (p, c, a1, a2, b1, b2, d1, d2) 2 [bs [115, 101, 99, 111, 110, 100], w1] := by
 obtain ⟨pi, ps, vi, vs⟩ := Zqz hf hz
 have hv := ZKO hf (spL 44 (toL w1))
 generalize ppt p (spL 44 (toL w1)) = v at vi vs hv
 obtain ⟨n1, x1⟩ := hv
 by_cases hk : v.2 = 0
 ·refine .inl ⟨(p, c, a1, a2, v.1.1, v.1.2, d1, d2), (p, c, a1, a2, v.1.1, v.1.2, d1, d2), Z02 v.1, Z02 v.1, 0, 0, ?_, ?_, Iff.rfl, fun _ => ⟨rfl, rfl, ZsK n1, Zkq hf hc ha (x1 hk) hd⟩⟩
  ·unfold ZO
   rw [hs]
   simp only [List.getD_cons_zero, List.getD_cons_succ]
   rw [if_pos Z6c, if_pos (by first | decide | rfl), if_pos (by rfl), if_neg (by first | decide | simp), if_neg (by first | decide | simp), nE (by decide), if_pos (Z07 _), if_pos (by first | decide | rfl), if_pos (by rfl), if_pos ps, if_pos (by rw [vs]; exact (put1 n1 _).1), vs, (put1 n1 _).2, if_pos hk]
   try rfl
  ·unfold Z0f
   rw [if_neg (by first | decide | simp), if_pos (by first | decide | rfl), if_pos (by rfl)]
   simp only [List.getD_cons_zero, List.getD_cons_succ]
   rw [nE (by decide), if_pos (by first | decide | rfl), if_pos (by rfl), if_pos (Z07 _), if_pos (by first | decide | rfl), if_pos (by rfl), if_pos pi, if_pos (by show num2 (ZV p w1).1 = true; rw [vi]; exact n1)]
   show some (Z1D (ZV p w1).1, (ZV p w1).2, true, p, c, a1, a2, (ZV p w1).1.1, (ZV p w1).1.2, d1, d2) = _
   rw [vi, hk]
   try rfl
 ·refine .inl ⟨(p, c, a1, a2, b1, b2, d1, d2), (p, c, a1, a2, v.1.1, v.1.2, d1, d2), bs [], Z02 v.1, v.2, v.2, ?_, ?_, Iff.rfl, fun q => absurd q hk⟩
  ·unfold ZO
   rw [hs]
   simp only [List.getD_cons_zero, List.getD_cons_succ]
   rw [if_pos Z6c, if_pos (by first | decide | rfl), if_pos (by rfl), if_neg (by first | decide | simp), if_neg (by first | decide | simp), nE (by decide), if_pos (Z07 _), if_pos (by first | decide | rfl), if_pos (by rfl), if_pos ps, if_pos (by rw [vs]; exact (put1 n1 _).1), vs, (put1 n1 _).2, if_neg hk]
   try rfl
  ·unfold Z0f
   rw [if_neg (by first | decide | simp), if_pos (by first | decide | rfl), if_pos (by rfl)]
   simp only [List.getD_cons_zero, List.getD_cons_succ]
   rw [nE (by decide), if_pos (by first | decide | rfl), if_pos (by rfl), if_pos (Z07 _), if_pos (by first | decide | rfl), if_pos (by rfl), if_pos pi, if_pos (by show num2 (ZV p w1).1 = true; rw [vi]; exact n1)]
   show some (Z1D (ZV p w1).1, (ZV p w1).2, true, p, c, a1, a2, (ZV p w1).1.1, (ZV p w1).1.2, d1, d2) = _
   rw [vi]
   try rfl
theorem ZNh {p c a1 a2 b1 b2 d1 d2 : Int} (hf : Z6 p = true) (hc : isC c) (ha : Z5 p (a1, a2) = true) (hb : Z5 p (b1, b2) = true) (hd : Z5 p (d1, d2) = true) {line w1 : ByteArray} (Z6c : Z9h line 32 = true) (hs : Z7 line 32 = (2, [bs [116, 104, 105, 114, 100], w1])) (hz : w1.size <= 1048576) : Res (ZO (p, c, a1, a2, b1, b2, d1, d2) line) (p, c, a1, a2, b1, b2, d1, d2) 2 [bs [116, 104, 105, 114, 100], w1] := by
 obtain ⟨pi, ps, vi, vs⟩ := Zqz hf hz
 have hv := ZKO hf (spL 44 (toL w1))
 generalize ppt p (spL 44 (toL w1)) = v at vi vs hv
 obtain ⟨n1, x1⟩ := hv
 by_cases hk : v.2 = 0
 ·refine .inl ⟨(p, c, a1, a2, b1, b2, v.1.1, v.1.2), (p, c, a1, a2, b1, b2, v.1.1, v.1.2), Z02 v.1, Z02 v.1, 0, 0, ?_, ?_, Iff.rfl, fun _ => ⟨rfl, rfl, ZsK n1, Zkq hf hc ha hb (x1 hk)⟩⟩
  ·unfold ZO
   rw [hs]
   simp only [List.getD_cons_zero, List.getD_cons_succ]
   rw [if_pos Z6c, if_pos (by first | decide | rfl), if_pos (by rfl), if_neg (by first | decide | simp), if_neg (by first | decide | simp), nE (by decide), nE (by decide), if_pos (Z07 _), if_pos (by first | decide | rfl), if_pos (by rfl), if_pos ps, if_pos (by rw [vs]; exact (put2 n1 _).1), vs, (put2 n1 _).2, if_pos hk]
   try rfl
  ·unfold Z0f
   rw [if_neg (by first | decide | simp), if_pos (by first | decide | rfl), if_pos (by rfl)]
   simp only [List.getD_cons_zero, List.getD_cons_succ]
   rw [nE (by decide), if_pos (by first | decide | rfl), if_pos (by rfl), nE (by decide), if_pos (by first | decide | rfl), if_pos (by rfl), if_pos (Z07 _), if_pos (by first | decide | rfl), if_pos (by rfl), if_pos pi, if_pos (by show num2 (ZV p w1).1 = true; rw [vi]; exact n1)]
   show some (Z1D (ZV p w1).1, (ZV p w1).2, true, p, c, a1, a2, b1, b2, (ZV p w1).1.1, (ZV p w1).1.2) = _
   rw [vi, hk]
   try rfl
 ·refine .inl ⟨(p, c, a1, a2, b1, b2, d1, d2), (p, c, a1, a2, b1, b2, v.1.1, v.1.2), bs [], Z02 v.1, v.2, v.2, ?_, ?_, Iff.rfl, fun q => absurd q hk⟩
  ·unfold ZO
   rw [hs]
   simp only [List.getD_cons_zero, List.getD_cons_succ]
   rw [if_pos Z6c, if_pos (by first | decide | rfl), if_pos (by rfl), if_neg (by first | decide | simp), if_neg (by first | decide | simp), nE (by decide), nE (by decide), if_pos (Z07 _), if_pos (by first | decide | rfl), if_pos (by rfl), if_pos ps, if_pos (by rw [vs]; exact (put2 n1 _).1), vs, (put2 n1 _).2, if_neg hk]
   try rfl
  ·unfold Z0f
   rw [if_neg (by first | decide | simp), if_pos (by first | decide | rfl), if_pos (by rfl)]
   simp only [List.getD_cons_zero, List.getD_cons_succ]
   rw [nE (by decide), if_pos (by first | decide | rfl), if_pos (by rfl), nE (by decide), if_pos (by first | decide | rfl), if_pos (by rfl), if_pos (Z07 _), if_pos (by first | decide | rfl), if_pos (by rfl), if_pos pi, if_pos (by show num2 (ZV p w1).1 = true; rw [vi]; exact n1)]
   show some (Z1D (ZV p w1).1, (ZV p w1).2, true, p, c, a1, a2, b1, b2, (ZV p w1).1.1, (ZV p w1).1.2) = _
   rw [vi]
   try rfl
theorem ZPt {w : ByteArray} (h : numL (toL w) = none) : Z2p w = -1 /\ ZH w = (0, false) := by
 unfold Z2p ZH
 rw [h]
 exact ⟨rfl, rfl⟩
theorem ZkJ {w : ByteArray} {n : Nat} (h : numL (toL w) = some n) : Z2p w = (n : Int) /\ ZH w = ((n : Int), true) := by
 unfold Z2p ZH
 rw [h]
 exact ⟨rfl, rfl⟩
theorem ZmI {w : ByteArray} {n : Nat} (h : numL (toL w) = some n) : Z01 (n : Int) = w := by
 apply Ztg
 rw [ZPy, Int.toNat_natCast]
 exact ZJ7 h
theorem ZPA {p c a1 a2 b1 b2 d1 d2 : Int} {line w0 w1 : ByteArray} (Z6c : Z9h line 32 = true) (hs : Z7 line 32 = (2, [w0, w1])) (g_first : ¬ eqS w0 (bs [102, 105, 114, 115, 116]) = true) (g_second : ¬ eqS w0 (bs [115, 101, 99, 111, 110, 100]) = true) (g_third : ¬ eqS w0 (bs [116, 104, 105, 114, 100]) = true) (hn : numL (toL w1) = none) : Res (ZO (p, c, a1, a2, b1, b2, d1, d2) line) (p, c, a1, a2, b1, b2, d1, d2) 2 [w0, w1] := by
 obtain ⟨sn, iw⟩ := ZPt hn
 refine .inl ⟨(p, c, a1, a2, b1, b2, d1, d2), (p, c, a1, a2, b1, b2, d1, d2), bs [], bs [], 6, 6, ?_, ?_, Iff.rfl, fun q => absurd q (by decide)⟩
 ·unfold ZO
  rw [hs]
  simp only [List.getD_cons_zero, List.getD_cons_succ]
  rw [if_pos Z6c, if_pos (by first | decide | rfl), if_pos (by rfl), if_neg (by first | decide | simp), if_neg (by first | decide | simp), if_neg g_first, if_neg g_second, if_neg g_third, if_pos (by first | decide | rfl), if_pos (by rfl), if_pos (by rw [sn]; decide)]
 ·unfold Z0f
  rw [if_neg (by first | decide | simp), if_pos (by first | decide | rfl), if_pos (by rfl)]
  simp only [List.getD_cons_zero, List.getD_cons_succ]
  rw [if_neg g_first, if_pos (by first | decide | rfl), if_pos (by rfl), if_neg g_second, if_pos (by first | decide | rfl), if_pos (by rfl), if_neg g_third, if_pos (by first | decide | rfl), if_pos (by rfl), if_pos (by show (!(ZH w1).2) = true; rw [iw]; simp)]
theorem Zeo {p c a1 a2 b1 b2 d1 d2 : Int} {line w0 w1 : ByteArray} (Z6c : Z9h line 32 = true) (hs : Z7 line 32 = (2, [w0, w1])) (g_first : ¬ eqS w0 (bs [102, 105, 114, 115, 116]) = true) (g_second : ¬ eqS w0 (bs [115, 101, 99, 111, 110, 100]) = true) (g_third : ¬ eqS w0 (bs [116, 104, 105, 114, 100]) = true) {n : Nat} (hn : numL (toL w1) = some n) {v : Dk × ByteArray × Int} (e : Z18 (p, c, a1, a2, b1, b2, d1, d2) w0 (n : Int) = some v) : ZO (p, c, a1, a2, b1, b2, d1, d2) line = some v := by
 obtain ⟨sn, iw⟩ := ZkJ hn
 have hl := ZQn hn
 unfold ZO
 rw [hs]
 simp only [List.getD_cons_zero, List.getD_cons_succ]
 rw [if_pos Z6c, if_pos (by first | decide | rfl), if_pos (by rfl), if_neg (by first | decide | simp), if_neg (by first | decide | simp), if_neg g_first, if_neg g_second, if_neg g_third, if_pos (by first | decide | rfl), if_pos (by rfl), if_neg (by rw [sn]; simp), if_neg (by rw [sn]; simp; omega), sn, if_pos (ZsE e), ZBE e]
theorem ZNg {p c a1 a2 b1 b2 d1 d2 : Int} (hf : Z6 p = true) (hc : isC c) (ha : Z5 p (a1, a2) = true) (hb : Z5 p (b1, b2) = true) (hd : Z5 p (d1, d2) = true) {line w1 : ByteArray} (Z6c : Z9h line 32 = true) (hs : Z7 line 32 = (2, [bs [112, 114, 105, 109, 101], w1])) {n : Nat} (hn : numL (toL w1) = some n) : Res (ZO (p, c, a1, a2, b1, b2, d1, d2) line) (p, c, a1, a2, b1, b2, d1, d2) 2 [bs [112, 114, 105, 109, 101], w1] := by
 obtain ⟨sn, iw⟩ := ZkJ hn
 have hb1 := ZmI hn
 by_cases hF : Z6 (n : Int) = true
 ·have hF' : Z06 (n : Int) = true := hF
  have hm : num1 (n : Int) = true := by rw [Zjj]; have := Zep hF; omega
  have hd : Z0n (Zn (n : Int)) = true := by
   have h3 := Zep hF
   exact Zkq hF (.inl rfl) (Zo3 hF) (by simp [Z5, ZM, Z1c]; omega) (by simp [Z5, ZM, Z1c]; omega)
  refine .inl ⟨Zn n, Zn n, Z01 n, Z01 n, 0, 0, ?_, ?_, Iff.rfl, fun _ => ⟨rfl, rfl, Zjk hm, hd⟩⟩
  ·refine Zeo Z6c hs (Z2A (by decide)) (Z2A (by decide)) (Z2A (by decide)) hn ?_
   unfold Z18
   rw [if_pos (Z07 _), if_neg (by rw [hF']; decide), if_pos (Z7D hm)]
  ·unfold Z0f
   rw [if_neg (by first | decide | simp), if_pos (by first | decide | rfl), if_pos (by rfl)]
   simp only [List.getD_cons_zero, List.getD_cons_succ]
   rw [nE (by decide), if_pos (by first | decide | rfl), if_pos (by rfl), nE (by decide), if_pos (by first | decide | rfl), if_pos (by rfl), nE (by decide), if_pos (by first | decide | rfl), if_pos (by rfl), if_neg (by show ¬ (!(ZH w1).2) = true; rw [iw]; simp), if_pos (by first | decide | rfl), if_pos (by rfl), if_pos (Z07 _), if_neg (by show ¬ (!(Z6 (ZH w1).1)) = true; rw [iw]; show ¬ (!(Z6 (n : Int))) = true; rw [hF]; decide), if_pos (by first | decide | rfl), if_pos (by rfl)]
   show some (w1, (0 : Int), true, Zkj (ZH w1).1) = _
   rw [iw, hb1]
   rfl
 ·have hF' : ¬ Z06 (n : Int) = true := hF
  refine .inl ⟨(p, c, a1, a2, b1, b2, d1, d2), (p, c, a1, a2, b1, b2, d1, d2), bs [], bs [], 2, 1, ?_, ?_, by decide, fun q => absurd q (by decide)⟩
  ·refine Zeo Z6c hs (Z2A (by decide)) (Z2A (by decide)) (Z2A (by decide)) hn ?_
   unfold Z18
   rw [if_pos (Z07 _), if_pos (by rw [Bool.eq_false_iff.2 hF']; rfl)]
  ·unfold Z0f
   rw [if_neg (by first | decide | simp), if_pos (by first | decide | rfl), if_pos (by rfl)]
   simp only [List.getD_cons_zero, List.getD_cons_succ]
   rw [nE (by decide), if_pos (by first | decide | rfl), if_pos (by rfl), nE (by decide), if_pos (by first | decide | rfl), if_pos (by rfl), nE (by decide), if_pos (by first | decide | rfl), if_pos (by rfl), if_neg (by show ¬ (!(ZH w1).2) = true; rw [iw]; simp), if_pos (by first | decide | rfl), if_pos (by rfl), if_pos (Z07 _), if_pos (by show (!(Z6 (ZH w1).1)) = true; rw [iw]; show (!(Z6 (n : Int))) = true; rw [Bool.eq_false_iff.2 hF]; rfl)]
theorem ZL0 {p c a1 a2 b1 b2 d1 d2 : Int} (hf : Z6 p = true) (hc : isC c) (ha : Z5 p (a1, a2) = true) (hb : Z5 p (b1, b2) = true) (hd : Z5 p (d1, d2) = true) {line w1 : ByteArray} (Z6c : Z9h line 32 = true) (hs : Z7 line 32 = (2, [bs [99, 111, 108, 111, 117, 114], w1])) {n : Nat} (hn : numL (toL w1) = some n) : Res (ZO (p, c, a1, a2, b1, b2, d1, d2) line) (p, c, a1, a2, b1, b2, d1, d2) 2 [bs [99, 111, 108, 111, 117, 114], w1] := by
 obtain ⟨sn, iw⟩ := ZkJ hn
 have hb1 := ZmI hn
 by_cases hF : Z05 (n : Int) = true
 ·have hF' : Z2a (n : Int) = true := by rw [ZfV]; exact hF
  have hC := ZKk hF
  have hm : num1 (n : Int) = true := ZPX hC
  refine .inl ⟨(p, (n : Int), a1, a2, b1, b2, d1, d2), (p, (n : Int), a1, a2, b1, b2, d1, d2), Z01 n, Z01 n, 0, 0, ?_, ?_, Iff.rfl, fun _ => ⟨rfl, rfl, Zjk hm, Zkq hf hC ha hb hd⟩⟩
  ·refine Zeo Z6c hs (Z2A (by decide)) (Z2A (by decide)) (Z2A (by decide)) hn ?_
   unfold Z18
   rw [nE (by decide), if_pos (Z07 _), if_neg (by rw [hF']; decide), if_pos (Z7D hm)]
  ·unfold Z0f
   rw [if_neg (by first | decide | simp), if_pos (by first | decide | rfl), if_pos (by rfl)]
   simp only [List.getD_cons_zero, List.getD_cons_succ]
   rw [nE (by decide), if_pos (by first | decide | rfl), if_pos (by rfl), nE (by decide), if_pos (by first | decide | rfl), if_pos (by rfl), nE (by decide), if_pos (by first | decide | rfl), if_pos (by rfl), if_neg (by show ¬ (!(ZH w1).2) = true; rw [iw]; simp), if_pos (by first | decide | rfl), if_pos (by rfl), nE (by decide), if_pos (Z07 _), if_neg (by show ¬ (!(Z05 (ZH w1).1)) = true; rw [iw]; show ¬ (!(Z05 (n : Int))) = true; rw [hF]; decide), if_pos (by first | decide | rfl), if_pos (by rfl)]
   show some (w1, (0 : Int), true, p, (ZH w1).1, a1, a2, b1, b2, d1, d2) = _
   rw [iw, hb1]
 ·have hF' : ¬ Z2a (n : Int) = true := by rw [ZfV]; exact hF
  refine .inl ⟨(p, c, a1, a2, b1, b2, d1, d2), (p, c, a1, a2, b1, b2, d1, d2), bs [], bs [], 2, 2, ?_, ?_, Iff.rfl, fun q => absurd q (by decide)⟩
  ·refine Zeo Z6c hs (Z2A (by decide)) (Z2A (by decide)) (Z2A (by decide)) hn ?_
   unfold Z18
   rw [nE (by decide), if_pos (Z07 _), if_pos (by rw [Bool.eq_false_iff.2 hF']; rfl)]
  ·unfold Z0f
   rw [if_neg (by first | decide | simp), if_pos (by first | decide | rfl), if_pos (by rfl)]
   simp only [List.getD_cons_zero, List.getD_cons_succ]
   rw [nE (by decide), if_pos (by first | decide | rfl), if_pos (by rfl), nE (by decide), if_pos (by first | decide | rfl), if_pos (by rfl), nE (by decide), if_pos (by first | decide | rfl), if_pos (by rfl), if_neg (by show ¬ (!(ZH w1).2) = true; rw [iw]; simp), if_pos (by first | decide | rfl), if_pos (by rfl), nE (by decide), if_pos (Z07 _), if_pos (by show (!(Z05 (ZH w1).1)) = true; rw [iw]; show (!(Z05 (n : Int))) = true; rw [Bool.eq_false_iff.2 hF]; rfl)]
theorem ZJF {p c a1 a2 b1 b2 d1 d2 : Int} (hf : Z6 p = true) (hc : isC c) (ha : Z5 p (a1, a2) = true) (hb : Z5 p (b1, b2) = true) (hd : Z5 p (d1, d2) = true) {line w1 : ByteArray} (Z6c : Z9h line 32 = true) (hs : Z7 line 32 = (2, [bs [99, 111, 109, 98, 105, 110, 101], w1])) {n : Nat} (hn : numL (toL w1) = some n) : Res (ZO (p, c, a1, a2, b1, b2, d1, d2) line) (p, c, a1, a2, b1, b2, d1, d2) 2 [bs [99, 111, 109, 98, 105, 110, 101], w1] := by
 obtain ⟨sn, iw⟩ := ZkJ hn
 have hb1 := ZmI hn
 obtain ⟨e1, n1⟩ := ZNK hf ha hb (n : Int)
 have x1 : Z5 p (Z0M p (a1, a2) (b1, b2) (n : Int)).1 = true := by rw [<- e1]; exact ZPj hf _
 have iw1 : (ZH w1).1 = (n : Int) := by rw [iw]
 obtain ⟨D1, D2, t1, t2, h1, h2, h3⟩ := ZsR hf hc ha hb hd (Z0M p (a1, a2) (b1, b2) (n : Int)).2 n1 x1
 refine .inl ⟨D1, D2, t1, t2, _, _, ?_, ?_, Iff.rfl, h3⟩
 ·refine Zeo Z6c hs (Z2A (by decide)) (Z2A (by decide)) (Z2A (by decide)) hn ?_
  unfold Z18
  rw [nE (by decide), nE (by decide), if_pos (Z07 _), if_pos (put0 n1 _).1]
  exact h1
 ·unfold Z0f
  rw [if_neg (by first | decide | simp), if_pos (by first | decide | rfl), if_pos (by rfl)]
  simp only [List.getD_cons_zero, List.getD_cons_succ]
  rw [nE (by decide), if_pos (by first | decide | rfl), if_pos (by rfl), nE (by decide), if_pos (by first | decide | rfl), if_pos (by rfl), nE (by decide), if_pos (by first | decide | rfl), if_pos (by rfl), if_neg (by show ¬ (!(ZH w1).2) = true; rw [iw]; simp), if_pos (by first | decide | rfl), if_pos (by rfl), nE (by decide), nE (by decide), if_pos (Z07 _), if_pos (by show Z1Z (Z1H p (a1, a2) (b1, b2) (ZH w1).1).1 (Z1H p (a1, a2) (b1, b2) (ZH w1).1).2 _ = true; rw [iw1, e1]; exact (Zus n1 _ _).1)]
  show some (Z2J (Z1H p (a1, a2) (b1, b2) (ZH w1).1).1 (Z1H p (a1, a2) (b1, b2) (ZH w1).1).2 _) = _
  rw [iw1, e1]
  exact h2
theorem ZBs {p c a1 a2 b1 b2 d1 d2 : Int} {w0 w1 : ByteArray} (g_first : ¬ eqS w0 (bs [102, 105, 114, 115, 116]) = true) (g_second : ¬ eqS w0 (bs [115, 101, 99, 111, 110, 100]) = true) (g_third : ¬ eqS w0 (bs [116, 104, 105, 114, 100]) = true) (g_prime : ¬ eqS w0 (bs [112, 114, 105, 109, 101]) = true) (g_colour : ¬ eqS w0 (bs [99, 111, 108, 111, 117, 114]) = true) (g_combine : ¬ eqS w0 (bs [99, 111, 109, 98, 105, 110, 101]) = true) {n : Nat} (hn : numL (toL w1) = some n) : Z0f (p, c, a1, a2, b1, b2, d1, d2) 2 [w0, w1] = some (bs [], 0, false, (p, c, a1, a2, b1, b2, d1, d2)) := by
 obtain ⟨sn, iw⟩ := ZkJ hn
 unfold Z0f
 rw [if_neg (by first | decide | simp), if_pos (by first | decide | rfl), if_pos (by rfl)]
 simp only [List.getD_cons_zero, List.getD_cons_succ]
 rw [if_neg g_first, if_pos (by first | decide | rfl), if_pos (by rfl), if_neg g_second, if_pos (by first | decide | rfl), if_pos (by rfl), if_neg g_third, if_pos (by first | decide | rfl), if_pos (by rfl), if_neg (by show ¬ (!(ZH w1).2) = true; rw [iw]; simp), if_pos (by first | decide | rfl), if_pos (by rfl), if_neg g_prime, if_neg g_colour, if_neg g_combine]
theorem ZQw {p c a1 a2 b1 b2 d1 d2 : Int} (hf : Z6 p = true) (hc : isC c) (ha : Z5 p (a1, a2) = true) (hb : Z5 p (b1, b2) = true) (hd : Z5 p (d1, d2) = true) {line w1 : ByteArray} (Z6c : Z9h line 32 = true) (hs : Z7 line 32 = (2, [bs [97, 116], w1])) {n : Nat} (hn : numL (toL w1) = some n) : Res (ZO (p, c, a1, a2, b1, b2, d1, d2) line) (p, c, a1, a2, b1, b2, d1, d2) 2 [bs [97, 116], w1] := by
 obtain ⟨sn, iw⟩ := ZkJ hn
 have hb1 := ZmI hn
 obtain ⟨e1, n1⟩ := ZQ9 hf hc ha (n : Int)
 have iw1 : (ZH w1).1 = (n : Int) := by rw [iw]
 obtain ⟨o1, o2⟩ := ZBo n1 (Z2d p c (a1, a2) (n : Int)).2
 refine .inr ⟨Z17 (Z2d p c (a1, a2) (n : Int)).1.1 (Z2d p c (a1, a2) (n : Int)).1.2, Z17 (Z2d p c (a1, a2) (n : Int)).1.1 (Z2d p c (a1, a2) (n : Int)).1.2, (Z2d p c (a1, a2) (n : Int)).2, ?_, ZBs (Z2A (by decide)) (Z2A (by decide)) (Z2A (by decide)) (Z2A (by decide)) (Z2A (by decide)) (Z2A (by decide)) hn, ?_, fun _ => ⟨rfl, Zn8 n1⟩⟩
 ·refine Zeo Z6c hs (Z2A (by decide)) (Z2A (by decide)) (Z2A (by decide)) hn ?_
  unfold Z18
  rw [nE (by decide), nE (by decide), nE (by decide), if_pos (Z07 _), if_pos n1]
 ·unfold Z0d
  rw [if_pos (by first | decide | rfl), if_pos (by first | decide | rfl), if_pos (by rfl), if_pos (by first | decide | rfl), if_pos (by rfl)]
  simp only [List.getD_cons_zero, List.getD_cons_succ]
  rw [if_pos (Z07 _), if_pos (by show Z2s (Z31 p c (a1, a2) (ZH w1).1).1.1 (Z31 p c (a1, a2) (ZH w1).1).1.2 (Z31 p c (a1, a2) (ZH w1).1).2 = true; rw [iw1, e1]; exact o1)]
  show some ((Z3r (Z31 p c (a1, a2) (ZH w1).1).1.1 (Z31 p c (a1, a2) (ZH w1).1).1.2 (Z31 p c (a1, a2) (ZH w1).1).2).1, (Z3r (Z31 p c (a1, a2) (ZH w1).1).1.1 (Z31 p c (a1, a2) (ZH w1).1).1.2 (Z31 p c (a1, a2) (ZH w1).1).2).2, (p, c, a1, a2, b1, b2, d1, d2)) = _
  rw [iw1, e1, o2]
theorem ZNe {p c a1 a2 b1 b2 d1 d2 : Int} (hf : Z6 p = true) (hc : isC c) (ha : Z5 p (a1, a2) = true) (hb : Z5 p (b1, b2) = true) (hd : Z5 p (d1, d2) = true) {line w1 : ByteArray} (Z6c : Z9h line 32 = true) (hs : Z7 line 32 = (2, [bs [99, 111, 117, 110, 116], w1])) {n : Nat} (hn : numL (toL w1) = some n) : Res (ZO (p, c, a1, a2, b1, b2, d1, d2) line) (p, c, a1, a2, b1, b2, d1, d2) 2 [bs [99, 111, 117, 110, 116], w1] := by
 obtain ⟨sn, iw⟩ := ZkJ hn
 have hb1 := ZmI hn
 obtain ⟨e1, n1⟩ := ZMA hf hc (n : Int)
 have iw1 : (ZH w1).1 = (n : Int) := by rw [iw]
 obtain ⟨o1, o2⟩ := Zz9 n1 (Z5S p c (n : Int)).2
 refine .inr ⟨Z01 (Z5S p c (n : Int)).1, Z01 (Z5S p c (n : Int)).1, (Z5S p c (n : Int)).2, ?_, ZBs (Z2A (by decide)) (Z2A (by decide)) (Z2A (by decide)) (Z2A (by decide)) (Z2A (by decide)) (Z2A (by decide)) hn, ?_, fun _ => ⟨rfl, Zjk n1⟩⟩
 ·refine Zeo Z6c hs (Z2A (by decide)) (Z2A (by decide)) (Z2A (by decide)) hn ?_
  unfold Z18
  rw [nE (by decide), nE (by decide), nE (by decide), nE (by decide), if_pos (Z07 _), if_pos (Z7D n1)]
 ·unfold Z0d
  rw [if_pos (by first | decide | rfl), if_pos (by first | decide | rfl), if_pos (by rfl), if_pos (by first | decide | rfl), if_pos (by rfl)]
  simp only [List.getD_cons_zero, List.getD_cons_succ]
  rw [nE (by decide), if_pos (Z07 _), if_pos (by show Z2l (Z6C p c (ZH w1).1).1 (Z6C p c (ZH w1).1).2 = true; rw [iw1, e1]; exact o1)]
  show some ((Z3S (Z6C p c (ZH w1).1).1 (Z6C p c (ZH w1).1).2).1, (Z3S (Z6C p c (ZH w1).1).1 (Z6C p c (ZH w1).1).2).2, (p, c, a1, a2, b1, b2, d1, d2)) = _
  rw [iw1, e1, o2]
theorem ZOP {p c a1 a2 b1 b2 d1 d2 : Int} {line w0 w1 : ByteArray} (Z6c : Z9h line 32 = true) (hs : Z7 line 32 = (2, [w0, w1])) (g_first : ¬ eqS w0 (bs [102, 105, 114, 115, 116]) = true) (g_second : ¬ eqS w0 (bs [115, 101, 99, 111, 110, 100]) = true) (g_third : ¬ eqS w0 (bs [116, 104, 105, 114, 100]) = true) (g_prime : ¬ eqS w0 (bs [112, 114, 105, 109, 101]) = true) (g_colour : ¬ eqS w0 (bs [99, 111, 108, 111, 117, 114]) = true) (g_combine : ¬ eqS w0 (bs [99, 111, 109, 98, 105, 110, 101]) = true) (g_at : ¬ eqS w0 (bs [97, 116]) = true) (g_count : ¬ eqS w0 (bs [99, 111, 117, 110, 116]) = true) {n : Nat} (hn : numL (toL w1) = some n) : Res (ZO (p, c, a1, a2, b1, b2, d1, d2) line) (p, c, a1, a2, b1, b2, d1, d2) 2 [w0, w1] := by
 refine .inr ⟨bs [], bs [], 6, ?_, ZBs g_first g_second g_third g_prime g_colour g_combine hn, ?_, fun q => absurd q (by decide)⟩
 ·refine Zeo Z6c hs g_first g_second g_third hn ?_
  unfold Z18
  rw [if_neg g_prime, if_neg g_colour, if_neg g_combine, if_neg g_at, if_neg g_count]
 ·unfold Z0d
  rw [if_pos (by first | decide | rfl), if_pos (by first | decide | rfl), if_pos (by rfl), if_pos (by first | decide | rfl), if_pos (by rfl)]
  simp only [List.getD_cons_zero, List.getD_cons_succ]
  rw [if_neg g_at, if_neg g_count]
theorem ZNi {p c a1 a2 b1 b2 d1 d2 : Int} (hf : Z6 p = true) (hc : isC c) (ha : Z5 p (a1, a2) = true) (hb : Z5 p (b1, b2) = true) (hd : Z5 p (d1, d2) = true) {line w0 w1 : ByteArray} (Z6c : Z9h line 32 = true) (hs : Z7 line 32 = (2, [w0, w1])) (hz : w1.size <= 1048576) : Res (ZO (p, c, a1, a2, b1, b2, d1, d2) line) (p, c, a1, a2, b1, b2, d1, d2) 2 [w0, w1] := by
 by_cases g_first : eqS w0 (bs [102, 105, 114, 115, 116]) = true
 ·obtain rfl := Z0T.1 g_first
  exact ZNf hf hc ha hb hd Z6c hs hz
 by_cases g_second : eqS w0 (bs [115, 101, 99, 111, 110, 100]) = true
 ·obtain rfl := Z0T.1 g_second
  exact ZL1 hf hc ha hb hd Z6c hs hz
 by_cases g_third : eqS w0 (bs [116, 104, 105, 114, 100]) = true
 ·obtain rfl := Z0T.1 g_third
  exact ZNh hf hc ha hb hd Z6c hs hz
 cases hn : numL (toL w1) with
 | none => exact ZPA Z6c hs g_first g_second g_third hn
 | some n =>
  by_cases g_prime : eqS w0 (bs [112, 114, 105, 109, 101]) = true
  ·obtain rfl := Z0T.1 g_prime
   exact ZNg hf hc ha hb hd Z6c hs hn
  by_cases g_colour : eqS w0 (bs [99, 111, 108, 111, 117, 114]) = true
  ·obtain rfl := Z0T.1 g_colour
   exact ZL0 hf hc ha hb hd Z6c hs hn
  by_cases g_combine : eqS w0 (bs [99, 111, 109, 98, 105, 110, 101]) = true
  ·obtain rfl := Z0T.1 g_combine
   exact ZJF hf hc ha hb hd Z6c hs hn
  by_cases g_at : eqS w0 (bs [97, 116]) = true
  ·obtain rfl := Z0T.1 g_at
   exact ZQw hf hc ha hb hd Z6c hs hn
  by_cases g_count : eqS w0 (bs [99, 111, 117, 110, 116]) = true
  ·obtain rfl := Z0T.1 g_count
   exact ZNe hf hc ha hb hd Z6c hs hn
  exact ZOP Z6c hs g_first g_second g_third g_prime g_colour g_combine g_at g_count hn
theorem Zja (D : Dk) : Z9C D = Z0n D := by
 obtain ⟨p, c, a1, a2, b1, b2, d1, d2⟩ := D
 unfold Z9C Z0n Z0e
 dsimp only
 have e : ZW p (Z5v 3 [a1, a2, b1, b2, d1, d2]) = ZK p true (ZE p [(a1, a2), (b1, b2), (d1, d2)]) := pointcode p true [(a1, a2), (b1, b2), (d1, d2)]
 rw [e, ZfV]
 cases hf : Z6 p
 ·simp [ZK, hf]
 ·cases hc : Z05 c
  ·cases hp : ZE p [(a1, a2), (b1, b2), (d1, d2)] <;> simp [ZK, hf]
  ·cases hp : ZE p [(a1, a2), (b1, b2), (d1, d2)] <;> simp [ZK, hf]
theorem Zze : ERR.size <= 100000000 := by decide
def Same (D : Dk) (line : ByteArray) : Prop := ∃ r : Dk × ByteArray, Z2w D line = some r /\ Z2v D line = some r /\ r.2.size <= 100000000 /\ (Z0n D = true -> Z0n r.1 = true /\ (r.2 = ERR -> r.1 = D))
theorem ZM7 {D : Dk} {line : ByteArray} {n : Nat} {l : List ByteArray} (h : Res (ZO D line) D n l) (hx : Z0l line (bs [32]) = (n, l)) (hn : n <= 2) (hd : Z0n D = true) (hsp : ZnY line (bs [32]) = true) : Same D line := by
 have hd1 : ¬ (!(Z9C D)) = true := by rw [Zja, hd]; decide
 have hd2 : ¬ (!(Z0n D)) = true := by rw [hd]; decide
 have hn2 : ¬ decide (((n : Nat) : Int) > 2) = true := by simp; omega
 rcases h with ⟨D1, D2, t1, t2, k1, k2, e1, e2, e3, e4⟩ | ⟨t1, t2, k, e1, e2, e3, e4⟩
 ·have ic := ZwJ e2
  by_cases hk : k1 = 0
  ·obtain ⟨rfl, rfl, hz, hD⟩ := e4 hk
   have hk2 := e3.1 hk
   refine ⟨(D1, t1), ?_, ?_, hz.1, fun _ => ⟨hD, fun q => absurd q hz.2⟩⟩
   ·unfold Z2w
    rw [if_neg hd1, if_pos (Z63 e1), Z8k e1, if_neg (by rw [hk]; simp)]
   ·unfold Z2v
    rw [if_neg hd2, if_pos hsp, hx]
    dsimp only
    rw [if_neg hn2, if_pos (Zch e2), ic]
    dsimp only
    rw [if_neg (by first | decide | simp), if_neg (by rw [hk2]; simp)]
  ·have hk2 : k2 ≠ 0 := fun q => hk (e3.2 q)
   refine ⟨(D, ERR), ?_, ?_, Zze, fun _ => ⟨hd, fun _ => rfl⟩⟩
   ·unfold Z2w
    rw [if_neg hd1, if_pos (Z63 e1), Z8k e1, if_pos (bne_iff_ne.2 hk)]
    rfl
   ·unfold Z2v
    rw [if_neg hd2, if_pos hsp, hx]
    dsimp only
    rw [if_neg hn2, if_pos (Zch e2), ic]
    dsimp only
    rw [if_neg (by first | decide | simp), if_pos (bne_iff_ne.2 hk2)]
    rfl
 ·have ic := ZwJ e2
  by_cases hk : k = 0
  ·obtain ⟨rfl, hz⟩ := e4 hk
   refine ⟨(D, t1), ?_, ?_, hz.1, fun _ => ⟨hd, fun _ => rfl⟩⟩
   ·unfold Z2w
    rw [if_neg hd1, if_pos (Z63 e1), Z8k e1, if_neg (by rw [hk]; simp)]
   ·unfold Z2v
    rw [if_neg hd2, if_pos hsp, hx]
    dsimp only
    rw [if_neg hn2, if_pos (Zch e2), ic]
    dsimp only
    rw [if_pos (by first | decide | rfl), if_pos (Zn2 e3), ZwI e3]
    dsimp only
    rw [if_neg (by rw [hk]; simp)]
  ·refine ⟨(D, ERR), ?_, ?_, Zze, fun _ => ⟨hd, fun _ => rfl⟩⟩
   ·unfold Z2w
    rw [if_neg hd1, if_pos (Z63 e1), Z8k e1, if_pos (bne_iff_ne.2 hk)]
    rfl
   ·unfold Z2v
    rw [if_neg hd2, if_pos hsp, hx]
    dsimp only
    rw [if_neg hn2, if_pos (Zch e2), ic]
    dsimp only
    rw [if_pos (by first | decide | rfl), if_pos (Zn2 e3), ZwI e3]
    dsimp only
    rw [if_pos (bne_iff_ne.2 hk)]
    rfl
theorem ZJl (D : Dk) (line : ByteArray) (hz : line.size <= 1048576) : Same D line := by
 by_cases hd : Z0n D = true
 ·have Z6c : Z9h line 32 = true := by unfold Z9h; simp; omega
  have hsp : ZnY line (bs [32]) = true := by
   unfold ZnY
   rw [Nat.ble_eq_true_of_le (by omega)]
   rfl
  have es : Z7 line 32 = ((spL 32 (toL line)).length, (spL 32 (toL line)).map bs) := rfl
  have ex : Z0l line (bs [32]) = ((spL 32 (toL line)).length, (spL 32 (toL line)).map bs) := rfl
  have hpart : ∀ x ∈ spL 32 (toL line), x.length <= 1048576 := fun x hx => Nat.le_trans (Znu hx) (by rw [<- ZX]; exact hz)
  have hne := ZvI 32 (toL line)
  generalize spL 32 (toL line) = L at es ex hpart hne
  obtain ⟨p, c, a1, a2, b1, b2, d1, d2⟩ := D
  obtain ⟨hf, hc, ha, hb, hdd⟩ := ZLT hd
  match L, hne with
  | [x], _ =>
   have hr := ZOs hf hc ha hb hdd (bs x)
   refine ZM7 (n := 1) (l := [bs x]) ?_ ex (by decide) hd hsp
   have e : ZO (p, c, a1, a2, b1, b2, d1, d2) line = Z0h (p, c, a1, a2, b1, b2, d1, d2) (bs x) := by
    have : ∃ v, Z0h (p, c, a1, a2, b1, b2, d1, d2) (bs x) = some v := by
     rcases hr with ⟨D1, D2, t1, t2, k1, k2, e1, _⟩ | ⟨t1, t2, k, e1, _⟩
     ·exact ⟨_, e1⟩
     ·exact ⟨_, e1⟩
    obtain ⟨v, e1⟩ := this
    have es' : Z7 line 32 = (1, [bs x]) := es
    rw [e1]
    unfold ZO
    rw [es']
    simp only [List.getD_cons_zero]
    rw [if_pos Z6c, if_pos (by first | decide | rfl), if_pos (by rfl), if_pos (by first | decide | rfl), if_pos (Zvj e1), ZDP e1]
   rw [e]
   exact hr
  | [x, y], _ =>
   have es' : Z7 line 32 = (2, [bs x, bs y]) := es
   refine ZM7 (n := 2) (l := [bs x, bs y]) ?_ ex (by decide) hd hsp
   exact ZNi hf hc ha hb hdd Z6c es' (by rw [ZX, ZcQ]; exact hpart y (by simp))
  | x :: y :: z :: r, _ =>
   have hd1 : ¬ (!(Z9C (p, c, a1, a2, b1, b2, d1, d2))) = true := by rw [Zja, hd]; decide
   have hd2 : ¬ (!(Z0n (p, c, a1, a2, b1, b2, d1, d2))) = true := by rw [hd]; decide
   have Z4X : (x :: y :: z :: r).length = r.length + 3 := rfl
   have hl2 : ((x :: y :: z :: r).map bs).length = r.length + 3 := by simp
   have e1 : ZO (p, c, a1, a2, b1, b2, d1, d2) line = some ((p, c, a1, a2, b1, b2, d1, d2), bs [], 6) := by
    unfold ZO
    rw [es]
    dsimp only
    rw [if_pos Z6c, if_pos (by rw [Z4X]; simp; omega), if_pos (by rw [hl2]; simp), if_neg (by rw [Z4X]; simp; omega), if_pos (by rw [Z4X]; simp; omega)]
   refine ⟨((p, c, a1, a2, b1, b2, d1, d2), ERR), ?_, ?_, Zze, fun _ => ⟨hd, fun _ => rfl⟩⟩
   ·unfold Z2w
    rw [if_neg hd1, if_pos (Z63 e1), Z8k e1, if_pos (by first | decide | rfl)]
    rfl
   ·unfold Z2v
    rw [if_neg hd2, if_pos hsp, ex]
    dsimp only
    rw [if_pos (by rw [Z4X]; simp; omega)]
    rfl
 ·refine ⟨((0, 0, 0, 0, 0, 0, 0, 0), bs []), ?_, ?_, by decide, fun q => absurd q hd⟩
  ·unfold Z2w
   rw [if_pos (by rw [Zja, Bool.eq_false_iff.2 hd]; rfl)]
  ·unfold Z2v
   rw [if_pos (by rw [Bool.eq_false_iff.2 hd]; rfl)]

end Go.Proofs.YtcdpfpfbilfpoaaGreatDoor
