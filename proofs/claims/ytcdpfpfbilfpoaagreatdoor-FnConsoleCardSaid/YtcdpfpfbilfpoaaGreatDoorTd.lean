import Derived.Test.YtcdpfpfbilfpoaaGreatDoorTb
import Derived.Test.YtcdpfpfbilfpoaaGreatDoorProg
set_option linter.unusedSimpArgs false
set_option linter.unusedVariables false
namespace Go.Proofs.YtcdpfpfbilfpoaaGreatDoor
open Go.RowKit Tryz
noncomputable section
def Z2V : Sums := ⟨tblS [], tblM [], false⟩
theorem Zu6 : Ze prog Z2V := ⟨Za ⟨⟩, tM⟩
def Z4O (p : Int) (text : ByteArray) (count : Int) (l12 : List Int) (m12 : Nat) (j_at : Int) : Tab := ⟨[vI (p), .val (.string text), vI (count), jK, jK, jK, .val (.slice none 0 0), vB (false), .row 48, vI (j_at), ] ++ (jN 80 ++ [jK]), [(48, .row 2 1 m12 (.ints l12))]⟩
def ZrO (p : Int) (text : ByteArray) (count : Int) (l12 : List Int) (m12 : Nat) (j_at j_n : Int) (j_at' : Int) : Tab := ⟨[vI (p), .val (.string text), vI (count), jK, jK, jK, .val (.slice none 0 0), vB (false), .row 48, vI (j_at'), vI (j_n), vI (j_at), jK, vI (j_at), ] ++ (jN 76 ++ [jK]), [(48, .row 2 1 m12 (.ints l12))]⟩
def Z4Q (P : Program) (fu : Nat) (p : Int) (text : ByteArray) (count : Int) (l12 : List Int) (m12 : Nat) (j_at : Int) (rc2 : Tab -> Option ((Nat × List Int) × Bool)) (f : Nat) (j_n : Int) (j_at' : Int) : Option ((Nat × List Int) × Bool) := Z1u (exec P Z2V 91 (Z6b fu []) (Code.sub [1, 1, 1, 0, 0, 0, 1, 0, 0, 0] (ZS P 118))) f (ZrO p text count l12 m12 j_at j_n j_at') (Z0g 2 (kSeq (fun zs9 => exec P Z2V 91 (Z6b fu []) (Code.sub [1, 1, 1, 0, 0, 0, 1, 1] (ZS P 118)) zs9 (Z0g 1 (ZBd rc2 (Z4O p text count l12 m12 j_at) (Z0g 0 (finT P 118 Z73))))) (Z0g 1 (ZBd rc2 (Z4O p text count l12 m12 j_at) (Z0g 0 (finT P 118 Z73))))))
def Z6J (p : Int) (text : ByteArray) (count : Int) (l12 : List Int) (m12 : Nat) (j_at : Int) (Z2b : (List Int) -> Nat -> Int -> Option ((Nat × List Int) × Bool)) (ZH8 : Int -> Int -> Option ((Nat × List Int) × Bool)) (j_n : Int) (j_at' : Int) : Option ((Nat × List Int) × Bool) :=
 (if (decide (j_at' < ((text.size : Nat) : Int))) = true then (if (decide (0 <= j_at') && decide (j_at' < ((text.size : Nat) : Int))) = true then (if (decide (((text.data.getD j_at'.toNat 0).toNat : Int) ≥ 48)) = true then (if (decide (0 <= j_at') && decide (j_at' < ((text.size : Nat) : Int))) = true then (if (decide (((text.data.getD j_at'.toNat 0).toNat : Int) <= 57)) = true then (if (decide ((wI (j_at' - j_at)) < 3)) = true then (if (decide (0 <= j_at') && decide (j_at' < ((text.size : Nat) : Int))) = true then ZH8 (wI ((wI (10 * j_n)) + (wI (IntKind.u8.wrap (((text.data.getD j_at'.toNat 0).toNat : Int) - 48))))) (wI (j_at' + 1)) else none) else (if (j_at' == j_at) = true then some ((0, []), false) else (if (decide ((wI (j_at' - j_at)) > 1)) = true then (if (decide (0 <= j_at) && decide (j_at < ((text.size : Nat) : Int))) = true then (if (((text.data.getD j_at.toNat 0).toNat : Int) == 48) = true then some ((0, []), false) else (if (decide (j_n ≥ p)) = true then some ((0, []), false) else (if (Nat.ble 0 1 && Nat.ble (m12 + 1) 2000000 && Nat.beq 1 (1)) = true then (if (j_at' == ((text.size : Nat) : Int)) = true then some ((m12 + 1, l12 ++ [j_n]), ((m12 + 1 : Nat) : Int) == count) else (if (decide (0 <= j_at') && decide (j_at' < ((text.size : Nat) : Int))) = true then (if (((text.data.getD j_at'.toNat 0).toNat : Int) != 44) = true then some ((0, []), false) else (if (((m12 + 1 : Nat) : Int) == count) = true then some ((0, []), false) else Z2b (l12 ++ [j_n]) (m12 + 1) (wI (j_at' + 1)))) else none)) else none))) else none) else (if (decide (j_n ≥ p)) = true then some ((0, []), false) else (if (Nat.ble 0 1 && Nat.ble (m12 + 1) 2000000 && Nat.beq 1 (1)) = true then (if (j_at' == ((text.size : Nat) : Int)) = true then some ((m12 + 1, l12 ++ [j_n]), ((m12 + 1 : Nat) : Int) == count) else (if (decide (0 <= j_at') && decide (j_at' < ((text.size : Nat) : Int))) = true then (if (((text.data.getD j_at'.toNat 0).toNat : Int) != 44) = true then some ((0, []), false) else (if (((m12 + 1 : Nat) : Int) == count) = true then some ((0, []), false) else Z2b (l12 ++ [j_n]) (m12 + 1) (wI (j_at' + 1)))) else none)) else none))))) else (if (j_at' == j_at) = true then some ((0, []), false) else (if (decide ((wI (j_at' - j_at)) > 1)) = true then (if (decide (0 <= j_at) && decide (j_at < ((text.size : Nat) : Int))) = true then (if (((text.data.getD j_at.toNat 0).toNat : Int) == 48) = true then some ((0, []), false) else (if (decide (j_n ≥ p)) = true then some ((0, []), false) else (if (Nat.ble 0 1 && Nat.ble (m12 + 1) 2000000 && Nat.beq 1 (1)) = true then (if (j_at' == ((text.size : Nat) : Int)) = true then some ((m12 + 1, l12 ++ [j_n]), ((m12 + 1 : Nat) : Int) == count) else (if (decide (0 <= j_at') && decide (j_at' < ((text.size : Nat) : Int))) = true then (if (((text.data.getD j_at'.toNat 0).toNat : Int) != 44) = true then some ((0, []), false) else (if (((m12 + 1 : Nat) : Int) == count) = true then some ((0, []), false) else Z2b (l12 ++ [j_n]) (m12 + 1) (wI (j_at' + 1)))) else none)) else none))) else none) else (if (decide (j_n ≥ p)) = true then some ((0, []), false) else (if (Nat.ble 0 1 && Nat.ble (m12 + 1) 2000000 && Nat.beq 1 (1)) = true then (if (j_at' == ((text.size : Nat) : Int)) = true then some ((m12 + 1, l12 ++ [j_n]), ((m12 + 1 : Nat) : Int) == count) else (if (decide (0 <= j_at') && decide (j_at' < ((text.size : Nat) : Int))) = true then (if (((text.data.getD j_at'.toNat 0).toNat : Int) != 44) = true then some ((0, []), false) else (if (((m12 + 1 : Nat) : Int) == count) = true then some ((0, []), false) else Z2b (l12 ++ [j_n]) (m12 + 1) (wI (j_at' + 1)))) else none)) else none))))) else none) else (if (j_at' == j_at) = true then some ((0, []), false) else (if (decide ((wI (j_at' - j_at)) > 1)) = true then (if (decide (0 <= j_at) && decide (j_at < ((text.size : Nat) : Int))) = true then (if (((text.data.getD j_at.toNat 0).toNat : Int) == 48) = true then some ((0, []), false) else (if (decide (j_n ≥ p)) = true then some ((0, []), false) else (if (Nat.ble 0 1 && Nat.ble (m12 + 1) 2000000 && Nat.beq 1 (1)) = true then (if (j_at' == ((text.size : Nat) : Int)) = true then some ((m12 + 1, l12 ++ [j_n]), ((m12 + 1 : Nat) : Int) == count) else (if (decide (0 <= j_at') && decide (j_at' < ((text.size : Nat) : Int))) = true then (if (((text.data.getD j_at'.toNat 0).toNat : Int) != 44) = true then some ((0, []), false) else (if (((m12 + 1 : Nat) : Int) == count) = true then some ((0, []), false) else Z2b (l12 ++ [j_n]) (m12 + 1) (wI (j_at' + 1)))) else none)) else none))) else none) else (if (decide (j_n ≥ p)) = true then some ((0, []), false) else (if (Nat.ble 0 1 && Nat.ble (m12 + 1) 2000000 && Nat.beq 1 (1)) = true then (if (j_at' == ((text.size : Nat) : Int)) = true then some ((m12 + 1, l12 ++ [j_n]), ((m12 + 1 : Nat) : Int) == count) else (if (decide (0 <= j_at') && decide (j_at' < ((text.size : Nat) : Int))) = true then (if (((text.data.getD j_at'.toNat 0).toNat : Int) != 44) = true then some ((0, []), false) else (if (((m12 + 1 : Nat) : Int) == count) = true then some ((0, []), false) else Z2b (l12 ++ [j_n]) (m12 + 1) (wI (j_at' + 1)))) else none)) else none))))) else none) else (if (j_at' == j_at) = true then some ((0, []), false) else (if (decide ((wI (j_at' - j_at)) > 1)) = true then (if (decide (0 <= j_at) && decide (j_at < ((text.size : Nat) : Int))) = true then (if (((text.data.getD j_at.toNat 0).toNat : Int) == 48) = true then some ((0, []), false) else (if (decide (j_n ≥ p)) = true then some ((0, []), false) else (if (Nat.ble 0 1 && Nat.ble (m12 + 1) 2000000 && Nat.beq 1 (1)) = true then (if (j_at' == ((text.size : Nat) : Int)) = true then some ((m12 + 1, l12 ++ [j_n]), ((m12 + 1 : Nat) : Int) == count) else (if (decide (0 <= j_at') && decide (j_at' < ((text.size : Nat) : Int))) = true then (if (((text.data.getD j_at'.toNat 0).toNat : Int) != 44) = true then some ((0, []), false) else (if (((m12 + 1 : Nat) : Int) == count) = true then some ((0, []), false) else Z2b (l12 ++ [j_n]) (m12 + 1) (wI (j_at' + 1)))) else none)) else none))) else none) else (if (decide (j_n ≥ p)) = true then some ((0, []), false) else (if (Nat.ble 0 1 && Nat.ble (m12 + 1) 2000000 && Nat.beq 1 (1)) = true then (if (j_at' == ((text.size : Nat) : Int)) = true then some ((m12 + 1, l12 ++ [j_n]), ((m12 + 1 : Nat) : Int) == count) else (if (decide (0 <= j_at') && decide (j_at' < ((text.size : Nat) : Int))) = true then (if (((text.data.getD j_at'.toNat 0).toNat : Int) != 44) = true then some ((0, []), false) else (if (((m12 + 1 : Nat) : Int) == count) = true then some ((0, []), false) else Z2b (l12 ++ [j_n]) (m12 + 1) (wI (j_at' + 1)))) else none)) else none)))))
def Z2G (fu : Nat) (p : Int) (text : ByteArray) (count : Int) (l12 : List Int) (m12 : Nat) (j_at : Int) (Z2b : (List Int) -> Nat -> Int -> Option ((Nat × List Int) × Bool)) : Nat -> Int -> Int -> Option ((Nat × List Int) × Bool)
 | 0, _, _ => none
 | f + 1, j_n, j_at' => Z6J p text count l12 m12 j_at Z2b (Z2G fu p text count l12 m12 j_at Z2b f) j_n j_at'
theorem ZmZ (fu : Nat) (p : Int) (text : ByteArray) (count : Int) (l12 : List Int) (m12 : Nat) (j_at : Int) (rc2 : Tab -> Option ((Nat × List Int) × Bool)) : ∀ (f : Nat) (j_n : Int) (j_at' : Int), Z4Q prog fu p text count l12 m12 j_at rc2 f j_n j_at' = Z2G fu p text count l12 m12 j_at (fun l12 m12 j_at => rc2 (Z4O p text count l12 m12 j_at)) f j_n j_at' := by
 intro f
 induction f with
 | zero => intros; rfl
 | succ f ih =>
  intro j_n j_at'
  have h1 : Z4Q prog fu p text count l12 m12 j_at rc2 (f + 1) j_n j_at' = Z6J p text count l12 m12 j_at (fun l12 m12 j_at => rc2 (Z4O p text count l12 m12 j_at)) (Z4Q prog fu p text count l12 m12 j_at rc2 f) j_n j_at' := by kernel_rfl
  have h2 : Z4Q prog fu p text count l12 m12 j_at rc2 f = Z2G fu p text count l12 m12 j_at (fun l12 m12 j_at => rc2 (Z4O p text count l12 m12 j_at)) f := by funext j_n j_at'; exact ih j_n j_at'
  rw [h1, h2]
  rfl
def Z3n (P : Program) (fu : Nat) (p : Int) (text : ByteArray) (count : Int) (f : Nat) (l12 : List Int) (m12 : Nat) (j_at : Int) : Option ((Nat × List Int) × Bool) := Z1u (exec P Z2V 91 (Z6b fu []) (Code.sub [1, 1, 1, 0, 0] (ZS P 118))) f (Z4O p text count l12 m12 j_at) (Z0g 0 (finT P 118 Z73))
def Zhp (p : Int) (text : ByteArray) (count : Int) (lo3 : Int -> Int -> Option ((Nat × List Int) × Bool)) (Z2b : (List Int) -> Nat -> Int -> Option ((Nat × List Int) × Bool)) (l12 : List Int) (m12 : Nat) (j_at : Int) : Option ((Nat × List Int) × Bool) :=
 lo3 0 j_at
def Z0B (fu : Nat) (p : Int) (text : ByteArray) (count : Int) : Nat -> (List Int) -> Nat -> Int -> Option ((Nat × List Int) × Bool)
 | 0, _, _, _ => none
 | f + 1, l12, m12, j_at => Zhp p text count (Z2G fu p text count l12 m12 j_at (Z0B fu p text count f) fu) (Z0B fu p text count f) l12 m12 j_at
theorem ZmY (fu : Nat) (p : Int) (text : ByteArray) (count : Int) : ∀ (f : Nat) (l12 : List Int) (m12 : Nat) (j_at : Int), Z3n prog fu p text count f l12 m12 j_at = Z0B fu p text count f l12 m12 j_at := by
 intro f
 induction f with
 | zero => intros; rfl
 | succ f ih =>
  intro l12 m12 j_at
  have h1 : Z3n prog fu p text count (f + 1) l12 m12 j_at = Zhp p text count (Z4Q prog fu p text count l12 m12 j_at (fun t => Z1u (exec prog Z2V 91 (Z6b fu []) (Code.sub [1, 1, 1, 0, 0] (ZS prog 118))) f t (Z0g 0 (finT prog 118 Z73))) fu) (Z3n prog fu p text count f) l12 m12 j_at := by kernel_rfl
  have h2 : Z3n prog fu p text count f = Z0B fu p text count f := by funext l12 m12 j_at; exact ih l12 m12 j_at
  have c3 : (Z4Q prog fu p text count l12 m12 j_at (fun t => Z1u (exec prog Z2V 91 (Z6b fu []) (Code.sub [1, 1, 1, 0, 0] (ZS prog 118))) f t (Z0g 0 (finT prog 118 Z73))) fu) = Z2G fu p text count l12 m12 j_at (Z3n prog fu p text count f) fu := by funext j_n j_at'; exact ZmZ fu p text count l12 m12 j_at (fun t => Z1u (exec prog Z2V 91 (Z6b fu []) (Code.sub [1, 1, 1, 0, 0] (ZS prog 118))) f t (Z0g 0 (finT prog 118 Z73))) fu j_n j_at'
  rw [h1, c3, h2]
  rfl
def Zf5 (p : Int) (text : ByteArray) (count : Int) (lo2 : (List Int) -> Nat -> Int -> Option ((Nat × List Int) × Bool)) : Option ((Nat × List Int) × Bool) :=
 lo2 [] 0 0
def Zd6 (fu : Nat) (p : Int) (text : ByteArray) (count : Int) : Option ((Nat × List Int) × Bool) := Zf5 p text count (Z0B fu p text count fu)
theorem ZuL (fu : Nat) (p : Int) (text : ByteArray) (count : Int) : ZmO prog Z2V 118 91 (Z6b fu []) Z73 [.v (.int .i64 p), .v (.string text), .v (.int .i64 count)] = Zd6 fu p text count := by
 have h1 : ZmO prog Z2V 118 91 (Z6b fu []) Z73 [.v (.int .i64 p), .v (.string text), .v (.int .i64 count)] = Zf5 p text count (Z3n prog fu p text count fu) := by kernel_rfl
 have c2 : Z3n prog fu p text count fu = Z0B fu p text count fu := by funext l12 m12 j_at; exact ZmY fu p text count fu l12 m12 j_at
 rw [h1, c2]
 rfl
abbrev RdR := Option ((Nat × List Int) × Bool)
def ZH7 (p : Int) (text : ByteArray) (count : Int) (l12 : List Int) (m12 : Nat) (Z2b : List Int -> Nat -> Int -> RdR) (j_n j_at' : Int) : RdR :=
 (if (decide (j_n ≥ p)) = true then some ((0, []), false) else (if (Nat.ble 0 1 && Nat.ble (m12 + 1) 2000000 && Nat.beq 1 (1)) = true then (if (j_at' == ((text.size : Nat) : Int)) = true then some ((m12 + 1, l12 ++ [j_n]), ((m12 + 1 : Nat) : Int) == count) else (if (decide (0 <= j_at') && decide (j_at' < ((text.size : Nat) : Int))) = true then (if (((text.data.getD j_at'.toNat 0).toNat : Int) != 44) = true then some ((0, []), false) else (if (((m12 + 1 : Nat) : Int) == count) = true then some ((0, []), false) else Z2b (l12 ++ [j_n]) (m12 + 1) (wI (j_at' + 1)))) else none)) else none))
def Zvp (p : Int) (text : ByteArray) (count : Int) (l12 : List Int) (m12 : Nat) (j_at : Int) (Z2b : List Int -> Nat -> Int -> RdR) (j_n j_at' : Int) : RdR :=
 (if (j_at' == j_at) = true then some ((0, []), false) else (if (decide ((wI (j_at' - j_at)) > 1)) = true then (if (decide (0 <= j_at) && decide (j_at < ((text.size : Nat) : Int))) = true then (if (((text.data.getD j_at.toNat 0).toNat : Int) == 48) = true then some ((0, []), false) else (ZH7 p text count l12 m12 Z2b j_n j_at')) else none) else (ZH7 p text count l12 m12 Z2b j_n j_at')))
theorem rdB (p : Int) (text : ByteArray) (count : Int) (l12 : List Int) (m12 : Nat) (j_at : Int) (Z2b : List Int -> Nat -> Int -> RdR) (ZH8 : Int -> Int -> RdR) (j_n j_at' : Int) : Z6J p text count l12 m12 j_at Z2b ZH8 j_n j_at' =
 (if (decide (j_at' < ((text.size : Nat) : Int))) = true then (if (decide (0 <= j_at') && decide (j_at' < ((text.size : Nat) : Int))) = true then (if (decide (((text.data.getD j_at'.toNat 0).toNat : Int) ≥ 48)) = true then (if (decide (0 <= j_at') && decide (j_at' < ((text.size : Nat) : Int))) = true then (if (decide (((text.data.getD j_at'.toNat 0).toNat : Int) <= 57)) = true then (if (decide ((wI (j_at' - j_at)) < 3)) = true then (if (decide (0 <= j_at') && decide (j_at' < ((text.size : Nat) : Int))) = true then ZH8 (wI ((wI (10 * j_n)) + (wI (IntKind.u8.wrap (((text.data.getD j_at'.toNat 0).toNat : Int) - 48))))) (wI (j_at' + 1)) else none) else Zvp p text count l12 m12 j_at Z2b j_n j_at') else Zvp p text count l12 m12 j_at Z2b j_n j_at') else none) else Zvp p text count l12 m12 j_at Z2b j_n j_at') else none) else Zvp p text count l12 m12 j_at Z2b j_n j_at') := rfl
def ZaP (l : List Int) (m : Nat) (t : List UInt8) (Z2b : List Int -> Nat -> Int -> RdR) (n : Nat) (e : Int) : RdR :=
 if t = [] then some ((m + 1, l ++ [(n : Int)]), ((m + 1 : Nat) : Int) == 2) else if ((m + 1 : Nat) : Int) = 2 then some ((0, []), false) else Z2b (l ++ [(n : Int)]) (m + 1) e
def Zph (p : Int) (l : List Int) (m : Nat) (x t : List UInt8) (Z2b : List Int -> Nat -> Int -> RdR) (e : Int) : RdR := match numP p x with
 | some n => ZaP l m t Z2b n e
 | none => some ((0, []), false)
theorem ZMe {A D : Nat} (h : A + D <= 1048576) : wI (((A + D : Nat) : Int) - (A : Int)) = (D : Int) := by rw [Zz]; unfold wrap64; omega
theorem ZM0 {p : Int} (hp : p <= 31) {text : ByteArray} (hz : text.size <= 1048576) {A x t D E : List UInt8} (h : toL text = A ++ x ++ t) (hx : (44 : UInt8) ∉ x) (ht : t = [] \/ ∃ r, t = 44 :: r) (l : List Int) {m : Nat} (hm : m <= 5) (Z2b : List Int -> Nat -> Int -> RdR)
  (e : x = D ++ E) (hD : ∀ c ∈ D, dgt c = true) (h3 : D.length <= 3) {a : Nat} (hv : valF 0 D = some a) (hE : E = [] \/ ∃ c E', E = c :: E' /\ (¬ dgt c = true \/ D.length = 3)) :
  Zvp p text 2 l m (A.length : Int) Z2b (a : Int) ((A.length + D.length : Nat) : Int) = Zph p l m x t Z2b ((A.length + x.length + 1 : Nat) : Int) := by
 have hsz : text.size = A.length + D.length + E.length + t.length := by rw [ZX, h, e]; simp; omega
 have hbad : E ≠ [] -> p <= (a : Int) \/ (∃ c E', E = c :: E' /\ ¬ dgt c = true) \/ (∃ d D', D = d :: D' /\ d = 48) -> numP p x = none \/ (1 < D.length /\ D.getD 0 0 = 48) := by
  intro hne hk
  rcases hE with h0 | ⟨c, E', hc, hk2⟩
  ·exact absurd h0 hne
  by_cases hd : dgt c = true
  ·have hl : D.length = 3 := by rcases hk2 with q | q; exact absurd hd q; exact q
   rcases hk with q | ⟨c', E'', q1, q2⟩ | ⟨d, D', q1, q2⟩
   ·left
    refine Zn1 fun n hn => ?_
    obtain ⟨b, hb1, hb2⟩ := ZtH D E 0 hD
    rw [hv] at hb1
    obtain rfl : a = b := by simpa using hb1
    rw [e, hb2] at hn
    have := ZHz E a n hn
    have h1 : 10 ^ 0 <= 10 ^ E.length := Nat.pow_le_pow_right (by decide) (Nat.zero_le _)
    rw [Nat.pow_zero] at h1
    have h2 : a * 1 <= a * 10 ^ E.length := Nat.mul_le_mul_left a h1
    omega
   ·rw [hc] at q1
    simp only [List.cons.injEq] at q1
    obtain ⟨rfl, rfl⟩ := q1
    exact absurd hd q2
   ·right
    exact ⟨by omega, by rw [q1, q2]; rfl⟩
  ·left
   refine Zn1 fun n hn => ?_
   rw [e, hc, ZCs hd hD] at hn
   cases hn
 have hgood : E = [] -> x = D := fun q => by rw [e, q, List.append_nil]
 unfold Zvp Zph
 cases hDc : D with
 | nil =>
  rw [if_pos (by simp)]
  have : numP p x = none := by
   rcases hE with q | ⟨c, E', hc, hk2⟩
   ·rw [hgood q, hDc]; rfl
   ·have hd : ¬ dgt c = true := by rcases hk2 with q | q; exact q; rw [hDc] at q; simp at q
    refine Zn1 fun n hn => ?_
    rw [e, hc, ZCs hd hD] at hn
    cases hn
  rw [this]
 | cons d0 D' =>
  have hat : text.data.getD A.length 0 = d0 := by
   refine Zgz (D := A) (Q := D' ++ E ++ t) ?_
   rw [h, e, hDc]; simp
  have hgd : D.getD 0 0 = d0 := by rw [hDc]; rfl
  have hxg : x.getD 0 0 = d0 := by rw [e, hDc]; rfl
  have hxl : x.length = D.length + E.length := by rw [e]; simp
  have hdd : dgt d0 = true := hD d0 (by rw [hDc]; simp)
  rw [<- hDc, if_neg (by rw [hDc]; simp; omega), ZMe (by omega)]
  have hrest : ¬ (1 < D.length /\ d0 = 48) -> ZH7 p text 2 l m Z2b (a : Int) ((A.length + D.length : Nat) : Int) = (match numP p x with | some n => ZaP l m t Z2b n ((A.length + x.length + 1 : Nat) : Int) | none => some ((0, []), false)) := by
   intro hno
   unfold ZH7
   by_cases hap : p <= (a : Int)
   ·rw [if_pos (by simpa using hap)]
    have : numP p x = none := by
     by_cases hE0 : E = []
     ·refine Zn1 fun n hn => ?_
      rw [hgood hE0, hv] at hn
      simp at hn
      omega
     ·rcases hbad hE0 (.inl hap) with q | q
      ·exact q
      ·exact absurd ⟨q.1, by rw [<- hgd]; exact q.2⟩ hno
    rw [this]
   ·rw [if_neg (by simpa using hap), if_pos (ZpL (by omega))]
    rcases hE with hE0 | ⟨c, E', hc, hk2⟩
    ·have hxD := hgood hE0
     have hg : numP p x = some a := ZMW (by rw [hxD, hDc]; simp) (by rw [hxD]; omega) (by rw [hxD, hgd]; exact hno) (by rw [hxD]; exact hv) (by omega)
     rw [hg]
     show _ = ZaP l m t Z2b a _
     unfold ZaP
     have hE1 : E.length = 0 := by rw [hE0]; rfl
     rcases ht with ht | ⟨r, ht⟩
     ·rw [if_pos (by rw [hsz, ht, hE1]; simp), if_pos ht]
     ·have htl : t.length = r.length + 1 := by rw [ht]; rfl
      have h44 : text.data.getD (A.length + D.length) 0 = 44 := by
       have := Zgz (s := text) (D := A ++ D) (Q := r) (c := 44) (by rw [h, hxD, ht])
       rw [List.length_append] at this
       exact this
      rw [if_neg (by rw [hsz, htl, hE1]; simp; omega), if_pos (by rw [hsz, htl]; simp; omega), Int.toNat_natCast, h44, if_neg (by decide)]
      have hw : wI (((A.length + D.length : Nat) : Int) + 1) = ((A.length + x.length + 1 : Nat) : Int) := by rw [hxD]; exact Z1O (n := text.size) (by omega) (by omega)
      rw [hw]
      by_cases h2 : ((m + 1 : Nat) : Int) = 2
      ·rw [if_pos (by rw [h2]; rfl), if_neg (by rw [ht]; simp), if_pos h2]
      ·rw [if_neg (fun q => h2 (eq_of_beq q)), if_neg (by rw [ht]; simp), if_neg h2]
    ·have hEl : E.length = E'.length + 1 := by rw [hc]; rfl
     have hcc : text.data.getD (A.length + D.length) 0 = c := by
      have := Zgz (s := text) (D := A ++ D) (Q := E' ++ t) (c := c) (by rw [h, e, hc]; simp)
      rw [List.length_append] at this
      exact this
     have hc44 : c ≠ 44 := fun q => hx (by rw [e, hc, q]; simp)
     rw [if_neg (by rw [hsz, hEl]; simp; omega), if_pos (by rw [hsz, hEl]; simp; omega), Int.toNat_natCast, hcc, if_pos (bne_iff_ne.2 fun q => hc44 (UInt8.toNat_inj.1 (by show c.toNat = 44; omega)))]
     have : numP p x = none := by
      by_cases hd : dgt c = true
      ·have hl : D.length = 3 := by rcases hk2 with q | q; exact absurd hd q; exact q
       have := ZNa (d := d0) (D := D') (by rw [<- hDc]; exact hl) hdd (fun q => hno ⟨by omega, q⟩) (by rw [<- hDc]; exact hv)
       omega
      ·refine Zn1 fun n hn => ?_
       rw [e, hc, ZCs hd hD] at hn
       cases hn
     rw [this]
  by_cases h1 : 1 < D.length
  ·rw [if_pos (by simp; omega), if_pos (by rw [hsz]; simp; omega), Int.toNat_natCast, hat]
   by_cases h48 : d0 = 48
   ·rw [if_pos (by rw [h48]; rfl), ZMX (by omega) (by rw [hxg]; exact h48)]
   ·rw [if_neg (fun q => h48 (UInt8.toNat_inj.1 (by have := eq_of_beq q; show d0.toNat = 48; omega)))]
    exact hrest fun q => h48 q.2
  ·rw [if_neg (by simp; omega)]
   exact hrest fun q => h1 q.1
theorem ZQ0 (fu : Nat) {p : Int} (hp : p <= 31) {text : ByteArray} (hz : text.size <= 1048576) {A x t : List UInt8} (h : toL text = A ++ x ++ t) (hx : (44 : UInt8) ∉ x) (ht : t = [] \/ ∃ r, t = 44 :: r) (l : List Int) {m : Nat} (hm : m <= 5) (Z2b : List Int -> Nat -> Int -> RdR) :
  ∀ (E D : List UInt8) (a F : Nat), x = D ++ E -> (∀ c ∈ D, dgt c = true) -> D.length <= 3 -> valF 0 D = some a -> a < 10 ^ D.length -> 4 <= F + D.length ->
   Z2G fu p text 2 l m (A.length : Int) Z2b F (a : Int) ((A.length + D.length : Nat) : Int) = Zph p l m x t Z2b ((A.length + x.length + 1 : Nat) : Int)
 | E, D, a, 0, _, _, h3, _, _, hF => absurd hF (by omega)
 | [], D, a, F + 1, e, hD, h3, hv, _, _ => by
  have hst := ZM0 hp hz h hx ht l hm Z2b e hD h3 hv (.inl rfl)
  have hsz : text.size = A.length + D.length + t.length := by rw [ZX, h, e]; simp; omega
  show Z6J p text 2 l m (A.length : Int) Z2b (Z2G fu p text 2 l m (A.length : Int) Z2b F) (a : Int) ((A.length + D.length : Nat) : Int) = _
  rw [rdB]
  rcases ht with ht | ⟨r, ht⟩
  ·rw [if_neg (by rw [hsz, ht]; simp)]
   exact hst
  ·have htl : t.length = r.length + 1 := by rw [ht]; rfl
   have h44 : text.data.getD (A.length + D.length) 0 = 44 := by
    have := Zgz (s := text) (D := A ++ D) (Q := r) (c := 44) (by rw [h, e, ht]; simp)
    rw [List.length_append] at this
    exact this
   rw [if_pos (by rw [hsz, htl]; simp; omega), if_pos (by rw [hsz, htl]; simp; omega), Int.toNat_natCast, h44, if_neg (by decide)]
   exact hst
 | c :: E, D, a, F + 1, e, hD, h3, hv, ha, hF => by
  have hsz : text.size = A.length + D.length + (E.length + 1) + t.length := by rw [ZX, h, e]; simp; omega
  have hcc : text.data.getD (A.length + D.length) 0 = c := by
   have := Zgz (s := text) (D := A ++ D) (Q := E ++ t) (c := c) (by rw [h, e]; simp)
   rw [List.length_append] at this
   exact this
  have hin : (decide (0 <= ((A.length + D.length : Nat) : Int)) && decide (((A.length + D.length : Nat) : Int) < ((text.size : Nat) : Int))) = true := by rw [hsz]; simp; omega
  have hst : (¬ dgt c = true \/ D.length = 3) -> _ := fun q => ZM0 hp hz h hx ht l hm Z2b e hD h3 hv (.inr ⟨c, E, rfl, q⟩)
  show Z6J p text 2 l m (A.length : Int) Z2b (Z2G fu p text 2 l m (A.length : Int) Z2b F) (a : Int) ((A.length + D.length : Nat) : Int) = _
  rw [rdB, if_pos (by rw [hsz]; simp; omega), if_pos hin, Int.toNat_natCast, hcc]
  by_cases hd : dgt c = true
  ·obtain ⟨d1, d2⟩ := Z7W.1 hd
   rw [if_pos (by simp; omega), if_pos hin, if_pos (by simp; omega), ZMe (by omega)]
   by_cases hl : D.length = 3
   ·rw [if_neg (by simp; omega)]
    exact hst (.inr hl)
   ·have hp4 : 10 ^ D.length <= 1000 := Nat.le_trans (Nat.pow_le_pow_right (by decide) h3) (by decide)
    have e1 : wI (10 * (a : Int)) = ((a * 10 : Nat) : Int) := by rw [Zz]; unfold wrap64; omega
    have e2 : wI (((a * 10 : Nat) : Int) + ((c.toNat - 48 : Nat) : Int)) = ((a * 10 + (c.toNat - 48) : Nat) : Int) := by rw [Zz]; unfold wrap64; omega
    have e3 : wI (((A.length + D.length : Nat) : Int) + 1) = ((A.length + (D ++ [c]).length : Nat) : Int) := by rw [List.length_append]; exact Z1O (n := text.size) (by omega) (by omega)
    rw [if_pos (by simp; omega), if_pos hin, ZgH hd, e1, e2, e3]
    refine ZQ0 fu hp hz h hx ht l hm Z2b E (D ++ [c]) (a * 10 + (c.toNat - 48)) F (by rw [e]; simp) (fun y hy => ?_) (by simp; omega) ?_ (by rw [List.length_append]; exact Zj4 ha (by omega)) (by simp; omega)
    ·rcases List.mem_append.1 hy with q | q
     ·exact hD y q
     ·simp at q; rw [q]; exact hd
    ·obtain ⟨b, hb1, hb2⟩ := ZtH D [c] 0 hD
     rw [hv] at hb1
     obtain rfl : a = b := by simpa using hb1
     rw [hb2, valF, if_pos hd]
     rfl
  ·by_cases h1 : 48 <= c.toNat
   ·have h2 : ¬ c.toNat <= 57 := fun q => hd (Z7W.2 ⟨h1, q⟩)
    rw [if_pos (by simp; omega), if_pos hin, if_neg (by simp; omega)]
    exact hst (.inl hd)
   ·rw [if_neg (by simp; omega)]
    exact hst (.inl hd)
def ZnT (p : Int) : List (List UInt8) -> (Nat × List Int) × Bool
 | [x] => match numP p x with | some n => ((1, [(n : Int)]), false) | none => ((0, []), false)
 | x :: y :: r => match numP p x with
  | some n => (match numP p y with
   | some k => if r = [] then ((2, [(n : Int), (k : Int)]), true) else ((0, []), false)
   | none => ((0, []), false))
  | none => ((0, []), false)
 | [] => ((0, []), false)
theorem ZwO (p : Int) (x : List UInt8) : ZnT p [x] = (match numP p x with | some n => ((1, [(n : Int)]), false) | none => ((0, []), false)) := rfl
theorem Zev (p : Int) (x y : List UInt8) (r : List (List UInt8)) : ZnT p (x :: y :: r) = (match numP p x with
  | some n => (match numP p y with
   | some k => if r = [] then ((2, [(n : Int), (k : Int)]), true) else ((0, []), false)
   | none => ((0, []), false))
  | none => ((0, []), false)) := rfl
theorem ZQu (fu : Nat) (h4 : 4 <= fu) {p : Int} (hp : p <= 31) {text : ByteArray} (hz : text.size <= 1048576) (f : Nat) : Z0B fu p text 2 (f + 2) [] 0 0 = some (ZnT p (spL 44 (toL text))) := by
 have step : ∀ (f : Nat) (l : List Int) (m : Nat) (A x t : List UInt8), toL text = A ++ x ++ t -> (44 : UInt8) ∉ x -> (t = [] \/ ∃ r, t = 44 :: r) -> m <= 5 -> Z0B fu p text 2 (f + 1) l m (A.length : Int) = Zph p l m x t (Z0B fu p text 2 f) ((A.length + x.length + 1 : Nat) : Int) := by
  intro f l m A x t h hx ht hm
  have := ZQ0 fu hp hz h hx ht l hm (Z0B fu p text 2 f) x [] 0 fu rfl (fun c hc => by cases hc) (by simp) rfl (by decide) (by simp; omega)
  have z : ((0 : Nat) : Int) = 0 := rfl
  rw [List.length_nil, Nat.add_zero, z] at this
  exact this
 rcases ZnW 44 (toL text) with ⟨h1, h2⟩ | ⟨x, r, h1, h2, h3⟩
 ·have s1 := step (f + 1) [] 0 [] (toL text) [] (by simp) h1 (.inl rfl) (by decide)
  refine Eq.trans s1 ?_
  rw [h2, ZwO]
  unfold Zph
  generalize Z0B fu p text 2 (f + 1) = R
  cases numP p (toL text) with
  | none => rfl
  | some n =>
   show ZaP [] 0 [] R n _ = _
   unfold ZaP
   rw [if_pos rfl]
   rfl
 ·have s1 := step (f + 1) [] 0 [] x (44 :: r) (by rw [h2]; simp) h1 (.inr ⟨r, rfl⟩) (by decide)
  refine Eq.trans s1 ?_
  rw [h3]
  cases hn : numP p x with
  | none =>
   unfold Zph
   rw [hn]
   cases hr : spL 44 r with
   | nil => exact absurd hr (ZvI 44 r)
   | cons y q => rw [Zev, hn]
  | some n =>
   have e0 : Zph p [] 0 x (44 :: r) (Z0B fu p text 2 (f + 1)) (((([] : List UInt8).length + x.length + 1 : Nat) : Int)) = Z0B fu p text 2 (f + 1) [(n : Int)] 1 (((x ++ [44]).length : Nat) : Int) := by
    rw [show ([] : List UInt8).length + x.length + 1 = (x ++ [44]).length by simp]
    unfold Zph
    rw [hn]
    show ZaP [] 0 (44 :: r) _ n _ = _
    unfold ZaP
    rw [if_neg (by simp), if_neg (by decide)]
    rfl
   refine Eq.trans e0 ?_
   rcases ZnW 44 r with ⟨k1, k2⟩ | ⟨y, r2, k1, k2, k3⟩
   ·refine Eq.trans (step f [(n : Int)] 1 (x ++ [44]) r [] (by rw [h2]; simp) k1 (.inl rfl) (by decide)) ?_
    rw [k2, Zev, hn]
    unfold Zph
    generalize Z0B fu p text 2 f = R
    cases numP p r with
    | none => rfl
    | some k =>
     show ZaP [(n : Int)] 1 [] R k _ = _
     unfold ZaP
     rw [if_pos rfl]
     dsimp only
     rw [if_pos rfl]
     rfl
   ·refine Eq.trans (step f [(n : Int)] 1 (x ++ [44]) y (44 :: r2) (by rw [h2, k2]; simp) k1 (.inr ⟨r2, rfl⟩) (by decide)) ?_
    rw [k3, Zev, hn]
    unfold Zph
    generalize Z0B fu p text 2 f = R
    cases numP p y with
    | none => rfl
    | some k =>
     show ZaP [(n : Int)] 1 (44 :: r2) R k _ = _
     unfold ZaP
     rw [if_neg (by simp), if_pos (by decide)]
     dsimp only
     rw [if_neg (ZvI 44 r2)]
def Zvq (p : Int) (text : ByteArray) (count : Int) : Bool := decide (p <= 31) && (Nat.ble text.size 1048576 && count == 2)
def Z2P (p : Int) (text : ByteArray) (count : Int) : (Nat × List Int) × Bool := ZnT p (spL 44 (toL text))
theorem Ztv (p : Int) (text : ByteArray) (count : Int) (hp : (Zvq p text count) = true) : Zd6 1000000 p text count = some (Z2P p text count) := by
 unfold Zvq at hp
 simp only [Bool.and_eq_true, decide_eq_true_eq] at hp
 obtain ⟨hp, hz, hc⟩ := hp
 obtain rfl := eq_of_beq hc
 unfold Zd6 Zf5 Z2P
 exact ZQu 1000000 (by decide) hp (Nat.le_of_ble_eq_true hz) 999998
def Zcx : RunP
 | [.v (.int .i64 p), .v (.string text), .v (.int .i64 count)] => some (Zvq p text count, ZAo (Z2P p text count))
 | _ => none
theorem ZoA : Sound prog 118 Zcx := by
 refine Zd ZMD Zu6 (by kernel_rfl) func118 ntmps118 rfl (by kernel_rfl) fun q r E => ?_
 unfold Zcx at E
 split at E
 ·obtain ⟨hp, rfl⟩ := so2 E
  rename_i p text count
  exact ⟨_, _, rfl, (ZuL _ p text count).trans (Ztv p text count hp)⟩
 ·cases E

end

end Go.Proofs.YtcdpfpfbilfpoaaGreatDoor
