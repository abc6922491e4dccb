import Derived.Test.YtcdpfpfbilfpoaaGreatDoorFe
import Derived.Test.YtcdpfpfbilfpoaaGreatDoorProg
import Derived.Test.YtcdpfpfbilfpoaaGreatDoorFf
set_option linter.unusedSimpArgs false
set_option linter.unusedVariables false
namespace Go.Proofs.YtcdpfpfbilfpoaaGreatDoor
open Go.RowKit Tryz
noncomputable section
def Zbf : Sums := ⟨tblS [(42, Z9y), (43, Z66), (15, Z8J)], tblM [], false⟩
theorem ZHN : Ze prog Zbf := ⟨Za ⟨⟨call42, ZdU⟩, ⟨call43, Z7M⟩, ⟨call15, Zb1⟩, ⟨⟩⟩, tM⟩
def ZFV (text : ByteArray) (Z1k Z1l : Int) (Z1m Z1n : Int) (Z1o Z1p : Int) (Z1q Z1r : Int) (out : ByteArray) (i : Int) : Tab := ⟨[.val (.string text), jK, .ptr 8 0, .val (.string (bs [])), vB (false), .sub 48 0 ((wI ((((Z7 text 10).1 : Nat) : Int) - 1)).toNat) 1, .ptr 24 0, .val (.string out), vI (i), jK, jK, .val (.string text), .row 48, .row 48, .row 48, vI ((((Z7 text 10).1 : Nat) : Int)), vI ((wI ((((Z7 text 10).1 : Nat) : Int) - 1))), .ptr 48 (((wI ((((Z7 text 10).1 : Nat) : Int) - 1)).toNat) * 1), .val (.string (((Z7 text 10).2).getD (((wI ((((Z7 text 10).1 : Nat) : Int) - 1)).toNat) * 1) ByteArray.empty)), vB ((eqS (((Z7 text 10).2).getD (((wI ((((Z7 text 10).1 : Nat) : Int) - 1)).toNat) * 1) ByteArray.empty) (bs []))), .row 48, .row 48, vI ((((Z7 text 10).1 : Nat) : Int)), vI ((wI ((((Z7 text 10).1 : Nat) : Int) - 1))), .sub 48 0 ((wI ((((Z7 text 10).1 : Nat) : Int) - 1)).toNat) 1, .val (.string text), vI (((text.size : Nat) : Int)), vB ((decide (((text.size : Nat) : Int) > 4000))), vB (false), .sub 48 0 ((wI ((((Z7 text 10).1 : Nat) : Int) - 1)).toNat) 1, vI ((((wI ((((Z7 text 10).1 : Nat) : Int) - 1)).toNat : Nat) : Int)), vB ((decide ((((wI ((((Z7 text 10).1 : Nat) : Int) - 1)).toNat : Nat) : Int) > 40))), vB ((decide ((((wI ((((Z7 text 10).1 : Nat) : Int) - 1)).toNat : Nat) : Int) > 40))), jK, .val (.agg ⟨[.int .i64 ((Zn 7).1), .int .i64 ((Zn 7).2.1), .int .i64 ((Zn 7).2.2.1), .int .i64 ((Zn 7).2.2.2.1), .int .i64 ((Zn 7).2.2.2.2.1), .int .i64 ((Zn 7).2.2.2.2.2.1), .int .i64 ((Zn 7).2.2.2.2.2.2.1), .int .i64 ((Zn 7).2.2.2.2.2.2.2)]⟩), ] ++ (jN 26 ++ [jK]), [(8, .box 28 [vI (0), vI (0), vI (0), vI (0), vI (0), vI (0), vI (0), vI (0)]), (24, .box 28 [vI (Z1k), vI (Z1l), vI (Z1m), vI (Z1n), vI (Z1o), vI (Z1p), vI (Z1q), vI (Z1r)]), (48, .row 9 1 ((Z7 text 10).1) (.strs ((Z7 text 10).2)))]⟩
def ZFW (text : ByteArray) (Z1k Z1l : Int) (Z1m Z1n : Int) (Z1o Z1p : Int) (Z1q Z1r : Int) (out : ByteArray) (i : Int) : Tab := ⟨[.val (.string text), jK, .ptr 8 0, .val (.string (bs [])), vB (false), .row 48, .ptr 24 0, .val (.string out), vI (i), jK, jK, .val (.string text), .row 48, .row 48, .row 48, vI ((((Z7 text 10).1 : Nat) : Int)), vI ((wI ((((Z7 text 10).1 : Nat) : Int) - 1))), .ptr 48 (((wI ((((Z7 text 10).1 : Nat) : Int) - 1)).toNat) * 1), .val (.string (((Z7 text 10).2).getD (((wI ((((Z7 text 10).1 : Nat) : Int) - 1)).toNat) * 1) ByteArray.empty)), vB ((eqS (((Z7 text 10).2).getD (((wI ((((Z7 text 10).1 : Nat) : Int) - 1)).toNat) * 1) ByteArray.empty) (bs []))), jK, jK, jK, jK, jK, .val (.string text), vI (((text.size : Nat) : Int)), vB ((decide (((text.size : Nat) : Int) > 4000))), vB (false), .row 48, vI ((((Z7 text 10).1 : Nat) : Int)), vB ((decide ((((Z7 text 10).1 : Nat) : Int) > 40))), vB ((decide ((((Z7 text 10).1 : Nat) : Int) > 40))), jK, .val (.agg ⟨[.int .i64 ((Zn 7).1), .int .i64 ((Zn 7).2.1), .int .i64 ((Zn 7).2.2.1), .int .i64 ((Zn 7).2.2.2.1), .int .i64 ((Zn 7).2.2.2.2.1), .int .i64 ((Zn 7).2.2.2.2.2.1), .int .i64 ((Zn 7).2.2.2.2.2.2.1), .int .i64 ((Zn 7).2.2.2.2.2.2.2)]⟩), ] ++ (jN 26 ++ [jK]), [(8, .box 28 [vI (0), vI (0), vI (0), vI (0), vI (0), vI (0), vI (0), vI (0)]), (24, .box 28 [vI (Z1k), vI (Z1l), vI (Z1m), vI (Z1n), vI (Z1o), vI (Z1p), vI (Z1q), vI (Z1r)]), (48, .row 9 1 ((Z7 text 10).1) (.strs ((Z7 text 10).2)))]⟩
def Z9O (P : Program) (fu : Nat) (text : ByteArray) (f : Nat) (Z1k Z1l : Int) (Z1m Z1n : Int) (Z1o Z1p : Int) (Z1q Z1r : Int) (out : ByteArray) (i : Int) : Option ((D8i) × ByteArray × Bool) := Z1u (exec P Zbf 62 (fun _ => fu + 100) (Code.sub [1, 1, 1, 1, 1, 0, 1, 0, 0] (ZS P 22))) f (ZFV text Z1k Z1l Z1m Z1n Z1o Z1p Z1q Z1r out i) (Z0g 0 (kSeq (fun zs9 => exec P Zbf 62 (fun _ => fu + 100) (Code.sub [1, 1, 1, 1, 1, 1] (ZS P 22)) zs9 (finT P 22 Z4W)) (finT P 22 Z4W)))
def Z9L (text : ByteArray) (Z1F : Int -> Int -> Int -> Int -> Int -> Int -> Int -> Int -> ByteArray -> Int -> Option ((D8i) × ByteArray × Bool)) (Z1k Z1l : Int) (Z1m Z1n : Int) (Z1o Z1p : Int) (Z1q Z1r : Int) (out : ByteArray) (i : Int) : Option ((D8i) × ByteArray × Bool) :=
 (if (decide (i < (((wI ((((Z7 text 10).1 : Nat) : Int) - 1)).toNat : Nat) : Int))) = true then (if (decide (0 <= i) && decide (i < (((wI ((((Z7 text 10).1 : Nat) : Int) - 1)).toNat : Nat) : Int))) = true then (if (Nat.ble (0 + (i.toNat * 1) + 1) (((Z7 text 10).2).length)) = true then (if (eqS (((Z7 text 10).2).getD (0 + (i.toNat * 1)) ByteArray.empty) (bs [])) = true then Z1F Z1k Z1l Z1m Z1n Z1o Z1p Z1q Z1r out (wI (i + 1)) else (if (decide (0 <= i) && decide (i < (((wI ((((Z7 text 10).1 : Nat) : Int) - 1)).toNat : Nat) : Int))) = true then (if (Nat.ble (0 + (i.toNat * 1) + 1) (((Z7 text 10).2).length)) = true then (if (Z3w (Z1k, Z1l, Z1m, Z1n, Z1o, Z1p, Z1q, Z1r) (((Z7 text 10).2).getD (0 + (i.toNat * 1)) ByteArray.empty)) = true then (if (Nat.ble (out.size + ((Zs (Z1k, Z1l, Z1m, Z1n, Z1o, Z1p, Z1q, Z1r) (((Z7 text 10).2).getD (0 + (i.toNat * 1)) ByteArray.empty)).2).size) 9223372036854775807) = true then (if (Nat.ble ((out ++ ((Zs (Z1k, Z1l, Z1m, Z1n, Z1o, Z1p, Z1q, Z1r) (((Z7 text 10).2).getD (0 + (i.toNat * 1)) ByteArray.empty)).2)).size + (bs [10]).size) 9223372036854775807) = true then Z1F (((Zs (Z1k, Z1l, Z1m, Z1n, Z1o, Z1p, Z1q, Z1r) (((Z7 text 10).2).getD (0 + (i.toNat * 1)) ByteArray.empty)).1).1) (((Zs (Z1k, Z1l, Z1m, Z1n, Z1o, Z1p, Z1q, Z1r) (((Z7 text 10).2).getD (0 + (i.toNat * 1)) ByteArray.empty)).1).2.1) (((Zs (Z1k, Z1l, Z1m, Z1n, Z1o, Z1p, Z1q, Z1r) (((Z7 text 10).2).getD (0 + (i.toNat * 1)) ByteArray.empty)).1).2.2.1) (((Zs (Z1k, Z1l, Z1m, Z1n, Z1o, Z1p, Z1q, Z1r) (((Z7 text 10).2).getD (0 + (i.toNat * 1)) ByteArray.empty)).1).2.2.2.1) (((Zs (Z1k, Z1l, Z1m, Z1n, Z1o, Z1p, Z1q, Z1r) (((Z7 text 10).2).getD (0 + (i.toNat * 1)) ByteArray.empty)).1).2.2.2.2.1) (((Zs (Z1k, Z1l, Z1m, Z1n, Z1o, Z1p, Z1q, Z1r) (((Z7 text 10).2).getD (0 + (i.toNat * 1)) ByteArray.empty)).1).2.2.2.2.2.1) (((Zs (Z1k, Z1l, Z1m, Z1n, Z1o, Z1p, Z1q, Z1r) (((Z7 text 10).2).getD (0 + (i.toNat * 1)) ByteArray.empty)).1).2.2.2.2.2.2.1) (((Zs (Z1k, Z1l, Z1m, Z1n, Z1o, Z1p, Z1q, Z1r) (((Z7 text 10).2).getD (0 + (i.toNat * 1)) ByteArray.empty)).1).2.2.2.2.2.2.2) ((out ++ ((Zs (Z1k, Z1l, Z1m, Z1n, Z1o, Z1p, Z1q, Z1r) (((Z7 text 10).2).getD (0 + (i.toNat * 1)) ByteArray.empty)).2)) ++ (bs [10])) (wI (i + 1)) else none) else none) else none) else none) else none)) else none) else none) else some ((Z1k, Z1l, Z1m, Z1n, Z1o, Z1p, Z1q, Z1r), out, true))
def Z6N (fu : Nat) (text : ByteArray) : Nat -> Int -> Int -> Int -> Int -> Int -> Int -> Int -> Int -> ByteArray -> Int -> Option ((D8i) × ByteArray × Bool)
 | 0, _, _, _, _, _, _, _, _, _, _ => none
 | f + 1, Z1k, Z1l, Z1m, Z1n, Z1o, Z1p, Z1q, Z1r, out, i => Z9L text (Z6N fu text f) Z1k Z1l Z1m Z1n Z1o Z1p Z1q Z1r out i
theorem Zya (fu : Nat) (text : ByteArray) : ∀ (f : Nat) (Z1k Z1l : Int) (Z1m Z1n : Int) (Z1o Z1p : Int) (Z1q Z1r : Int) (out : ByteArray) (i : Int), Z9O prog fu text f Z1k Z1l Z1m Z1n Z1o Z1p Z1q Z1r out i = Z6N fu text f Z1k Z1l Z1m Z1n Z1o Z1p Z1q Z1r out i := by
 intro f
 induction f with
 | zero => intros; rfl
 | succ f ih =>
  intro Z1k Z1l Z1m Z1n Z1o Z1p Z1q Z1r out i
  have h1 : Z9O prog fu text (f + 1) Z1k Z1l Z1m Z1n Z1o Z1p Z1q Z1r out i = Z9L text (Z9O prog fu text f) Z1k Z1l Z1m Z1n Z1o Z1p Z1q Z1r out i := by kernel_rfl
  have h2 : Z9O prog fu text f = Z6N fu text f := by funext Z1k Z1l Z1m Z1n Z1o Z1p Z1q Z1r out i; exact ih Z1k Z1l Z1m Z1n Z1o Z1p Z1q Z1r out i
  rw [h1, h2]
  rfl
def Z9P (P : Program) (fu : Nat) (text : ByteArray) (f : Nat) (Z1k Z1l : Int) (Z1m Z1n : Int) (Z1o Z1p : Int) (Z1q Z1r : Int) (out : ByteArray) (i : Int) : Option ((D8i) × ByteArray × Bool) := Z1u (exec P Zbf 62 (fun _ => fu + 100) (Code.sub [1, 1, 1, 1, 1, 0, 1, 0, 0] (ZS P 22))) f (ZFW text Z1k Z1l Z1m Z1n Z1o Z1p Z1q Z1r out i) (Z0g 0 (kSeq (fun zs9 => exec P Zbf 62 (fun _ => fu + 100) (Code.sub [1, 1, 1, 1, 1, 1] (ZS P 22)) zs9 (finT P 22 Z4W)) (finT P 22 Z4W)))
def Z9M (text : ByteArray) (ZDN : Int -> Int -> Int -> Int -> Int -> Int -> Int -> Int -> ByteArray -> Int -> Option ((D8i) × ByteArray × Bool)) (Z1k Z1l : Int) (Z1m Z1n : Int) (Z1o Z1p : Int) (Z1q Z1r : Int) (out : ByteArray) (i : Int) : Option ((D8i) × ByteArray × Bool) :=
 (if (decide (i < (((Z7 text 10).1 : Nat) : Int))) = true then (if (decide (0 <= i) && decide (i < (((Z7 text 10).1 : Nat) : Int))) = true then (if (Nat.ble (i.toNat * 1 + 1) (((Z7 text 10).2).length)) = true then (if (eqS (((Z7 text 10).2).getD (i.toNat * 1) ByteArray.empty) (bs [])) = true then ZDN Z1k Z1l Z1m Z1n Z1o Z1p Z1q Z1r out (wI (i + 1)) else (if (decide (0 <= i) && decide (i < (((Z7 text 10).1 : Nat) : Int))) = true then (if (Nat.ble (i.toNat * 1 + 1) (((Z7 text 10).2).length)) = true then (if (Z3w (Z1k, Z1l, Z1m, Z1n, Z1o, Z1p, Z1q, Z1r) (((Z7 text 10).2).getD (i.toNat * 1) ByteArray.empty)) = true then (if (Nat.ble (out.size + ((Zs (Z1k, Z1l, Z1m, Z1n, Z1o, Z1p, Z1q, Z1r) (((Z7 text 10).2).getD (i.toNat * 1) ByteArray.empty)).2).size) 9223372036854775807) = true then (if (Nat.ble ((out ++ ((Zs (Z1k, Z1l, Z1m, Z1n, Z1o, Z1p, Z1q, Z1r) (((Z7 text 10).2).getD (i.toNat * 1) ByteArray.empty)).2)).size + (bs [10]).size) 9223372036854775807) = true then ZDN (((Zs (Z1k, Z1l, Z1m, Z1n, Z1o, Z1p, Z1q, Z1r) (((Z7 text 10).2).getD (i.toNat * 1) ByteArray.empty)).1).1) (((Zs (Z1k, Z1l, Z1m, Z1n, Z1o, Z1p, Z1q, Z1r) (((Z7 text 10).2).getD (i.toNat * 1) ByteArray.empty)).1).2.1) (((Zs (Z1k, Z1l, Z1m, Z1n, Z1o, Z1p, Z1q, Z1r) (((Z7 text 10).2).getD (i.toNat * 1) ByteArray.empty)).1).2.2.1) (((Zs (Z1k, Z1l, Z1m, Z1n, Z1o, Z1p, Z1q, Z1r) (((Z7 text 10).2).getD (i.toNat * 1) ByteArray.empty)).1).2.2.2.1) (((Zs (Z1k, Z1l, Z1m, Z1n, Z1o, Z1p, Z1q, Z1r) (((Z7 text 10).2).getD (i.toNat * 1) ByteArray.empty)).1).2.2.2.2.1) (((Zs (Z1k, Z1l, Z1m, Z1n, Z1o, Z1p, Z1q, Z1r) (((Z7 text 10).2).getD (i.toNat * 1) ByteArray.empty)).1).2.2.2.2.2.1) (((Zs (Z1k, Z1l, Z1m, Z1n, Z1o, Z1p, Z1q, Z1r) (((Z7 text 10).2).getD (i.toNat * 1) ByteArray.empty)).1).2.2.2.2.2.2.1) (((Zs (Z1k, Z1l, Z1m, Z1n, Z1o, Z1p, Z1q, Z1r) (((Z7 text 10).2).getD (i.toNat * 1) ByteArray.empty)).1).2.2.2.2.2.2.2) ((out ++ ((Zs (Z1k, Z1l, Z1m, Z1n, Z1o, Z1p, Z1q, Z1r) (((Z7 text 10).2).getD (i.toNat * 1) ByteArray.empty)).2)) ++ (bs [10])) (wI (i + 1)) else none) else none) else none) else none) else none)) else none) else none) else some ((Z1k, Z1l, Z1m, Z1n, Z1o, Z1p, Z1q, Z1r), out, true))
def Z6O (fu : Nat) (text : ByteArray) : Nat -> Int -> Int -> Int -> Int -> Int -> Int -> Int -> Int -> ByteArray -> Int -> Option ((D8i) × ByteArray × Bool)
 | 0, _, _, _, _, _, _, _, _, _, _ => none
 | f + 1, Z1k, Z1l, Z1m, Z1n, Z1o, Z1p, Z1q, Z1r, out, i => Z9M text (Z6O fu text f) Z1k Z1l Z1m Z1n Z1o Z1p Z1q Z1r out i
theorem Zyb (fu : Nat) (text : ByteArray) : ∀ (f : Nat) (Z1k Z1l : Int) (Z1m Z1n : Int) (Z1o Z1p : Int) (Z1q Z1r : Int) (out : ByteArray) (i : Int), Z9P prog fu text f Z1k Z1l Z1m Z1n Z1o Z1p Z1q Z1r out i = Z6O fu text f Z1k Z1l Z1m Z1n Z1o Z1p Z1q Z1r out i := by
 intro f
 induction f with
 | zero => intros; rfl
 | succ f ih =>
  intro Z1k Z1l Z1m Z1n Z1o Z1p Z1q Z1r out i
  have h1 : Z9P prog fu text (f + 1) Z1k Z1l Z1m Z1n Z1o Z1p Z1q Z1r out i = Z9M text (Z9P prog fu text f) Z1k Z1l Z1m Z1n Z1o Z1p Z1q Z1r out i := by kernel_rfl
  have h2 : Z9P prog fu text f = Z6O fu text f := by funext Z1k Z1l Z1m Z1n Z1o Z1p Z1q Z1r out i; exact ih Z1k Z1l Z1m Z1n Z1o Z1p Z1q Z1r out i
  rw [h1, h2]
  rfl
def Zgq (text : ByteArray) (lo0 : Int -> Int -> Int -> Int -> Int -> Int -> Int -> Int -> ByteArray -> Int -> Option ((D8i) × ByteArray × Bool)) (lo1 : Int -> Int -> Int -> Int -> Int -> Int -> Int -> Int -> ByteArray -> Int -> Option ((D8i) × ByteArray × Bool)) : Option ((D8i) × ByteArray × Bool) :=
 (if (Z9h text 10) = true then (if (decide (0 <= wI ((((Z7 text 10).1 : Nat) : Int) - 1)) && decide (wI ((((Z7 text 10).1 : Nat) : Int) - 1) < (((Z7 text 10).1 : Nat) : Int))) = true then (if (Nat.ble (((wI ((((Z7 text 10).1 : Nat) : Int) - 1)).toNat) * 1 + 1) (((Z7 text 10).2).length)) = true then (if (eqS (((Z7 text 10).2).getD (((wI ((((Z7 text 10).1 : Nat) : Int) - 1)).toNat) * 1) ByteArray.empty) (bs [])) = true then (if (decide (0 <= 0) && decide (0 <= (wI ((((Z7 text 10).1 : Nat) : Int) - 1))) && decide ((wI ((((Z7 text 10).1 : Nat) : Int) - 1)) <= (((Z7 text 10).1 : Nat) : Int))) = true then (if (decide (((text.size : Nat) : Int) > 4000)) = true then some ((0, 0, 0, 0, 0, 0, 0, 0), bs [], false) else (if (decide ((((wI ((((Z7 text 10).1 : Nat) : Int) - 1)).toNat : Nat) : Int) > 40)) = true then some ((0, 0, 0, 0, 0, 0, 0, 0), bs [], false) else lo0 ((Zn 7).1) ((Zn 7).2.1) ((Zn 7).2.2.1) ((Zn 7).2.2.2.1) ((Zn 7).2.2.2.2.1) ((Zn 7).2.2.2.2.2.1) ((Zn 7).2.2.2.2.2.2.1) ((Zn 7).2.2.2.2.2.2.2) (bs []) 0)) else none) else (if (decide (((text.size : Nat) : Int) > 4000)) = true then some ((0, 0, 0, 0, 0, 0, 0, 0), bs [], false) else (if (decide ((((Z7 text 10).1 : Nat) : Int) > 40)) = true then some ((0, 0, 0, 0, 0, 0, 0, 0), bs [], false) else lo1 ((Zn 7).1) ((Zn 7).2.1) ((Zn 7).2.2.1) ((Zn 7).2.2.2.1) ((Zn 7).2.2.2.2.1) ((Zn 7).2.2.2.2.2.1) ((Zn 7).2.2.2.2.2.2.1) ((Zn 7).2.2.2.2.2.2.2) (bs []) 0))) else none) else none) else none)
def Z5j (fu : Nat) (text : ByteArray) : Option ((D8i) × ByteArray × Bool) := Zgq text (Z6N fu text (fu + 100)) (Z6O fu text (fu + 100))
theorem ZIr (fu : Nat) (text : ByteArray) : eF fu Zbf 22 62 Z4W [.v (.string text)] = Z5j fu text := by
 have h1 : eF fu Zbf 22 62 Z4W [.v (.string text)] = Zgq text (Z9O prog fu text (fu + 100)) (Z9P prog fu text (fu + 100)) := by kernel_rfl
 have c0 : Z9O prog fu text (fu + 100) = Z6N fu text (fu + 100) := by funext Z1k Z1l Z1m Z1n Z1o Z1p Z1q Z1r out i; exact Zya fu text (fu + 100) Z1k Z1l Z1m Z1n Z1o Z1p Z1q Z1r out i
 have c1 : Z9P prog fu text (fu + 100) = Z6O fu text (fu + 100) := by funext Z1k Z1l Z1m Z1n Z1o Z1p Z1q Z1r out i; exact Zyb fu text (fu + 100) Z1k Z1l Z1m Z1n Z1o Z1p Z1q Z1r out i
 rw [h1, c0, c1]
 rfl
def Z9r : (ByteArray) -> (Bool) := shut fun (text : ByteArray) => (Z5j 1000000 text).isSome
def ZeA : (ByteArray) -> ((D8i) × ByteArray × Bool) := shut fun (text : ByteArray) => (Z5j 1000000 text).getD ((0, 0, 0, 0, 0, 0, 0, 0), .empty, false)
theorem Zn3 {text : ByteArray} {r : (D8i) × ByteArray × Bool} (e : Z5j 1000000 text = some r) : Z9r text = true := by
 unfold Z9r
 rw [Zu, e]
 rfl
theorem ZwP {text : ByteArray} {r : (D8i) × ByteArray × Bool} (e : Z5j 1000000 text = some r) : ZeA text = r := by
 unfold ZeA
 rw [Zu, e]
 rfl
theorem ZHu (text : ByteArray) (hp : (Z9r text) = true) : Z5j 1000000 text = some (ZeA text) := by
 unfold Z9r at hp
 rw [Zu] at hp
 unfold ZeA
 rw [Zu]
 exact Z1t hp
def ZfP : RunP
 | [.v (.string text)] => some (Z9r text, ZpR (ZeA text))
 | _ => none
theorem Znt : Sound prog 22 ZfP := by
 refine Zd ZEG ZHN (by kernel_rfl) func22 ntmps22 rfl (by kernel_rfl) fun q r E => ?_
 unfold ZfP at E
 split at E
 ·obtain ⟨hp, rfl⟩ := so2 E
  rename_i text
  exact ⟨_, _, rfl, (ZIr _ text).trans (ZHu text hp)⟩
 ·cases E

def Zwl : Sums := ⟨tblS [(22, ZfP)], tblM [], false⟩
theorem ZFz : Ze prog Zwl := ⟨Za ⟨⟨call22, Znt⟩, ⟨⟩⟩, tM⟩
def Z6M (text : ByteArray) : Option (ByteArray) :=
 (if (Z9r text) = true then some ((ZeA text).2.1) else none)
theorem ZGo (text : ByteArray) : eT Zwl 7 13 Z2E [.v (.string text)] = Z6M text := by
 kernel_rfl
def Z5e : (ByteArray) -> (Bool) := shut fun (text : ByteArray) => (Z6M text).isSome
def ZdR : (ByteArray) -> (ByteArray) := shut fun (text : ByteArray) => (Z6M text).getD .empty
theorem Zyf {text r : ByteArray} (e : Z6M text = some r) : Z5e text = true := by
 unfold Z5e
 rw [Zu, e]
 rfl
theorem ZHc {text r : ByteArray} (e : Z6M text = some r) : ZdR text = r := by
 unfold ZdR
 rw [Zu, e]
 rfl
theorem ZE8 (text : ByteArray) (hp : (Z5e text) = true) : Z6M text = some (ZdR text) := by
 unfold Z5e at hp
 rw [Zu] at hp
 unfold ZdR
 rw [Zu]
 exact Z1t hp
def ZiJ : RunP
 | [.v (.string text)] => some (Z5e text, Z9l (ZdR text))
 | _ => none
theorem Zyp : Sound prog 7 ZiJ := by
 refine Zd Zkg ZFz (by kernel_rfl) func7 ntmps7 rfl (by kernel_rfl) fun q r E => ?_
 unfold ZiJ at E
 split at E
 ·obtain ⟨hp, rfl⟩ := so2 E
  rename_i text
  exact ⟨_, _, rfl, (ZGo text).trans (ZE8 text hp)⟩
 ·cases E

def Zp4 : Sums := ⟨tblS [(22, ZfP)], tblM [], false⟩
theorem Zzw : Ze prog Zp4 := ⟨Za ⟨⟨call22, Znt⟩, ⟨⟩⟩, tM⟩
def Z4y (text : ByteArray) : Option ((D8i) × Bool) :=
 (if (Z9r text) = true then some (((ZeA text).1), (ZeA text).2.2) else none)
theorem ZAF (text : ByteArray) : eT Zp4 9 15 ZrY [.v (.string text)] = Z4y text := by
 kernel_rfl
def Z3v : (ByteArray) -> (Bool) := shut fun (text : ByteArray) => (Z4y text).isSome
def Z9B : (ByteArray) -> ((D8i) × Bool) := shut fun (text : ByteArray) => (Z4y text).getD ((0, 0, 0, 0, 0, 0, 0, 0), false)
theorem ZsD {text : ByteArray} {r : (D8i) × Bool} (e : Z4y text = some r) : Z3v text = true := by
 unfold Z3v
 rw [Zu, e]
 rfl
theorem ZBD {text : ByteArray} {r : (D8i) × Bool} (e : Z4y text = some r) : Z9B text = r := by
 unfold Z9B
 rw [Zu, e]
 rfl
theorem ZyK (text : ByteArray) (hp : (Z3v text) = true) : Z4y text = some (Z9B text) := by
 unfold Z3v at hp
 rw [Zu] at hp
 unfold Z9B
 rw [Zu]
 exact Z1t hp
def Zfk : RunP
 | [.v (.string text)] => some (Z3v text, ZAm (Z9B text))
 | _ => none
theorem Zt6 : Sound prog 9 Zfk := by
 refine Zd ZLj Zzw (by kernel_rfl) func9 ntmps9 rfl (by kernel_rfl) fun q r E => ?_
 unfold Zfk at E
 split at E
 ·obtain ⟨hp, rfl⟩ := so2 E
  rename_i text
  exact ⟨_, _, rfl, (ZAF text).trans (ZyK text hp)⟩
 ·cases E

end

noncomputable section

def Zeg : Sums := ⟨tblS [(44, ZiG), (19, ZaI), (14, Ze2)], tblM [], false⟩
theorem ZFs : Ze prog Zeg := ⟨Za ⟨⟨call44, Zym⟩, ⟨call19, Zfr⟩, ⟨call14, Zlp⟩, ⟨⟩⟩, tM⟩
def ZD1 (text : ByteArray) (v28_0 v28_1 : Int) (v28_2 v28_3 : Int) (v28_4 v28_5 : Int) (v28_6 v28_7 t24 : Int) (out : ByteArray) : Tab := ⟨[.val (.string text), jK, .ptr 8 0, .val (.string (bs [])), vB (false), .row 60, vB (((Z0Q text).2)), .ptr 28 0, .val (.string out), jK, jK, jK, jK, jK, .val (.string text), jK, .row 60, vB (((Z0Q text).2)), vB (((Z0Q text).2)), vB ((!((Z0Q text).2))), jK, .val (.agg ⟨[.int .i64 Zg.1, .int .i64 Zg.2.1, .int .i64 Zg.2.2.1, .int .i64 Zg.2.2.2.1, .int .i64 Zg.2.2.2.2.1, .int .i64 Zg.2.2.2.2.2.1, .int .i64 Zg.2.2.2.2.2.2.1, .int .i64 Zg.2.2.2.2.2.2.2]⟩), .row 60, vI (((((Z0Q text).1).1 : Nat) : Int)), vI (t24), ] ++ (jN 18 ++ [jK]), [(8, .box 28 [vI (0), vI (0), vI (0), vI (0), vI (0), vI (0), vI (0), vI (0)]), (28, .box 28 [vI (v28_0), vI (v28_1), vI (v28_2), vI (v28_3), vI (v28_4), vI (v28_5), vI (v28_6), vI (v28_7)]), (60, .row 9 1 (((Z0Q text).1).1) (.strs (((Z0Q text).1).2)))]⟩
def Z8v (P : Program) (fu : Nat) (text : ByteArray) (f : Nat) (v28_0 v28_1 : Int) (v28_2 v28_3 : Int) (v28_4 v28_5 : Int) (v28_6 v28_7 t24 : Int) (out : ByteArray) : Option ((D8i) × ByteArray × Bool) := Z1u (exec P Zeg 44 (fun _ => fu + 100) (Code.sub [1, 1, 1, 1, 0, 1, 0, 0] (ZS P 23))) f (ZD1 text v28_0 v28_1 v28_2 v28_3 v28_4 v28_5 v28_6 v28_7 t24 out) (Z0g 0 (kSeq (fun zs9 => exec P Zeg 44 (fun _ => fu + 100) (Code.sub [1, 1, 1, 1, 1] (ZS P 23)) zs9 (finT P 23 Z4W)) (finT P 23 Z4W)))
def Z8q (text : ByteArray) (Z1F : Int -> Int -> Int -> Int -> Int -> Int -> Int -> Int -> Int -> ByteArray -> Option ((D8i) × ByteArray × Bool)) (v28_0 v28_1 : Int) (v28_2 v28_3 : Int) (v28_4 v28_5 : Int) (v28_6 v28_7 t24 : Int) (out : ByteArray) : Option ((D8i) × ByteArray × Bool) :=
 (if (decide (t24 < ((((Z0Q text).1).1 : Nat) : Int))) = true then (if (decide (0 <= t24) && decide (t24 < ((((Z0Q text).1).1 : Nat) : Int))) = true then (if (Nat.ble (t24.toNat * 1 + 1) ((((Z0Q text).1).2).length)) = true then (if (eqS ((((Z0Q text).1).2).getD (t24.toNat * 1) ByteArray.empty) (bs [])) = true then Z1F v28_0 v28_1 v28_2 v28_3 v28_4 v28_5 v28_6 v28_7 (wI (t24 + 1)) out else (if (Z4q (v28_0, v28_1, v28_2, v28_3, v28_4, v28_5, v28_6, v28_7) ((((Z0Q text).1).2).getD (t24.toNat * 1) ByteArray.empty)) = true then (if (Nat.ble (((Z08 (v28_0, v28_1, v28_2, v28_3, v28_4, v28_5, v28_6, v28_7) ((((Z0Q text).1).2).getD (t24.toNat * 1) ByteArray.empty)).2).size + (bs [10]).size) 9223372036854775807) = true then (if (Nat.ble (out.size + (((Z08 (v28_0, v28_1, v28_2, v28_3, v28_4, v28_5, v28_6, v28_7) ((((Z0Q text).1).2).getD (t24.toNat * 1) ByteArray.empty)).2) ++ (bs [10])).size) 9223372036854775807) = true then Z1F (((Z08 (v28_0, v28_1, v28_2, v28_3, v28_4, v28_5, v28_6, v28_7) ((((Z0Q text).1).2).getD (t24.toNat * 1) ByteArray.empty)).1).1) (((Z08 (v28_0, v28_1, v28_2, v28_3, v28_4, v28_5, v28_6, v28_7) ((((Z0Q text).1).2).getD (t24.toNat * 1) ByteArray.empty)).1).2.1) (((Z08 (v28_0, v28_1, v28_2, v28_3, v28_4, v28_5, v28_6, v28_7) ((((Z0Q text).1).2).getD (t24.toNat * 1) ByteArray.empty)).1).2.2.1) (((Z08 (v28_0, v28_1, v28_2, v28_3, v28_4, v28_5, v28_6, v28_7) ((((Z0Q text).1).2).getD (t24.toNat * 1) ByteArray.empty)).1).2.2.2.1) (((Z08 (v28_0, v28_1, v28_2, v28_3, v28_4, v28_5, v28_6, v28_7) ((((Z0Q text).1).2).getD (t24.toNat * 1) ByteArray.empty)).1).2.2.2.2.1) (((Z08 (v28_0, v28_1, v28_2, v28_3, v28_4, v28_5, v28_6, v28_7) ((((Z0Q text).1).2).getD (t24.toNat * 1) ByteArray.empty)).1).2.2.2.2.2.1) (((Z08 (v28_0, v28_1, v28_2, v28_3, v28_4, v28_5, v28_6, v28_7) ((((Z0Q text).1).2).getD (t24.toNat * 1) ByteArray.empty)).1).2.2.2.2.2.2.1) (((Z08 (v28_0, v28_1, v28_2, v28_3, v28_4, v28_5, v28_6, v28_7) ((((Z0Q text).1).2).getD (t24.toNat * 1) ByteArray.empty)).1).2.2.2.2.2.2.2) (wI (t24 + 1)) (out ++ (((Z08 (v28_0, v28_1, v28_2, v28_3, v28_4, v28_5, v28_6, v28_7) ((((Z0Q text).1).2).getD (t24.toNat * 1) ByteArray.empty)).2) ++ (bs [10]))) else none) else none) else none)) else none) else none) else some ((v28_0, v28_1, v28_2, v28_3, v28_4, v28_5, v28_6, v28_7), out, true))
def Z5k (fu : Nat) (text : ByteArray) : Nat -> Int -> Int -> Int -> Int -> Int -> Int -> Int -> Int -> Int -> ByteArray -> Option ((D8i) × ByteArray × Bool)
 | 0, _, _, _, _, _, _, _, _, _, _ => none
 | f + 1, v28_0, v28_1, v28_2, v28_3, v28_4, v28_5, v28_6, v28_7, t24, out => Z8q text (Z5k fu text f) v28_0 v28_1 v28_2 v28_3 v28_4 v28_5 v28_6 v28_7 t24 out
theorem Zv9 (fu : Nat) (text : ByteArray) : ∀ (f : Nat) (v28_0 v28_1 : Int) (v28_2 v28_3 : Int) (v28_4 v28_5 : Int) (v28_6 v28_7 t24 : Int) (out : ByteArray), Z8v prog fu text f v28_0 v28_1 v28_2 v28_3 v28_4 v28_5 v28_6 v28_7 t24 out = Z5k fu text f v28_0 v28_1 v28_2 v28_3 v28_4 v28_5 v28_6 v28_7 t24 out := by
 intro f
 induction f with
 | zero => intros; rfl
 | succ f ih =>
  intro v28_0 v28_1 v28_2 v28_3 v28_4 v28_5 v28_6 v28_7 t24 out
  have h1 : Z8v prog fu text (f + 1) v28_0 v28_1 v28_2 v28_3 v28_4 v28_5 v28_6 v28_7 t24 out = Z8q text (Z8v prog fu text f) v28_0 v28_1 v28_2 v28_3 v28_4 v28_5 v28_6 v28_7 t24 out := by kernel_rfl
  have h2 : Z8v prog fu text f = Z5k fu text f := by funext v28_0 v28_1 v28_2 v28_3 v28_4 v28_5 v28_6 v28_7 t24 out; exact ih v28_0 v28_1 v28_2 v28_3 v28_4 v28_5 v28_6 v28_7 t24 out
  rw [h1, h2]
  rfl
def Zed (text : ByteArray) (lo0 : Int -> Int -> Int -> Int -> Int -> Int -> Int -> Int -> Int -> ByteArray -> Option ((D8i) × ByteArray × Bool)) : Option ((D8i) × ByteArray × Bool) :=
 (if (ZGY text) = true then (if (!((Z0Q text).2)) = true then some ((0, 0, 0, 0, 0, 0, 0, 0), bs [], false) else lo0 Zg.1 Zg.2.1 Zg.2.2.1 Zg.2.2.2.1 Zg.2.2.2.2.1 Zg.2.2.2.2.2.1 Zg.2.2.2.2.2.2.1 Zg.2.2.2.2.2.2.2 0 (bs [])) else none)
def Z4l (fu : Nat) (text : ByteArray) : Option ((D8i) × ByteArray × Bool) := Zed text (Z5k fu text (fu + 100))
theorem ZGh (fu : Nat) (text : ByteArray) : eF fu Zeg 23 44 Z4W [.v (.string text)] = Z4l fu text := by
 have h1 : eF fu Zeg 23 44 Z4W [.v (.string text)] = Zed text (Z8v prog fu text (fu + 100)) := by kernel_rfl
 have c0 : Z8v prog fu text (fu + 100) = Z5k fu text (fu + 100) := by funext v28_0 v28_1 v28_2 v28_3 v28_4 v28_5 v28_6 v28_7 t24 out; exact Zv9 fu text (fu + 100) v28_0 v28_1 v28_2 v28_3 v28_4 v28_5 v28_6 v28_7 t24 out
 rw [h1, c0]
 rfl
def Z80 : (ByteArray) -> (Bool) := shut fun (text : ByteArray) => (Z4l 1000000 text).isSome
def ZbD : (ByteArray) -> ((D8i) × ByteArray × Bool) := shut fun (text : ByteArray) => (Z4l 1000000 text).getD ((0, 0, 0, 0, 0, 0, 0, 0), .empty, false)
theorem Zlk {text : ByteArray} {r : (D8i) × ByteArray × Bool} (e : Z4l 1000000 text = some r) : Z80 text = true := by
 unfold Z80
 rw [Zu, e]
 rfl
theorem Zsh {text : ByteArray} {r : (D8i) × ByteArray × Bool} (e : Z4l 1000000 text = some r) : ZbD text = r := by
 unfold ZbD
 rw [Zu, e]
 rfl
theorem ZE1 (text : ByteArray) (hp : (Z80 text) = true) : Z4l 1000000 text = some (ZbD text) := by
 unfold Z80 at hp
 rw [Zu] at hp
 unfold ZbD
 rw [Zu]
 exact Z1t hp
def Ze3 : RunP
 | [.v (.string text)] => some (Z80 text, ZpR (ZbD text))
 | _ => none
theorem Zlq : Sound prog 23 Ze3 := by
 refine Zd ZEG ZFs (by kernel_rfl) func23 ntmps23 rfl (by kernel_rfl) fun q r E => ?_
 unfold Ze3 at E
 split at E
 ·obtain ⟨hp, rfl⟩ := so2 E
  rename_i text
  exact ⟨_, _, rfl, (ZGh _ text).trans (ZE1 text hp)⟩
 ·cases E

def Zwb : Sums := ⟨tblS [(23, Ze3)], tblM [], false⟩
theorem ZFn : Ze prog Zwb := ⟨Za ⟨⟨call23, Zlq⟩, ⟨⟩⟩, tM⟩
def Z6K (text : ByteArray) : Option (ByteArray) :=
 (if (Z80 text) = true then some ((ZbD text).2.1) else none)
theorem ZGc (text : ByteArray) : eT Zwb 8 13 Z2E [.v (.string text)] = Z6K text := by
 kernel_rfl
def Z5d : (ByteArray) -> (Bool) := shut fun (text : ByteArray) => (Z6K text).isSome
def Z8D : (ByteArray) -> (ByteArray) := shut fun (text : ByteArray) => (Z6K text).getD .empty
theorem Zyc {text r : ByteArray} (e : Z6K text = some r) : Z5d text = true := by
 unfold Z5d
 rw [Zu, e]
 rfl
theorem ZGN {text r : ByteArray} (e : Z6K text = some r) : Z8D text = r := by
 unfold Z8D
 rw [Zu, e]
 rfl
theorem ZDW (text : ByteArray) (hp : (Z5d text) = true) : Z6K text = some (Z8D text) := by
 unfold Z5d at hp
 rw [Zu] at hp
 unfold Z8D
 rw [Zu]
 exact Z1t hp
def ZiE : RunP
 | [.v (.string text)] => some (Z5d text, Z9l (Z8D text))
 | _ => none
theorem Zyk : Sound prog 8 ZiE := by
 refine Zd Zkg ZFn (by kernel_rfl) func8 ntmps8 rfl (by kernel_rfl) fun q r E => ?_
 unfold ZiE at E
 split at E
 ·obtain ⟨hp, rfl⟩ := so2 E
  rename_i text
  exact ⟨_, _, rfl, (ZGc text).trans (ZDW text hp)⟩
 ·cases E

def ZoV : Sums := ⟨tblS [(23, Ze3)], tblM [], false⟩
theorem Zzi : Ze prog ZoV := ⟨Za ⟨⟨call23, Zlq⟩, ⟨⟩⟩, tM⟩
def Z4u (text : ByteArray) : Option ((D8i) × Bool) :=
 (if (Z80 text) = true then some (((ZbD text).1), (ZbD text).2.2) else none)
theorem ZAr (text : ByteArray) : eT ZoV 10 15 ZrY [.v (.string text)] = Z4u text := by
 kernel_rfl
def Z3u : (ByteArray) -> (Bool) := shut fun (text : ByteArray) => (Z4u text).isSome
def Z5q : (ByteArray) -> ((D8i) × Bool) := shut fun (text : ByteArray) => (Z4u text).getD ((0, 0, 0, 0, 0, 0, 0, 0), false)
theorem Zsz {text : ByteArray} {r : (D8i) × Bool} (e : Z4u text = some r) : Z3u text = true := by
 unfold Z3u
 rw [Zu, e]
 rfl
theorem ZB1 {text : ByteArray} {r : (D8i) × Bool} (e : Z4u text = some r) : Z5q text = r := by
 unfold Z5q
 rw [Zu, e]
 rfl
theorem Zyw (text : ByteArray) (hp : (Z3u text) = true) : Z4u text = some (Z5q text) := by
 unfold Z3u at hp
 rw [Zu] at hp
 unfold Z5q
 rw [Zu]
 exact Z1t hp
def Zfb : RunP
 | [.v (.string text)] => some (Z3u text, ZAm (Z5q text))
 | _ => none
theorem ZsT : Sound prog 10 Zfb := by
 refine Zd ZLj Zzi (by kernel_rfl) func10 ntmps10 rfl (by kernel_rfl) fun q r E => ?_
 unfold Zfb at E
 split at E
 ·obtain ⟨hp, rfl⟩ := so2 E
  rename_i text
  exact ⟨_, _, rfl, (ZAr text).trans (Zyw text hp)⟩
 ·cases E

end

end Go.Proofs.YtcdpfpfbilfpoaaGreatDoor
