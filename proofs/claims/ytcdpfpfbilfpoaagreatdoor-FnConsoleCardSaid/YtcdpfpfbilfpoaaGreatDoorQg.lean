import Derived.Test.YtcdpfpfbilfpoaaGreatDoorQf
import Derived.Test.YtcdpfpfbilfpoaaGreatDoorFh
import Derived.Test.YtcdpfpfbilfpoaaGreatDoorFi
set_option linter.unusedSimpArgs false
set_option linter.unusedVariables false
namespace Go.Proofs.YtcdpfpfbilfpoaaGreatDoor
open Go.RowKit
noncomputable section
def runs : Dk -> ByteArray -> List (List UInt8) -> Dk × ByteArray
 | d, out, [] => (d, out)
 | d, out, x :: r => if x = [] then runs d out r else runs (Zs d (bs x)).1 (out ++ (Zs d (bs x)).2 ++ bs [10]) r
end
theorem ZbJ (d : Dk) (out : ByteArray) (r : List (List UInt8)) : runs d out ([] :: r) = runs d out r := by rw [runs, if_pos rfl]
theorem ZdQ (d : Dk) (out : ByteArray) {x : List UInt8} (r : List (List UInt8)) (h : x ≠ []) : runs d out (x :: r) = runs (Zs d (bs x)).1 (out ++ (Zs d (bs x)).2 ++ bs [10]) r := by rw [runs, if_neg h]
theorem Zex (D : Dk) (line : ByteArray) (hz : line.size <= 1048576) : Z3w D line = true /\ Z4q D line = true /\ Z08 D line = Zs D line /\ (Zs D line).2.size <= 100000000 := by
 obtain ⟨r, e1, e2, h1, _⟩ := ZJl D line hz
 refine ⟨Zyg e1, Zyd e2, ?_, ?_⟩
 ·rw [ZGO e2, ZkG e1]
 ·rw [ZkG e1]
  exact h1
theorem ZaO {x : List UInt8} : eqS (bs x) (bs []) = true ↔ x = [] := ⟨fun h => congrArg toL (Z0T.1 h), fun h => by rw [h]; exact Z0T.2 rfl⟩
theorem ZG6 {L D : List (List UInt8)} {x : List UInt8} {R : List (List UInt8)} (h : L = D ++ x :: R) : (L.map bs).getD D.length ByteArray.empty = bs x := by
 rw [List.getD_eq_getElem?_getD, List.getElem?_map, h, List.getElem?_append_right (Nat.le_refl _), Nat.sub_self]
 rfl
theorem ZMv (a b c : ByteArray) : a ++ (b ++ c) = a ++ b ++ c := Ztg (by rw [Zec, Zec, Zec, Zec, List.append_assoc])
theorem Zkd {a b : ByteArray} (h1 : a.size <= 2000000000000) (h2 : b.size <= 100000000) : Nat.ble (a.size + b.size) 9223372036854775807 = true := Nat.ble_eq_true_of_le (by omega)
theorem ZOF {text : ByteArray} {L : List (List UInt8)} (es : Z7 text 10 = (L.length, L.map bs)) (hL : L.length <= 1048577) (hx : ∀ x ∈ L, x.length <= 1048576) : ∀ (Q D E : List (List UInt8)) (F : Nat) (v0 v1 v2 v3 v4 v5 v6 v7 : Int) (out : ByteArray), L = D ++ Q ++ E -> E.length = 1 -> out.size + Q.length * 100000001 <= 1000000000000 -> Q.length < F ->
  Z6N 1000000 text F v0 v1 v2 v3 v4 v5 v6 v7 out (D.length : Int) = some ((runs (v0, v1, v2, v3, v4, v5, v6, v7) out Q).1, (runs (v0, v1, v2, v3, v4, v5, v6, v7) out Q).2, true)
 | Q, D, E, 0, v0, v1, v2, v3, v4, v5, v6, v7, out, _, _, _, h => absurd h (Nat.not_lt_zero _)
 | [], D, E, F + 1, v0, v1, v2, v3, v4, v5, v6, v7, out, e, hE, _, _ => by
  have hl : L.length = D.length + E.length := by rw [e]; simp
  show Z9L text (Z6N 1000000 text F) v0 v1 v2 v3 v4 v5 v6 v7 out (D.length : Int) = _
  unfold Z9L
  have hwn : (wI (((L.length : Nat) : Int) - 1)).toNat = L.length - 1 := by rw [Zz]; unfold wrap64; omega
  rw [es]
  dsimp only
  rw [hwn]
  rw [if_neg (by simp; omega)]
  rfl
 | x :: Q, D, E, F + 1, v0, v1, v2, v3, v4, v5, v6, v7, out, e, hE, hs, hF => by
  have hl : L.length = D.length + (Q.length + 1) + E.length := by rw [e]; simp; omega
  have he : L = D ++ x :: (Q ++ E) := by rw [e]; simp
  have hxx : (bs x).size <= 1048576 := by rw [ZX, ZcQ]; exact hx x (by rw [he]; simp)
  have hel := ZG6 he
  obtain ⟨k1, k2, k3, k4⟩ := Zex (v0, v1, v2, v3, v4, v5, v6, v7) (bs x) hxx
  have hcnt : Q.length * 100000001 + 100000001 = (Q.length + 1) * 100000001 := by omega
  have hw : wI ((D.length : Int) + 1) = (((D ++ [x]).length : Nat) : Int) := by rw [List.length_append]; exact Z1O (n := L.length) (by omega) (by omega)
  simp only [List.length_cons] at hs
  show Z9L text (Z6N 1000000 text F) v0 v1 v2 v3 v4 v5 v6 v7 out (D.length : Int) = _
  unfold Z9L
  have hwn : (wI (((L.length : Nat) : Int) - 1)).toNat = L.length - 1 := by rw [Zz]; unfold wrap64; omega
  rw [es]
  dsimp only
  rw [hwn]
  rw [if_pos (by simp; omega), if_pos (by simp; omega), if_pos (by rw [Int.toNat_natCast, List.length_map]; exact Nat.ble_eq_true_of_le (by omega)), Int.toNat_natCast, show 0 + D.length * 1 = D.length by omega, hel, hw]
  by_cases h0 : x = []
  ·rw [if_pos (ZaO.2 h0), h0, ZbJ]
   have ih := ZOF es hL hx Q (D ++ [x]) E F v0 v1 v2 v3 v4 v5 v6 v7 out (by rw [e]; simp) hE (Nat.le_trans (Nat.add_le_add_left (Nat.mul_le_mul_right _ (Nat.le_succ _)) _) hs) (by simpa using hF)
   rw [h0] at ih
   exact ih
  ·have h1 : (bs [10]).size = 1 := rfl
   rw [if_neg (fun q => h0 (ZaO.1 q)), if_pos (by simp; omega), if_pos (by rw [List.length_map]; exact Nat.ble_eq_true_of_le (by omega)), if_pos k1, if_pos (Zkd (by omega) k4), if_pos (Zkd (by rw [Z1a]; omega) (by omega))]
   rw [ZdQ _ _ _ h0]
   have h1 : (bs [10]).size = 1 := rfl
   exact ZOF es hL hx Q (D ++ [x]) E F (Zs (v0, v1, v2, v3, v4, v5, v6, v7) (bs x)).1.1 (Zs (v0, v1, v2, v3, v4, v5, v6, v7) (bs x)).1.2.1 (Zs (v0, v1, v2, v3, v4, v5, v6, v7) (bs x)).1.2.2.1 (Zs (v0, v1, v2, v3, v4, v5, v6, v7) (bs x)).1.2.2.2.1 (Zs (v0, v1, v2, v3, v4, v5, v6, v7) (bs x)).1.2.2.2.2.1 (Zs (v0, v1, v2, v3, v4, v5, v6, v7) (bs x)).1.2.2.2.2.2.1 (Zs (v0, v1, v2, v3, v4, v5, v6, v7) (bs x)).1.2.2.2.2.2.2.1 (Zs (v0, v1, v2, v3, v4, v5, v6, v7) (bs x)).1.2.2.2.2.2.2.2 (out ++ (Zs (v0, v1, v2, v3, v4, v5, v6, v7) (bs x)).2 ++ bs [10]) (by rw [e]; simp) hE (by rw [Z1a, Z1a]; omega) (by simpa using hF)
theorem ZOG {text : ByteArray} {L : List (List UInt8)} (es : Z7 text 10 = (L.length, L.map bs)) (hL : L.length <= 1048577) (hx : ∀ x ∈ L, x.length <= 1048576) : ∀ (Q D E : List (List UInt8)) (F : Nat) (v0 v1 v2 v3 v4 v5 v6 v7 : Int) (out : ByteArray), L = D ++ Q ++ E -> E.length = 0 -> out.size + Q.length * 100000001 <= 1000000000000 -> Q.length < F ->
  Z6O 1000000 text F v0 v1 v2 v3 v4 v5 v6 v7 out (D.length : Int) = some ((runs (v0, v1, v2, v3, v4, v5, v6, v7) out Q).1, (runs (v0, v1, v2, v3, v4, v5, v6, v7) out Q).2, true)
 | Q, D, E, 0, v0, v1, v2, v3, v4, v5, v6, v7, out, _, _, _, h => absurd h (Nat.not_lt_zero _)
 | [], D, E, F + 1, v0, v1, v2, v3, v4, v5, v6, v7, out, e, hE, _, _ => by
  have hl : L.length = D.length + E.length := by rw [e]; simp
  show Z9M text (Z6O 1000000 text F) v0 v1 v2 v3 v4 v5 v6 v7 out (D.length : Int) = _
  unfold Z9M
  rw [es]
  dsimp only
  rw [if_neg (by simp; omega)]
  rfl
 | x :: Q, D, E, F + 1, v0, v1, v2, v3, v4, v5, v6, v7, out, e, hE, hs, hF => by
  have hl : L.length = D.length + (Q.length + 1) + E.length := by rw [e]; simp; omega
  have he : L = D ++ x :: (Q ++ E) := by rw [e]; simp
  have hxx : (bs x).size <= 1048576 := by rw [ZX, ZcQ]; exact hx x (by rw [he]; simp)
  have hel := ZG6 he
  obtain ⟨k1, k2, k3, k4⟩ := Zex (v0, v1, v2, v3, v4, v5, v6, v7) (bs x) hxx
  have hcnt : Q.length * 100000001 + 100000001 = (Q.length + 1) * 100000001 := by omega
  have hw : wI ((D.length : Int) + 1) = (((D ++ [x]).length : Nat) : Int) := by rw [List.length_append]; exact Z1O (n := L.length) (by omega) (by omega)
  simp only [List.length_cons] at hs
  show Z9M text (Z6O 1000000 text F) v0 v1 v2 v3 v4 v5 v6 v7 out (D.length : Int) = _
  unfold Z9M
  rw [es]
  dsimp only
  rw [if_pos (by simp; omega), if_pos (by simp; omega), if_pos (by rw [Int.toNat_natCast, List.length_map]; exact Nat.ble_eq_true_of_le (by omega)), Int.toNat_natCast, Nat.mul_one, hel, hw]
  by_cases h0 : x = []
  ·rw [if_pos (ZaO.2 h0), h0, ZbJ]
   have ih := ZOG es hL hx Q (D ++ [x]) E F v0 v1 v2 v3 v4 v5 v6 v7 out (by rw [e]; simp) hE (Nat.le_trans (Nat.add_le_add_left (Nat.mul_le_mul_right _ (Nat.le_succ _)) _) hs) (by simpa using hF)
   rw [h0] at ih
   exact ih
  ·have h1 : (bs [10]).size = 1 := rfl
   rw [if_neg (fun q => h0 (ZaO.1 q)), if_pos (by simp; omega), if_pos (by rw [List.length_map]; exact Nat.ble_eq_true_of_le (by omega)), if_pos k1, if_pos (Zkd (by omega) k4), if_pos (Zkd (by rw [Z1a]; omega) (by omega))]
   rw [ZdQ _ _ _ h0]
   have h1 : (bs [10]).size = 1 := rfl
   exact ZOG es hL hx Q (D ++ [x]) E F (Zs (v0, v1, v2, v3, v4, v5, v6, v7) (bs x)).1.1 (Zs (v0, v1, v2, v3, v4, v5, v6, v7) (bs x)).1.2.1 (Zs (v0, v1, v2, v3, v4, v5, v6, v7) (bs x)).1.2.2.1 (Zs (v0, v1, v2, v3, v4, v5, v6, v7) (bs x)).1.2.2.2.1 (Zs (v0, v1, v2, v3, v4, v5, v6, v7) (bs x)).1.2.2.2.2.1 (Zs (v0, v1, v2, v3, v4, v5, v6, v7) (bs x)).1.2.2.2.2.2.1 (Zs (v0, v1, v2, v3, v4, v5, v6, v7) (bs x)).1.2.2.2.2.2.2.1 (Zs (v0, v1, v2, v3, v4, v5, v6, v7) (bs x)).1.2.2.2.2.2.2.2 (out ++ (Zs (v0, v1, v2, v3, v4, v5, v6, v7) (bs x)).2 ++ bs [10]) (by rw [e]; simp) hE (by rw [Z1a, Z1a]; omega) (by simpa using hF)
theorem ZQe {text : ByteArray} {L : List (List UInt8)} (ei : (Z0Q text).1 = (L.length, L.map bs)) (hL : L.length <= 1048577) (hx : ∀ x ∈ L, x.length <= 1048576) : ∀ (Q D E : List (List UInt8)) (F : Nat) (v0 v1 v2 v3 v4 v5 v6 v7 : Int) (out : ByteArray), L = D ++ Q ++ E -> E.length = 0 -> out.size + Q.length * 100000001 <= 1000000000000 -> Q.length < F ->
  Z5k 1000000 text F v0 v1 v2 v3 v4 v5 v6 v7 (D.length : Int) out = some ((runs (v0, v1, v2, v3, v4, v5, v6, v7) out Q).1, (runs (v0, v1, v2, v3, v4, v5, v6, v7) out Q).2, true)
 | Q, D, E, 0, v0, v1, v2, v3, v4, v5, v6, v7, out, _, _, _, h => absurd h (Nat.not_lt_zero _)
 | [], D, E, F + 1, v0, v1, v2, v3, v4, v5, v6, v7, out, e, hE, _, _ => by
  have hl : L.length = D.length + E.length := by rw [e]; simp
  show Z8q text (Z5k 1000000 text F) v0 v1 v2 v3 v4 v5 v6 v7 (D.length : Int) out = _
  unfold Z8q
  rw [ei]
  dsimp only
  rw [if_neg (by simp; omega)]
  rfl
 | x :: Q, D, E, F + 1, v0, v1, v2, v3, v4, v5, v6, v7, out, e, hE, hs, hF => by
  have hl : L.length = D.length + (Q.length + 1) + E.length := by rw [e]; simp; omega
  have he : L = D ++ x :: (Q ++ E) := by rw [e]; simp
  have hxx : (bs x).size <= 1048576 := by rw [ZX, ZcQ]; exact hx x (by rw [he]; simp)
  have hel := ZG6 he
  obtain ⟨k1, k2, k3, k4⟩ := Zex (v0, v1, v2, v3, v4, v5, v6, v7) (bs x) hxx
  have hcnt : Q.length * 100000001 + 100000001 = (Q.length + 1) * 100000001 := by omega
  have hw : wI ((D.length : Int) + 1) = (((D ++ [x]).length : Nat) : Int) := by rw [List.length_append]; exact Z1O (n := L.length) (by omega) (by omega)
  simp only [List.length_cons] at hs
  show Z8q text (Z5k 1000000 text F) v0 v1 v2 v3 v4 v5 v6 v7 (D.length : Int) out = _
  unfold Z8q
  rw [ei]
  dsimp only
  rw [if_pos (by simp; omega), if_pos (by simp; omega), if_pos (by rw [Int.toNat_natCast, List.length_map]; exact Nat.ble_eq_true_of_le (by omega)), Int.toNat_natCast, Nat.mul_one, hel, hw]
  by_cases h0 : x = []
  ·rw [if_pos (ZaO.2 h0), h0, ZbJ]
   have ih := ZQe ei hL hx Q (D ++ [x]) E F v0 v1 v2 v3 v4 v5 v6 v7 out (by rw [e]; simp) hE (Nat.le_trans (Nat.add_le_add_left (Nat.mul_le_mul_right _ (Nat.le_succ _)) _) hs) (by simpa using hF)
   rw [h0] at ih
   exact ih
  ·rw [if_neg (fun q => h0 (ZaO.1 q)), if_pos k2, if_pos (by rw [k3]; exact Zkd (by omega) (by decide)), if_pos (by rw [k3]; exact Nat.ble_eq_true_of_le (by rw [Z1a]; have h1 : (bs [10]).size = 1 := rfl; omega)), k3, ZMv]
   rw [ZdQ _ _ _ h0]
   have h1 : (bs [10]).size = 1 := rfl
   exact ZQe ei hL hx Q (D ++ [x]) E F (Zs (v0, v1, v2, v3, v4, v5, v6, v7) (bs x)).1.1 (Zs (v0, v1, v2, v3, v4, v5, v6, v7) (bs x)).1.2.1 (Zs (v0, v1, v2, v3, v4, v5, v6, v7) (bs x)).1.2.2.1 (Zs (v0, v1, v2, v3, v4, v5, v6, v7) (bs x)).1.2.2.2.1 (Zs (v0, v1, v2, v3, v4, v5, v6, v7) (bs x)).1.2.2.2.2.1 (Zs (v0, v1, v2, v3, v4, v5, v6, v7) (bs x)).1.2.2.2.2.2.1 (Zs (v0, v1, v2, v3, v4, v5, v6, v7) (bs x)).1.2.2.2.2.2.2.1 (Zs (v0, v1, v2, v3, v4, v5, v6, v7) (bs x)).1.2.2.2.2.2.2.2 (out ++ (Zs (v0, v1, v2, v3, v4, v5, v6, v7) (bs x)).2 ++ bs [10]) (by rw [e]; simp) hE (by rw [Z1a, Z1a]; omega) (by simpa using hF)

theorem ZkF : ∀ (A : List (List UInt8)) (d : Dk) (out : ByteArray), runs d out (A ++ [[]]) = runs d out A
 | [], d, out => ZbJ d out []
 | x :: A, d, out => by
  by_cases h : x = []
  ·rw [h, List.cons_append, ZbJ, ZbJ]
   exact ZkF A d out
  ·rw [List.cons_append, ZdQ _ _ _ h, ZdQ _ _ _ h]
   exact ZkF A _ _
theorem ZOE (L : List (List UInt8)) (h : L ≠ []) (d : Dk) (out : ByteArray) : runs d out (L.take (lnsN L)) = runs d out L := by
 unfold lnsN
 have hpos : 0 < L.length := List.length_pos_iff.2 h
 split
 ·rename_i h0
  have hl : L.getD (L.length - 1) [] = L.getLast h := by
   rw [List.getD_eq_getElem?_getD, List.getElem?_eq_getElem (by omega), List.getLast_eq_getElem]
   rfl
  have e : L = L.take (L.length - 1) ++ [[]] := by
   have := List.dropLast_concat_getLast h
   rw [<- hl, h0, List.dropLast_eq_take] at this
   exact this.symm
  conv => rhs; rw [e]
  exact (ZkF _ d out).symm
 ·rw [List.take_length]
theorem ZNo (text : ByteArray) (hz : text.size <= 1048576) : ∃ r, Z5j 1000000 text = some r /\ Z4l 1000000 text = some r /\ (r.2.2 = true -> (r.1, r.2.1) = runs (7, 0, 0, 0, 1, 0, 0, 1) (bs []) (spL 10 (toL text))) /\ (r.2.2 = false -> r.2.1 = bs []) := by
 have es : Z7 text 10 = ((spL 10 (toL text)).length, (spL 10 (toL text)).map bs) := rfl
 have Z6c : Z9h text 10 = true := by unfold Z9h; simp; omega
 have hne := ZvI 10 (toL text)
 have Z4X := ZnX 10 (toL text)
 have hx : ∀ x ∈ spL 10 (toL text), x.length <= 1048576 := fun x hx => Nat.le_trans (Znu hx) (by rw [<- ZX]; exact hz)
 rw [<- ZX] at Z4X
 have hi : Z0Q text = if 4000 < text.size then ((0, []), false) else ((lnsN (spL 10 (toL text)), ((spL 10 (toL text)).take (lnsN (spL 10 (toL text)))).map bs), Nat.ble (lnsN (spL 10 (toL text))) 40) := rfl
 generalize spL 10 (toL text) = L at es hne Z4X hx hi ⊢
 have hpos : 1 <= L.length := by
  cases L with
  | nil => exact absurd rfl hne
  | cons x r => simp
 have hw : wI (((L.length : Nat) : Int) - 1) = ((L.length - 1 : Nat) : Int) := by rw [Zz]; unfold wrap64; omega
 have hel : (L.map bs).getD (L.length - 1) ByteArray.empty = bs (L.getD (L.length - 1) []) := by
  rw [List.getD_eq_getElem?_getD, List.getElem?_map, List.getElem?_eq_getElem (by omega), List.getD_eq_getElem?_getD, List.getElem?_eq_getElem (by omega)]
  rfl
 have hO : ZGY text = true := rfl
 by_cases hb : 4000 < text.size
 ·refine ⟨((0, 0, 0, 0, 0, 0, 0, 0), bs [], false), ?_, ?_, fun q => (by cases q), fun _ => rfl⟩
  ·unfold Z5j Zgq
   rw [es]
   dsimp only
   rw [hw, Int.toNat_natCast, Nat.mul_one, hel, if_pos Z6c, if_pos (by first | (simp; done) | (simp; omega)), if_pos (by rw [List.length_map]; exact Nat.ble_eq_true_of_le (by omega))]
   by_cases h0 : L.getD (L.length - 1) [] = []
   ·rw [if_pos (ZaO.2 h0), if_pos (by first | (simp; done) | (simp; omega)), if_pos (by first | (simp; done) | (simp; omega))]
   ·rw [if_neg (fun q => h0 (ZaO.1 q)), if_pos (by first | (simp; done) | (simp; omega))]
  ·unfold Z4l Zed
   rw [if_pos hO, hi, if_pos hb]
   rfl
 ·rw [if_neg hb] at hi
  have ei : (Z0Q text).1 = ((L.take (lnsN L)).length, (L.take (lnsN L)).map bs) := by
   rw [hi]
   have : lnsN L <= L.length := by unfold lnsN; split <;> omega
   rw [List.length_take, Nat.min_eq_left this]
  have hxt : ∀ x ∈ L.take (lnsN L), x.length <= 1048576 := fun x hm => hx x (List.mem_of_mem_take hm)
  have hlt : (L.take (lnsN L)).length = lnsN L := by
   have : lnsN L <= L.length := by unfold lnsN; split <;> omega
   rw [List.length_take, Nat.min_eq_left this]
  by_cases hc : lnsN L <= 40
  ·have gi := ZQe ei (by omega) hxt (L.take (lnsN L)) [] [] 1000100 7 0 0 0 1 0 0 1 (bs []) (by simp) rfl (by rw [hlt]; have : (bs []).size = 0 := rfl; omega) (by omega)
   refine ⟨((runs (7, 0, 0, 0, 1, 0, 0, 1) (bs []) (L.take (lnsN L))).1, (runs (7, 0, 0, 0, 1, 0, 0, 1) (bs []) (L.take (lnsN L))).2, true), ?_, ?_, fun _ => ZOE L hne _ _, fun q => (by cases q)⟩
   ·unfold Z5j Zgq
    rw [es]
    dsimp only
    rw [hw, Int.toNat_natCast, Nat.mul_one, hel, if_pos Z6c, if_pos (by first | (simp; done) | (simp; omega)), if_pos (by rw [List.length_map]; exact Nat.ble_eq_true_of_le (by omega))]
    by_cases h0 : L.getD (L.length - 1) [] = []
    ·have hn : lnsN L = L.length - 1 := by unfold lnsN; rw [if_pos h0]
     rw [if_pos (ZaO.2 h0), if_pos (by first | (simp; done) | (simp; omega)), if_neg (by first | (simp; done) | (simp; omega)), if_neg (by first | (simp; done) | (simp; omega)), hn]
     rw [hn] at hc
     exact ZOF es (by omega) hx (L.take (L.length - 1)) [] (L.drop (L.length - 1)) 1000100 7 0 0 0 1 0 0 1 (bs []) (by simp) (by first | (simp; done) | (simp; omega)) (by rw [List.length_take]; have : (bs []).size = 0 := rfl; omega) (by rw [List.length_take]; omega)
    ·have hn : lnsN L = L.length := by unfold lnsN; rw [if_neg h0]
     rw [if_neg (fun q => h0 (ZaO.1 q)), if_neg (by first | (simp; done) | (simp; omega)), if_neg (by first | (simp; done) | (simp; omega)), hn, List.take_length]
     rw [hn] at hc
     exact ZOG es (by omega) hx L [] [] 1000100 7 0 0 0 1 0 0 1 (bs []) (by simp) rfl (by have : (bs []).size = 0 := rfl; omega) (by omega)
   ·unfold Z4l Zed
    rw [if_pos hO, if_neg (by rw [hi]; simp; omega)]
    exact gi
  ·refine ⟨((0, 0, 0, 0, 0, 0, 0, 0), bs [], false), ?_, ?_, fun q => (by cases q), fun _ => rfl⟩
   ·unfold Z5j Zgq
    rw [es]
    dsimp only
    rw [hw, Int.toNat_natCast, Nat.mul_one, hel, if_pos Z6c, if_pos (by first | (simp; done) | (simp; omega)), if_pos (by rw [List.length_map]; exact Nat.ble_eq_true_of_le (by omega))]
    by_cases h0 : L.getD (L.length - 1) [] = []
    ·have hn : lnsN L = L.length - 1 := by unfold lnsN; rw [if_pos h0]
     rw [if_pos (ZaO.2 h0), if_pos (by first | (simp; done) | (simp; omega)), if_neg (by first | (simp; done) | (simp; omega)), if_pos (by first | (simp; done) | (simp; omega))]
    ·have hn : lnsN L = L.length := by unfold lnsN; rw [if_neg h0]
     rw [if_neg (fun q => h0 (ZaO.1 q)), if_neg (by first | (simp; done) | (simp; omega)), if_pos (by first | (simp; done) | (simp; omega))]
   ·unfold Z4l Zed
    rw [if_pos hO, if_pos (by rw [hi]; show (!(Nat.ble (lnsN L) 40)) = true; rw [Bool.eq_false_iff.2 fun e => hc (Nat.le_of_ble_eq_true e)]; rfl)]

theorem Z74 {α : Type} {P : α -> Prop} {c : Prop} [Decidable c] {o : Option α} (h : c) (k : ∃ r, o = some r /\ P r) : ∃ r, (if c then o else none) = some r /\ P r := by rw [if_pos h]; exact k
theorem ZuX {α : Type} {P : α -> Prop} {c : Prop} [Decidable c] {a b : Option α} (h1 : c -> ∃ r, a = some r /\ P r) (h2 : ¬ c -> ∃ r, b = some r /\ P r) : ∃ r, (if c then a else b) = some r /\ P r := by
 by_cases h : c
 ·rw [if_pos h]; exact h1 h
 ·rw [if_neg h]; exact h2 h
theorem Z7X {α : Type} {P : α -> Prop} {x : α} (h : P x) : ∃ r, some x = some r /\ P r := ⟨x, rfl, h⟩
theorem ZnK {M : Nat} {L : List ByteArray} (h : (L.all fun x => Nat.ble x.size M) = true) (k : Nat) : (L.getD k ByteArray.empty).size <= M := by
 rw [List.getD_eq_getElem?_getD]
 cases hk : L[k]? with
 | none => exact Nat.zero_le M
 | some x => exact Nat.le_of_ble_eq_true (List.all_eq_true.1 h x (List.mem_of_getElem? hk))
theorem ZQ8 {a b : ByteArray} (ha : a.size <= 100) (hb : b.size <= 100) : (a ++ b).size <= 200 := by rw [Z1a]; omega
theorem Ze1 {x n : Int} (h : 0 <= x /\ x < n) (hn : n <= 1000000000000) : Z5X x = true := by
 unfold Z5X
 simp
 omega
theorem ZrZ {sn : Nat} {sl : List Int} {ss : P2} (hs : srcB sn sl ss = true) : Z5X (Z2o sn sl ss).1 = true := by
 have := ZAS sn sl ss hs
 unfold Z5X
 simp at this ⊢
 omega
theorem ZgW {sn : Nat} {sl : List Int} {ss : P2} {p : Int} (hs : srcB sn sl ss = true) (hf : Z6 p = true) : num2 (Z4K sn sl ss p).1 = true := by
 have hm := Zep hf
 have key : ∀ x n : Int, 0 <= x /\ x < n -> n <= 100 -> num1 x = true := fun x n h hn => Zjj.2 ⟨h.1, by omega⟩
 rw [ZcI]
 unfold Z7J
 have h1 := Zh sn sl ss 4 hs
 have h2 := fun n => Zh sn sl _ n h1
 split
 ·exact Zkr (key _ _ (Z0Y _ _ _ _ h1 (by decide)) (by decide)) (key _ _ (Z0Y _ _ _ _ (h2 _) (by decide)) (by decide))
 ·exact Zkr (key _ _ (Z0Y _ _ _ _ h1 (by omega)) (by omega)) (key _ _ (Z0Y _ _ _ _ (h2 _) (by omega)) (by omega))
theorem Zfv {x : Int} (h : Z5X x = true) : (Z01 x).size <= 100 := Nat.le_trans (ZsS h) (by decide)
theorem ZMf {a : P2} (h : num2 a = true) : (Z02 a).size <= 100 := Zdv h
theorem ZQ7 {a b : ByteArray} (ha : a.size <= 100000) (hb : b.size <= 100000) : Nat.ble (a.size + b.size) 9223372036854775807 = true := Nat.ble_eq_true_of_le (by omega)
theorem ZQ2 {a : ByteArray} (h : a.size <= 100) : a.size <= 100000 := Nat.le_trans h (by decide)
theorem ZBC {D : Dk} {line : ByteArray} (hz : line.size <= 1048576) (hd : Z0n D = true) : Z0n (Zs D line).1 = true /\ ((Zs D line).2 = ERR -> (Zs D line).1 = D) := by
 obtain ⟨r, e1, _, _, h⟩ := ZJl D line hz
 rw [ZkG e1]
 exact h hd
theorem ZgG {D : Dk} (hd : Z0n D = true) : Z6 D.1 = true := by
 obtain ⟨p, c, a1, a2, b1, b2, d1, d2⟩ := D
 exact (ZLT hd).1

theorem ZOX {c : Bool} {a b : Option Bool} (h1 : c = true -> a = some true) (h2 : c = false -> b = some true) : (if c = true then a else b) = some true := by
 cases c
 ·exact h2 rfl
 ·exact h1 rfl
theorem ZNL {n : Nat} {l : List Int} (hp : bytB n l = true) (hb : Zsn n l = false) : Z56 n l = true := ZI9 hp (by unfold Zsn at hb; simp at hb; omega)
end Go.Proofs.YtcdpfpfbilfpoaaGreatDoor
