import Derived.Test.YtcdpfpfbilfpoaaGreatDoorQf
import Derived.Test.YtcdpfpfbilfpoaaGreatDoorFg
import Derived.Test.YtcdpfpfbilfpoaaGreatDoorFh
set_option linter.unusedSimpArgs false
set_option linter.unusedVariables false
namespace Go.Proofs.YtcdpfpfbilfpoaaGreatDoor
open Go.RowKit
noncomputable section
def runs : Dk → ByteArray → List (List UInt8) → Dk × ByteArray
 | d, out, [] => (d, out)
 | d, out, x :: r => if x = [] then runs d out r else runs (s_RunLine d (bs x)).1 (out ++ (s_RunLine d (bs x)).2 ++ bs [10]) r
end
theorem runs_nil (d : Dk) (out : ByteArray) : runs d out [] = (d, out) := rfl
theorem runs_skip (d : Dk) (out : ByteArray) (r : List (List UInt8)) : runs d out ([] :: r) = runs d out r := by rw [runs, if_pos rfl]
theorem runs_cons (d : Dk) (out : ByteArray) {x : List UInt8} (r : List (List UInt8)) (h : x ≠ []) : runs d out (x :: r) = runs (s_RunLine d (bs x)).1 (out ++ (s_RunLine d (bs x)).2 ++ bs [10]) r := by rw [runs, if_neg h]
theorem run_vals (D : Dk) (line : ByteArray) (hz : line.size ≤ 1048576) : ok_s_RunLine D line = true ∧ ok_i_RunLine D line = true ∧ i_RunLine D line = s_RunLine D line ∧ (s_RunLine D line).2.size ≤ 100000000 := by
 obtain ⟨r, e1, e2, h1, _⟩ := run_same D line hz
 refine ⟨ok_s_RunLine_of e1, ok_i_RunLine_of e2, ?_, ?_⟩
 ·rw [i_RunLine_of e2, s_RunLine_of e1]
 ·rw [s_RunLine_of e1]
  exact h1
theorem emp_iff {x : List UInt8} : eqS (bs x) (bs []) = true ↔ x = [] := ⟨fun h => congrArg toL (eqS_iff.1 h), fun h => by rw [h]; exact eqS_iff.2 rfl⟩
theorem elem_at {L D : List (List UInt8)} {x : List UInt8} {R : List (List UInt8)} (h : L = D ++ x :: R) : (L.map bs).getD D.length ByteArray.empty = bs x := by
 rw [List.getD_eq_getElem?_getD, List.getElem?_map, h, List.getElem?_append_right (Nat.le_refl _), Nat.sub_self]
 rfl
theorem app_assoc (a b c : ByteArray) : a ++ (b ++ c) = a ++ b ++ c := toL_inj (by rw [toL_app, toL_app, toL_app, toL_app, List.append_assoc])
theorem cat_ok2 {a b : ByteArray} (h1 : a.size ≤ 2000000000000) (h2 : b.size ≤ 100000000) : Nat.ble (a.size + b.size) 9223372036854775807 = true := Nat.ble_eq_true_of_le (by omega)
theorem s_go0 {text : ByteArray} {L : List (List UInt8)} (es : s_l01Split text 10 = (L.length, L.map bs)) (hL : L.length ≤ 1048577) (hx : ∀ x ∈ L, x.length ≤ 1048576) : ∀ (Q D E : List (List UInt8)) (F : Nat) (v0 v1 v2 v3 v4 v5 v6 v7 : Int) (out : ByteArray), L = D ++ Q ++ E → E.length = 1 → out.size + Q.length * 100000001 ≤ 1000000000000 → Q.length < F →
  L_s_l11All_0 1000000 text F v0 v1 v2 v3 v4 v5 v6 v7 out (D.length : Int) = some ((runs (v0, v1, v2, v3, v4, v5, v6, v7) out Q).1, (runs (v0, v1, v2, v3, v4, v5, v6, v7) out Q).2, true)
 | Q, D, E, 0, v0, v1, v2, v3, v4, v5, v6, v7, out, _, _, _, h => absurd h (Nat.not_lt_zero _)
 | [], D, E, F + 1, v0, v1, v2, v3, v4, v5, v6, v7, out, e, hE, _, _ => by
  have hl : L.length = D.length + E.length := by rw [e]; simp
  show B_s_l11All_0 text (L_s_l11All_0 1000000 text F) v0 v1 v2 v3 v4 v5 v6 v7 out (D.length : Int) = _
  unfold B_s_l11All_0
  have hwn : (wI (((L.length : Nat) : Int) - 1)).toNat = L.length - 1 := by rw [wI_eq]; unfold wrap64; omega
  rw [es]
  dsimp only
  rw [hwn]
  rw [if_neg (by simp; omega)]
  rfl
 | x :: Q, D, E, F + 1, v0, v1, v2, v3, v4, v5, v6, v7, out, e, hE, hs, hF => by
  have hl : L.length = D.length + (Q.length + 1) + E.length := by rw [e]; simp; omega
  have he : L = D ++ x :: (Q ++ E) := by rw [e]; simp
  have hxx : (bs x).size ≤ 1048576 := by rw [size_toL, toL_bs]; exact hx x (by rw [he]; simp)
  have hel := elem_at he
  obtain ⟨k1, k2, k3, k4⟩ := run_vals (v0, v1, v2, v3, v4, v5, v6, v7) (bs x) hxx
  have hcnt : Q.length * 100000001 + 100000001 = (Q.length + 1) * 100000001 := by omega
  have hw : wI ((D.length : Int) + 1) = (((D ++ [x]).length : Nat) : Int) := by rw [List.length_append]; exact wrap_next (n := L.length) (by omega) (by omega)
  simp only [List.length_cons] at hs
  show B_s_l11All_0 text (L_s_l11All_0 1000000 text F) v0 v1 v2 v3 v4 v5 v6 v7 out (D.length : Int) = _
  unfold B_s_l11All_0
  have hwn : (wI (((L.length : Nat) : Int) - 1)).toNat = L.length - 1 := by rw [wI_eq]; unfold wrap64; omega
  rw [es]
  dsimp only
  rw [hwn]
  rw [if_pos (by simp; omega), if_pos (by simp; omega), if_pos (by rw [Int.toNat_natCast, List.length_map]; exact Nat.ble_eq_true_of_le (by omega)), Int.toNat_natCast, show 0 + D.length * 1 = D.length by omega, hel, hw]
  by_cases h0 : x = []
  ·rw [if_pos (emp_iff.2 h0), h0, runs_skip]
   have ih := s_go0 es hL hx Q (D ++ [x]) E F v0 v1 v2 v3 v4 v5 v6 v7 out (by rw [e]; simp) hE (Nat.le_trans (Nat.add_le_add_left (Nat.mul_le_mul_right _ (Nat.le_succ _)) _) hs) (by simpa using hF)
   rw [h0] at ih
   exact ih
  ·have h1 : (bs [10]).size = 1 := rfl
   rw [if_neg (fun q => h0 (emp_iff.1 q)), if_pos (by simp; omega), if_pos (by rw [List.length_map]; exact Nat.ble_eq_true_of_le (by omega)), if_pos k1, if_pos (cat_ok2 (by omega) k4), if_pos (cat_ok2 (by rw [size_app]; omega) (by omega))]
   rw [runs_cons _ _ _ h0]
   have h1 : (bs [10]).size = 1 := rfl
   exact s_go0 es hL hx Q (D ++ [x]) E F (s_RunLine (v0, v1, v2, v3, v4, v5, v6, v7) (bs x)).1.1 (s_RunLine (v0, v1, v2, v3, v4, v5, v6, v7) (bs x)).1.2.1 (s_RunLine (v0, v1, v2, v3, v4, v5, v6, v7) (bs x)).1.2.2.1 (s_RunLine (v0, v1, v2, v3, v4, v5, v6, v7) (bs x)).1.2.2.2.1 (s_RunLine (v0, v1, v2, v3, v4, v5, v6, v7) (bs x)).1.2.2.2.2.1 (s_RunLine (v0, v1, v2, v3, v4, v5, v6, v7) (bs x)).1.2.2.2.2.2.1 (s_RunLine (v0, v1, v2, v3, v4, v5, v6, v7) (bs x)).1.2.2.2.2.2.2.1 (s_RunLine (v0, v1, v2, v3, v4, v5, v6, v7) (bs x)).1.2.2.2.2.2.2.2 (out ++ (s_RunLine (v0, v1, v2, v3, v4, v5, v6, v7) (bs x)).2 ++ bs [10]) (by rw [e]; simp) hE (by rw [size_app, size_app]; omega) (by simpa using hF)
theorem s_go1 {text : ByteArray} {L : List (List UInt8)} (es : s_l01Split text 10 = (L.length, L.map bs)) (hL : L.length ≤ 1048577) (hx : ∀ x ∈ L, x.length ≤ 1048576) : ∀ (Q D E : List (List UInt8)) (F : Nat) (v0 v1 v2 v3 v4 v5 v6 v7 : Int) (out : ByteArray), L = D ++ Q ++ E → E.length = 0 → out.size + Q.length * 100000001 ≤ 1000000000000 → Q.length < F →
  L_s_l11All_1 1000000 text F v0 v1 v2 v3 v4 v5 v6 v7 out (D.length : Int) = some ((runs (v0, v1, v2, v3, v4, v5, v6, v7) out Q).1, (runs (v0, v1, v2, v3, v4, v5, v6, v7) out Q).2, true)
 | Q, D, E, 0, v0, v1, v2, v3, v4, v5, v6, v7, out, _, _, _, h => absurd h (Nat.not_lt_zero _)
 | [], D, E, F + 1, v0, v1, v2, v3, v4, v5, v6, v7, out, e, hE, _, _ => by
  have hl : L.length = D.length + E.length := by rw [e]; simp
  show B_s_l11All_1 text (L_s_l11All_1 1000000 text F) v0 v1 v2 v3 v4 v5 v6 v7 out (D.length : Int) = _
  unfold B_s_l11All_1
  rw [es]
  dsimp only
  rw [if_neg (by simp; omega)]
  rfl
 | x :: Q, D, E, F + 1, v0, v1, v2, v3, v4, v5, v6, v7, out, e, hE, hs, hF => by
  have hl : L.length = D.length + (Q.length + 1) + E.length := by rw [e]; simp; omega
  have he : L = D ++ x :: (Q ++ E) := by rw [e]; simp
  have hxx : (bs x).size ≤ 1048576 := by rw [size_toL, toL_bs]; exact hx x (by rw [he]; simp)
  have hel := elem_at he
  obtain ⟨k1, k2, k3, k4⟩ := run_vals (v0, v1, v2, v3, v4, v5, v6, v7) (bs x) hxx
  have hcnt : Q.length * 100000001 + 100000001 = (Q.length + 1) * 100000001 := by omega
  have hw : wI ((D.length : Int) + 1) = (((D ++ [x]).length : Nat) : Int) := by rw [List.length_append]; exact wrap_next (n := L.length) (by omega) (by omega)
  simp only [List.length_cons] at hs
  show B_s_l11All_1 text (L_s_l11All_1 1000000 text F) v0 v1 v2 v3 v4 v5 v6 v7 out (D.length : Int) = _
  unfold B_s_l11All_1
  rw [es]
  dsimp only
  rw [if_pos (by simp; omega), if_pos (by simp; omega), if_pos (by rw [Int.toNat_natCast, List.length_map]; exact Nat.ble_eq_true_of_le (by omega)), Int.toNat_natCast, Nat.mul_one, hel, hw]
  by_cases h0 : x = []
  ·rw [if_pos (emp_iff.2 h0), h0, runs_skip]
   have ih := s_go1 es hL hx Q (D ++ [x]) E F v0 v1 v2 v3 v4 v5 v6 v7 out (by rw [e]; simp) hE (Nat.le_trans (Nat.add_le_add_left (Nat.mul_le_mul_right _ (Nat.le_succ _)) _) hs) (by simpa using hF)
   rw [h0] at ih
   exact ih
  ·have h1 : (bs [10]).size = 1 := rfl
   rw [if_neg (fun q => h0 (emp_iff.1 q)), if_pos (by simp; omega), if_pos (by rw [List.length_map]; exact Nat.ble_eq_true_of_le (by omega)), if_pos k1, if_pos (cat_ok2 (by omega) k4), if_pos (cat_ok2 (by rw [size_app]; omega) (by omega))]
   rw [runs_cons _ _ _ h0]
   have h1 : (bs [10]).size = 1 := rfl
   exact s_go1 es hL hx Q (D ++ [x]) E F (s_RunLine (v0, v1, v2, v3, v4, v5, v6, v7) (bs x)).1.1 (s_RunLine (v0, v1, v2, v3, v4, v5, v6, v7) (bs x)).1.2.1 (s_RunLine (v0, v1, v2, v3, v4, v5, v6, v7) (bs x)).1.2.2.1 (s_RunLine (v0, v1, v2, v3, v4, v5, v6, v7) (bs x)).1.2.2.2.1 (s_RunLine (v0, v1, v2, v3, v4, v5, v6, v7) (bs x)).1.2.2.2.2.1 (s_RunLine (v0, v1, v2, v3, v4, v5, v6, v7) (bs x)).1.2.2.2.2.2.1 (s_RunLine (v0, v1, v2, v3, v4, v5, v6, v7) (bs x)).1.2.2.2.2.2.2.1 (s_RunLine (v0, v1, v2, v3, v4, v5, v6, v7) (bs x)).1.2.2.2.2.2.2.2 (out ++ (s_RunLine (v0, v1, v2, v3, v4, v5, v6, v7) (bs x)).2 ++ bs [10]) (by rw [e]; simp) hE (by rw [size_app, size_app]; omega) (by simpa using hF)
theorem i_go {text : ByteArray} {L : List (List UInt8)} (ei : (i_linesOf text).1 = (L.length, L.map bs)) (hL : L.length ≤ 1048577) (hx : ∀ x ∈ L, x.length ≤ 1048576) : ∀ (Q D E : List (List UInt8)) (F : Nat) (v0 v1 v2 v3 v4 v5 v6 v7 : Int) (out : ByteArray), L = D ++ Q ++ E → E.length = 0 → out.size + Q.length * 100000001 ≤ 1000000000000 → Q.length < F →
  L_i_console_0 1000000 text F v0 v1 v2 v3 v4 v5 v6 v7 (D.length : Int) out = some ((runs (v0, v1, v2, v3, v4, v5, v6, v7) out Q).1, (runs (v0, v1, v2, v3, v4, v5, v6, v7) out Q).2, true)
 | Q, D, E, 0, v0, v1, v2, v3, v4, v5, v6, v7, out, _, _, _, h => absurd h (Nat.not_lt_zero _)
 | [], D, E, F + 1, v0, v1, v2, v3, v4, v5, v6, v7, out, e, hE, _, _ => by
  have hl : L.length = D.length + E.length := by rw [e]; simp
  show B_i_console_0 text (L_i_console_0 1000000 text F) v0 v1 v2 v3 v4 v5 v6 v7 (D.length : Int) out = _
  unfold B_i_console_0
  rw [ei]
  dsimp only
  rw [if_neg (by simp; omega)]
  rfl
 | x :: Q, D, E, F + 1, v0, v1, v2, v3, v4, v5, v6, v7, out, e, hE, hs, hF => by
  have hl : L.length = D.length + (Q.length + 1) + E.length := by rw [e]; simp; omega
  have he : L = D ++ x :: (Q ++ E) := by rw [e]; simp
  have hxx : (bs x).size ≤ 1048576 := by rw [size_toL, toL_bs]; exact hx x (by rw [he]; simp)
  have hel := elem_at he
  obtain ⟨k1, k2, k3, k4⟩ := run_vals (v0, v1, v2, v3, v4, v5, v6, v7) (bs x) hxx
  have hcnt : Q.length * 100000001 + 100000001 = (Q.length + 1) * 100000001 := by omega
  have hw : wI ((D.length : Int) + 1) = (((D ++ [x]).length : Nat) : Int) := by rw [List.length_append]; exact wrap_next (n := L.length) (by omega) (by omega)
  simp only [List.length_cons] at hs
  show B_i_console_0 text (L_i_console_0 1000000 text F) v0 v1 v2 v3 v4 v5 v6 v7 (D.length : Int) out = _
  unfold B_i_console_0
  rw [ei]
  dsimp only
  rw [if_pos (by simp; omega), if_pos (by simp; omega), if_pos (by rw [Int.toNat_natCast, List.length_map]; exact Nat.ble_eq_true_of_le (by omega)), Int.toNat_natCast, Nat.mul_one, hel, hw]
  by_cases h0 : x = []
  ·rw [if_pos (emp_iff.2 h0), h0, runs_skip]
   have ih := i_go ei hL hx Q (D ++ [x]) E F v0 v1 v2 v3 v4 v5 v6 v7 out (by rw [e]; simp) hE (Nat.le_trans (Nat.add_le_add_left (Nat.mul_le_mul_right _ (Nat.le_succ _)) _) hs) (by simpa using hF)
   rw [h0] at ih
   exact ih
  ·rw [if_neg (fun q => h0 (emp_iff.1 q)), if_pos k2, if_pos (by rw [k3]; exact cat_ok2 (by omega) (by decide)), if_pos (by rw [k3]; exact Nat.ble_eq_true_of_le (by rw [size_app]; have h1 : (bs [10]).size = 1 := rfl; omega)), k3, app_assoc]
   rw [runs_cons _ _ _ h0]
   have h1 : (bs [10]).size = 1 := rfl
   exact i_go ei hL hx Q (D ++ [x]) E F (s_RunLine (v0, v1, v2, v3, v4, v5, v6, v7) (bs x)).1.1 (s_RunLine (v0, v1, v2, v3, v4, v5, v6, v7) (bs x)).1.2.1 (s_RunLine (v0, v1, v2, v3, v4, v5, v6, v7) (bs x)).1.2.2.1 (s_RunLine (v0, v1, v2, v3, v4, v5, v6, v7) (bs x)).1.2.2.2.1 (s_RunLine (v0, v1, v2, v3, v4, v5, v6, v7) (bs x)).1.2.2.2.2.1 (s_RunLine (v0, v1, v2, v3, v4, v5, v6, v7) (bs x)).1.2.2.2.2.2.1 (s_RunLine (v0, v1, v2, v3, v4, v5, v6, v7) (bs x)).1.2.2.2.2.2.2.1 (s_RunLine (v0, v1, v2, v3, v4, v5, v6, v7) (bs x)).1.2.2.2.2.2.2.2 (out ++ (s_RunLine (v0, v1, v2, v3, v4, v5, v6, v7) (bs x)).2 ++ bs [10]) (by rw [e]; simp) hE (by rw [size_app, size_app]; omega) (by simpa using hF)

theorem all_same (text : ByteArray) (hz : text.size ≤ 1048576) : ∃ r, Fo_s_l11All 1000000 text = some r ∧ Fo_i_console 1000000 text = some r := by
 have es : s_l01Split text 10 = ((spL 10 (toL text)).length, (spL 10 (toL text)).map bs) := rfl
 have hcut : cutOK text 10 = true := by unfold cutOK; simp; omega
 have hne := spL_ne 10 (toL text)
 have hlen := spL_len 10 (toL text)
 have hx : ∀ x ∈ spL 10 (toL text), x.length ≤ 1048576 := fun x hx => Nat.le_trans (spL_part hx) (by rw [← size_toL]; exact hz)
 rw [← size_toL] at hlen
 have hi : i_linesOf text = if 4000 < text.size then ((0, []), false) else ((lnsN (spL 10 (toL text)), ((spL 10 (toL text)).take (lnsN (spL 10 (toL text)))).map bs), Nat.ble (lnsN (spL 10 (toL text))) 40) := rfl
 generalize spL 10 (toL text) = L at es hne hlen hx hi
 have hpos : 1 ≤ L.length := by
  cases L with
  | nil => exact absurd rfl hne
  | cons x r => simp
 have hw : wI (((L.length : Nat) : Int) - 1) = ((L.length - 1 : Nat) : Int) := by rw [wI_eq]; unfold wrap64; omega
 have hel : (L.map bs).getD (L.length - 1) ByteArray.empty = bs (L.getD (L.length - 1) []) := by
  rw [List.getD_eq_getElem?_getD, List.getElem?_map, List.getElem?_eq_getElem (by omega), List.getD_eq_getElem?_getD, List.getElem?_eq_getElem (by omega)]
  rfl
 have hO : linesOK text = true := rfl
 by_cases hb : 4000 < text.size
 ·refine ⟨((0, 0, 0, 0, 0, 0, 0, 0), bs [], false), ?_, ?_⟩
  ·unfold Fo_s_l11All G_s_l11All
   rw [es]
   dsimp only
   rw [hw, Int.toNat_natCast, Nat.mul_one, hel, if_pos hcut, if_pos (by first | (simp; done) | (simp; omega)), if_pos (by rw [List.length_map]; exact Nat.ble_eq_true_of_le (by omega))]
   by_cases h0 : L.getD (L.length - 1) [] = []
   ·rw [if_pos (emp_iff.2 h0), if_pos (by first | (simp; done) | (simp; omega)), if_pos (by first | (simp; done) | (simp; omega))]
   ·rw [if_neg (fun q => h0 (emp_iff.1 q)), if_pos (by first | (simp; done) | (simp; omega))]
  ·unfold Fo_i_console G_i_console
   rw [if_pos hO, hi, if_pos hb]
   rfl
 ·rw [if_neg hb] at hi
  have ei : (i_linesOf text).1 = ((L.take (lnsN L)).length, (L.take (lnsN L)).map bs) := by
   rw [hi]
   have : lnsN L ≤ L.length := by unfold lnsN; split <;> omega
   rw [List.length_take, Nat.min_eq_left this]
  have hxt : ∀ x ∈ L.take (lnsN L), x.length ≤ 1048576 := fun x hm => hx x (List.mem_of_mem_take hm)
  have hlt : (L.take (lnsN L)).length = lnsN L := by
   have : lnsN L ≤ L.length := by unfold lnsN; split <;> omega
   rw [List.length_take, Nat.min_eq_left this]
  by_cases hc : lnsN L ≤ 40
  ·have gi := i_go ei (by omega) hxt (L.take (lnsN L)) [] [] 1000100 7 0 0 0 1 0 0 1 (bs []) (by simp) rfl (by rw [hlt]; have : (bs []).size = 0 := rfl; omega) (by omega)
   refine ⟨((runs (7, 0, 0, 0, 1, 0, 0, 1) (bs []) (L.take (lnsN L))).1, (runs (7, 0, 0, 0, 1, 0, 0, 1) (bs []) (L.take (lnsN L))).2, true), ?_, ?_⟩
   ·unfold Fo_s_l11All G_s_l11All
    rw [es]
    dsimp only
    rw [hw, Int.toNat_natCast, Nat.mul_one, hel, if_pos hcut, if_pos (by first | (simp; done) | (simp; omega)), if_pos (by rw [List.length_map]; exact Nat.ble_eq_true_of_le (by omega))]
    by_cases h0 : L.getD (L.length - 1) [] = []
    ·have hn : lnsN L = L.length - 1 := by unfold lnsN; rw [if_pos h0]
     rw [if_pos (emp_iff.2 h0), if_pos (by first | (simp; done) | (simp; omega)), if_neg (by first | (simp; done) | (simp; omega)), if_neg (by first | (simp; done) | (simp; omega)), hn]
     rw [hn] at hc
     exact s_go0 es (by omega) hx (L.take (L.length - 1)) [] (L.drop (L.length - 1)) 1000100 7 0 0 0 1 0 0 1 (bs []) (by simp) (by first | (simp; done) | (simp; omega)) (by rw [List.length_take]; have : (bs []).size = 0 := rfl; omega) (by rw [List.length_take]; omega)
    ·have hn : lnsN L = L.length := by unfold lnsN; rw [if_neg h0]
     rw [if_neg (fun q => h0 (emp_iff.1 q)), if_neg (by first | (simp; done) | (simp; omega)), if_neg (by first | (simp; done) | (simp; omega)), hn, List.take_length]
     rw [hn] at hc
     exact s_go1 es (by omega) hx L [] [] 1000100 7 0 0 0 1 0 0 1 (bs []) (by simp) rfl (by have : (bs []).size = 0 := rfl; omega) (by omega)
   ·unfold Fo_i_console G_i_console
    rw [if_pos hO, if_neg (by rw [hi]; simp; omega)]
    exact gi
  ·refine ⟨((0, 0, 0, 0, 0, 0, 0, 0), bs [], false), ?_, ?_⟩
   ·unfold Fo_s_l11All G_s_l11All
    rw [es]
    dsimp only
    rw [hw, Int.toNat_natCast, Nat.mul_one, hel, if_pos hcut, if_pos (by first | (simp; done) | (simp; omega)), if_pos (by rw [List.length_map]; exact Nat.ble_eq_true_of_le (by omega))]
    by_cases h0 : L.getD (L.length - 1) [] = []
    ·have hn : lnsN L = L.length - 1 := by unfold lnsN; rw [if_pos h0]
     rw [if_pos (emp_iff.2 h0), if_pos (by first | (simp; done) | (simp; omega)), if_neg (by first | (simp; done) | (simp; omega)), if_pos (by first | (simp; done) | (simp; omega))]
    ·have hn : lnsN L = L.length := by unfold lnsN; rw [if_neg h0]
     rw [if_neg (fun q => h0 (emp_iff.1 q)), if_neg (by first | (simp; done) | (simp; omega)), if_pos (by first | (simp; done) | (simp; omega))]
   ·unfold Fo_i_console G_i_console
    rw [if_pos hO, if_pos (by rw [hi]; show (!(Nat.ble (lnsN L) 40)) = true; rw [Bool.eq_false_iff.2 fun e => hc (Nat.le_of_ble_eq_true e)]; rfl)]

end Go.Proofs.YtcdpfpfbilfpoaaGreatDoor
