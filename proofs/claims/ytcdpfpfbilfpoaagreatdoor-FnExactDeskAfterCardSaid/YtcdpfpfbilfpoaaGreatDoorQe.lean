import Derived.Test.YtcdpfpfbilfpoaaGreatDoorFe
import Derived.Test.YtcdpfpfbilfpoaaGreatDoorFf
import Derived.Test.YtcdpfpfbilfpoaaGreatDoorQd
set_option linter.unusedSimpArgs false
set_option linter.unusedVariables false
namespace Go.Proofs.YtcdpfpfbilfpoaaGreatDoor
open Go.RowKit
abbrev Dk := D8i
theorem valF_dec : ∀ (l : List UInt8) (a n : Nat), valF a l = some n → 0 < a → decL n = decL a ++ l
 | [], a, n, h, _ => by
  obtain rfl : a = n := by simpa [valF] using h
  simp
 | c :: l, a, n, h, ha => by
  unfold valF at h
  by_cases hd : dgt c = true
  ·rw [if_pos hd] at h
   obtain ⟨d1, d2⟩ := dgt_iff.1 hd
   have hc : UInt8.ofNat (48 + (c.toNat - 48)) = c := by
    apply UInt8.toNat_inj.1
    rw [UInt8.toNat_ofNat_of_lt' (by show 48 + (c.toNat - 48) < 256; omega)]
    omega
   rw [valF_dec l _ n h (by omega), decL_big (n := a * 10 + (c.toNat - 48)) (by omega), show (a * 10 + (c.toNat - 48)) / 10 = a by omega, show (a * 10 + (c.toNat - 48)) % 10 = c.toNat - 48 by omega, hc]
   simp
  ·rw [if_neg hd] at h
   cases h
theorem num_back {l : List UInt8} {n : Nat} (h : numL l = some n) : decL n = l := by
 unfold numL at h
 by_cases h0 : l.length = 0 ∨ 9 < l.length ∨ (1 < l.length ∧ l.getD 0 0 = 48)
 ·rw [if_pos h0] at h
  cases h
 ·rw [if_neg h0] at h
  cases l with
  | nil => exact absurd (.inl rfl) h0
  | cons c r =>
   unfold valF at h
   by_cases hd : dgt c = true
   ·rw [if_pos hd] at h
    obtain ⟨d1, d2⟩ := dgt_iff.1 hd
    have hc : UInt8.ofNat (48 + (c.toNat - 48)) = c := by
     apply UInt8.toNat_inj.1
     rw [UInt8.toNat_ofNat_of_lt' (by show 48 + (c.toNat - 48) < 256; omega)]
     omega
    have hs : decL (0 * 10 + (c.toNat - 48)) = [c] := by rw [decL_small (by omega), Nat.zero_mul, Nat.zero_add, hc]
    by_cases hz : c.toNat = 48
    ·have hr : r = [] := by
      cases r with
      | nil => rfl
      | cons e t =>
       refine absurd (.inr (.inr ⟨by simp, ?_⟩)) h0
       show c = 48
       exact UInt8.toNat_inj.1 hz
     rw [hr] at h
     obtain rfl : 0 * 10 + (c.toNat - 48) = n := by simpa [valF] using h
     rw [hs, hr]
    ·rw [valF_dec r _ n h (by omega), hs]
     rfl
   ·rw [if_neg hd] at h
    cases h
theorem num_lt {l : List UInt8} {n : Nat} (h : numL l = some n) : n < 10 ^ 9 := by
 have e := num_back h
 unfold numL at h
 by_cases h0 : l.length = 0 ∨ 9 < l.length ∨ (1 < l.length ∧ l.getD 0 0 = 48)
 ·rw [if_pos h0] at h
  cases h
 ·have hl : l.length ≤ 9 := by omega
  rw [if_neg h0] at h
  have key : ∀ (l : List UInt8) (a n m : Nat), valF a l = some n → a < 10 ^ m → n < 10 ^ (m + l.length) := by
   intro l
   induction l with
   | nil =>
    intro a n m h ha
    obtain rfl : a = n := by simpa [valF] using h
    simpa using ha
   | cons c r ih =>
    intro a n m h ha
    unfold valF at h
    by_cases hd : dgt c = true
    ·rw [if_pos hd] at h
     obtain ⟨d1, d2⟩ := dgt_iff.1 hd
     have := ih _ _ (m + 1) h (acc_next ha (by omega))
     rw [List.length_cons, show m + (r.length + 1) = m + 1 + r.length by omega]
     exact this
    ·rw [if_neg hd] at h
     cases h
  have h1 := key l 0 n 0 h (by decide)
  rw [Nat.zero_add] at h1
  exact Nat.lt_of_lt_of_le h1 (Nat.pow_le_pow_right (by decide) hl)
-- one point of a text
def ppt (p : Int) : List (List UInt8) → (Int × Int) × Int
 | [x, y] => match numP p x with
  | some n => (match numP p y with
   | some k => (((n : Int), (k : Int)), 0)
   | none => ((0, 0), 6))
  | none => ((0, 0), 6)
 | _ => ((0, 0), 6)
theorem ppt_two (p : Int) (x y : List UInt8) : ppt p [x, y] = (match numP p x with
  | some n => (match numP p y with
   | some k => (((n : Int), (k : Int)), 0)
   | none => ((0, 0), 6))
  | none => ((0, 0), 6)) := rfl
theorem rd_long (p : Int) (x y z : List UInt8) (r : List (List UInt8)) : (rdParts p (x :: y :: z :: r)).2 = false := by
 rw [rdParts_two]
 cases numP p x with
 | none => rfl
 | some n =>
  cases numP p y with
  | none => rfl
  | some k =>
   dsimp only
   rw [if_neg (List.cons_ne_nil z r)]
theorem numP_some {p : Int} {x : List UInt8} {n : Nat} (h : numP p x = some n) : numI x = (n : Int) ∧ (n : Int) < p := by
 unfold numP at h
 unfold numI
 cases hx : numL x with
 | none => rw [hx] at h; cases h
 | some k =>
  rw [hx] at h
  dsimp only at h
  by_cases hk : (k : Int) < p
  ·rw [if_pos hk] at h
   obtain rfl : k = n := by simpa using h
   exact ⟨rfl, hk⟩
  ·rw [if_neg hk] at h
   cases h
theorem numP_none {p : Int} {x : List UInt8} (h : numP p x = none) : i_isNumber p (numI x) = false := by
 unfold numP at h
 unfold numI
 cases hx : numL x with
 | none => exact Bool.eq_false_iff.2 fun q => absurd (isNumber_iff.1 q) (by show ¬ (0 ≤ (-1 : Int) ∧ _); omega)
 | some k =>
  rw [hx] at h
  dsimp only at h
  by_cases hk : (k : Int) < p
  ·rw [if_pos hk] at h
   cases h
  ·exact Bool.eq_false_iff.2 fun q => hk (isNumber_iff.1 q).2
theorem field_le {p : Int} (hf : i_IsField p = true) : 3 ≤ p ∧ p ≤ 31 := by
 have hm := field_mem hf
 simp at hm
 omega
theorem parse_i {p : Int} (hf : i_IsField p = true) {text : ByteArray} (ht : text.size ≤ 1048576) : Fo_i_ParsePoint p text = some (ppt p (spL 44 (toL text))) := by
 have hr : readOK p text 2 = true := by unfold readOK; have := field_le hf; simp; omega
 have e : i_readNumbers p text 2 = rdParts p (spL 44 (toL text)) := rfl
 unfold Fo_i_ParsePoint
 rw [if_neg (by rw [hf]; decide), if_pos hr, e]
 generalize spL 44 (toL text) = L
 match L with
 | [] => rfl
 | [x] => rw [rdParts_one]; cases numP p x <;> rfl
 | [x, y] =>
  rw [rdParts_two, ppt_two]
  cases hx : numP p x with
  | none => rfl
  | some n =>
   cases hy : numP p y with
   | none => rfl
   | some k => rfl
 | x :: y :: z :: r =>
  rw [if_pos (by rw [rd_long]; rfl)]
  rfl
theorem parse_s {p : Int} (hf : i_IsField p = true) {text : ByteArray} (ht : text.size ≤ 1048576) : Fo_s_ParsePoint p text = some (ppt p (spL 44 (toL text))) := by
 have n0 : s_l01Numbers p [] = 0 := by rw [numbers_eq p true]; exact ask1 hf rfl
 have e : s_l01Parts text = ((spL 44 (toL text)).length, (spL 44 (toL text)).map numI) := rfl
 unfold Fo_s_ParsePoint
 rw [n0, if_neg (by decide), if_pos (Nat.ble_eq_true_of_le ht), e]
 generalize spL 44 (toL text) = L
 match L with
 | [] => rfl
 | [x] => rfl
 | [x, y] =>
  have hl : lenB [x, y].length 1 ([x, y].map numI) = true := rfl
  dsimp only
  rw [if_neg (by simp), if_pos hl]
  have en : s_l01Numbers p ([x, y].map numI) = i_asked p true (i_areNumbers p [numI x, numI y]) := numbers_eq p true [numI x, numI y]
  have ea : i_areNumbers p [numI x, numI y] = (i_isNumber p (numI x) && (i_isNumber p (numI y) && true)) := by simp [i_areNumbers]
  rw [en, ea, ppt_two]
  cases hx : numP p x with
  | none => 
   rw [numP_none hx, Bool.false_and, ask2 hf rfl]
   rfl
  | some n =>
   cases hy : numP p y with
   | none =>
    rw [numP_none hy, Bool.false_and, Bool.and_false, ask2 hf rfl]
    rfl
   | some k =>
    obtain ⟨x1, x2⟩ := numP_some hx
    obtain ⟨y1, y2⟩ := numP_some hy
    have g1 : i_isNumber p (numI x) = true := isNumber_iff.2 (by rw [x1]; omega)
    have g2 : i_isNumber p (numI y) = true := isNumber_iff.2 (by rw [y1]; omega)
    rw [g1, g2, show (true && (true && true)) = true from rfl, ask1 hf rfl, if_neg (by decide), if_pos (by rfl), if_pos (by rfl), if_pos (by rfl), if_pos (by rfl)]
    show some ((numI x, numI y), (0 : Int)) = some (((n : Int), (k : Int)), (0 : Int))
    rw [x1, y1]
 | x :: y :: z :: r =>
  dsimp only
  rw [if_pos (by simp; omega)]
  rfl
theorem ppt_ok {p : Int} (hf : i_IsField p = true) (L : List (List UInt8)) : num2 (ppt p L).1 = true ∧ ((ppt p L).2 = 0 → i_isPoint p (ppt p L).1 = true) := by
 have z : num2 (0, 0) = true := rfl
 unfold ppt
 split
 ·rename_i x y
  split
  ·rename_i n hx
   split
   ·rename_i k hy
    obtain ⟨_, x2⟩ := numP_some hx
    obtain ⟨_, y2⟩ := numP_some hy
    have g : i_isPoint p ((n : Int), (k : Int)) = true := by simp [i_isPoint, i_areNumbers, isNumber_iff]; omega
    exact ⟨num2_pt hf g, fun _ => g⟩
   ·exact ⟨z, fun q => absurd q (by decide)⟩
  ·exact ⟨z, fun q => absurd q (by decide)⟩
 ·exact ⟨z, fun q => absurd q (by decide)⟩
theorem parse_same {p : Int} (hf : i_IsField p = true) {text : ByteArray} (ht : text.size ≤ 1048576) : ok_i_ParsePoint p text = true ∧ ok_s_ParsePoint p text = true ∧ i_ParsePoint p text = ppt p (spL 44 (toL text)) ∧ s_ParsePoint p text = ppt p (spL 44 (toL text)) :=
 ⟨ok_i_ParsePoint_of (parse_i hf ht), ok_s_ParsePoint_of (parse_s hf ht), i_ParsePoint_of (parse_i hf ht), s_ParsePoint_of (parse_s hf ht)⟩

theorem ne_str {a b : List UInt8} (h : (a == b) = false) : ¬ eqS (bs a) (bs b) = true := fun q => by
 have e : a = b := congrArg toL (eqS_iff.1 q)
 rw [e, beq_self_eq_true] at h
 cases h
theorem nE {a b : List UInt8} {α : Type} {x y : α} {i : Decidable (eqS (bs a) (bs b) = true)} (h : (a == b) = false) : @ite α (eqS (bs a) (bs b) = true) i x y = y := if_neg (ne_str h)
theorem eq_str (a : List UInt8) : eqS (bs a) (bs a) = true := eqS_iff.2 rfl
theorem zero_pt {p : Int} (hf : i_IsField p = true) : i_isPoint p (0, 0) = true := by
 have := field_le hf
 simp [i_isPoint, i_areNumbers, isNumber_iff]; omega
theorem pt_rest {p : Int} (hf : i_IsField p = true) (x y : Int) : i_isPoint p (i_rest p x, i_rest p y) = true := by
 have hp := i_IsField_ok hf
 have h1 := rest_b hp x; have h2 := rest_b hp y
 unfold i_rest
 simp [i_isPoint, i_areNumbers, isNumber_iff]; omega
theorem pt_mid {p : Int} {a b : P2} (hf : i_IsField p = true) (ha : i_isPoint p a = true) (hb : i_isPoint p b = true) : i_isPoint p (s_MidpointOf p a b).1 = true := by
 obtain ⟨e, h⟩ := mid_same hf ha hb
 have hz : i_asked p true (i_arePoints p [a, b]) = 0 := ask1 hf (by simp [i_arePoints, ha, hb])
 unfold s_MidpointOf
 rw [pointcode p true, hz, if_neg (by decide)]
 exact h
theorem pt_foot {p c : Int} {a : P2} {l : P3} (hf : i_IsField p = true) : i_isPoint p (i_FootOf p c a l).1 = true := by
 unfold i_FootOf
 split
 ·exact zero_pt hf
 ·split
  ·exact zero_pt hf
  ·unfold i_foot i_meet i_divide
   exact pt_rest hf _ _
theorem pt_circum {p c : Int} (hf : i_IsField p = true) (a b d : P2) : i_isPoint p (s_CircumcentreOf p c a b d).1 = true := by
 rw [← (cmd_circum a b d).1]
 unfold i_CircumcentreOf
 by_cases h : i_triangle p c a b d = 0
 ·obtain ⟨_, hc, _⟩ := tri_zero h
  rw [h, circum_eq h hc]
  exact circum_pt h hc
 ·rw [if_pos (bne_iff_ne.2 h)]
  exact zero_pt hf
theorem pt_ortho {p c : Int} (hf : i_IsField p = true) (a b d : P2) : i_isPoint p (s_OrthocentreOf p c a b d).1 = true := by
 rw [← (cmd_ortho a b d).1]
 unfold i_OrthocentreOf
 by_cases h : i_triangle p c a b d = 0
 ·obtain ⟨_, hc, _⟩ := tri_zero h
  rw [h, ortho_eq h hc]
  exact ortho_pt h hc
 ·rw [if_pos (bne_iff_ne.2 h)]
  exact zero_pt hf
theorem pt_comb {p : Int} {a b : P2} (hf : i_IsField p = true) (t : Int) : i_isPoint p (i_CombinationOf p a b t).1 = true := by
 unfold i_CombinationOf
 split
 ·exact zero_pt hf
 ·unfold i_combination
  exact pt_rest hf _ _
-- what single answers say
theorem quad_num {p : Int} (hf : i_IsField p = true) (c : Int) (x y : P2) : num1 (i_quadrance p c x y) = true := by
 have hp := i_IsField_ok hf
 unfold i_quadrance i_product i_rest
 split
 ·exact num_in hf (rest_b hp _)
 ·split
  ·exact num_in hf (rest_b hp _)
  ·exact num_in hf (rest_b hp _)
theorem one_num {n : Int} (h : num1 n = true) (k : Int) : ok_i_oneNumber n k = true ∧ i_oneNumber n k = (s_l01Dec n, k) := by
 have e : Fo_i_oneNumber n k = some (s_l01Dec n, k) := by
  unfold Fo_i_oneNumber
  have hn : numB 1 [n] = true := by simp [numB, lenB, h]
  rw [hn, if_pos (by rfl)]
  rfl
 exact ⟨ok_i_oneNumber_of e, i_oneNumber_of e⟩
theorem one_line {l : P3} (h : num3 l = true) (k : Int) : ok_i_oneLine l k = true ∧ i_oneLine l k = (s_l11Line l, k) := by
 have e : Fo_i_oneLine l k = some (s_l11Line l, k) := by
  unfold Fo_i_oneLine
  rw [if_pos h]
  rfl
 exact ⟨ok_i_oneLine_of e, i_oneLine_of e⟩
theorem one_point {l : P2} (h : num2 l = true) (k : Int) : ok_i_onePoint l k = true ∧ i_onePoint l k = (s_l11Point l, k) := by
 have e : Fo_i_onePoint l k = some (s_l11Point l, k) := by
  unfold Fo_i_onePoint
  rw [if_pos h]
  rfl
 exact ⟨ok_i_onePoint_of e, i_onePoint_of e⟩
theorem many_pts {n : Nat} {L : List Int} (h : ptsB n L = true) (k : Int) : ok_i_manyPoints n L k = true ∧ i_manyPoints n L k = (s_l11Points n L, k) := by
 have e : Fo_i_manyPoints n L k = some (s_l11Points n L, k) := by
  unfold Fo_i_manyPoints
  rw [if_pos h]
  rfl
 exact ⟨ok_i_manyPoints_of e, i_manyPoints_of e⟩
theorem many_lns {n : Nat} {L : List Int} (h : lnsB n L = true) (k : Int) : ok_i_manyLines n L k = true ∧ i_manyLines n L k = (s_l11Lines n L, k) := by
 have e : Fo_i_manyLines n L k = some (s_l11Lines n L, k) := by
  unfold Fo_i_manyLines
  rw [if_pos h]
  rfl
 exact ⟨ok_i_manyLines_of e, i_manyLines_of e⟩
theorem many_nums {n : Nat} {L : List Int} (h : numB n L = true) (k : Int) : ok_i_manyNumbers n L k = true ∧ i_manyNumbers n L k = (s_l11List n L, k) := by
 have e : Fo_i_manyNumbers n L k = some (s_l11List n L, k) := by
  unfold Fo_i_manyNumbers
  rw [if_pos h]
  rfl
 exact ⟨ok_i_manyNumbers_of e, i_manyNumbers_of e⟩
-- sizes
theorem texts_size {n : Nat} {item : Nat → ByteArray} (hn : n ≤ 100000) (hi : ∀ q, q < n → (item q).size ≤ 100) : (bs (textsL ((List.range n).map fun q => toL (item q)))).size ≤ 100000000 := by
 rw [size_toL, toL_bs]
 have key := jn_len (sep := [32]) (M := 100) (by decide) ((List.range n).map fun q => toL (item q)) (fun x hx => by
  obtain ⟨q, hq, rfl⟩ := List.mem_map.1 hx
  rw [← size_toL]
  exact hi q (List.mem_range.1 hq))
 rw [List.length_map, List.length_range] at key
 unfold textsL
 split
 ·decide
 ·omega
theorem num_size {n : Int} (h : num1 n = true) : (s_l01Dec n).size ≤ 100000000 := Nat.le_trans (sizeD (num1_dec h)) (by decide)
theorem pt_size {a : P2} (h : num2 a = true) : (s_l11Point a).size ≤ 100000000 := Nat.le_trans (point_size h) (by decide)
theorem ln_size {a : P3} (h : num3 a = true) : (s_l11Line a).size ≤ 100000000 := Nat.le_trans (line_size h) (by decide)
theorem pts_size {n : Nat} {L : List Int} (h : ptsB n L = true) : (s_l11Points n L).size ≤ 100000000 := by
 obtain ⟨_, h2, h3⟩ := cells_s_l11Points h
 exact texts_size h2 fun q hq => point_size (h3 q hq)
theorem lns_size {n : Nat} {L : List Int} (h : lnsB n L = true) : (s_l11Lines n L).size ≤ 100000000 := by
 obtain ⟨_, h2, h3⟩ := cells_s_l11Lines h
 exact texts_size h2 fun q hq => line_size (h3 q hq)
theorem nums_size {n : Nat} {L : List Int} (h : numB n L = true) : (s_l11List n L).size ≤ 100000000 := by
 obtain ⟨_, h2, h3⟩ := cells_s_l11List h
 exact texts_size h2 fun q hq => Nat.le_trans (sizeD (h3 q hq)) (by decide)
theorem one_lns {l : P3} (h : num3 l = true) : lnsB 1 [l.1, l.2.1, l.2.2] = true := by
 unfold num3 at h
 simp only [Bool.and_eq_true] at h
 simp [lnsB, lenB, h.1, h.2.1, h.2.2]
-- a command alone that changes nothing: what the reference and the program say
def Ans (p c a1 a2 b1 b2 d1 d2 : Int) (w : ByteArray) : Prop := ∃ t1 t2 k, Fo_s_l11Ask p c (a1, a2) (b1, b2) (d1, d2) w = some (t1, k) ∧ Fo_i_answer (p, c, a1, a2, b1, b2, d1, d2) 1 [w] = some (t2, k, (p, c, a1, a2, b1, b2, d1, d2)) ∧ (k = 0 → t1 = t2 ∧ t1.size ≤ 100000000)
theorem ans_area {p c a1 a2 b1 b2 d1 d2 : Int} (hf : i_IsField p = true) (hc : isC c) (ha : i_isPoint p (a1, a2) = true) (hb : i_isPoint p (b1, b2) = true) (hd : i_isPoint p (d1, d2) = true) : Ans p c a1 a2 b1 b2 d1 d2 (bs [97, 114, 101, 97]) := by
 have e1 := (cmd_area hf ha hb hd).1
 have n1 := (cmd_area hf ha hb hd).2
 obtain ⟨o1, o2⟩ := one_num n1 (s_DoubledArea p (a1, a2) (b1, b2) (d1, d2)).2
 refine ⟨s_l01Dec (s_DoubledArea p (a1, a2) (b1, b2) (d1, d2)).1, s_l01Dec (s_DoubledArea p (a1, a2) (b1, b2) (d1, d2)).1, (s_DoubledArea p (a1, a2) (b1, b2) (d1, d2)).2, ?_, ?_, fun _ => ⟨rfl, num_size n1⟩⟩
 ·unfold Fo_s_l11Ask
  dsimp only
  rw [nE (by decide), nE (by decide), if_pos (eq_str _), if_pos (num1_dec n1)]
 ·unfold Fo_i_answer
  rw [if_neg (by decide), if_pos (by decide), if_pos (by rfl)]
  simp only [List.getD_cons_zero]
  rw [nE (by decide), nE (by decide), if_pos (eq_str _)]
  dsimp only [k33_6, k33_7]
  rw [if_pos (by rw [e1]; exact o1), e1, o2]
theorem ans_spread {p c a1 a2 b1 b2 d1 d2 : Int} (hf : i_IsField p = true) (hc : isC c) (ha : i_isPoint p (a1, a2) = true) (hb : i_isPoint p (b1, b2) = true) (hd : i_isPoint p (d1, d2) = true) : Ans p c a1 a2 b1 b2 d1 d2 (bs [115, 112, 114, 101, 97, 100]) := by
 have e1 := (cmd_spread hf hc ha hb hd).1
 have n1 := (cmd_spread hf hc ha hb hd).2
 obtain ⟨o1, o2⟩ := one_num n1 (s_SpreadAt p c (a1, a2) (b1, b2) (d1, d2)).2
 refine ⟨s_l01Dec (s_SpreadAt p c (a1, a2) (b1, b2) (d1, d2)).1, s_l01Dec (s_SpreadAt p c (a1, a2) (b1, b2) (d1, d2)).1, (s_SpreadAt p c (a1, a2) (b1, b2) (d1, d2)).2, ?_, ?_, fun _ => ⟨rfl, num_size n1⟩⟩
 ·unfold Fo_s_l11Ask
  dsimp only
  rw [nE (by decide), nE (by decide), nE (by decide), nE (by decide), nE (by decide), if_pos (eq_str _), if_pos (num1_dec n1)]
 ·unfold Fo_i_answer
  rw [if_neg (by decide), if_pos (by decide), if_pos (by rfl)]
  simp only [List.getD_cons_zero]
  rw [nE (by decide), nE (by decide), nE (by decide), nE (by decide), nE (by decide), nE (by decide), nE (by decide), if_pos (eq_str _)]
  dsimp only [k33_17, k33_18]
  rw [if_pos (by rw [e1]; exact o1), e1, o2]
theorem ans_quadrea {p c a1 a2 b1 b2 d1 d2 : Int} (hf : i_IsField p = true) (hc : isC c) (ha : i_isPoint p (a1, a2) = true) (hb : i_isPoint p (b1, b2) = true) (hd : i_isPoint p (d1, d2) = true) : Ans p c a1 a2 b1 b2 d1 d2 (bs [113, 117, 97, 100, 114, 101, 97]) := by
 have e1 := (cmd_quadrea (p := p) (c := c) (a1, a2) (b1, b2) (d1, d2)).1
 have n1 := (cmd_quadrea (p := p) (c := c) (a1, a2) (b1, b2) (d1, d2)).2
 obtain ⟨o1, o2⟩ := one_num n1 (s_QuadreaOf p c (a1, a2) (b1, b2) (d1, d2)).2
 refine ⟨s_l01Dec (s_QuadreaOf p c (a1, a2) (b1, b2) (d1, d2)).1, s_l01Dec (s_QuadreaOf p c (a1, a2) (b1, b2) (d1, d2)).1, (s_QuadreaOf p c (a1, a2) (b1, b2) (d1, d2)).2, ?_, ?_, fun _ => ⟨rfl, num_size n1⟩⟩
 ·unfold Fo_s_l11Ask
  dsimp only
  rw [nE (by decide), nE (by decide), nE (by decide), nE (by decide), nE (by decide), nE (by decide), if_pos (eq_str _), if_pos (num1_dec n1)]
 ·unfold Fo_i_answer
  rw [if_neg (by decide), if_pos (by decide), if_pos (by rfl)]
  simp only [List.getD_cons_zero]
  rw [nE (by decide), nE (by decide), nE (by decide), nE (by decide), nE (by decide), nE (by decide), nE (by decide), nE (by decide), if_pos (eq_str _)]
  dsimp only [k33_19, k33_20]
  rw [if_pos (by rw [e1]; exact o1), e1, o2]
theorem ans_centroid {p c a1 a2 b1 b2 d1 d2 : Int} (hf : i_IsField p = true) (hc : isC c) (ha : i_isPoint p (a1, a2) = true) (hb : i_isPoint p (b1, b2) = true) (hd : i_isPoint p (d1, d2) = true) : Ans p c a1 a2 b1 b2 d1 d2 (bs [99, 101, 110, 116, 114, 111, 105, 100]) := by
 have e1 := (cmd_centroid (p := p) (a1, a2) (b1, b2) (d1, d2)).1
 have n1 := (cmd_centroid (p := p) (a1, a2) (b1, b2) (d1, d2)).2
 obtain ⟨o1, o2⟩ := one_point n1 (s_CentroidOf p (a1, a2) (b1, b2) (d1, d2)).2
 refine ⟨s_l11Point (s_CentroidOf p (a1, a2) (b1, b2) (d1, d2)).1, s_l11Point (s_CentroidOf p (a1, a2) (b1, b2) (d1, d2)).1, (s_CentroidOf p (a1, a2) (b1, b2) (d1, d2)).2, ?_, ?_, fun _ => ⟨rfl, pt_size n1⟩⟩
 ·unfold Fo_s_l11Ask
  dsimp only
  rw [nE (by decide), nE (by decide), nE (by decide), nE (by decide), nE (by decide), nE (by decide), nE (by decide), if_pos (eq_str _), if_pos (n1)]
 ·unfold Fo_i_answer
  rw [if_neg (by decide), if_pos (by decide), if_pos (by rfl)]
  simp only [List.getD_cons_zero]
  rw [nE (by decide), nE (by decide), nE (by decide), nE (by decide), nE (by decide), nE (by decide), nE (by decide), nE (by decide), nE (by decide), if_pos (eq_str _)]
  dsimp only [k33_21, k33_22]
  rw [if_pos (by rw [e1]; exact o1), e1, o2]
theorem ans_orthic {p c a1 a2 b1 b2 d1 d2 : Int} (hf : i_IsField p = true) (hc : isC c) (ha : i_isPoint p (a1, a2) = true) (hb : i_isPoint p (b1, b2) = true) (hd : i_isPoint p (d1, d2) = true) : Ans p c a1 a2 b1 b2 d1 d2 (bs [111, 114, 116, 104, 105, 99]) := by
 have e1 := (cmd_orthic (p := p) (c := c) (a1, a2) (b1, b2) (d1, d2)).1
 have n1 := (cmd_orthic (p := p) (c := c) (a1, a2) (b1, b2) (d1, d2)).2
 obtain ⟨o1, o2⟩ := many_pts n1 (s_OrthicPoints p c (a1, a2) (b1, b2) (d1, d2)).2
 refine ⟨s_l11Points (s_OrthicPoints p c (a1, a2) (b1, b2) (d1, d2)).1.1 (s_OrthicPoints p c (a1, a2) (b1, b2) (d1, d2)).1.2, s_l11Points (s_OrthicPoints p c (a1, a2) (b1, b2) (d1, d2)).1.1 (s_OrthicPoints p c (a1, a2) (b1, b2) (d1, d2)).1.2, (s_OrthicPoints p c (a1, a2) (b1, b2) (d1, d2)).2, ?_, ?_, fun _ => ⟨rfl, pts_size n1⟩⟩
 ·unfold Fo_s_l11Ask
  dsimp only
  rw [nE (by decide), nE (by decide), nE (by decide), nE (by decide), nE (by decide), nE (by decide), nE (by decide), nE (by decide), nE (by decide), if_pos (eq_str _), if_pos (n1)]
 ·unfold Fo_i_answer
  rw [if_neg (by decide), if_pos (by decide), if_pos (by rfl)]
  simp only [List.getD_cons_zero]
  rw [nE (by decide), nE (by decide), nE (by decide), nE (by decide), nE (by decide), nE (by decide), nE (by decide), nE (by decide), nE (by decide), nE (by decide), nE (by decide), nE (by decide), nE (by decide), if_pos (eq_str _)]
  dsimp only [k33_29, k33_30]
  rw [if_pos (by rw [e1]; exact o1), e1, o2]
theorem ans_omega {p c a1 a2 b1 b2 d1 d2 : Int} (hf : i_IsField p = true) (hc : isC c) (ha : i_isPoint p (a1, a2) = true) (hb : i_isPoint p (b1, b2) = true) (hd : i_isPoint p (d1, d2) = true) : Ans p c a1 a2 b1 b2 d1 d2 (bs [111, 109, 101, 103, 97]) := by
 have e1 := (cmd_omega (p := p) (a1, a2) (b1, b2) (d1, d2)).1
 have n1 := (cmd_omega (p := p) (a1, a2) (b1, b2) (d1, d2)).2
 obtain ⟨o1, o2⟩ := many_pts n1 (s_OmegaPoints p (a1, a2) (b1, b2) (d1, d2)).2
 refine ⟨s_l11Points (s_OmegaPoints p (a1, a2) (b1, b2) (d1, d2)).1.1 (s_OmegaPoints p (a1, a2) (b1, b2) (d1, d2)).1.2, s_l11Points (s_OmegaPoints p (a1, a2) (b1, b2) (d1, d2)).1.1 (s_OmegaPoints p (a1, a2) (b1, b2) (d1, d2)).1.2, (s_OmegaPoints p (a1, a2) (b1, b2) (d1, d2)).2, ?_, ?_, fun _ => ⟨rfl, pts_size n1⟩⟩
 ·unfold Fo_s_l11Ask
  dsimp only
  rw [nE (by decide), nE (by decide), nE (by decide), nE (by decide), nE (by decide), nE (by decide), nE (by decide), nE (by decide), nE (by decide), nE (by decide), if_pos (eq_str _), if_pos (n1)]
 ·unfold Fo_i_answer
  rw [if_neg (by decide), if_pos (by decide), if_pos (by rfl)]
  simp only [List.getD_cons_zero]
  rw [nE (by decide), nE (by decide), nE (by decide), nE (by decide), nE (by decide), nE (by decide), nE (by decide), nE (by decide), nE (by decide), nE (by decide), nE (by decide), nE (by decide), nE (by decide), nE (by decide), nE (by decide), if_pos (eq_str _)]
  dsimp only [k33_34, k33_35]
  rw [if_pos (by rw [e1]; exact o1), e1, o2]
theorem ans_rights {p c a1 a2 b1 b2 d1 d2 : Int} (hf : i_IsField p = true) (hc : isC c) (ha : i_isPoint p (a1, a2) = true) (hb : i_isPoint p (b1, b2) = true) (hd : i_isPoint p (d1, d2) = true) : Ans p c a1 a2 b1 b2 d1 d2 (bs [114, 105, 103, 104, 116, 115]) := by
 have e1 := (cmd_rights (p := p) (a1, a2) (b1, b2) (d1, d2)).1
 have n1 := (cmd_rights (p := p) (a1, a2) (b1, b2) (d1, d2)).2
 obtain ⟨o1, o2⟩ := many_nums n1 (s_RightColours p (a1, a2) (b1, b2) (d1, d2)).2
 refine ⟨s_l11List (s_RightColours p (a1, a2) (b1, b2) (d1, d2)).1.1 (s_RightColours p (a1, a2) (b1, b2) (d1, d2)).1.2, s_l11List (s_RightColours p (a1, a2) (b1, b2) (d1, d2)).1.1 (s_RightColours p (a1, a2) (b1, b2) (d1, d2)).1.2, (s_RightColours p (a1, a2) (b1, b2) (d1, d2)).2, ?_, ?_, fun _ => ⟨rfl, nums_size n1⟩⟩
 ·unfold Fo_s_l11Ask
  dsimp only
  rw [nE (by decide), nE (by decide), nE (by decide), nE (by decide), nE (by decide), nE (by decide), nE (by decide), nE (by decide), nE (by decide), nE (by decide), nE (by decide), if_pos (eq_str _), if_pos (n1)]
 ·unfold Fo_i_answer
  rw [if_neg (by decide), if_pos (by decide), if_pos (by rfl)]
  simp only [List.getD_cons_zero]
  rw [nE (by decide), nE (by decide), nE (by decide), nE (by decide), nE (by decide), nE (by decide), nE (by decide), nE (by decide), nE (by decide), nE (by decide), nE (by decide), nE (by decide), nE (by decide), nE (by decide), nE (by decide), nE (by decide), nE (by decide), if_pos (eq_str _)]
  dsimp only [k33_38, k33_39]
  rw [if_pos (by rw [e1]; exact o1), e1, o2]
theorem ans_units {p c a1 a2 b1 b2 d1 d2 : Int} (hf : i_IsField p = true) (hc : isC c) (ha : i_isPoint p (a1, a2) = true) (hb : i_isPoint p (b1, b2) = true) (hd : i_isPoint p (d1, d2) = true) : Ans p c a1 a2 b1 b2 d1 d2 (bs [117, 110, 105, 116, 115]) := by
 have e1 := (cmd_units hf).1
 have n1 := (cmd_units hf).2
 obtain ⟨o1, o2⟩ := many_nums n1 (s_UnitCounts p).2
 refine ⟨s_l11List (s_UnitCounts p).1.1 (s_UnitCounts p).1.2, s_l11List (s_UnitCounts p).1.1 (s_UnitCounts p).1.2, (s_UnitCounts p).2, ?_, ?_, fun _ => ⟨rfl, nums_size n1⟩⟩
 ·unfold Fo_s_l11Ask
  dsimp only
  rw [nE (by decide), nE (by decide), nE (by decide), nE (by decide), nE (by decide), nE (by decide), nE (by decide), nE (by decide), nE (by decide), nE (by decide), nE (by decide), nE (by decide), if_pos (eq_str _), if_pos (n1)]
 ·unfold Fo_i_answer
  rw [if_neg (by decide), if_pos (by decide), if_pos (by rfl)]
  simp only [List.getD_cons_zero]
  rw [nE (by decide), nE (by decide), nE (by decide), nE (by decide), nE (by decide), nE (by decide), nE (by decide), nE (by decide), nE (by decide), nE (by decide), nE (by decide), nE (by decide), nE (by decide), nE (by decide), nE (by decide), nE (by decide), nE (by decide), nE (by decide), if_pos (eq_str _)]
  dsimp only [k33_40]
  rw [if_pos (by rw [e1]; exact o1), e1, o2]
theorem ans_side {p c a1 a2 b1 b2 d1 d2 : Int} (hf : i_IsField p = true) (hc : isC c) (ha : i_isPoint p (a1, a2) = true) (hb : i_isPoint p (b1, b2) = true) (hd : i_isPoint p (d1, d2) = true) : Ans p c a1 a2 b1 b2 d1 d2 (bs [115, 105, 100, 101]) := by
 have e1 := (cmd_line hf hb hd).1
 have n1 := (cmd_line hf hb hd).2.1
 obtain ⟨o1, o2⟩ := one_line n1 (s_LineThrough p (b1, b2) (d1, d2)).2
 refine ⟨s_l11Line (s_LineThrough p (b1, b2) (d1, d2)).1, s_l11Line (s_LineThrough p (b1, b2) (d1, d2)).1, (s_LineThrough p (b1, b2) (d1, d2)).2, ?_, ?_, fun _ => ⟨rfl, ln_size n1⟩⟩
 ·have es : Fo_s_l11Some p c (a1, a2) (b1, b2) (d1, d2) (bs [115, 105, 100, 101]) = some ((1, [(s_LineThrough p (b1, b2) (d1, d2)).1.1, (s_LineThrough p (b1, b2) (d1, d2)).1.2.1, (s_LineThrough p (b1, b2) (d1, d2)).1.2.2]), (s_LineThrough p (b1, b2) (d1, d2)).2) := by
   unfold Fo_s_l11Some
   rw [if_pos (eq_str _)]
  have es1 := ok_s_l11Some_of es
  have es2 := s_l11Some_of es
  unfold Fo_s_l11Ask
  rw [nE (by decide), nE (by decide), nE (by decide), nE (by decide), nE (by decide), nE (by decide), nE (by decide), nE (by decide), nE (by decide), nE (by decide), nE (by decide), nE (by decide), nE (by decide), if_pos es1, es2, if_pos (one_lns n1)]
  rfl
 ·unfold Fo_i_answer
  rw [if_neg (by decide), if_pos (by decide), if_pos (by rfl)]
  simp only [List.getD_cons_zero]
  rw [nE (by decide), nE (by decide), nE (by decide), if_pos (eq_str _)]
  dsimp only [k33_8, k33_9]
  rw [if_pos (by rw [e1]; exact o1), e1, o2]
theorem ans_median {p c a1 a2 b1 b2 d1 d2 : Int} (hf : i_IsField p = true) (hc : isC c) (ha : i_isPoint p (a1, a2) = true) (hb : i_isPoint p (b1, b2) = true) (hd : i_isPoint p (d1, d2) = true) : Ans p c a1 a2 b1 b2 d1 d2 (bs [109, 101, 100, 105, 97, 110]) := by
 have e1 := (cmd_median (p := p) (a1, a2) (b1, b2) (d1, d2)).1
 have n1 := (cmd_median (p := p) (a1, a2) (b1, b2) (d1, d2)).2
 obtain ⟨o1, o2⟩ := one_line n1 (s_MedianOf p (a1, a2) (b1, b2) (d1, d2)).2
 refine ⟨s_l11Line (s_MedianOf p (a1, a2) (b1, b2) (d1, d2)).1, s_l11Line (s_MedianOf p (a1, a2) (b1, b2) (d1, d2)).1, (s_MedianOf p (a1, a2) (b1, b2) (d1, d2)).2, ?_, ?_, fun _ => ⟨rfl, ln_size n1⟩⟩
 ·have es : Fo_s_l11Some p c (a1, a2) (b1, b2) (d1, d2) (bs [109, 101, 100, 105, 97, 110]) = some ((1, [(s_MedianOf p (a1, a2) (b1, b2) (d1, d2)).1.1, (s_MedianOf p (a1, a2) (b1, b2) (d1, d2)).1.2.1, (s_MedianOf p (a1, a2) (b1, b2) (d1, d2)).1.2.2]), (s_MedianOf p (a1, a2) (b1, b2) (d1, d2)).2) := by
   unfold Fo_s_l11Some
   rw [nE (by decide), if_pos (eq_str _)]
  have es1 := ok_s_l11Some_of es
  have es2 := s_l11Some_of es
  unfold Fo_s_l11Ask
  rw [nE (by decide), nE (by decide), nE (by decide), nE (by decide), nE (by decide), nE (by decide), nE (by decide), nE (by decide), nE (by decide), nE (by decide), nE (by decide), nE (by decide), nE (by decide), if_pos es1, es2, if_pos (one_lns n1)]
  rfl
 ·unfold Fo_i_answer
  rw [if_neg (by decide), if_pos (by decide), if_pos (by rfl)]
  simp only [List.getD_cons_zero]
  rw [nE (by decide), nE (by decide), nE (by decide), nE (by decide), nE (by decide), nE (by decide), nE (by decide), nE (by decide), nE (by decide), nE (by decide), if_pos (eq_str _)]
  dsimp only [k33_23, k33_24]
  rw [if_pos (by rw [e1]; exact o1), e1, o2]
theorem ans_altitude {p c a1 a2 b1 b2 d1 d2 : Int} (hf : i_IsField p = true) (hc : isC c) (ha : i_isPoint p (a1, a2) = true) (hb : i_isPoint p (b1, b2) = true) (hd : i_isPoint p (d1, d2) = true) : Ans p c a1 a2 b1 b2 d1 d2 (bs [97, 108, 116, 105, 116, 117, 100, 101]) := by
 have e1 := (cmd_altitude (p := p) (c := c) (a1, a2) (b1, b2) (d1, d2)).1
 have n1 := (cmd_altitude (p := p) (c := c) (a1, a2) (b1, b2) (d1, d2)).2
 obtain ⟨o1, o2⟩ := one_line n1 (s_AltitudeOf p c (a1, a2) (b1, b2) (d1, d2)).2
 refine ⟨s_l11Line (s_AltitudeOf p c (a1, a2) (b1, b2) (d1, d2)).1, s_l11Line (s_AltitudeOf p c (a1, a2) (b1, b2) (d1, d2)).1, (s_AltitudeOf p c (a1, a2) (b1, b2) (d1, d2)).2, ?_, ?_, fun _ => ⟨rfl, ln_size n1⟩⟩
 ·have es : Fo_s_l11Some p c (a1, a2) (b1, b2) (d1, d2) (bs [97, 108, 116, 105, 116, 117, 100, 101]) = some ((1, [(s_AltitudeOf p c (a1, a2) (b1, b2) (d1, d2)).1.1, (s_AltitudeOf p c (a1, a2) (b1, b2) (d1, d2)).1.2.1, (s_AltitudeOf p c (a1, a2) (b1, b2) (d1, d2)).1.2.2]), (s_AltitudeOf p c (a1, a2) (b1, b2) (d1, d2)).2) := by
   unfold Fo_s_l11Some
   rw [nE (by decide), nE (by decide), if_pos (eq_str _)]
  have es1 := ok_s_l11Some_of es
  have es2 := s_l11Some_of es
  unfold Fo_s_l11Ask
  rw [nE (by decide), nE (by decide), nE (by decide), nE (by decide), nE (by decide), nE (by decide), nE (by decide), nE (by decide), nE (by decide), nE (by decide), nE (by decide), nE (by decide), nE (by decide), if_pos es1, es2, if_pos (one_lns n1)]
  rfl
 ·unfold Fo_i_answer
  rw [if_neg (by decide), if_pos (by decide), if_pos (by rfl)]
  simp only [List.getD_cons_zero]
  rw [nE (by decide), nE (by decide), nE (by decide), nE (by decide), nE (by decide), nE (by decide), nE (by decide), nE (by decide), nE (by decide), nE (by decide), nE (by decide), if_pos (eq_str _)]
  dsimp only [k33_25, k33_26]
  rw [if_pos (by rw [e1]; exact o1), e1, o2]
theorem ans_euler {p c a1 a2 b1 b2 d1 d2 : Int} (hf : i_IsField p = true) (hc : isC c) (ha : i_isPoint p (a1, a2) = true) (hb : i_isPoint p (b1, b2) = true) (hd : i_isPoint p (d1, d2) = true) : Ans p c a1 a2 b1 b2 d1 d2 (bs [101, 117, 108, 101, 114]) := by
 have e1 := (cmd_euler (p := p) (c := c) (a1, a2) (b1, b2) (d1, d2)).1
 have n1 := (cmd_euler (p := p) (c := c) (a1, a2) (b1, b2) (d1, d2)).2
 obtain ⟨o1, o2⟩ := one_line n1 (s_EulerLineOf p c (a1, a2) (b1, b2) (d1, d2)).2
 refine ⟨s_l11Line (s_EulerLineOf p c (a1, a2) (b1, b2) (d1, d2)).1, s_l11Line (s_EulerLineOf p c (a1, a2) (b1, b2) (d1, d2)).1, (s_EulerLineOf p c (a1, a2) (b1, b2) (d1, d2)).2, ?_, ?_, fun _ => ⟨rfl, ln_size n1⟩⟩
 ·have es : Fo_s_l11Some p c (a1, a2) (b1, b2) (d1, d2) (bs [101, 117, 108, 101, 114]) = some ((1, [(s_EulerLineOf p c (a1, a2) (b1, b2) (d1, d2)).1.1, (s_EulerLineOf p c (a1, a2) (b1, b2) (d1, d2)).1.2.1, (s_EulerLineOf p c (a1, a2) (b1, b2) (d1, d2)).1.2.2]), (s_EulerLineOf p c (a1, a2) (b1, b2) (d1, d2)).2) := by
   unfold Fo_s_l11Some
   rw [nE (by decide), nE (by decide), nE (by decide), if_pos (eq_str _)]
  have es1 := ok_s_l11Some_of es
  have es2 := s_l11Some_of es
  unfold Fo_s_l11Ask
  rw [nE (by decide), nE (by decide), nE (by decide), nE (by decide), nE (by decide), nE (by decide), nE (by decide), nE (by decide), nE (by decide), nE (by decide), nE (by decide), nE (by decide), nE (by decide), if_pos es1, es2, if_pos (one_lns n1)]
  rfl
 ·unfold Fo_i_answer
  rw [if_neg (by decide), if_pos (by decide), if_pos (by rfl)]
  simp only [List.getD_cons_zero]
  rw [nE (by decide), nE (by decide), nE (by decide), nE (by decide), nE (by decide), nE (by decide), nE (by decide), nE (by decide), nE (by decide), nE (by decide), nE (by decide), nE (by decide), if_pos (eq_str _)]
  dsimp only [k33_27, k33_28]
  rw [if_pos (by rw [e1]; exact o1), e1, o2]
theorem ans_null {p c a1 a2 b1 b2 d1 d2 : Int} (hf : i_IsField p = true) (hc : isC c) (ha : i_isPoint p (a1, a2) = true) (hb : i_isPoint p (b1, b2) = true) (hd : i_isPoint p (d1, d2) = true) : Ans p c a1 a2 b1 b2 d1 d2 (bs [110, 117, 108, 108]) := by
 have e1 := (cmd_nulls hf hc ha).1
 have n1 := (cmd_nulls hf hc ha).2
 obtain ⟨o1, o2⟩ := many_lns n1 (s_NullLines p c (a1, a2)).2
 refine ⟨s_l11Lines (s_NullLines p c (a1, a2)).1.1 (s_NullLines p c (a1, a2)).1.2, s_l11Lines (s_NullLines p c (a1, a2)).1.1 (s_NullLines p c (a1, a2)).1.2, (s_NullLines p c (a1, a2)).2, ?_, ?_, fun _ => ⟨rfl, lns_size n1⟩⟩
 ·have es : Fo_s_l11Some p c (a1, a2) (b1, b2) (d1, d2) (bs [110, 117, 108, 108]) = some (((s_NullLines p c (a1, a2)).1.1, (s_NullLines p c (a1, a2)).1.2), (s_NullLines p c (a1, a2)).2) := by
   unfold Fo_s_l11Some
   rw [nE (by decide), nE (by decide), nE (by decide), nE (by decide), if_pos (eq_str _)]
  have es1 := ok_s_l11Some_of es
  have es2 := s_l11Some_of es
  unfold Fo_s_l11Ask
  rw [nE (by decide), nE (by decide), nE (by decide), nE (by decide), nE (by decide), nE (by decide), nE (by decide), nE (by decide), nE (by decide), nE (by decide), nE (by decide), nE (by decide), nE (by decide), if_pos es1, es2, if_pos (n1)]
 ·unfold Fo_i_answer
  rw [if_neg (by decide), if_pos (by decide), if_pos (by rfl)]
  simp only [List.getD_cons_zero]
  rw [nE (by decide), nE (by decide), nE (by decide), nE (by decide), nE (by decide), if_pos (eq_str _)]
  dsimp only [k33_14, k33_15]
  rw [if_pos (by rw [e1]; exact o1), e1, o2]
theorem ans_eulers {p c a1 a2 b1 b2 d1 d2 : Int} (hf : i_IsField p = true) (hc : isC c) (ha : i_isPoint p (a1, a2) = true) (hb : i_isPoint p (b1, b2) = true) (hd : i_isPoint p (d1, d2) = true) : Ans p c a1 a2 b1 b2 d1 d2 (bs [101, 117, 108, 101, 114, 115]) := by
 have e1 := (cmd_three (p := p) (a1, a2) (b1, b2) (d1, d2)).1
 have n1 := (cmd_three (p := p) (a1, a2) (b1, b2) (d1, d2)).2
 obtain ⟨o1, o2⟩ := many_lns n1 (s_ThreeEulerLines p (a1, a2) (b1, b2) (d1, d2)).2
 refine ⟨s_l11Lines (s_ThreeEulerLines p (a1, a2) (b1, b2) (d1, d2)).1.1 (s_ThreeEulerLines p (a1, a2) (b1, b2) (d1, d2)).1.2, s_l11Lines (s_ThreeEulerLines p (a1, a2) (b1, b2) (d1, d2)).1.1 (s_ThreeEulerLines p (a1, a2) (b1, b2) (d1, d2)).1.2, (s_ThreeEulerLines p (a1, a2) (b1, b2) (d1, d2)).2, ?_, ?_, fun _ => ⟨rfl, lns_size n1⟩⟩
 ·have es : Fo_s_l11Some p c (a1, a2) (b1, b2) (d1, d2) (bs [101, 117, 108, 101, 114, 115]) = some (((s_ThreeEulerLines p (a1, a2) (b1, b2) (d1, d2)).1.1, (s_ThreeEulerLines p (a1, a2) (b1, b2) (d1, d2)).1.2), (s_ThreeEulerLines p (a1, a2) (b1, b2) (d1, d2)).2) := by
   unfold Fo_s_l11Some
   rw [nE (by decide), nE (by decide), nE (by decide), nE (by decide), nE (by decide), if_pos (eq_str _)]
  have es1 := ok_s_l11Some_of es
  have es2 := s_l11Some_of es
  unfold Fo_s_l11Ask
  rw [nE (by decide), nE (by decide), nE (by decide), nE (by decide), nE (by decide), nE (by decide), nE (by decide), nE (by decide), nE (by decide), nE (by decide), nE (by decide), nE (by decide), nE (by decide), if_pos es1, es2, if_pos (n1)]
 ·unfold Fo_i_answer
  rw [if_neg (by decide), if_pos (by decide), if_pos (by rfl)]
  simp only [List.getD_cons_zero]
  rw [nE (by decide), nE (by decide), nE (by decide), nE (by decide), nE (by decide), nE (by decide), nE (by decide), nE (by decide), nE (by decide), nE (by decide), nE (by decide), nE (by decide), nE (by decide), nE (by decide), nE (by decide), nE (by decide), if_pos (eq_str _)]
  dsimp only [k33_36, k33_37]
  rw [if_pos (by rw [e1]; exact o1), e1, o2]
theorem num_c {c : Int} (hc : isC c) : num1 c = true := by rcases hc with rfl | rfl | rfl <;> rfl
theorem ans_show {p c a1 a2 b1 b2 d1 d2 : Int} (hf : i_IsField p = true) (hc : isC c) (ha : i_isPoint p (a1, a2) = true) (hb : i_isPoint p (b1, b2) = true) (hd : i_isPoint p (d1, d2) = true) : Ans p c a1 a2 b1 b2 d1 d2 (bs [115, 104, 111, 119]) := by
 have n1 : ptsB 3 [a1, a2, b1, b2, d1, d2] = true := by
  have x := num2_pt hf ha; have y := num2_pt hf hb; have z := num2_pt hf hd
  unfold num2 at x y z
  simp only [Bool.and_eq_true] at x y z
  simp [ptsB, lenB, x.1, x.2, y.1, y.2, z.1, z.2]
 refine ⟨s_l11Points 3 [a1, a2, b1, b2, d1, d2], s_l11Points 3 [a1, a2, b1, b2, d1, d2], 0, ?_, ?_, fun _ => ⟨rfl, pts_size n1⟩⟩
 ·unfold Fo_s_l11Ask
  dsimp only
  rw [if_pos (eq_str _), if_pos n1]
 ·unfold Fo_i_answer
  rw [if_neg (by decide), if_pos (by decide), if_pos (by rfl)]
  simp only [List.getD_cons_zero]
  rw [if_pos (eq_str _)]
  dsimp only [k33_5]
  rw [if_pos n1]
  rfl
theorem ans_field {p c a1 a2 b1 b2 d1 d2 : Int} (hf : i_IsField p = true) (hc : isC c) (ha : i_isPoint p (a1, a2) = true) (hb : i_isPoint p (b1, b2) = true) (hd : i_isPoint p (d1, d2) = true) : Ans p c a1 a2 b1 b2 d1 d2 (bs [102, 105, 101, 108, 100]) := by
 have n1 : numB 2 [p, c] = true := by
  have x : num1 p = true := by rw [num1_iff]; have := field_le hf; omega
  simp [numB, lenB, x, num_c hc]
 refine ⟨s_l11List 2 [p, c], s_l11List 2 [p, c], 0, ?_, ?_, fun _ => ⟨rfl, nums_size n1⟩⟩
 ·unfold Fo_s_l11Ask
  rw [nE (by decide), if_pos (eq_str _), if_pos n1]
 ·unfold Fo_i_answer
  rw [if_neg (by decide), if_pos (by decide), if_pos (by rfl)]
  simp only [List.getD_cons_zero]
  rw [nE (by decide), if_pos (eq_str _)]
  try dsimp only
  rw [if_pos n1]
  rfl
theorem ans_quadrances {p c a1 a2 b1 b2 d1 d2 : Int} (hf : i_IsField p = true) (hc : isC c) (ha : i_isPoint p (a1, a2) = true) (hb : i_isPoint p (b1, b2) = true) (hd : i_isPoint p (d1, d2) = true) : Ans p c a1 a2 b1 b2 d1 d2 (bs [113, 117, 97, 100, 114, 97, 110, 99, 101, 115]) := by
 have hp : prB p = true := field_prB hf
 have q1 := quad_same hf hc hb hd; have q2 := quad_same hf hc ha hd; have q3 := quad_same hf hc ha hb
 have n1 : numB 3 [s_l02Quadrance p c (b1, b2) (d1, d2), s_l02Quadrance p c (a1, a2) (d1, d2), s_l02Quadrance p c (a1, a2) (b1, b2)] = true := by
  have g : ∀ x y : P2, num1 (i_quadrance p c x y) = true := fun x y => quad_num hf c x y
  rw [q1, q2, q3]
  simp [numB, lenB, g]
 refine ⟨s_l11List 3 _, s_l11List 3 _, 0, ?_, ?_, fun _ => ⟨rfl, nums_size n1⟩⟩
 ·unfold Fo_s_l11Ask
  rw [nE (by decide), nE (by decide), nE (by decide), if_pos (eq_str _), if_pos hp, if_pos hp, if_pos hp, if_pos n1]
 ·unfold Fo_i_answer
  rw [if_neg (by decide), if_pos (by decide), if_pos (by rfl)]
  simp only [List.getD_cons_zero]
  rw [nE (by decide), nE (by decide), nE (by decide), nE (by decide), if_pos (eq_str _)]
  dsimp only [k33_10, k33_11, k33_12, k33_13]
  rw [if_pos hp, if_pos hp, if_pos hp, if_pos (by rw [← q1, ← q2, ← q3]; exact n1), ← q1, ← q2, ← q3]
  rfl
theorem ans_right {p c a1 a2 b1 b2 d1 d2 : Int} (hf : i_IsField p = true) (hc : isC c) (ha : i_isPoint p (a1, a2) = true) (hb : i_isPoint p (b1, b2) = true) (hd : i_isPoint p (d1, d2) = true) : Ans p c a1 a2 b1 b2 d1 d2 (bs [114, 105, 103, 104, 116]) := by
 have hp : prB p = true := field_prB hf
 have e1 := cmd_right hf hc ha hb hd
 refine ⟨s_l11Yes (i_isRight p c (a1, a2) (b1, b2) (d1, d2)), s_l11Yes (i_isRight p c (a1, a2) (b1, b2) (d1, d2)), 0, ?_, ?_, fun _ => ⟨rfl, ?_⟩⟩
 ·unfold Fo_s_l11Ask
  rw [nE (by decide), nE (by decide), nE (by decide), nE (by decide), if_pos (eq_str _), e1]
 ·unfold Fo_i_answer
  rw [if_neg (by decide), if_pos (by decide), if_pos (by rfl)]
  simp only [List.getD_cons_zero]
  rw [nE (by decide), nE (by decide), nE (by decide), nE (by decide), nE (by decide), nE (by decide), if_pos (eq_str _)]
  dsimp only [k33_16]
  rw [if_pos hp]
  by_cases hr : i_isRight p c (a1, a2) (b1, b2) (d1, d2) = true
  ·rw [if_pos hr, hr]
   rfl
  ·rw [if_neg hr, Bool.eq_false_iff.2 hr]
   rfl
 ·cases i_isRight p c (a1, a2) (b1, b2) (d1, d2) <;> decide
theorem ans_circle {p c a1 a2 b1 b2 d1 d2 : Int} (hf : i_IsField p = true) (hc : isC c) (ha : i_isPoint p (a1, a2) = true) (hb : i_isPoint p (b1, b2) = true) (hd : i_isPoint p (d1, d2) = true) : Ans p c a1 a2 b1 b2 d1 d2 (bs [99, 105, 114, 99, 108, 101]) := by
 have e1 := (cmd_circle (p := p) (c := c) (a1, a2) (b1, b2) (d1, d2)).1
 have n1 := (cmd_circle (p := p) (c := c) (a1, a2) (b1, b2) (d1, d2)).2
 have h3 := n1
 unfold num3 at h3
 simp only [Bool.and_eq_true] at h3
 have m1 : num2 ((s_CircleThrough p c (a1, a2) (b1, b2) (d1, d2)).1.1, (s_CircleThrough p c (a1, a2) (b1, b2) (d1, d2)).1.2.1) = true := num2_of h3.1 h3.2.1
 have m2 : num1 (s_CircleThrough p c (a1, a2) (b1, b2) (d1, d2)).1.2.2 = true := h3.2.2
 have m3 : (numB 1 [(s_CircleThrough p c (a1, a2) (b1, b2) (d1, d2)).1.2.2] && Nat.ble (bs [32]).size 10) = true := by
  have hn : numB 1 [(s_CircleThrough p c (a1, a2) (b1, b2) (d1, d2)).1.2.2] = true := by simp [numB, lenB, m2]
  rw [hn]
  rfl
 have z1 := point_size m1; have z2 := sizeD (num1_dec m2)
 have s1 : Nat.ble ((s_l11Point ((s_CircleThrough p c (a1, a2) (b1, b2) (d1, d2)).1.1, (s_CircleThrough p c (a1, a2) (b1, b2) (d1, d2)).1.2.1)).size + (bs [32]).size) 9223372036854775807 = true := cat_ok (Nat.le_trans z1 (by decide)) (by decide)
 have s2 : Nat.ble ((s_l11Point ((s_CircleThrough p c (a1, a2) (b1, b2) (d1, d2)).1.1, (s_CircleThrough p c (a1, a2) (b1, b2) (d1, d2)).1.2.1) ++ bs [32]).size + (s_l01Dec (s_CircleThrough p c (a1, a2) (b1, b2) (d1, d2)).1.2.2).size) 9223372036854775807 = true := cat_ok (by rw [size_app]; have : (bs [32]).size = 1 := rfl; have := z1; show (s_l11Point _).size + (bs [32]).size ≤ _; unfold s_l11Point; omega) (Nat.le_trans z2 (by decide))
 refine ⟨s_l11Point ((s_CircleThrough p c (a1, a2) (b1, b2) (d1, d2)).1.1, (s_CircleThrough p c (a1, a2) (b1, b2) (d1, d2)).1.2.1) ++ bs [32] ++ s_l01Dec (s_CircleThrough p c (a1, a2) (b1, b2) (d1, d2)).1.2.2, s_l11Point ((s_CircleThrough p c (a1, a2) (b1, b2) (d1, d2)).1.1, (s_CircleThrough p c (a1, a2) (b1, b2) (d1, d2)).1.2.1) ++ bs [32] ++ s_l01Dec (s_CircleThrough p c (a1, a2) (b1, b2) (d1, d2)).1.2.2, (s_CircleThrough p c (a1, a2) (b1, b2) (d1, d2)).2, ?_, ?_, fun _ => ⟨rfl, ?_⟩⟩
 ·unfold Fo_s_l11Ask
  rw [nE (by decide), nE (by decide), nE (by decide), nE (by decide), nE (by decide), nE (by decide), nE (by decide), nE (by decide), if_pos (eq_str _), if_pos m1, if_pos s1, if_pos (num1_dec m2), if_pos s2]
 ·unfold Fo_i_answer
  rw [if_neg (by decide), if_pos (by decide), if_pos (by rfl)]
  simp only [List.getD_cons_zero]
  rw [nE (by decide), nE (by decide), nE (by decide), nE (by decide), nE (by decide), nE (by decide), nE (by decide), nE (by decide), nE (by decide), nE (by decide), nE (by decide), nE (by decide), nE (by decide), nE (by decide), if_pos (eq_str _)]
  dsimp only [k33_31, k33_32, k33_33]
  rw [if_pos (by rw [e1]; exact m1), if_pos (by rw [e1]; exact s1), if_pos (by rw [e1]; exact m3), if_pos (by rw [e1]; exact s2), e1]
  rfl
 ·rw [size_app, size_app]
  have : (bs [32]).size = 1 := rfl
  have z1' : (s_l11Point ((s_CircleThrough p c (a1, a2) (b1, b2) (d1, d2)).1.1, (s_CircleThrough p c (a1, a2) (b1, b2) (d1, d2)).1.2.1)).size ≤ 100 := z1
  omega

end Go.Proofs.YtcdpfpfbilfpoaaGreatDoor
