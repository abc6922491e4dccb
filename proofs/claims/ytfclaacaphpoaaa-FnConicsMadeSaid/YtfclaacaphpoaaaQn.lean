import Derived.Test.YtfclaacaphpoaaaQm
set_option linter.unusedSimpArgs false
set_option linter.unusedVariables false
namespace Go.Proofs.Ytfclaacaphpoaaa
open Go.RowKit
abbrev LL := List (List Int)
theorem lti {j n : Nat} (h : j < n) : decide ((j : Int) < ((n : Nat) : Int)) = true := by simp; omega
theorem cki {j n : Nat} (h : j < n) : (decide (0 <= (j : Int)) && decide ((j : Int) < ((n : Nat) : Int))) = true := by simp; omega
theorem bli {j n : Nat} (h : j < n) : Nat.ble (j + 1) n = true := Nat.ble_eq_true_of_le h
def lsR (p : Int) (own : List Int) (c : Nat) (r : List Int) : List Int := (Z2N p 6 r 6 own (r.getD c 0)).2
def hm (f : List Int -> List Int) (D : LL) (j : Nat) : LL := (D.take j).map f ++ D.drop j
theorem Z8V (f : List Int -> List Int) (D : LL) (j : Nat) : (hm f D j).length = D.length := by unfold hm; simp; omega
theorem ZgR (f : List Int -> List Int) (D : LL) : hm f D 0 = D := by unfold hm; simp
theorem Zi0 (f : List Int -> List Int) (D : LL) : hm f D D.length = D.map f := by unfold hm; simp
theorem Zlz (f : List Int -> List Int) : ∀ {D : LL} {j : Nat}, j < D.length -> (hm f D j).getD j [] = D.getD j []
 | x :: D, 0, _ => by rw [ZgR]
 | x :: D, j + 1, h => by
  have := Zlz f (D := D) (j := j) (by simpa using h)
  unfold hm at this ⊢
  simpa using this
theorem ZlA (f : List Int -> List Int) : ∀ {D : LL} {j : Nat}, j < D.length -> (hm f D j).set j (f (D.getD j [])) = hm f D (j + 1)
 | x :: D, 0, _ => by unfold hm; simp
 | x :: D, j + 1, h => by
  have := ZlA f (D := D) (j := j) (by simpa using h)
  unfold hm at this ⊢
  simpa using this
theorem Z3q {D : LL} {j : Nat} (h : j < D.length) : D.getD j [] ∈ D := by
 rw [List.getD_eq_getElem?_getD, List.getElem?_eq_getElem h]
 exact List.getElem_mem h
section
variable {fu : Nat} {p : Int} {rowsl d1 d14 : LL} {rec14 : LL -> LL -> Int -> Option LL} {rec15 : Int -> Int -> Option LL} {rec16 : List Int -> Nat -> Int -> Option LL} {rec17 rec18 : LL -> Int -> Option LL} {c : Nat} {a i k i' : Int} {l40 : List Int} {d77 : LL}
theorem b18 (hp : prB p = true) (hc : c < 6) (ho : l40.length = 6) {S : LL} {j : Nat} {r : List Int} (hj : j < S.length) (hS : S.length <= 10) (hg : S.getD j [] = r) (hr : r.length = 6) :
  Z4e p rowsl d1 d14 (c : Int) a i l40 6 k d77 i' rec14 rec15 rec16 rec17 rec18 S (j : Int) = rec18 (S.set j (lsR p l40 c r)) ((j + 1 : Nat) : Int) := by
 have h6 : Nat.ble (c + 1) 6 = true := Nat.ble_eq_true_of_le hc
 unfold Z4e
 simp only [Int.toNat_natCast, Nat.mul_one, hg, hr, ho]
 rw [if_pos (lti hj), if_pos (cki hj), if_pos (bli hj), if_pos (cki hj), if_pos (bli hj), if_pos (ck6 hc), if_pos h6, if_pos (by rw [hp]; rfl), if_pos (cki hj), if_pos (by rw [bli hj]; rfl), wnx (by omega)]
 rfl
theorem x18 (hc : c < 6) (ho : l40.length = 6) {S : LL} (hS : S.length <= 10) :
  Z4e p rowsl d1 d14 (c : Int) a i l40 6 k d77 i' rec14 rec15 rec16 rec17 rec18 S ((S.length : Nat) : Int) = rec14 d77 (S ++ [l40]) ((c + 1 : Nat) : Int) := by
 unfold Z4e
 rw [if_neg (by simp), if_pos (by rw [ho]; rfl), if_pos (Nat.ble_eq_true_of_le (by simp; omega)), wnx (by omega)]
theorem l18 (hp : prB p = true) (hc : c < 6) (ho : l40.length = 6) {D : LL} (hD : ∀ r ∈ D, r.length = 6) (h10 : D.length <= 10) : ∀ (d j F : Nat), j + d = D.length -> d < F ->
  Z1V fu p rowsl d1 d14 (c : Int) a i l40 6 k d77 i' rec14 rec15 rec16 rec17 F (hm (lsR p l40 c) D j) (j : Int) = rec14 d77 (D.map (lsR p l40 c) ++ [l40]) ((c + 1 : Nat) : Int)
 | _, _, 0, _, h => absurd h (Nat.not_lt_zero _)
 | 0, j, F + 1, hj, _ => by
  obtain rfl : j = D.length := by omega
  have e := x18 (p := p) (rowsl := rowsl) (d1 := d1) (d14 := d14) (a := a) (i := i) (k := k) (d77 := d77) (i' := i') (rec14 := rec14) (rec15 := rec15) (rec16 := rec16) (rec17 := rec17) (rec18 := Z1V fu p rowsl d1 d14 (c : Int) a i l40 6 k d77 i' rec14 rec15 rec16 rec17 F) hc ho (S := hm (lsR p l40 c) D D.length) (by rw [Z8V]; exact h10)
  rw [Z8V, Zi0] at e
  rw [Zi0]
  exact e
 | d + 1, j, F + 1, hj, hF => by
  have hjl : j < D.length := by omega
  have e := b18 (p := p) (rowsl := rowsl) (d1 := d1) (d14 := d14) (a := a) (i := i) (k := k) (d77 := d77) (i' := i') (rec14 := rec14) (rec15 := rec15) (rec16 := rec16) (rec17 := rec17) (rec18 := Z1V fu p rowsl d1 d14 (c : Int) a i l40 6 k d77 i' rec14 rec15 rec16 rec17 F) hp hc ho (S := hm (lsR p l40 c) D j) (by rw [Z8V]; exact hjl) (by rw [Z8V]; exact h10) (Zlz _ hjl) (hD _ (Z3q hjl))
  rw [ZlA _ hjl] at e
  exact e.trans (l18 hp hc ho hD h10 d (j + 1) F (by omega) (by omega))
theorem b17 {lo18 : LL -> Int -> Option LL} (hp : prB p = true) (hc : c < 6) (ho : l40.length = 6) {S : LL} {j : Nat} {r : List Int} (hj : j < S.length) (hS : S.length <= 10) (hg : S.getD j [] = r) (hr : r.length = 6) :
  Z4d p rowsl d1 d14 (c : Int) a i l40 6 k rec14 rec15 rec16 lo18 rec17 S (j : Int) = rec17 (S.set j (lsR p l40 c r)) ((j + 1 : Nat) : Int) := by
 have h6 : Nat.ble (c + 1) 6 = true := Nat.ble_eq_true_of_le hc
 unfold Z4d
 simp only [Int.toNat_natCast, Nat.mul_one, hg, hr, ho]
 rw [if_pos (lti hj), if_pos (cki hj), if_pos (bli hj), if_pos (cki hj), if_pos (bli hj), if_pos (ck6 hc), if_pos h6, if_pos (by rw [hp]; rfl), if_pos (cki hj), if_pos (by rw [bli hj]; rfl), wnx (by omega)]
 rfl
theorem l17 (hfu : 20 <= fu) (hp : prB p = true) (hc : c < 6) (ho : l40.length = 6) (hO : ∀ r ∈ d14, r.length = 6) (hO10 : d14.length <= 10) {D : LL} (hD : ∀ r ∈ D, r.length = 6) (h10 : D.length <= 10) : ∀ (d j F : Nat), j + d = D.length -> d < F ->
  Z1v fu p rowsl d1 d14 (c : Int) a i l40 6 k rec14 rec15 rec16 F (hm (lsR p l40 c) D j) (j : Int) = rec14 (D.map (lsR p l40 c)) (d14.map (lsR p l40 c) ++ [l40]) ((c + 1 : Nat) : Int)
 | _, _, 0, _, h => absurd h (Nat.not_lt_zero _)
 | 0, j, F + 1, hj, _ => by
  obtain rfl : j = D.length := by omega
  have e := l18 (fu := fu) (p := p) (rowsl := rowsl) (d1 := d1) (d14 := d14) (a := a) (i := i) (k := k) (d77 := D.map (lsR p l40 c)) (i' := ((D.length : Nat) : Int)) (rec14 := rec14) (rec15 := rec15) (rec16 := rec16) (rec17 := Z1v fu p rowsl d1 d14 (c : Int) a i l40 6 k rec14 rec15 rec16 F) hp hc ho hO hO10 d14.length 0 fu (by omega) (by omega)
  rw [ZgR] at e
  rw [Zi0]
  refine Eq.trans ?_ e
  show Z4d p rowsl d1 d14 (c : Int) a i l40 6 k rec14 rec15 rec16 _ _ (D.map (lsR p l40 c)) ((D.length : Nat) : Int) = _
  unfold Z4d
  rw [if_neg (by simp)]
  rfl
 | d + 1, j, F + 1, hj, hF => by
  have hjl : j < D.length := by omega
  have e := b17 (p := p) (rowsl := rowsl) (d1 := d1) (d14 := d14) (a := a) (i := i) (k := k) (rec14 := rec14) (rec15 := rec15) (rec16 := rec16) (lo18 := Z1V fu p rowsl d1 d14 (c : Int) a i l40 6 k (hm (lsR p l40 c) D j) (j : Int) rec14 rec15 rec16 (Z1v fu p rowsl d1 d14 (c : Int) a i l40 6 k rec14 rec15 rec16 F) fu) (rec17 := Z1v fu p rowsl d1 d14 (c : Int) a i l40 6 k rec14 rec15 rec16 F) hp hc ho (S := hm (lsR p l40 c) D j) (by rw [Z8V]; exact hjl) (by rw [Z8V]; exact h10) (Zlz _ hjl) (hD _ (Z3q hjl))
  rw [ZlA _ hjl] at e
  exact e.trans (l17 hfu hp hc ho hO hO10 hD h10 d (j + 1) F (by omega) (by omega))
def ownp (p b : Int) (r : List Int) (k : Nat) : List Int := (List.range k).map fun q => Z4 (wI (r.getD q 0 * b)) p
theorem ZlM (p b : Int) (r : List Int) (k : Nat) : (ownp p b r k).length = k := by simp [ownp]
theorem ZnF (p b : Int) (r : List Int) (k : Nat) : ownp p b r k ++ [Z4 (wI (r.getD k 0 * b)) p] = ownp p b r (k + 1) := by
 unfold ownp
 rw [List.range_succ, List.map_append]
 rfl
theorem l16 (hfu : 20 <= fu) (hp : prB p = true) (hc : c < 6) {q : Nat} (hq : q < d1.length) (h10 : d1.length <= 10) (hD : ∀ r ∈ d1, r.length = 6) (hO : ∀ r ∈ d14, r.length = 6) (hO10 : d14.length <= 10) {r : List Int} (hr : d1.getD q [] = r) {b : Int} (hb : Zn (r.getD c 0) p = b) : ∀ (d k F : Nat), k + d = 6 -> d < F ->
  Z1U fu p rowsl d1 d14 (c : Int) (q : Int) i rec14 rec15 F (ownp p b r k) k (k : Int) = rec14 ((d1.take q ++ d1.drop (q + 1)).map (lsR p (ownp p b r 6) c)) (d14.map (lsR p (ownp p b r 6) c) ++ [ownp p b r 6]) ((c + 1 : Nat) : Int)
 | _, _, 0, _, h => absurd h (Nat.not_lt_zero _)
 | 0, k, F + 1, hj, _ => by
  obtain rfl : k = 6 := by omega
  have hB : ∀ r ∈ d1.take q ++ d1.drop (q + 1), r.length = 6 := fun r hr => by
   rcases List.mem_append.1 hr with h | h
   ·exact hD r (List.mem_of_mem_take h)
   ·exact hD r (List.mem_of_mem_drop h)
  have hBl : (d1.take q ++ d1.drop (q + 1)).length <= 10 := by simp; omega
  have e := l17 (p := p) (rowsl := rowsl) (d1 := d1) (d14 := d14) (a := (q : Int)) (i := i) (k := ((6 : Nat) : Int)) (rec14 := rec14) (rec15 := rec15) (rec16 := Z1U fu p rowsl d1 d14 (c : Int) (q : Int) i rec14 rec15 F) hfu hp hc (ZlM p b r 6) hO hO10 hB hBl (d1.take q ++ d1.drop (q + 1)).length 0 fu (by omega) (by omega)
  rw [ZgR] at e
  refine Eq.trans ?_ e
  show Z4c p rowsl d1 d14 (c : Int) (q : Int) i rec14 rec15 _ _ (ownp p b r 6) 6 ((6 : Nat) : Int) = _
  unfold Z4c
  have w : wI ((q : Int) + 1) = ((q + 1 : Nat) : Int) := wnx (by omega)
  rw [if_neg (by decide)]
  simp only [w, Int.toNat_natCast, Nat.mul_one, List.nil_append, List.drop_zero, Nat.zero_add]
  have e1 : (d1.drop (q + 1)).take (d1.length - (q + 1)) = d1.drop (q + 1) := List.take_of_length_le (by simp)
  rw [if_pos (by simp; omega), if_pos (by simp; omega), if_pos (by simp; omega), if_pos (by simp; omega), e1]
  rfl
 | d + 1, k, F + 1, hj, hF => by
  have h6 : k < 6 := by omega
  have hrl : r.length = 6 := by rw [<- hr]; exact hD _ (Z3q hq)
  have hb6 : Nat.ble (k + 1) 6 = true := Nat.ble_eq_true_of_le h6
  have hbk : (Nat.ble 0 1 && Nat.ble (k + 1) 2000000 && Nat.beq 1 1) = true := by simp; omega
  have ih := l16 hfu hp hc hq h10 hD hO hO10 hr hb d (k + 1) F (by omega) (by omega)
  refine Eq.trans ?_ ih
  show Z4c p rowsl d1 d14 (c : Int) (q : Int) i rec14 rec15 _ _ (ownp p b r k) k (k : Int) = _
  unfold Z4c
  simp only [Int.toNat_natCast, Nat.mul_one, hr, hrl]
  rw [if_pos (lt6 h6), if_pos (cki hq), if_pos (bli hq), if_pos (ck6 h6), if_pos hb6, if_pos hp, if_pos hbk, wnx (by omega), hb, ZnF]
theorem b21 (hp : prB p = true) (hc : c < 6) (ho : l40.length = 6) {S : LL} {j : Nat} {r : List Int} (hj : j < S.length) (hS : S.length <= 10) (hg : S.getD j [] = r) (hr : r.length = 6) :
  Z4h p rowsl d1 d14 (c : Int) a i l40 6 k d77 i' rec14 rec15 rec16 rec17 rec18 S (j : Int) = rec18 (S.set j (lsR p l40 c r)) ((j + 1 : Nat) : Int) := by
 have h6 : Nat.ble (c + 1) 6 = true := Nat.ble_eq_true_of_le hc
 unfold Z4h
 simp only [Int.toNat_natCast, Nat.mul_one, hg, hr, ho]
 rw [if_pos (lti hj), if_pos (cki hj), if_pos (bli hj), if_pos (cki hj), if_pos (bli hj), if_pos (ck6 hc), if_pos h6, if_pos (by rw [hp]; rfl), if_pos (cki hj), if_pos (by rw [bli hj]; rfl), wnx (by omega)]
 rfl
theorem x21 (hc : c < 6) (ho : l40.length = 6) {S : LL} (hS : S.length <= 10) :
  Z4h p rowsl d1 d14 (c : Int) a i l40 6 k d77 i' rec14 rec15 rec16 rec17 rec18 S ((S.length : Nat) : Int) = rec14 d77 (S ++ [l40]) ((c + 1 : Nat) : Int) := by
 unfold Z4h
 rw [if_neg (by simp), if_pos (by rw [ho]; rfl), if_pos (Nat.ble_eq_true_of_le (by simp; omega)), wnx (by omega)]
theorem l21 (hp : prB p = true) (hc : c < 6) (ho : l40.length = 6) {D : LL} (hD : ∀ r ∈ D, r.length = 6) (h10 : D.length <= 10) : ∀ (d j F : Nat), j + d = D.length -> d < F ->
  Z1X fu p rowsl d1 d14 (c : Int) a i l40 6 k d77 i' rec14 rec15 rec16 rec17 F (hm (lsR p l40 c) D j) (j : Int) = rec14 d77 (D.map (lsR p l40 c) ++ [l40]) ((c + 1 : Nat) : Int)
 | _, _, 0, _, h => absurd h (Nat.not_lt_zero _)
 | 0, j, F + 1, hj, _ => by
  obtain rfl : j = D.length := by omega
  have e := x21 (p := p) (rowsl := rowsl) (d1 := d1) (d14 := d14) (a := a) (i := i) (k := k) (d77 := d77) (i' := i') (rec14 := rec14) (rec15 := rec15) (rec16 := rec16) (rec17 := rec17) (rec18 := Z1X fu p rowsl d1 d14 (c : Int) a i l40 6 k d77 i' rec14 rec15 rec16 rec17 F) hc ho (S := hm (lsR p l40 c) D D.length) (by rw [Z8V]; exact h10)
  rw [Z8V, Zi0] at e
  rw [Zi0]
  exact e
 | d + 1, j, F + 1, hj, hF => by
  have hjl : j < D.length := by omega
  have e := b21 (p := p) (rowsl := rowsl) (d1 := d1) (d14 := d14) (a := a) (i := i) (k := k) (d77 := d77) (i' := i') (rec14 := rec14) (rec15 := rec15) (rec16 := rec16) (rec17 := rec17) (rec18 := Z1X fu p rowsl d1 d14 (c : Int) a i l40 6 k d77 i' rec14 rec15 rec16 rec17 F) hp hc ho (S := hm (lsR p l40 c) D j) (by rw [Z8V]; exact hjl) (by rw [Z8V]; exact h10) (Zlz _ hjl) (hD _ (Z3q hjl))
  rw [ZlA _ hjl] at e
  exact e.trans (l21 hp hc ho hD h10 d (j + 1) F (by omega) (by omega))
theorem b20 {lo18 : LL -> Int -> Option LL} (hp : prB p = true) (hc : c < 6) (ho : l40.length = 6) {S : LL} {j : Nat} {r : List Int} (hj : j < S.length) (hS : S.length <= 10) (hg : S.getD j [] = r) (hr : r.length = 6) :
  Z4g p rowsl d1 d14 (c : Int) a i l40 6 k rec14 rec15 rec16 lo18 rec17 S (j : Int) = rec17 (S.set j (lsR p l40 c r)) ((j + 1 : Nat) : Int) := by
 have h6 : Nat.ble (c + 1) 6 = true := Nat.ble_eq_true_of_le hc
 unfold Z4g
 simp only [Int.toNat_natCast, Nat.mul_one, hg, hr, ho]
 rw [if_pos (lti hj), if_pos (cki hj), if_pos (bli hj), if_pos (cki hj), if_pos (bli hj), if_pos (ck6 hc), if_pos h6, if_pos (by rw [hp]; rfl), if_pos (cki hj), if_pos (by rw [bli hj]; rfl), wnx (by omega)]
 rfl
theorem l20 (hfu : 20 <= fu) (hp : prB p = true) (hc : c < 6) (ho : l40.length = 6) (hO : ∀ r ∈ d14, r.length = 6) (hO10 : d14.length <= 10) {D : LL} (hD : ∀ r ∈ D, r.length = 6) (h10 : D.length <= 10) : ∀ (d j F : Nat), j + d = D.length -> d < F ->
  Z1w fu p rowsl d1 d14 (c : Int) a i l40 6 k rec14 rec15 rec16 F (hm (lsR p l40 c) D j) (j : Int) = rec14 (D.map (lsR p l40 c)) (d14.map (lsR p l40 c) ++ [l40]) ((c + 1 : Nat) : Int)
 | _, _, 0, _, h => absurd h (Nat.not_lt_zero _)
 | 0, j, F + 1, hj, _ => by
  obtain rfl : j = D.length := by omega
  have e := l21 (fu := fu) (p := p) (rowsl := rowsl) (d1 := d1) (d14 := d14) (a := a) (i := i) (k := k) (d77 := D.map (lsR p l40 c)) (i' := ((D.length : Nat) : Int)) (rec14 := rec14) (rec15 := rec15) (rec16 := rec16) (rec17 := Z1w fu p rowsl d1 d14 (c : Int) a i l40 6 k rec14 rec15 rec16 F) hp hc ho hO hO10 d14.length 0 fu (by omega) (by omega)
  rw [ZgR] at e
  rw [Zi0]
  refine Eq.trans ?_ e
  show Z4g p rowsl d1 d14 (c : Int) a i l40 6 k rec14 rec15 rec16 _ _ (D.map (lsR p l40 c)) ((D.length : Nat) : Int) = _
  unfold Z4g
  rw [if_neg (by simp)]
  rfl
 | d + 1, j, F + 1, hj, hF => by
  have hjl : j < D.length := by omega
  have e := b20 (p := p) (rowsl := rowsl) (d1 := d1) (d14 := d14) (a := a) (i := i) (k := k) (rec14 := rec14) (rec15 := rec15) (rec16 := rec16) (lo18 := Z1X fu p rowsl d1 d14 (c : Int) a i l40 6 k (hm (lsR p l40 c) D j) (j : Int) rec14 rec15 rec16 (Z1w fu p rowsl d1 d14 (c : Int) a i l40 6 k rec14 rec15 rec16 F) fu) (rec17 := Z1w fu p rowsl d1 d14 (c : Int) a i l40 6 k rec14 rec15 rec16 F) hp hc ho (S := hm (lsR p l40 c) D j) (by rw [Z8V]; exact hjl) (by rw [Z8V]; exact h10) (Zlz _ hjl) (hD _ (Z3q hjl))
  rw [ZlA _ hjl] at e
  exact e.trans (l20 hfu hp hc ho hO hO10 hD h10 d (j + 1) F (by omega) (by omega))
theorem l19 (hfu : 20 <= fu) (hp : prB p = true) (hc : c < 6) {q : Nat} (hq : q < d1.length) (h10 : d1.length <= 10) (hD : ∀ r ∈ d1, r.length = 6) (hO : ∀ r ∈ d14, r.length = 6) (hO10 : d14.length <= 10) {r : List Int} (hr : d1.getD q [] = r) {b : Int} (hb : Zn (r.getD c 0) p = b) : ∀ (d k F : Nat), k + d = 6 -> d < F ->
  Z1W fu p rowsl d1 d14 (c : Int) (q : Int) i rec14 rec15 F (ownp p b r k) k (k : Int) = rec14 ((d1.take q ++ d1.drop (q + 1)).map (lsR p (ownp p b r 6) c)) (d14.map (lsR p (ownp p b r 6) c) ++ [ownp p b r 6]) ((c + 1 : Nat) : Int)
 | _, _, 0, _, h => absurd h (Nat.not_lt_zero _)
 | 0, k, F + 1, hj, _ => by
  obtain rfl : k = 6 := by omega
  have hB : ∀ r ∈ d1.take q ++ d1.drop (q + 1), r.length = 6 := fun r hr => by
   rcases List.mem_append.1 hr with h | h
   ·exact hD r (List.mem_of_mem_take h)
   ·exact hD r (List.mem_of_mem_drop h)
  have hBl : (d1.take q ++ d1.drop (q + 1)).length <= 10 := by simp; omega
  have e := l20 (p := p) (rowsl := rowsl) (d1 := d1) (d14 := d14) (a := (q : Int)) (i := i) (k := ((6 : Nat) : Int)) (rec14 := rec14) (rec15 := rec15) (rec16 := Z1W fu p rowsl d1 d14 (c : Int) (q : Int) i rec14 rec15 F) hfu hp hc (ZlM p b r 6) hO hO10 hB hBl (d1.take q ++ d1.drop (q + 1)).length 0 fu (by omega) (by omega)
  rw [ZgR] at e
  refine Eq.trans ?_ e
  show Z4f p rowsl d1 d14 (c : Int) (q : Int) i rec14 rec15 _ _ (ownp p b r 6) 6 ((6 : Nat) : Int) = _
  unfold Z4f
  have w : wI ((q : Int) + 1) = ((q + 1 : Nat) : Int) := wnx (by omega)
  rw [if_neg (by decide)]
  simp only [w, Int.toNat_natCast, Nat.mul_one, List.nil_append, List.drop_zero, Nat.zero_add]
  have e1 : (d1.drop (q + 1)).take (d1.length - (q + 1)) = d1.drop (q + 1) := List.take_of_length_le (by simp)
  rw [if_pos (by simp; omega), if_pos (by simp; omega), if_pos (by simp; omega), if_pos (by simp; omega), e1]
  rfl
 | d + 1, k, F + 1, hj, hF => by
  have h6 : k < 6 := by omega
  have hrl : r.length = 6 := by rw [<- hr]; exact hD _ (Z3q hq)
  have hb6 : Nat.ble (k + 1) 6 = true := Nat.ble_eq_true_of_le h6
  have hbk : (Nat.ble 0 1 && Nat.ble (k + 1) 2000000 && Nat.beq 1 1) = true := by simp; omega
  have ih := l19 hfu hp hc hq h10 hD hO hO10 hr hb d (k + 1) F (by omega) (by omega)
  refine Eq.trans ?_ ih
  show Z4f p rowsl d1 d14 (c : Int) (q : Int) i rec14 rec15 _ _ (ownp p b r k) k (k : Int) = _
  unfold Z4f
  simp only [Int.toNat_natCast, Nat.mul_one, hr, hrl]
  rw [if_pos (lt6 h6), if_pos (cki hq), if_pos (bli hq), if_pos (ck6 h6), if_pos hb6, if_pos hp, if_pos hbk, wnx (by omega), hb, ZnF]def ownAtR (p : Int) (d1 : LL) (c q : Nat) : List Int := ownp p (Zn ((d1.getD q []).getD c 0) p) (d1.getD q []) 6
theorem e15 (hfu : 20 <= fu) (hp : prB p = true) (hc : c < 6) {q : Nat} (hq : q < d1.length) (h10 : d1.length <= 10) (hD : ∀ r ∈ d1, r.length = 6) (hO : ∀ r ∈ d14, r.length = 6) (hO10 : d14.length <= 10) (F : Nat) :
  Z0k fu p rowsl d1 d14 (c : Int) rec14 (F + 1) (q : Int) ((q + 1 : Nat) : Int) = rec14 ((d1.take q ++ d1.drop (q + 1)).map (lsR p (ownAtR p d1 c q) c)) (d14.map (lsR p (ownAtR p d1 c q) c) ++ [ownAtR p d1 c q]) ((c + 1 : Nat) : Int) := by
 have hn : ¬ (decide ((q : Int) < 0) = true) := by simp
 have h6 : (d1.getD q []).length = 6 := hD _ (Z3q hq)
 have hb6 : Nat.ble (c + 1) 6 = true := Nat.ble_eq_true_of_le hc
 have e := l16 (rowsl := rowsl) (i := ((q + 1 : Nat) : Int)) (rec14 := rec14) (rec15 := Z0k fu p rowsl d1 d14 (c : Int) rec14 F) hfu hp hc hq h10 hD hO hO10 (r := d1.getD q []) rfl (b := Zn ((d1.getD q []).getD c 0) p) rfl 6 0 fu (by omega) (by omega)
 have e' := l19 (rowsl := rowsl) (i := ((q + 1 : Nat) : Int)) (rec14 := rec14) (rec15 := Z0k fu p rowsl d1 d14 (c : Int) rec14 F) hfu hp hc hq h10 hD hO hO10 (r := d1.getD q []) rfl (b := Zn ((d1.getD q []).getD c 0) p) rfl 6 0 fu (by omega) (by omega)
 show Z14 p rowsl d1 d14 (c : Int) rec14 (Z1U fu p rowsl d1 d14 (c : Int) (q : Int) ((q + 1 : Nat) : Int) rec14 (Z0k fu p rowsl d1 d14 (c : Int) rec14 F) fu) (Z1W fu p rowsl d1 d14 (c : Int) (q : Int) ((q + 1 : Nat) : Int) rec14 (Z0k fu p rowsl d1 d14 (c : Int) rec14 F) fu) (Z0k fu p rowsl d1 d14 (c : Int) rec14 F) (q : Int) ((q + 1 : Nat) : Int) = _
 unfold Z14
 simp only [Int.toNat_natCast, Nat.mul_one, h6]
 by_cases h : q + 1 < d1.length
 ·rw [if_pos (lti h), if_neg hn, if_neg hn, if_pos (cki hq), if_pos (bli hq), if_pos (ck6 hc), if_pos hb6, if_pos hp]
  exact e
 ·rw [if_neg (by simp; omega), if_neg hn, if_pos (cki hq), if_pos (bli hq), if_pos (ck6 hc), if_pos hb6, if_pos hp]
  exact e'
theorem s15n (hc : c < 6) (h10 : d1.length <= 10) (hD : ∀ r ∈ d1, r.length = 6) : ∀ (d i F : Nat), i + d = d1.length -> (∀ q, i <= q -> q < d1.length -> (d1.getD q []).getD c 0 = 0) -> d < F ->
  Z0k fu p rowsl d1 d14 (c : Int) rec14 F (-1) (i : Int) = rec14 d1 d14 ((c + 1 : Nat) : Int)
 | _, _, 0, _, _, h => absurd h (Nat.not_lt_zero _)
 | 0, i, F + 1, hj, _, _ => by
  obtain rfl : i = d1.length := by omega
  show Z14 p rowsl d1 d14 (c : Int) rec14 _ _ _ (-1) ((d1.length : Nat) : Int) = _
  unfold Z14
  rw [if_neg (by simp), if_pos (by decide), wnx (by omega)]
 | d + 1, i, F + 1, hj, hz, hF => by
  have hi : i < d1.length := by omega
  have h6 : (d1.getD i []).length = 6 := hD _ (Z3q hi)
  have hb6 : Nat.ble (c + 1) 6 = true := Nat.ble_eq_true_of_le hc
  refine Eq.trans ?_ (s15n hc h10 hD d (i + 1) F (by omega) (fun q h1 h2 => hz q (by omega) h2) (by omega))
  show Z14 p rowsl d1 d14 (c : Int) rec14 _ _ _ (-1) (i : Int) = _
  unfold Z14
  simp only [Int.toNat_natCast, Nat.mul_one, h6, hz i (Nat.le_refl _) hi]
  rw [if_pos (lti hi), if_pos (by decide), if_pos (cki hi), if_pos (bli hi), if_pos (ck6 hc), if_pos hb6, if_neg (by decide), wnx (by omega)]
theorem s15s (hfu : 20 <= fu) (hp : prB p = true) (hc : c < 6) {q : Nat} (hq : q < d1.length) (h10 : d1.length <= 10) (hD : ∀ r ∈ d1, r.length = 6) (hO : ∀ r ∈ d14, r.length = 6) (hO10 : d14.length <= 10) (hnz : (d1.getD q []).getD c 0 ≠ 0) : ∀ (d i F : Nat), i + d = q -> (∀ r, i <= r -> r < q -> (d1.getD r []).getD c 0 = 0) -> d + 1 < F ->
  Z0k fu p rowsl d1 d14 (c : Int) rec14 F (-1) (i : Int) = rec14 ((d1.take q ++ d1.drop (q + 1)).map (lsR p (ownAtR p d1 c q) c)) (d14.map (lsR p (ownAtR p d1 c q) c) ++ [ownAtR p d1 c q]) ((c + 1 : Nat) : Int)
 | _, _, 0, _, _, h => absurd h (Nat.not_lt_zero _)
 | 0, i, F + 1, hj, _, hF => by
  obtain rfl : i = q := by omega
  obtain ⟨F1, rfl⟩ : ∃ F1, F = F1 + 1 := ⟨F - 1, by omega⟩
  have h6 : (d1.getD i []).length = 6 := hD _ (Z3q hq)
  have hb6 : Nat.ble (c + 1) 6 = true := Nat.ble_eq_true_of_le hc
  refine Eq.trans ?_ (e15 (rowsl := rowsl) (rec14 := rec14) hfu hp hc hq h10 hD hO hO10 F1)
  show Z14 p rowsl d1 d14 (c : Int) rec14 _ _ (Z0k fu p rowsl d1 d14 (c : Int) rec14 (F1 + 1)) (-1) (i : Int) = _
  unfold Z14
  simp only [Int.toNat_natCast, Nat.mul_one, h6]
  rw [if_pos (lti hq), if_pos (by decide), if_pos (cki hq), if_pos (bli hq), if_pos (ck6 hc), if_pos hb6, if_pos (by simpa using hnz), wnx (by omega)]
 | d + 1, i, F + 1, hj, hz, hF => by
  have hi : i < d1.length := by omega
  have h6 : (d1.getD i []).length = 6 := hD _ (Z3q hi)
  have hb6 : Nat.ble (c + 1) 6 = true := Nat.ble_eq_true_of_le hc
  refine Eq.trans ?_ (s15s hfu hp hc hq h10 hD hO hO10 hnz d (i + 1) F (by omega) (fun r h1 h2 => hz r (by omega) h2) (by omega))
  show Z14 p rowsl d1 d14 (c : Int) rec14 _ _ _ (-1) (i : Int) = _
  unfold Z14
  simp only [Int.toNat_natCast, Nat.mul_one, h6, hz i (Nat.le_refl _) (by omega)]
  rw [if_pos (lti hi), if_pos (by decide), if_pos (cki hi), if_pos (bli hi), if_pos (ck6 hc), if_pos hb6, if_neg (by decide), wnx (by omega)]
end
theorem Zqm (D : LL) (c : Nat) : ∀ (d t : Nat), t + d = D.length -> (∀ r, t <= r -> r < D.length -> (D.getD r []).getD c 0 = 0) \/ ∃ q, t <= q /\ q < D.length /\ (D.getD q []).getD c 0 ≠ 0 /\ ∀ r, t <= r -> r < q -> (D.getD r []).getD c 0 = 0
 | 0, t, h => .inl fun r h1 h2 => by omega
 | d + 1, t, h => by
  by_cases h0 : (D.getD t []).getD c 0 = 0
  ·rcases Zqm D c d (t + 1) (by omega) with hl | ⟨q, h1, h2, h3, h4⟩
   ·refine .inl fun r h1 h2 => ?_
    by_cases e : r = t
    ·rw [e]; exact h0
    ·exact hl r (by omega) h2
   ·refine .inr ⟨q, by omega, h2, h3, fun r h5 h6 => ?_⟩
    by_cases e : r = t
    ·rw [e]; exact h0
    ·exact h4 r (by omega) h6
  ·exact .inr ⟨t, Nat.le_refl _, by omega, h0, fun r h1 h2 => by omega⟩
def Rk (p : Int) (r : List Int) : Prop := r.length = 6 /\ ∀ c, c < 6 -> 0 <= r.getD c 0 /\ r.getD c 0 < p
section
variable {p : Int} {K : Type} [Lean.Grind.Field K] {φ : Int -> K}
def vec (φ : Int -> K) (r : List Int) : Nat -> K := fun c => φ (r.getD c 0)
theorem Zwi (p : Int) (own r : List Int) (k : Nat) {c : Nat} (hc : c < 6) : (lsR p own k r).getD c 0 = Z4 (wrap64 (r.getD c 0 - wrap64 (r.getD k 0 * own.getD c 0))) p := by
 have cc : c = 0 \/ c = 1 \/ c = 2 \/ c = 3 \/ c = 4 \/ c = 5 := by omega
 rcases cc with rfl | rfl | rfl | rfl | rfl | rfl <;> rfl
theorem Zvy (p b : Int) (r : List Int) {c : Nat} (hc : c < 6) : (ownp p b r 6).getD c 0 = Z4 (wI (r.getD c 0 * b)) p := by
 unfold ownp
 rw [List.getD_eq_getElem?_getD, List.getElem?_map, List.getElem?_range hc]
 rfl
theorem Zxl (H : Hom p K φ) (hf : Zo p = true) {r : List Int} (hr : Rk p r) {k : Nat} (hk : k < 6) : Rk p (ownp p (Zn (r.getD k 0) p) r 6) /\ ∀ c, c < 6 -> φ ((ownp p (Zn (r.getD k 0) p) r 6).getD c 0) = φ (r.getD c 0) * (φ (r.getD k 0))⁻¹ := by
 have hp := Zx hf
 have key : ∀ c, c < 6 -> Vl p φ ((ownp p (Zn (r.getD k 0) p) r 6).getD c 0) (φ (r.getD c 0) * (φ (r.getD k 0))⁻¹) := fun c hc => by
  rw [Zvy _ _ _ hc, Z03]
  exact Vl.smod H hp (Rw.mul H (Vl.rw hp (Vl.of (hr.2 c hc))) (Vl.rw hp (Vl.sinv H hf rfl)) (by decide))
 exact ⟨⟨ZlM _ _ _ _, fun c hc => (key c hc).1⟩, fun c hc => (key c hc).2⟩
theorem Zvk (H : Hom p K φ) (hf : Zo p = true) {r own : List Int} (hr : Rk p r) (ho : Rk p own) {k : Nat} (hk : k < 6) : Rk p (lsR p own k r) /\ Zkz (vec φ r) (vec φ (lsR p own k r)) (vec φ own) k := by
 have hp := Zx hf
 have key : ∀ c, c < 6 -> Vl p φ ((lsR p own k r).getD c 0) (φ (r.getD c 0) - φ (r.getD k 0) * φ (own.getD c 0)) := fun c hc => by
  rw [Zwi _ _ _ _ hc]
  exact Vl.smod H hp (Rw.sub H (Vl.rw hp (Vl.of (hr.2 c hc))) (Rw.mul H (Vl.rw hp (Vl.of (hr.2 k hk))) (Vl.rw hp (Vl.of (ho.2 c hc))) (by decide)) (by decide))
 exact ⟨⟨rfl, fun c hc => (key c hc).1⟩, fun c hc => (key c hc).2⟩
theorem Zvd {fu : Nat} (hfu : 20 <= fu) {rowsl : LL} (H : Hom p K φ) (hf : Zo p = true) {R0 : List (Nat -> K)} : ∀ (d c F : Nat) (D O : LL) (L : List Nat), c + d = 6 -> d < F -> (∀ r ∈ D, Rk p r) -> (∀ r ∈ O, Rk p r) -> InvS R0 (O.map (vec φ)) (D.map (vec φ)) L c ->
  ∃ O' B L', Z1T fu p rowsl F D O (c : Int) = some O' /\ (∀ r ∈ O', Rk p r) /\ InvS R0 (O'.map (vec φ)) B L' 6
 | _, _, 0, _, _, _, _, h, _, _, _ => absurd h (Nat.not_lt_zero _)
 | 0, c, F + 1, D, O, L, hj, _, hD, hO, hI => by
  obtain rfl : c = 6 := by omega
  refine ⟨O, _, L, ?_, hO, hI⟩
  show Z4b p rowsl _ _ D O ((6 : Nat) : Int) = _
  unfold Z4b
  rw [if_neg (by decide)]
 | d + 1, c, F + 1, D, O, L, hj, hF, hD, hO, hI => by
  have hc : c < 6 := by omega
  have hp := Zx hf
  have hpb : prB p = true := Z9R hp
  have hcnt := hI.cnt
  simp only [List.length_map] at hcnt
  have hD6 : ∀ r ∈ D, r.length = 6 := fun r hr => (hD r hr).1
  have hO6 : ∀ r ∈ O, r.length = 6 := fun r hr => (hO r hr).1
  have e14 : Z1T fu p rowsl (F + 1) D O (c : Int) = Z0k fu p rowsl D O (c : Int) (Z1T fu p rowsl F) fu (-1) ((0 : Nat) : Int) := by
   show Z4b p rowsl _ _ D O (c : Int) = _
   unfold Z4b
   rw [if_pos (lt6 hc)]
   rfl
  rw [e14]
  rcases Zqm D c D.length 0 (by omega) with hz | ⟨q, _, hq, hnz, hbef⟩
  ·rw [s15n hc (by omega) hD6 D.length 0 fu (by omega) hz (by omega)]
   refine Zvd hfu H hf d (c + 1) F D O L (by omega) (by omega) hD hO (hI.skip hc fun b hb => ?_)
   obtain ⟨r, hr, rfl⟩ := List.mem_map.1 hb
   obtain ⟨i, hi, rfl⟩ := List.getElem_of_mem hr
   have := hz i (Nat.zero_le _) hi
   have e : D.getD i [] = D[i] := by rw [List.getD_eq_getElem?_getD, List.getElem?_eq_getElem hi, Option.getD_some]
   rw [e] at this
   show φ (D[i].getD c 0) = 0
   rw [this, H.zero]
  ·rw [s15s hfu hpb hc hq (by omega) hD6 hO6 (by omega) hnz q 0 fu (by omega) hbef (by omega)]
   have hrk : Rk p (D.getD q []) := hD _ (Z3q hq)
   obtain ⟨hown, hownv⟩ := Zxl H hf hrk hc
   have hB : ∀ r ∈ D.take q ++ D.drop (q + 1), Rk p r := fun r hr => by
    rcases List.mem_append.1 hr with h | h
    ·exact hD r (List.mem_of_mem_take h)
    ·exact hD r (List.mem_of_mem_drop h)
   have hsplit : D = D.take q ++ D.getD q [] :: D.drop (q + 1) := by
    rw [List.getD_eq_getElem?_getD, List.getElem?_eq_getElem hq, Option.getD_some, <- List.drop_eq_getElem_cons hq, List.take_append_drop]
   have key : ∀ (E : LL), (∀ r ∈ E, Rk p r) -> ∀ (i : Nat) (r s : Nat -> K), (E.map (vec φ))[i]? = some r -> ((E.map (lsR p (ownAtR p D c q) c)).map (vec φ))[i]? = some s -> Zkz r s (vec φ (ownAtR p D c q)) c := by
    intro E hE i r s hr hs
    rw [List.getElem?_map] at hr hs
    rw [List.getElem?_map] at hs
    cases hi : E[i]? with
    | none => rw [hi] at hr; cases hr
    | some x =>
     rw [hi] at hr hs
     simp only [Option.map_some, Option.some.injEq] at hr hs
     subst hr; subst hs
     exact (Zvk H hf (hE x (List.mem_of_getElem? hi)) hown hc).2
   refine Zvd hfu H hf d (c + 1) F _ _ (L ++ [c]) (by omega) (by omega) (fun r hr => ?_) (fun r hr => ?_) ?_
   ·obtain ⟨x, hx, rfl⟩ := List.mem_map.1 hr
    exact (Zvk H hf (hB x hx) hown hc).1
   ·rcases List.mem_append.1 hr with h | h
    ·obtain ⟨x, hx, rfl⟩ := List.mem_map.1 h
     exact (Zvk H hf (hO x hx) hown hc).1
    ·rw [List.mem_singleton.1 h]
     exact hown
   ·rw [List.map_append]
    refine InvS.pivot (B1 := (D.take q).map (vec φ)) (B2 := (D.drop (q + 1)).map (vec φ)) (b := vec φ (D.getD q [])) (own := vec φ (ownAtR p D c q)) hI hc ?_ ?_ (fun c' hc' => hownv c' hc') ?_ ?_ ?_ ?_
    ·conv => lhs; rw [hsplit]
     rw [List.map_append, List.map_cons]
    ·intro e
     exact hnz ((Vl.zero_iff H (Vl.of (φ := φ) (hrk.2 c hc))).2 e)
    ·simp
    ·rw [<- List.map_append]
     exact key _ hB
    ·simp
    ·exact key _ hO
end

end Go.Proofs.Ytfclaacaphpoaaa
