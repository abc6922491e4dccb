import Derived.Test.YtfclaacaphpoaaaQl
set_option linter.unusedSimpArgs false
set_option linter.unusedVariables false
namespace Go.Proofs.Ytfclaacaphpoaaa
open Go.RowKit
def mat (m : Nat -> Nat -> Int) : List Int := (List.range 30).map fun q => m (q / 6) (q % 6)
theorem Z6n (m : Nat -> Nat -> Int) : (mat m).length = 30 := by simp [mat]
theorem Z2R (m : Nat -> Nat -> Int) {i k : Nat} (hi : i < 5) (hk : k < 6) : (mat m).getD (i * 6 + k) 0 = m i k := by
 have h : i * 6 + k < 30 := by omega
 rw [List.getD_eq_getElem?_getD]
 unfold mat
 rw [List.getElem?_map, List.getElem?_range h]
 show m ((i * 6 + k) / 6) ((i * 6 + k) % 6) = _
 rw [show (i * 6 + k) / 6 = i by omega, show (i * 6 + k) % 6 = k by omega]
def upd (m : Nat -> Nat -> Int) (i k : Nat) (v : Int) : Nat -> Nat -> Int := fun r c => if r = i /\ c = k then v else m r c
theorem Z5U (m : Nat -> Nat -> Int) (v : Int) {i k : Nat} (hi : i < 5) (hk : k < 6) : (mat m).set (i * 6 + k) v = mat (upd m i k v) := by
 apply List.ext_getElem
 ·simp [mat]
 ·intro q h1 h2
  have hq : q < 30 := by simpa [mat] using h2
  rw [List.getElem_set]
  simp only [mat, List.getElem_map, List.getElem_range, upd]
  by_cases e : i * 6 + k = q
  ·rw [if_pos e, if_pos ⟨by omega, by omega⟩]
  ·rw [if_neg e, if_neg (by omega)]
theorem Z6m {m m' : Nat -> Nat -> Int} (h : ∀ i k, i < 5 -> k < 6 -> m i k = m' i k) : mat m = mat m' := by
 unfold mat
 apply List.map_congr_left
 intro q hq
 have := List.mem_range.1 hq
 exact h _ _ (by omega) (by omega)
abbrev CR := (Int × Int × Int × Int × Int × Int) × Int
theorem ck5 {i : Nat} (h : i < 5) : (decide (0 <= (i : Int)) && decide ((i : Int) < ((5 : Nat) : Int))) = true := by simp; omega
theorem ck6 {i : Nat} (h : i < 6) : (decide (0 <= (i : Int)) && decide ((i : Int) < ((6 : Nat) : Int))) = true := by simp; omega
theorem lt6 {i : Nat} (h : i < 6) : decide ((i : Int) < 6) = true := by simp; omega
theorem wnx {i : Nat} (h : i < 100) : wI ((i : Int) + 1) = ((i + 1 : Nat) : Int) := by rw [Z03]; unfold wrap64; omega
def elp (p : Int) (m : Nat -> Nat -> Int) (t r : Nat) (n : Int) (j : Nat) : Nat -> Nat -> Int := fun i c => if i = r /\ c < j then Z1 p (wI (m r c - wI (n * m t c))) else m i c
theorem ZwK {fu : Nat} {p : Int} {pn : Nat} {pl l0 : List Int} {t0 : Int} {l1 L47 : List Int} {t k : Nat} {i : Int} {l2 : List Int} {t94 : Int} {l3 : List Int} {r : Nat} {ZE : List Int -> Nat -> Int -> Option CR} {ZQ : List Int -> List Int -> Nat -> Int -> Option CR} {rec14 : Int -> Option CR} {rec15 rec18 : List Int -> Int -> Option CR}
  (hp : prB p = true) (ht : t < 5) (hr : r < 5) (hrt : r ≠ t) (m : Nat -> Nat -> Int) {n : Int} (hn : l3.getD (r * 6 + k * 1) 0 = n) : ∀ (d j F : Nat), j + d = 6 -> d < F ->
  Z12 fu p pn pl l0 5 t0 l1 L47 t (k : Int) i l2 t94 l3 (r : Int) ZE ZQ rec14 rec15 rec18 F (mat (elp p m t r n j)) (j : Int) = rec18 (mat (elp p m t r n 6)) ((r + 1 : Nat) : Int)
 | _, _, 0, _, h => absurd h (Nat.not_lt_zero _)
 | 0, j, F + 1, hj, _ => by
  obtain rfl : j = 6 := by omega
  show Z2A p pn pl l0 5 t0 l1 L47 t (k : Int) i l2 t94 l3 (r : Int) ZE ZQ rec14 rec15 rec18 (Z12 fu p pn pl l0 5 t0 l1 L47 t (k : Int) i l2 t94 l3 (r : Int) ZE ZQ rec14 rec15 rec18 F) (mat (elp p m t r n 6)) ((6 : Nat) : Int) = _
  unfold Z2A
  rw [if_neg (by decide), wnx (by omega)]
 | d + 1, j, F + 1, hj, hF => by
  have h6 : j < 6 := by omega
  show Z2A p pn pl l0 5 t0 l1 L47 t (k : Int) i l2 t94 l3 (r : Int) ZE ZQ rec14 rec15 rec18 (Z12 fu p pn pl l0 5 t0 l1 L47 t (k : Int) i l2 t94 l3 (r : Int) ZE ZQ rec14 rec15 rec18 F) (mat (elp p m t r n j)) (j : Int) = _
  unfold Z2A
  have g1 : (mat (elp p m t r n j)).getD (r * 6 + j * 1) 0 = m r j := by rw [Nat.mul_one, Z2R _ hr h6]; unfold elp; rw [if_neg (by omega)]
  have g2 : (mat (elp p m t r n j)).getD (t * 6 + j * 1) 0 = m t j := by rw [Nat.mul_one, Z2R _ ht h6]; unfold elp; rw [if_neg (by omega)]
  have hb1 : Nat.ble (r * 6 + j * 1 + 1) (mat (elp p m t r n j)).length = true := by rw [Z6n]; exact Nat.ble_eq_true_of_le (by omega)
  have hb2 : Nat.ble (t * 6 + j * 1 + 1) (mat (elp p m t r n j)).length = true := by rw [Z6n]; exact Nat.ble_eq_true_of_le (by omega)
  simp only [Int.toNat_natCast]
  rw [if_pos (lt6 h6), if_pos (ck5 hr), if_pos (ck6 h6), if_pos hb1, if_pos (ck5 ht), if_pos (ck6 h6), if_pos hb2, if_pos hp, if_pos (ck5 hr), if_pos (ck6 h6), if_pos hb1, hn, g1, g2, wnx (by omega), Nat.mul_one, Nat.add_zero, Z5U _ _ hr h6]
  have e : mat (upd (elp p m t r n j) r j (Z1 p (wI (m r j - wI (n * m t j))))) = mat (elp p m t r n (j + 1)) := Z6m fun a c ha hc => by
   unfold upd elp
   by_cases e1 : a = r /\ c = j
   ·rw [if_pos e1, if_pos ⟨e1.1, by omega⟩, e1.2]
   ·rw [if_neg e1]
    by_cases e2 : a = r /\ c < j
    ·rw [if_pos e2, if_pos ⟨e2.1, by omega⟩]
    ·rw [if_neg e2, if_neg (by omega)]
  rw [e]
  exact ZwK hp ht hr hrt m hn d (j + 1) F (by omega) (by omega)
def Rg (p : Int) (m : Nat -> Nat -> Int) : Prop := ∀ i c, i < 5 -> c < 6 -> 0 <= m i c /\ m i c < p
def elq (p : Int) (m : Nat -> Nat -> Int) (t k r : Nat) : Nat -> Nat -> Int := fun i c => if i < r /\ i ≠ t then Z1 p (wI (m i c - wI (m i k * m t c))) else m i c
theorem ZxI {p : Int} (hp : prB p = true) {x y : Int} (h1 : 0 <= x) (h2 : x < p) : Z1 p (wI (x - wI (0 * y))) = x := by
 unfold prB at hp
 simp at hp
 rw [Z03, Z03]
 unfold Z1
 rw [Int.zero_mul]
 have : wrap64 (x - wrap64 0) = x := by unfold wrap64; omega
 rw [this, Int.emod_eq_of_lt h1 h2]
theorem ZwL {fu : Nat} (hfu : 10 <= fu) {p : Int} {pn : Nat} {pl l0 : List Int} {t0 : Int} {l1 L47 : List Int} {t k : Nat} {i : Int} {l2 : List Int} {t94 : Int} {ZE : List Int -> Nat -> Int -> Option CR} {ZQ : List Int -> List Int -> Nat -> Int -> Option CR} {rec14 : Int -> Option CR} {rec15 : List Int -> Int -> Option CR}
  (hp : prB p = true) (ht : t < 5) (hk : k < 6) (m : Nat -> Nat -> Int) (hm : Rg p m) : ∀ (d r F : Nat), r + d = 5 -> d < F ->
  Z0i fu p pn pl l0 5 t0 l1 L47 t (k : Int) i l2 t94 ZE ZQ rec14 rec15 F (mat (elq p m t k r)) (r : Int) = ZQ (mat (elq p m t k 5)) (L47 ++ [(k : Int)]) (t + 1) ((k + 1 : Nat) : Int)
 | _, _, 0, _, h => absurd h (Nat.not_lt_zero _)
 | 0, r, F + 1, hj, _ => by
  obtain rfl : r = 5 := by omega
  show Z2z p pn pl l0 5 t0 l1 L47 t (k : Int) i l2 t94 ZE ZQ rec14 rec15 (Z12 fu p pn pl l0 5 t0 l1 L47 t (k : Int) i l2 t94 (mat (elq p m t k 5)) ((5 : Nat) : Int) ZE ZQ rec14 rec15 (Z0i fu p pn pl l0 5 t0 l1 L47 t (k : Int) i l2 t94 ZE ZQ rec14 rec15 F) fu) (Z0i fu p pn pl l0 5 t0 l1 L47 t (k : Int) i l2 t94 ZE ZQ rec14 rec15 F) (mat (elq p m t k 5)) ((5 : Nat) : Int) = _
  unfold Z2z
  have hb : (Nat.ble 0 1 && Nat.ble (t + 1) 2000000 && Nat.beq 1 1) = true := by simp; omega
  rw [if_neg (by decide), if_pos hb, wnx (by omega)]
 | d + 1, r, F + 1, hj, hF => by
  have h5 : r < 5 := by omega
  have ih := ZwL hfu (fu := fu) (pn := pn) (pl := pl) (l0 := l0) (t0 := t0) (l1 := l1) (L47 := L47) (i := i) (l2 := l2) (t94 := t94) (ZE := ZE) (ZQ := ZQ) (rec14 := rec14) (rec15 := rec15) hp ht hk m hm d (r + 1) F (by omega) (by omega)
  have hc5 : decide ((r : Int) < ((5 : Nat) : Int)) = true := by simp; omega
  have hb : Nat.ble (r * 6 + k * 1 + 1) (mat (elq p m t k r)).length = true := by rw [Z6n]; exact Nat.ble_eq_true_of_le (by omega)
  have g : (mat (elq p m t k r)).getD (r * 6 + k * 1) 0 = m r k := by rw [Nat.mul_one, Z2R _ h5 hk]; unfold elq; rw [if_neg (by omega)]
  have hnx : ∀ c, elq p m t k r r c = m r c := fun c => by unfold elq; rw [if_neg (by omega)]
  show Z2z p pn pl l0 5 t0 l1 L47 t (k : Int) i l2 t94 ZE ZQ rec14 rec15 (Z12 fu p pn pl l0 5 t0 l1 L47 t (k : Int) i l2 t94 (mat (elq p m t k r)) (r : Int) ZE ZQ rec14 rec15 (Z0i fu p pn pl l0 5 t0 l1 L47 t (k : Int) i l2 t94 ZE ZQ rec14 rec15 F) fu) (Z0i fu p pn pl l0 5 t0 l1 L47 t (k : Int) i l2 t94 ZE ZQ rec14 rec15 F) (mat (elq p m t k r)) (r : Int) = _
  unfold Z2z
  simp only [Int.toNat_natCast]
  rw [if_pos hc5, if_pos (ck5 h5), if_pos (ck6 hk), if_pos hb]
  by_cases hrt : r = t
  ·subst hrt
   rw [if_neg (by simp), wnx (by omega)]
   have e : mat (elq p m r k r) = mat (elq p m r k (r + 1)) := Z6m fun a c ha hc => by
    unfold elq
    by_cases e1 : a < r /\ a ≠ r
    ·rw [if_pos e1, if_pos ⟨by omega, e1.2⟩]
    ·rw [if_neg e1, if_neg (by omega)]
   rw [e]
   exact ih
  ·rw [if_pos (by simp; omega)]
   by_cases h0 : m r k = 0
   ·rw [if_neg (by rw [g, h0]; decide), wnx (by omega)]
    have e : mat (elq p m t k r) = mat (elq p m t k (r + 1)) := Z6m fun a c ha hc => by
     unfold elq
     by_cases e1 : a < r /\ a ≠ t
     ·rw [if_pos e1, if_pos ⟨by omega, e1.2⟩]
     ·rw [if_neg e1]
      by_cases e2 : a = r
      ·subst e2
       obtain ⟨q1, q2⟩ := hm a c ha hc
       rw [if_pos ⟨by omega, hrt⟩, h0, ZxI hp q1 q2]
      ·rw [if_neg (by omega)]
    rw [e]
    exact ih
   ·rw [if_pos (by rw [g]; simpa using h0)]
    have h19 := ZwK (fu := fu) (pn := pn) (pl := pl) (l0 := l0) (t0 := t0) (l1 := l1) (L47 := L47) (k := k) (i := i) (l2 := l2) (t94 := t94) (l3 := mat (elq p m t k r)) (ZE := ZE) (ZQ := ZQ) (rec14 := rec14) (rec15 := rec15) (rec18 := Z0i fu p pn pl l0 5 t0 l1 L47 t (k : Int) i l2 t94 ZE ZQ rec14 rec15 F) hp ht h5 hrt (elq p m t k r) (n := m r k) g 6 0 fu (by omega) (by omega)
    have e0 : mat (elp p (elq p m t k r) t r (m r k) 0) = mat (elq p m t k r) := Z6m fun a c ha hc => by
     unfold elp
     rw [if_neg (by omega)]
    have e6 : mat (elp p (elq p m t k r) t r (m r k) 6) = mat (elq p m t k (r + 1)) := Z6m fun a c ha hc => by
     have et : elq p m t k r t c = m t c := by unfold elq; rw [if_neg (by omega)]
     unfold elp
     rw [et, hnx c]
     by_cases e2 : a = r
     ·subst e2
      rw [if_pos ⟨rfl, hc⟩]
      unfold elq
      rw [if_pos ⟨by omega, hrt⟩]
     ·rw [if_neg (by omega)]
      unfold elq
      by_cases e1 : a < r /\ a ≠ t
      ·rw [if_pos e1, if_pos ⟨by omega, e1.2⟩]
      ·rw [if_neg e1, if_neg (by omega)]
    rw [e0, e6] at h19
    have h19' := h19
    exact (show _ = _ from h19').trans ih
def swp (m : Nat -> Nat -> Int) (t i : Nat) : Nat -> Nat -> Int := fun r => if r = t then m i else if r = i then m t else m r
theorem Ztm (m : Nat -> Nat -> Int) {t i : Nat} (ht : t < 5) (hi : i < 5) : (((((((((((((mat m).set (t * 6 + 0) ((mat m).getD (i * 6 + 0) 0)).set (t * 6 + 1) ((mat m).getD (i * 6 + 1) 0)).set (t * 6 + 2) ((mat m).getD (i * 6 + 2) 0)).set (t * 6 + 3) ((mat m).getD (i * 6 + 3) 0)).set (t * 6 + 4) ((mat m).getD (i * 6 + 4) 0)).set (t * 6 + 5) ((mat m).getD (i * 6 + 5) 0)).set (i * 6 + 0) ((mat m).getD (t * 6 + 0) 0)).set (i * 6 + 1) ((mat m).getD (t * 6 + 1) 0)).set (i * 6 + 2) ((mat m).getD (t * 6 + 2) 0)).set (i * 6 + 3) ((mat m).getD (t * 6 + 3) 0)).set (i * 6 + 4) ((mat m).getD (t * 6 + 4) 0)).set (i * 6 + 5) ((mat m).getD (t * 6 + 5) 0)) = mat (swp m t i) := by
 rw [Z2R m hi (by omega), Z2R m hi (by omega), Z2R m hi (by omega), Z2R m hi (by omega), Z2R m hi (by omega), Z2R m hi (by omega), Z2R m ht (by omega), Z2R m ht (by omega), Z2R m ht (by omega), Z2R m ht (by omega), Z2R m ht (by omega), Z2R m ht (by omega)]
 rw [Z5U _ _ ht (by omega), Z5U _ _ ht (by omega), Z5U _ _ ht (by omega), Z5U _ _ ht (by omega), Z5U _ _ ht (by omega), Z5U _ _ ht (by omega), Z5U _ _ hi (by omega), Z5U _ _ hi (by omega), Z5U _ _ hi (by omega), Z5U _ _ hi (by omega), Z5U _ _ hi (by omega), Z5U _ _ hi (by omega)]
 refine Z6m fun a c ha hc => ?_
 unfold upd swp
 have cc : c = 0 \/ c = 1 \/ c = 2 \/ c = 3 \/ c = 4 \/ c = 5 := by omega
 by_cases e1 : a = t <;> by_cases e2 : a = i <;> rcases cc with rfl | rfl | rfl | rfl | rfl | rfl <;> simp_all
def scp (p : Int) (m : Nat -> Nat -> Int) (t : Nat) (b : Int) (j : Nat) : Nat -> Nat -> Int := fun i c => if i = t /\ c < j then (wI (m t c * b)).tmod p else m i c
theorem ZwX {fu : Nat} (hfu : 10 <= fu) {p : Int} {pn : Nat} {pl l0 : List Int} {t0 : Int} {L47 : List Int} {t k i : Nat} {ZE : List Int -> Nat -> Int -> Option CR} {ZQ : List Int -> List Int -> Nat -> Int -> Option CR} {rec14 : Int -> Option CR}
  (hp : prB p = true) (ht : t < 5) (hi : i < 5) (hk : k < 6) (m m0 : Nat -> Nat -> Int) {b : Int} (hb : ZA p (swp m0 t i t k) = b) (hm : Rg p (scp p m t b 6)) : ∀ (d j F : Nat), j + d = 6 -> d < F ->
  Z0w fu p pn pl l0 5 t0 (mat m0) L47 t (k : Int) (i : Int) ZE ZQ rec14 F (mat (scp p m t b j)) (j : Int) = ZQ (mat (elq p (scp p m t b 6) t k 5)) (L47 ++ [(k : Int)]) (t + 1) ((k + 1 : Nat) : Int)
 | _, _, 0, _, h => absurd h (Nat.not_lt_zero _)
 | 0, j, F + 1, hj, _ => by
  obtain rfl : j = 6 := by omega
  show Z2y p pn pl l0 5 t0 (mat m0) L47 t (k : Int) (i : Int) ZE ZQ rec14 (Z0i fu p pn pl l0 5 t0 (mat m0) L47 t (k : Int) (i : Int) (mat (scp p m t b 6)) ((6 : Nat) : Int) ZE ZQ rec14 (Z0w fu p pn pl l0 5 t0 (mat m0) L47 t (k : Int) (i : Int) ZE ZQ rec14 F) fu) (Z0w fu p pn pl l0 5 t0 (mat m0) L47 t (k : Int) (i : Int) ZE ZQ rec14 F) (mat (scp p m t b 6)) ((6 : Nat) : Int) = _
  unfold Z2y
  rw [if_neg (by decide)]
  have h18 := ZwL hfu (fu := fu) (pn := pn) (pl := pl) (l0 := l0) (t0 := t0) (l1 := mat m0) (L47 := L47) (i := (i : Int)) (l2 := mat (scp p m t b 6)) (t94 := ((6 : Nat) : Int)) (ZE := ZE) (ZQ := ZQ) (rec14 := rec14) (rec15 := Z0w fu p pn pl l0 5 t0 (mat m0) L47 t (k : Int) (i : Int) ZE ZQ rec14 F) hp ht hk (scp p m t b 6) hm 5 0 fu (by omega) (by omega)
  have e0 : mat (elq p (scp p m t b 6) t k 0) = mat (scp p m t b 6) := Z6m fun a c ha hc => by
   unfold elq
   rw [if_neg (by omega)]
  rw [e0] at h18
  exact h18
 | d + 1, j, F + 1, hj, hF => by
  have h6 : j < 6 := by omega
  have g1 : (mat (scp p m t b j)).getD (t * 6 + j * 1) 0 = m t j := by rw [Nat.mul_one, Z2R _ ht h6]; unfold scp; rw [if_neg (by omega)]
  have hb1 : Nat.ble (t * 6 + j * 1 + 1) (mat (scp p m t b j)).length = true := by rw [Z6n]; exact Nat.ble_eq_true_of_le (by omega)
  have h0 := Z6y hp
  show Z2y p pn pl l0 5 t0 (mat m0) L47 t (k : Int) (i : Int) ZE ZQ rec14 (Z0i fu p pn pl l0 5 t0 (mat m0) L47 t (k : Int) (i : Int) (mat (scp p m t b j)) (j : Int) ZE ZQ rec14 (Z0w fu p pn pl l0 5 t0 (mat m0) L47 t (k : Int) (i : Int) ZE ZQ rec14 F) fu) (Z0w fu p pn pl l0 5 t0 (mat m0) L47 t (k : Int) (i : Int) ZE ZQ rec14 F) (mat (scp p m t b j)) (j : Int) = _
  unfold Z2y
  simp only [Int.toNat_natCast]
  rw [Ztm m0 ht hi, if_pos (lt6 h6), if_pos (ck5 ht), if_pos (ck6 h6), if_pos hb1, if_pos h0, if_pos (ck5 ht), if_pos (ck6 h6), if_pos hb1, g1, wnx (by omega), Nat.mul_one, Nat.mul_one, Nat.add_zero, Z2R _ ht hk, hb, Z5U _ _ ht h6]
  have e : mat (upd (scp p m t b j) t j ((wI (m t j * b)).tmod p)) = mat (scp p m t b (j + 1)) := Z6m fun a c ha hc => by
   unfold upd scp
   by_cases e1 : a = t /\ c = j
   ·rw [if_pos e1, if_pos ⟨e1.1, by omega⟩, e1.2]
   ·rw [if_neg e1]
    by_cases e2 : a = t /\ c < j
    ·rw [if_pos e2, if_pos ⟨e2.1, by omega⟩]
    ·rw [if_neg e2, if_neg (by omega)]
  rw [e]
  exact ZwX hfu hp ht hi hk m m0 hb hm d (j + 1) F (by omega) (by omega)
theorem Ztd {fu : Nat} {p : Int} {pn : Nat} {pl l0 : List Int} {t0 : Int} {L47 : List Int} {t k : Nat} {ZE : List Int -> Nat -> Int -> Option CR} {ZQ : List Int -> List Int -> Nat -> Int -> Option CR}
  (hk : k < 6) (m : Nat -> Nat -> Int) : ∀ (d i F : Nat), i + d = 5 -> (∀ r, i <= r -> r < 5 -> m r k = 0) -> d < F ->
  Z0v fu p pn pl l0 5 t0 (mat m) L47 t (k : Int) ZE ZQ F (i : Int) = ZQ (mat m) L47 t ((k + 1 : Nat) : Int)
 | _, _, 0, _, _, h => absurd h (Nat.not_lt_zero _)
 | 0, i, F + 1, hj, hz, _ => by
  obtain rfl : i = 5 := by omega
  show Z11 p pn pl l0 5 t0 (mat m) L47 t (k : Int) ZE ZQ _ _ ((5 : Nat) : Int) = _
  unfold Z11
  rw [if_neg (by decide), wnx (by omega)]
 | d + 1, i, F + 1, hj, hz, hF => by
  have h5 : i < 5 := by omega
  have hc5 : decide ((i : Int) < ((5 : Nat) : Int)) = true := by simp; omega
  have hb : Nat.ble (i * 6 + k * 1 + 1) (mat m).length = true := by rw [Z6n]; exact Nat.ble_eq_true_of_le (by omega)
  have g : (mat m).getD (i * 6 + k * 1) 0 = 0 := by rw [Nat.mul_one, Z2R _ h5 hk]; exact hz i (Nat.le_refl _) h5
  show Z11 p pn pl l0 5 t0 (mat m) L47 t (k : Int) ZE ZQ _ (Z0v fu p pn pl l0 5 t0 (mat m) L47 t (k : Int) ZE ZQ F) (i : Int) = _
  unfold Z11
  simp only [Int.toNat_natCast]
  rw [if_pos hc5, if_pos (ck5 h5), if_pos (ck6 hk), if_pos hb, if_neg (by rw [g]; decide), wnx (by omega)]
  exact Ztd hk m d (i + 1) F (by omega) (fun r h1 h2 => hz r (by omega) h2) (by omega)
theorem Zte {fu : Nat} (hfu : 10 <= fu) {p : Int} {pn : Nat} {pl l0 : List Int} {t0 : Int} {L47 : List Int} {t k q : Nat} {ZE : List Int -> Nat -> Int -> Option CR} {ZQ : List Int -> List Int -> Nat -> Int -> Option CR}
  (hp : prB p = true) (ht : t < 5) (hk : k < 6) (hq : q < 5) (m : Nat -> Nat -> Int) (hmq : m q k ≠ 0) {b : Int} (hb : ZA p (swp m t q t k) = b) (hm : Rg p (scp p (swp m t q) t b 6)) : ∀ (d i F : Nat), i + d = q -> (∀ r, i <= r -> r < q -> m r k = 0) -> d < F ->
  Z0v fu p pn pl l0 5 t0 (mat m) L47 t (k : Int) ZE ZQ F (i : Int) = ZQ (mat (elq p (scp p (swp m t q) t b 6) t k 5)) (L47 ++ [(k : Int)]) (t + 1) ((k + 1 : Nat) : Int)
 | _, _, 0, _, _, h => absurd h (Nat.not_lt_zero _)
 | 0, i, F + 1, hj, hz, _ => by
  obtain rfl : i = q := by omega
  have hc5 : decide ((i : Int) < ((5 : Nat) : Int)) = true := by simp; omega
  have hbi : Nat.ble (i * 6 + k * 1 + 1) (mat m).length = true := by rw [Z6n]; exact Nat.ble_eq_true_of_le (by omega)
  have hb6 : Nat.ble (i * 6 + 6) (mat m).length = true := by rw [Z6n]; exact Nat.ble_eq_true_of_le (by omega)
  have hbt : Nat.ble (t * 6 + 6) (mat m).length = true := by rw [Z6n]; exact Nat.ble_eq_true_of_le (by omega)
  have hbs : ∀ l : List Int, l.length = 30 -> Nat.ble (i * 6 + 6) l.length = true := fun l hl => by rw [hl]; exact Nat.ble_eq_true_of_le (by omega)
  have hbu : ∀ l : List Int, l.length = 30 -> Nat.ble (t * 6 + k * 1 + 1) l.length = true := fun l hl => by rw [hl]; exact Nat.ble_eq_true_of_le (by omega)
  have g : (mat m).getD (i * 6 + k * 1) 0 = m i k := by rw [Nat.mul_one, Z2R _ hq hk]
  show Z11 p pn pl l0 5 t0 (mat m) L47 t (k : Int) ZE ZQ (Z0w fu p pn pl l0 5 t0 (mat m) L47 t (k : Int) (i : Int) ZE ZQ (Z0v fu p pn pl l0 5 t0 (mat m) L47 t (k : Int) ZE ZQ F) fu) _ (i : Int) = _
  unfold Z11
  simp only [Int.toNat_natCast]
  rw [if_pos hc5, if_pos (ck5 hq), if_pos (ck6 hk), if_pos hbi, if_pos (by rw [g]; simpa using hmq), if_neg (by simp), if_pos (ck5 hq), if_pos hb6, if_pos (ck5 ht), if_pos hbt, if_pos (ck5 ht), if_pos hbt, if_pos (ck5 hq), if_pos (hbs _ (by simp [Z6n])), if_pos (ck5 ht), if_pos (ck6 hk), if_pos (hbu _ (by simp [Z6n])), if_pos hp, Ztm m ht hq]
  have h15 := ZwX hfu (fu := fu) (pn := pn) (pl := pl) (l0 := l0) (t0 := t0) (L47 := L47) (ZE := ZE) (ZQ := ZQ) (rec14 := Z0v fu p pn pl l0 5 t0 (mat m) L47 t (k : Int) ZE ZQ F) hp ht hq hk (swp m t i) m hb hm 6 0 fu (by omega) (by omega)
  have e0 : mat (scp p (swp m t i) t b 0) = mat (swp m t i) := Z6m fun a c ha hc => by
   unfold scp
   rw [if_neg (by omega)]
  rw [e0] at h15
  exact h15
 | d + 1, i, F + 1, hj, hz, hF => by
  have h5 : i < 5 := by omega
  have hc5 : decide ((i : Int) < ((5 : Nat) : Int)) = true := by simp; omega
  have hbi : Nat.ble (i * 6 + k * 1 + 1) (mat m).length = true := by rw [Z6n]; exact Nat.ble_eq_true_of_le (by omega)
  have g : (mat m).getD (i * 6 + k * 1) 0 = 0 := by rw [Nat.mul_one, Z2R _ h5 hk]; exact hz i (Nat.le_refl _) (by omega)
  show Z11 p pn pl l0 5 t0 (mat m) L47 t (k : Int) ZE ZQ _ (Z0v fu p pn pl l0 5 t0 (mat m) L47 t (k : Int) ZE ZQ F) (i : Int) = _
  unfold Z11
  simp only [Int.toNat_natCast]
  rw [if_pos hc5, if_pos (ck5 h5), if_pos (ck6 hk), if_pos hbi, if_neg (by rw [g]; decide), wnx (by omega)]
  exact Zte hfu hp ht hk hq m hmq hb hm d (i + 1) F (by omega) (fun r h1 h2 => hz r (by omega) h2) (by omega)
section
variable {p : Int} {K : Type} [Lean.Grind.Field K] {φ : Int -> K}
theorem ZwW (H : Hom p K φ) (hf : Zo p = true) {m : Nat -> Nat -> Int} (hm : Rg p m) {t k : Nat} (ht : t < 5) (hk : k < 6) : Rg p (scp p m t (ZA p (m t k)) 6) := by
 have hp := Zx hf
 intro i c hi hc
 unfold scp
 by_cases e : i = t /\ c < 6
 ·rw [if_pos e]
  have h1 := hm t c ht hc
  have h2 := (Zbn hf (hm t k ht hk)).2
  have hm1 := Zrk (Z7U hp h1) (Z7U hp ⟨h2.1, h2.2.1⟩)
  have h3 := Znz (Z7U hp h1) (Z7U hp ⟨h2.1, h2.2.1⟩)
  rw [Z03, hm1, Zec h3.1]
  exact ZdT hp _
 ·rw [if_neg e]
  exact hm i c hi hc
theorem ZvJ {m : Nat -> Nat -> Int} (hm : Rg p m) {t q : Nat} (ht : t < 5) (hq : q < 5) : Rg p (swp m t q) := by
 intro i c hi hc
 unfold swp
 split
 ·exact hm q c hq hc
 ·split
  ·exact hm t c ht hc
  ·exact hm i c hi hc
theorem Zxr (hp : Pr p) {m : Nat -> Nat -> Int} (hm : Rg p m) {t k r : Nat} : Rg p (elq p m t k r) := by
 intro i c hi hc
 unfold elq
 split
 ·exact ZdT hp _
 ·exact hm i c hi hc
theorem Zwr (H : Hom p K φ) (hf : Zo p = true) {R0 : List (Nat -> K)} {m : Nat -> Nat -> Int} {L : List Nat} {k q : Nat} (h : InvI R0 (fun i c => φ (m i c)) L k) (hm : Rg p m) (hk : k < 6) (h1 : L.length <= q) (h2 : q < 5) (h0 : m q k ≠ 0) :
  InvI R0 (fun i c => φ (elq p (scp p (swp m L.length q) L.length (ZA p (swp m L.length q L.length k)) 6) L.length k 5 i c)) (L ++ [k]) (k + 1) := by
 have hp := Zx hf
 have ht : L.length < 5 := by omega
 have hS := ZvJ hm ht h2
 have hM := ZwW H hf hS ht hk
 have hvm : ∀ i c, i < 5 -> c < 6 -> Rw φ (m i c) (φ (m i c)) 30 := fun i c hi hc => Vl.rw hp (Vl.of (hm i c hi hc))
 have hvS : ∀ i c, i < 5 -> c < 6 -> Rw φ (swp m L.length q i c) (φ (swp m L.length q i c)) 30 := fun i c hi hc => Vl.rw hp (Vl.of (hS i c hi hc))
 have hinv : Vl p φ (ZA p (swp m L.length q L.length k)) (φ (swp m L.length q L.length k))⁻¹ := Vl.inv H hf (Vl.of (hS _ _ ht hk))
 refine InvI.pivot h hk h1 h2 ?_ (fun i c => φ (swp m L.length q i c)) ?_ ?_ ?_
 ·intro e
  exact h0 ((Vl.zero_iff H (Vl.of (φ := φ) (hm q k h2 hk))).2 e)
 ·intro i
  funext c
  by_cases e1 : i = L.length
  ·rw [if_pos e1]; unfold swp; rw [if_pos e1]
  ·rw [if_neg e1]
   by_cases e2 : i = q
   ·rw [if_pos e2]; unfold swp; rw [if_neg e1, if_pos e2]
   ·rw [if_neg e2]; unfold swp; rw [if_neg e1, if_neg e2]
 ·intro c hc
  have e : elq p (scp p (swp m L.length q) L.length (ZA p (swp m L.length q L.length k)) 6) L.length k 5 L.length c = (wI (swp m L.length q L.length c * ZA p (swp m L.length q L.length k))).tmod p := by
   unfold elq
   rw [if_neg (by omega)]
   unfold scp
   rw [if_pos ⟨rfl, hc⟩]
  show φ (elq _ _ _ _ _ _ _) = _
  rw [e, Z03]
  exact (Rw.tmod H hp (Rw.mul H (hvS _ c ht hc) (Vl.rw hp hinv) (by decide))).2
 ·intro i c hi hc hn
  generalize hG : scp p (swp m L.length q) L.length (ZA p (swp m L.length q L.length k)) 6 = M at hM
  have eM : ∀ c, M i c = swp m L.length q i c := fun c => by
   rw [<- hG]
   unfold scp
   rw [if_neg (by omega)]
  have e : elq p M L.length k 5 i c = Z1 p (wI (M i c - wI (M i k * M L.length c))) := by
   unfold elq
   rw [if_pos ⟨hi, hn⟩]
  have et : elq p M L.length k 5 L.length c = M L.length c := by
   unfold elq
   rw [if_neg (by omega)]
  show φ (elq _ _ _ _ _ _ _) = _ - _ * φ (elq _ _ _ _ _ _ _)
  rw [et, e, <- eM c, <- eM k, Z03, Z03]
  have r : ∀ c, c < 6 -> ∀ j, j < 5 -> Rw φ (M j c) (φ (M j c)) 30 := fun c hc j hj => Vl.rw hp (Vl.of (hM j c hj hc))
  exact (Vl.rest H hp (Rw.sub H (r c hc i hi) (Rw.mul H (r k hk i hi) (r c hc _ ht) (by decide)) (by decide))).2
theorem Znh (m : Nat -> Nat -> Int) (k : Nat) : ∀ (d t : Nat), t + d = 5 -> (∀ r, t <= r -> r < 5 -> m r k = 0) \/ ∃ q, t <= q /\ q < 5 /\ m q k ≠ 0 /\ ∀ r, t <= r -> r < q -> m r k = 0
 | 0, t, h => .inl fun r h1 h2 => by omega
 | d + 1, t, h => by
  by_cases h0 : m t k = 0
  ·rcases Znh m k d (t + 1) (by omega) with hl | ⟨q, h1, h2, h3, h4⟩
   ·refine .inl fun r h1 h2 => ?_
    by_cases e : r = t
    ·rw [e]; exact h0
    ·exact hl r (by omega) h2
   ·refine .inr ⟨q, by omega, h2, h3, fun r g1 g2 => ?_⟩
    by_cases e : r = t
    ·rw [e]; exact h0
    ·exact h4 r (by omega) g2
  ·exact .inr ⟨t, Nat.le_refl _, by omega, h0, fun r h1 h2 => by omega⟩
theorem Zxd {fu : Nat} (hfu : 10 <= fu) {pn : Nat} {pl l0 : List Int} {t0 : Int} {ZE : List Int -> Nat -> Int -> Option CR} (H : Hom p K φ) (hf : Zo p = true) {R0 : List (Nat -> K)} : ∀ (d k F : Nat) (m : Nat -> Nat -> Int) (L : List Nat), k + d = 6 -> d < F -> Rg p m -> InvI R0 (fun i c => φ (m i c)) L k ->
  ∃ F' m' L', 0 < F' /\ Rg p m' /\ InvI R0 (fun i c => φ (m' i c)) L' 6 /\ ZX fu p pn pl l0 5 t0 ZE F (mat m) (L.map Int.ofNat) L.length (k : Int) = ZX fu p pn pl l0 5 t0 ZE F' (mat m') (L'.map Int.ofNat) L'.length 6
 | 0, k, F, m, L, hk, hF, hm, h => by
  obtain rfl : k = 6 := by omega
  exact ⟨F, m, L, hF, hm, h, rfl⟩
 | d + 1, k, 0, m, L, hk, hF, hm, h => absurd hF (Nat.not_lt_zero _)
 | d + 1, k, F + 1, m, L, hk, hF, hm, h => by
  have h6 : k < 6 := by omega
  have hp := Zx hf
  have hpb : prB p = true := Z9R hp
  have e13 : ZX fu p pn pl l0 5 t0 ZE (F + 1) (mat m) (L.map Int.ofNat) L.length (k : Int) = Z0v fu p pn pl l0 5 t0 (mat m) (L.map Int.ofNat) L.length (k : Int) ZE (ZX fu p pn pl l0 5 t0 ZE F) fu ((L.length : Nat) : Int) := by
   show Z2x p pn pl l0 5 t0 ZE _ _ _ (mat m) (L.map Int.ofNat) L.length (k : Int) = _
   unfold Z2x
   rw [if_pos (lt6 h6)]
  rw [e13]
  have hle := h.le5
  rcases Znh m k (5 - L.length) L.length (by omega) with hz | ⟨q, h1, h2, h3, h4⟩
  ·rw [Ztd h6 m (5 - L.length) L.length fu (by omega) hz (by omega)]
   exact Zxd hfu H hf d (k + 1) F m L (by omega) (by omega) hm (h.skip h6 fun i g1 g2 => by
    show φ (m i k) = 0
    rw [hz i g1 g2, H.zero])
  ·have ht : L.length < 5 := by omega
   have hS := ZvJ hm ht h2
   have hM := ZwW H hf hS ht h6
   rw [Zte hfu hpb ht h6 h2 m h3 rfl hM (q - L.length) L.length fu (by omega) h4 (by omega)]
   have ih := Zxd hfu H hf (fu := fu) (pn := pn) (pl := pl) (l0 := l0) (t0 := t0) (ZE := ZE) d (k + 1) F _ (L ++ [k]) (by omega) (by omega) (Zxr hp hM) (Zwr H hf h hm h6 h1 h2 h3)
   rw [List.map_append, List.length_append] at ih
   exact ih
end
theorem ZvR : ∀ M ∈ subs 6, M.length = 5 -> ∀ f ∈ List.range 6, (∀ i ∈ List.range f, M.getD i 0 = i) -> (f < 5 -> M.getD f 0 ≠ f) -> f ∉ M := by decide +kernel
def flv (m : Nat -> Nat -> Int) (L : List Nat) (f : Nat) : Nat -> Nat -> Int
 | 0 => fun c => if c = f then 1 else 0
 | j + 1 => fun c => if c = L.getD j 0 then wI (0 - m j f) else flv m L f j c
theorem Zqo (m : Nat -> Nat -> Int) {L : List Nat} {f c : Nat} : ∀ {j : Nat}, j <= L.length -> c ∉ L -> flv m L f j c = flv m L f 0 c
 | 0, _, _ => rfl
 | j + 1, hj, h => by
  have hj' : j < L.length := by omega
  have : c ≠ L.getD j 0 := by
   rw [List.getD_eq_getElem?_getD, List.getElem?_eq_getElem hj']
   rintro rfl
   exact h (List.getElem_mem hj')
  show (if c = L.getD j 0 then _ else flv m L f j c) = _
  rw [if_neg this]
  exact Zqo m (by omega) h
theorem ZsF (m : Nat -> Nat -> Int) {L : List Nat} {f c i : Nat} (hn : L.Pairwise (· < ·)) (hc : L[i]? = some c) : ∀ {j : Nat}, i < j -> j <= L.length -> flv m L f j c = wI (0 - m i f)
 | 0, h, _ => absurd h (Nat.not_lt_zero _)
 | j + 1, h, hj => by
  have hj' : j < L.length := by omega
  have hg : L.getD j 0 = L[j] := by rw [List.getD_eq_getElem?_getD, List.getElem?_eq_getElem hj']; rfl
  show (if c = L.getD j 0 then wI (0 - m j f) else flv m L f j c) = _
  by_cases e : i = j
  ·subst e
   rw [List.getElem?_eq_getElem hj'] at hc
   rw [if_pos (by rw [hg]; exact (Option.some.inj hc).symm)]
  ·have hi : i < L.length := by omega
   have hlt := List.pairwise_iff_getElem.1 hn i j hi hj' (by omega)
   rw [List.getElem?_eq_getElem hi] at hc
   have hc' := Option.some.inj hc
   rw [if_neg (by rw [hg]; omega)]
   exact ZsF m hn (by rw [List.getElem?_eq_getElem hi, hc']) (by omega) (by omega)
def tup6 (v : Nat -> Int) : Int × Int × Int × Int × Int × Int := (v 0, v 1, v 2, v 3, v 4, v 5)
def finC (p : Int) (v : Nat -> Int) : CR := if (!((Z02 p (tup6 v)).2)) = true then ((0, 0, 0, 0, 0, 0), 5) else ((Z02 p (tup6 v)).1, 0)
theorem bset (q j : Nat) (x y : Int) (h : j < 6) : (bif Nat.beq (0 + q * 1) j then x else y) = if j = q then x else y := by
 rw [Nat.mul_one, Nat.zero_add]
 by_cases e : j = q
 ·subst e
  rw [if_pos rfl, show Nat.beq j j = true by simp]
  rfl
 ·rw [if_neg e, show Nat.beq q j = false by (cases hb : Nat.beq q j; rfl; exact absurd (Nat.eq_of_beq_eq_true hb).symm e)]
  rfl
theorem ZsD {fu : Nat} {p : Int} {pn : Nat} {pl l0 : List Int} {t0 k : Int} {f : Nat} {ZE : List Int -> Nat -> Int -> Option CR} {ZQ : List Int -> List Int -> Nat -> Int -> Option CR} {rec20 : Int -> Option CR} (hp : prB p = true) (hf : f < 6) (m : Nat -> Nat -> Int) {L : List Nat} (hL : L.length = 5) (h6 : ∀ c ∈ L, c < 6) : ∀ (d j F : Nat), j + d = 5 -> d < F ->
  Z1y fu p pn pl l0 5 t0 (mat m) (L.map Int.ofNat) 5 k (f : Int) ZE ZQ rec20 F (flv m L f j 0) (flv m L f j 1) (flv m L f j 2) (flv m L f j 3) (flv m L f j 4) (flv m L f j 5) (j : Int) = some (finC p (flv m L f 5))
 | _, _, 0, _, h => absurd h (Nat.not_lt_zero _)
 | 0, j, F + 1, hj, _ => by
  obtain rfl : j = 5 := by omega
  show Z2C p pn pl l0 5 t0 (mat m) (L.map Int.ofNat) 5 k (f : Int) ZE ZQ rec20 _ (flv m L f 5 0) (flv m L f 5 1) (flv m L f 5 2) (flv m L f 5 3) (flv m L f 5 4) (flv m L f 5 5) ((5 : Nat) : Int) = _
  unfold Z2C finC
  rw [if_neg (by decide), if_pos hp]
  show (if (!(Z02 p (tup6 (flv m L f 5))).2) = true then some ((0, 0, 0, 0, 0, 0), 5) else some ((Z02 p (tup6 (flv m L f 5))).1, 0)) = _
  split <;> rfl
 | d + 1, j, F + 1, hj, hF => by
  have h5 : j < 5 := by omega
  have hjl : j < L.length := by omega
  have hlt : decide ((j : Int) < ((5 : Nat) : Int)) = true := by simp; omega
  have hb1 : Nat.ble (j * 1 + 1) (L.map Int.ofNat).length = true := by rw [List.length_map]; exact Nat.ble_eq_true_of_le (by omega)
  have hb2 : Nat.ble (j * 6 + f * 1 + 1) (mat m).length = true := by rw [Z6n]; exact Nat.ble_eq_true_of_le (by omega)
  have g1 : (L.map Int.ofNat).getD (j * 1) 0 = ((L.getD j 0 : Nat) : Int) := by
   rw [Nat.mul_one, List.getD_eq_getElem?_getD, List.getElem?_map, List.getD_eq_getElem?_getD, List.getElem?_eq_getElem hjl]
   rfl
  have g2 : (mat m).getD (j * 6 + f * 1) 0 = m j f := by rw [Nat.mul_one, Z2R _ h5 hf]
  have hq : L.getD j 0 < 6 := by
   rw [List.getD_eq_getElem?_getD, List.getElem?_eq_getElem hjl]
   exact h6 _ (List.getElem_mem hjl)
  have hb3 : Nat.ble (0 + L.getD j 0 * 1 + 1) 6 = true := Nat.ble_eq_true_of_le (by omega)
  show Z2C p pn pl l0 5 t0 (mat m) (L.map Int.ofNat) 5 k (f : Int) ZE ZQ rec20 (Z1y fu p pn pl l0 5 t0 (mat m) (L.map Int.ofNat) 5 k (f : Int) ZE ZQ rec20 F) (flv m L f j 0) (flv m L f j 1) (flv m L f j 2) (flv m L f j 3) (flv m L f j 4) (flv m L f j 5) (j : Int) = _
  unfold Z2C
  simp only [Int.toNat_natCast, g1, g2]
  rw [if_pos hlt, if_pos (ck5 h5), if_pos hb1, if_pos (ck5 h5), if_pos (ck6 hf), if_pos hb2, if_pos (ck6 hq), if_pos hb3, bset _ 0 _ _ (by omega), bset _ 1 _ _ (by omega), bset _ 2 _ _ (by omega), bset _ 3 _ _ (by omega), bset _ 4 _ _ (by omega), bset _ 5 _ _ (by omega), wnx (by omega)]
  exact ZsD hp hf m hL h6 d (j + 1) F (by omega) (by omega)
theorem ZsE {fu : Nat} {p : Int} {pn : Nat} {pl l0 : List Int} {t0 k : Int} {f : Nat} {ZE : List Int -> Nat -> Int -> Option CR} {ZQ : List Int -> List Int -> Nat -> Int -> Option CR} {rec20 : Int -> Option CR} (hp : prB p = true) (hf : f < 6) (m : Nat -> Nat -> Int) {L : List Nat} (hL : L.length = 5) (h6 : ∀ c ∈ L, c < 6) : ∀ (d j F : Nat), j + d = 5 -> d < F ->
  Z1i fu p pn pl l0 5 t0 (mat m) (L.map Int.ofNat) 5 k (f : Int) ZE ZQ rec20 F (flv m L f j 0) (flv m L f j 1) (flv m L f j 2) (flv m L f j 3) (flv m L f j 4) (flv m L f j 5) (j : Int) = some (finC p (flv m L f 5))
 | _, _, 0, _, h => absurd h (Nat.not_lt_zero _)
 | 0, j, F + 1, hj, _ => by
  obtain rfl : j = 5 := by omega
  show Z2D p pn pl l0 5 t0 (mat m) (L.map Int.ofNat) 5 k (f : Int) ZE ZQ rec20 _ (flv m L f 5 0) (flv m L f 5 1) (flv m L f 5 2) (flv m L f 5 3) (flv m L f 5 4) (flv m L f 5 5) ((5 : Nat) : Int) = _
  unfold Z2D finC
  rw [if_neg (by decide), if_pos hp]
  show (if (!(Z02 p (tup6 (flv m L f 5))).2) = true then some ((0, 0, 0, 0, 0, 0), 5) else some ((Z02 p (tup6 (flv m L f 5))).1, 0)) = _
  split <;> rfl
 | d + 1, j, F + 1, hj, hF => by
  have h5 : j < 5 := by omega
  have hjl : j < L.length := by omega
  have hlt : decide ((j : Int) < ((5 : Nat) : Int)) = true := by simp; omega
  have hb1 : Nat.ble (j * 1 + 1) (L.map Int.ofNat).length = true := by rw [List.length_map]; exact Nat.ble_eq_true_of_le (by omega)
  have hb2 : Nat.ble (j * 6 + f * 1 + 1) (mat m).length = true := by rw [Z6n]; exact Nat.ble_eq_true_of_le (by omega)
  have g1 : (L.map Int.ofNat).getD (j * 1) 0 = ((L.getD j 0 : Nat) : Int) := by
   rw [Nat.mul_one, List.getD_eq_getElem?_getD, List.getElem?_map, List.getD_eq_getElem?_getD, List.getElem?_eq_getElem hjl]
   rfl
  have g2 : (mat m).getD (j * 6 + f * 1) 0 = m j f := by rw [Nat.mul_one, Z2R _ h5 hf]
  have hq : L.getD j 0 < 6 := by
   rw [List.getD_eq_getElem?_getD, List.getElem?_eq_getElem hjl]
   exact h6 _ (List.getElem_mem hjl)
  have hb3 : Nat.ble (0 + L.getD j 0 * 1 + 1) 6 = true := Nat.ble_eq_true_of_le (by omega)
  show Z2D p pn pl l0 5 t0 (mat m) (L.map Int.ofNat) 5 k (f : Int) ZE ZQ rec20 (Z1i fu p pn pl l0 5 t0 (mat m) (L.map Int.ofNat) 5 k (f : Int) ZE ZQ rec20 F) (flv m L f j 0) (flv m L f j 1) (flv m L f j 2) (flv m L f j 3) (flv m L f j 4) (flv m L f j 5) (j : Int) = _
  unfold Z2D
  simp only [Int.toNat_natCast, g1, g2]
  rw [if_pos hlt, if_pos (ck5 h5), if_pos hb1, if_pos (ck5 h5), if_pos (ck6 hf), if_pos hb2, if_pos (ck6 hq), if_pos hb3, bset _ 0 _ _ (by omega), bset _ 1 _ _ (by omega), bset _ 2 _ _ (by omega), bset _ 3 _ _ (by omega), bset _ 4 _ _ (by omega), bset _ 5 _ _ (by omega), wnx (by omega)]
  exact ZsE hp hf m hL h6 d (j + 1) F (by omega) (by omega)
theorem ZwM {fu : Nat} (hfu : 10 <= fu) {p : Int} {pn : Nat} {pl l0 : List Int} {t0 k : Int} {ZE : List Int -> Nat -> Int -> Option CR} {ZQ : List Int -> List Int -> Nat -> Int -> Option CR} (hp : prB p = true) (m : Nat -> Nat -> Int) {L : List Nat} (hs : L ∈ subs 6) (hL : L.length = 5) (h6 : ∀ c ∈ L, c < 6) : ∀ (d f F : Nat), f + d = 5 -> (∀ i ∈ List.range f, L.getD i 0 = i) -> d < F ->
  ∃ g, g < 6 /\ g ∉ L /\ Z0j fu p pn pl l0 5 t0 (mat m) (L.map Int.ofNat) 5 k ZE ZQ F (f : Int) = some (finC p (flv m L g 5))
 | _, _, 0, _, _, h => absurd h (Nat.not_lt_zero _)
 | 0, f, F + 1, hj, hi, _ => by
  obtain rfl : f = 5 := by omega
  refine ⟨5, by omega, ZvR L hs hL 5 (by simp) hi (fun h => by omega), ?_⟩
  show Z2B p pn pl l0 5 t0 (mat m) (L.map Int.ofNat) 5 k ZE ZQ _ (Z1i fu p pn pl l0 5 t0 (mat m) (L.map Int.ofNat) 5 k ((5 : Nat) : Int) ZE ZQ (Z0j fu p pn pl l0 5 t0 (mat m) (L.map Int.ofNat) 5 k ZE ZQ F) fu) _ ((5 : Nat) : Int) = _
  unfold Z2B
  rw [if_neg (by decide), if_pos (by decide), if_pos (by decide)]
  exact ZsE hp (by omega) m hL h6 5 0 fu (by omega) (by omega)
 | d + 1, f, F + 1, hj, hi, hF => by
  have h5 : f < 5 := by omega
  have hlt : decide ((f : Int) < 5) = true := by simp; omega
  have hb1 : Nat.ble (f * 1 + 1) (L.map Int.ofNat).length = true := by rw [List.length_map]; exact Nat.ble_eq_true_of_le (by omega)
  have g1 : (L.map Int.ofNat).getD (f * 1) 0 = ((L.getD f 0 : Nat) : Int) := by
   rw [Nat.mul_one, List.getD_eq_getElem?_getD, List.getElem?_map, List.getD_eq_getElem?_getD, List.getElem?_eq_getElem (show f < L.length by omega)]
   rfl
  have e20 : Z0j fu p pn pl l0 5 t0 (mat m) (L.map Int.ofNat) 5 k ZE ZQ (F + 1) (f : Int) = Z2B p pn pl l0 5 t0 (mat m) (L.map Int.ofNat) 5 k ZE ZQ (Z1y fu p pn pl l0 5 t0 (mat m) (L.map Int.ofNat) 5 k (f : Int) ZE ZQ (Z0j fu p pn pl l0 5 t0 (mat m) (L.map Int.ofNat) 5 k ZE ZQ F) fu) (Z1i fu p pn pl l0 5 t0 (mat m) (L.map Int.ofNat) 5 k (f : Int) ZE ZQ (Z0j fu p pn pl l0 5 t0 (mat m) (L.map Int.ofNat) 5 k ZE ZQ F) fu) (Z0j fu p pn pl l0 5 t0 (mat m) (L.map Int.ofNat) 5 k ZE ZQ F) (f : Int) := rfl
  rw [e20]
  unfold Z2B
  simp only [Int.toNat_natCast]
  rw [if_pos hlt, if_pos (ck5 h5), if_pos hb1, g1]
  by_cases e : L.getD f 0 = f
  ·rw [if_pos (by rw [e]; exact beq_self_eq_true _), wnx (by omega)]
   refine ZwM hfu hp m hs hL h6 d (f + 1) F (by omega) (fun i hi' => ?_) (by omega)
   have := List.mem_range.1 hi'
   by_cases e2 : i = f
   ·rw [e2]; exact e
   ·exact hi i (List.mem_range.2 (by omega))
  ·refine ⟨f, by omega, ZvR L hs hL f (List.mem_range.2 (by omega)) hi (fun _ => e), ?_⟩
   have hb3 : Nat.ble (0 + f * 1 + 1) 6 = true := Nat.ble_eq_true_of_le (by omega)
   rw [if_neg (fun q => e (by have := eq_of_beq q; omega)), if_pos (ck6 (by omega)), if_pos hb3, bset _ 0 _ _ (by omega), bset _ 1 _ _ (by omega), bset _ 2 _ _ (by omega), bset _ 3 _ _ (by omega), bset _ 4 _ _ (by omega), bset _ 5 _ _ (by omega)]
   exact ZsD hp (by omega) m hL h6 5 0 fu (by omega) (by omega)
def rw6 (r : Int × Int × Int × Int × Int × Int) : Nat -> Int
 | 0 => r.1
 | 1 => r.2.1
 | 2 => r.2.2.1
 | 3 => r.2.2.2.1
 | 4 => r.2.2.2.2.1
 | _ => r.2.2.2.2.2
def m5 (p : Int) (pl : List Int) : Nat -> Nat -> Int := fun i => rw6 (Z4s p (pl.getD (i * 2 + 0) 0, pl.getD (i * 2 + 1) 0))
theorem Zh7 {fu : Nat} {p : Int} {pl l0 : List Int} (hp : prB p = true) (hl : pl.length = 10) {i F : Nat} (hi : i < 5) : ZK fu p 5 pl (F + 1) l0 i (i : Int) = ZK fu p 5 pl F (l0 ++ [rw6 (Z4s p (pl.getD (i * 2 + 0) 0, pl.getD (i * 2 + 1) 0)) 0, rw6 (Z4s p (pl.getD (i * 2 + 0) 0, pl.getD (i * 2 + 1) 0)) 1, rw6 (Z4s p (pl.getD (i * 2 + 0) 0, pl.getD (i * 2 + 1) 0)) 2, rw6 (Z4s p (pl.getD (i * 2 + 0) 0, pl.getD (i * 2 + 1) 0)) 3, rw6 (Z4s p (pl.getD (i * 2 + 0) 0, pl.getD (i * 2 + 1) 0)) 4, rw6 (Z4s p (pl.getD (i * 2 + 0) 0, pl.getD (i * 2 + 1) 0)) 5]) (i + 1) ((i + 1 : Nat) : Int) := by
 have hlt : decide ((i : Int) < ((5 : Nat) : Int)) = true := by simp; omega
 have hb1 : Nat.ble (i * 2 + 2) pl.length = true := by rw [hl]; exact Nat.ble_eq_true_of_le (by omega)
 have hb : (Nat.ble 0 1 && Nat.ble (i + 1) 2000000 && Nat.beq 6 6) = true := by simp; omega
 show Z2W p 5 pl _ (ZK fu p 5 pl F) l0 i (i : Int) = _
 unfold Z2W
 simp only [Int.toNat_natCast]
 rw [if_pos hlt, if_pos (ck5 hi), if_pos hb1, if_pos hp, if_pos hb, wnx (by omega)]
 rfl
theorem Zxp {fu : Nat} {p : Int} {pl : List Int} (hp : prB p = true) (hl : pl.length = 10) {F : Nat} : ZK fu p 5 pl (F + 6) [] 0 0 = ZX fu p 5 pl (mat (m5 p pl)) 5 5 (ZK fu p 5 pl F) fu (mat (m5 p pl)) [] 0 0 := by
 have s0 := Zh7 (fu := fu) (l0 := []) hp hl (i := 0) (F := F + 5) (by omega)
 rw [show ZK fu p 5 pl (F + 6) [] 0 0 = ZK fu p 5 pl (F + 5 + 1) [] 0 ((0 : Nat) : Int) from rfl, s0]
 rw [Zh7 (F := F + 4) hp hl (by omega), Zh7 (F := F + 3) hp hl (by omega), Zh7 (F := F + 2) hp hl (by omega), Zh7 (F := F + 1) hp hl (by omega)]
 have e5 : ∀ l : List Int, ZK fu p 5 pl (F + 1) l 5 ((5 : Nat) : Int) = ZX fu p 5 pl l 5 5 (ZK fu p 5 pl F) fu l [] 0 0 := by
  intro l
  show Z2W p 5 pl _ _ l 5 ((5 : Nat) : Int) = _
  unfold Z2W
  rw [if_neg (by decide)]
  rfl
 exact e5 _
section
variable {p : Int} {K : Type} [Lean.Grind.Field K] {φ : Int -> K}
def Ends (p : Int) (φ : Int -> K) (x : Nat -> K) (r : CR) : Prop := ((x 0 = 0 /\ x 1 = 0 /\ x 2 = 0) /\ r = ((0, 0, 0, 0, 0, 0), 5)) \/ ((x 0 ≠ 0 \/ x 1 ≠ 0 \/ x 2 ≠ 0) /\ ∃ c, r = (c, 0) /\ Cc p φ c (x 0) (x 1) (x 2) (x 3) (x 4) (x 5))
def OutC (p : Int) (φ : Int -> K) (R0 : List (Nat -> K)) (r : CR) : Prop := ∃ A L, Red A L /\ (∀ x, KerL A x ↔ KerL R0 x) /\ ((L.length <= 4 /\ r = ((0, 0, 0, 0, 0, 0), 5)) \/ (L.length = 5 /\ ∃ f x, f < 6 /\ f ∉ L /\ IsSol A L f x /\ Ends p φ x r))
theorem OutC.uni (H : Hom p K φ) {R0 : List (Nat -> K)} {r r' : CR} (h : OutC p φ R0 r) (h' : OutC p φ R0 r') : r = r' := by
 obtain ⟨A, L, hA, kA, hr⟩ := h
 obtain ⟨B, M, hB, kB, hr'⟩ := h'
 have hk : ∀ x, KerL A x ↔ KerL B x := fun x => (kA x).trans (kB x).symm
 rcases hr with ⟨l4, rfl⟩ | ⟨l5, f, x, hf, hfL, hx, he⟩
 ·rcases hr' with ⟨m4, rfl⟩ | ⟨m5, g, y, hg, hgM, hy, he'⟩
  ·rfl
  ·exact absurd l4 (hB.five hA (fun x => (hk x).symm) m5)
 ·rcases hr' with ⟨m4, rfl⟩ | ⟨m5, g, y, hg, hgM, hy, he'⟩
  ·exact absurd m4 (hA.five hB hk l5)
  ·obtain ⟨hs, hp⟩ := ZvN hA hB hk l5 m5 hf hg hfL hgM hx hy
   have p0 := hp 0 (by omega)
   have p1 := hp 1 (by omega)
   have p2 := hp 2 (by omega)
   have p3 := hp 3 (by omega)
   have p4 := hp 4 (by omega)
   have p5 := hp 5 (by omega)
   rcases he with ⟨⟨a0, a1, a2⟩, rfl⟩ | ⟨hn, c, rfl, hc⟩
   ·rcases he' with ⟨_, rfl⟩ | ⟨hn', _⟩
    ·rfl
    ·exfalso
     rw [p0, p1, p2, a0, a1, a2] at hn'
     grind
   ·rcases he' with ⟨⟨b0, b1, b2⟩, _⟩ | ⟨_, c', rfl, hc'⟩
    ·exfalso
     rw [p0] at b0
     rw [p1] at b1
     rw [p2] at b2
     grind
    ·have hc2 := Cc.scale (y f) hs p0 p1 p2 p3 p4 p5 hc'
     rw [Cc.inj H hc hc2]
theorem ZuN (H : Hom p K φ) (hf : Zo p = true) {v : Nat -> Int} (hv : ∀ c, c < 6 -> ∃ n, Rw φ (v c) (φ (v c)) n) : Ends p φ (fun c => φ (v c)) (finC p v) := by
 obtain ⟨n0, h0⟩ := hv 0 (by omega)
 obtain ⟨n1, h1⟩ := hv 1 (by omega)
 obtain ⟨n2, h2⟩ := hv 2 (by omega)
 by_cases hz : φ (v 0) = 0 /\ φ (v 1) = 0 /\ φ (v 2) = 0
 ·refine .inl ⟨hz, ?_⟩
  unfold finC
  rw [Zib H hf (l := tup6 v) h0 h1 h2 hz.1 hz.2.1 hz.2.2]
  rfl
 ·have hn : φ (v 0) ≠ 0 \/ φ (v 1) ≠ 0 \/ φ (v 2) ≠ 0 := by
   by_cases q0 : φ (v 0) = 0
   ·by_cases q1 : φ (v 1) = 0
    ·exact .inr (.inr fun q2 => hz ⟨q0, q1, q2⟩)
    ·exact .inr (.inl q1)
   ·exact .inl q0
  obtain ⟨u1, u2⟩ := Zei H hf (l := tup6 v) (hv 0 (by omega)) (hv 1 (by omega)) (hv 2 (by omega)) (hv 3 (by omega)) (hv 4 (by omega)) (hv 5 (by omega)) hn
  refine .inr ⟨hn, _, ?_, u2⟩
  unfold finC
  rw [u1]
  rfl
theorem ZwO (H : Hom p K φ) (hf : Zo p = true) {pl : List Int} (hl : pl.length = 10) (hm : Rg p (m5 p pl)) {fu : Nat} (hfu : 10 <= fu) {F : Nat} : ∃ r, ZK fu p 5 pl (F + 6) [] 0 0 = some r /\ OutC p φ ((List.range 5).map fun i c => φ (m5 p pl i c)) r := by
 have hp := Zx hf
 have hpb : prB p = true := Z9R hp
 rw [Zxp hpb hl]
 have h0 : InvI ((List.range 5).map fun i c => φ (m5 p pl i c)) (fun i c => φ (m5 p pl i c)) [] 0 := by
  refine ⟨by omega, by simp, List.Pairwise.nil, fun c hc => by simp at hc, fun i c hc => by simp at hc, fun i j c _ hc => by simp at hc, fun i c _ _ hc => absurd hc (Nat.not_lt_zero _), fun x => ?_⟩
  constructor
  ·intro q r hr
   obtain ⟨i, hi, rfl⟩ := List.mem_map.1 hr
   exact q i (List.mem_range.1 hi)
  ·intro q i hi
   exact q _ (List.mem_map.2 ⟨i, List.mem_range.2 hi, rfl⟩)
 obtain ⟨F', m', L', hF', hm', hI, e⟩ := Zxd hfu (pn := 5) (pl := pl) (l0 := mat (m5 p pl)) (t0 := 5) (ZE := ZK fu p 5 pl F) H hf 6 0 fu (m5 p pl) [] (by omega) (by omega) hm h0
 rw [show ZX fu p 5 pl (mat (m5 p pl)) 5 5 (ZK fu p 5 pl F) fu (mat (m5 p pl)) [] 0 0 = ZX fu p 5 pl (mat (m5 p pl)) 5 5 (ZK fu p 5 pl F) fu (mat (m5 p pl)) (List.map Int.ofNat []) ([] : List Nat).length ((0 : Nat) : Int) from rfl, e]
 obtain ⟨hR, hK⟩ := hI.red
 obtain ⟨F1, rfl⟩ : ∃ F1, F' = F1 + 1 := ⟨F' - 1, by omega⟩
 have e13 : ZX fu p 5 pl (mat (m5 p pl)) 5 5 (ZK fu p 5 pl F) (F1 + 1) (mat m') (L'.map Int.ofNat) L'.length 6 = if (decide (((L'.length : Nat) : Int) < 5)) = true then some ((0, 0, 0, 0, 0, 0), 5) else Z0j fu p 5 pl (mat (m5 p pl)) 5 5 (mat m') (L'.map Int.ofNat) L'.length 6 (ZK fu p 5 pl F) (ZX fu p 5 pl (mat (m5 p pl)) 5 5 (ZK fu p 5 pl F) F1) fu 0 := by
  show Z2x p 5 pl (mat (m5 p pl)) 5 5 _ _ _ _ (mat m') (L'.map Int.ofNat) L'.length 6 = _
  unfold Z2x
  rw [if_neg (by decide)]
 rw [e13]
 by_cases h4 : L'.length <= 4
 ·rw [if_pos (by simp; omega)]
  exact ⟨_, rfl, _, _, hR, hK, .inl ⟨h4, rfl⟩⟩
 ·have h5 : L'.length = 5 := by have := hI.le5; omega
  rw [if_neg (by simp; omega), h5]
  obtain ⟨g, hg, hgL, e20⟩ := ZwM hfu (fu := fu) (pn := 5) (pl := pl) (l0 := mat (m5 p pl)) (t0 := 5) (k := 6) (ZE := ZK fu p 5 pl F) (ZQ := ZX fu p 5 pl (mat (m5 p pl)) 5 5 (ZK fu p 5 pl F) F1) hpb m' hR.sub h5 hR.lt 5 0 fu (by omega) (fun i hi => by simp at hi) (by omega)
  refine ⟨_, e20, _, _, hR, hK, .inr ⟨h5, g, fun c => φ (flv m' L' g 5 c), hg, hgL, ⟨?_, ?_⟩, ZuN H hf ?_⟩⟩
  ·show φ (flv m' L' g 5 g) = 1
   rw [Zqo m' (by omega) hgL]
   show φ (if g = g then 1 else 0) = 1
   rw [if_pos rfl, H.one]
  ·intro i r c hi hc
   have hil : i < L'.length := (List.getElem?_eq_some_iff.1 hc).1
   rw [List.getElem?_map, List.getElem?_range hil] at hi
   obtain rfl := Option.some.inj hi
   show φ (flv m' L' g 5 c) = - φ (m' i g)
   rw [ZsF m' hR.inc hc (by omega) (by omega), Z03]
   exact (Rw.neg0 H (Vl.rw hp (Vl.of (φ := φ) (hm' i g (by omega) hg))) (by decide)).2
  ·intro c hc
   have hall : ∀ j, j <= 5 -> ∃ n, Rw φ (flv m' L' g j c) (φ (flv m' L' g j c)) n := by
    intro j
    induction j with
    | zero =>
     intro _
     show ∃ n, Rw φ (if c = g then 1 else 0) (φ (if c = g then 1 else 0)) n
     split
     ·exact ⟨1, Rw.lit 1 (by decide)⟩
     ·exact ⟨0, Rw.lit 0 (by decide)⟩
    | succ j ih =>
     intro hj
     show ∃ n, Rw φ (if c = L'.getD j 0 then wI (0 - m' j g) else flv m' L' g j c) (φ (if c = L'.getD j 0 then wI (0 - m' j g) else flv m' L' g j c)) n
     split
     ·rw [Z03]
      have := Rw.neg0 H (Vl.rw hp (Vl.of (φ := φ) (hm' j g (by omega) hg))) (by decide)
      exact ⟨_, this.1, rfl⟩
     ·exact ih (by omega)
   exact hall 5 (Nat.le_refl _)
end

end Go.Proofs.Ytfclaacaphpoaaa
