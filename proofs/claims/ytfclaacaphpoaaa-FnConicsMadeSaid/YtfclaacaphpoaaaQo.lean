import Derived.Test.YtfclaacaphpoaaaQn
set_option linter.unusedSimpArgs false
set_option linter.unusedVariables false
namespace Go.Proofs.Ytfclaacaphpoaaa
open Go.RowKit
theorem Zu9 (fu : Nat) (hfu : 20 <= fu) {p : Int} {K : Type} [Lean.Grind.Field K] {φ : Int -> K} (H : Hom p K φ) (hf : Zo p = true) {D : LL} (h5 : D.length = 5) (hD : ∀ r ∈ D, Rk p r) : ∃ O B L, Z4q fu p D = some O /\ (∀ r ∈ O, Rk p r) /\ InvS (D.map (vec φ)) (O.map (vec φ)) B L 6 := by
 have h0 : InvS (D.map (vec φ)) (([] : LL).map (vec φ)) (D.map (vec φ)) [] 0 := by
  refine ⟨by omega, rfl, by simp [h5], List.Pairwise.nil, fun c hc => by simp at hc, fun i r c hi => by simp at hi, fun i j r c hi => by simp at hi, fun b _ c hc => absurd hc (Nat.not_lt_zero _), fun i r c q hi => by simp at hi, fun x => ⟨fun h => h.2, fun h => ⟨fun r hr => by simp at hr, h⟩⟩⟩
 exact Zvd hfu (rowsl := D) H hf 6 0 fu D [] [] (by omega) (by omega) hD (fun r hr => by simp at hr) h0
theorem Zua {p : Int} {K : Type} [Lean.Grind.Field K] {φ : Int -> K} (H : Hom p K φ) (hf : Zo p = true) {D : LL} (h5 : D.length = 5) (hD : ∀ r ∈ D, Rk p r) : ∃ O B L, Z2u p D = true /\ Zs p D = O /\ (∀ r ∈ O, Rk p r) /\ InvS (D.map (vec φ)) (O.map (vec φ)) B L 6 := by
 obtain ⟨O, B, L, e', hO, hI⟩ := Zu9 1000000 (by decide) H hf h5 hD
 exact ⟨O, B, L, Zh4 e', ZlW e', hO, hI⟩
theorem Zql {fu : Nat} {r : List Int} (h6 : r.length = 6) {t : Nat} (ht : t < 6) (hz : ∀ q, q < t -> r.getD q 0 = 0) (hn : r.getD t 0 ≠ 0) : ∀ (d i F : Nat), i + d = t -> d < F -> Z4r fu 6 r F (i : Int) = some (t : Int)
 | _, _, 0, _, h => absurd h (Nat.not_lt_zero _)
 | 0, i, F + 1, hj, _ => by
  obtain rfl : i = t := by omega
  have hb : Nat.ble (i + 1) 6 = true := Nat.ble_eq_true_of_le ht
  show Z58 6 r _ (i : Int) = _
  unfold Z58
  simp only [Int.toNat_natCast, Nat.mul_one, h6]
  rw [if_pos (ck6 ht), if_pos hb, if_neg (by simpa using hn)]
 | d + 1, i, F + 1, hj, hF => by
  have hi : i < 6 := by omega
  have hb : Nat.ble (i + 1) 6 = true := Nat.ble_eq_true_of_le hi
  refine Eq.trans ?_ (Zql (fu := fu) h6 ht hz hn d (i + 1) F (by omega) (by omega))
  show Z58 6 r (Z4r fu 6 r F) (i : Int) = _
  unfold Z58
  simp only [Int.toNat_natCast, Nat.mul_one, h6]
  rw [if_pos (ck6 hi), if_pos hb, if_pos (by rw [hz i (by omega)]; rfl), wnx (by omega)]
theorem ZuP (fu : Nat) (hfu : 20 <= fu) {r : List Int} (h6 : r.length = 6) {t : Nat} (ht : t < 6) (hz : ∀ q, q < t -> r.getD q 0 = 0) (hn : r.getD t 0 ≠ 0) : Z4X fu 6 r = some (t : Int) := Zql h6 ht hz hn t 0 _ (by omega) (by omega)
theorem ZuQ {r : List Int} (h6 : r.length = 6) {t : Nat} (ht : t < 6) (hz : ∀ q, q < t -> r.getD q 0 = 0) (hn : r.getD t 0 ≠ 0) : Z2c 6 r = true /\ Z1O 6 r = (t : Int) := by
 have e := ZuP 1000000 (by decide) h6 ht hz hn
 exact ⟨Zid e, ZmJ e⟩
structure Led (O : LL) (L : List Nat) : Prop where
 l5 : O.length = 5
 m5 : L.length = 5
 sub : L ∈ subs 6
 lt : ∀ c ∈ L, c < 6
 six : ∀ r ∈ O, r.length = 6
 fst : ∀ j, j < 5 -> Z2c 6 (O.getD j []) = true /\ Z1O 6 (O.getD j []) = ((L.getD j 0 : Nat) : Int)
section
variable {fu : Nat} {p : Int} {pn : Nat} {pl : List Int} {d33 O : LL} {L : List Nat} {i : Int} {ZE : LL -> Int -> Option CR} {rec4 : Int -> Int -> Option CR} {free c : Int}
theorem fr5 (hO : Zs p d33 = O) (hL : Led O L) (c : Nat) (hc : c < 6) : ∀ (d j F : Nat) (b : Bool), j + d = 5 -> d < F ->
  Z1I fu p pn pl d33 i free (c : Int) ZE rec4 F b (j : Int) = if (b || (L.drop j).any (fun x => Nat.beq x c)) = true then rec4 free ((c + 1 : Nat) : Int) else rec4 (c : Int) ((c + 1 : Nat) : Int)
 | _, _, 0, _, _, h => absurd h (Nat.not_lt_zero _)
 | 0, j, F + 1, b, hj, _ => by
  obtain rfl : j = 5 := by omega
  have e : L.drop 5 = [] := List.drop_eq_nil_of_le (by rw [hL.m5]; exact Nat.le_refl _)
  show Z31 p pn pl d33 i free (c : Int) ZE rec4 _ b ((5 : Nat) : Int) = _
  unfold Z31
  rw [if_neg (by decide), e, wnx (by omega)]
  cases b <;> rfl
 | d + 1, j, F + 1, b, hj, hF => by
  have h5 : j < 5 := by omega
  have hjO : j < O.length := by rw [hL.l5]; exact h5
  have hlt : decide ((j : Int) < 5) = true := by simp; omega
  obtain ⟨f1, f2⟩ := hL.fst j h5
  have h6 : (O.getD j []).length = 6 := hL.six _ (Z3q hjO)
  show Z31 p pn pl d33 i free (c : Int) ZE rec4 (Z1I fu p pn pl d33 i free (c : Int) ZE rec4 F) b (j : Int) = _
  unfold Z31
  rw [hO]
  simp only [Int.toNat_natCast, Nat.mul_one, h6, f1, f2]
  rw [if_pos hlt, wnx (by omega)]
  cases b with
  | true =>
   rw [if_pos rfl, fr5 hO hL c hc d (j + 1) F true (by omega) (by omega)]
   rfl
  | false =>
   rw [if_neg (by decide), if_pos (cki hjO), if_pos (bli hjO), if_pos True.intro, fr5 hO hL c hc d (j + 1) F _ (by omega) (by omega)]
   have hjL : j < L.length := by rw [hL.m5]; exact h5
   have e1 : L.drop j = L.getD j 0 :: L.drop (j + 1) := by
    rw [List.drop_eq_getElem_cons hjL, List.getD_eq_getElem?_getD, List.getElem?_eq_getElem hjL]; rfl
   have e2 : (((L.getD j 0 : Nat) : Int) == (c : Int)) = Nat.beq (L.getD j 0) c := by
    rw [Bool.eq_iff_iff]
    simp
    omega
   rw [e2, e1, List.any_cons, Bool.false_or]
def fvS (p : Int) (O : LL) (L : List Nat) (f : Nat) : Nat -> Nat -> Int
 | 0 => fun c => if c = f then 1 else 0
 | j + 1 => fun c => if c = L.getD j 0 then Z4 (wI (0 - (O.getD j []).getD f 0)) p else fvS p O L f j c
theorem Zqq {f c : Nat} : ∀ {j : Nat}, j <= L.length -> c ∉ L -> fvS p O L f j c = fvS p O L f 0 c
 | 0, _, _ => rfl
 | j + 1, hj, h => by
  have hj' : j < L.length := by omega
  have : c ≠ L.getD j 0 := by
   rw [List.getD_eq_getElem?_getD, List.getElem?_eq_getElem hj']
   rintro rfl
   exact h (List.getElem_mem hj')
  show (if c = L.getD j 0 then _ else fvS p O L f j c) = _
  rw [if_neg this]
  exact Zqq (by omega) h
theorem ZsH {f c q : Nat} (hn : L.Pairwise (· < ·)) (hc : L[q]? = some c) : ∀ {j : Nat}, q < j -> j <= L.length -> fvS p O L f j c = Z4 (wI (0 - (O.getD q []).getD f 0)) p
 | 0, h, _ => absurd h (Nat.not_lt_zero _)
 | j + 1, h, hj => by
  have hj' : j < L.length := by omega
  have hg : L.getD j 0 = L[j] := by rw [List.getD_eq_getElem?_getD, List.getElem?_eq_getElem hj']; rfl
  show (if c = L.getD j 0 then Z4 (wI (0 - (O.getD j []).getD f 0)) p else fvS p O L f j c) = _
  by_cases e : q = j
  ·subst e
   rw [List.getElem?_eq_getElem hj'] at hc
   rw [if_pos (by rw [hg]; exact (Option.some.inj hc).symm)]
  ·have hq : q < L.length := (List.getElem?_eq_some_iff.1 hc).1
   rw [List.getElem?_eq_getElem hq] at hc
   have := List.pairwise_iff_getElem.1 hn q j hq hj' (by omega)
   rw [if_neg (by rw [hg, <- Option.some.inj hc]; omega)]
   exact ZsH hn (by rw [List.getElem?_eq_getElem hq]; exact hc) (by omega) (by omega)
def six (v : Nat -> Int) : List Int := (List.range 6).map v
theorem Ztk (v : Nat -> Int) : (six v).length = 6 := by simp [six]
theorem Ztl (v : Nat -> Int) {q : Nat} (hq : q < 6) (x : Int) : (six v).set q x = six (fun c => if c = q then x else v c) := by
 have cq : q = 0 \/ q = 1 \/ q = 2 \/ q = 3 \/ q = 4 \/ q = 5 := by omega
 rcases cq with rfl | rfl | rfl | rfl | rfl | rfl <;> rfl
def finS (p : Int) (v : Nat -> Int) : CR := if (!((ZO p 6 (six v)).2)) = true then ((0, 0, 0, 0, 0, 0), 5) else ((ZO p 6 (six v)).1, 0)
theorem fl6 (hp : prB p = true) (hO : Zs p d33 = O) (hL : Led O L) {f : Nat} (hf : f < 6) : ∀ (d j F : Nat), j + d = 5 -> d < F ->
  Z1J fu p pn pl d33 i (f : Int) c ZE rec4 F (six (fvS p O L f j)) (j : Int) = some (finS p (fvS p O L f 5))
 | _, _, 0, _, h => absurd h (Nat.not_lt_zero _)
 | 0, j, F + 1, hj, _ => by
  obtain rfl : j = 5 := by omega
  show Z32 p pn pl d33 i (f : Int) c ZE rec4 _ (six (fvS p O L f 5)) ((5 : Nat) : Int) = _
  unfold Z32 finS
  rw [if_neg (by decide), Ztk, if_pos (by rw [hp]; rfl)]
  split <;> rfl
 | d + 1, j, F + 1, hj, hF => by
  have h5 : j < 5 := by omega
  have hjO : j < O.length := by rw [hL.l5]; exact h5
  have hjL : j < L.length := by rw [hL.m5]; exact h5
  have hlt : decide ((j : Int) < 5) = true := by simp; omega
  obtain ⟨f1, f2⟩ := hL.fst j h5
  have h6 : (O.getD j []).length = 6 := hL.six _ (Z3q hjO)
  have hq : L.getD j 0 < 6 := by
   rw [List.getD_eq_getElem?_getD, List.getElem?_eq_getElem hjL]
   exact hL.lt _ (List.getElem_mem hjL)
  have hbf : Nat.ble (f + 1) 6 = true := Nat.ble_eq_true_of_le hf
  have hbq : Nat.ble (L.getD j 0 + 1) 6 = true := Nat.ble_eq_true_of_le hq
  refine Eq.trans ?_ (fl6 hp hO hL hf d (j + 1) F (by omega) (by omega))
  show Z32 p pn pl d33 i (f : Int) c ZE rec4 (Z1J fu p pn pl d33 i (f : Int) c ZE rec4 F) (six (fvS p O L f j)) (j : Int) = _
  unfold Z32
  rw [hO]
  simp only [Int.toNat_natCast, Nat.mul_one, Nat.add_zero, h6, f1, f2, Ztk]
  rw [if_pos hlt, if_pos (cki hjO), if_pos (bli hjO), if_pos True.intro, if_pos (cki hjO), if_pos (bli hjO), if_pos (ck6 hf), if_pos hbf, if_pos hp, if_pos (ck6 hq), if_pos hbq, wnx (by omega), Ztl _ hq]
  rfl
theorem fr4 (hfu : 20 <= fu) (hp : prB p = true) (hO : Zs p d33 = O) (hL : Led O L) {f : Nat} (hf : f < 6) (hfL : f ∉ L) : ∀ (d c F g : Nat), c + d = 6 -> (g = f \/ c <= f) -> d < F ->
  Z0B fu p pn pl d33 i ZE F (g : Int) (c : Int) = some (finS p (fvS p O L f 5))
 | _, _, 0, _, _, _, h => absurd h (Nat.not_lt_zero _)
 | 0, c, F + 1, g, hj, hg, _ => by
  obtain rfl : c = 6 := by omega
  obtain rfl : g = f := by omega
  have hb : Nat.ble (g + 1) 6 = true := Nat.ble_eq_true_of_le hf
  refine Eq.trans ?_ (fl6 (fu := fu) (pn := pn) (pl := pl) (i := i) (c := ((6 : Nat) : Int)) (ZE := ZE) (rec4 := Z0B fu p pn pl d33 i ZE F) hp hO hL hf 5 0 fu (by omega) (by omega))
  show Z30 p pn pl d33 i ZE _ (Z1J fu p pn pl d33 i (g : Int) ((6 : Nat) : Int) ZE (Z0B fu p pn pl d33 i ZE F) fu) _ (g : Int) ((6 : Nat) : Int) = _
  unfold Z30
  simp only [Int.toNat_natCast, Nat.mul_one, Nat.add_zero, List.length_replicate]
  have e : (List.replicate 6 (0 : Int)).set g 1 = six (fvS p O L g 0) := by
   rw [show List.replicate 6 (0 : Int) = six (fun _ => 0) from rfl, Ztl _ hf]
   rfl
  rw [if_neg (by decide), if_pos (ck6 hf), if_pos hb, e]
  rfl
 | d + 1, c, F + 1, g, hj, hg, hF => by
  have hc : c < 6 := by omega
  have e4 : Z0B fu p pn pl d33 i ZE (F + 1) (g : Int) (c : Int) = Z1I fu p pn pl d33 i (g : Int) (c : Int) ZE (Z0B fu p pn pl d33 i ZE F) fu false ((0 : Nat) : Int) := by
   show Z30 p pn pl d33 i ZE _ _ _ (g : Int) (c : Int) = _
   unfold Z30
   rw [if_pos (lt6 hc)]
   rfl
  rw [e4, fr5 hO hL c hc 5 0 fu false (by omega) (by omega), List.drop_zero, Bool.false_or]
  by_cases hcL : c ∈ L
  ·rw [if_pos (List.any_eq_true.2 ⟨c, hcL, by simp⟩)]
   refine fr4 hfu hp hO hL hf hfL d (c + 1) F g (by omega) ?_ (by omega)
   rcases hg with h | h
   ·exact .inl h
   ·exact .inr (by
     have : c ≠ f := fun e => hfL (e ▸ hcL)
     omega)
  ·have e : c = f := by
    rcases ZbD L hL.sub hL.m5 f (List.mem_range.2 hf) hfL c (List.mem_range.2 hc) with h | h
    ·exact h
    ·exact absurd h hcL
   rw [if_neg (by
    intro h
    obtain ⟨x, hx, h0⟩ := List.any_eq_true.1 h
    have := Nat.eq_of_beq_eq_true h0
    subst this
    exact hcL hx)]
   exact fr4 hfu hp hO hL hf hfL d (c + 1) F c (by omega) (.inl e) (by omega)
end
def rowP (p : Int) (pl : List Int) (i : Nat) : List Int := [(wI ((pl.getD (i * 2 + 0) 0) * (pl.getD (i * 2 + 0) 0))).tmod p, (wI ((pl.getD (i * 2 + 0) 0) * (pl.getD (i * 2 + 1) 0))).tmod p, (wI ((pl.getD (i * 2 + 1) 0) * (pl.getD (i * 2 + 1) 0))).tmod p, pl.getD (i * 2 + 0) 0, pl.getD (i * 2 + 1) 0, 1]
theorem Zr1 (p : Int) (pl : List Int) (i : Nat) {c : Nat} (hc : c < 6) : (rowP p pl i).getD c 0 = m5 p pl i c := by
 unfold rowP m5 Z4s
 rw [Z03, Z03, Z03]
 have cc : c = 0 \/ c = 1 \/ c = 2 \/ c = 3 \/ c = 4 \/ c = 5 := by omega
 rcases cc with rfl | rfl | rfl | rfl | rfl | rfl <;> rfl
theorem ZdU {fu : Nat} {p : Int} {pl : List Int} (hp : prB p = true) (hl : pl.length = 10) {i F : Nat} (hi : i < 5) {d : LL} (hd : d.length <= 10) : Z0e fu p 5 pl (F + 1) d (i : Int) = Z0e fu p 5 pl F (d ++ [rowP p pl i]) ((i + 1 : Nat) : Int) := by
 have hlt : decide ((i : Int) < 5) = true := by simp; omega
 have hb1 : Nat.ble (i * 2 + 0 + 1) pl.length = true := by rw [hl]; exact Nat.ble_eq_true_of_le (by omega)
 have hb2 : Nat.ble (i * 2 + 1 + 1) pl.length = true := by rw [hl]; exact Nat.ble_eq_true_of_le (by omega)
 have h0 := Z6y hp
 show Z2Z p 5 pl _ (Z0e fu p 5 pl F) d (i : Int) = _
 unfold Z2Z
 simp only [Int.toNat_natCast]
 rw [if_pos hlt, if_pos (ck5 hi), if_pos hb1, if_pos (ck5 hi), if_pos hb2, if_pos h0, if_pos h0, if_pos h0, if_pos (Nat.ble_eq_true_of_le (by simp; omega)), wnx (by omega)]
 rfl
def ZdV (p : Int) (pl : List Int) : LL := [rowP p pl 0, rowP p pl 1, rowP p pl 2, rowP p pl 3, rowP p pl 4]
theorem Zwy {fu : Nat} {p : Int} {pl : List Int} (hp : prB p = true) (hl : pl.length = 10) {F : Nat} : Z0e fu p 5 pl (F + 6) [] 0 = (if (Z2u p (ZdV p pl)) = true then (if ((((Zs p (ZdV p pl)).length : Nat) : Int) != 5) = true then some ((0, 0, 0, 0, 0, 0), 5) else Z0B fu p 5 pl (ZdV p pl) ((5 : Nat) : Int) (Z0e fu p 5 pl F) fu 0 0) else none) := by
 have s0 := ZdU (fu := fu) (d := []) hp hl (i := 0) (F := F + 5) (by omega) (by simp)
 rw [show Z0e fu p 5 pl (F + 6) [] 0 = Z0e fu p 5 pl (F + 5 + 1) [] ((0 : Nat) : Int) from rfl, s0]
 rw [ZdU (F := F + 4) hp hl (by omega) (by simp), ZdU (F := F + 3) hp hl (by omega) (by simp), ZdU (F := F + 2) hp hl (by omega) (by simp), ZdU (F := F + 1) hp hl (by omega) (by simp)]
 show Z2Z p 5 pl _ _ (ZdV p pl) ((5 : Nat) : Int) = _
 unfold Z2Z
 rw [if_neg (by decide)]
 rfl
section
variable {p : Int} {K : Type} [Lean.Grind.Field K] {φ : Int -> K}
theorem ZtJ (H : Hom p K φ) (hf : Zo p = true) {v : Nat -> Int} (hv : ∀ c, c < 6 -> ∃ n, Rw φ (v c) (φ (v c)) n) : Ends p φ (fun c => φ (v c)) (finS p v) := by
 have e6 : six v = [v 0, v 1, v 2, v 3, v 4, v 5] := rfl
 obtain ⟨n0, h0⟩ := hv 0 (by omega)
 obtain ⟨n1, h1⟩ := hv 1 (by omega)
 obtain ⟨n2, h2⟩ := hv 2 (by omega)
 by_cases hz : φ (v 0) = 0 /\ φ (v 1) = 0 /\ φ (v 2) = 0
 ·refine .inl ⟨hz, ?_⟩
  unfold finS
  rw [e6, Zny H hf h0 h1 h2 hz.1 hz.2.1 hz.2.2]
  rfl
 ·have hn : φ (v 0) ≠ 0 \/ φ (v 1) ≠ 0 \/ φ (v 2) ≠ 0 := by
   by_cases q0 : φ (v 0) = 0
   ·by_cases q1 : φ (v 1) = 0
    ·exact .inr (.inr fun q2 => hz ⟨q0, q1, q2⟩)
    ·exact .inr (.inl q1)
   ·exact .inl q0
  obtain ⟨u1, u2⟩ := Zan H hf (hv 0 (by omega)) (hv 1 (by omega)) (hv 2 (by omega)) (hv 3 (by omega)) (hv 4 (by omega)) (hv 5 (by omega)) hn
  refine .inr ⟨hn, _, ?_, u2⟩
  unfold finS
  rw [e6, u1]
  rfl
theorem ZxJ (H : Hom p K φ) (hf : Zo p = true) {pl : List Int} (hl : pl.length = 10) (hm : Rg p (m5 p pl)) {fu : Nat} (hfu : 20 <= fu) {F : Nat} : ∃ r, Z0e fu p 5 pl (F + 6) [] 0 = some r /\ OutC p φ ((List.range 5).map fun i c => φ (m5 p pl i c)) r := by
 have hp := Zx hf
 have hpb : prB p = true := Z9R hp
 rw [Zwy hpb hl]
 have ZoW : ∀ i, i < 5 -> Rk p (rowP p pl i) := fun i hi => ⟨rfl, fun c hc => by rw [Zr1 _ _ _ hc]; exact hm i c hi hc⟩
 have hD : ∀ r ∈ ZdV p pl, Rk p r := by
  intro r hr
  simp only [ZdV, List.mem_cons, List.not_mem_nil, or_false] at hr
  rcases hr with rfl | rfl | rfl | rfl | rfl <;> exact ZoW _ (by omega)
 obtain ⟨O, B, L, hok, hO, hrk, hI⟩ := Zua H hf (D := ZdV p pl) rfl hD
 have hk0 : ∀ x, KerL ((ZdV p pl).map (vec φ)) x ↔ KerL ((List.range 5).map fun i c => φ (m5 p pl i c)) x := by
  intro x
  have hd : ∀ i, i < 5 -> dot6 (vec φ (rowP p pl i)) x = dot6 (fun c => φ (m5 p pl i c)) x := fun i hi => Z8a x fun c hc => by
   show φ ((rowP p pl i).getD c 0) = _
   rw [Zr1 _ _ _ hc]
  have hall : (∀ i, i < 5 -> dot6 (vec φ (rowP p pl i)) x = 0) ↔ KerL ((ZdV p pl).map (vec φ)) x := by
   constructor
   ·intro q r hr
    simp only [ZdV, List.map_cons, List.map_nil, List.mem_cons, List.not_mem_nil, or_false] at hr
    rcases hr with rfl | rfl | rfl | rfl | rfl <;> exact q _ (by omega)
   ·intro q i hi
    have ci : i = 0 \/ i = 1 \/ i = 2 \/ i = 3 \/ i = 4 := by omega
    rcases ci with rfl | rfl | rfl | rfl | rfl <;> exact q _ (by simp [ZdV])
  rw [<- hall]
  constructor
  ·intro q r hr
   obtain ⟨i, hi, rfl⟩ := List.mem_map.1 hr
   have hi := List.mem_range.1 hi
   rw [<- hd i hi]; exact q i hi
  ·intro q i hi
   rw [hd i hi]
   exact q _ (List.mem_map.2 ⟨i, List.mem_range.2 hi, rfl⟩)
 obtain ⟨hR, hK⟩ := hI.red
 have Z5e : L.length = O.length := by rw [hI.len]; simp
 have hcnt := hI.cnt
 simp only [List.length_map] at hcnt
 rw [if_pos hok, hO]
 by_cases h5 : O.length = 5
 ·rw [if_neg (by rw [h5]; decide)]
  have hL5 : L.length = 5 := by omega
  have hLed : Led O L := by
   refine ⟨h5, hL5, hR.sub, hR.lt, fun r hr => (hrk r hr).1, fun j hj => ?_⟩
   have hjO : j < O.length := by omega
   have hjL : j < L.length := by omega
   have hr := hrk _ (Z3q hjO)
   have hgO : (O.map (vec φ))[j]? = some (vec φ (O.getD j [])) := by
    rw [List.getElem?_map, List.getD_eq_getElem?_getD, List.getElem?_eq_getElem hjO]; rfl
   have hgL : L[j]? = some (L.getD j 0) := by
    rw [List.getD_eq_getElem?_getD, List.getElem?_eq_getElem hjL]; rfl
   have hlt := hR.lt _ (List.mem_of_getElem? hgL)
   have hone : φ ((O.getD j []).getD (L.getD j 0) 0) = 1 := hI.one j _ _ hgO hgL
   rw [<- hr.1]
   refine (show (O.getD j []).length = 6 from hr.1) ▸ ZuQ hr.1 hlt (fun q hq => ?_) (fun e => ?_)
   ·have h0 : φ ((O.getD j []).getD q 0) = 0 := hI.lead j _ _ q hgO hgL hq
    exact (Vl.zero_iff H (Vl.of (φ := φ) (hr.2 q (by omega)))).2 h0
   ·rw [e, H.zero] at hone
    exact Lean.Grind.Field.zero_ne_one hone
  obtain ⟨f, hf6, hfL⟩ : ∃ f, f < 6 /\ f ∉ L := by
   obtain ⟨f, h1, h2⟩ := Zrb L hR.sub (by omega)
   exact ⟨f, List.mem_range.1 h1, h2⟩
  have e4 := fr4 (fu := fu) (pn := 5) (pl := pl) (i := ((5 : Nat) : Int)) (ZE := Z0e fu p 5 pl F) hfu hpb hO hLed hf6 hfL 6 0 fu 0 (by omega) (.inr (Nat.zero_le _)) (by omega)
  refine ⟨_, e4, _, _, hR, fun x => (hK x).trans (hk0 x), .inr ⟨hL5, f, fun c => φ (fvS p O L f 5 c), hf6, hfL, ⟨?_, ?_⟩, ZtJ H hf ?_⟩⟩
  ·show φ (fvS p O L f 5 f) = 1
   rw [Zqq (by omega) hfL]
   show φ (if f = f then 1 else 0) = 1
   rw [if_pos rfl, H.one]
  ·intro q r c hi hc
   have hqL : q < L.length := (List.getElem?_eq_some_iff.1 hc).1
   have hqO : q < O.length := by omega
   rw [List.getElem?_map, List.getElem?_eq_getElem hqO] at hi
   obtain rfl := Option.some.inj hi
   show φ (fvS p O L f 5 c) = - φ ((O[q]).getD f 0)
   rw [ZsH hR.inc hc (by omega) (by omega), Z03]
   have eg : O.getD q [] = O[q] := by rw [List.getD_eq_getElem?_getD, List.getElem?_eq_getElem hqO]; rfl
   rw [eg]
   exact (Vl.smod H hp (Rw.neg0 H (Vl.rw hp (Vl.of (φ := φ) ((hrk _ (List.getElem_mem hqO)).2 f hf6))) (by decide))).2
  ·intro c hc
   have hall : ∀ j, j <= 5 -> ∃ n, Rw φ (fvS p O L f j c) (φ (fvS p O L f j c)) n := by
    intro j
    induction j with
    | zero =>
     intro _
     show ∃ n, Rw φ (if c = f then 1 else 0) (φ (if c = f then 1 else 0)) n
     split
     ·exact ⟨1, Rw.lit 1 (by decide)⟩
     ·exact ⟨0, Rw.lit 0 (by decide)⟩
    | succ j ih =>
     intro hj
     show ∃ n, Rw φ (if c = L.getD j 0 then Z4 (wI (0 - (O.getD j []).getD f 0)) p else fvS p O L f j c) (φ (if c = L.getD j 0 then Z4 (wI (0 - (O.getD j []).getD f 0)) p else fvS p O L f j c)) n
     split
     ·rw [Z03]
      have hjO : j < O.length := by omega
      have := Vl.smod H hp (Rw.neg0 H (Vl.rw hp (Vl.of (φ := φ) ((hrk _ (Z3q hjO)).2 f hf6))) (by decide))
      exact ⟨30, Vl.rw hp ⟨this.1, rfl⟩⟩
     ·exact ih (by omega)
   exact hall 5 (Nat.le_refl _)
 ·rw [if_pos (by simp; omega)]
  exact ⟨_, rfl, _, _, hR, fun x => (hK x).trans (hk0 x), .inl ⟨by omega, rfl⟩⟩
end

end Go.Proofs.Ytfclaacaphpoaaa
