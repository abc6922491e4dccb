import Derived.Test.YtcdpfpfbilfpoaaGreatDoorLa
import Derived.Test.YtcdpfpfbilfpoaaGreatDoorProg
set_option linter.unusedSimpArgs false
set_option linter.unusedVariables false
namespace Go.Proofs.YtcdpfpfbilfpoaaGreatDoor
open Go.RowKit Tryz

def Z8f : Sums := ⟨tblS [(140, Zfq)], tblM [], false⟩
theorem Zu2 : Ze prog Z8f := ⟨Za ⟨⟨call140, Ztc⟩, ⟨⟩⟩, tM⟩
def ZrN (Z2 : Nat) (listl : List Int) (between : ByteArray) (t10 : Int) (out : ByteArray) : Tab := ⟨[.row 0, .val (.string between), jK, jK, .val (.string (bs [])), .val (.string out), jK, jK, .row 0, vI (((Z2 : Nat) : Int)), vI (t10), ] ++ (jN 14 ++ [jK]), [(0, .ros Z2 (.ints listl))]⟩
def Z4P (P : Program) (fu Z2 : Nat) (listl : List Int) (between : ByteArray) (f : Nat) (t10 : Int) (out : ByteArray) : Option (ByteArray) := Z1u (exec P Z8f 26 (fun _ => fu + 100) (Code.sub [1, 1, 0, 1, 0, 0] (ZS P 85))) f (ZrN Z2 listl between t10 out) (Z0g 0 (kSeq (fun zs9 => exec P Z8f 26 (fun _ => fu + 100) (Code.sub [1, 1, 1] (ZS P 85)) zs9 (finT P 85 Z2E)) (finT P 85 Z2E)))
def Z4N (Z2 : Nat) (listl : List Int) (between : ByteArray) (Z1F : Int -> ByteArray -> Option (ByteArray)) (t10 : Int) (out : ByteArray) : Option (ByteArray) :=
 (if (decide (t10 < ((Z2 : Nat) : Int))) = true then (if (decide (0 <= t10) && decide (t10 < ((Z2 : Nat) : Int))) = true then (if (Nat.ble (t10.toNat * 1 + 1) listl.length) = true then (if (decide (t10 > 0)) = true then (if (Nat.ble (out.size + between.size) 9223372036854775807) = true then (if (ZnV (listl.getD (t10.toNat * 1) 0) 10) = true then (if (Nat.ble ((out ++ between).size + (Z7S (listl.getD (t10.toNat * 1) 0) 10).size) 9223372036854775807) = true then Z1F (wI (t10 + 1)) ((out ++ between) ++ (Z7S (listl.getD (t10.toNat * 1) 0) 10)) else none) else none) else none) else (if (ZnV (listl.getD (t10.toNat * 1) 0) 10) = true then (if (Nat.ble (out.size + (Z7S (listl.getD (t10.toNat * 1) 0) 10).size) 9223372036854775807) = true then Z1F (wI (t10 + 1)) (out ++ (Z7S (listl.getD (t10.toNat * 1) 0) 10)) else none) else none)) else none) else none) else some out)
def Z2e (fu Z2 : Nat) (listl : List Int) (between : ByteArray) : Nat -> Int -> ByteArray -> Option (ByteArray)
 | 0, _, _ => none
 | f + 1, t10, out => Z4N Z2 listl between (Z2e fu Z2 listl between f) t10 out
theorem ZmX (fu Z2 : Nat) (listl : List Int) (between : ByteArray) : ∀ (f : Nat) (t10 : Int) (out : ByteArray), Z4P prog fu Z2 listl between f t10 out = Z2e fu Z2 listl between f t10 out := by
 intro f
 induction f with
 | zero => intros; rfl
 | succ f ih =>
  intro t10 out
  have h1 : Z4P prog fu Z2 listl between (f + 1) t10 out = Z4N Z2 listl between (Z4P prog fu Z2 listl between f) t10 out := by kernel_rfl
  have h2 : Z4P prog fu Z2 listl between f = Z2e fu Z2 listl between f := by funext t10 out; exact ih t10 out
  rw [h1, h2]
  rfl
def Zf4 (Z2 : Nat) (listl : List Int) (between : ByteArray) (lo0 : Int -> ByteArray -> Option (ByteArray)) : Option (ByteArray) :=
 lo0 0 (bs [])
def Zd2 (fu Z2 : Nat) (listl : List Int) (between : ByteArray) : Option (ByteArray) := Zf4 Z2 listl between (Z2e fu Z2 listl between (fu + 100))
theorem ZuH (fu Z2 : Nat) (listl : List Int) (between : ByteArray) : eF fu Z8f 85 26 Z2E [.s Z2 (.ints listl), .v (.string between)] = Zd2 fu Z2 listl between := by
 have h1 : eF fu Z8f 85 26 Z2E [.s Z2 (.ints listl), .v (.string between)] = Zf4 Z2 listl between (Z4P prog fu Z2 listl between (fu + 100)) := by kernel_rfl
 have c0 : Z4P prog fu Z2 listl between (fu + 100) = Z2e fu Z2 listl between (fu + 100) := by funext t10 out; exact ZmX fu Z2 listl between (fu + 100) t10 out
 rw [h1, c0]
 rfl
theorem Zv6 {Z2 : Nat} {listl : List Int} {between : ByteArray} (hp : (numB Z2 listl && Nat.ble between.size 10) = true) {F : Nat} (hF : Z2 < F) : Z2e 1000000 Z2 listl between F 0 (bs []) = some (bs (jn (toL between) ((List.range Z2).map fun q => toL ((fun q => Z7S (listl.getD (q * 1) 0) 10) q)))) := by
 have hp' := hp
 unfold numB at hp'
 simp only [Bool.and_eq_true] at hp'
 obtain ⟨⟨h1, h2, h3⟩, h4⟩ := hp'
 have hb : between.size <= 10 := Nat.le_of_ble_eq_true h4
 have hl := (Z7Y h1).1
 have hn : Z2 <= 100000 := Nat.le_of_ble_eq_true h3
 have hd : ∀ k, k < Z2 -> num1 (listl.getD (k * 1) 0) = true := fun k hk => Z7z h2 (by omega)
 have hi : ∀ k, k < Z2 -> (Z7S (listl.getD (k * 1) 0) 10).size <= 200 := fun k hk => Nat.le_trans (ZsS (Z7D (hd k hk))) (by decide)
 refine ZA3 (L := fun f out i => Z2e 1000000 Z2 listl between f i out) (item := (fun q => Z7S (listl.getD (q * 1) 0) 10)) (sep := between) (n := Z2) (M := 200) (by decide) hb hn hF hi (fun f out k hk hz => ?_) (fun f out => ?_)
 ·have hq := hi k hk
  show Z4N Z2 listl between (Z2e 1000000 Z2 listl between f) (k : Int) out = _
  unfold Z4N
  rw [if_pos (by simpa using hk), if_pos (ZgN hk), if_pos (by rw [Int.toNat_natCast]; exact Nat.ble_eq_true_of_le (by omega))]
  by_cases h0 : k = 0
  ·rw [if_neg (by simp; omega), Int.toNat_natCast, if_pos (ZJp (hd k hk)), if_pos (ZgB (by omega) (Nat.le_trans hq (by decide))), Z1O hk (by omega), if_pos h0]
  ·rw [if_pos (by simp; omega), if_pos (ZgB (by omega) (by have : (between).size <= 10 := hb; omega)), Int.toNat_natCast, if_pos (ZJp (hd k hk)), if_pos (ZgB (by rw [Z1a]; have : (between).size <= 10 := hb; omega) (Nat.le_trans hq (by decide))), Z1O hk (by omega), if_neg h0]
 ·show Z4N Z2 listl between (Z2e 1000000 Z2 listl between f) ((Z2 : Nat) : Int) out = _
  unfold Z4N
  rw [if_neg (by simp)]
def Z5t (Z2 : Nat) (listl : List Int) (between : ByteArray) : ByteArray := bs (jn (toL between) ((List.range Z2).map fun q => decL (listl.getD (q * 1) 0).toNat))
theorem Ztr (Z2 : Nat) (listl : List Int) (between : ByteArray) (hp : (numB Z2 listl && Nat.ble between.size 10) = true) : Zd2 1000000 Z2 listl between = some (Z5t Z2 listl between) := by
 have hn : Z2 <= 100000 := by
  unfold numB at hp
  simp only [Bool.and_eq_true] at hp
  exact Nat.le_of_ble_eq_true hp.1.2.2
 unfold Zd2 Zf4
 exact Zv6 hp (by omega)
def Z3x : RunP
 | [.s Z2 (.ints listl), .v (.string between)] => some (numB Z2 listl && Nat.ble between.size 10, Z9l (Z5t Z2 listl between))
 | _ => none
theorem Z5b : Sound prog 85 Z3x := by
 refine Zd Zkg Zu2 (by kernel_rfl) func85 ntmps85 rfl (by kernel_rfl) fun q r E => ?_
 unfold Z3x at E
 split at E
 ·obtain ⟨hp, rfl⟩ := so2 E
  rename_i Z2 listl between
  exact ⟨_, _, rfl, (ZuH _ Z2 listl between).trans (Ztr Z2 listl between hp)⟩
 ·cases E

def Zp2 : Sums := ⟨tblS [(85, Z3x)], tblM [], false⟩
theorem Zzt : Ze prog Zp2 := ⟨Za ⟨⟨call85, Z5b⟩, ⟨⟩⟩, tM⟩
def Zg9 (a : P2) : Option (ByteArray) :=
 (if (numB 2 [a.1, a.2] && Nat.ble (bs [44]).size 10) = true then some (Z5t 2 [a.1, a.2] (bs [44])) else none)
theorem ZAC (a : P2) : eT Zp2 55 5 Z2E [pA a] = Zg9 a := by
 kernel_rfl
def Z1D (a : P2) : ByteArray := bs (jn [44] [decL a.1.toNat, decL a.2.toNat])
theorem ZyH (a : P2) (hp : (num2 a) = true) : Zg9 a = some (Z1D a) := by
 unfold Zg9
 rw [if_pos (ZLQ hp)]
 rfl
def Z51 : RunP
 | [.v (.agg ⟨[.int .i64 a0, .int .i64 a1]⟩)] => some (num2 (a0, a1), Z9l (Z1D (a0, a1)))
 | _ => none
theorem Z6X : Sound prog 55 Z51 := by
 refine Zd Zkg Zzt (by kernel_rfl) func55 ntmps55 rfl (by kernel_rfl) fun q r E => ?_
 unfold Z51 at E
 split at E
 ·obtain ⟨hp, rfl⟩ := so2 E
  rename_i a0 a1
  exact ⟨_, _, rfl, (ZAC (a0, a1)).trans (ZyH (a0, a1) hp)⟩
 ·cases E

def Zru : Sums := ⟨tblS [(85, Z3x)], tblM [], false⟩
theorem ZCC : Ze prog Zru := ⟨Za ⟨⟨call85, Z5b⟩, ⟨⟩⟩, tM⟩
def Zi1 (l : P3) : Option (ByteArray) :=
 (if (numB 3 [l.1, l.2.1, l.2.2] && Nat.ble (bs [44]).size 10) = true then some (Z5t 3 [l.1, l.2.1, l.2.2] (bs [44])) else none)
theorem ZDe (l : P3) : eT Zru 127 5 Z2E [pB l] = Zi1 l := by
 kernel_rfl
def Zbh (l : P3) : ByteArray := bs (jn [44] [decL l.1.toNat, decL l.2.1.toNat, decL l.2.2.toNat])
theorem ZC3 (l : P3) (hp : (num3 l) = true) : Zi1 l = some (Zbh l) := by
 unfold Zi1
 rw [if_pos (ZLR hp)]
 rfl
def Zcq : RunP
 | [.v (.agg ⟨[.int .i64 l0, .int .i64 l1, .int .i64 l2]⟩)] => some (num3 (l0, l1, l2), Z9l (Zbh (l0, l1, l2)))
 | _ => none
theorem ZjB : Sound prog 127 Zcq := by
 refine Zd Zkg ZCC (by kernel_rfl) func127 ntmps127 rfl (by kernel_rfl) fun q r E => ?_
 unfold Zcq at E
 split at E
 ·obtain ⟨hp, rfl⟩ := so2 E
  rename_i l0 l1 l2
  exact ⟨_, _, rfl, (ZDe (l0, l1, l2)).trans (ZC3 (l0, l1, l2) hp)⟩
 ·cases E

def Zrv : Sums := ⟨tblS [(165, ZqA)], tblM [], false⟩
theorem ZCD : Ze prog Zrv := ⟨Za ⟨⟨call165, ZHf⟩, ⟨⟩⟩, tM⟩
def Zi2 (Z8R : Nat) (partsl : List ByteArray) : Option (ByteArray) :=
 (if (((Z8R : Nat) : Int) == 0) = true then some (bs [110, 111, 110, 101]) else (if (ZGT Z8R partsl (bs [32])) = true then some (ZOS Z8R partsl (bs [32])) else none))
theorem ZDf (Z8R : Nat) (partsl : List ByteArray) : eT Zrv 105 8 Z2E [.s Z8R (.strs partsl)] = Zi2 Z8R partsl := by
 kernel_rfl
def ZgM (Z8R : Nat) (partsl : List ByteArray) : ByteArray := bs (Z6d (partsl.map toL))
theorem ZC4 (Z8R : Nat) (partsl : List ByteArray) (hp : (txB Z8R partsl) = true) : Zi2 Z8R partsl = some (ZgM Z8R partsl) := by
 have h1 := hp
 unfold txB lenT at h1
 simp only [Bool.and_eq_true] at h1
 have hl : partsl.length = Z8R := Nat.eq_of_beq_eq_true h1.1
 unfold Zi2 ZgM
 cases partsl with
 | nil => rw [if_pos (by rw [<- hl]; rfl)]; rfl
 | cons x r =>
  rw [if_neg (by rw [<- hl]; simp; omega), if_pos (by unfold ZGT; rw [hp]; rfl)]
  rfl
def Zcr : RunP
 | [.s Z8R (.strs partsl)] => some (txB Z8R partsl, Z9l (ZgM Z8R partsl))
 | _ => none
theorem ZjC : Sound prog 105 Zcr := by
 refine Zd Zkg ZCD (by kernel_rfl) func105 ntmps105 rfl (by kernel_rfl) fun q r E => ?_
 unfold Zcr at E
 split at E
 ·obtain ⟨hp, rfl⟩ := so2 E
  rename_i Z8R partsl
  exact ⟨_, _, rfl, (ZDf Z8R partsl).trans (ZC4 Z8R partsl hp)⟩
 ·cases E

def Z9c : Sums := ⟨tblS [(55, Z51), (105, Zcr)], tblM [], false⟩
theorem Zx5 : Ze prog Z9c := ⟨Za ⟨⟨call55, Z6X⟩, ⟨call105, ZjC⟩, ⟨⟩⟩, tM⟩
def Zuj (Z2 : Nat) (listl : List Int) (l6 : List ByteArray) (m6 : Nat) (t9 : Int) : Tab := ⟨[.row 0, jK, .val (.string (bs [])), .row 24, jK, jK, jK, .row 0, vI (((Z2 : Nat) : Int)), vI (t9), ] ++ (jN 10 ++ [jK]), [(0, .ros Z2 (.ints listl)), (24, .row 9 1 m6 (.strs l6))]⟩
def Z5G (P : Program) (fu Z2 : Nat) (listl : List Int) (f : Nat) (l6 : List ByteArray) (m6 : Nat) (t9 : Int) : Option (ByteArray) := Z1u (exec P Z9c 21 (fun _ => fu + 100) (Code.sub [1, 1, 0, 1, 0, 0] (ZS P 56))) f (Zuj Z2 listl l6 m6 t9) (Z0g 0 (kSeq (fun zs9 => exec P Z9c 21 (fun _ => fu + 100) (Code.sub [1, 1, 1] (ZS P 56)) zs9 (finT P 56 Z2E)) (finT P 56 Z2E)))
def Z5y (Z2 : Nat) (listl : List Int) (Z1F : (List ByteArray) -> Nat -> Int -> Option (ByteArray)) (l6 : List ByteArray) (m6 : Nat) (t9 : Int) : Option (ByteArray) :=
 (if (decide (t9 < ((Z2 : Nat) : Int))) = true then (if (decide (0 <= t9) && decide (t9 < ((Z2 : Nat) : Int))) = true then (if (Nat.ble (t9.toNat * 2 + 2) listl.length) = true then (if (num2 (listl.getD (t9.toNat * 2 + 0) 0, listl.getD (t9.toNat * 2 + 1) 0)) = true then (if (Nat.ble 0 1 && Nat.ble (m6 + 1) 2000000 && Nat.beq 1 (1)) = true then Z1F (l6 ++ [(Z1D (listl.getD (t9.toNat * 2 + 0) 0, listl.getD (t9.toNat * 2 + 1) 0))]) (m6 + 1) (wI (t9 + 1)) else none) else none) else none) else none) else (if (txB m6 l6) = true then some (ZgM m6 l6) else none))
def Z36 (fu Z2 : Nat) (listl : List Int) : Nat -> (List ByteArray) -> Nat -> Int -> Option (ByteArray)
 | 0, _, _, _ => none
 | f + 1, l6, m6, t9 => Z5y Z2 listl (Z36 fu Z2 listl f) l6 m6 t9
theorem Zoj (fu Z2 : Nat) (listl : List Int) : ∀ (f : Nat) (l6 : List ByteArray) (m6 : Nat) (t9 : Int), Z5G prog fu Z2 listl f l6 m6 t9 = Z36 fu Z2 listl f l6 m6 t9 := by
 intro f
 induction f with
 | zero => intros; rfl
 | succ f ih =>
  intro l6 m6 t9
  have h1 : Z5G prog fu Z2 listl (f + 1) l6 m6 t9 = Z5y Z2 listl (Z5G prog fu Z2 listl f) l6 m6 t9 := by kernel_rfl
  have h2 : Z5G prog fu Z2 listl f = Z36 fu Z2 listl f := by funext l6 m6 t9; exact ih l6 m6 t9
  rw [h1, h2]
  rfl
def Zgl (Z2 : Nat) (listl : List Int) (lo0 : (List ByteArray) -> Nat -> Int -> Option (ByteArray)) : Option (ByteArray) :=
 lo0 [] 0 0
def ZeQ (fu Z2 : Nat) (listl : List Int) : Option (ByteArray) := Zgl Z2 listl (Z36 fu Z2 listl (fu + 100))
theorem ZxJ (fu Z2 : Nat) (listl : List Int) : eF fu Z9c 56 21 Z2E [.s Z2 (.ints listl)] = ZeQ fu Z2 listl := by
 have h1 : eF fu Z9c 56 21 Z2E [.s Z2 (.ints listl)] = Zgl Z2 listl (Z5G prog fu Z2 listl (fu + 100)) := by kernel_rfl
 have c0 : Z5G prog fu Z2 listl (fu + 100) = Z36 fu Z2 listl (fu + 100) := by funext l6 m6 t9; exact Zoj fu Z2 listl (fu + 100) l6 m6 t9
 rw [h1, c0]
 rfl
theorem ZgC {Z2 : Nat} {listl : List Int} (hp : ptsB Z2 listl = true) : listl.length = 2 * Z2 /\ Z2 <= 100000 /\ ∀ k, k < Z2 -> num2 (listl.getD (k * 2 + 0) 0, listl.getD (k * 2 + 1) 0) = true := by
 unfold ptsB at hp
 simp only [Bool.and_eq_true] at hp
 obtain ⟨h1, h2, h3⟩ := hp
 have hl := (Z7Y h1).1
 have hn := Nat.le_of_ble_eq_true h3
 exact ⟨hl, by omega, fun k hk => Zkr (Z7z h2 (by omega)) (Z7z h2 (by omega))⟩
def Z9X (Z2 : Nat) (listl : List Int) : ByteArray := bs (Z6d ((List.range Z2).map fun q => toL (Z1D (listl.getD (q * 2 + 0) 0, listl.getD (q * 2 + 1) 0))))
theorem Zy9 {Z2 : Nat} {listl : List Int} (hp : ptsB Z2 listl = true) {F : Nat} (hF : Z2 < F) : Z36 1000000 Z2 listl F [] 0 0 = some (Z9X Z2 listl) := by
 obtain ⟨hl, hn, hd⟩ := ZgC hp
 refine Zjc (item := fun q => Z1D (listl.getD (q * 2 + 0) 0, listl.getD (q * 2 + 1) 0)) (n := Z2) hF (fun f r k hk hr => ?_) (fun f => ?_)
 ·show Z5y Z2 listl (Z36 1000000 Z2 listl f) r k (k : Int) = _
  unfold Z5y
  rw [if_pos (by simpa using hk), if_pos (ZgN hk), if_pos (by rw [Int.toNat_natCast]; exact Nat.ble_eq_true_of_le (by omega)), Int.toNat_natCast, if_pos (hd k hk), if_pos (ZpL (by omega)), Z1O hk (by omega)]
 ·show Z5y Z2 listl (Z36 1000000 Z2 listl f) _ _ ((Z2 : Nat) : Int) = _
  unfold Z5y
  rw [if_neg (by simp), if_pos (ZJG (item := fun q => Z1D (listl.getD (q * 2 + 0) 0, listl.getD (q * 2 + 1) 0)) (by omega) fun q hq => Nat.le_trans (Zdv (hd q hq)) (by decide))]
  show some (bs (Z6d _)) = some (bs (Z6d _))
  rw [List.map_map]
  rfl
theorem ZvS (Z2 : Nat) (listl : List Int) (hp : (ptsB Z2 listl) = true) : ZeQ 1000000 Z2 listl = some (Z9X Z2 listl) := by
 obtain ⟨_, hn, _⟩ := ZgC hp
 unfold ZeQ Zgl
 exact Zy9 hp (by omega)
def Z7G : RunP
 | [.s Z2 (.ints listl)] => some (ptsB Z2 listl, Z9l (Z9X Z2 listl))
 | _ => none
theorem Zbt : Sound prog 56 Z7G := by
 refine Zd Zkg Zx5 (by kernel_rfl) func56 ntmps56 rfl (by kernel_rfl) fun q r E => ?_
 unfold Z7G at E
 split at E
 ·obtain ⟨hp, rfl⟩ := so2 E
  rename_i Z2 listl
  exact ⟨_, _, rfl, (ZxJ _ Z2 listl).trans (ZvS Z2 listl hp)⟩
 ·cases E

def Zaz : Sums := ⟨tblS [(127, Zcq), (105, Zcr)], tblM [], false⟩
theorem Zzp : Ze prog Zaz := ⟨Za ⟨⟨call127, ZjB⟩, ⟨call105, ZjC⟩, ⟨⟩⟩, tM⟩
def Zxp (Z2 : Nat) (listl : List Int) (l6 : List ByteArray) (m6 : Nat) (t9 : Int) : Tab := ⟨[.row 0, jK, .val (.string (bs [])), .row 24, jK, jK, jK, .row 0, vI (((Z2 : Nat) : Int)), vI (t9), ] ++ (jN 10 ++ [jK]), [(0, .ros Z2 (.ints listl)), (24, .row 9 1 m6 (.strs l6))]⟩
def Z6q (P : Program) (fu Z2 : Nat) (listl : List Int) (f : Nat) (l6 : List ByteArray) (m6 : Nat) (t9 : Int) : Option (ByteArray) := Z1u (exec P Zaz 21 (fun _ => fu + 100) (Code.sub [1, 1, 0, 1, 0, 0] (ZS P 130))) f (Zxp Z2 listl l6 m6 t9) (Z0g 0 (kSeq (fun zs9 => exec P Zaz 21 (fun _ => fu + 100) (Code.sub [1, 1, 1] (ZS P 130)) zs9 (finT P 130 Z2E)) (finT P 130 Z2E)))
def Z6h (Z2 : Nat) (listl : List Int) (Z1F : (List ByteArray) -> Nat -> Int -> Option (ByteArray)) (l6 : List ByteArray) (m6 : Nat) (t9 : Int) : Option (ByteArray) :=
 (if (decide (t9 < ((Z2 : Nat) : Int))) = true then (if (decide (0 <= t9) && decide (t9 < ((Z2 : Nat) : Int))) = true then (if (Nat.ble (t9.toNat * 3 + 3) listl.length) = true then (if (num3 (listl.getD (t9.toNat * 3 + 0) 0, listl.getD (t9.toNat * 3 + 1) 0, listl.getD (t9.toNat * 3 + 2) 0)) = true then (if (Nat.ble 0 1 && Nat.ble (m6 + 1) 2000000 && Nat.beq 1 (1)) = true then Z1F (l6 ++ [(Zbh (listl.getD (t9.toNat * 3 + 0) 0, listl.getD (t9.toNat * 3 + 1) 0, listl.getD (t9.toNat * 3 + 2) 0))]) (m6 + 1) (wI (t9 + 1)) else none) else none) else none) else none) else (if (txB m6 l6) = true then some (ZgM m6 l6) else none))
def Z3M (fu Z2 : Nat) (listl : List Int) : Nat -> (List ByteArray) -> Nat -> Int -> Option (ByteArray)
 | 0, _, _, _ => none
 | f + 1, l6, m6, t9 => Z6h Z2 listl (Z3M fu Z2 listl f) l6 m6 t9
theorem Zqj (fu Z2 : Nat) (listl : List Int) : ∀ (f : Nat) (l6 : List ByteArray) (m6 : Nat) (t9 : Int), Z6q prog fu Z2 listl f l6 m6 t9 = Z3M fu Z2 listl f l6 m6 t9 := by
 intro f
 induction f with
 | zero => intros; rfl
 | succ f ih =>
  intro l6 m6 t9
  have h1 : Z6q prog fu Z2 listl (f + 1) l6 m6 t9 = Z6h Z2 listl (Z6q prog fu Z2 listl f) l6 m6 t9 := by kernel_rfl
  have h2 : Z6q prog fu Z2 listl f = Z3M fu Z2 listl f := by funext l6 m6 t9; exact ih l6 m6 t9
  rw [h1, h2]
  rfl
def Ziq (Z2 : Nat) (listl : List Int) (lo0 : (List ByteArray) -> Nat -> Int -> Option (ByteArray)) : Option (ByteArray) :=
 lo0 [] 0 0
def Zg7 (fu Z2 : Nat) (listl : List Int) : Option (ByteArray) := Ziq Z2 listl (Z3M fu Z2 listl (fu + 100))
theorem ZAy (fu Z2 : Nat) (listl : List Int) : eF fu Zaz 130 21 Z2E [.s Z2 (.ints listl)] = Zg7 fu Z2 listl := by
 have h1 : eF fu Zaz 130 21 Z2E [.s Z2 (.ints listl)] = Ziq Z2 listl (Z6q prog fu Z2 listl (fu + 100)) := by kernel_rfl
 have c0 : Z6q prog fu Z2 listl (fu + 100) = Z3M fu Z2 listl (fu + 100) := by funext l6 m6 t9; exact Zqj fu Z2 listl (fu + 100) l6 m6 t9
 rw [h1, c0]
 rfl
theorem ZhD {Z2 : Nat} {listl : List Int} (hp : lnsB Z2 listl = true) : listl.length = 3 * Z2 /\ Z2 <= 100000 /\ ∀ k, k < Z2 -> num3 (listl.getD (k * 3 + 0) 0, listl.getD (k * 3 + 1) 0, listl.getD (k * 3 + 2) 0) = true := by
 unfold lnsB at hp
 simp only [Bool.and_eq_true] at hp
 obtain ⟨h1, h2, h3⟩ := hp
 have hl := (Z7Y h1).1
 have hn := Nat.le_of_ble_eq_true h3
 exact ⟨hl, by omega, fun k hk => ZnP (Z7z h2 (by omega)) (Z7z h2 (by omega)) (Z7z h2 (by omega))⟩
def ZhL (Z2 : Nat) (listl : List Int) : ByteArray := bs (Z6d ((List.range Z2).map fun q => toL (Zbh (listl.getD (q * 3 + 0) 0, listl.getD (q * 3 + 1) 0, listl.getD (q * 3 + 2) 0))))
theorem ZBh {Z2 : Nat} {listl : List Int} (hp : lnsB Z2 listl = true) {F : Nat} (hF : Z2 < F) : Z3M 1000000 Z2 listl F [] 0 0 = some (ZhL Z2 listl) := by
 obtain ⟨hl, hn, hd⟩ := ZhD hp
 refine Zjc (item := fun q => Zbh (listl.getD (q * 3 + 0) 0, listl.getD (q * 3 + 1) 0, listl.getD (q * 3 + 2) 0)) (n := Z2) hF (fun f r k hk hr => ?_) (fun f => ?_)
 ·show Z6h Z2 listl (Z3M 1000000 Z2 listl f) r k (k : Int) = _
  unfold Z6h
  rw [if_pos (by simpa using hk), if_pos (ZgN hk), if_pos (by rw [Int.toNat_natCast]; exact Nat.ble_eq_true_of_le (by omega)), Int.toNat_natCast, if_pos (hd k hk), if_pos (ZpL (by omega)), Z1O hk (by omega)]
 ·show Z6h Z2 listl (Z3M 1000000 Z2 listl f) _ _ ((Z2 : Nat) : Int) = _
  unfold Z6h
  rw [if_neg (by simp), if_pos (ZJG (item := fun q => Zbh (listl.getD (q * 3 + 0) 0, listl.getD (q * 3 + 1) 0, listl.getD (q * 3 + 2) 0)) (by omega) fun q hq => Nat.le_trans (ZnM (hd q hq)) (by decide))]
  show some (bs (Z6d _)) = some (bs (Z6d _))
  rw [List.map_map]
  rfl
theorem ZyD (Z2 : Nat) (listl : List Int) (hp : (lnsB Z2 listl) = true) : Zg7 1000000 Z2 listl = some (ZhL Z2 listl) := by
 obtain ⟨_, hn, _⟩ := ZhD hp
 unfold Zg7 Ziq
 exact ZBh hp (by omega)
def Zfg : RunP
 | [.s Z2 (.ints listl)] => some (lnsB Z2 listl, Z9l (ZhL Z2 listl))
 | _ => none
theorem Zt0 : Sound prog 130 Zfg := by
 refine Zd Zkg Zzp (by kernel_rfl) func130 ntmps130 rfl (by kernel_rfl) fun q r E => ?_
 unfold Zfg at E
 split at E
 ·obtain ⟨hp, rfl⟩ := so2 E
  rename_i Z2 listl
  exact ⟨_, _, rfl, (ZAy _ Z2 listl).trans (ZyD Z2 listl hp)⟩
 ·cases E

def Zrw : Sums := ⟨tblS [(85, Z3x)], tblM [], false⟩
theorem ZCE : Ze prog Zrw := ⟨Za ⟨⟨call85, Z5b⟩, ⟨⟩⟩, tM⟩
def Zi3 (Z2 : Nat) (listl : List Int) : Option (ByteArray) :=
 (if (((Z2 : Nat) : Int) == 0) = true then some (bs [110, 111, 110, 101]) else (if (numB Z2 listl && Nat.ble (bs [32]).size 10) = true then some (Z5t Z2 listl (bs [32])) else none))
theorem ZDg (Z2 : Nat) (listl : List Int) : eT Zrw 69 8 Z2E [.s Z2 (.ints listl)] = Zi3 Z2 listl := by
 kernel_rfl
def Zdt (Z2 : Nat) (listl : List Int) : ByteArray := bs (Z6d ((List.range Z2).map fun q => decL (listl.getD (q * 1) 0).toNat))
theorem ZC5 (Z2 : Nat) (listl : List Int) (hp : (numB Z2 listl) = true) : Zi3 Z2 listl = some (Zdt Z2 listl) := by
 unfold Zi3 Zdt
 cases Z2 with
 | zero => rw [if_pos (show (((0 : Nat) : Int) == 0) = true from rfl)]; rfl
 | succ n =>
  rw [if_neg (by simp; omega), if_pos (by rw [hp]; rfl)]
  unfold Z5t Z6d
  rw [List.range_succ_eq_map, List.map_cons]
  rfl
def Zcs : RunP
 | [.s Z2 (.ints listl)] => some (numB Z2 listl, Z9l (Zdt Z2 listl))
 | _ => none
theorem ZjD : Sound prog 69 Zcs := by
 refine Zd Zkg ZCE (by kernel_rfl) func69 ntmps69 rfl (by kernel_rfl) fun q r E => ?_
 unfold Zcs at E
 split at E
 ·obtain ⟨hp, rfl⟩ := so2 E
  rename_i Z2 listl
  exact ⟨_, _, rfl, (ZDg Z2 listl).trans (ZC5 Z2 listl hp)⟩
 ·cases E

end Go.Proofs.YtcdpfpfbilfpoaaGreatDoor
