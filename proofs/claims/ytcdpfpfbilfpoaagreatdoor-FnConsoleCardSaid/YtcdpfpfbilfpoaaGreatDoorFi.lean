import Derived.Test.YtcdpfpfbilfpoaaGreatDoorFa
import Derived.Test.YtcdpfpfbilfpoaaGreatDoorProg
set_option linter.unusedSimpArgs false
set_option linter.unusedVariables false
namespace Go.Proofs.YtcdpfpfbilfpoaaGreatDoor
open Go.RowKit Tryz
noncomputable section
def ZL7 : Sums := ⟨tblS [], tblM [], false⟩
theorem ZNl : Ze prog ZL7 := ⟨Za ⟨⟩, tM⟩
def Zzg (Z3 : Nat) (Z4 : List Int) : Option (Bool) :=
 some (decide (((Z3 : Nat) : Int) > 4096))
theorem ZNT (Z3 : Nat) (Z4 : List Int) : eT ZL7 12 6 Z1M [.s Z3 (.byts Z4)] = Zzg Z3 Z4 := by
 kernel_rfl
def Zsn (Z3 : Nat) (Z4 : List Int) : Bool :=
 decide (((Z3 : Nat) : Int) > 4096)
theorem ZNc (Z3 : Nat) (Z4 : List Int) : Zzg Z3 Z4 = some (Zsn Z3 Z4) := by
 unfold Zzg Zsn
 (try simp only [Zz])
 repeat' (first | with_reducible rfl | refine Zm (fun _ => ?_) (fun _ => ?_) | rfl)
def Zvr : RunP
 | [.s Z3 (.byts Z4)] => some (true, Z4k (Zsn Z3 Z4))
 | _ => none
theorem ZJq : Sound prog 12 Zvr := by
 refine Zd Z9i ZNl (by kernel_rfl) func12 ntmps12 rfl (by kernel_rfl) fun q r E => ?_
 unfold Zvr at E
 split at E
 ·obtain ⟨hp, rfl⟩ := so2 E
  rename_i Z3 Z4
  exact ⟨_, _, rfl, (ZNT Z3 Z4).trans (ZNc Z3 Z4)⟩
 ·cases E

def ZEu : Sums := ⟨tblS [], tblM [], false⟩
theorem ZJN : Ze prog ZEu := ⟨Za ⟨⟩, tM⟩
def Zpq (a b : D8i) : Option (Bool) :=
 some (a == b)
theorem ZK9 (a b : D8i) : eT ZEu 16 8 Z1M [.v (.agg ⟨[.int .i64 a.1, .int .i64 a.2.1, .int .i64 a.2.2.1, .int .i64 a.2.2.2.1, .int .i64 a.2.2.2.2.1, .int .i64 a.2.2.2.2.2.1, .int .i64 a.2.2.2.2.2.2.1, .int .i64 a.2.2.2.2.2.2.2]⟩), .v (.agg ⟨[.int .i64 b.1, .int .i64 b.2.1, .int .i64 b.2.2.1, .int .i64 b.2.2.2.1, .int .i64 b.2.2.2.2.1, .int .i64 b.2.2.2.2.2.1, .int .i64 b.2.2.2.2.2.2.1, .int .i64 b.2.2.2.2.2.2.2]⟩)] = Zpq a b := by
 kernel_rfl
def ZfM (a b : D8i) : Bool :=
 a == b
theorem ZJB (a b : D8i) : Zpq a b = some (ZfM a b) := by
 unfold Zpq ZfM
 (try simp only [Zz])
 repeat' (first | with_reducible rfl | refine Zm (fun _ => ?_) (fun _ => ?_) | rfl)
def Znd : RunP
 | [.v (.agg ⟨[.int .i64 a0, .int .i64 a1, .int .i64 a2, .int .i64 a3, .int .i64 a4, .int .i64 a5, .int .i64 a6, .int .i64 a7]⟩), .v (.agg ⟨[.int .i64 b0, .int .i64 b1, .int .i64 b2, .int .i64 b3, .int .i64 b4, .int .i64 b5, .int .i64 b6, .int .i64 b7]⟩)] => some (true, Z4k (ZfM (a0, a1, a2, a3, a4, a5, a6, a7) (b0, b1, b2, b3, b4, b5, b6, b7)))
 | _ => none
theorem ZDS : Sound prog 16 Znd := by
 refine Zd Z9i ZJN (by kernel_rfl) func16 ntmps16 rfl (by kernel_rfl) fun q r E => ?_
 unfold Znd at E
 split at E
 ·obtain ⟨hp, rfl⟩ := so2 E
  rename_i a0 a1 a2 a3 a4 a5 a6 a7 b0 b1 b2 b3 b4 b5 b6 b7
  exact ⟨_, _, rfl, (ZK9 (a0, a1, a2, a3, a4, a5, a6, a7) (b0, b1, b2, b3, b4, b5, b6, b7)).trans (ZJB (a0, a1, a2, a3, a4, a5, a6, a7) (b0, b1, b2, b3, b4, b5, b6, b7))⟩
 ·cases E

def Zws : Sums := ⟨tblS [], tblM [], false⟩
theorem ZFI : Ze prog Zws := ⟨Za ⟨⟩, tM⟩
def ZjX (sn : Nat) (sl : List Int) (ss : P2) (n_ : Int) : Option (Int × STy) :=
 (if (decide (n_ < 1)) = true then some (0, sn, sl, ss) else (if (decide (ss.1 < ((sn : Nat) : Int))) = true then (if (decide (0 <= ss.1) && decide (ss.1 < ((sn : Nat) : Int))) = true then (if (Nat.ble (ss.1.toNat * 1 + 1) sl.length) = true then (if (!(n_ == 0)) = true then some ((wI ((wI (andI .u64 (shrI (IntKind.u64.wrap ((IntKind.u64.wrap (ss.2 * 6364136223846793005)) + 1442695040888963407)) 33) 16777215)) + (wI (sl.getD (ss.1.toNat * 1) 0)))).tmod n_, sn, sl, wI (ss.1 + 1), IntKind.u64.wrap ((IntKind.u64.wrap (ss.2 * 6364136223846793005)) + 1442695040888963407)) else none) else none) else none) else (if (!(n_ == 0)) = true then some ((wI (andI .u64 (shrI (IntKind.u64.wrap ((IntKind.u64.wrap (ss.2 * 6364136223846793005)) + 1442695040888963407)) 33) 16777215)).tmod n_, sn, sl, ss.1, IntKind.u64.wrap ((IntKind.u64.wrap (ss.2 * 6364136223846793005)) + 1442695040888963407)) else none)))
theorem ZGx (sn : Nat) (sl : List Int) (ss : P2) (n_ : Int) : ZcR prog Zws 28 58 (fun _ => 1000000) Zdn 77 [.s sn (.byts sl), .v (.int .i64 ss.1), .v (.int .u64 ss.2)] [.v (.int .i64 n_)] = ZjX sn sl ss n_ := by
 kernel_rfl
def Zey (sn : Nat) (sl : List Int) (ss : P2) (n_ : Int) : Int × STy :=
 (if (decide (n_ < 1)) = true then (0, sn, sl, ss) else (if (decide (ss.1 < ((sn : Nat) : Int))) = true then ((wrap64 ((wrap64 (andI .u64 (shrI (IntKind.u64.wrap ((IntKind.u64.wrap (ss.2 * 6364136223846793005)) + 1442695040888963407)) 33) 16777215)) + (wrap64 (sl.getD (ss.1.toNat * 1) 0)))).tmod n_, sn, sl, wrap64 (ss.1 + 1), IntKind.u64.wrap ((IntKind.u64.wrap (ss.2 * 6364136223846793005)) + 1442695040888963407)) else ((wrap64 (andI .u64 (shrI (IntKind.u64.wrap ((IntKind.u64.wrap (ss.2 * 6364136223846793005)) + 1442695040888963407)) 33) 16777215)).tmod n_, sn, sl, ss.1, IntKind.u64.wrap ((IntKind.u64.wrap (ss.2 * 6364136223846793005)) + 1442695040888963407))))
def Z8 : (Nat) -> (List Int) -> P2 -> (Int) -> (Int × STy) := shut Zey
theorem ZkH (sn : Nat) (sl : List Int) (ss : P2) (n_ : Int) : Z8 sn sl ss n_ = Zey sn sl ss n_ := by
 unfold Z8
 rw [Zu]
theorem ZEh (sn : Nat) (sl : List Int) (ss : P2) (n_ : Int) (hp : (srcB sn sl ss) = true) : ZjX sn sl ss n_ = some (Z8 sn sl ss n_) := by
 have hs := hp
 have hc := (Z69 hs).1
 obtain ⟨hl, hb, _⟩ := ZrU hc
 have ha := (Z69 hs).2
 rw [ZkH]
 unfold ZjX Zey
 (try simp only [Zz])
 refine Zm (fun _ => rfl) (fun hn => ?_)
 have hn : (!(n_ == 0)) = true := by
  have : ¬ n_ < 1 := by simpa using hn
  have : n_ ≠ 0 := by omega
  simpa using this
 refine Zm (fun hk => ?_) (fun _ => Zv hn rfl)
 have hk := of_decide_eq_true hk
 exact Zv (Zaj ⟨ha, hk⟩) (Zv (Z7U (by omega)) (Zv hn rfl))
theorem Zh (sn : Nat) (sl : List Int) (ss : P2) (n_ : Int) (hs : srcB sn sl ss = true) : srcB sn sl (Z8 sn sl ss n_).2.2.2 = true := by
 have hc := (Z69 hs).1
 have ha := (Z69 hs).2
 obtain ⟨hl, hb, _⟩ := ZrU hc
 rw [ZkH]
 unfold Zey
 refine ZhN (P := fun r : Int × STy => srcB sn sl r.2.2.2 = true) hs ?_
 by_cases hk : ss.1 < (sn : Int)
 ·rw [if_pos (decide_eq_true hk)]
  refine ZHg hc ?_
  show 0 <= wrap64 (ss.1 + 1)
  unfold wrap64
  omega
 ·rw [if_neg (by simp [hk])]
  exact ZHg hc ha
theorem Z0Y (sn : Nat) (sl : List Int) (ss : P2) (n : Int) (hs : srcB sn sl ss = true) (hn : 1 <= n) : 0 <= (Z8 sn sl ss n).1 /\ (Z8 sn sl ss n).1 < n := by
 have hc := (Z69 hs).1
 have ha := (Z69 hs).2
 obtain ⟨hl, _, hb⟩ := ZrU hc
 rw [ZkH]
 unfold Zey
 rw [if_neg (by simp; omega)]
 generalize (IntKind.u64.wrap ((IntKind.u64.wrap (ss.2 * 6364136223846793005)) + 1442695040888963407)) = w
 have hr := ZNp (shrI w 33)
 generalize andI .u64 (shrI w 33) 16777215 = z at hr ⊢
 have key : ∀ x : Int, 0 <= x -> 0 <= x.tmod n /\ x.tmod n < n := fun x hx => by
  rw [Int.tmod_eq_emod_of_nonneg hx]
  exact ⟨Int.emod_nonneg _ (by omega), Int.emod_lt_of_pos _ (by omega)⟩
 refine ZhN (P := fun r : Int × STy => 0 <= r.1 /\ r.1 < n) ?_ ?_
 ·refine key _ ?_
  have h2 : 0 <= sl.getD (ss.1.toNat * 1) 0 /\ sl.getD (ss.1.toNat * 1) 0 < 256 := by
   by_cases hk : ss.1.toNat * 1 < sl.length
   ·exact hb _ (ZIE hk)
   ·rw [List.getD_eq_getElem?_getD, List.getElem?_eq_none (by omega)]
    decide
  generalize sl.getD (ss.1.toNat * 1) 0 = y at h2 ⊢
  unfold wrap64
  omega
 ·refine key _ ?_
  unfold wrap64
  omega
theorem Zcg (sn : Nat) (sl : List Int) (ss : P2) (n : Int) {w c m : Nat} (hs : srcB sn sl ss = true) (hn : 1 <= n) (hm : (n.toNat - 1) * w + c <= m) : (Z8 sn sl ss n).1.toNat * w + c <= m := by
 obtain ⟨h0, h1⟩ := Z0Y sn sl ss n hs hn
 have : (Z8 sn sl ss n).1.toNat <= n.toNat - 1 := by omega
 have := Nat.mul_le_mul_right w this
 omega
theorem Zg0 (sn : Nat) (sl : List Int) (ss : P2) (n : Int) {w c m b : Nat} (hs : srcB sn sl ss = true) (hn : 1 <= n) (hm : b + (n.toNat - 1) * w + c <= m) : b + (Z8 sn sl ss n).1.toNat * w + c <= m := by
 have := Zcg sn sl ss n (w := w) (c := b + c) (m := m) hs hn (by omega)
 omega
theorem ZnS {n : Nat} (h : decide (((n : Nat) : Int) > 0) = true) : (1 : Int) <= ((n : Nat) : Int) := by
 have := of_decide_eq_true h
 omega
theorem ZsI {n : Nat} (h : decide (((n : Nat) : Int) > 0) = true) : (decide ((0 : Int) <= 0) && decide ((0 : Int) < ((n : Nat) : Int))) = true := by
 have := of_decide_eq_true h
 simp
 omega
theorem Zn6 {n w : Nat} {l : List Int} (h : decide (((n : Nat) : Int) > 0) = true) (hl : l.length = w * n) : Nat.ble w l.length = true := by
 have := of_decide_eq_true h
 refine Z7U ?_
 rw [hl]
 exact Nat.le_mul_of_pos_right w (by omega)
theorem Zji {sn : Nat} {sl : List Int} {ss : P2} {n w : Nat} {l : List Int} (hs : srcB sn sl ss = true) (h : decide (((n : Nat) : Int) > 0) = true) (hl : l.length = w * n) : Nat.ble ((Z8 sn sl ss ((n : Nat) : Int)).1.toNat * w + w) l.length = true := by
 have h1 := ZnS h
 refine Z7U (Zcg sn sl ss _ hs h1 ?_)
 rw [hl, Int.toNat_natCast]
 obtain ⟨m, rfl⟩ : ∃ m, n = m + 1 := ⟨n - 1, by omega⟩
 rw [Nat.add_sub_cancel, Nat.mul_add, Nat.mul_one, Nat.mul_comm w m]
 exact Nat.le_refl _
def Z25 : PRun
 | 77, [.s sn (.byts sl), .v (.int .i64 s_1), .v (.int .u64 s_2)], [.v (.int .i64 n_)] => some (srcB sn sl (s_1, s_2), ZfW (Z8 sn sl (s_1, s_2) n_))
 | _, _, _ => none
theorem Z22 : Zag prog 28 Z25 := by
 refine Z5U ZmC ZFI (by kernel_rfl) func28 ntmps28 rfl (by kernel_rfl) ?_
 intro e bcs pvs rs bcs' hrun
 unfold Z25 at hrun
 split at hrun
 ·simp only [Option.some.injEq, Prod.mk.injEq] at hrun
  obtain ⟨hp, hrun⟩ := hrun
  rename_i sn sl s_1 s_2 n_
  exact ⟨_, Z8 sn sl (s_1, s_2) n_, by first | exact hrun.symm | exact (Prod.ext hrun.1 hrun.2).symm, (ZGx sn sl (s_1, s_2) n_).trans (ZEh sn sl (s_1, s_2) n_ hp)⟩
 ·cases hrun

abbrev Zkk (sn : Nat) (sl : List Int) (ss : P2) (Z2 : Nat) (listl : List Int) : Int × STy := (Z8 sn sl ss ((Z2 : Nat) : Int))
def Zwt : Sums := ⟨tblS [], tblM [(28, .box Z25)], false⟩
theorem ZFJ : Ze prog Zwt := ⟨Za ⟨⟩, Z6a ⟨⟨call28, Z22⟩, ⟨⟩⟩⟩
def ZjY (sn : Nat) (sl : List Int) (ss : P2) (Z2 : Nat) (listl : List Int) : Option (Int × STy) :=
 (if (srcB sn sl ss) = true then (if (decide (0 <= (Zkk sn sl ss Z2 listl).1) && decide ((Zkk sn sl ss Z2 listl).1 < ((Z2 : Nat) : Int))) = true then (if (Nat.ble ((((Zkk sn sl ss Z2 listl).1).toNat) * 1 + 1) listl.length) = true then some (listl.getD ((((Zkk sn sl ss Z2 listl).1).toNat) * 1) 0, sn, sl, (Zkk sn sl ss Z2 listl).2.2.2) else none) else none) else none)
theorem ZGy (sn : Nat) (sl : List Int) (ss : P2) (Z2 : Nat) (listl : List Int) : ZcR prog Zwt 100 12 (fun _ => 1000000) Zdn 77 [.s sn (.byts sl), .v (.int .i64 ss.1), .v (.int .u64 ss.2)] [.s Z2 (.ints listl)] = ZjY sn sl ss Z2 listl := by
 kernel_rfl
def Zez (sn : Nat) (sl : List Int) (ss : P2) (Z2 : Nat) (listl : List Int) : Int × STy :=
 (listl.getD ((((Zkk sn sl ss Z2 listl).1).toNat) * 1) 0, sn, sl, (Zkk sn sl ss Z2 listl).2.2.2)
def Z7K : (Nat) -> (List Int) -> P2 -> (Nat) -> (List Int) -> (Int × STy) := shut Zez
theorem ZkI (sn : Nat) (sl : List Int) (ss : P2) (Z2 : Nat) (listl : List Int) : Z7K sn sl ss Z2 listl = Zez sn sl ss Z2 listl := by
 unfold Z7K
 rw [Zu]
theorem ZEi (sn : Nat) (sl : List Int) (ss : P2) (Z2 : Nat) (listl : List Int) (hp : (srcB sn sl ss && (lenB Z2 1 listl && Nat.blt 0 Z2)) = true) : ZjY sn sl ss Z2 listl = some (Z7K sn sl ss Z2 listl) := by
 have hs := ZwA hp
 have hc := (Z69 hs).1
 have hk := ZwB hp
 obtain ⟨hl, _⟩ := Z7Y (ZwA hk)
 have h0 : 0 < Z2 := ZLb (ZwB hk)
 have hr := Z0Y sn sl ss (Z2 : Int) hs (by omega)
 rw [ZkI]
 unfold ZjY Zez
 dsimp only [Zkk]
 exact Zv hs (Zv (Zaj hr) (Zv (Z7U (by omega)) rfl))
theorem ZD (sn : Nat) (sl : List Int) (ss : P2) (Z2 : Nat) (listl : List Int) (hs : srcB sn sl ss = true) : srcB sn sl (Z7K sn sl ss Z2 listl).2.2.2 = true := by
 have hc := (Z69 hs).1
 rw [ZkI]
 unfold Zez
 repeat' (first | (with_reducible first | assumption | apply Zh) | refine ZhN (P := fun r : Int × STy => srcB sn sl r.2.2.2 = true) ?_ ?_ | dsimp only)
theorem ZOw (sn : Nat) (sl : List Int) (ss : P2) (Z2 : Nat) (listl : List Int) (hs : srcB sn sl ss = true) (hk : (lenB Z2 1 listl && Nat.blt 0 Z2) = true) : (Z7K sn sl ss Z2 listl).1 ∈ listl := by
 obtain ⟨hl, _⟩ := Z7Y (ZwA hk)
 have h0 : 0 < Z2 := ZLb (ZwB hk)
 have hr := Z0Y sn sl ss (Z2 : Int) hs (by omega)
 rw [ZkI]
 unfold Zez
 dsimp only [Zkk]
 exact ZIE (by omega)
def Z8K : PRun
 | 77, [.s sn (.byts sl), .v (.int .i64 s_1), .v (.int .u64 s_2)], [.s Z2 (.ints listl)] => some (srcB sn sl (s_1, s_2) && (lenB Z2 1 listl && Nat.blt 0 Z2), ZfW (Z7K sn sl (s_1, s_2) Z2 listl))
 | _, _, _ => none
theorem Zb2 : Zag prog 100 Z8K := by
 refine Z5U ZmC ZFJ (by kernel_rfl) func100 ntmps100 rfl (by kernel_rfl) ?_
 intro e bcs pvs rs bcs' hrun
 unfold Z8K at hrun
 split at hrun
 ·simp only [Option.some.injEq, Prod.mk.injEq] at hrun
  obtain ⟨hp, hrun⟩ := hrun
  rename_i sn sl s_1 s_2 Z2 listl
  exact ⟨_, Z7K sn sl (s_1, s_2) Z2 listl, by first | exact hrun.symm | exact (Prod.ext hrun.1 hrun.2).symm, (ZGy sn sl (s_1, s_2) Z2 listl).trans (ZEi sn sl (s_1, s_2) Z2 listl hp)⟩
 ·cases hrun

abbrev ZLA (sn : Nat) (sl : List Int) (ss : P2) : Int × STy := (Z7K sn sl ss 13 [3, 5, 5, 7, 7, 11, 13, 13, 17, 19, 23, 29, 31])
def Zj0 : Sums := ⟨tblS [], tblM [(100, .box Z8K)], false⟩
theorem Zrk : Ze prog Zj0 := ⟨Za ⟨⟩, Z6a ⟨⟨call100, Zb2⟩, ⟨⟩⟩⟩
def ZbT (sn : Nat) (sl : List Int) (ss : P2) : Option (Int × STy) :=
 (if (srcB sn sl ss && (lenB 13 1 ([3, 5, 5, 7, 7, 11, 13, 13, 17, 19, 23, 29, 31]) && Nat.blt 0 13)) = true then some ((ZLA sn sl ss).1, sn, sl, (ZLA sn sl ss).2.2.2) else none)
theorem Zsa (sn : Nat) (sl : List Int) (ss : P2) : ZcR prog Zj0 47 6 (fun _ => 1000000) Zdn 77 [.s sn (.byts sl), .v (.int .i64 ss.1), .v (.int .u64 ss.2)] [] = ZbT sn sl ss := by
 kernel_rfl
def Za5 (sn : Nat) (sl : List Int) (ss : P2) : Int × STy :=
 ((ZLA sn sl ss).1, sn, sl, (ZLA sn sl ss).2.2.2)
def Z2o : (Nat) -> (List Int) -> P2 -> (Int × STy) := shut Za5
theorem ZcH (sn : Nat) (sl : List Int) (ss : P2) : Z2o sn sl ss = Za5 sn sl ss := by
 unfold Z2o
 rw [Zu]
theorem Zr5 (sn : Nat) (sl : List Int) (ss : P2) (hp : (srcB sn sl ss) = true) : ZbT sn sl ss = some (Z2o sn sl ss) := by
 have hs := hp
 have hc := (Z69 hs).1
 rw [ZcH]
 unfold ZbT Za5
 (try simp only [Zz])
 repeat' (first | with_reducible rfl | refine Zv (by first | (with_reducible assumption) | ((repeat (with_reducible first | assumption | apply ZD)); done) | (with_reducible exact Z5Z _ _ _ (by ((repeat (with_reducible first | assumption | apply ZD)); done))) | fail | exact ZsI ‹_› | exact Z2W (by ((repeat (with_reducible first | assumption | apply ZD)); done)) (by (first | (with_reducible assumption) | with_reducible exact Z5Z _ _ _ (by ((repeat (with_reducible first | assumption | apply ZD)); done)) | fail | rfl)) | exact Zn6 ‹_› (by (first | exact Z5N _ | exact Z5O _)) | exact Zaj (Z0Y _ _ _ _ (by ((repeat (with_reducible first | assumption | apply ZD)); done)) (by decide)) | exact Z7U (Zcg _ _ _ _ (by ((repeat (with_reducible first | assumption | apply ZD)); done)) (by decide) (by decide)) | exact Z7U (Zg0 _ _ _ _ (by ((repeat (with_reducible first | assumption | apply ZD)); done)) (by decide) (by decide)) | exact Zaj (Z0Y _ _ _ _ (by ((repeat (with_reducible first | assumption | apply ZD)); done)) (ZnS ‹_›)) | exact Zji (by ((repeat (with_reducible first | assumption | apply ZD)); done)) ‹_› (by (first | exact Z5N _ | exact Z5O _))) ?_ | refine Zm (fun _ => ?_) (fun _ => ?_) | rfl)
theorem Z1g (sn : Nat) (sl : List Int) (ss : P2) (hs : srcB sn sl ss = true) : srcB sn sl (Z2o sn sl ss).2.2.2 = true := by
 have hc := (Z69 hs).1
 rw [ZcH]
 unfold Za5
 repeat' (first | (with_reducible first | assumption | apply ZD) | refine ZhN (P := fun r : Int × STy => srcB sn sl r.2.2.2 = true) ?_ ?_ | dsimp only)
theorem ZAS (sn : Nat) (sl : List Int) (ss : P2) (hs : srcB sn sl ss = true) : (Z2o sn sl ss).1 ∈ [3, 5, 5, 7, 7, 11, 13, 13, 17, 19, 23, 29, 31] := by
 rw [ZcH]
 exact ZOw sn sl ss _ _ hs rfl
theorem Z5Z (sn : Nat) (sl : List Int) (ss : P2) (hs : srcB sn sl ss = true) : prB (Z2o sn sl ss).1 = true := by
 have h := ZAS sn sl ss hs
 have : ∀ x ∈ [3, 5, 5, 7, 7, 11, 13, 13, 17, 19, 23, 29, (31 : Int)], prB x = true := by decide
 exact this _ h
def Z85 : PRun
 | 77, [.s sn (.byts sl), .v (.int .i64 s_1), .v (.int .u64 s_2)], [] => some (srcB sn sl (s_1, s_2), ZfW (Z2o sn sl (s_1, s_2)))
 | _, _, _ => none
theorem ZeE : Zag prog 47 Z85 := by
 refine Z5U ZmC Zrk (by kernel_rfl) func47 ntmps47 rfl (by kernel_rfl) ?_
 intro e bcs pvs rs bcs' hrun
 unfold Z85 at hrun
 split at hrun
 ·simp only [Option.some.injEq, Prod.mk.injEq] at hrun
  obtain ⟨hp, hrun⟩ := hrun
  rename_i sn sl s_1 s_2
  exact ⟨_, Z2o sn sl (s_1, s_2), by first | exact hrun.symm | exact (Prod.ext hrun.1 hrun.2).symm, (Zsa sn sl (s_1, s_2)).trans (Zr5 sn sl (s_1, s_2) hp)⟩
 ·cases hrun

abbrev ZLB (sn : Nat) (sl : List Int) (ss : P2) (p : Int) : Int × STy := (Z8 sn sl ((Z8 sn sl ss 4).2.2.2) 3)
abbrev ZLC (sn : Nat) (sl : List Int) (ss : P2) (p : Int) : Int × STy := (Z8 sn sl ((ZLB sn sl ss p).2.2.2) 3)
abbrev ZLD (sn : Nat) (sl : List Int) (ss : P2) (p : Int) : Int × STy := (Z8 sn sl ((Z8 sn sl ss 4).2.2.2) p)
abbrev ZLE (sn : Nat) (sl : List Int) (ss : P2) (p : Int) : Int × STy := (Z8 sn sl ((ZLD sn sl ss p).2.2.2) p)
def Zj1 : Sums := ⟨tblS [], tblM [(28, .box Z25)], false⟩
theorem Zrl : Ze prog Zj1 := ⟨Za ⟨⟩, Z6a ⟨⟨call28, Z22⟩, ⟨⟩⟩⟩
def ZbU (sn : Nat) (sl : List Int) (ss : P2) (p : Int) : Option (P2 × STy) :=
 (if (srcB sn sl ss) = true then (if (((Z8 sn sl ss 4).1) == 0) = true then (if (srcB sn sl ((Z8 sn sl ss 4).2.2.2)) = true then (if (srcB sn sl ((ZLB sn sl ss p).2.2.2)) = true then some (((ZLB sn sl ss p).1, (ZLC sn sl ss p).1), sn, sl, (ZLC sn sl ss p).2.2.2) else none) else none) else (if (srcB sn sl ((Z8 sn sl ss 4).2.2.2)) = true then (if (srcB sn sl ((ZLD sn sl ss p).2.2.2)) = true then some (((ZLD sn sl ss p).1, (ZLE sn sl ss p).1), sn, sl, (ZLE sn sl ss p).2.2.2) else none) else none)) else none)
theorem Zsb (sn : Nat) (sl : List Int) (ss : P2) (p : Int) : ZcR prog Zj1 49 20 (fun _ => 1000000) Zkh 77 [.s sn (.byts sl), .v (.int .i64 ss.1), .v (.int .u64 ss.2)] [.v (.int .i64 p)] = ZbU sn sl ss p := by
 kernel_rfl
def Z7J (sn : Nat) (sl : List Int) (ss : P2) (p : Int) : P2 × STy :=
 (if (((Z8 sn sl ss 4).1) == 0) = true then (((ZLB sn sl ss p).1, (ZLC sn sl ss p).1), sn, sl, (ZLC sn sl ss p).2.2.2) else (((ZLD sn sl ss p).1, (ZLE sn sl ss p).1), sn, sl, (ZLE sn sl ss p).2.2.2))
def Z4K : (Nat) -> (List Int) -> P2 -> (Int) -> (P2 × STy) := shut Z7J
theorem ZcI (sn : Nat) (sl : List Int) (ss : P2) (p : Int) : Z4K sn sl ss p = Z7J sn sl ss p := by
 unfold Z4K
 rw [Zu]
theorem Zr6 (sn : Nat) (sl : List Int) (ss : P2) (p : Int) (hp : (srcB sn sl ss && prB p) = true) : ZbU sn sl ss p = some (Z4K sn sl ss p) := by
 have hs := ZwA hp
 have hc := (Z69 hs).1
 have hq := ZwB hp
 have h0 := ZgX hq
 rw [ZcI]
 unfold ZbU Z7J
 (try simp only [Zz])
 repeat' (first | with_reducible rfl | refine Zv (by first | (with_reducible assumption) | ((repeat (with_reducible first | assumption | apply Zh)); done) | (with_reducible exact Z5Z _ _ _ (by ((repeat (with_reducible first | assumption | apply Zh)); done))) | fail | exact ZsI ‹_› | exact Z2W (by ((repeat (with_reducible first | assumption | apply Zh)); done)) (by (first | (with_reducible assumption) | with_reducible exact Z5Z _ _ _ (by ((repeat (with_reducible first | assumption | apply Zh)); done)) | fail | rfl)) | exact Zn6 ‹_› (by (first | exact Z5N _ | exact Z5O _)) | exact Zaj (Z0Y _ _ _ _ (by ((repeat (with_reducible first | assumption | apply Zh)); done)) (by decide)) | exact Z7U (Zcg _ _ _ _ (by ((repeat (with_reducible first | assumption | apply Zh)); done)) (by decide) (by decide)) | exact Z7U (Zg0 _ _ _ _ (by ((repeat (with_reducible first | assumption | apply Zh)); done)) (by decide) (by decide)) | exact Zaj (Z0Y _ _ _ _ (by ((repeat (with_reducible first | assumption | apply Zh)); done)) (ZnS ‹_›)) | exact Zji (by ((repeat (with_reducible first | assumption | apply Zh)); done)) ‹_› (by (first | exact Z5N _ | exact Z5O _))) ?_ | refine Zm (fun _ => ?_) (fun _ => ?_) | rfl)
theorem Z1h (sn : Nat) (sl : List Int) (ss : P2) (p : Int) (hs : srcB sn sl ss = true) : srcB sn sl (Z4K sn sl ss p).2.2.2 = true := by
 have hc := (Z69 hs).1
 rw [ZcI]
 unfold Z7J
 repeat' (first | (with_reducible first | assumption | apply Zh) | refine ZhN (P := fun r : P2 × STy => srcB sn sl r.2.2.2 = true) ?_ ?_ | dsimp only)
def Zbq : PRun
 | 77, [.s sn (.byts sl), .v (.int .i64 s_1), .v (.int .u64 s_2)], [.v (.int .i64 p)] => some (srcB sn sl (s_1, s_2) && prB p, ZpQ (Z4K sn sl (s_1, s_2) p))
 | _, _, _ => none
theorem Zns : Zag prog 49 Zbq := by
 refine Z5U ZEF Zrl (by kernel_rfl) func49 ntmps49 rfl (by kernel_rfl) ?_
 intro e bcs pvs rs bcs' hrun
 unfold Zbq at hrun
 split at hrun
 ·simp only [Option.some.injEq, Prod.mk.injEq] at hrun
  obtain ⟨hp, hrun⟩ := hrun
  rename_i sn sl s_1 s_2 p
  exact ⟨_, Z4K sn sl (s_1, s_2) p, by first | exact hrun.symm | exact (Prod.ext hrun.1 hrun.2).symm, (Zsb sn sl (s_1, s_2) p).trans (Zr6 sn sl (s_1, s_2) p hp)⟩
 ·cases hrun

abbrev ZLF (sn : Nat) (sl : List Int) (ss : P2) (p : Int) : Int × STy := (Z7K sn sl ((Z8 sn sl ss 40).2.2.2) 8 [2, 1, 0, (-3), 9, 15, 37, 1099511627776])
def Zle : Sums := ⟨tblS [], tblM [(28, .box Z25), (100, .box Z8K)], false⟩
theorem Zue : Ze prog Zle := ⟨Za ⟨⟩, Z6a ⟨⟨call28, Z22⟩, ⟨call100, Zb2⟩, ⟨⟩⟩⟩
def Zdc (sn : Nat) (sl : List Int) (ss : P2) (p : Int) : Option (Int × STy) :=
 (if (srcB sn sl ss) = true then (if (((Z8 sn sl ss 40).1) == 0) = true then (if (srcB sn sl ((Z8 sn sl ss 40).2.2.2) && (lenB 8 1 ([2, 1, 0, (-3), 9, 15, 37, 1099511627776]) && Nat.blt 0 8)) = true then some ((ZLF sn sl ss p).1, sn, sl, (ZLF sn sl ss p).2.2.2) else none) else some (p, sn, sl, (Z8 sn sl ss 40).2.2.2)) else none)
theorem ZuT (sn : Nat) (sl : List Int) (ss : P2) (p : Int) : ZcR prog Zle 50 12 (fun _ => 1000000) Zdn 77 [.s sn (.byts sl), .v (.int .i64 ss.1), .v (.int .u64 ss.2)] [.v (.int .i64 p)] = Zdc sn sl ss p := by
 kernel_rfl
def ZaW (sn : Nat) (sl : List Int) (ss : P2) (p : Int) : Int × STy :=
 (if (((Z8 sn sl ss 40).1) == 0) = true then ((ZLF sn sl ss p).1, sn, sl, (ZLF sn sl ss p).2.2.2) else (p, sn, sl, (Z8 sn sl ss 40).2.2.2))
def Z7b : (Nat) -> (List Int) -> P2 -> (Int) -> (Int × STy) := shut ZaW
theorem Zjs (sn : Nat) (sl : List Int) (ss : P2) (p : Int) : Z7b sn sl ss p = ZaW sn sl ss p := by
 unfold Z7b
 rw [Zu]
theorem ZtD (sn : Nat) (sl : List Int) (ss : P2) (p : Int) (hp : (srcB sn sl ss && prB p) = true) : Zdc sn sl ss p = some (Z7b sn sl ss p) := by
 have hs := ZwA hp
 have hc := (Z69 hs).1
 have hq := ZwB hp
 have h0 := ZgX hq
 rw [Zjs]
 unfold Zdc ZaW
 (try simp only [Zz])
 repeat' (first | with_reducible rfl | refine Zv (by first | (with_reducible assumption) | ((repeat (with_reducible first | assumption | apply Zh | apply ZD)); done) | (with_reducible exact Z5Z _ _ _ (by ((repeat (with_reducible first | assumption | apply Zh | apply ZD)); done))) | fail | exact ZsI ‹_› | exact Z2W (by ((repeat (with_reducible first | assumption | apply Zh | apply ZD)); done)) (by (first | (with_reducible assumption) | with_reducible exact Z5Z _ _ _ (by ((repeat (with_reducible first | assumption | apply Zh | apply ZD)); done)) | fail | rfl)) | exact Zn6 ‹_› (by (first | exact Z5N _ | exact Z5O _)) | exact Zaj (Z0Y _ _ _ _ (by ((repeat (with_reducible first | assumption | apply Zh | apply ZD)); done)) (by decide)) | exact Z7U (Zcg _ _ _ _ (by ((repeat (with_reducible first | assumption | apply Zh | apply ZD)); done)) (by decide) (by decide)) | exact Z7U (Zg0 _ _ _ _ (by ((repeat (with_reducible first | assumption | apply Zh | apply ZD)); done)) (by decide) (by decide)) | exact Zaj (Z0Y _ _ _ _ (by ((repeat (with_reducible first | assumption | apply Zh | apply ZD)); done)) (ZnS ‹_›)) | exact Zji (by ((repeat (with_reducible first | assumption | apply Zh | apply ZD)); done)) ‹_› (by (first | exact Z5N _ | exact Z5O _))) ?_ | refine Zm (fun _ => ?_) (fun _ => ?_) | rfl)
theorem Z1S (sn : Nat) (sl : List Int) (ss : P2) (p : Int) (hs : srcB sn sl ss = true) : srcB sn sl (Z7b sn sl ss p).2.2.2 = true := by
 have hc := (Z69 hs).1
 rw [Zjs]
 unfold ZaW
 repeat' (first | (with_reducible first | assumption | apply Zh | apply ZD) | refine ZhN (P := fun r : Int × STy => srcB sn sl r.2.2.2 = true) ?_ ?_ | dsimp only)
def ZcE : PRun
 | 77, [.s sn (.byts sl), .v (.int .i64 s_1), .v (.int .u64 s_2)], [.v (.int .i64 p)] => some (srcB sn sl (s_1, s_2) && prB p, ZfW (Z7b sn sl (s_1, s_2) p))
 | _, _, _ => none
theorem ZoH : Zag prog 50 ZcE := by
 refine Z5U ZmC Zue (by kernel_rfl) func50 ntmps50 rfl (by kernel_rfl) ?_
 intro e bcs pvs rs bcs' hrun
 unfold ZcE at hrun
 split at hrun
 ·simp only [Option.some.injEq, Prod.mk.injEq] at hrun
  obtain ⟨hp, hrun⟩ := hrun
  rename_i sn sl s_1 s_2 p
  exact ⟨_, Z7b sn sl (s_1, s_2) p, by first | exact hrun.symm | exact (Prod.ext hrun.1 hrun.2).symm, (ZuT sn sl (s_1, s_2) p).trans (ZtD sn sl (s_1, s_2) p hp)⟩
 ·cases hrun

abbrev Zsl (sn : Nat) (sl : List Int) (ss : P2) (p : Int) (a : P2) : Int × STy := (Z8 sn sl ((Z8 sn sl ss 40).2.2.2) 2)
abbrev ZEY (sn : Nat) (sl : List Int) (ss : P2) (p : Int) (a : P2) : Int × STy := (Z7K sn sl ((Zsl sn sl ss p a).2.2.2) 3 [(-1), p, 1099511627776])
def Zlf : Sums := ⟨tblS [], tblM [(28, .box Z25), (100, .box Z8K)], false⟩
theorem Zuf : Ze prog Zlf := ⟨Za ⟨⟩, Z6a ⟨⟨call28, Z22⟩, ⟨call100, Zb2⟩, ⟨⟩⟩⟩
def Zdd (sn : Nat) (sl : List Int) (ss : P2) (p : Int) (a : P2) : Option (P2 × STy) :=
 (if (srcB sn sl ss) = true then (if (((Z8 sn sl ss 40).1) == 0) = true then (if (srcB sn sl ((Z8 sn sl ss 40).2.2.2)) = true then (if (srcB sn sl ((Zsl sn sl ss p a).2.2.2) && (lenB 3 1 ([(-1), p, 1099511627776]) && Nat.blt 0 3)) = true then (if (decide (0 <= (Zsl sn sl ss p a).1) && decide ((Zsl sn sl ss p a).1 < ((2 : Nat) : Int))) = true then (if (Nat.ble (0 + ((((Zsl sn sl ss p a).1).toNat) * 1) + 1) 2) = true then some ((bif Nat.beq (0 + ((((Zsl sn sl ss p a).1).toNat) * 1)) 0 then ((ZEY sn sl ss p a).1) else a.1, bif Nat.beq (0 + ((((Zsl sn sl ss p a).1).toNat) * 1)) 1 then ((ZEY sn sl ss p a).1) else a.2), sn, sl, (ZEY sn sl ss p a).2.2.2) else none) else none) else none) else none) else some (a, sn, sl, (Z8 sn sl ss 40).2.2.2)) else none)
theorem ZuU (sn : Nat) (sl : List Int) (ss : P2) (p : Int) (a : P2) : ZcR prog Zlf 52 18 (fun _ => 1000000) Zkh 77 [.s sn (.byts sl), .v (.int .i64 ss.1), .v (.int .u64 ss.2)] [.v (.int .i64 p), .v (.agg ⟨[.int .i64 a.1, .int .i64 a.2]⟩)] = Zdd sn sl ss p a := by
 kernel_rfl
def ZaX (sn : Nat) (sl : List Int) (ss : P2) (p : Int) (a : P2) : P2 × STy :=
 (if (((Z8 sn sl ss 40).1) == 0) = true then ((bif Nat.beq (0 + ((((Zsl sn sl ss p a).1).toNat) * 1)) 0 then ((ZEY sn sl ss p a).1) else a.1, bif Nat.beq (0 + ((((Zsl sn sl ss p a).1).toNat) * 1)) 1 then ((ZEY sn sl ss p a).1) else a.2), sn, sl, (ZEY sn sl ss p a).2.2.2) else (a, sn, sl, (Z8 sn sl ss 40).2.2.2))
def Z7c : (Nat) -> (List Int) -> P2 -> (Int) -> P2 -> (P2 × STy) := shut ZaX
theorem Zjt (sn : Nat) (sl : List Int) (ss : P2) (p : Int) (a : P2) : Z7c sn sl ss p a = ZaX sn sl ss p a := by
 unfold Z7c
 rw [Zu]
theorem ZtE (sn : Nat) (sl : List Int) (ss : P2) (p : Int) (a : P2) (hp : (srcB sn sl ss && prB p) = true) : Zdd sn sl ss p a = some (Z7c sn sl ss p a) := by
 have hs := ZwA hp
 have hc := (Z69 hs).1
 have hq := ZwB hp
 have h0 := ZgX hq
 rw [Zjt]
 unfold Zdd ZaX
 (try simp only [Zz])
 repeat' (first | with_reducible rfl | refine Zv (by first | (with_reducible assumption) | ((repeat (with_reducible first | assumption | apply Zh | apply ZD)); done) | (with_reducible exact Z5Z _ _ _ (by ((repeat (with_reducible first | assumption | apply Zh | apply ZD)); done))) | fail | exact ZsI ‹_› | exact Z2W (by ((repeat (with_reducible first | assumption | apply Zh | apply ZD)); done)) (by (first | (with_reducible assumption) | with_reducible exact Z5Z _ _ _ (by ((repeat (with_reducible first | assumption | apply Zh | apply ZD)); done)) | fail | rfl)) | exact Zn6 ‹_› (by (first | exact Z5N _ | exact Z5O _)) | exact Zaj (Z0Y _ _ _ _ (by ((repeat (with_reducible first | assumption | apply Zh | apply ZD)); done)) (by decide)) | exact Z7U (Zcg _ _ _ _ (by ((repeat (with_reducible first | assumption | apply Zh | apply ZD)); done)) (by decide) (by decide)) | exact Z7U (Zg0 _ _ _ _ (by ((repeat (with_reducible first | assumption | apply Zh | apply ZD)); done)) (by decide) (by decide)) | exact Zaj (Z0Y _ _ _ _ (by ((repeat (with_reducible first | assumption | apply Zh | apply ZD)); done)) (ZnS ‹_›)) | exact Zji (by ((repeat (with_reducible first | assumption | apply Zh | apply ZD)); done)) ‹_› (by (first | exact Z5N _ | exact Z5O _))) ?_ | refine Zm (fun _ => ?_) (fun _ => ?_) | rfl)
theorem Z1T (sn : Nat) (sl : List Int) (ss : P2) (p : Int) (a : P2) (hs : srcB sn sl ss = true) : srcB sn sl (Z7c sn sl ss p a).2.2.2 = true := by
 have hc := (Z69 hs).1
 rw [Zjt]
 unfold ZaX
 repeat' (first | (with_reducible first | assumption | apply Zh | apply ZD) | refine ZhN (P := fun r : P2 × STy => srcB sn sl r.2.2.2 = true) ?_ ?_ | dsimp only)
def ZcF : PRun
 | 77, [.s sn (.byts sl), .v (.int .i64 s_1), .v (.int .u64 s_2)], [.v (.int .i64 p), .v (.agg ⟨[.int .i64 a0, .int .i64 a1]⟩)] => some (srcB sn sl (s_1, s_2) && prB p, ZpQ (Z7c sn sl (s_1, s_2) p (a0, a1)))
 | _, _, _ => none
theorem ZoI : Zag prog 52 ZcF := by
 refine Z5U ZEF Zuf (by kernel_rfl) func52 ntmps52 rfl (by kernel_rfl) ?_
 intro e bcs pvs rs bcs' hrun
 unfold ZcF at hrun
 split at hrun
 ·simp only [Option.some.injEq, Prod.mk.injEq] at hrun
  obtain ⟨hp, hrun⟩ := hrun
  rename_i sn sl s_1 s_2 p a0 a1
  exact ⟨_, Z7c sn sl (s_1, s_2) p (a0, a1), by first | exact hrun.symm | exact (Prod.ext hrun.1 hrun.2).symm, (ZuU sn sl (s_1, s_2) p (a0, a1)).trans (ZtE sn sl (s_1, s_2) p (a0, a1) hp)⟩
 ·cases hrun

abbrev ZLG (sn : Nat) (sl : List Int) (ss : P2) : Int × STy := (Z7K sn sl ((Z8 sn sl ss 40).2.2.2) 3 [(-1), 3, 1099511627776])
abbrev ZLH (sn : Nat) (sl : List Int) (ss : P2) : Int × STy := (Z8 sn sl ((Z8 sn sl ss 40).2.2.2) 3)
def ZhB : Sums := ⟨tblS [], tblM [(28, .box Z25), (100, .box Z8K)], false⟩
theorem ZpG : Ze prog ZhB := ⟨Za ⟨⟩, Z6a ⟨⟨call28, Z22⟩, ⟨call100, Zb2⟩, ⟨⟩⟩⟩
def Zbe (sn : Nat) (sl : List Int) (ss : P2) : Option (Int × STy) :=
 (if (srcB sn sl ss) = true then (if (((Z8 sn sl ss 40).1) == 0) = true then (if (srcB sn sl ((Z8 sn sl ss 40).2.2.2) && (lenB 3 1 ([(-1), 3, 1099511627776]) && Nat.blt 0 3)) = true then some ((ZLG sn sl ss).1, sn, sl, (ZLG sn sl ss).2.2.2) else none) else (if (srcB sn sl ((Z8 sn sl ss 40).2.2.2)) = true then some ((ZLH sn sl ss).1, sn, sl, (ZLH sn sl ss).2.2.2) else none)) else none)
theorem Zq4 (sn : Nat) (sl : List Int) (ss : P2) : ZcR prog ZhB 51 11 (fun _ => 1000000) Zdn 77 [.s sn (.byts sl), .v (.int .i64 ss.1), .v (.int .u64 ss.2)] [] = Zbe sn sl ss := by
 kernel_rfl
def Z92 (sn : Nat) (sl : List Int) (ss : P2) : Int × STy :=
 (if (((Z8 sn sl ss 40).1) == 0) = true then ((ZLG sn sl ss).1, sn, sl, (ZLG sn sl ss).2.2.2) else ((ZLH sn sl ss).1, sn, sl, (ZLH sn sl ss).2.2.2))
def Z54 : (Nat) -> (List Int) -> P2 -> (Int × STy) := shut Z92
theorem Zhg (sn : Nat) (sl : List Int) (ss : P2) : Z54 sn sl ss = Z92 sn sl ss := by
 unfold Z54
 rw [Zu]
theorem ZoU (sn : Nat) (sl : List Int) (ss : P2) (hp : (srcB sn sl ss) = true) : Zbe sn sl ss = some (Z54 sn sl ss) := by
 have hs := hp
 have hc := (Z69 hs).1
 rw [Zhg]
 unfold Zbe Z92
 (try simp only [Zz])
 repeat' (first | with_reducible rfl | refine Zv (by first | (with_reducible assumption) | ((repeat (with_reducible first | assumption | apply Zh | apply ZD)); done) | (with_reducible exact Z5Z _ _ _ (by ((repeat (with_reducible first | assumption | apply Zh | apply ZD)); done))) | fail | exact ZsI ‹_› | exact Z2W (by ((repeat (with_reducible first | assumption | apply Zh | apply ZD)); done)) (by (first | (with_reducible assumption) | with_reducible exact Z5Z _ _ _ (by ((repeat (with_reducible first | assumption | apply Zh | apply ZD)); done)) | fail | rfl)) | exact Zn6 ‹_› (by (first | exact Z5N _ | exact Z5O _)) | exact Zaj (Z0Y _ _ _ _ (by ((repeat (with_reducible first | assumption | apply Zh | apply ZD)); done)) (by decide)) | exact Z7U (Zcg _ _ _ _ (by ((repeat (with_reducible first | assumption | apply Zh | apply ZD)); done)) (by decide) (by decide)) | exact Z7U (Zg0 _ _ _ _ (by ((repeat (with_reducible first | assumption | apply Zh | apply ZD)); done)) (by decide) (by decide)) | exact Zaj (Z0Y _ _ _ _ (by ((repeat (with_reducible first | assumption | apply Zh | apply ZD)); done)) (ZnS ‹_›)) | exact Zji (by ((repeat (with_reducible first | assumption | apply Zh | apply ZD)); done)) ‹_› (by (first | exact Z5N _ | exact Z5O _))) ?_ | refine Zm (fun _ => ?_) (fun _ => ?_) | rfl)
theorem Z1v (sn : Nat) (sl : List Int) (ss : P2) (hs : srcB sn sl ss = true) : srcB sn sl (Z54 sn sl ss).2.2.2 = true := by
 have hc := (Z69 hs).1
 rw [Zhg]
 unfold Z92
 repeat' (first | (with_reducible first | assumption | apply Zh | apply ZD) | refine ZhN (P := fun r : Int × STy => srcB sn sl r.2.2.2 = true) ?_ ?_ | dsimp only)
def Zav : PRun
 | 77, [.s sn (.byts sl), .v (.int .i64 s_1), .v (.int .u64 s_2)], [] => some (srcB sn sl (s_1, s_2), ZfW (Z54 sn sl (s_1, s_2)))
 | _, _, _ => none
theorem ZlP : Zag prog 51 Zav := by
 refine Z5U ZmC ZpG (by kernel_rfl) func51 ntmps51 rfl (by kernel_rfl) ?_
 intro e bcs pvs rs bcs' hrun
 unfold Zav at hrun
 split at hrun
 ·simp only [Option.some.injEq, Prod.mk.injEq] at hrun
  obtain ⟨hp, hrun⟩ := hrun
  rename_i sn sl s_1 s_2
  exact ⟨_, Z54 sn sl (s_1, s_2), by first | exact hrun.symm | exact (Prod.ext hrun.1 hrun.2).symm, (Zq4 sn sl (s_1, s_2)).trans (ZoU sn sl (s_1, s_2) hp)⟩
 ·cases hrun

end

end Go.Proofs.YtcdpfpfbilfpoaaGreatDoor
