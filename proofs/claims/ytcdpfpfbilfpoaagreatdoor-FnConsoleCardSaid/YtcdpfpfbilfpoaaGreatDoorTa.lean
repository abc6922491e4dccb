import Derived.Test.YtcdpfpfbilfpoaaGreatDoorHz
import Derived.Test.YtcdpfpfbilfpoaaGreatDoorProg
set_option linter.unusedSimpArgs false
set_option linter.unusedVariables false
namespace Go.Proofs.YtcdpfpfbilfpoaaGreatDoor
open Go.RowKit Tryz
noncomputable section
def decF : Nat -> Nat -> List UInt8
 | 0, _ => []
 | f + 1, n => if n < 10 then [UInt8.ofNat (48 + n)] else decF f (n / 10) ++ [UInt8.ofNat (48 + n % 10)]
def decL (n : Nat) : List UInt8 := decF (n + 1) n
theorem ZwE : ∀ (f g n : Nat), n < f -> n < g -> decF f n = decF g n
 | 0, _, n, h, _ => absurd h (Nat.not_lt_zero n)
 | _, 0, n, _, h => absurd h (Nat.not_lt_zero n)
 | f + 1, g + 1, n, h1, h2 => by
  unfold decF
  by_cases h : n < 10
  ·rw [if_pos h, if_pos h]
  ·rw [if_neg h, if_neg h, ZwE f g (n / 10) (by omega) (by omega)]
theorem Zdl {n : Nat} (h : n < 10) : decL n = [UInt8.ofNat (48 + n)] := by
 unfold decL decF
 rw [if_pos h]
theorem ZmF {n : Nat} (h : ¬ n < 10) : decL n = decL (n / 10) ++ [UInt8.ofNat (48 + n % 10)] := by
 unfold decL
 rw [show decF (n + 1) n = if n < 10 then [UInt8.ofNat (48 + n)] else decF n (n / 10) ++ [UInt8.ofNat (48 + n % 10)] from rfl, if_neg h, ZwE n (n / 10 + 1) (n / 10) (by omega) (by omega)]
theorem ZId : ∀ (m n : Nat), n < 10 ^ m -> (decL n).length <= m + 1
 | 0, n, h => by rw [Zdl (by simp at h; omega)]; simp
 | m + 1, n, h => by
  by_cases h1 : n < 10
  ·rw [Zdl h1]; simp
  ·rw [ZmF h1, List.length_append]
   have := ZId m (n / 10) (by rw [Nat.pow_succ] at h; omega)
   simp
   omega
def Z01 (n : Int) : ByteArray := ⟨(decL n.toNat).toArray⟩
def Z5X (n : Int) : Bool := decide (0 <= n) && decide (n <= 1000000000000)
def recB (N : Nat) (n : Int) : Bool := Z5X n && decide (n.toNat < N)
theorem ZsS {n : Int} (h : Z5X n = true) : (Z01 n).size <= 14 := by
 unfold Z5X at h
 simp only [Bool.and_eq_true, decide_eq_true_eq] at h
 have := ZId 13 n.toNat (by omega)
 exact this
def Ze9 (N : Nat) : RunP
 | [.v (.int .i64 n_)] => some (recB N n_, Z9l (Z01 n_))
 | _ => none
def ZzS (N : Nat) : Sums := ⟨tblS [(46, Ze9 N)], tblM [], false⟩
def Zm4 (N : Nat) (n_ : Int) : Option ByteArray :=
 (if (decide (n_ < 0)) = true then (if (recB N (wI (0 - n_))) = true then (if (Nat.ble ((bs [45]).size + (Z01 (wI (0 - n_))).size) 9223372036854775807) = true then some ((bs [45]) ++ (Z01 (wI (0 - n_)))) else none) else none) else (if (decide (n_ < 10)) = true then some (ZFl [IntKind.u8.wrap (wI (48 + n_))]) else (if (recB N (wI (n_.tdiv 10))) = true then (if (Nat.ble ((Z01 (wI (n_.tdiv 10))).size + (ZFl [IntKind.u8.wrap (wI (48 + (n_.tmod 10)))]).size) 9223372036854775807) = true then some ((Z01 (wI (n_.tdiv 10))) ++ (ZFl [IntKind.u8.wrap (wI (48 + (n_.tmod 10)))])) else none) else none)))
theorem ZIp (N : Nat) (n_ : Int) : ZmO prog (ZzS N) 46 26 (fun _ => 1000000) Z2E [.v (.int .i64 n_)] = Zm4 N n_ := by
 kernel_rfl
theorem ZNP {k : Int} (h0 : 0 <= k) (h1 : k < 10) : ZFl [IntKind.u8.wrap (wI (48 + k))] = ⟨#[UInt8.ofNat (48 + k.toNat)]⟩ := by
 have hk : k = 0 \/ k = 1 \/ k = 2 \/ k = 3 \/ k = 4 \/ k = 5 \/ k = 6 \/ k = 7 \/ k = 8 \/ k = 9 := by omega
 rcases hk with rfl | rfl | rfl | rfl | rfl | rfl | rfl | rfl | rfl | rfl <;> decide +kernel
theorem ZHs (N : Nat) (n_ : Int) (hp : recB (N + 1) n_ = true) : Zm4 N n_ = some (Z01 n_) := by
 unfold recB at hp
 rw [Bool.and_eq_true, decide_eq_true_eq] at hp
 obtain ⟨ho, hN⟩ := hp
 have ho2 := ho
 unfold Z5X at ho2
 simp only [Bool.and_eq_true, decide_eq_true_eq] at ho2
 unfold Zm4
 rw [if_neg (by simp; omega)]
 by_cases h : n_ < 10
 ·rw [if_pos (decide_eq_true h), ZNP ho2.1 h]
  unfold Z01
  rw [Zdl (by omega)]
 ·have ed : n_.tdiv 10 = n_ / 10 := Int.tdiv_eq_ediv_of_nonneg ho2.1
  have em : n_.tmod 10 = n_ % 10 := Int.tmod_eq_emod_of_nonneg ho2.1
  have ew : wI (n_.tdiv 10) = n_ / 10 := by rw [Zz, ed]; unfold wrap64; omega
  have hq : Z5X (n_ / 10) = true := by unfold Z5X; simp; omega
  have hr : recB N (n_ / 10) = true := by unfold recB; rw [hq]; simp; omega
  have hs := ZsS hq
  rw [if_neg (by simpa using h), ew, if_pos hr, em, ZNP (by omega) (by omega), if_pos (Nat.ble_eq_true_of_le (by show (Z01 (n_ / 10)).size + 1 <= _; omega))]
  congr 1
  unfold Z01
  rw [ZmF (n := n_.toNat) (by omega), show (n_ / 10).toNat = n_.toNat / 10 by omega, show (n_ % 10).toNat = n_.toNat % 10 by omega]
  apply ByteArray.ext
  rw [ByteArray.data_append]
  apply Array.toList_inj.1
  simp
theorem Zlw : ∀ N : Nat, Sound prog 46 (Ze9 N)
 | 0 => by
  intro W pvs avs rs hG hargs hrun
  unfold Ze9 at hrun
  split at hrun
  ·simp only [Option.some.injEq, Prod.mk.injEq, recB, Nat.not_lt_zero, decide_false, Bool.and_false] at hrun
   exact absurd hrun.1 (by decide)
  ·cases hrun
 | N + 1 => by
  have SO : Ze prog (ZzS N) := ⟨Za ⟨⟨call46, Zlw N⟩, True.intro⟩, Z6a True.intro⟩
  refine ZjF Zkg SO (by kernel_rfl) func46 ntmps46 rfl (by kernel_rfl) ?_
  intro W pvs avs rs hargs hrun
  unfold Ze9 at hrun
  split at hrun
  ·simp only [Option.some.injEq, Prod.mk.injEq] at hrun
   obtain ⟨hp, rfl⟩ := hrun
   rename_i n_
   exact ⟨_, _, _, hargs, rfl, (ZIp N n_).trans (ZHs N n_ hp)⟩
  ·cases hrun
def Z84 : RunP
 | [.v (.int .i64 n_)] => some (Z5X n_, Z9l (Z01 n_))
 | _ => none
theorem Z9G : Sound prog 46 Z84 := by
 intro W pvs avs rs hG hargs hrun
 unfold Z84 at hrun
 split at hrun
 ·rename_i n_
  simp only [Option.some.injEq, Prod.mk.injEq] at hrun
  obtain ⟨hp, rfl⟩ := hrun
  refine Zlw (n_.toNat + 1) W _ avs _ hG hargs ?_
  have h2 : recB (n_.toNat + 1) n_ = true := by unfold recB; rw [hp]; simp
  show some (recB (n_.toNat + 1) n_, _) = _
  rw [h2]
 ·cases hrun

end

end Go.Proofs.YtcdpfpfbilfpoaaGreatDoor
