import Derived.Test.YtcdpfpfbilfpoaaGreatDoorHz
import Derived.Test.YtcdpfpfbilfpoaaGreatDoorProg
set_option linter.unusedSimpArgs false
set_option linter.unusedVariables false
namespace Go.Proofs.YtcdpfpfbilfpoaaGreatDoor
open Go.RowKit Tryz
noncomputable section
def decF : Nat → Nat → List UInt8
 | 0, _ => []
 | f + 1, n => if n < 10 then [UInt8.ofNat (48 + n)] else decF f (n / 10) ++ [UInt8.ofNat (48 + n % 10)]
def decL (n : Nat) : List UInt8 := decF (n + 1) n
theorem decF_enough : ∀ (f g n : Nat), n < f → n < g → decF f n = decF g n
 | 0, _, n, h, _ => absurd h (Nat.not_lt_zero n)
 | _, 0, n, _, h => absurd h (Nat.not_lt_zero n)
 | f + 1, g + 1, n, h1, h2 => by
  unfold decF
  by_cases h : n < 10
  ·rw [if_pos h, if_pos h]
  ·rw [if_neg h, if_neg h, decF_enough f g (n / 10) (by omega) (by omega)]
theorem decL_small {n : Nat} (h : n < 10) : decL n = [UInt8.ofNat (48 + n)] := by
 unfold decL decF
 rw [if_pos h]
theorem decL_big {n : Nat} (h : ¬ n < 10) : decL n = decL (n / 10) ++ [UInt8.ofNat (48 + n % 10)] := by
 unfold decL
 rw [show decF (n + 1) n = if n < 10 then [UInt8.ofNat (48 + n)] else decF n (n / 10) ++ [UInt8.ofNat (48 + n % 10)] from rfl, if_neg h, decF_enough n (n / 10 + 1) (n / 10) (by omega) (by omega)]
theorem decL_len : ∀ (m n : Nat), n < 10 ^ m → (decL n).length ≤ m + 1
 | 0, n, h => by rw [decL_small (by simp at h; omega)]; simp
 | m + 1, n, h => by
  by_cases h1 : n < 10
  ·rw [decL_small h1]; simp
  ·rw [decL_big h1, List.length_append]
   have := decL_len m (n / 10) (by rw [Nat.pow_succ] at h; omega)
   simp
   omega
def s_l01Dec (n : Int) : ByteArray := ⟨(decL n.toNat).toArray⟩
def decOK (n : Int) : Bool := decide (0 ≤ n) && decide (n ≤ 1000000000000)
def recB (N : Nat) (n : Int) : Bool := decOK n && decide (n.toNat < N)
theorem sizeD {n : Int} (h : decOK n = true) : (s_l01Dec n).size ≤ 14 := by
 unfold decOK at h
 simp only [Bool.and_eq_true, decide_eq_true_eq] at h
 have := decL_len 13 n.toNat (by omega)
 exact this
def runk_s_l01Dec (N : Nat) : RunP
 | [.v (.int .i64 n_)] => some (recB N n_, enc_s (s_l01Dec n_))
 | _ => none
def S_s_l01Dec (N : Nat) : Sums := ⟨tblS [(46, runk_s_l01Dec N)], tblM [], false⟩
def Fo_s_l01Dec (N : Nat) (n_ : Int) : Option ByteArray :=
 (if (decide (n_ < 0)) = true then (if (recB N (wI (0 - n_))) = true then (if (Nat.ble ((bs [45]).size + (s_l01Dec (wI (0 - n_))).size) 9223372036854775807) = true then some ((bs [45]) ++ (s_l01Dec (wI (0 - n_)))) else none) else none) else (if (decide (n_ < 10)) = true then some (strOf [IntKind.u8.wrap (wI (48 + n_))]) else (if (recB N (wI (n_.tdiv 10))) = true then (if (Nat.ble ((s_l01Dec (wI (n_.tdiv 10))).size + (strOf [IntKind.u8.wrap (wI (48 + (n_.tmod 10)))]).size) 9223372036854775807) = true then some ((s_l01Dec (wI (n_.tdiv 10))) ++ (strOf [IntKind.u8.wrap (wI (48 + (n_.tmod 10)))])) else none) else none)))
theorem eq_s_l01Dec (N : Nat) (n_ : Int) : execT prog (S_s_l01Dec N) 46 26 (fun _ => 1000000) dec_s [.v (.int .i64 n_)] = Fo_s_l01Dec N n_ := by
 kernel_rfl
theorem digit8 {k : Int} (h0 : 0 ≤ k) (h1 : k < 10) : strOf [IntKind.u8.wrap (wI (48 + k))] = ⟨#[UInt8.ofNat (48 + k.toNat)]⟩ := by
 have hk : k = 0 ∨ k = 1 ∨ k = 2 ∨ k = 3 ∨ k = 4 ∨ k = 5 ∨ k = 6 ∨ k = 7 ∨ k = 8 ∨ k = 9 := by omega
 rcases hk with rfl | rfl | rfl | rfl | rfl | rfl | rfl | rfl | rfl | rfl <;> decide +kernel
theorem tot_s_l01Dec (N : Nat) (n_ : Int) (hp : recB (N + 1) n_ = true) : Fo_s_l01Dec N n_ = some (s_l01Dec n_) := by
 unfold recB at hp
 rw [Bool.and_eq_true, decide_eq_true_eq] at hp
 obtain ⟨ho, hN⟩ := hp
 have ho2 := ho
 unfold decOK at ho2
 simp only [Bool.and_eq_true, decide_eq_true_eq] at ho2
 unfold Fo_s_l01Dec
 rw [if_neg (by simp; omega)]
 by_cases h : n_ < 10
 ·rw [if_pos (decide_eq_true h), digit8 ho2.1 h]
  unfold s_l01Dec
  rw [decL_small (by omega)]
 ·have ed : n_.tdiv 10 = n_ / 10 := Int.tdiv_eq_ediv_of_nonneg ho2.1
  have em : n_.tmod 10 = n_ % 10 := Int.tmod_eq_emod_of_nonneg ho2.1
  have ew : wI (n_.tdiv 10) = n_ / 10 := by rw [wI_eq, ed]; unfold wrap64; omega
  have hq : decOK (n_ / 10) = true := by unfold decOK; simp; omega
  have hr : recB N (n_ / 10) = true := by unfold recB; rw [hq]; simp; omega
  have hs := sizeD hq
  rw [if_neg (by simpa using h), ew, if_pos hr, em, digit8 (by omega) (by omega), if_pos (Nat.ble_eq_true_of_le (by show (s_l01Dec (n_ / 10)).size + 1 ≤ _; omega))]
  congr 1
  unfold s_l01Dec
  rw [decL_big (n := n_.toNat) (by omega), show (n_ / 10).toNat = n_.toNat / 10 by omega, show (n_ % 10).toNat = n_.toNat % 10 by omega]
  apply ByteArray.ext
  rw [ByteArray.data_append]
  apply Array.toList_inj.1
  simp
theorem soundk_s_l01Dec : ∀ N : Nat, Sound prog 46 (runk_s_l01Dec N)
 | 0 => by
  intro W pvs avs rs hG hargs hrun
  unfold runk_s_l01Dec at hrun
  split at hrun
  ·simp only [Option.some.injEq, Prod.mk.injEq, recB, Nat.not_lt_zero, decide_false, Bool.and_false] at hrun
   exact absurd hrun.1 (by decide)
  ·cases hrun
 | N + 1 => by
  have SO : SumsOK prog (S_s_l01Dec N) := ⟨tblS_ok ⟨⟨call46, soundk_s_l01Dec N⟩, True.intro⟩, tblM_ok True.intro⟩
  refine sound_of de_s SO (by kernel_rfl) func46 ntmps46 rfl (by kernel_rfl) ?_
  intro W pvs avs rs hargs hrun
  unfold runk_s_l01Dec at hrun
  split at hrun
  ·simp only [Option.some.injEq, Prod.mk.injEq] at hrun
   obtain ⟨hp, rfl⟩ := hrun
   rename_i n_
   exact ⟨_, _, _, hargs, rfl, (eq_s_l01Dec N n_).trans (tot_s_l01Dec N n_ hp)⟩
  ·cases hrun
def run_s_l01Dec : RunP
 | [.v (.int .i64 n_)] => some (decOK n_, enc_s (s_l01Dec n_))
 | _ => none
theorem sound_s_l01Dec : Sound prog 46 run_s_l01Dec := by
 intro W pvs avs rs hG hargs hrun
 unfold run_s_l01Dec at hrun
 split at hrun
 ·rename_i n_
  simp only [Option.some.injEq, Prod.mk.injEq] at hrun
  obtain ⟨hp, rfl⟩ := hrun
  refine soundk_s_l01Dec (n_.toNat + 1) W _ avs _ hG hargs ?_
  have h2 : recB (n_.toNat + 1) n_ = true := by unfold recB; rw [hp]; simp
  show some (recB (n_.toNat + 1) n_, _) = _
  rw [h2]
 ·cases hrun

end

end Go.Proofs.YtcdpfpfbilfpoaaGreatDoor
