import Derived.Test.YtcdpfpfbilfpoaaGreatDoorQg
import Derived.Test.YtcdpfpfbilfpoaaGreatDoorProg
set_option linter.unusedSimpArgs false
set_option linter.unusedVariables false
namespace Go.Proofs.YtcdpfpfbilfpoaaGreatDoor
open Go.RowKit Tryz
noncomputable section
abbrev ZO9 (sn : Nat) (sl : List Int) (ss : P2) (d : D8i) : Int × STy := (Z2o sn sl ((Z8 sn sl ss 10).2.2.2))
abbrev ZPM (sn : Nat) (sl : List Int) (ss : P2) (d : D8i) : ByteArray := (Z01 ((ZO9 sn sl ss d).1))
abbrev Z6T (sn : Nat) (sl : List Int) (ss : P2) (d : D8i) : Int × STy := (Z8 sn sl ((Z8 sn sl ss 10).2.2.2) 3)
abbrev ZPN (sn : Nat) (sl : List Int) (ss : P2) (d : D8i) : ByteArray := (Z01 ((Z6T sn sl ss d).1))
abbrev ZIO (sn : Nat) (sl : List Int) (ss : P2) (d : D8i) : P2 × STy := (Z4K sn sl ((Z6T sn sl ss d).2.2.2) d.1)
abbrev ZLw (sn : Nat) (sl : List Int) (ss : P2) (d : D8i) : ByteArray := (Z02 ((ZIO sn sl ss d).1))
abbrev ZbE (sn : Nat) (sl : List Int) (ss : P2) (d : D8i) : Int × STy := (Z8 sn sl ((Z8 sn sl ss 10).2.2.2) 6)
abbrev ZIP (sn : Nat) (sl : List Int) (ss : P2) (d : D8i) : Int × STy := (Z8 sn sl ((Z6T sn sl ss d).2.2.2) d.1)
abbrev ZLx (sn : Nat) (sl : List Int) (ss : P2) (d : D8i) : ByteArray := (Z01 ((ZIP sn sl ss d).1))
abbrev Zpd (sn : Nat) (sl : List Int) (ss : P2) (d : D8i) : Int × STy := (Z8 sn sl ((Z8 sn sl ss 10).2.2.2) 9)
abbrev ZiA (sn : Nat) (sl : List Int) (ss : P2) (d : D8i) : Int × STy := (Z8 sn sl ((Z8 sn sl ss 10).2.2.2) 4)
abbrev ZiB (sn : Nat) (sl : List Int) (ss : P2) (d : D8i) : Int × STy := (Z8 sn sl ((Z8 sn sl ss 10).2.2.2) 10)
def Zlh : Sums := ⟨tblS [(46, Z84), (48, Z7I)], tblM [(28, .box Z25), (47, .box Z85), (49, .box Zbq)], false⟩
theorem Zuh : Ze prog Zlh := ⟨Za ⟨⟨call46, Z9G⟩, ⟨call48, Zaa⟩, ⟨⟩⟩, Z6a ⟨⟨call28, Z22⟩, ⟨call47, ZeE⟩, ⟨call49, Zns⟩, ⟨⟩⟩⟩
def Z7q (sn : Nat) (sl : List Int) (ss : P2) (d : D8i) : Option (ByteArray × STy) :=
 (if (srcB sn sl ss) = true then (if (((Z8 sn sl ss 10).1) == 0) = true then (if (srcB sn sl ((Z8 sn sl ss 10).2.2.2)) = true then (if (Z5X ((ZO9 sn sl ss d).1)) = true then (if (Nat.ble ((bs [112, 114, 105, 109, 101, 32]).size + (ZPM sn sl ss d).size) 9223372036854775807) = true then some ((bs [112, 114, 105, 109, 101, 32]) ++ (ZPM sn sl ss d), sn, sl, (ZO9 sn sl ss d).2.2.2) else none) else none) else none) else (if (((Z8 sn sl ss 10).1) == 1) = true then (if (srcB sn sl ((Z8 sn sl ss 10).2.2.2)) = true then (if (Z5X ((Z6T sn sl ss d).1)) = true then (if (Nat.ble ((bs [99, 111, 108, 111, 117, 114, 32]).size + (ZPN sn sl ss d).size) 9223372036854775807) = true then some ((bs [99, 111, 108, 111, 117, 114, 32]) ++ (ZPN sn sl ss d), sn, sl, (Z6T sn sl ss d).2.2.2) else none) else none) else none) else (if (((Z8 sn sl ss 10).1) == 2) = true then (if (((Z8 sn sl ss 10).1) == 2) = true then (if (srcB sn sl ((Z8 sn sl ss 10).2.2.2)) = true then (if (decide (0 <= (Z6T sn sl ss d).1) && decide ((Z6T sn sl ss d).1 < ((3 : Nat) : Int))) = true then (if (Nat.ble ((((Z6T sn sl ss d).1).toNat) * 1 + 1) 3) = true then (if (srcB sn sl ((Z6T sn sl ss d).2.2.2) && prB d.1) = true then (if (num2 ((ZIO sn sl ss d).1)) = true then (if (Nat.ble (([bs [102, 105, 114, 115, 116, 32], bs [115, 101, 99, 111, 110, 100, 32], bs [116, 104, 105, 114, 100, 32]].getD ((((Z6T sn sl ss d).1).toNat) * 1) ByteArray.empty).size + (ZLw sn sl ss d).size) 9223372036854775807) = true then some (([bs [102, 105, 114, 115, 116, 32], bs [115, 101, 99, 111, 110, 100, 32], bs [116, 104, 105, 114, 100, 32]].getD ((((Z6T sn sl ss d).1).toNat) * 1) ByteArray.empty) ++ (ZLw sn sl ss d), sn, sl, (ZIO sn sl ss d).2.2.2) else none) else none) else none) else none) else none) else none) else (if (((Z8 sn sl ss 10).1) == 4) = true then (if (srcB sn sl ((Z8 sn sl ss 10).2.2.2)) = true then (if (decide (0 <= (ZbE sn sl ss d).1) && decide ((ZbE sn sl ss d).1 < ((6 : Nat) : Int))) = true then (if (Nat.ble ((((ZbE sn sl ss d).1).toNat) * 1 + 1) 6) = true then some ([bs [116, 117, 114, 110], bs [109, 105, 100, 100, 108, 101], bs [102, 111, 111, 116], bs [99, 101, 110, 116, 114, 101], bs [104, 105, 103, 104], bs [114, 101, 115, 101, 116]].getD ((((ZbE sn sl ss d).1).toNat) * 1) ByteArray.empty, sn, sl, (ZbE sn sl ss d).2.2.2) else none) else none) else none) else (if (((Z8 sn sl ss 10).1) == 5) = true then (if (srcB sn sl ((Z8 sn sl ss 10).2.2.2)) = true then (if (decide (0 <= (Z6T sn sl ss d).1) && decide ((Z6T sn sl ss d).1 < ((3 : Nat) : Int))) = true then (if (Nat.ble ((((Z6T sn sl ss d).1).toNat) * 1 + 1) 3) = true then (if (srcB sn sl ((Z6T sn sl ss d).2.2.2)) = true then (if (Z5X ((ZIP sn sl ss d).1)) = true then (if (Nat.ble (([bs [99, 111, 109, 98, 105, 110, 101, 32], bs [97, 116, 32], bs [99, 111, 117, 110, 116, 32]].getD ((((Z6T sn sl ss d).1).toNat) * 1) ByteArray.empty).size + (ZLx sn sl ss d).size) 9223372036854775807) = true then some (([bs [99, 111, 109, 98, 105, 110, 101, 32], bs [97, 116, 32], bs [99, 111, 117, 110, 116, 32]].getD ((((Z6T sn sl ss d).1).toNat) * 1) ByteArray.empty) ++ (ZLx sn sl ss d), sn, sl, (ZIP sn sl ss d).2.2.2) else none) else none) else none) else none) else none) else none) else (if (((Z8 sn sl ss 10).1) == 6) = true then (if (srcB sn sl ((Z8 sn sl ss 10).2.2.2)) = true then (if (decide (0 <= (Zpd sn sl ss d).1) && decide ((Zpd sn sl ss d).1 < ((9 : Nat) : Int))) = true then (if (Nat.ble ((((Zpd sn sl ss d).1).toNat) * 1 + 1) 9) = true then some ([bs [115, 104, 111, 119], bs [102, 105, 101, 108, 100], bs [97, 114, 101, 97], bs [115, 105, 100, 101], bs [113, 117, 97, 100, 114, 97, 110, 99, 101, 115], bs [110, 117, 108, 108], bs [114, 105, 103, 104, 116], bs [115, 112, 114, 101, 97, 100], bs [113, 117, 97, 100, 114, 101, 97]].getD ((((Zpd sn sl ss d).1).toNat) * 1) ByteArray.empty, sn, sl, (Zpd sn sl ss d).2.2.2) else none) else none) else none) else (if (((Z8 sn sl ss 10).1) == 7) = true then (if (srcB sn sl ((Z8 sn sl ss 10).2.2.2)) = true then (if (decide (0 <= (ZbE sn sl ss d).1) && decide ((ZbE sn sl ss d).1 < ((6 : Nat) : Int))) = true then (if (Nat.ble ((((ZbE sn sl ss d).1).toNat) * 1 + 1) 6) = true then some ([bs [99, 101, 110, 116, 114, 111, 105, 100], bs [109, 101, 100, 105, 97, 110], bs [97, 108, 116, 105, 116, 117, 100, 101], bs [101, 117, 108, 101, 114], bs [111, 114, 116, 104, 105, 99], bs [99, 105, 114, 99, 108, 101]].getD ((((ZbE sn sl ss d).1).toNat) * 1) ByteArray.empty, sn, sl, (ZbE sn sl ss d).2.2.2) else none) else none) else none) else (if (((Z8 sn sl ss 10).1) == 8) = true then (if (srcB sn sl ((Z8 sn sl ss 10).2.2.2)) = true then (if (decide (0 <= (ZiA sn sl ss d).1) && decide ((ZiA sn sl ss d).1 < ((4 : Nat) : Int))) = true then (if (Nat.ble ((((ZiA sn sl ss d).1).toNat) * 1 + 1) 4) = true then some ([bs [111, 109, 101, 103, 97], bs [101, 117, 108, 101, 114, 115], bs [114, 105, 103, 104, 116, 115], bs [117, 110, 105, 116, 115]].getD ((((ZiA sn sl ss d).1).toNat) * 1) ByteArray.empty, sn, sl, (ZiA sn sl ss d).2.2.2) else none) else none) else none) else (if (srcB sn sl ((Z8 sn sl ss 10).2.2.2)) = true then (if (decide (0 <= (ZiB sn sl ss d).1) && decide ((ZiB sn sl ss d).1 < ((10 : Nat) : Int))) = true then (if (Nat.ble ((((ZiB sn sl ss d).1).toNat) * 1 + 1) 10) = true then some ([bs [115, 104, 111, 119, 32], bs [102, 108, 121], bs [112, 114, 105, 109, 101, 32, 57], bs [99, 111, 108, 111, 117, 114, 32, 51], bs [102, 105, 114, 115, 116, 32, 49], bs [115, 101, 99, 111, 110, 100, 32, 52, 48, 44, 49], bs [97, 116, 32, 51, 49], bs [99, 111, 109, 98, 105, 110, 101], bs [116, 104, 105, 114, 100, 32, 48, 44, 49, 32, 50], bs [99, 111, 117, 110, 116, 32, 48, 49]].getD ((((ZiB sn sl ss d).1).toNat) * 1) ByteArray.empty, sn, sl, (ZiB sn sl ss d).2.2.2) else none) else none) else none))))))) else (if (((Z8 sn sl ss 10).1) == 3) = true then (if (srcB sn sl ((Z8 sn sl ss 10).2.2.2)) = true then (if (decide (0 <= (Z6T sn sl ss d).1) && decide ((Z6T sn sl ss d).1 < ((3 : Nat) : Int))) = true then (if (Nat.ble ((((Z6T sn sl ss d).1).toNat) * 1 + 1) 3) = true then (if (srcB sn sl ((Z6T sn sl ss d).2.2.2) && prB d.1) = true then (if (num2 ((ZIO sn sl ss d).1)) = true then (if (Nat.ble (([bs [102, 105, 114, 115, 116, 32], bs [115, 101, 99, 111, 110, 100, 32], bs [116, 104, 105, 114, 100, 32]].getD ((((Z6T sn sl ss d).1).toNat) * 1) ByteArray.empty).size + (ZLw sn sl ss d).size) 9223372036854775807) = true then some (([bs [102, 105, 114, 115, 116, 32], bs [115, 101, 99, 111, 110, 100, 32], bs [116, 104, 105, 114, 100, 32]].getD ((((Z6T sn sl ss d).1).toNat) * 1) ByteArray.empty) ++ (ZLw sn sl ss d), sn, sl, (ZIO sn sl ss d).2.2.2) else none) else none) else none) else none) else none) else none) else (if (((Z8 sn sl ss 10).1) == 4) = true then (if (srcB sn sl ((Z8 sn sl ss 10).2.2.2)) = true then (if (decide (0 <= (ZbE sn sl ss d).1) && decide ((ZbE sn sl ss d).1 < ((6 : Nat) : Int))) = true then (if (Nat.ble ((((ZbE sn sl ss d).1).toNat) * 1 + 1) 6) = true then some ([bs [116, 117, 114, 110], bs [109, 105, 100, 100, 108, 101], bs [102, 111, 111, 116], bs [99, 101, 110, 116, 114, 101], bs [104, 105, 103, 104], bs [114, 101, 115, 101, 116]].getD ((((ZbE sn sl ss d).1).toNat) * 1) ByteArray.empty, sn, sl, (ZbE sn sl ss d).2.2.2) else none) else none) else none) else (if (((Z8 sn sl ss 10).1) == 5) = true then (if (srcB sn sl ((Z8 sn sl ss 10).2.2.2)) = true then (if (decide (0 <= (Z6T sn sl ss d).1) && decide ((Z6T sn sl ss d).1 < ((3 : Nat) : Int))) = true then (if (Nat.ble ((((Z6T sn sl ss d).1).toNat) * 1 + 1) 3) = true then (if (srcB sn sl ((Z6T sn sl ss d).2.2.2)) = true then (if (Z5X ((ZIP sn sl ss d).1)) = true then (if (Nat.ble (([bs [99, 111, 109, 98, 105, 110, 101, 32], bs [97, 116, 32], bs [99, 111, 117, 110, 116, 32]].getD ((((Z6T sn sl ss d).1).toNat) * 1) ByteArray.empty).size + (ZLx sn sl ss d).size) 9223372036854775807) = true then some (([bs [99, 111, 109, 98, 105, 110, 101, 32], bs [97, 116, 32], bs [99, 111, 117, 110, 116, 32]].getD ((((Z6T sn sl ss d).1).toNat) * 1) ByteArray.empty) ++ (ZLx sn sl ss d), sn, sl, (ZIP sn sl ss d).2.2.2) else none) else none) else none) else none) else none) else none) else (if (((Z8 sn sl ss 10).1) == 6) = true then (if (srcB sn sl ((Z8 sn sl ss 10).2.2.2)) = true then (if (decide (0 <= (Zpd sn sl ss d).1) && decide ((Zpd sn sl ss d).1 < ((9 : Nat) : Int))) = true then (if (Nat.ble ((((Zpd sn sl ss d).1).toNat) * 1 + 1) 9) = true then some ([bs [115, 104, 111, 119], bs [102, 105, 101, 108, 100], bs [97, 114, 101, 97], bs [115, 105, 100, 101], bs [113, 117, 97, 100, 114, 97, 110, 99, 101, 115], bs [110, 117, 108, 108], bs [114, 105, 103, 104, 116], bs [115, 112, 114, 101, 97, 100], bs [113, 117, 97, 100, 114, 101, 97]].getD ((((Zpd sn sl ss d).1).toNat) * 1) ByteArray.empty, sn, sl, (Zpd sn sl ss d).2.2.2) else none) else none) else none) else (if (((Z8 sn sl ss 10).1) == 7) = true then (if (srcB sn sl ((Z8 sn sl ss 10).2.2.2)) = true then (if (decide (0 <= (ZbE sn sl ss d).1) && decide ((ZbE sn sl ss d).1 < ((6 : Nat) : Int))) = true then (if (Nat.ble ((((ZbE sn sl ss d).1).toNat) * 1 + 1) 6) = true then some ([bs [99, 101, 110, 116, 114, 111, 105, 100], bs [109, 101, 100, 105, 97, 110], bs [97, 108, 116, 105, 116, 117, 100, 101], bs [101, 117, 108, 101, 114], bs [111, 114, 116, 104, 105, 99], bs [99, 105, 114, 99, 108, 101]].getD ((((ZbE sn sl ss d).1).toNat) * 1) ByteArray.empty, sn, sl, (ZbE sn sl ss d).2.2.2) else none) else none) else none) else (if (((Z8 sn sl ss 10).1) == 8) = true then (if (srcB sn sl ((Z8 sn sl ss 10).2.2.2)) = true then (if (decide (0 <= (ZiA sn sl ss d).1) && decide ((ZiA sn sl ss d).1 < ((4 : Nat) : Int))) = true then (if (Nat.ble ((((ZiA sn sl ss d).1).toNat) * 1 + 1) 4) = true then some ([bs [111, 109, 101, 103, 97], bs [101, 117, 108, 101, 114, 115], bs [114, 105, 103, 104, 116, 115], bs [117, 110, 105, 116, 115]].getD ((((ZiA sn sl ss d).1).toNat) * 1) ByteArray.empty, sn, sl, (ZiA sn sl ss d).2.2.2) else none) else none) else none) else (if (srcB sn sl ((Z8 sn sl ss 10).2.2.2)) = true then (if (decide (0 <= (ZiB sn sl ss d).1) && decide ((ZiB sn sl ss d).1 < ((10 : Nat) : Int))) = true then (if (Nat.ble ((((ZiB sn sl ss d).1).toNat) * 1 + 1) 10) = true then some ([bs [115, 104, 111, 119, 32], bs [102, 108, 121], bs [112, 114, 105, 109, 101, 32, 57], bs [99, 111, 108, 111, 117, 114, 32, 51], bs [102, 105, 114, 115, 116, 32, 49], bs [115, 101, 99, 111, 110, 100, 32, 52, 48, 44, 49], bs [97, 116, 32, 51, 49], bs [99, 111, 109, 98, 105, 110, 101], bs [116, 104, 105, 114, 100, 32, 48, 44, 49, 32, 50], bs [99, 111, 117, 110, 116, 32, 48, 49]].getD ((((ZiB sn sl ss d).1).toNat) * 1) ByteArray.empty, sn, sl, (ZiB sn sl ss d).2.2.2) else none) else none) else none)))))))))) else none)
theorem ZuW (sn : Nat) (sl : List Int) (ss : P2) (d : D8i) : ZcR prog Zlh 27 80 (fun _ => 1000000) Z3E 77 [.s sn (.byts sl), .v (.int .i64 ss.1), .v (.int .u64 ss.2)] [.v (.agg ⟨[.int .i64 d.1, .int .i64 d.2.1, .int .i64 d.2.2.1, .int .i64 d.2.2.2.1, .int .i64 d.2.2.2.2.1, .int .i64 d.2.2.2.2.2.1, .int .i64 d.2.2.2.2.2.2.1, .int .i64 d.2.2.2.2.2.2.2]⟩)] = Z7q sn sl ss d := by
 kernel_rfl
def ZaY (sn : Nat) (sl : List Int) (ss : P2) (d : D8i) : ByteArray × STy := (Z7q sn sl ss d).getD (.empty, 0, [], 0, 0)
def ZU : (Nat) -> (List Int) -> P2 -> (D8i) -> (ByteArray × STy) := shut ZaY
theorem Zju (sn : Nat) (sl : List Int) (ss : P2) (d : D8i) : ZU sn sl ss d = ZaY sn sl ss d := by
 unfold ZU
 rw [Zu]
set_option maxHeartbeats 4000000 in
theorem Zjv (sn : Nat) (sl : List Int) (ss : P2) (d : D8i) (hp : (srcB sn sl ss && Z6 d.1) = true) : ∃ r, Z7q sn sl ss d = some r /\ srcB sn sl r.2.2.2 = true /\ r.1.size <= 200 := by
 have hs := ZwA hp
 have hf := ZwB hp
 have hq : prB d.1 = true := ZfX hf
 have h1 : 1 <= d.1 := by have := Zep hf; omega
 have h31 : d.1 <= 1000000000000 := by have := Zep hf; omega
 have s1 := Zh sn sl ss 10 hs
 have s2 := fun n => Zh sn sl _ n s1
 have s3 := fun n m => Zh sn sl _ m (s2 n)
 have s4 := Z1g sn sl _ s1
 have s5 := fun n => Z1h sn sl _ d.1 (s2 n)
 unfold Z7q
 repeat' (first | refine Z74 (by first | (with_reducible first | assumption | exact s2 _ | exact s3 _ _ | exact s5 _) | (with_reducible exact Z2W (by (with_reducible first | assumption | exact s2 _ | exact s3 _ _ | exact s5 _)) hq) | (with_reducible exact Zaj (Z0Y _ _ _ _ (by (with_reducible first | assumption | exact s2 _ | exact s3 _ _ | exact s5 _)) (by decide))) | (with_reducible exact Z7U (Zcg _ _ _ _ (by (with_reducible first | assumption | exact s2 _ | exact s3 _ _ | exact s5 _)) (by decide) (by decide))) | exact ZrZ (by (with_reducible first | assumption | exact s2 _ | exact s3 _ _ | exact s5 _)) | exact Ze1 (Z0Y _ _ _ _ (by (with_reducible first | assumption | exact s2 _ | exact s3 _ _ | exact s5 _)) (by decide)) (by decide) | exact Ze1 (Z0Y _ _ _ _ (by (with_reducible first | assumption | exact s2 _ | exact s3 _ _ | exact s5 _)) h1) h31 | exact ZgW (by (with_reducible first | assumption | exact s2 _ | exact s3 _ _ | exact s5 _)) hf | exact ZQ7 (ZQ2 (by first | exact ZnK (by decide) _ | exact Zfv (ZrZ (by (with_reducible first | assumption | exact s2 _ | exact s3 _ _ | exact s5 _))) | exact Zfv (Ze1 (Z0Y _ _ _ _ (by (with_reducible first | assumption | exact s2 _ | exact s3 _ _ | exact s5 _)) (by decide)) (by decide)) | exact Zfv (Ze1 (Z0Y _ _ _ _ (by (with_reducible first | assumption | exact s2 _ | exact s3 _ _ | exact s5 _)) h1) h31) | exact ZMf (ZgW (by (with_reducible first | assumption | exact s2 _ | exact s3 _ _ | exact s5 _)) hf) | decide)) (ZQ2 (by first | exact ZnK (by decide) _ | exact Zfv (ZrZ (by (with_reducible first | assumption | exact s2 _ | exact s3 _ _ | exact s5 _))) | exact Zfv (Ze1 (Z0Y _ _ _ _ (by (with_reducible first | assumption | exact s2 _ | exact s3 _ _ | exact s5 _)) (by decide)) (by decide)) | exact Zfv (Ze1 (Z0Y _ _ _ _ (by (with_reducible first | assumption | exact s2 _ | exact s3 _ _ | exact s5 _)) h1) h31) | exact ZMf (ZgW (by (with_reducible first | assumption | exact s2 _ | exact s3 _ _ | exact s5 _)) hf) | decide))) ?_ | refine ZuX (fun _ => ?_) (fun _ => ?_) | exact Z7X ⟨by dsimp only; (with_reducible first | assumption | exact s2 _ | exact s3 _ _ | exact s5 _), ZQ8 (by first | exact ZnK (by decide) _ | exact Zfv (ZrZ (by (with_reducible first | assumption | exact s2 _ | exact s3 _ _ | exact s5 _))) | exact Zfv (Ze1 (Z0Y _ _ _ _ (by (with_reducible first | assumption | exact s2 _ | exact s3 _ _ | exact s5 _)) (by decide)) (by decide)) | exact Zfv (Ze1 (Z0Y _ _ _ _ (by (with_reducible first | assumption | exact s2 _ | exact s3 _ _ | exact s5 _)) h1) h31) | exact ZMf (ZgW (by (with_reducible first | assumption | exact s2 _ | exact s3 _ _ | exact s5 _)) hf) | decide) (by first | exact ZnK (by decide) _ | exact Zfv (ZrZ (by (with_reducible first | assumption | exact s2 _ | exact s3 _ _ | exact s5 _))) | exact Zfv (Ze1 (Z0Y _ _ _ _ (by (with_reducible first | assumption | exact s2 _ | exact s3 _ _ | exact s5 _)) (by decide)) (by decide)) | exact Zfv (Ze1 (Z0Y _ _ _ _ (by (with_reducible first | assumption | exact s2 _ | exact s3 _ _ | exact s5 _)) h1) h31) | exact ZMf (ZgW (by (with_reducible first | assumption | exact s2 _ | exact s3 _ _ | exact s5 _)) hf) | decide)⟩ | exact Z7X ⟨by dsimp only; (with_reducible first | assumption | exact s2 _ | exact s3 _ _ | exact s5 _), Nat.le_trans (ZnK (M := 100) (by decide) _) (by decide)⟩)
theorem Zbs (sn : Nat) (sl : List Int) (ss : P2) (d : D8i) (hp : (srcB sn sl ss && Z6 d.1) = true) : (fun r : ByteArray × STy => srcB sn sl r.2.2.2 = true /\ r.1.size <= 200) (ZU sn sl ss d) := by
 obtain ⟨r, e, h⟩ := Zjv sn sl ss d hp
 rw [Zju]
 unfold ZaY
 rw [e]
 first | done | exact h
theorem ZtG (sn : Nat) (sl : List Int) (ss : P2) (d : D8i) (hp : (srcB sn sl ss && Z6 d.1) = true) : Z7q sn sl ss d = some (ZU sn sl ss d) := by
 obtain ⟨r, e, _⟩ := Zjv sn sl ss d hp
 rw [Zju]
 unfold ZaY
 rw [e]
 rfl
def Z6V : PRun
 | 77, [.s sn (.byts sl), .v (.int .i64 s_1), .v (.int .u64 s_2)], [.v (.agg ⟨[.int .i64 d0, .int .i64 d1, .int .i64 d2, .int .i64 d3, .int .i64 d4, .int .i64 d5, .int .i64 d6, .int .i64 d7]⟩)] => some (srcB sn sl (s_1, s_2) && Z6 (d0, d1, d2, d3, d4, d5, d6, d7).1, ZnI (ZU sn sl (s_1, s_2) (d0, d1, d2, d3, d4, d5, d6, d7)))
 | _, _, _ => none
theorem Zax : Zag prog 27 Z6V := by
 refine Z5U ZAh Zuh (by kernel_rfl) func27 ntmps27 rfl (by kernel_rfl) ?_
 intro e bcs pvs rs bcs' hrun
 unfold Z6V at hrun
 split at hrun
 ·simp only [Option.some.injEq, Prod.mk.injEq] at hrun
  obtain ⟨hp, hrun⟩ := hrun
  rename_i sn sl s_1 s_2 d0 d1 d2 d3 d4 d5 d6 d7
  exact ⟨_, ZU sn sl (s_1, s_2) (d0, d1, d2, d3, d4, d5, d6, d7), by first | exact hrun.symm | exact (Prod.ext hrun.1 hrun.2).symm, (ZuW sn sl (s_1, s_2) (d0, d1, d2, d3, d4, d5, d6, d7)).trans (ZtG sn sl (s_1, s_2) (d0, d1, d2, d3, d4, d5, d6, d7) hp)⟩
 ·cases hrun

def Zel : Sums := ⟨tblS [(43, Z66), (15, Z8J)], tblM [(28, .box Z25), (27, .box Z6V)], false⟩
theorem ZFO : Ze prog Zel := ⟨Za ⟨⟨call43, Z7M⟩, ⟨call15, Zb1⟩, ⟨⟩⟩, Z6a ⟨⟨call28, Z22⟩, ⟨call27, Zax⟩, ⟨⟩⟩⟩
def ZD5 (sn : Nat) (sl : List Int) (ss : P2) (Z0O Z0P : Int) (Z3V Z3W : Int) (Z3X Z3Y : Int) (Z3Z Z40 : Int) (Z41 Z42 k : Int) : Tab := ⟨[.ptr 0 0, jK, .ptr 8 0, .ptr 12 0, vI (k), jK, jK, .val (.agg ⟨[.int .i64 ((Zn 7).1), .int .i64 ((Zn 7).2.1), .int .i64 ((Zn 7).2.2.1), .int .i64 ((Zn 7).2.2.2.1), .int .i64 ((Zn 7).2.2.2.2.1), .int .i64 ((Zn 7).2.2.2.2.2.1), .int .i64 ((Zn 7).2.2.2.2.2.2.1), .int .i64 ((Zn 7).2.2.2.2.2.2.2)]⟩), .ptr 0 0, vI (((Z8 sn sl ss 7).1)), ] ++ (jN 13 ++ [jK]), [(0, .box 77 [.row 1, vI (Z0O), .val (.int .u64 Z0P)]), (1, .ros sn (.byts sl)), (8, .box 28 [vI (0), vI (0), vI (0), vI (0), vI (0), vI (0), vI (0), vI (0)]), (12, .box 28 [vI (Z3V), vI (Z3W), vI (Z3X), vI (Z3Y), vI (Z3Z), vI (Z40), vI (Z41), vI (Z42)])]⟩
def Z8z (P : Program) (fu sn : Nat) (sl : List Int) (ss : P2) (f : Nat) (Z0O Z0P : Int) (Z3V Z3W : Int) (Z3X Z3Y : Int) (Z3Z Z40 : Int) (Z41 Z42 k : Int) : Option ((D8i) × STy) := Z1u (exec P Zel 24 (fun _ => fu + 100) (Code.sub [1, 1, 0, 1, 0, 0] (ZS P 26))) f (ZD5 sn sl ss Z0O Z0P Z3V Z3W Z3X Z3Y Z3Z Z40 Z41 Z42 k) (Z0g 0 (kSeq (fun zs9 => exec P Zel 24 (fun _ => fu + 100) (Code.sub [1, 1, 1] (ZS P 26)) zs9 (finP P 26 77 [.s sn (.byts sl), .v (.int .i64 ss.1), .v (.int .u64 ss.2)] Zdm)) (finP P 26 77 [.s sn (.byts sl), .v (.int .i64 ss.1), .v (.int .u64 ss.2)] Zdm)))
def Z8t (sn : Nat) (sl : List Int) (ss : P2) (Z1F : Int -> Int -> Int -> Int -> Int -> Int -> Int -> Int -> Int -> Int -> Int -> Option ((D8i) × STy)) (Z0O Z0P : Int) (Z3V Z3W : Int) (Z3X Z3Y : Int) (Z3Z Z40 : Int) (Z41 Z42 k : Int) : Option ((D8i) × STy) :=
 (if (decide (k > 0)) = true then (if (srcB sn sl (Z0O, Z0P) && Z6 (Z3V, Z3W, Z3X, Z3Y, Z3Z, Z40, Z41, Z42).1) = true then (if (Z3w (Z3V, Z3W, Z3X, Z3Y, Z3Z, Z40, Z41, Z42) ((ZU sn sl (Z0O, Z0P) (Z3V, Z3W, Z3X, Z3Y, Z3Z, Z40, Z41, Z42)).1)) = true then Z1F ((ZU sn sl (Z0O, Z0P) (Z3V, Z3W, Z3X, Z3Y, Z3Z, Z40, Z41, Z42)).2.2.2.1) ((ZU sn sl (Z0O, Z0P) (Z3V, Z3W, Z3X, Z3Y, Z3Z, Z40, Z41, Z42)).2.2.2.2) (((Zs (Z3V, Z3W, Z3X, Z3Y, Z3Z, Z40, Z41, Z42) ((ZU sn sl (Z0O, Z0P) (Z3V, Z3W, Z3X, Z3Y, Z3Z, Z40, Z41, Z42)).1)).1).1) (((Zs (Z3V, Z3W, Z3X, Z3Y, Z3Z, Z40, Z41, Z42) ((ZU sn sl (Z0O, Z0P) (Z3V, Z3W, Z3X, Z3Y, Z3Z, Z40, Z41, Z42)).1)).1).2.1) (((Zs (Z3V, Z3W, Z3X, Z3Y, Z3Z, Z40, Z41, Z42) ((ZU sn sl (Z0O, Z0P) (Z3V, Z3W, Z3X, Z3Y, Z3Z, Z40, Z41, Z42)).1)).1).2.2.1) (((Zs (Z3V, Z3W, Z3X, Z3Y, Z3Z, Z40, Z41, Z42) ((ZU sn sl (Z0O, Z0P) (Z3V, Z3W, Z3X, Z3Y, Z3Z, Z40, Z41, Z42)).1)).1).2.2.2.1) (((Zs (Z3V, Z3W, Z3X, Z3Y, Z3Z, Z40, Z41, Z42) ((ZU sn sl (Z0O, Z0P) (Z3V, Z3W, Z3X, Z3Y, Z3Z, Z40, Z41, Z42)).1)).1).2.2.2.2.1) (((Zs (Z3V, Z3W, Z3X, Z3Y, Z3Z, Z40, Z41, Z42) ((ZU sn sl (Z0O, Z0P) (Z3V, Z3W, Z3X, Z3Y, Z3Z, Z40, Z41, Z42)).1)).1).2.2.2.2.2.1) (((Zs (Z3V, Z3W, Z3X, Z3Y, Z3Z, Z40, Z41, Z42) ((ZU sn sl (Z0O, Z0P) (Z3V, Z3W, Z3X, Z3Y, Z3Z, Z40, Z41, Z42)).1)).1).2.2.2.2.2.2.1) (((Zs (Z3V, Z3W, Z3X, Z3Y, Z3Z, Z40, Z41, Z42) ((ZU sn sl (Z0O, Z0P) (Z3V, Z3W, Z3X, Z3Y, Z3Z, Z40, Z41, Z42)).1)).1).2.2.2.2.2.2.2) (wI (k - 1)) else none) else none) else some ((Z3V, Z3W, Z3X, Z3Y, Z3Z, Z40, Z41, Z42), sn, sl, Z0O, Z0P))
def Z71 (fu sn : Nat) (sl : List Int) (ss : P2) : Nat -> Int -> Int -> Int -> Int -> Int -> Int -> Int -> Int -> Int -> Int -> Int -> Option ((D8i) × STy)
 | 0, _, _, _, _, _, _, _, _, _, _, _ => none
 | f + 1, Z0O, Z0P, Z3V, Z3W, Z3X, Z3Y, Z3Z, Z40, Z41, Z42, k => Z8t sn sl ss (Z71 fu sn sl ss f) Z0O Z0P Z3V Z3W Z3X Z3Y Z3Z Z40 Z41 Z42 k
theorem Zvd (fu sn : Nat) (sl : List Int) (ss : P2) : ∀ (f : Nat) (Z0O Z0P : Int) (Z3V Z3W : Int) (Z3X Z3Y : Int) (Z3Z Z40 : Int) (Z41 Z42 k : Int), Z8z prog fu sn sl ss f Z0O Z0P Z3V Z3W Z3X Z3Y Z3Z Z40 Z41 Z42 k = Z71 fu sn sl ss f Z0O Z0P Z3V Z3W Z3X Z3Y Z3Z Z40 Z41 Z42 k := by
 intro f
 induction f with
 | zero => intros; rfl
 | succ f ih =>
  intro Z0O Z0P Z3V Z3W Z3X Z3Y Z3Z Z40 Z41 Z42 k
  have h1 : Z8z prog fu sn sl ss (f + 1) Z0O Z0P Z3V Z3W Z3X Z3Y Z3Z Z40 Z41 Z42 k = Z8t sn sl ss (Z8z prog fu sn sl ss f) Z0O Z0P Z3V Z3W Z3X Z3Y Z3Z Z40 Z41 Z42 k := by kernel_rfl
  have h2 : Z8z prog fu sn sl ss f = Z71 fu sn sl ss f := by funext Z0O Z0P Z3V Z3W Z3X Z3Y Z3Z Z40 Z41 Z42 k; exact ih Z0O Z0P Z3V Z3W Z3X Z3Y Z3Z Z40 Z41 Z42 k
  rw [h1, h2]
  rfl
def Zm9 (sn : Nat) (sl : List Int) (ss : P2) (lo0 : Int -> Int -> Int -> Int -> Int -> Int -> Int -> Int -> Int -> Int -> Int -> Option ((D8i) × STy)) : Option ((D8i) × STy) :=
 (if (srcB sn sl ss) = true then lo0 ((Z8 sn sl ss 7).2.2.2.1) ((Z8 sn sl ss 7).2.2.2.2) ((Zn 7).1) ((Zn 7).2.1) ((Zn 7).2.2.1) ((Zn 7).2.2.2.1) ((Zn 7).2.2.2.2.1) ((Zn 7).2.2.2.2.2.1) ((Zn 7).2.2.2.2.2.2.1) ((Zn 7).2.2.2.2.2.2.2) ((Z8 sn sl ss 7).1) else none)
def ZbY (fu sn : Nat) (sl : List Int) (ss : P2) : Option ((D8i) × STy) := Zm9 sn sl ss (Z71 fu sn sl ss (fu + 100))
theorem ZGD (fu sn : Nat) (sl : List Int) (ss : P2) : ZcR prog Zel 26 24 (fun _ => fu + 100) Zdm 77 [.s sn (.byts sl), .v (.int .i64 ss.1), .v (.int .u64 ss.2)] [] = ZbY fu sn sl ss := by
 have h1 : ZcR prog Zel 26 24 (fun _ => fu + 100) Zdm 77 [.s sn (.byts sl), .v (.int .i64 ss.1), .v (.int .u64 ss.2)] [] = Zm9 sn sl ss (Z8z prog fu sn sl ss (fu + 100)) := by kernel_rfl
 have c0 : Z8z prog fu sn sl ss (fu + 100) = Z71 fu sn sl ss (fu + 100) := by funext Z0O Z0P Z3V Z3W Z3X Z3Y Z3Z Z40 Z41 Z42 k; exact Zvd fu sn sl ss (fu + 100) Z0O Z0P Z3V Z3W Z3X Z3Y Z3Z Z40 Z41 Z42 k
 rw [h1, c0]
 rfl
def ZhQ (sn : Nat) (sl : List Int) (ss : P2) : (D8i) × STy := (ZbY 1000000 sn sl ss).getD ((0, 0, 0, 0, 0, 0, 0, 0), 0, [], 0, 0)
def Z5T : (Nat) -> (List Int) -> P2 -> ((D8i) × STy) := shut ZhQ
theorem ZsO (sn : Nat) (sl : List Int) (ss : P2) : Z5T sn sl ss = ZhQ sn sl ss := by
 unfold Z5T
 rw [Zu]
set_option maxHeartbeats 4000000 in
theorem ZsP (sn : Nat) (sl : List Int) (ss : P2) (hp : (srcB sn sl ss) = true) : ∃ r, ZbY 1000000 sn sl ss = some r /\ srcB sn sl r.2.2.2 = true /\ Z0n r.1 = true := by
 have h1 := Zh sn sl ss 7 hp
 have hr := Z0Y sn sl ss 7 hp (by decide)
 have key : ∀ (m F : Nat) (a b p c a1 a2 b1 b2 d1 d2 : Int), m < 100 -> m < F -> srcB sn sl (a, b) = true -> Z0n (p, c, a1, a2, b1, b2, d1, d2) = true -> ∃ r, Z71 1000000 sn sl ss F a b p c a1 a2 b1 b2 d1 d2 (m : Int) = some r /\ (srcB sn sl r.2.2.2 = true /\ Z0n r.1 = true) := by
  intro m
  induction m with
  | zero =>
   intro F a b p c a1 a2 b1 b2 d1 d2 _ hF hs hd
   obtain ⟨F, rfl⟩ : ∃ G, F = G + 1 := ⟨F - 1, by omega⟩
   show ∃ r, Z8t sn sl ss _ a b p c a1 a2 b1 b2 d1 d2 ((0 : Nat) : Int) = some r /\ _
   unfold Z8t
   rw [if_neg (by decide)]
   exact Z7X ⟨hs, hd⟩
  | succ m ih =>
   intro F a b p c a1 a2 b1 b2 d1 d2 hm hF hs hd
   obtain ⟨F, rfl⟩ : ∃ G, F = G + 1 := ⟨F - 1, by omega⟩
   have hl : (srcB sn sl (a, b) && Z6 (p, c, a1, a2, b1, b2, d1, d2).1) = true := Z2W hs (ZgG hd)
   obtain ⟨q1, q2⟩ := Zbs sn sl (a, b) (p, c, a1, a2, b1, b2, d1, d2) hl
   have hz : (ZU sn sl (a, b) (p, c, a1, a2, b1, b2, d1, d2)).1.size <= 1048576 := Nat.le_trans q2 (by decide)
   obtain ⟨k1, k2, k3, k4⟩ := Zex (p, c, a1, a2, b1, b2, d1, d2) _ hz
   have hk := (ZBC hz hd).1
   have hw : wI (((m + 1 : Nat) : Int) - 1) = (m : Int) := by rw [Zz]; unfold wrap64; omega
   show ∃ r, Z8t sn sl ss (Z71 1000000 sn sl ss F) a b p c a1 a2 b1 b2 d1 d2 ((m + 1 : Nat) : Int) = some r /\ _
   unfold Z8t
   rw [if_pos (by first | (simp; done) | (simp; omega)), if_pos hl, if_pos k1, hw]
   exact ih F _ _ _ _ _ _ _ _ _ _ (by omega) (by omega) q1 hk
 obtain ⟨m, hm⟩ : ∃ m : Nat, (Z8 sn sl ss 7).1 = (m : Int) := ⟨(Z8 sn sl ss 7).1.toNat, by omega⟩
 unfold ZbY Zm9
 rw [if_pos hp, hm]
 exact key m (1000000 + 100) _ _ _ _ _ _ _ _ _ _ (by omega) (by omega) h1 (by decide)
theorem Zni (sn : Nat) (sl : List Int) (ss : P2) (hp : (srcB sn sl ss) = true) : (fun r : (D8i) × STy => srcB sn sl r.2.2.2 = true /\ Z0n r.1 = true) (Z5T sn sl ss) := by
 obtain ⟨r, e, h⟩ := ZsP sn sl ss hp
 rw [ZsO]
 unfold ZhQ
 rw [e]
 first | done | exact h
theorem ZEn (sn : Nat) (sl : List Int) (ss : P2) (hp : (srcB sn sl ss) = true) : ZbY 1000000 sn sl ss = some (Z5T sn sl ss) := by
 obtain ⟨r, e, _⟩ := ZsP sn sl ss hp
 rw [ZsO]
 unfold ZhQ
 rw [e]
 rfl
def Ze8 : PRun
 | 77, [.s sn (.byts sl), .v (.int .i64 s_1), .v (.int .u64 s_2)], [] => some (srcB sn sl (s_1, s_2), ZAj (Z5T sn sl (s_1, s_2)))
 | _, _, _ => none
theorem Zlv : Zag prog 26 Ze8 := by
 refine Z5U ZMC ZFO (by kernel_rfl) func26 ntmps26 rfl (by kernel_rfl) ?_
 intro e bcs pvs rs bcs' hrun
 unfold Ze8 at hrun
 split at hrun
 ·simp only [Option.some.injEq, Prod.mk.injEq] at hrun
  obtain ⟨hp, hrun⟩ := hrun
  rename_i sn sl s_1 s_2
  exact ⟨_, Z5T sn sl (s_1, s_2), by first | exact hrun.symm | exact (Prod.ext hrun.1 hrun.2).symm, (ZGD _ sn sl (s_1, s_2)).trans (ZEn sn sl (s_1, s_2) hp)⟩
 ·cases hrun

def Z1J : Sums := ⟨tblS [(43, Z66), (15, Z8J)], tblM [(28, .box Z25), (27, .box Z6V)], false⟩
theorem Zxl : Ze prog Z1J := ⟨Za ⟨⟨call43, Z7M⟩, ⟨call15, Zb1⟩, ⟨⟩⟩, Z6a ⟨⟨call28, Z22⟩, ⟨call27, Zax⟩, ⟨⟩⟩⟩
def Z9N (sn : Nat) (sl : List Int) (ss : P2) (Z0O Z0P : Int) (Z0Z Z10 : Int) (Z11 Z12 : Int) (Z13 Z14 : Int) (Z15 Z16 : Int) (out : ByteArray) (k : Int) : Tab := ⟨[.ptr 0 0, jK, .val (.string (bs [])), .val (.string out), .ptr 16 0, vI (k), jK, jK, jK, jK, .val (.agg ⟨[.int .i64 ((Zn 7).1), .int .i64 ((Zn 7).2.1), .int .i64 ((Zn 7).2.2.1), .int .i64 ((Zn 7).2.2.2.1), .int .i64 ((Zn 7).2.2.2.2.1), .int .i64 ((Zn 7).2.2.2.2.2.1), .int .i64 ((Zn 7).2.2.2.2.2.2.1), .int .i64 ((Zn 7).2.2.2.2.2.2.2)]⟩), .ptr 0 0, vI (((Z8 sn sl ss 9).1)), vI ((wI (1 + ((Z8 sn sl ss 9).1)))), ] ++ (jN 44 ++ [jK]), [(0, .box 77 [.row 1, vI (Z0O), .val (.int .u64 Z0P)]), (1, .ros sn (.byts sl)), (16, .box 28 [vI (Z0Z), vI (Z10), vI (Z11), vI (Z12), vI (Z13), vI (Z14), vI (Z15), vI (Z16)])]⟩
def Zup (sn : Nat) (sl : List Int) (ss : P2) (Z0O Z0P : Int) (Z0Z Z10 : Int) (Z11 Z12 : Int) (Z13 Z14 : Int) (Z15 Z16 : Int) (out : ByteArray) (k : Int) (out' : ByteArray) : Tab := ⟨[.ptr 0 0, jK, .val (.string (bs [])), .val (.string out'), .ptr 16 0, vI (k), jK, jK, jK, jK, .val (.agg ⟨[.int .i64 ((Zn 7).1), .int .i64 ((Zn 7).2.1), .int .i64 ((Zn 7).2.2.1), .int .i64 ((Zn 7).2.2.2.1), .int .i64 ((Zn 7).2.2.2.2.1), .int .i64 ((Zn 7).2.2.2.2.2.1), .int .i64 ((Zn 7).2.2.2.2.2.2.1), .int .i64 ((Zn 7).2.2.2.2.2.2.2)]⟩), .ptr 0 0, vI (((Z8 sn sl ss 9).1)), vI ((wI (1 + ((Z8 sn sl ss 9).1)))), vI (k), vB ((decide (k > 0))), ] ++ (jN 16 ++ [.ptr 0 0, vI (((Z8 sn sl (Z0O, Z0P) 40).1)), vB ((((Z8 sn sl (Z0O, Z0P) 40).1) == 0)), vB ((((Z8 sn sl (Z0O, Z0P) 40).1) == 0)), ] ++ (jN 22 ++ [jK])), [(0, .box 77 [.row 1, vI (((Z8 sn sl (Z0O, Z0P) 40).2.2.2.1)), .val (.int .u64 ((Z8 sn sl (Z0O, Z0P) 40).2.2.2.2))]), (1, .ros sn (.byts sl)), (16, .box 28 [vI (Z0Z), vI (Z10), vI (Z11), vI (Z12), vI (Z13), vI (Z14), vI (Z15), vI (Z16)])]⟩
def Z5M (P : Program) (fu sn : Nat) (sl : List Int) (ss : P2) (Z0O Z0P : Int) (Z0Z Z10 : Int) (Z11 Z12 : Int) (Z13 Z14 : Int) (Z15 Z16 : Int) (out : ByteArray) (k : Int) (rc0 : Tab -> Option (ByteArray × STy)) (f : Nat) (out' : ByteArray) : Option (ByteArray × STy) := Z1u (exec P Z1J 59 (fun _ => fu + 100) (Code.sub [1, 1, 1, 0, 1, 0, 1, 1, 0, 0] (ZS P 40))) f (Zup sn sl ss Z0O Z0P Z0Z Z10 Z11 Z12 Z13 Z14 Z15 Z16 out k out') (Z0g 3 (Z0g 2 (kSeq (fun zs9 => exec P Z1J 59 (fun _ => fu + 100) (Code.sub [1, 1, 1, 1] (ZS P 40)) zs9 (finP P 40 77 [.s sn (.byts sl), .v (.int .i64 ss.1), .v (.int .u64 ss.2)] Z3E)) (finP P 40 77 [.s sn (.byts sl), .v (.int .i64 ss.1), .v (.int .u64 ss.2)] Z3E))))
def Z5E (sn : Nat) (sl : List Int) (ss : P2) (Z0O Z0P : Int) (Z0Z Z10 : Int) (Z11 Z12 : Int) (Z13 Z14 : Int) (Z15 Z16 : Int) (out : ByteArray) (k : Int) (Z1F : Int -> Int -> Int -> Int -> Int -> Int -> Int -> Int -> Int -> Int -> ByteArray -> Int -> Option (ByteArray × STy)) (ZDN : ByteArray -> Option (ByteArray × STy)) (out' : ByteArray) : Option (ByteArray × STy) :=
 (if (decide (((out'.size : Nat) : Int) <= 4000)) = true then (if (Nat.ble (out'.size + (bs [113, 117, 97, 100, 114, 97, 110, 99, 101, 115, 10]).size) 9223372036854775807) = true then ZDN (out' ++ (bs [113, 117, 97, 100, 114, 97, 110, 99, 101, 115, 10])) else none) else some (out', sn, sl, (Z8 sn sl (Z0O, Z0P) 40).2.2.2))
def Z2y (fu sn : Nat) (sl : List Int) (ss : P2) (Z0O Z0P : Int) (Z0Z Z10 : Int) (Z11 Z12 : Int) (Z13 Z14 : Int) (Z15 Z16 : Int) (out : ByteArray) (k : Int) (Z1F : Int -> Int -> Int -> Int -> Int -> Int -> Int -> Int -> Int -> Int -> ByteArray -> Int -> Option (ByteArray × STy)) : Nat -> ByteArray -> Option (ByteArray × STy)
 | 0, _ => none
 | f + 1, out' => Z5E sn sl ss Z0O Z0P Z0Z Z10 Z11 Z12 Z13 Z14 Z15 Z16 out k Z1F (Z2y fu sn sl ss Z0O Z0P Z0Z Z10 Z11 Z12 Z13 Z14 Z15 Z16 out k Z1F f) out'
theorem Zoq (fu sn : Nat) (sl : List Int) (ss : P2) (Z0O Z0P : Int) (Z0Z Z10 : Int) (Z11 Z12 : Int) (Z13 Z14 : Int) (Z15 Z16 : Int) (out : ByteArray) (k : Int) (rc0 : Tab -> Option (ByteArray × STy)) : ∀ (f : Nat) (out' : ByteArray), Z5M prog fu sn sl ss Z0O Z0P Z0Z Z10 Z11 Z12 Z13 Z14 Z15 Z16 out k rc0 f out' = Z2y fu sn sl ss Z0O Z0P Z0Z Z10 Z11 Z12 Z13 Z14 Z15 Z16 out k (fun Z0O Z0P Z0Z Z10 Z11 Z12 Z13 Z14 Z15 Z16 out k => rc0 (Z9N sn sl ss Z0O Z0P Z0Z Z10 Z11 Z12 Z13 Z14 Z15 Z16 out k)) f out' := by
 intro f
 induction f with
 | zero => intros; rfl
 | succ f ih =>
  intro out'
  have h1 : Z5M prog fu sn sl ss Z0O Z0P Z0Z Z10 Z11 Z12 Z13 Z14 Z15 Z16 out k rc0 (f + 1) out' = Z5E sn sl ss Z0O Z0P Z0Z Z10 Z11 Z12 Z13 Z14 Z15 Z16 out k (fun Z0O Z0P Z0Z Z10 Z11 Z12 Z13 Z14 Z15 Z16 out k => rc0 (Z9N sn sl ss Z0O Z0P Z0Z Z10 Z11 Z12 Z13 Z14 Z15 Z16 out k)) (Z5M prog fu sn sl ss Z0O Z0P Z0Z Z10 Z11 Z12 Z13 Z14 Z15 Z16 out k rc0 f) out' := by kernel_rfl
  have h2 : Z5M prog fu sn sl ss Z0O Z0P Z0Z Z10 Z11 Z12 Z13 Z14 Z15 Z16 out k rc0 f = Z2y fu sn sl ss Z0O Z0P Z0Z Z10 Z11 Z12 Z13 Z14 Z15 Z16 out k (fun Z0O Z0P Z0Z Z10 Z11 Z12 Z13 Z14 Z15 Z16 out k => rc0 (Z9N sn sl ss Z0O Z0P Z0Z Z10 Z11 Z12 Z13 Z14 Z15 Z16 out k)) f := by funext out'; exact ih out'
  rw [h1, h2]
  rfl
def Z4b (P : Program) (fu sn : Nat) (sl : List Int) (ss : P2) (f : Nat) (Z0O Z0P : Int) (Z0Z Z10 : Int) (Z11 Z12 : Int) (Z13 Z14 : Int) (Z15 Z16 : Int) (out : ByteArray) (k : Int) : Option (ByteArray × STy) := Z1u (exec P Z1J 59 (fun _ => fu + 100) (Code.sub [1, 1, 0, 1, 0, 0] (ZS P 40))) f (Z9N sn sl ss Z0O Z0P Z0Z Z10 Z11 Z12 Z13 Z14 Z15 Z16 out k) (Z0g 0 (kSeq (fun zs9 => exec P Z1J 59 (fun _ => fu + 100) (Code.sub [1, 1, 1] (ZS P 40)) zs9 (finP P 40 77 [.s sn (.byts sl), .v (.int .i64 ss.1), .v (.int .u64 ss.2)] Z3E)) (finP P 40 77 [.s sn (.byts sl), .v (.int .i64 ss.1), .v (.int .u64 ss.2)] Z3E)))
def Z5D (sn : Nat) (sl : List Int) (ss : P2) (lo1 : ByteArray -> Option (ByteArray × STy)) (Z1F : Int -> Int -> Int -> Int -> Int -> Int -> Int -> Int -> Int -> Int -> ByteArray -> Int -> Option (ByteArray × STy)) (Z0O Z0P : Int) (Z0Z Z10 : Int) (Z11 Z12 : Int) (Z13 Z14 : Int) (Z15 Z16 : Int) (out : ByteArray) (k : Int) : Option (ByteArray × STy) :=
 (if (decide (k > 0)) = true then (if (srcB sn sl (Z0O, Z0P) && Z6 (Z0Z, Z10, Z11, Z12, Z13, Z14, Z15, Z16).1) = true then (if (Z3w (Z0Z, Z10, Z11, Z12, Z13, Z14, Z15, Z16) ((ZU sn sl (Z0O, Z0P) (Z0Z, Z10, Z11, Z12, Z13, Z14, Z15, Z16)).1)) = true then (if (Nat.ble (out.size + ((ZU sn sl (Z0O, Z0P) (Z0Z, Z10, Z11, Z12, Z13, Z14, Z15, Z16)).1).size) 9223372036854775807) = true then (if (Nat.ble ((out ++ ((ZU sn sl (Z0O, Z0P) (Z0Z, Z10, Z11, Z12, Z13, Z14, Z15, Z16)).1)).size + (bs [10]).size) 9223372036854775807) = true then Z1F ((ZU sn sl (Z0O, Z0P) (Z0Z, Z10, Z11, Z12, Z13, Z14, Z15, Z16)).2.2.2.1) ((ZU sn sl (Z0O, Z0P) (Z0Z, Z10, Z11, Z12, Z13, Z14, Z15, Z16)).2.2.2.2) (((Zs (Z0Z, Z10, Z11, Z12, Z13, Z14, Z15, Z16) ((ZU sn sl (Z0O, Z0P) (Z0Z, Z10, Z11, Z12, Z13, Z14, Z15, Z16)).1)).1).1) (((Zs (Z0Z, Z10, Z11, Z12, Z13, Z14, Z15, Z16) ((ZU sn sl (Z0O, Z0P) (Z0Z, Z10, Z11, Z12, Z13, Z14, Z15, Z16)).1)).1).2.1) (((Zs (Z0Z, Z10, Z11, Z12, Z13, Z14, Z15, Z16) ((ZU sn sl (Z0O, Z0P) (Z0Z, Z10, Z11, Z12, Z13, Z14, Z15, Z16)).1)).1).2.2.1) (((Zs (Z0Z, Z10, Z11, Z12, Z13, Z14, Z15, Z16) ((ZU sn sl (Z0O, Z0P) (Z0Z, Z10, Z11, Z12, Z13, Z14, Z15, Z16)).1)).1).2.2.2.1) (((Zs (Z0Z, Z10, Z11, Z12, Z13, Z14, Z15, Z16) ((ZU sn sl (Z0O, Z0P) (Z0Z, Z10, Z11, Z12, Z13, Z14, Z15, Z16)).1)).1).2.2.2.2.1) (((Zs (Z0Z, Z10, Z11, Z12, Z13, Z14, Z15, Z16) ((ZU sn sl (Z0O, Z0P) (Z0Z, Z10, Z11, Z12, Z13, Z14, Z15, Z16)).1)).1).2.2.2.2.2.1) (((Zs (Z0Z, Z10, Z11, Z12, Z13, Z14, Z15, Z16) ((ZU sn sl (Z0O, Z0P) (Z0Z, Z10, Z11, Z12, Z13, Z14, Z15, Z16)).1)).1).2.2.2.2.2.2.1) (((Zs (Z0Z, Z10, Z11, Z12, Z13, Z14, Z15, Z16) ((ZU sn sl (Z0O, Z0P) (Z0Z, Z10, Z11, Z12, Z13, Z14, Z15, Z16)).1)).1).2.2.2.2.2.2.2) ((out ++ ((ZU sn sl (Z0O, Z0P) (Z0Z, Z10, Z11, Z12, Z13, Z14, Z15, Z16)).1)) ++ (bs [10])) (wI (k - 1)) else none) else none) else none) else none) else (if (srcB sn sl (Z0O, Z0P)) = true then (if (((Z8 sn sl (Z0O, Z0P) 40).1) == 0) = true then lo1 out else (if (((Z8 sn sl (Z0O, Z0P) 40).1) == 1) = true then (if (Nat.ble (out.size + (bs [10]).size) 9223372036854775807) = true then (if (Nat.ble ((out ++ (bs [10])).size + (bs [10]).size) 9223372036854775807) = true then (if (Nat.ble (((out ++ (bs [10])) ++ (bs [10])).size + (bs [10]).size) 9223372036854775807) = true then (if (Nat.ble ((((out ++ (bs [10])) ++ (bs [10])) ++ (bs [10])).size + (bs [10]).size) 9223372036854775807) = true then (if (Nat.ble (((((out ++ (bs [10])) ++ (bs [10])) ++ (bs [10])) ++ (bs [10])).size + (bs [10]).size) 9223372036854775807) = true then (if (Nat.ble ((((((out ++ (bs [10])) ++ (bs [10])) ++ (bs [10])) ++ (bs [10])) ++ (bs [10])).size + (bs [10]).size) 9223372036854775807) = true then (if (Nat.ble (((((((out ++ (bs [10])) ++ (bs [10])) ++ (bs [10])) ++ (bs [10])) ++ (bs [10])) ++ (bs [10])).size + (bs [10]).size) 9223372036854775807) = true then (if (Nat.ble ((((((((out ++ (bs [10])) ++ (bs [10])) ++ (bs [10])) ++ (bs [10])) ++ (bs [10])) ++ (bs [10])) ++ (bs [10])).size + (bs [10]).size) 9223372036854775807) = true then (if (Nat.ble (((((((((out ++ (bs [10])) ++ (bs [10])) ++ (bs [10])) ++ (bs [10])) ++ (bs [10])) ++ (bs [10])) ++ (bs [10])) ++ (bs [10])).size + (bs [10]).size) 9223372036854775807) = true then (if (Nat.ble ((((((((((out ++ (bs [10])) ++ (bs [10])) ++ (bs [10])) ++ (bs [10])) ++ (bs [10])) ++ (bs [10])) ++ (bs [10])) ++ (bs [10])) ++ (bs [10])).size + (bs [10]).size) 9223372036854775807) = true then (if (Nat.ble (((((((((((out ++ (bs [10])) ++ (bs [10])) ++ (bs [10])) ++ (bs [10])) ++ (bs [10])) ++ (bs [10])) ++ (bs [10])) ++ (bs [10])) ++ (bs [10])) ++ (bs [10])).size + (bs [10]).size) 9223372036854775807) = true then (if (Nat.ble ((((((((((((out ++ (bs [10])) ++ (bs [10])) ++ (bs [10])) ++ (bs [10])) ++ (bs [10])) ++ (bs [10])) ++ (bs [10])) ++ (bs [10])) ++ (bs [10])) ++ (bs [10])) ++ (bs [10])).size + (bs [10]).size) 9223372036854775807) = true then (if (Nat.ble (((((((((((((out ++ (bs [10])) ++ (bs [10])) ++ (bs [10])) ++ (bs [10])) ++ (bs [10])) ++ (bs [10])) ++ (bs [10])) ++ (bs [10])) ++ (bs [10])) ++ (bs [10])) ++ (bs [10])) ++ (bs [10])).size + (bs [10]).size) 9223372036854775807) = true then (if (Nat.ble ((((((((((((((out ++ (bs [10])) ++ (bs [10])) ++ (bs [10])) ++ (bs [10])) ++ (bs [10])) ++ (bs [10])) ++ (bs [10])) ++ (bs [10])) ++ (bs [10])) ++ (bs [10])) ++ (bs [10])) ++ (bs [10])) ++ (bs [10])).size + (bs [10]).size) 9223372036854775807) = true then (if (Nat.ble (((((((((((((((out ++ (bs [10])) ++ (bs [10])) ++ (bs [10])) ++ (bs [10])) ++ (bs [10])) ++ (bs [10])) ++ (bs [10])) ++ (bs [10])) ++ (bs [10])) ++ (bs [10])) ++ (bs [10])) ++ (bs [10])) ++ (bs [10])) ++ (bs [10])).size + (bs [10]).size) 9223372036854775807) = true then (if (Nat.ble ((((((((((((((((out ++ (bs [10])) ++ (bs [10])) ++ (bs [10])) ++ (bs [10])) ++ (bs [10])) ++ (bs [10])) ++ (bs [10])) ++ (bs [10])) ++ (bs [10])) ++ (bs [10])) ++ (bs [10])) ++ (bs [10])) ++ (bs [10])) ++ (bs [10])) ++ (bs [10])).size + (bs [10]).size) 9223372036854775807) = true then (if (Nat.ble (((((((((((((((((out ++ (bs [10])) ++ (bs [10])) ++ (bs [10])) ++ (bs [10])) ++ (bs [10])) ++ (bs [10])) ++ (bs [10])) ++ (bs [10])) ++ (bs [10])) ++ (bs [10])) ++ (bs [10])) ++ (bs [10])) ++ (bs [10])) ++ (bs [10])) ++ (bs [10])) ++ (bs [10])).size + (bs [10]).size) 9223372036854775807) = true then (if (Nat.ble ((((((((((((((((((out ++ (bs [10])) ++ (bs [10])) ++ (bs [10])) ++ (bs [10])) ++ (bs [10])) ++ (bs [10])) ++ (bs [10])) ++ (bs [10])) ++ (bs [10])) ++ (bs [10])) ++ (bs [10])) ++ (bs [10])) ++ (bs [10])) ++ (bs [10])) ++ (bs [10])) ++ (bs [10])) ++ (bs [10])).size + (bs [10]).size) 9223372036854775807) = true then (if (Nat.ble (((((((((((((((((((out ++ (bs [10])) ++ (bs [10])) ++ (bs [10])) ++ (bs [10])) ++ (bs [10])) ++ (bs [10])) ++ (bs [10])) ++ (bs [10])) ++ (bs [10])) ++ (bs [10])) ++ (bs [10])) ++ (bs [10])) ++ (bs [10])) ++ (bs [10])) ++ (bs [10])) ++ (bs [10])) ++ (bs [10])) ++ (bs [10])).size + (bs [10]).size) 9223372036854775807) = true then (if (Nat.ble ((((((((((((((((((((out ++ (bs [10])) ++ (bs [10])) ++ (bs [10])) ++ (bs [10])) ++ (bs [10])) ++ (bs [10])) ++ (bs [10])) ++ (bs [10])) ++ (bs [10])) ++ (bs [10])) ++ (bs [10])) ++ (bs [10])) ++ (bs [10])) ++ (bs [10])) ++ (bs [10])) ++ (bs [10])) ++ (bs [10])) ++ (bs [10])) ++ (bs [10])).size + (bs [10]).size) 9223372036854775807) = true then (if (Nat.ble (((((((((((((((((((((out ++ (bs [10])) ++ (bs [10])) ++ (bs [10])) ++ (bs [10])) ++ (bs [10])) ++ (bs [10])) ++ (bs [10])) ++ (bs [10])) ++ (bs [10])) ++ (bs [10])) ++ (bs [10])) ++ (bs [10])) ++ (bs [10])) ++ (bs [10])) ++ (bs [10])) ++ (bs [10])) ++ (bs [10])) ++ (bs [10])) ++ (bs [10])) ++ (bs [10])).size + (bs [10]).size) 9223372036854775807) = true then (if (Nat.ble ((((((((((((((((((((((out ++ (bs [10])) ++ (bs [10])) ++ (bs [10])) ++ (bs [10])) ++ (bs [10])) ++ (bs [10])) ++ (bs [10])) ++ (bs [10])) ++ (bs [10])) ++ (bs [10])) ++ (bs [10])) ++ (bs [10])) ++ (bs [10])) ++ (bs [10])) ++ (bs [10])) ++ (bs [10])) ++ (bs [10])) ++ (bs [10])) ++ (bs [10])) ++ (bs [10])) ++ (bs [10])).size + (bs [10]).size) 9223372036854775807) = true then (if (Nat.ble (((((((((((((((((((((((out ++ (bs [10])) ++ (bs [10])) ++ (bs [10])) ++ (bs [10])) ++ (bs [10])) ++ (bs [10])) ++ (bs [10])) ++ (bs [10])) ++ (bs [10])) ++ (bs [10])) ++ (bs [10])) ++ (bs [10])) ++ (bs [10])) ++ (bs [10])) ++ (bs [10])) ++ (bs [10])) ++ (bs [10])) ++ (bs [10])) ++ (bs [10])) ++ (bs [10])) ++ (bs [10])) ++ (bs [10])).size + (bs [10]).size) 9223372036854775807) = true then (if (Nat.ble ((((((((((((((((((((((((out ++ (bs [10])) ++ (bs [10])) ++ (bs [10])) ++ (bs [10])) ++ (bs [10])) ++ (bs [10])) ++ (bs [10])) ++ (bs [10])) ++ (bs [10])) ++ (bs [10])) ++ (bs [10])) ++ (bs [10])) ++ (bs [10])) ++ (bs [10])) ++ (bs [10])) ++ (bs [10])) ++ (bs [10])) ++ (bs [10])) ++ (bs [10])) ++ (bs [10])) ++ (bs [10])) ++ (bs [10])) ++ (bs [10])).size + (bs [10]).size) 9223372036854775807) = true then (if (Nat.ble (((((((((((((((((((((((((out ++ (bs [10])) ++ (bs [10])) ++ (bs [10])) ++ (bs [10])) ++ (bs [10])) ++ (bs [10])) ++ (bs [10])) ++ (bs [10])) ++ (bs [10])) ++ (bs [10])) ++ (bs [10])) ++ (bs [10])) ++ (bs [10])) ++ (bs [10])) ++ (bs [10])) ++ (bs [10])) ++ (bs [10])) ++ (bs [10])) ++ (bs [10])) ++ (bs [10])) ++ (bs [10])) ++ (bs [10])) ++ (bs [10])) ++ (bs [10])).size + (bs [10]).size) 9223372036854775807) = true then (if (Nat.ble ((((((((((((((((((((((((((out ++ (bs [10])) ++ (bs [10])) ++ (bs [10])) ++ (bs [10])) ++ (bs [10])) ++ (bs [10])) ++ (bs [10])) ++ (bs [10])) ++ (bs [10])) ++ (bs [10])) ++ (bs [10])) ++ (bs [10])) ++ (bs [10])) ++ (bs [10])) ++ (bs [10])) ++ (bs [10])) ++ (bs [10])) ++ (bs [10])) ++ (bs [10])) ++ (bs [10])) ++ (bs [10])) ++ (bs [10])) ++ (bs [10])) ++ (bs [10])) ++ (bs [10])).size + (bs [10]).size) 9223372036854775807) = true then (if (Nat.ble (((((((((((((((((((((((((((out ++ (bs [10])) ++ (bs [10])) ++ (bs [10])) ++ (bs [10])) ++ (bs [10])) ++ (bs [10])) ++ (bs [10])) ++ (bs [10])) ++ (bs [10])) ++ (bs [10])) ++ (bs [10])) ++ (bs [10])) ++ (bs [10])) ++ (bs [10])) ++ (bs [10])) ++ (bs [10])) ++ (bs [10])) ++ (bs [10])) ++ (bs [10])) ++ (bs [10])) ++ (bs [10])) ++ (bs [10])) ++ (bs [10])) ++ (bs [10])) ++ (bs [10])) ++ (bs [10])).size + (bs [10]).size) 9223372036854775807) = true then (if (Nat.ble ((((((((((((((((((((((((((((out ++ (bs [10])) ++ (bs [10])) ++ (bs [10])) ++ (bs [10])) ++ (bs [10])) ++ (bs [10])) ++ (bs [10])) ++ (bs [10])) ++ (bs [10])) ++ (bs [10])) ++ (bs [10])) ++ (bs [10])) ++ (bs [10])) ++ (bs [10])) ++ (bs [10])) ++ (bs [10])) ++ (bs [10])) ++ (bs [10])) ++ (bs [10])) ++ (bs [10])) ++ (bs [10])) ++ (bs [10])) ++ (bs [10])) ++ (bs [10])) ++ (bs [10])) ++ (bs [10])) ++ (bs [10])).size + (bs [10]).size) 9223372036854775807) = true then (if (Nat.ble (((((((((((((((((((((((((((((out ++ (bs [10])) ++ (bs [10])) ++ (bs [10])) ++ (bs [10])) ++ (bs [10])) ++ (bs [10])) ++ (bs [10])) ++ (bs [10])) ++ (bs [10])) ++ (bs [10])) ++ (bs [10])) ++ (bs [10])) ++ (bs [10])) ++ (bs [10])) ++ (bs [10])) ++ (bs [10])) ++ (bs [10])) ++ (bs [10])) ++ (bs [10])) ++ (bs [10])) ++ (bs [10])) ++ (bs [10])) ++ (bs [10])) ++ (bs [10])) ++ (bs [10])) ++ (bs [10])) ++ (bs [10])) ++ (bs [10])).size + (bs [10]).size) 9223372036854775807) = true then (if (Nat.ble ((((((((((((((((((((((((((((((out ++ (bs [10])) ++ (bs [10])) ++ (bs [10])) ++ (bs [10])) ++ (bs [10])) ++ (bs [10])) ++ (bs [10])) ++ (bs [10])) ++ (bs [10])) ++ (bs [10])) ++ (bs [10])) ++ (bs [10])) ++ (bs [10])) ++ (bs [10])) ++ (bs [10])) ++ (bs [10])) ++ (bs [10])) ++ (bs [10])) ++ (bs [10])) ++ (bs [10])) ++ (bs [10])) ++ (bs [10])) ++ (bs [10])) ++ (bs [10])) ++ (bs [10])) ++ (bs [10])) ++ (bs [10])) ++ (bs [10])) ++ (bs [10])).size + (bs [10]).size) 9223372036854775807) = true then (if (Nat.ble (((((((((((((((((((((((((((((((out ++ (bs [10])) ++ (bs [10])) ++ (bs [10])) ++ (bs [10])) ++ (bs [10])) ++ (bs [10])) ++ (bs [10])) ++ (bs [10])) ++ (bs [10])) ++ (bs [10])) ++ (bs [10])) ++ (bs [10])) ++ (bs [10])) ++ (bs [10])) ++ (bs [10])) ++ (bs [10])) ++ (bs [10])) ++ (bs [10])) ++ (bs [10])) ++ (bs [10])) ++ (bs [10])) ++ (bs [10])) ++ (bs [10])) ++ (bs [10])) ++ (bs [10])) ++ (bs [10])) ++ (bs [10])) ++ (bs [10])) ++ (bs [10])) ++ (bs [10])).size + (bs [10]).size) 9223372036854775807) = true then (if (Nat.ble ((((((((((((((((((((((((((((((((out ++ (bs [10])) ++ (bs [10])) ++ (bs [10])) ++ (bs [10])) ++ (bs [10])) ++ (bs [10])) ++ (bs [10])) ++ (bs [10])) ++ (bs [10])) ++ (bs [10])) ++ (bs [10])) ++ (bs [10])) ++ (bs [10])) ++ (bs [10])) ++ (bs [10])) ++ (bs [10])) ++ (bs [10])) ++ (bs [10])) ++ (bs [10])) ++ (bs [10])) ++ (bs [10])) ++ (bs [10])) ++ (bs [10])) ++ (bs [10])) ++ (bs [10])) ++ (bs [10])) ++ (bs [10])) ++ (bs [10])) ++ (bs [10])) ++ (bs [10])) ++ (bs [10])).size + (bs [10]).size) 9223372036854775807) = true then (if (Nat.ble (((((((((((((((((((((((((((((((((out ++ (bs [10])) ++ (bs [10])) ++ (bs [10])) ++ (bs [10])) ++ (bs [10])) ++ (bs [10])) ++ (bs [10])) ++ (bs [10])) ++ (bs [10])) ++ (bs [10])) ++ (bs [10])) ++ (bs [10])) ++ (bs [10])) ++ (bs [10])) ++ (bs [10])) ++ (bs [10])) ++ (bs [10])) ++ (bs [10])) ++ (bs [10])) ++ (bs [10])) ++ (bs [10])) ++ (bs [10])) ++ (bs [10])) ++ (bs [10])) ++ (bs [10])) ++ (bs [10])) ++ (bs [10])) ++ (bs [10])) ++ (bs [10])) ++ (bs [10])) ++ (bs [10])) ++ (bs [10])).size + (bs [10]).size) 9223372036854775807) = true then (if (Nat.ble ((((((((((((((((((((((((((((((((((out ++ (bs [10])) ++ (bs [10])) ++ (bs [10])) ++ (bs [10])) ++ (bs [10])) ++ (bs [10])) ++ (bs [10])) ++ (bs [10])) ++ (bs [10])) ++ (bs [10])) ++ (bs [10])) ++ (bs [10])) ++ (bs [10])) ++ (bs [10])) ++ (bs [10])) ++ (bs [10])) ++ (bs [10])) ++ (bs [10])) ++ (bs [10])) ++ (bs [10])) ++ (bs [10])) ++ (bs [10])) ++ (bs [10])) ++ (bs [10])) ++ (bs [10])) ++ (bs [10])) ++ (bs [10])) ++ (bs [10])) ++ (bs [10])) ++ (bs [10])) ++ (bs [10])) ++ (bs [10])) ++ (bs [10])).size + (bs [10]).size) 9223372036854775807) = true then (if (Nat.ble (((((((((((((((((((((((((((((((((((out ++ (bs [10])) ++ (bs [10])) ++ (bs [10])) ++ (bs [10])) ++ (bs [10])) ++ (bs [10])) ++ (bs [10])) ++ (bs [10])) ++ (bs [10])) ++ (bs [10])) ++ (bs [10])) ++ (bs [10])) ++ (bs [10])) ++ (bs [10])) ++ (bs [10])) ++ (bs [10])) ++ (bs [10])) ++ (bs [10])) ++ (bs [10])) ++ (bs [10])) ++ (bs [10])) ++ (bs [10])) ++ (bs [10])) ++ (bs [10])) ++ (bs [10])) ++ (bs [10])) ++ (bs [10])) ++ (bs [10])) ++ (bs [10])) ++ (bs [10])) ++ (bs [10])) ++ (bs [10])) ++ (bs [10])) ++ (bs [10])).size + (bs [10]).size) 9223372036854775807) = true then (if (Nat.ble ((((((((((((((((((((((((((((((((((((out ++ (bs [10])) ++ (bs [10])) ++ (bs [10])) ++ (bs [10])) ++ (bs [10])) ++ (bs [10])) ++ (bs [10])) ++ (bs [10])) ++ (bs [10])) ++ (bs [10])) ++ (bs [10])) ++ (bs [10])) ++ (bs [10])) ++ (bs [10])) ++ (bs [10])) ++ (bs [10])) ++ (bs [10])) ++ (bs [10])) ++ (bs [10])) ++ (bs [10])) ++ (bs [10])) ++ (bs [10])) ++ (bs [10])) ++ (bs [10])) ++ (bs [10])) ++ (bs [10])) ++ (bs [10])) ++ (bs [10])) ++ (bs [10])) ++ (bs [10])) ++ (bs [10])) ++ (bs [10])) ++ (bs [10])) ++ (bs [10])) ++ (bs [10])).size + (bs [10]).size) 9223372036854775807) = true then (if (Nat.ble (((((((((((((((((((((((((((((((((((((out ++ (bs [10])) ++ (bs [10])) ++ (bs [10])) ++ (bs [10])) ++ (bs [10])) ++ (bs [10])) ++ (bs [10])) ++ (bs [10])) ++ (bs [10])) ++ (bs [10])) ++ (bs [10])) ++ (bs [10])) ++ (bs [10])) ++ (bs [10])) ++ (bs [10])) ++ (bs [10])) ++ (bs [10])) ++ (bs [10])) ++ (bs [10])) ++ (bs [10])) ++ (bs [10])) ++ (bs [10])) ++ (bs [10])) ++ (bs [10])) ++ (bs [10])) ++ (bs [10])) ++ (bs [10])) ++ (bs [10])) ++ (bs [10])) ++ (bs [10])) ++ (bs [10])) ++ (bs [10])) ++ (bs [10])) ++ (bs [10])) ++ (bs [10])) ++ (bs [10])).size + (bs [10]).size) 9223372036854775807) = true then (if (Nat.ble ((((((((((((((((((((((((((((((((((((((out ++ (bs [10])) ++ (bs [10])) ++ (bs [10])) ++ (bs [10])) ++ (bs [10])) ++ (bs [10])) ++ (bs [10])) ++ (bs [10])) ++ (bs [10])) ++ (bs [10])) ++ (bs [10])) ++ (bs [10])) ++ (bs [10])) ++ (bs [10])) ++ (bs [10])) ++ (bs [10])) ++ (bs [10])) ++ (bs [10])) ++ (bs [10])) ++ (bs [10])) ++ (bs [10])) ++ (bs [10])) ++ (bs [10])) ++ (bs [10])) ++ (bs [10])) ++ (bs [10])) ++ (bs [10])) ++ (bs [10])) ++ (bs [10])) ++ (bs [10])) ++ (bs [10])) ++ (bs [10])) ++ (bs [10])) ++ (bs [10])) ++ (bs [10])) ++ (bs [10])) ++ (bs [10])).size + (bs [10]).size) 9223372036854775807) = true then (if (Nat.ble (((((((((((((((((((((((((((((((((((((((out ++ (bs [10])) ++ (bs [10])) ++ (bs [10])) ++ (bs [10])) ++ (bs [10])) ++ (bs [10])) ++ (bs [10])) ++ (bs [10])) ++ (bs [10])) ++ (bs [10])) ++ (bs [10])) ++ (bs [10])) ++ (bs [10])) ++ (bs [10])) ++ (bs [10])) ++ (bs [10])) ++ (bs [10])) ++ (bs [10])) ++ (bs [10])) ++ (bs [10])) ++ (bs [10])) ++ (bs [10])) ++ (bs [10])) ++ (bs [10])) ++ (bs [10])) ++ (bs [10])) ++ (bs [10])) ++ (bs [10])) ++ (bs [10])) ++ (bs [10])) ++ (bs [10])) ++ (bs [10])) ++ (bs [10])) ++ (bs [10])) ++ (bs [10])) ++ (bs [10])) ++ (bs [10])) ++ (bs [10])).size + (bs [10]).size) 9223372036854775807) = true then (if (Nat.ble ((((((((((((((((((((((((((((((((((((((((out ++ (bs [10])) ++ (bs [10])) ++ (bs [10])) ++ (bs [10])) ++ (bs [10])) ++ (bs [10])) ++ (bs [10])) ++ (bs [10])) ++ (bs [10])) ++ (bs [10])) ++ (bs [10])) ++ (bs [10])) ++ (bs [10])) ++ (bs [10])) ++ (bs [10])) ++ (bs [10])) ++ (bs [10])) ++ (bs [10])) ++ (bs [10])) ++ (bs [10])) ++ (bs [10])) ++ (bs [10])) ++ (bs [10])) ++ (bs [10])) ++ (bs [10])) ++ (bs [10])) ++ (bs [10])) ++ (bs [10])) ++ (bs [10])) ++ (bs [10])) ++ (bs [10])) ++ (bs [10])) ++ (bs [10])) ++ (bs [10])) ++ (bs [10])) ++ (bs [10])) ++ (bs [10])) ++ (bs [10])) ++ (bs [10])).size + (bs [10]).size) 9223372036854775807) = true then some ((((((((((((((((((((((((((((((((((((((((out ++ (bs [10])) ++ (bs [10])) ++ (bs [10])) ++ (bs [10])) ++ (bs [10])) ++ (bs [10])) ++ (bs [10])) ++ (bs [10])) ++ (bs [10])) ++ (bs [10])) ++ (bs [10])) ++ (bs [10])) ++ (bs [10])) ++ (bs [10])) ++ (bs [10])) ++ (bs [10])) ++ (bs [10])) ++ (bs [10])) ++ (bs [10])) ++ (bs [10])) ++ (bs [10])) ++ (bs [10])) ++ (bs [10])) ++ (bs [10])) ++ (bs [10])) ++ (bs [10])) ++ (bs [10])) ++ (bs [10])) ++ (bs [10])) ++ (bs [10])) ++ (bs [10])) ++ (bs [10])) ++ (bs [10])) ++ (bs [10])) ++ (bs [10])) ++ (bs [10])) ++ (bs [10])) ++ (bs [10])) ++ (bs [10])) ++ (bs [10]), sn, sl, (Z8 sn sl (Z0O, Z0P) 40).2.2.2) else none) else none) else none) else none) else none) else none) else none) else none) else none) else none) else none) else none) else none) else none) else none) else none) else none) else none) else none) else none) else none) else none) else none) else none) else none) else none) else none) else none) else none) else none) else none) else none) else none) else none) else none) else none) else none) else none) else none) else none) else (if (((Z8 sn sl (Z0O, Z0P) 40).1) == 2) = true then (if (((Z8 sn sl (Z0O, Z0P) 40).1) == 2) = true then (if (decide (0 <= 0) && decide (0 <= (wI (((out.size : Nat) : Int) - 1))) && decide ((wI (((out.size : Nat) : Int) - 1)) <= ((out.size : Nat) : Int))) = true then some (out.extract 0 ((wI (((out.size : Nat) : Int) - 1)).toNat), sn, sl, (Z8 sn sl (Z0O, Z0P) 40).2.2.2) else none) else some (out, sn, sl, (Z8 sn sl (Z0O, Z0P) 40).2.2.2)) else (if (((Z8 sn sl (Z0O, Z0P) 40).1) == 3) = true then (if (((Z8 sn sl (Z0O, Z0P) 40).1) == 3) = true then (if (decide (0 <= 0) && decide (0 <= (wI (((out.size : Nat) : Int) - 1))) && decide ((wI (((out.size : Nat) : Int) - 1)) <= ((out.size : Nat) : Int))) = true then some (out.extract 0 ((wI (((out.size : Nat) : Int) - 1)).toNat), sn, sl, (Z8 sn sl (Z0O, Z0P) 40).2.2.2) else none) else some (out, sn, sl, (Z8 sn sl (Z0O, Z0P) 40).2.2.2)) else (if (((Z8 sn sl (Z0O, Z0P) 40).1) == 4) = true then (if (decide (0 <= 0) && decide (0 <= (wI (((out.size : Nat) : Int) - 1))) && decide ((wI (((out.size : Nat) : Int) - 1)) <= ((out.size : Nat) : Int))) = true then some (out.extract 0 ((wI (((out.size : Nat) : Int) - 1)).toNat), sn, sl, (Z8 sn sl (Z0O, Z0P) 40).2.2.2) else none) else some (out, sn, sl, (Z8 sn sl (Z0O, Z0P) 40).2.2.2)))))) else none))
def Z1I (fu sn : Nat) (sl : List Int) (ss : P2) : Nat -> Int -> Int -> Int -> Int -> Int -> Int -> Int -> Int -> Int -> Int -> ByteArray -> Int -> Option (ByteArray × STy)
 | 0, _, _, _, _, _, _, _, _, _, _, _, _ => none
 | f + 1, Z0O, Z0P, Z0Z, Z10, Z11, Z12, Z13, Z14, Z15, Z16, out, k => Z5D sn sl ss (Z2y fu sn sl ss Z0O Z0P Z0Z Z10 Z11 Z12 Z13 Z14 Z15 Z16 out k (Z1I fu sn sl ss f) (fu + 100)) (Z1I fu sn sl ss f) Z0O Z0P Z0Z Z10 Z11 Z12 Z13 Z14 Z15 Z16 out k
theorem Zop (fu sn : Nat) (sl : List Int) (ss : P2) : ∀ (f : Nat) (Z0O Z0P : Int) (Z0Z Z10 : Int) (Z11 Z12 : Int) (Z13 Z14 : Int) (Z15 Z16 : Int) (out : ByteArray) (k : Int), Z4b prog fu sn sl ss f Z0O Z0P Z0Z Z10 Z11 Z12 Z13 Z14 Z15 Z16 out k = Z1I fu sn sl ss f Z0O Z0P Z0Z Z10 Z11 Z12 Z13 Z14 Z15 Z16 out k := by
 intro f
 induction f with
 | zero => intros; rfl
 | succ f ih =>
  intro Z0O Z0P Z0Z Z10 Z11 Z12 Z13 Z14 Z15 Z16 out k
  have h1 : Z4b prog fu sn sl ss (f + 1) Z0O Z0P Z0Z Z10 Z11 Z12 Z13 Z14 Z15 Z16 out k = Z5D sn sl ss (Z5M prog fu sn sl ss Z0O Z0P Z0Z Z10 Z11 Z12 Z13 Z14 Z15 Z16 out k (fun t => Z1u (exec prog Z1J 59 (fun _ => fu + 100) (Code.sub [1, 1, 0, 1, 0, 0] (ZS prog 40))) f t (Z0g 0 (kSeq (fun zs9 => exec prog Z1J 59 (fun _ => fu + 100) (Code.sub [1, 1, 1] (ZS prog 40)) zs9 (finP prog 40 77 [.s sn (.byts sl), .v (.int .i64 ss.1), .v (.int .u64 ss.2)] Z3E)) (finP prog 40 77 [.s sn (.byts sl), .v (.int .i64 ss.1), .v (.int .u64 ss.2)] Z3E)))) (fu + 100)) (Z4b prog fu sn sl ss f) Z0O Z0P Z0Z Z10 Z11 Z12 Z13 Z14 Z15 Z16 out k := by kernel_rfl
  have h2 : Z4b prog fu sn sl ss f = Z1I fu sn sl ss f := by funext Z0O Z0P Z0Z Z10 Z11 Z12 Z13 Z14 Z15 Z16 out k; exact ih Z0O Z0P Z0Z Z10 Z11 Z12 Z13 Z14 Z15 Z16 out k
  have c1 : (Z5M prog fu sn sl ss Z0O Z0P Z0Z Z10 Z11 Z12 Z13 Z14 Z15 Z16 out k (fun t => Z1u (exec prog Z1J 59 (fun _ => fu + 100) (Code.sub [1, 1, 0, 1, 0, 0] (ZS prog 40))) f t (Z0g 0 (kSeq (fun zs9 => exec prog Z1J 59 (fun _ => fu + 100) (Code.sub [1, 1, 1] (ZS prog 40)) zs9 (finP prog 40 77 [.s sn (.byts sl), .v (.int .i64 ss.1), .v (.int .u64 ss.2)] Z3E)) (finP prog 40 77 [.s sn (.byts sl), .v (.int .i64 ss.1), .v (.int .u64 ss.2)] Z3E)))) (fu + 100)) = Z2y fu sn sl ss Z0O Z0P Z0Z Z10 Z11 Z12 Z13 Z14 Z15 Z16 out k (Z4b prog fu sn sl ss f) (fu + 100) := by funext out'; exact Zoq fu sn sl ss Z0O Z0P Z0Z Z10 Z11 Z12 Z13 Z14 Z15 Z16 out k (fun t => Z1u (exec prog Z1J 59 (fun _ => fu + 100) (Code.sub [1, 1, 0, 1, 0, 0] (ZS prog 40))) f t (Z0g 0 (kSeq (fun zs9 => exec prog Z1J 59 (fun _ => fu + 100) (Code.sub [1, 1, 1] (ZS prog 40)) zs9 (finP prog 40 77 [.s sn (.byts sl), .v (.int .i64 ss.1), .v (.int .u64 ss.2)] Z3E)) (finP prog 40 77 [.s sn (.byts sl), .v (.int .i64 ss.1), .v (.int .u64 ss.2)] Z3E)))) (fu + 100) out'
  rw [h1, c1, h2]
  rfl
def Zgr (sn : Nat) (sl : List Int) (ss : P2) (lo0 : Int -> Int -> Int -> Int -> Int -> Int -> Int -> Int -> Int -> Int -> ByteArray -> Int -> Option (ByteArray × STy)) : Option (ByteArray × STy) :=
 (if (srcB sn sl ss) = true then lo0 ((Z8 sn sl ss 9).2.2.2.1) ((Z8 sn sl ss 9).2.2.2.2) ((Zn 7).1) ((Zn 7).2.1) ((Zn 7).2.2.1) ((Zn 7).2.2.2.1) ((Zn 7).2.2.2.2.1) ((Zn 7).2.2.2.2.2.1) ((Zn 7).2.2.2.2.2.2.1) ((Zn 7).2.2.2.2.2.2.2) (bs []) (wI (1 + ((Z8 sn sl ss 9).1))) else none)
def Z8e (fu sn : Nat) (sl : List Int) (ss : P2) : Option (ByteArray × STy) := Zgr sn sl ss (Z1I fu sn sl ss (fu + 100))
theorem ZxZ (fu sn : Nat) (sl : List Int) (ss : P2) : ZcR prog Z1J 40 59 (fun _ => fu + 100) Z3E 77 [.s sn (.byts sl), .v (.int .i64 ss.1), .v (.int .u64 ss.2)] [] = Z8e fu sn sl ss := by
 have h1 : ZcR prog Z1J 40 59 (fun _ => fu + 100) Z3E 77 [.s sn (.byts sl), .v (.int .i64 ss.1), .v (.int .u64 ss.2)] [] = Zgr sn sl ss (Z4b prog fu sn sl ss (fu + 100)) := by kernel_rfl
 have c0 : Z4b prog fu sn sl ss (fu + 100) = Z1I fu sn sl ss (fu + 100) := by funext Z0O Z0P Z0Z Z10 Z11 Z12 Z13 Z14 Z15 Z16 out k; exact Zop fu sn sl ss (fu + 100) Z0O Z0P Z0Z Z10 Z11 Z12 Z13 Z14 Z15 Z16 out k
 rw [h1, c0]
 rfl
def ZcJ (sn : Nat) (sl : List Int) (ss : P2) : ByteArray × STy := (Z8e 1000000 sn sl ss).getD (.empty, 0, [], 0, 0)
def Z88 : (Nat) -> (List Int) -> P2 -> (ByteArray × STy) := shut ZcJ
theorem Zln (sn : Nat) (sl : List Int) (ss : P2) : Z88 sn sl ss = ZcJ sn sl ss := by
 unfold Z88
 rw [Zu]
set_option maxHeartbeats 4000000 in
theorem Zlo (sn : Nat) (sl : List Int) (ss : P2) (hp : (srcB sn sl ss) = true) : ∃ r, Z8e 1000000 sn sl ss = some r /\ srcB sn sl r.2.2.2 = true /\ r.1.size <= 6000 := by
 have h1 := Zh sn sl ss 9 hp
 have hr := Z0Y sn sl ss 9 hp (by decide)
 have b10 : (bs [10]).size = 1 := rfl
 have b11 : (bs [113, 117, 97, 100, 114, 97, 110, 99, 101, 115, 10]).size = 11 := rfl
 have key1 : ∀ (a b p c a1 a2 b1 b2 d1 d2 : Int) (out : ByteArray) (k : Int) (rc : Int -> Int -> Int -> Int -> Int -> Int -> Int -> Int -> Int -> Int -> ByteArray -> Int -> Option (ByteArray × STy)) (m F : Nat) (o : ByteArray), srcB sn sl (a, b) = true -> o.size <= 4011 -> 4000 < o.size + 11 * m -> m < F ->
   ∃ r, Z2y 1000000 sn sl ss a b p c a1 a2 b1 b2 d1 d2 out k rc F o = some r /\ (srcB sn sl r.2.2.2 = true /\ r.1.size <= 6000) := by
  intro a b p c a1 a2 b1 b2 d1 d2 out k rc m
  induction m with
  | zero =>
   intro F o hs h2 h3 hF
   obtain ⟨F, rfl⟩ : ∃ G, F = G + 1 := ⟨F - 1, by omega⟩
   show ∃ r, Z5E sn sl ss a b p c a1 a2 b1 b2 d1 d2 out k rc _ o = some r /\ _
   unfold Z5E
   rw [if_neg (by simp; omega)]
   exact Z7X ⟨Zh sn sl _ 40 hs, by dsimp only; omega⟩
  | succ m ih =>
   intro F o hs h2 h3 hF
   obtain ⟨F, rfl⟩ : ∃ G, F = G + 1 := ⟨F - 1, by omega⟩
   show ∃ r, Z5E sn sl ss a b p c a1 a2 b1 b2 d1 d2 out k rc (Z2y 1000000 sn sl ss a b p c a1 a2 b1 b2 d1 d2 out k rc F) o = some r /\ _
   unfold Z5E
   by_cases h4 : o.size <= 4000
   ·rw [if_pos (by simp; omega), if_pos (Nat.ble_eq_true_of_le (by rw [b11]; omega))]
    exact ih F _ hs (by rw [Z1a, b11]; omega) (by rw [Z1a, b11]; omega) (by omega)
   ·rw [if_neg (by simp; omega)]
    exact Z7X ⟨Zh sn sl _ 40 hs, by dsimp only; omega⟩
 have key : ∀ (m F : Nat) (a b p c a1 a2 b1 b2 d1 d2 : Int) (out : ByteArray), m < 100 -> m < F -> srcB sn sl (a, b) = true -> Z0n (p, c, a1, a2, b1, b2, d1, d2) = true -> (1 <= out.size \/ 1 <= m) -> out.size + 201 * m <= 2000 -> ∃ r, Z1I 1000000 sn sl ss F a b p c a1 a2 b1 b2 d1 d2 out (m : Int) = some r /\ (srcB sn sl r.2.2.2 = true /\ r.1.size <= 6000) := by
  intro m
  induction m with
  | zero =>
   intro F a b p c a1 a2 b1 b2 d1 d2 out _ hF hs hd h0 hz
   obtain ⟨F, rfl⟩ : ∃ G, F = G + 1 := ⟨F - 1, by omega⟩
   have hp4 := Zh sn sl (a, b) 40 hs
   have h0' : 1 <= out.size := by omega
   have hw : wI (((out.size : Nat) : Int) - 1) = ((out.size - 1 : Nat) : Int) := by rw [Zz]; unfold wrap64; omega
   have hx : (decide (0 <= 0) && decide (0 <= ((out.size - 1 : Nat) : Int)) && decide (((out.size - 1 : Nat) : Int) <= ((out.size : Nat) : Int))) = true := by first | (simp; done) | (simp; omega)
   have he : (out.extract 0 (((out.size - 1 : Nat) : Int)).toNat).size <= 6000 := by
    rw [ZX, Zny, List.length_take]
    rw [ZX] at hz
    simp
    omega
   show ∃ r, Z5D sn sl ss (Z2y 1000000 sn sl ss a b p c a1 a2 b1 b2 d1 d2 out ((0 : Nat) : Int) (Z1I 1000000 sn sl ss F) (1000000 + 100)) (Z1I 1000000 sn sl ss F) a b p c a1 a2 b1 b2 d1 d2 out ((0 : Nat) : Int) = some r /\ _
   unfold Z5D
   rw [if_neg (by decide), if_pos hs, hw]
   refine ZuX (fun _ => key1 _ _ _ _ _ _ _ _ _ _ _ _ _ 400 _ _ hs (by omega) (by omega) (by omega)) (fun _ => ?_)
   repeat' (first | with_reducible refine Z74 hx ?_ | with_reducible refine Z74 (Nat.ble_eq_true_of_le (by simp only [Z1a, b10]; omega)) ?_ | with_reducible exact Z7X ⟨hp4, by dsimp only; simp only [Z1a, b10]; omega⟩ | with_reducible exact Z7X ⟨hp4, by dsimp only; omega⟩ | with_reducible exact Z7X ⟨hp4, he⟩ | with_reducible refine ZuX (fun _ => ?_) (fun _ => ?_))
  | succ m ih =>
   intro F a b p c a1 a2 b1 b2 d1 d2 out hm hF hs hd h0 hz
   obtain ⟨F, rfl⟩ : ∃ G, F = G + 1 := ⟨F - 1, by omega⟩
   have hl : (srcB sn sl (a, b) && Z6 (p, c, a1, a2, b1, b2, d1, d2).1) = true := Z2W hs (ZgG hd)
   obtain ⟨q1, q2⟩ := Zbs sn sl (a, b) (p, c, a1, a2, b1, b2, d1, d2) hl
   have hz2 : (ZU sn sl (a, b) (p, c, a1, a2, b1, b2, d1, d2)).1.size <= 1048576 := Nat.le_trans q2 (by decide)
   obtain ⟨k1, k2, k3, k4⟩ := Zex (p, c, a1, a2, b1, b2, d1, d2) _ hz2
   have hk := (ZBC hz2 hd).1
   have hw : wI (((m + 1 : Nat) : Int) - 1) = (m : Int) := by rw [Zz]; unfold wrap64; omega
   show ∃ r, Z5D sn sl ss (Z2y 1000000 sn sl ss a b p c a1 a2 b1 b2 d1 d2 out ((m + 1 : Nat) : Int) (Z1I 1000000 sn sl ss F) (1000000 + 100)) (Z1I 1000000 sn sl ss F) a b p c a1 a2 b1 b2 d1 d2 out ((m + 1 : Nat) : Int) = some r /\ _
   unfold Z5D
   rw [if_pos (by first | (simp; done) | (simp; omega)), if_pos hl, if_pos k1, if_pos (Nat.ble_eq_true_of_le (by omega)), if_pos (Nat.ble_eq_true_of_le (by rw [Z1a, b10]; omega)), hw]
   exact ih F _ _ _ _ _ _ _ _ _ _ _ (by omega) (by omega) q1 hk (.inl (by rw [Z1a, b10]; omega)) (by rw [Z1a, Z1a, b10]; omega)
 obtain ⟨m, hm⟩ : ∃ m : Nat, (Z8 sn sl ss 9).1 = (m : Int) := ⟨(Z8 sn sl ss 9).1.toNat, by omega⟩
 have hw : wI (1 + (m : Int)) = ((m + 1 : Nat) : Int) := by rw [Zz]; unfold wrap64; omega
 unfold Z8e Zgr
 rw [if_pos hp, hm, hw]
 exact key (m + 1) (1000000 + 100) _ _ _ _ _ _ _ _ _ _ _ (by omega) (by omega) h1 (by decide) (.inr (by omega)) (by have : (bs []).size = 0 := rfl; omega)
theorem ZsN (sn : Nat) (sl : List Int) (ss : P2) (hp : (srcB sn sl ss) = true) : (fun r : ByteArray × STy => srcB sn sl r.2.2.2 = true /\ r.1.size <= 6000) (Z88 sn sl ss) := by
 obtain ⟨r, e, h⟩ := Zlo sn sl ss hp
 rw [Zln]
 unfold ZcJ
 rw [e]
 first | done | exact h
theorem Zw8 (sn : Nat) (sl : List Int) (ss : P2) (hp : (srcB sn sl ss) = true) : Z8e 1000000 sn sl ss = some (Z88 sn sl ss) := by
 obtain ⟨r, e, _⟩ := Zlo sn sl ss hp
 rw [Zln]
 unfold ZcJ
 rw [e]
 rfl
def ZdO : PRun
 | 77, [.s sn (.byts sl), .v (.int .i64 s_1), .v (.int .u64 s_2)], [] => some (srcB sn sl (s_1, s_2), ZnI (Z88 sn sl (s_1, s_2)))
 | _, _, _ => none
theorem ZqU : Zag prog 40 ZdO := by
 refine Z5U ZAh Zxl (by kernel_rfl) func40 ntmps40 rfl (by kernel_rfl) ?_
 intro e bcs pvs rs bcs' hrun
 unfold ZdO at hrun
 split at hrun
 ·simp only [Option.some.injEq, Prod.mk.injEq] at hrun
  obtain ⟨hp, hrun⟩ := hrun
  rename_i sn sl s_1 s_2
  exact ⟨_, Z88 sn sl (s_1, s_2), by first | exact hrun.symm | exact (Prod.ext hrun.1 hrun.2).symm, (ZxZ _ sn sl (s_1, s_2)).trans (Zw8 sn sl (s_1, s_2) hp)⟩
 ·cases hrun

abbrev Z7g (sn : Nat) (sl : List Int) (ss : P2) (t : ByteArray) : Int × STy := (Z8 sn sl ((Z8 sn sl ss 11).2.2.2) ((t.size : Nat) : Int))
abbrev ZIQ (sn : Nat) (sl : List Int) (ss : P2) (t : ByteArray) : Int × STy := (Z8 sn sl ((Z7g sn sl ss t).2.2.2) 3)
def Zp6 : Sums := ⟨tblS [], tblM [(28, .box Z25)], false⟩
theorem Zzz : Ze prog Zp6 := ⟨Za ⟨⟩, Z6a ⟨⟨call28, Z22⟩, ⟨⟩⟩⟩
def Z98 (sn : Nat) (sl : List Int) (ss : P2) (t : ByteArray) : Option (ByteArray × STy) :=
 (if (srcB sn sl ss) = true then (if (decide (0 <= (Z8 sn sl ss 11).1) && decide ((Z8 sn sl ss 11).1 < ((11 : Nat) : Int))) = true then (if (Nat.ble ((((Z8 sn sl ss 11).1).toNat) * 1 + 1) 11) = true then (if (((t.size : Nat) : Int) == 0) = true then some ([bs [48], bs [49], bs [50], bs [51], bs [55], bs [57], bs [44], bs [32], bs [58], bs [120], bs [10]].getD ((((Z8 sn sl ss 11).1).toNat) * 1) ByteArray.empty, sn, sl, (Z8 sn sl ss 11).2.2.2) else (if (srcB sn sl ((Z8 sn sl ss 11).2.2.2)) = true then (if (srcB sn sl ((Z7g sn sl ss t).2.2.2)) = true then (if (((ZIQ sn sl ss t).1) == 0) = true then (if (decide (0 <= 0) && decide (0 <= ((Z7g sn sl ss t).1)) && decide (((Z7g sn sl ss t).1) <= ((t.size : Nat) : Int))) = true then (if (Nat.ble ((t.extract 0 (((Z7g sn sl ss t).1).toNat)).size + ([bs [48], bs [49], bs [50], bs [51], bs [55], bs [57], bs [44], bs [32], bs [58], bs [120], bs [10]].getD ((((Z8 sn sl ss 11).1).toNat) * 1) ByteArray.empty).size) 9223372036854775807) = true then (if (decide (0 <= (wI (((Z7g sn sl ss t).1) + 1))) && decide ((wI (((Z7g sn sl ss t).1) + 1)) <= ((t.size : Nat) : Int)) && decide (((t.size : Nat) : Int) <= ((t.size : Nat) : Int))) = true then (if (Nat.ble (((t.extract 0 (((Z7g sn sl ss t).1).toNat)) ++ ([bs [48], bs [49], bs [50], bs [51], bs [55], bs [57], bs [44], bs [32], bs [58], bs [120], bs [10]].getD ((((Z8 sn sl ss 11).1).toNat) * 1) ByteArray.empty)).size + (t.extract ((wI (((Z7g sn sl ss t).1) + 1)).toNat) t.size).size) 9223372036854775807) = true then some (((t.extract 0 (((Z7g sn sl ss t).1).toNat)) ++ ([bs [48], bs [49], bs [50], bs [51], bs [55], bs [57], bs [44], bs [32], bs [58], bs [120], bs [10]].getD ((((Z8 sn sl ss 11).1).toNat) * 1) ByteArray.empty)) ++ (t.extract ((wI (((Z7g sn sl ss t).1) + 1)).toNat) t.size), sn, sl, (ZIQ sn sl ss t).2.2.2) else none) else none) else none) else none) else (if (((ZIQ sn sl ss t).1) == 1) = true then (if (decide (0 <= 0) && decide (0 <= ((Z7g sn sl ss t).1)) && decide (((Z7g sn sl ss t).1) <= ((t.size : Nat) : Int))) = true then (if (decide (0 <= (wI (((Z7g sn sl ss t).1) + 1))) && decide ((wI (((Z7g sn sl ss t).1) + 1)) <= ((t.size : Nat) : Int)) && decide (((t.size : Nat) : Int) <= ((t.size : Nat) : Int))) = true then (if (Nat.ble ((t.extract 0 (((Z7g sn sl ss t).1).toNat)).size + (t.extract ((wI (((Z7g sn sl ss t).1) + 1)).toNat) t.size).size) 9223372036854775807) = true then some ((t.extract 0 (((Z7g sn sl ss t).1).toNat)) ++ (t.extract ((wI (((Z7g sn sl ss t).1) + 1)).toNat) t.size), sn, sl, (ZIQ sn sl ss t).2.2.2) else none) else none) else none) else (if (decide (0 <= 0) && decide (0 <= ((Z7g sn sl ss t).1)) && decide (((Z7g sn sl ss t).1) <= ((t.size : Nat) : Int))) = true then (if (Nat.ble ((t.extract 0 (((Z7g sn sl ss t).1).toNat)).size + ([bs [48], bs [49], bs [50], bs [51], bs [55], bs [57], bs [44], bs [32], bs [58], bs [120], bs [10]].getD ((((Z8 sn sl ss 11).1).toNat) * 1) ByteArray.empty).size) 9223372036854775807) = true then (if (decide (0 <= ((Z7g sn sl ss t).1)) && decide (((Z7g sn sl ss t).1) <= ((t.size : Nat) : Int)) && decide (((t.size : Nat) : Int) <= ((t.size : Nat) : Int))) = true then (if (Nat.ble (((t.extract 0 (((Z7g sn sl ss t).1).toNat)) ++ ([bs [48], bs [49], bs [50], bs [51], bs [55], bs [57], bs [44], bs [32], bs [58], bs [120], bs [10]].getD ((((Z8 sn sl ss 11).1).toNat) * 1) ByteArray.empty)).size + (t.extract (((Z7g sn sl ss t).1).toNat) t.size).size) 9223372036854775807) = true then some (((t.extract 0 (((Z7g sn sl ss t).1).toNat)) ++ ([bs [48], bs [49], bs [50], bs [51], bs [55], bs [57], bs [44], bs [32], bs [58], bs [120], bs [10]].getD ((((Z8 sn sl ss 11).1).toNat) * 1) ByteArray.empty)) ++ (t.extract (((Z7g sn sl ss t).1).toNat) t.size), sn, sl, (ZIQ sn sl ss t).2.2.2) else none) else none) else none) else none))) else none) else none)) else none) else none) else none)
theorem ZAI (sn : Nat) (sl : List Int) (ss : P2) (t : ByteArray) : ZcR prog Zp6 30 57 (fun _ => 1000000) Z3E 77 [.s sn (.byts sl), .v (.int .i64 ss.1), .v (.int .u64 ss.2)] [.v (.string t)] = Z98 sn sl ss t := by
 kernel_rfl
def Zea (sn : Nat) (sl : List Int) (ss : P2) (t : ByteArray) : ByteArray × STy := (Z98 sn sl ss t).getD (.empty, 0, [], 0, 0)
def Z9D : (Nat) -> (List Int) -> P2 -> (ByteArray) -> (ByteArray × STy) := shut Zea
theorem Zng (sn : Nat) (sl : List Int) (ss : P2) (t : ByteArray) : Z9D sn sl ss t = Zea sn sl ss t := by
 unfold Z9D
 rw [Zu]
set_option maxHeartbeats 4000000 in
theorem Znh (sn : Nat) (sl : List Int) (ss : P2) (t : ByteArray) (hp : (srcB sn sl ss && Nat.ble t.size 1000) = true) : ∃ r, Z98 sn sl ss t = some r /\ srcB sn sl r.2.2.2 = true /\ r.1.size <= 3000 := by
 have hs := ZwA hp
 have ht := Nat.le_of_ble_eq_true (ZwB hp)
 have hex : ∀ a b, (t.extract a b).size <= 1000 := fun a b => by
  rw [ZX, Zny, List.length_take, List.length_drop]
  rw [ZX] at ht
  omega
 have hsg : ∀ k, ([bs [48], bs [49], bs [50], bs [51], bs [55], bs [57], bs [44], bs [32], bs [58], bs [120], bs [10]].getD k ByteArray.empty).size <= 1000 := fun k => ZnK (by decide) k
 have h2 : ∀ {a b : ByteArray}, a.size <= 1000 -> b.size <= 1000 -> (a ++ b).size <= 2000 := fun h1 h2 => by rw [Z1a]; omega
 have hb : ∀ {a b : ByteArray}, a.size <= 2000 -> b.size <= 1000 -> Nat.ble (a.size + b.size) 9223372036854775807 = true := fun h1 h2 => Nat.ble_eq_true_of_le (by omega)
 have h5 : ∀ {a b c : ByteArray}, a.size <= 1000 -> b.size <= 1000 -> c.size <= 1000 -> (a ++ b ++ c).size <= 3000 := fun h1 h2 h3 => by rw [Z1a, Z1a]; omega
 have h1 := Zh sn sl ss 11 hs
 unfold Z98
 refine Z74 hs ?_
 refine Z74 (Zaj (Z0Y _ _ _ _ hs (by decide))) ?_
 refine Z74 (Z7U (Zcg _ _ _ _ hs (by decide) (by decide))) ?_
 by_cases h0 : t.size = 0
 ·rw [if_pos (by rw [h0]; rfl)]
  exact Z7X ⟨h1, Nat.le_trans (hsg _) (by decide)⟩
 ·rw [if_neg (fun q => h0 (by have := eq_of_beq q; omega))]
  have hk := Z0Y sn sl _ ((t.size : Nat) : Int) h1 (by omega)
  have h3 := Zh sn sl _ ((t.size : Nat) : Int) h1
  have h4 := Zh sn sl _ 3 h3
  have hx0 : (decide (0 <= 0) && decide (0 <= (Z8 sn sl (Z8 sn sl ss 11).2.2.2 ((t.size : Nat) : Int)).1) && decide ((Z8 sn sl (Z8 sn sl ss 11).2.2.2 ((t.size : Nat) : Int)).1 <= ((t.size : Nat) : Int))) = true := by simp; omega
  have hw : wI ((Z8 sn sl (Z8 sn sl ss 11).2.2.2 ((t.size : Nat) : Int)).1 + 1) = (Z8 sn sl (Z8 sn sl ss 11).2.2.2 ((t.size : Nat) : Int)).1 + 1 := by rw [Zz]; unfold wrap64; omega
  have hx1 : (decide (0 <= wI ((Z8 sn sl (Z8 sn sl ss 11).2.2.2 ((t.size : Nat) : Int)).1 + 1)) && decide (wI ((Z8 sn sl (Z8 sn sl ss 11).2.2.2 ((t.size : Nat) : Int)).1 + 1) <= ((t.size : Nat) : Int)) && decide (((t.size : Nat) : Int) <= ((t.size : Nat) : Int))) = true := by rw [hw]; simp; omega
  have hx2 : (decide (0 <= (Z8 sn sl (Z8 sn sl ss 11).2.2.2 ((t.size : Nat) : Int)).1) && decide ((Z8 sn sl (Z8 sn sl ss 11).2.2.2 ((t.size : Nat) : Int)).1 <= ((t.size : Nat) : Int)) && decide (((t.size : Nat) : Int) <= ((t.size : Nat) : Int))) = true := by simp; omega
  repeat' (first | with_reducible refine Z74 h1 ?_ | with_reducible refine Z74 h3 ?_ | with_reducible refine Z74 hx0 ?_ | with_reducible refine Z74 hx1 ?_ | with_reducible refine Z74 hx2 ?_ | with_reducible refine Z74 (hb (Nat.le_trans (hex _ _) (by decide)) (hsg _)) ?_ | with_reducible refine Z74 (hb (h2 (hex _ _) (hsg _)) (hex _ _)) ?_ | with_reducible refine Z74 (hb (Nat.le_trans (hex _ _) (by decide)) (hex _ _)) ?_ | with_reducible refine ZuX (fun _ => ?_) (fun _ => ?_) | with_reducible exact Z7X ⟨h4, h5 (hex _ _) (hsg _) (hex _ _)⟩ | with_reducible exact Z7X ⟨h4, Nat.le_trans (h2 (hex _ _) (hex _ _)) (by decide)⟩)
theorem Zvs (sn : Nat) (sl : List Int) (ss : P2) (t : ByteArray) (hp : (srcB sn sl ss && Nat.ble t.size 1000) = true) : (fun r : ByteArray × STy => srcB sn sl r.2.2.2 = true /\ r.1.size <= 3000) (Z9D sn sl ss t) := by
 obtain ⟨r, e, h⟩ := Znh sn sl ss t hp
 rw [Zng]
 unfold Zea
 rw [e]
 first | done | exact h
theorem ZyN (sn : Nat) (sl : List Int) (ss : P2) (t : ByteArray) (hp : (srcB sn sl ss && Nat.ble t.size 1000) = true) : Z98 sn sl ss t = some (Z9D sn sl ss t) := by
 obtain ⟨r, e, _⟩ := Znh sn sl ss t hp
 rw [Zng]
 unfold Zea
 rw [e]
 rfl
def Zfn : PRun
 | 77, [.s sn (.byts sl), .v (.int .i64 s_1), .v (.int .u64 s_2)], [.v (.string t)] => some (srcB sn sl (s_1, s_2) && Nat.ble t.size 1000, ZnI (Z9D sn sl (s_1, s_2) t))
 | _, _, _ => none
theorem Zt9 : Zag prog 30 Zfn := by
 refine Z5U ZAh Zzz (by kernel_rfl) func30 ntmps30 rfl (by kernel_rfl) ?_
 intro e bcs pvs rs bcs' hrun
 unfold Zfn at hrun
 split at hrun
 ·simp only [Option.some.injEq, Prod.mk.injEq] at hrun
  obtain ⟨hp, hrun⟩ := hrun
  rename_i sn sl s_1 s_2 t
  exact ⟨_, Z9D sn sl (s_1, s_2) t, by first | exact hrun.symm | exact (Prod.ext hrun.1 hrun.2).symm, (ZAI sn sl (s_1, s_2) t).trans (ZyN sn sl (s_1, s_2) t hp)⟩
 ·cases hrun

def Zej : Sums := ⟨tblS [], tblM [], false⟩
theorem ZFF : Ze prog Zej := ⟨Za ⟨⟩, tM⟩
def ZD4 (n : Nat) (l : List Int) (v44_2 i : Int) : Tab := ⟨[.row 1, jK, .val (.pointer none), .ptr 44 0, vI (i), .row 1, .row 1, vI (((n : Nat) : Int)), .val (.int .u64 (IntKind.u64.wrap (((n : Nat) : Int)))), .val (.int .u64 (IntKind.u64.wrap (13701 + (IntKind.u64.wrap (((n : Nat) : Int)))))), jK, .ptr 44 0, ] ++ (jN 25 ++ [jK]), [(0, .ros 0 (.ints [])), (1, .ros n (.byts l)), (44, .box 77 [.row 1, vI (0), .val (.int .u64 v44_2)])]⟩
def Z8y (P : Program) (fu Z3 : Nat) (Z4 : List Int) (f : Nat) (v44_2 i : Int) : Option P2 := Z1u (exec P Zej 38 (fun _ => fu + 100) (Code.sub [1, 1, 0, 1, 0, 0] (ZS P 25))) f (ZD4 Z3 Z4 v44_2 i) (Z0g 0 (kSeq (fun zs9 => exec P Zej 38 (fun _ => fu + 100) (Code.sub [1, 1, 1] (ZS P 25)) zs9 (finB P 25 ZnH)) (finB P 25 ZnH)))
def ZdX (n : Nat) (l : List Int) (Z1F : Int -> Int -> Option P2) (v44_2 i : Int) : Option P2 :=
 (if (decide (i < ((n : Nat) : Int))) = true then (if (decide (i < 4096)) = true then (if (decide (0 <= i) && decide (i < ((n : Nat) : Int))) = true then (if (Nat.ble (i.toNat * 1 + 1) l.length) = true then Z1F (IntKind.u64.wrap ((IntKind.u64.wrap ((IntKind.u64.wrap (v44_2 * 1099511628211)) + (IntKind.u64.wrap (l.getD (i.toNat * 1) 0)))) + 199)) (wI (i + 1)) else none) else none) else some (0, v44_2)) else some (0, v44_2))
def Z5m (fu Z3 : Nat) (Z4 : List Int) : Nat -> Int -> Int -> Option P2
 | 0, _, _ => none
 | f + 1, v44_2, i => ZdX Z3 Z4 (Z5m fu Z3 Z4 f) v44_2 i
theorem Zvc (fu Z3 : Nat) (Z4 : List Int) : ∀ (f : Nat) (v44_2 i : Int), Z8y prog fu Z3 Z4 f v44_2 i = Z5m fu Z3 Z4 f v44_2 i := by
 intro f
 induction f with
 | zero => intros; rfl
 | succ f ih =>
  intro v44_2 i
  have h1 : Z8y prog fu Z3 Z4 (f + 1) v44_2 i = ZdX Z3 Z4 (Z8y prog fu Z3 Z4 f) v44_2 i := by kernel_rfl
  have h2 : Z8y prog fu Z3 Z4 f = Z5m fu Z3 Z4 f := by funext v44_2 i; exact ih v44_2 i
  rw [h1, h2]
  rfl
def Zm8 (Z3 : Nat) (Z4 : List Int) (lo0 : Int -> Int -> Option P2) : Option P2 :=
 lo0 (IntKind.u64.wrap (13701 + (IntKind.u64.wrap (((Z3 : Nat) : Int))))) 0
def ZbV (fu Z3 : Nat) (Z4 : List Int) : Option P2 := Zm8 Z3 Z4 (Z5m fu Z3 Z4 (fu + 100))
theorem ZGu (fu Z3 : Nat) (Z4 : List Int) : ZIv prog Zej 25 38 (fun _ => fu + 100) ZnH Z3 (.byts Z4) = ZbV fu Z3 Z4 := by
 have h1 : ZIv prog Zej 25 38 (fun _ => fu + 100) ZnH Z3 (.byts Z4) = Zm8 Z3 Z4 (Z8y prog fu Z3 Z4 (fu + 100)) := by kernel_rfl
 have c0 : Z8y prog fu Z3 Z4 (fu + 100) = Z5m fu Z3 Z4 (fu + 100) := by funext v44_2 i; exact Zvc fu Z3 Z4 (fu + 100) v44_2 i
 rw [h1, c0]
 rfl
theorem ZLq (fu n : Nat) (l : List Int) (hc : Z56 n l = true) : ∀ (f : Nat) (v i : Int), 0 <= i -> i <= 4096 -> 4096 - i < f -> ∃ h, Z5m fu n l f v i = some (0, h)
 | 0, v, i, _, h1, h2 => by omega
 | f + 1, v, i, h0, h1, h2 => by
  rw [show Z5m fu n l (f + 1) v i = ZdX n l (Z5m fu n l f) v i from rfl]
  unfold ZdX
  by_cases hn : i < (n : Int)
  ·by_cases hk : i < 4096
   ·rw [if_pos (decide_eq_true hn), if_pos (decide_eq_true hk), if_pos (Zaj ⟨h0, hn⟩), if_pos (Z7U (by obtain ⟨e, _⟩ := ZrU hc; omega)), Zz, show wrap64 (i + 1) = i + 1 by unfold wrap64; omega]
    exact ZLq fu n l hc f _ _ (by omega) (by omega) (by omega)
   ·rw [if_pos (decide_eq_true hn), if_neg (by simp [hk])]
    exact ⟨_, rfl⟩
  ·rw [if_neg (by simp [hn])]
   exact ⟨_, rfl⟩
theorem ZES {n : Nat} {l : List Int} (hc : Z56 n l = true) : ∃ h, ZbV 1000000 n l = some (0, h) := by
 unfold ZbV Zm8
 exact ZLq _ n l hc _ _ _ (by decide) (by decide) (by decide)
def Z2C (Z3 : Nat) (Z4 : List Int) : Int × Int := (ZbV 1000000 Z3 Z4).getD (0, 0)
theorem ZEe (Z3 : Nat) (Z4 : List Int) (hp : (Z56 Z3 Z4) = true) : ZbV 1000000 Z3 Z4 = some (Z2C Z3 Z4) := by
 obtain ⟨h, e⟩ := ZES hp
 unfold Z2C
 rw [e]
 rfl
def ZaJ : BRun
 | [.s Z3 (.byts Z4)] => some (Z56 Z3 Z4, ZLl (Z2C Z3 Z4))
 | _ => none
theorem Zfs : ZFS prog 25 ZaJ := by
 refine ZN5 ZQb ZFF (by kernel_rfl) func25 ntmps25 rfl (by kernel_rfl) ?_
 intro m c e vals hrun
 unfold ZaJ at hrun
 split at hrun
 ·rename_i heq
  simp only [List.cons.injEq, PV.s.injEq, and_true] at heq
  obtain ⟨rfl, rfl⟩ := heq
  simp only [Option.some.injEq, Prod.mk.injEq] at hrun
  obtain ⟨hp, hrun⟩ := hrun
  exact ⟨_, Z2C _ _, by first | exact hrun.symm | exact (Prod.ext hrun.1 hrun.2).symm, (ZGu _ _ _).trans (ZEe _ _ hp)⟩
 ·cases hrun

theorem ZiQ {n : Nat} {l : List Int} (hc : Z56 n l = true) : srcB n l (Z2C n l) = true := by
 obtain ⟨h, e⟩ := ZES hc
 refine ZHg hc ?_
 unfold Z2C
 rw [e]
 exact Int.le_refl 0
abbrev Z7f (Z3 : Nat) (Z4 : List Int) : (D8i) × STy := (Z5T Z3 Z4 (Z2C Z3 Z4))
abbrev Zsk (Z3 : Nat) (Z4 : List Int) : Int × STy := (Z8 Z3 Z4 ((Z7f Z3 Z4).2.2.2) 8)
abbrev ZLy (Z3 : Nat) (Z4 : List Int) : Int × STy := (Z2o Z3 Z4 ((Zsk Z3 Z4).2.2.2))
abbrev ZQF (Z3 : Nat) (Z4 : List Int) : Int × STy := (Z7b Z3 Z4 ((ZLy Z3 Z4).2.2.2) ((ZLy Z3 Z4).1))
abbrev ZQG (Z3 : Nat) (Z4 : List Int) : Int × STy := (Z54 Z3 Z4 ((Zsk Z3 Z4).2.2.2))
abbrev ZaG (Z3 : Nat) (Z4 : List Int) : Int × STy := (Z8 Z3 Z4 ((Zsk Z3 Z4).2.2.2) 3)
abbrev ZfB (Z3 : Nat) (Z4 : List Int) : P2 × STy := (Z7c Z3 Z4 ((ZaG Z3 Z4).2.2.2) (((Z7f Z3 Z4).1).1) (((Z7f Z3 Z4).1).1, 0))
def Zmq : Sums := ⟨tblS [], tblM [(25, .src ZaJ), (26, .box Ze8), (28, .box Z25), (47, .box Z85), (50, .box ZcE), (51, .box Zav), (52, .box ZcF)], false⟩
theorem Zxa : Ze prog Zmq := ⟨Za ⟨⟩, Z6a ⟨⟨call25, Zfs⟩, ⟨call26, Zlv⟩, ⟨call28, Z22⟩, ⟨call47, ZeE⟩, ⟨call50, ZoH⟩, ⟨call51, ZlP⟩, ⟨call52, ZoI⟩, ⟨⟩⟩⟩
def Z8d (Z3 : Nat) (Z4 : List Int) : Option (D8i) :=
 (if (Z56 Z3 Z4) = true then (if (srcB Z3 Z4 (Z2C Z3 Z4)) = true then (if (srcB Z3 Z4 ((Z7f Z3 Z4).2.2.2)) = true then (if (((Zsk Z3 Z4).1) == 0) = true then (if (srcB Z3 Z4 ((Zsk Z3 Z4).2.2.2)) = true then (if (srcB Z3 Z4 ((ZLy Z3 Z4).2.2.2) && prB ((ZLy Z3 Z4).1)) = true then some ((ZQF Z3 Z4).1, ((Z7f Z3 Z4).1).2.1, ((Z7f Z3 Z4).1).2.2.1, ((Z7f Z3 Z4).1).2.2.2.1, ((Z7f Z3 Z4).1).2.2.2.2.1, ((Z7f Z3 Z4).1).2.2.2.2.2.1, ((Z7f Z3 Z4).1).2.2.2.2.2.2.1, ((Z7f Z3 Z4).1).2.2.2.2.2.2.2) else none) else none) else (if (((Zsk Z3 Z4).1) == 1) = true then (if (srcB Z3 Z4 ((Zsk Z3 Z4).2.2.2)) = true then some (((Z7f Z3 Z4).1).1, (ZQG Z3 Z4).1, ((Z7f Z3 Z4).1).2.2.1, ((Z7f Z3 Z4).1).2.2.2.1, ((Z7f Z3 Z4).1).2.2.2.2.1, ((Z7f Z3 Z4).1).2.2.2.2.2.1, ((Z7f Z3 Z4).1).2.2.2.2.2.2.1, ((Z7f Z3 Z4).1).2.2.2.2.2.2.2) else none) else (if (((Zsk Z3 Z4).1) == 2) = true then (if (srcB Z3 Z4 ((Zsk Z3 Z4).2.2.2)) = true then (if (srcB Z3 Z4 ((ZaG Z3 Z4).2.2.2) && prB (((Z7f Z3 Z4).1).1)) = true then (if (decide (0 <= (ZaG Z3 Z4).1) && decide ((ZaG Z3 Z4).1 < ((3 : Nat) : Int))) = true then (if (Nat.ble (2 + ((((ZaG Z3 Z4).1).toNat) * 2) + 2) 8) = true then some (bif Nat.beq (2 + ((((ZaG Z3 Z4).1).toNat) * 2) + 1) 0 then (((ZfB Z3 Z4).1).2) else (bif Nat.beq (2 + ((((ZaG Z3 Z4).1).toNat) * 2)) 0 then (((ZfB Z3 Z4).1).1) else (((Z7f Z3 Z4).1).1)), bif Nat.beq (2 + ((((ZaG Z3 Z4).1).toNat) * 2) + 1) 1 then (((ZfB Z3 Z4).1).2) else (bif Nat.beq (2 + ((((ZaG Z3 Z4).1).toNat) * 2)) 1 then (((ZfB Z3 Z4).1).1) else (((Z7f Z3 Z4).1).2.1)), bif Nat.beq (2 + ((((ZaG Z3 Z4).1).toNat) * 2) + 1) 2 then (((ZfB Z3 Z4).1).2) else (bif Nat.beq (2 + ((((ZaG Z3 Z4).1).toNat) * 2)) 2 then (((ZfB Z3 Z4).1).1) else (((Z7f Z3 Z4).1).2.2.1)), bif Nat.beq (2 + ((((ZaG Z3 Z4).1).toNat) * 2) + 1) 3 then (((ZfB Z3 Z4).1).2) else (bif Nat.beq (2 + ((((ZaG Z3 Z4).1).toNat) * 2)) 3 then (((ZfB Z3 Z4).1).1) else (((Z7f Z3 Z4).1).2.2.2.1)), bif Nat.beq (2 + ((((ZaG Z3 Z4).1).toNat) * 2) + 1) 4 then (((ZfB Z3 Z4).1).2) else (bif Nat.beq (2 + ((((ZaG Z3 Z4).1).toNat) * 2)) 4 then (((ZfB Z3 Z4).1).1) else (((Z7f Z3 Z4).1).2.2.2.2.1)), bif Nat.beq (2 + ((((ZaG Z3 Z4).1).toNat) * 2) + 1) 5 then (((ZfB Z3 Z4).1).2) else (bif Nat.beq (2 + ((((ZaG Z3 Z4).1).toNat) * 2)) 5 then (((ZfB Z3 Z4).1).1) else (((Z7f Z3 Z4).1).2.2.2.2.2.1)), bif Nat.beq (2 + ((((ZaG Z3 Z4).1).toNat) * 2) + 1) 6 then (((ZfB Z3 Z4).1).2) else (bif Nat.beq (2 + ((((ZaG Z3 Z4).1).toNat) * 2)) 6 then (((ZfB Z3 Z4).1).1) else (((Z7f Z3 Z4).1).2.2.2.2.2.2.1)), bif Nat.beq (2 + ((((ZaG Z3 Z4).1).toNat) * 2) + 1) 7 then (((ZfB Z3 Z4).1).2) else (bif Nat.beq (2 + ((((ZaG Z3 Z4).1).toNat) * 2)) 7 then (((ZfB Z3 Z4).1).1) else (((Z7f Z3 Z4).1).2.2.2.2.2.2.2))) else none) else none) else none) else none) else some ((Z7f Z3 Z4).1)))) else none) else none) else none)
theorem ZxO (Z3 : Nat) (Z4 : List Int) : eT Zmq 29 37 Zuv [.s Z3 (.byts Z4)] = Z8d Z3 Z4 := by
 kernel_rfl
def Zhf (Z3 : Nat) (Z4 : List Int) : D8i := (Z8d Z3 Z4).getD (0, 0, 0, 0, 0, 0, 0, 0)
def Za4 : (Nat) -> (List Int) -> (D8i) := shut Zhf
theorem Zyh (Z3 : Nat) (Z4 : List Int) : Za4 Z3 Z4 = Zhf Z3 Z4 := by
 unfold Za4
 rw [Zu]
set_option maxHeartbeats 4000000 in
theorem Zyi (Z3 : Nat) (Z4 : List Int) (hp : (Z56 Z3 Z4) = true) : ∃ r, Z8d Z3 Z4 = some r /\ r = r /\ True := by
 have hs := ZiQ hp
 obtain ⟨d1, d2⟩ := Zni Z3 Z4 (Z2C Z3 Z4) hs
 have hq : prB (Z5T Z3 Z4 (Z2C Z3 Z4)).1.1 = true := ZfX (ZgG d2)
 unfold Z8d
 repeat' (first | exact Z7X ⟨rfl, True.intro⟩ | with_reducible refine Z74 hp ?_ | refine Z74 (by first | ((repeat (with_reducible first | assumption | apply Zh | apply Z1g | apply Z1h | apply Z1v | apply Z1S | apply Z1T)); done) | (with_reducible exact Z2W (by (repeat (with_reducible first | assumption | apply Zh | apply Z1g | apply Z1h | apply Z1v | apply Z1S | apply Z1T))) (Z5Z _ _ _ (by (repeat (with_reducible first | assumption | apply Zh | apply Z1g | apply Z1h | apply Z1v | apply Z1S | apply Z1T))))) | (with_reducible exact Z2W (by (repeat (with_reducible first | assumption | apply Zh | apply Z1g | apply Z1h | apply Z1v | apply Z1S | apply Z1T))) hq) | (with_reducible exact Zaj (Z0Y _ _ _ _ (by (repeat (with_reducible first | assumption | apply Zh | apply Z1g | apply Z1h | apply Z1v | apply Z1S | apply Z1T))) (by decide))) | (with_reducible exact Z7U (Zg0 _ _ _ _ (by (repeat (with_reducible first | assumption | apply Zh | apply Z1g | apply Z1h | apply Z1v | apply Z1S | apply Z1T))) (by decide) (by decide)))) ?_ | with_reducible refine ZuX (fun _ => ?_) (fun _ => ?_))
theorem ZvX (Z3 : Nat) (Z4 : List Int) (hp : (Z56 Z3 Z4) = true) : Z8d Z3 Z4 = some (Za4 Z3 Z4) := by
 obtain ⟨r, e, _⟩ := Zyi Z3 Z4 hp
 rw [Zyh]
 unfold Zhf
 rw [e]
 rfl
def ZdI : RunP
 | [.s Z3 (.byts Z4)] => some (Z56 Z3 Z4, ZAl (Za4 Z3 Z4))
 | _ => none
theorem ZqO : Sound prog 29 ZdI := by
 refine Zd ZLi Zxa (by kernel_rfl) func29 ntmps29 rfl (by kernel_rfl) fun q r E => ?_
 unfold ZdI at E
 split at E
 ·obtain ⟨hp, rfl⟩ := so2 E
  rename_i Z3 Z4
  exact ⟨_, _, rfl, (ZxO Z3 Z4).trans (ZvX Z3 Z4 hp)⟩
 ·cases E

abbrev ZEV (Z3 : Nat) (Z4 : List Int) : (D8i) × STy := (Z5T Z3 Z4 (Z2C Z3 Z4))
abbrev ZB6 (Z3 : Nat) (Z4 : List Int) : ByteArray × STy := (ZU Z3 Z4 ((ZEV Z3 Z4).2.2.2) ((ZEV Z3 Z4).1))
abbrev ZLv (Z3 : Nat) (Z4 : List Int) : Int × STy := (Z8 Z3 Z4 ((ZB6 Z3 Z4).2.2.2) 20)
abbrev ZIN (Z3 : Nat) (Z4 : List Int) : Int × STy := (Z8 Z3 Z4 ((ZLv Z3 Z4).2.2.2) 12)
abbrev ZPL (Z3 : Nat) (Z4 : List Int) : ByteArray × STy := (Z9D Z3 Z4 ((ZIN Z3 Z4).2.2.2) ((ZB6 Z3 Z4).1))
def Zla : Sums := ⟨tblS [(29, ZdI)], tblM [(25, .src ZaJ), (26, .box Ze8), (27, .box Z6V), (28, .box Z25), (30, .box Zfn)], false⟩
theorem Zua : Ze prog Zla := ⟨Za ⟨⟨call29, ZqO⟩, ⟨⟩⟩, Z6a ⟨⟨call25, Zfs⟩, ⟨call26, Zlv⟩, ⟨call27, Zax⟩, ⟨call28, Z22⟩, ⟨call30, Zt9⟩, ⟨⟩⟩⟩
def Z7p (Z3 : Nat) (Z4 : List Int) : Option ((D8i) × ByteArray) :=
 (if (Z56 Z3 Z4) = true then (if (srcB Z3 Z4 (Z2C Z3 Z4)) = true then (if (srcB Z3 Z4 ((ZEV Z3 Z4).2.2.2) && Z6 ((ZEV Z3 Z4).1).1) = true then (if (srcB Z3 Z4 ((ZB6 Z3 Z4).2.2.2)) = true then (if (((ZLv Z3 Z4).1) == 0) = true then (if (Z56 Z3 Z4) = true then (if (srcB Z3 Z4 ((ZLv Z3 Z4).2.2.2)) = true then (if (((ZIN Z3 Z4).1) == 0) = true then (if (srcB Z3 Z4 ((ZIN Z3 Z4).2.2.2) && Nat.ble ((ZB6 Z3 Z4).1).size 1000) = true then some ((Za4 Z3 Z4), (ZPL Z3 Z4).1) else none) else some ((Za4 Z3 Z4), (ZB6 Z3 Z4).1)) else none) else none) else (if (srcB Z3 Z4 ((ZLv Z3 Z4).2.2.2)) = true then (if (((ZIN Z3 Z4).1) == 0) = true then (if (srcB Z3 Z4 ((ZIN Z3 Z4).2.2.2) && Nat.ble ((ZB6 Z3 Z4).1).size 1000) = true then some (((ZEV Z3 Z4).1), (ZPL Z3 Z4).1) else none) else some (((ZEV Z3 Z4).1), (ZB6 Z3 Z4).1)) else none)) else none) else none) else none) else none)
theorem ZuP (Z3 : Nat) (Z4 : List Int) : eT Zla 13 27 ZmH [.s Z3 (.byts Z4)] = Z7p Z3 Z4 := by
 kernel_rfl
def ZaV (Z3 : Nat) (Z4 : List Int) : (D8i) × ByteArray := (Z7p Z3 Z4).getD ((0, 0, 0, 0, 0, 0, 0, 0), .empty)
def Z1 : (Nat) -> (List Int) -> ((D8i) × ByteArray) := shut ZaV
theorem Zjq (Z3 : Nat) (Z4 : List Int) : Z1 Z3 Z4 = ZaV Z3 Z4 := by
 unfold Z1
 rw [Zu]
set_option maxHeartbeats 4000000 in
theorem Zjr (Z3 : Nat) (Z4 : List Int) (hp : (Z56 Z3 Z4) = true) : ∃ r, Z7p Z3 Z4 = some r /\ r.2.size <= 3000 := by
 have hs := ZiQ hp
 obtain ⟨d1, d2⟩ := Zni Z3 Z4 (Z2C Z3 Z4) hs
 obtain ⟨l1, l2⟩ := Zbs Z3 Z4 (Z5T Z3 Z4 (Z2C Z3 Z4)).2.2.2 (Z5T Z3 Z4 (Z2C Z3 Z4)).1 (Z2W d1 (ZgG d2))
 have l3 : Nat.ble (ZU Z3 Z4 (Z5T Z3 Z4 (Z2C Z3 Z4)).2.2.2 (Z5T Z3 Z4 (Z2C Z3 Z4)).1).1.size 1000 = true := Nat.ble_eq_true_of_le (Nat.le_trans l2 (by decide))
 have hk := Z2W d1 (ZgG d2)
 unfold Z7p
 repeat' (first | with_reducible refine Z74 hp ?_ | with_reducible refine Z74 hk ?_ | refine Z74 (by first | ((repeat (with_reducible first | assumption | apply Zh | apply Z1g | apply Z1h | apply Z1v | apply Z1S | apply Z1T)); done) | (with_reducible exact Z2W (by (repeat (with_reducible first | assumption | apply Zh | apply Z1g | apply Z1h | apply Z1v | apply Z1S | apply Z1T))) l3)) ?_ | with_reducible refine ZuX (fun _ => ?_) (fun _ => ?_) | exact Z7X (Nat.le_trans l2 (by decide)) | exact Z7X (Zvs _ _ _ _ (Z2W (by (repeat (with_reducible first | assumption | apply Zh | apply Z1g | apply Z1h | apply Z1v | apply Z1S | apply Z1T))) l3)).2)
theorem ZqC (Z3 : Nat) (Z4 : List Int) (hp : (Z56 Z3 Z4) = true) : (fun r : (D8i) × ByteArray => r.2.size <= 3000) (Z1 Z3 Z4) := by
 obtain ⟨r, e, h⟩ := Zjr Z3 Z4 hp
 rw [Zjq]
 unfold ZaV
 rw [e]
 first | done | exact h
theorem Ztz (Z3 : Nat) (Z4 : List Int) (hp : (Z56 Z3 Z4) = true) : Z7p Z3 Z4 = some (Z1 Z3 Z4) := by
 obtain ⟨r, e, _⟩ := Zjr Z3 Z4 hp
 rw [Zjq]
 unfold ZaV
 rw [e]
 rfl
def ZcB : RunP
 | [.s Z3 (.byts Z4)] => some (Z56 Z3 Z4, Zs1 (Z1 Z3 Z4))
 | _ => none
theorem ZoE : Sound prog 13 ZcB := by
 refine Zd ZG4 Zua (by kernel_rfl) func13 ntmps13 rfl (by kernel_rfl) fun q r E => ?_
 unfold ZcB at E
 split at E
 ·obtain ⟨hp, rfl⟩ := so2 E
  rename_i Z3 Z4
  exact ⟨_, _, rfl, (ZuP Z3 Z4).trans (Ztz Z3 Z4 hp)⟩
 ·cases E

abbrev ZQE (Z3 : Nat) (Z4 : List Int) : ByteArray × STy := (Z88 Z3 Z4 (Z2C Z3 Z4))
def Zl9 : Sums := ⟨tblS [], tblM [(25, .src ZaJ), (40, .box ZdO)], false⟩
theorem Zu9 : Ze prog Zl9 := ⟨Za ⟨⟩, Z6a ⟨⟨call25, Zfs⟩, ⟨call40, ZqU⟩, ⟨⟩⟩⟩
def Z7o (Z3 : Nat) (Z4 : List Int) : Option (ByteArray) :=
 (if (Z56 Z3 Z4) = true then (if (srcB Z3 Z4 (Z2C Z3 Z4)) = true then some ((ZQE Z3 Z4).1) else none) else none)
theorem ZuO (Z3 : Nat) (Z4 : List Int) : eT Zl9 20 6 Z2E [.s Z3 (.byts Z4)] = Z7o Z3 Z4 := by
 kernel_rfl
def ZaU (Z3 : Nat) (Z4 : List Int) : ByteArray := (Z7o Z3 Z4).getD .empty
def Z9 : (Nat) -> (List Int) -> (ByteArray) := shut ZaU
theorem Zjo (Z3 : Nat) (Z4 : List Int) : Z9 Z3 Z4 = ZaU Z3 Z4 := by
 unfold Z9
 rw [Zu]
set_option maxHeartbeats 4000000 in
theorem Zjp (Z3 : Nat) (Z4 : List Int) (hp : (Z56 Z3 Z4) = true) : ∃ r, Z7o Z3 Z4 = some r /\ r.size <= 6000 := by
 have hs := ZiQ hp
 unfold Z7o
 exact Z74 hp (Z74 hs (Z7X (ZsN _ _ _ hs).2))
theorem ZqB (Z3 : Nat) (Z4 : List Int) (hp : (Z56 Z3 Z4) = true) : (fun r : ByteArray => r.size <= 6000) (Z9 Z3 Z4) := by
 obtain ⟨r, e, h⟩ := Zjp Z3 Z4 hp
 rw [Zjo]
 unfold ZaU
 rw [e]
 first | done | exact h
theorem Zty (Z3 : Nat) (Z4 : List Int) (hp : (Z56 Z3 Z4) = true) : Z7o Z3 Z4 = some (Z9 Z3 Z4) := by
 obtain ⟨r, e, _⟩ := Zjp Z3 Z4 hp
 rw [Zjo]
 unfold ZaU
 rw [e]
 rfl
def ZcA : RunP
 | [.s Z3 (.byts Z4)] => some (Z56 Z3 Z4, Z9l (Z9 Z3 Z4))
 | _ => none
theorem ZoD : Sound prog 20 ZcA := by
 refine Zd Zkg Zu9 (by kernel_rfl) func20 ntmps20 rfl (by kernel_rfl) fun q r E => ?_
 unfold ZcA at E
 split at E
 ·obtain ⟨hp, rfl⟩ := so2 E
  rename_i Z3 Z4
  exact ⟨_, _, rfl, (ZuO Z3 Z4).trans (Zty Z3 Z4 hp)⟩
 ·cases E

end

end Go.Proofs.YtcdpfpfbilfpoaaGreatDoor
