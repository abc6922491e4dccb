import Derived.Test.YtcdpfpfbilfpoaaGreatDoorTc
import Derived.Test.YtcdpfpfbilfpoaaGreatDoorFb
import Derived.Test.YtcdpfpfbilfpoaaGreatDoorFc
import Derived.Test.YtcdpfpfbilfpoaaGreatDoorFd
import Derived.Test.YtcdpfpfbilfpoaaGreatDoorProg
set_option linter.unusedSimpArgs false
set_option linter.unusedVariables false
namespace Go.Proofs.YtcdpfpfbilfpoaaGreatDoor
open Go.RowKit Tryz
noncomputable section
def ZzR : Sums := ⟨tblS [(38, Z7a)], tblM [], false⟩
theorem ZHL : Ze prog ZzR := ⟨Za ⟨⟨call38, Z8n⟩, ⟨⟩⟩, tM⟩
def Zm3 (d : D8i) : Option (Bool) :=
 some ((Z0e d.1 d.2.1 3 [d.2.2.1, d.2.2.2.1, d.2.2.2.2.1, d.2.2.2.2.2.1, d.2.2.2.2.2.2.1, d.2.2.2.2.2.2.2]) == 0)
theorem ZIo (d : D8i) : eT ZzR 18 19 Z1M [.v (.agg ⟨[.int .i64 d.1, .int .i64 d.2.1, .int .i64 d.2.2.1, .int .i64 d.2.2.2.1, .int .i64 d.2.2.2.2.1, .int .i64 d.2.2.2.2.2.1, .int .i64 d.2.2.2.2.2.2.1, .int .i64 d.2.2.2.2.2.2.2]⟩)] = Zm3 d := by
 kernel_rfl
def Z9C (d : D8i) : Bool :=
 (Z0e d.1 d.2.1 3 [d.2.2.1, d.2.2.2.1, d.2.2.2.2.1, d.2.2.2.2.2.1, d.2.2.2.2.2.2.1, d.2.2.2.2.2.2.2]) == 0
theorem ZHr (d : D8i) : Zm3 d = some (Z9C d) := by
 unfold Zm3 Z9C
 (try simp only [Zz])
 repeat' (first | with_reducible rfl | refine Zm (fun _ => ?_) (fun _ => ?_) | rfl)
def ZfO : RunP
 | [.v (.agg ⟨[.int .i64 d0, .int .i64 d1, .int .i64 d2, .int .i64 d3, .int .i64 d4, .int .i64 d5, .int .i64 d6, .int .i64 d7]⟩)] => some (true, Z4k (Z9C (d0, d1, d2, d3, d4, d5, d6, d7)))
 | _ => none
theorem Znp : Sound prog 18 ZfO := by
 refine Zd Z9i ZHL (by kernel_rfl) func18 ntmps18 rfl (by kernel_rfl) fun q r E => ?_
 unfold ZfO at E
 split at E
 ·obtain ⟨hp, rfl⟩ := so2 E
  rename_i d0 d1 d2 d3 d4 d5 d6 d7
  exact ⟨_, _, rfl, (ZIo (d0, d1, d2, d3, d4, d5, d6, d7)).trans (ZHr (d0, d1, d2, d3, d4, d5, d6, d7))⟩
 ·cases E

def ZrL : Sums := ⟨tblS [], tblM [], false⟩
theorem ZCX : Ze prog ZrL := ⟨Za ⟨⟩, tM⟩
def Zik (p : Int) : Option (D8i) :=
 some (p, 0, 0, 0, 1, 0, 0, 1)
theorem ZDz (p : Int) : eT ZrL 43 9 Zuv [pI p] = Zik p := by
 kernel_rfl
def Zn (p : Int) : D8i :=
 (p, 0, 0, 0, 1, 0, 0, 1)
theorem ZCo (p : Int) : Zik p = some (Zn p) := by
 unfold Zik Zn
 (try simp only [Zz])
 repeat' (first | with_reducible rfl | refine Zm (fun _ => ?_) (fun _ => ?_) | rfl)
def Z66 : RunP
 | [.v (.int .i64 p)] => some (true, ZAl (Zn p))
 | _ => none
theorem Z7M : Sound prog 43 Z66 := by
 refine Zd ZLi ZCX (by kernel_rfl) func43 ntmps43 rfl (by kernel_rfl) fun q r E => ?_
 unfold Z66 at E
 split at E
 ·obtain ⟨hp, rfl⟩ := so2 E
  rename_i p
  exact ⟨_, _, rfl, (ZDz p).trans (ZCo p)⟩
 ·cases E

def ZzW : Sums := ⟨tblS [], tblM [], false⟩
theorem ZHQ : Ze prog ZzW := ⟨Za ⟨⟩, tM⟩
def Zm6 (yes : Bool) : Option (ByteArray) :=
 (if yes = true then some (bs [121, 101, 115]) else some (bs [110, 111]))
theorem ZIu (yes : Bool) : eT ZzW 192 4 Z2E [.v (.bool yes)] = Zm6 yes := by
 kernel_rfl
def Zjw (yes : Bool) : ByteArray :=
 (if yes = true then bs [121, 101, 115] else bs [110, 111])
theorem ZHx (yes : Bool) : Zm6 yes = some (Zjw yes) := by
 unfold Zm6 Zjw
 (try simp only [Zz])
 repeat' (first | with_reducible rfl | refine Zm (fun _ => ?_) (fun _ => ?_) | rfl)
def ZkE : RunP
 | [.v (.bool yes)] => some (true, Z9l (Zjw yes))
 | _ => none
theorem ZBN : Sound prog 192 ZkE := by
 refine Zd Zkg ZHQ (by kernel_rfl) func192 ntmps192 rfl (by kernel_rfl) fun q r E => ?_
 unfold ZkE at E
 split at E
 ·obtain ⟨hp, rfl⟩ := so2 E
  rename_i yes
  exact ⟨_, _, rfl, (ZIu yes).trans (ZHx yes)⟩
 ·cases E

def Zwz : Sums := ⟨tblS [(147, Z90), (236, Zh6), (237, ZdG), (238, ZcC), (239, Zfl), (240, Z8V)], tblM [], false⟩
theorem ZFR : Ze prog Zwz := ⟨Za ⟨⟨call147, ZfG⟩, ⟨call236, Zvz⟩, ⟨call237, ZqM⟩, ⟨call238, ZoF⟩, ⟨call239, Zt7⟩, ⟨call240, ZjG⟩, ⟨⟩⟩, tM⟩
def Z0U (p Z0 : Int) (a b c : P2) (Zl : ByteArray) : Option ((Nat × List Int) × Int) :=
 (if (eqS Zl (bs [115, 105, 100, 101])) = true then some ((1, [((ZT p b c).1).1, ((ZT p b c).1).2.1, ((ZT p b c).1).2.2]), (ZT p b c).2) else (if (eqS Zl (bs [109, 101, 100, 105, 97, 110])) = true then some ((1, [((Z2c p a b c).1).1, ((Z2c p a b c).1).2.1, ((Z2c p a b c).1).2.2]), (Z2c p a b c).2) else (if (eqS Zl (bs [97, 108, 116, 105, 116, 117, 100, 101])) = true then some ((1, [((Z1e p Z0 a b c).1).1, ((Z1e p Z0 a b c).1).2.1, ((Z1e p Z0 a b c).1).2.2]), (Z1e p Z0 a b c).2) else (if (eqS Zl (bs [101, 117, 108, 101, 114])) = true then some ((1, [((Z0H p Z0 a b c).1).1, ((Z0H p Z0 a b c).1).2.1, ((Z0H p Z0 a b c).1).2.2]), (Z0H p Z0 a b c).2) else (if (eqS Zl (bs [110, 117, 108, 108])) = true then some ((((Z1x p Z0 a).1).1, ((Z1x p Z0 a).1).2), (Z1x p Z0 a).2) else (if (eqS Zl (bs [101, 117, 108, 101, 114, 115])) = true then some ((((Z03 p a b c).1).1, ((Z03 p a b c).1).2), (Z03 p a b c).2) else some ((0, []), 6)))))))
theorem ZGG (p Z0 : Int) (a b c : P2) (Zl : ByteArray) : eT Zwz 201 79 Z5o [pI p, pI Z0, pA a, pA b, pA c, .v (.string Zl)] = Z0U p Z0 a b c Zl := by
 kernel_rfl
def Z9Y : (Int) -> (Int) -> P2 -> P2 -> P2 -> (ByteArray) -> (Bool) := shut fun (p Z0 : Int) (a b c : P2) (Zl : ByteArray) => (Z0U p Z0 a b c Zl).isSome
def Z8M : (Int) -> (Int) -> P2 -> P2 -> P2 -> (ByteArray) -> ((Nat × List Int) × Int) := shut fun (p Z0 : Int) (a b c : P2) (Zl : ByteArray) => (Z0U p Z0 a b c Zl).getD ((0, []), 0)
theorem Z50 {p Z0 : Int} {a b c : P2} {Zl : ByteArray} {r : (Nat × List Int) × Int} (e : Z0U p Z0 a b c Zl = some r) : Z9Y p Z0 a b c Zl = true := by
 unfold Z9Y
 rw [Zu, e]
 rfl
theorem Z89 {p Z0 : Int} {a b c : P2} {Zl : ByteArray} {r : (Nat × List Int) × Int} (e : Z0U p Z0 a b c Zl = some r) : Z8M p Z0 a b c Zl = r := by
 unfold Z8M
 rw [Zu, e]
 rfl
theorem ZEq (p Z0 : Int) (a b c : P2) (Zl : ByteArray) (hp : (Z9Y p Z0 a b c Zl) = true) : Z0U p Z0 a b c Zl = some (Z8M p Z0 a b c Zl) := by
 unfold Z9Y at hp
 rw [Zu] at hp
 unfold Z8M
 rw [Zu]
 exact Z1t hp
def ZiP : RunP
 | [.v (.int .i64 p), .v (.int .i64 Z0), .v (.agg ⟨[.int .i64 a0, .int .i64 a1]⟩), .v (.agg ⟨[.int .i64 b0, .int .i64 b1]⟩), .v (.agg ⟨[.int .i64 c0, .int .i64 c1]⟩), .v (.string Zl)] => some (Z9Y p Z0 (a0, a1) (b0, b1) (c0, c1) Zl, ZbB (Z8M p Z0 (a0, a1) (b0, b1) (c0, c1) Zl))
 | _ => none
theorem Zyv : Sound prog 201 ZiP := by
 refine Zd ZgE ZFR (by kernel_rfl) func201 ntmps201 rfl (by kernel_rfl) fun q r E => ?_
 unfold ZiP at E
 split at E
 ·obtain ⟨hp, rfl⟩ := so2 E
  rename_i p Z0 a0 a1 b0 b1 c0 c1 Zl
  exact ⟨_, _, rfl, (ZGG p Z0 (a0, a1) (b0, b1) (c0, c1) Zl).trans (ZEq p Z0 (a0, a1) (b0, b1) (c0, c1) Zl hp)⟩
 ·cases E

def ZzU : Sums := ⟨tblS [(145, Z8j), (188, ZiO), (189, Zcz), (46, Z84), (190, Z32), (191, Zas), (192, ZkE), (193, Zh8), (194, Zfm), (195, ZdH), (48, Z7I), (196, Zaq), (197, Zbo), (198, ZcD), (199, Zbp), (200, ZdL), (201, ZiP), (202, Zhe)], tblM [], false⟩
theorem ZHO : Ze prog ZzU := ⟨Za ⟨⟨call145, ZcO⟩, ⟨call188, Zyu⟩, ⟨call189, ZoC⟩, ⟨call46, Z9G⟩, ⟨call190, Z4L⟩, ⟨call191, ZlM⟩, ⟨call192, ZBN⟩, ⟨call193, ZvB⟩, ⟨call194, Zt8⟩, ⟨call195, ZqN⟩, ⟨call48, Zaa⟩, ⟨call196, ZlK⟩, ⟨call197, Znq⟩, ⟨call198, ZoG⟩, ⟨call199, Znr⟩, ⟨call200, ZqR⟩, ⟨call201, Zyv⟩, ⟨call202, ZvH⟩, ⟨⟩⟩, tM⟩
def Z0q (p Z0 : Int) (a b c : P2) (Zl : ByteArray) : Option (ByteArray × Int) :=
 (if (eqS Zl (bs [115, 104, 111, 119])) = true then (if (ptsB 3 [a.1, a.2, b.1, b.2, c.1, c.2]) = true then some ((Z17 3 [a.1, a.2, b.1, b.2, c.1, c.2]), 0) else none) else (if (eqS Zl (bs [102, 105, 101, 108, 100])) = true then (if (numB 2 [p, Z0]) = true then some ((Z2O 2 [p, Z0]), 0) else none) else (if (eqS Zl (bs [97, 114, 101, 97])) = true then (if (Z5X ((Z27 p a b c).1)) = true then some ((Z01 ((Z27 p a b c).1)), (Z27 p a b c).2) else none) else (if (eqS Zl (bs [113, 117, 97, 100, 114, 97, 110, 99, 101, 115])) = true then (if (prB p) = true then (if (prB p) = true then (if (prB p) = true then (if (numB 3 [(Zp p Z0 b c), (Zp p Z0 a c), (Zp p Z0 a b)]) = true then some ((Z2O 3 [(Zp p Z0 b c), (Zp p Z0 a c), (Zp p Z0 a b)]), 0) else none) else none) else none) else none) else (if (eqS Zl (bs [114, 105, 103, 104, 116])) = true then some ((Zjw ((Z53 p Z0 a b c).1)), (Z53 p Z0 a b c).2) else (if (eqS Zl (bs [115, 112, 114, 101, 97, 100])) = true then (if (Z5X ((Z4g p Z0 a b c).1)) = true then some ((Z01 ((Z4g p Z0 a b c).1)), (Z4g p Z0 a b c).2) else none) else (if (eqS Zl (bs [113, 117, 97, 100, 114, 101, 97])) = true then (if (Z5X ((Z2n p Z0 a b c).1)) = true then some ((Z01 ((Z2n p Z0 a b c).1)), (Z2n p Z0 a b c).2) else none) else (if (eqS Zl (bs [99, 101, 110, 116, 114, 111, 105, 100])) = true then (if (num2 ((Z2B p a b c).1)) = true then some ((Z02 ((Z2B p a b c).1)), (Z2B p a b c).2) else none) else (if (eqS Zl (bs [99, 105, 114, 99, 108, 101])) = true then (if (num2 (((ZC p Z0 a b c).1).1, ((ZC p Z0 a b c).1).2.1)) = true then (if (Nat.ble ((Z02 (((ZC p Z0 a b c).1).1, ((ZC p Z0 a b c).1).2.1)).size + (bs [32]).size) 9223372036854775807) = true then (if (Z5X (((ZC p Z0 a b c).1).2.2)) = true then (if (Nat.ble (((Z02 (((ZC p Z0 a b c).1).1, ((ZC p Z0 a b c).1).2.1)) ++ (bs [32])).size + (Z01 (((ZC p Z0 a b c).1).2.2)).size) 9223372036854775807) = true then some (((Z02 (((ZC p Z0 a b c).1).1, ((ZC p Z0 a b c).1).2.1)) ++ (bs [32])) ++ (Z01 (((ZC p Z0 a b c).1).2.2)), (ZC p Z0 a b c).2) else none) else none) else none) else none) else (if (eqS Zl (bs [111, 114, 116, 104, 105, 99])) = true then (if (ptsB (((Z0D p Z0 a b c).1).1) (((Z0D p Z0 a b c).1).2)) = true then some ((Z17 (((Z0D p Z0 a b c).1).1) (((Z0D p Z0 a b c).1).2)), (Z0D p Z0 a b c).2) else none) else (if (eqS Zl (bs [111, 109, 101, 103, 97])) = true then (if (ptsB (((Z0I p a b c).1).1) (((Z0I p a b c).1).2)) = true then some ((Z17 (((Z0I p a b c).1).1) (((Z0I p a b c).1).2)), (Z0I p a b c).2) else none) else (if (eqS Zl (bs [114, 105, 103, 104, 116, 115])) = true then (if (numB (((Z0s p a b c).1).1) (((Z0s p a b c).1).2)) = true then some ((Z2O (((Z0s p a b c).1).1) (((Z0s p a b c).1).2)), (Z0s p a b c).2) else none) else (if (eqS Zl (bs [117, 110, 105, 116, 115])) = true then (if (numB (((Z0V p).1).1) (((Z0V p).1).2)) = true then some ((Z2O (((Z0V p).1).1) (((Z0V p).1).2)), (Z0V p).2) else none) else (if (Z9Y p Z0 a b c Zl) = true then (if (lnsB (((Z8M p Z0 a b c Zl).1).1) (((Z8M p Z0 a b c Zl).1).2)) = true then some ((Z55 (((Z8M p Z0 a b c Zl).1).1) (((Z8M p Z0 a b c Zl).1).2)), (Z8M p Z0 a b c Zl).2) else none) else none))))))))))))))
theorem ZIs (p Z0 : Int) (a b c : P2) (Zl : ByteArray) : eT ZzU 151 220 ZfJ [pI p, pI Z0, pA a, pA b, pA c, .v (.string Zl)] = Z0q p Z0 a b c Zl := by
 kernel_rfl
def ZbI : (Int) -> (Int) -> P2 -> P2 -> P2 -> (ByteArray) -> (Bool) := shut fun (p Z0 : Int) (a b c : P2) (Zl : ByteArray) => (Z0q p Z0 a b c Zl).isSome
def Zhh : (Int) -> (Int) -> P2 -> P2 -> P2 -> (ByteArray) -> (ByteArray × Int) := shut fun (p Z0 : Int) (a b c : P2) (Zl : ByteArray) => (Z0q p Z0 a b c Zl).getD (.empty, 0)
theorem ZBt {p Z0 : Int} {a b c : P2} {Zl : ByteArray} {r : ByteArray × Int} (e : Z0q p Z0 a b c Zl = some r) : ZbI p Z0 a b c Zl = true := by
 unfold ZbI
 rw [Zu, e]
 rfl
theorem ZJm {p Z0 : Int} {a b c : P2} {Zl : ByteArray} {r : ByteArray × Int} (e : Z0q p Z0 a b c Zl = some r) : Zhh p Z0 a b c Zl = r := by
 unfold Zhh
 rw [Zu, e]
 rfl
theorem ZHv (p Z0 : Int) (a b c : P2) (Zl : ByteArray) (hp : (ZbI p Z0 a b c Zl) = true) : Z0q p Z0 a b c Zl = some (Zhh p Z0 a b c Zl) := by
 unfold ZbI at hp
 rw [Zu] at hp
 unfold Zhh
 rw [Zu]
 exact Z1t hp
def ZkD : RunP
 | [.v (.int .i64 p), .v (.int .i64 Z0), .v (.agg ⟨[.int .i64 a0, .int .i64 a1]⟩), .v (.agg ⟨[.int .i64 b0, .int .i64 b1]⟩), .v (.agg ⟨[.int .i64 c0, .int .i64 c1]⟩), .v (.string Zl)] => some (ZbI p Z0 (a0, a1) (b0, b1) (c0, c1) Zl, ZhG (Zhh p Z0 (a0, a1) (b0, b1) (c0, c1) Zl))
 | _ => none
theorem ZBM : Sound prog 151 ZkD := by
 refine Zd ZpO ZHO (by kernel_rfl) func151 ntmps151 rfl (by kernel_rfl) fun q r E => ?_
 unfold ZkD at E
 split at E
 ·obtain ⟨hp, rfl⟩ := so2 E
  rename_i p Z0 a0 a1 b0 b1 c0 c1 Zl
  exact ⟨_, _, rfl, (ZIs p Z0 (a0, a1) (b0, b1) (c0, c1) Zl).trans (ZHv p Z0 (a0, a1) (b0, b1) (c0, c1) Zl hp)⟩
 ·cases E

def ZzV : Sums := ⟨tblS [(48, Z7I)], tblM [], false⟩
theorem ZHP : Ze prog ZzV := ⟨Za ⟨⟨call48, Zaa⟩, ⟨⟩⟩, tM⟩
def Z3K (d : D8i) (i : Int) (a : P2) (ZR : Int) : Option ((D8i) × ByteArray × Int) :=
 (if (ZR != 0) = true then some (d, bs [], ZR) else (if (decide (0 <= i) && decide (i < ((3 : Nat) : Int))) = true then (if (Nat.ble (2 + (i.toNat * 2) + 2) 8) = true then (if (num2 a) = true then some ((bif Nat.beq (2 + (i.toNat * 2) + 1) 0 then a.2 else (bif Nat.beq (2 + (i.toNat * 2)) 0 then a.1 else d.1), bif Nat.beq (2 + (i.toNat * 2) + 1) 1 then a.2 else (bif Nat.beq (2 + (i.toNat * 2)) 1 then a.1 else d.2.1), bif Nat.beq (2 + (i.toNat * 2) + 1) 2 then a.2 else (bif Nat.beq (2 + (i.toNat * 2)) 2 then a.1 else d.2.2.1), bif Nat.beq (2 + (i.toNat * 2) + 1) 3 then a.2 else (bif Nat.beq (2 + (i.toNat * 2)) 3 then a.1 else d.2.2.2.1), bif Nat.beq (2 + (i.toNat * 2) + 1) 4 then a.2 else (bif Nat.beq (2 + (i.toNat * 2)) 4 then a.1 else d.2.2.2.2.1), bif Nat.beq (2 + (i.toNat * 2) + 1) 5 then a.2 else (bif Nat.beq (2 + (i.toNat * 2)) 5 then a.1 else d.2.2.2.2.2.1), bif Nat.beq (2 + (i.toNat * 2) + 1) 6 then a.2 else (bif Nat.beq (2 + (i.toNat * 2)) 6 then a.1 else d.2.2.2.2.2.2.1), bif Nat.beq (2 + (i.toNat * 2) + 1) 7 then a.2 else (bif Nat.beq (2 + (i.toNat * 2)) 7 then a.1 else d.2.2.2.2.2.2.2)), (Z02 a), 0) else none) else none) else none))
theorem ZIt (d : D8i) (i : Int) (a : P2) (ZR : Int) : eT ZzV 93 22 Zdo [.v (.agg ⟨[.int .i64 d.1, .int .i64 d.2.1, .int .i64 d.2.2.1, .int .i64 d.2.2.2.1, .int .i64 d.2.2.2.2.1, .int .i64 d.2.2.2.2.2.1, .int .i64 d.2.2.2.2.2.2.1, .int .i64 d.2.2.2.2.2.2.2]⟩), pI i, pA a, pI ZR] = Z3K d i a ZR := by
 kernel_rfl
def Z29 : (D8i) -> (Int) -> P2 -> (Int) -> (Bool) := shut fun (d : D8i) (i : Int) (a : P2) (ZR : Int) => (Z3K d i a ZR).isSome
def Z0S : (D8i) -> (Int) -> P2 -> (Int) -> ((D8i) × ByteArray × Int) := shut fun (d : D8i) (i : Int) (a : P2) (ZR : Int) => (Z3K d i a ZR).getD ((0, 0, 0, 0, 0, 0, 0, 0), .empty, 0)
theorem ZgS {d : D8i} {i : Int} {a : P2} {ZR : Int} {r : (D8i) × ByteArray × Int} (e : Z3K d i a ZR = some r) : Z29 d i a ZR = true := by
 unfold Z29
 rw [Zu, e]
 rfl
theorem Znj {d : D8i} {i : Int} {a : P2} {ZR : Int} {r : (D8i) × ByteArray × Int} (e : Z3K d i a ZR = some r) : Z0S d i a ZR = r := by
 unfold Z0S
 rw [Zu, e]
 rfl
theorem ZHw (d : D8i) (i : Int) (a : P2) (ZR : Int) (hp : (Z29 d i a ZR) = true) : Z3K d i a ZR = some (Z0S d i a ZR) := by
 unfold Z29 at hp
 rw [Zu] at hp
 unfold Z0S
 rw [Zu]
 exact Z1t hp
def ZcG : RunP
 | [.v (.agg ⟨[.int .i64 d0, .int .i64 d1, .int .i64 d2, .int .i64 d3, .int .i64 d4, .int .i64 d5, .int .i64 d6, .int .i64 d7]⟩), .v (.int .i64 i), .v (.agg ⟨[.int .i64 a0, .int .i64 a1]⟩), .v (.int .i64 ZR)] => some (Z29 (d0, d1, d2, d3, d4, d5, d6, d7) i (a0, a1) ZR, ZgI (Z0S (d0, d1, d2, d3, d4, d5, d6, d7) i (a0, a1) ZR))
 | _ => none
theorem Zhm : Sound prog 93 ZcG := by
 refine Zd ZnF ZHP (by kernel_rfl) func93 ntmps93 rfl (by kernel_rfl) fun q r E => ?_
 unfold ZcG at E
 split at E
 ·obtain ⟨hp, rfl⟩ := so2 E
  rename_i d0 d1 d2 d3 d4 d5 d6 d7 i a0 a1 ZR
  exact ⟨_, _, rfl, (ZIt (d0, d1, d2, d3, d4, d5, d6, d7) i (a0, a1) ZR).trans (ZHw (d0, d1, d2, d3, d4, d5, d6, d7) i (a0, a1) ZR hp)⟩
 ·cases E

def ZrK : Sums := ⟨tblS [(145, Z8j), (146, ZdJ), (93, ZcG), (147, Z90), (148, ZkC), (149, Z9x), (150, Zat), (43, Z66), (151, ZkD)], tblM [], false⟩
theorem ZCW : Ze prog ZrK := ⟨Za ⟨⟨call145, ZcO⟩, ⟨call146, ZqP⟩, ⟨call93, Zhm⟩, ⟨call147, ZfG⟩, ⟨call148, ZBL⟩, ⟨call149, ZkN⟩, ⟨call150, ZlN⟩, ⟨call43, Z7M⟩, ⟨call151, ZBM⟩, ⟨⟩⟩, tM⟩
def Z0h (d : D8i) (Zl : ByteArray) : Option ((D8i) × ByteArray × Int) :=
 (if (eqS Zl (bs [116, 117, 114, 110])) = true then (if (ptsB 3 [d.2.2.2.2.1, d.2.2.2.2.2.1, d.2.2.2.2.2.2.1, d.2.2.2.2.2.2.2, d.2.2.1, d.2.2.2.1]) = true then some ((d.1, d.2.1, d.2.2.2.2.1, d.2.2.2.2.2.1, d.2.2.2.2.2.2.1, d.2.2.2.2.2.2.2, d.2.2.1, d.2.2.2.1), (Z17 3 [d.2.2.2.2.1, d.2.2.2.2.2.1, d.2.2.2.2.2.2.1, d.2.2.2.2.2.2.2, d.2.2.1, d.2.2.2.1]), 0) else none) else (if (eqS Zl (bs [109, 105, 100, 100, 108, 101])) = true then (if (Z29 d 0 ((Z1w d.1 (d.2.2.1, d.2.2.2.1) (d.2.2.2.2.1, d.2.2.2.2.2.1)).1) ((Z1w d.1 (d.2.2.1, d.2.2.2.1) (d.2.2.2.2.1, d.2.2.2.2.2.1)).2)) = true then some (((Z0S d 0 ((Z1w d.1 (d.2.2.1, d.2.2.2.1) (d.2.2.2.2.1, d.2.2.2.2.2.1)).1) ((Z1w d.1 (d.2.2.1, d.2.2.2.1) (d.2.2.2.2.1, d.2.2.2.2.2.1)).2)).1), (Z0S d 0 ((Z1w d.1 (d.2.2.1, d.2.2.2.1) (d.2.2.2.2.1, d.2.2.2.2.2.1)).1) ((Z1w d.1 (d.2.2.1, d.2.2.2.1) (d.2.2.2.2.1, d.2.2.2.2.2.1)).2)).2.1, (Z0S d 0 ((Z1w d.1 (d.2.2.1, d.2.2.2.1) (d.2.2.2.2.1, d.2.2.2.2.2.1)).1) ((Z1w d.1 (d.2.2.1, d.2.2.2.1) (d.2.2.2.2.1, d.2.2.2.2.2.1)).2)).2.2) else none) else (if (eqS Zl (bs [102, 111, 111, 116])) = true then (if (((ZT d.1 (d.2.2.2.2.1, d.2.2.2.2.2.1) d.2.2.2.2.2.2).2) != 0) = true then some (d, bs [], (ZT d.1 (d.2.2.2.2.1, d.2.2.2.2.2.1) d.2.2.2.2.2.2).2) else (if (Z29 d 0 ((Z5a d.1 d.2.1 (d.2.2.1, d.2.2.2.1) ((ZT d.1 (d.2.2.2.2.1, d.2.2.2.2.2.1) d.2.2.2.2.2.2).1)).1) ((Z5a d.1 d.2.1 (d.2.2.1, d.2.2.2.1) ((ZT d.1 (d.2.2.2.2.1, d.2.2.2.2.2.1) d.2.2.2.2.2.2).1)).2)) = true then some (((Z0S d 0 ((Z5a d.1 d.2.1 (d.2.2.1, d.2.2.2.1) ((ZT d.1 (d.2.2.2.2.1, d.2.2.2.2.2.1) d.2.2.2.2.2.2).1)).1) ((Z5a d.1 d.2.1 (d.2.2.1, d.2.2.2.1) ((ZT d.1 (d.2.2.2.2.1, d.2.2.2.2.2.1) d.2.2.2.2.2.2).1)).2)).1), (Z0S d 0 ((Z5a d.1 d.2.1 (d.2.2.1, d.2.2.2.1) ((ZT d.1 (d.2.2.2.2.1, d.2.2.2.2.2.1) d.2.2.2.2.2.2).1)).1) ((Z5a d.1 d.2.1 (d.2.2.1, d.2.2.2.1) ((ZT d.1 (d.2.2.2.2.1, d.2.2.2.2.2.1) d.2.2.2.2.2.2).1)).2)).2.1, (Z0S d 0 ((Z5a d.1 d.2.1 (d.2.2.1, d.2.2.2.1) ((ZT d.1 (d.2.2.2.2.1, d.2.2.2.2.2.1) d.2.2.2.2.2.2).1)).1) ((Z5a d.1 d.2.1 (d.2.2.1, d.2.2.2.1) ((ZT d.1 (d.2.2.2.2.1, d.2.2.2.2.2.1) d.2.2.2.2.2.2).1)).2)).2.2) else none)) else (if (eqS Zl (bs [99, 101, 110, 116, 114, 101])) = true then (if (Z29 d 0 ((Z0E d.1 d.2.1 (d.2.2.1, d.2.2.2.1) (d.2.2.2.2.1, d.2.2.2.2.2.1) d.2.2.2.2.2.2).1) ((Z0E d.1 d.2.1 (d.2.2.1, d.2.2.2.1) (d.2.2.2.2.1, d.2.2.2.2.2.1) d.2.2.2.2.2.2).2)) = true then some (((Z0S d 0 ((Z0E d.1 d.2.1 (d.2.2.1, d.2.2.2.1) (d.2.2.2.2.1, d.2.2.2.2.2.1) d.2.2.2.2.2.2).1) ((Z0E d.1 d.2.1 (d.2.2.1, d.2.2.2.1) (d.2.2.2.2.1, d.2.2.2.2.2.1) d.2.2.2.2.2.2).2)).1), (Z0S d 0 ((Z0E d.1 d.2.1 (d.2.2.1, d.2.2.2.1) (d.2.2.2.2.1, d.2.2.2.2.2.1) d.2.2.2.2.2.2).1) ((Z0E d.1 d.2.1 (d.2.2.1, d.2.2.2.1) (d.2.2.2.2.1, d.2.2.2.2.2.1) d.2.2.2.2.2.2).2)).2.1, (Z0S d 0 ((Z0E d.1 d.2.1 (d.2.2.1, d.2.2.2.1) (d.2.2.2.2.1, d.2.2.2.2.2.1) d.2.2.2.2.2.2).1) ((Z0E d.1 d.2.1 (d.2.2.1, d.2.2.2.1) (d.2.2.2.2.1, d.2.2.2.2.2.1) d.2.2.2.2.2.2).2)).2.2) else none) else (if (eqS Zl (bs [104, 105, 103, 104])) = true then (if (Z29 d 0 ((Z0N d.1 d.2.1 (d.2.2.1, d.2.2.2.1) (d.2.2.2.2.1, d.2.2.2.2.2.1) d.2.2.2.2.2.2).1) ((Z0N d.1 d.2.1 (d.2.2.1, d.2.2.2.1) (d.2.2.2.2.1, d.2.2.2.2.2.1) d.2.2.2.2.2.2).2)) = true then some (((Z0S d 0 ((Z0N d.1 d.2.1 (d.2.2.1, d.2.2.2.1) (d.2.2.2.2.1, d.2.2.2.2.2.1) d.2.2.2.2.2.2).1) ((Z0N d.1 d.2.1 (d.2.2.1, d.2.2.2.1) (d.2.2.2.2.1, d.2.2.2.2.2.1) d.2.2.2.2.2.2).2)).1), (Z0S d 0 ((Z0N d.1 d.2.1 (d.2.2.1, d.2.2.2.1) (d.2.2.2.2.1, d.2.2.2.2.2.1) d.2.2.2.2.2.2).1) ((Z0N d.1 d.2.1 (d.2.2.1, d.2.2.2.1) (d.2.2.2.2.1, d.2.2.2.2.2.1) d.2.2.2.2.2.2).2)).2.1, (Z0S d 0 ((Z0N d.1 d.2.1 (d.2.2.1, d.2.2.2.1) (d.2.2.2.2.1, d.2.2.2.2.2.1) d.2.2.2.2.2.2).1) ((Z0N d.1 d.2.1 (d.2.2.1, d.2.2.2.1) (d.2.2.2.2.1, d.2.2.2.2.2.1) d.2.2.2.2.2.2).2)).2.2) else none) else (if (eqS Zl (bs [114, 101, 115, 101, 116])) = true then some ((Zn 7), bs [111, 107], 0) else (if (ZbI d.1 d.2.1 (d.2.2.1, d.2.2.2.1) (d.2.2.2.2.1, d.2.2.2.2.2.1) d.2.2.2.2.2.2 Zl) = true then some (d, (Zhh d.1 d.2.1 (d.2.2.1, d.2.2.2.1) (d.2.2.2.2.1, d.2.2.2.2.2.1) d.2.2.2.2.2.2 Zl).1, (Zhh d.1 d.2.1 (d.2.2.1, d.2.2.2.1) (d.2.2.2.2.1, d.2.2.2.2.2.1) d.2.2.2.2.2.2 Zl).2) else none)))))))
theorem ZDy (d : D8i) (Zl : ByteArray) : eT ZrK 91 123 Zdo [.v (.agg ⟨[.int .i64 d.1, .int .i64 d.2.1, .int .i64 d.2.2.1, .int .i64 d.2.2.2.1, .int .i64 d.2.2.2.2.1, .int .i64 d.2.2.2.2.2.1, .int .i64 d.2.2.2.2.2.2.1, .int .i64 d.2.2.2.2.2.2.2]⟩), .v (.string Zl)] = Z0h d Zl := by
 kernel_rfl
def Z8G : (D8i) -> (ByteArray) -> (Bool) := shut fun (d : D8i) (Zl : ByteArray) => (Z0h d Zl).isSome
def Z9E : (D8i) -> (ByteArray) -> ((D8i) × ByteArray × Int) := shut fun (d : D8i) (Zl : ByteArray) => (Z0h d Zl).getD ((0, 0, 0, 0, 0, 0, 0, 0), .empty, 0)
theorem Zvj {d : D8i} {Zl : ByteArray} {r : (D8i) × ByteArray × Int} (e : Z0h d Zl = some r) : Z8G d Zl = true := by
 unfold Z8G
 rw [Zu, e]
 rfl
theorem ZDP {d : D8i} {Zl : ByteArray} {r : (D8i) × ByteArray × Int} (e : Z0h d Zl = some r) : Z9E d Zl = r := by
 unfold Z9E
 rw [Zu, e]
 rfl
theorem ZCn (d : D8i) (Zl : ByteArray) (hp : (Z8G d Zl) = true) : Z0h d Zl = some (Z9E d Zl) := by
 unfold Z8G at hp
 rw [Zu] at hp
 unfold Z9E
 rw [Zu]
 exact Z1t hp
def Zhd : RunP
 | [.v (.agg ⟨[.int .i64 d0, .int .i64 d1, .int .i64 d2, .int .i64 d3, .int .i64 d4, .int .i64 d5, .int .i64 d6, .int .i64 d7]⟩), .v (.string Zl)] => some (Z8G (d0, d1, d2, d3, d4, d5, d6, d7) Zl, ZgI (Z9E (d0, d1, d2, d3, d4, d5, d6, d7) Zl))
 | _ => none
theorem ZvG : Sound prog 91 Zhd := by
 refine Zd ZnF ZCW (by kernel_rfl) func91 ntmps91 rfl (by kernel_rfl) fun q r E => ?_
 unfold Zhd at E
 split at E
 ·obtain ⟨hp, rfl⟩ := so2 E
  rename_i d0 d1 d2 d3 d4 d5 d6 d7 Zl
  exact ⟨_, _, rfl, (ZDy (d0, d1, d2, d3, d4, d5, d6, d7) Zl).trans (ZCn (d0, d1, d2, d3, d4, d5, d6, d7) Zl hp)⟩
 ·cases E

def Zms : Sums := ⟨tblS [(152, Z5R), (153, Zha)], tblM [], false⟩
theorem Zxc : Ze prog Zms := ⟨Za ⟨⟨call152, Z8b⟩, ⟨call153, ZvD⟩, ⟨⟩⟩, tM⟩
def Z3J (p : Int) (text : ByteArray) : Option (P2 × Int) :=
 (if ((Z00 p []) != 0) = true then some ((0, 0), (Z00 p [])) else (if (Nat.ble text.size 1048576) = true then (if ((((Z33 text).1 : Nat) : Int) != 2) = true then some ((0, 0), 6) else (if (lenB ((Z33 text).1) 1 ((Z33 text).2)) = true then (if ((Z00 p ((Z33 text).2)) != 0) = true then some ((0, 0), 6) else (if (decide (0 <= 0) && decide (0 < (((Z33 text).1 : Nat) : Int))) = true then (if (Nat.ble (1) (((Z33 text).2).length)) = true then (if (decide (0 <= 1) && decide (1 < (((Z33 text).1 : Nat) : Int))) = true then (if (Nat.ble (2) (((Z33 text).2).length)) = true then some ((((Z33 text).2).getD 0 0, ((Z33 text).2).getD 1 0), 0) else none) else none) else none) else none)) else none)) else none))
theorem ZxQ (p : Int) (text : ByteArray) : eT Zms 92 33 Z57 [pI p, .v (.string text)] = Z3J p text := by
 kernel_rfl
def Z2Z : (Int) -> (ByteArray) -> (Bool) := shut fun (p : Int) (text : ByteArray) => (Z3J p text).isSome
def Z0a : (Int) -> (ByteArray) -> (P2 × Int) := shut fun (p : Int) (text : ByteArray) => (Z3J p text).getD ((0, 0), 0)
theorem Zqw {p : Int} {text : ByteArray} {r : P2 × Int} (e : Z3J p text = some r) : Z2Z p text = true := by
 unfold Z2Z
 rw [Zu, e]
 rfl
theorem Zyj {p : Int} {text : ByteArray} {r : P2 × Int} (e : Z3J p text = some r) : Z0a p text = r := by
 unfold Z0a
 rw [Zu, e]
 rfl
theorem ZvZ (p : Int) (text : ByteArray) (hp : (Z2Z p text) = true) : Z3J p text = some (Z0a p text) := by
 unfold Z2Z at hp
 rw [Zu] at hp
 unfold Z0a
 rw [Zu]
 exact Z1t hp
def ZdK : RunP
 | [.v (.int .i64 p), .v (.string text)] => some (Z2Z p text, Z5Y (Z0a p text))
 | _ => none
theorem ZqQ : Sound prog 92 ZdK := by
 refine Zd Z8W Zxc (by kernel_rfl) func92 ntmps92 rfl (by kernel_rfl) fun q r E => ?_
 unfold ZdK at E
 split at E
 ·obtain ⟨hp, rfl⟩ := so2 E
  rename_i p text
  exact ⟨_, _, rfl, (ZxQ p text).trans (ZvZ p text hp)⟩
 ·cases E

def Zpb : Sums := ⟨tblS [(154, Z65), (43, Z66), (46, Z84), (98, Z6H), (155, Zar), (93, ZcG), (156, Zh7), (145, Z8j), (157, ZiK)], tblM [], false⟩
theorem ZzG : Ze prog Zpb := ⟨Za ⟨⟨call154, Z7L⟩, ⟨call43, Z7M⟩, ⟨call46, Z9G⟩, ⟨call98, Z93⟩, ⟨call155, ZlL⟩, ⟨call93, Zhm⟩, ⟨call156, ZvA⟩, ⟨call145, ZcO⟩, ⟨call157, Zyq⟩, ⟨⟩⟩, tM⟩
def Z18 (d : D8i) (Zl : ByteArray) (n_ : Int) : Option ((D8i) × ByteArray × Int) :=
 (if (eqS Zl (bs [112, 114, 105, 109, 101])) = true then (if (!(Z06 n_)) = true then some (d, bs [], 2) else (if (Z5X n_) = true then some ((Zn n_), (Z01 n_), 0) else none)) else (if (eqS Zl (bs [99, 111, 108, 111, 117, 114])) = true then (if (!(Z2a n_)) = true then some (d, bs [], 2) else (if (Z5X n_) = true then some ((d.1, n_, d.2.2.1, d.2.2.2.1, d.2.2.2.2.1, d.2.2.2.2.2.1, d.2.2.2.2.2.2.1, d.2.2.2.2.2.2.2), (Z01 n_), 0) else none)) else (if (eqS Zl (bs [99, 111, 109, 98, 105, 110, 101])) = true then (if (Z29 d 0 ((Z0M d.1 (d.2.2.1, d.2.2.2.1) (d.2.2.2.2.1, d.2.2.2.2.2.1) n_).1) ((Z0M d.1 (d.2.2.1, d.2.2.2.1) (d.2.2.2.2.1, d.2.2.2.2.2.1) n_).2)) = true then some (((Z0S d 0 ((Z0M d.1 (d.2.2.1, d.2.2.2.1) (d.2.2.2.2.1, d.2.2.2.2.2.1) n_).1) ((Z0M d.1 (d.2.2.1, d.2.2.2.1) (d.2.2.2.2.1, d.2.2.2.2.2.1) n_).2)).1), (Z0S d 0 ((Z0M d.1 (d.2.2.1, d.2.2.2.1) (d.2.2.2.2.1, d.2.2.2.2.2.1) n_).1) ((Z0M d.1 (d.2.2.1, d.2.2.2.1) (d.2.2.2.2.1, d.2.2.2.2.2.1) n_).2)).2.1, (Z0S d 0 ((Z0M d.1 (d.2.2.1, d.2.2.2.1) (d.2.2.2.2.1, d.2.2.2.2.2.1) n_).1) ((Z0M d.1 (d.2.2.1, d.2.2.2.1) (d.2.2.2.2.1, d.2.2.2.2.2.1) n_).2)).2.2) else none) else (if (eqS Zl (bs [97, 116])) = true then (if (ptsB (((Z2d d.1 d.2.1 (d.2.2.1, d.2.2.2.1) n_).1).1) (((Z2d d.1 d.2.1 (d.2.2.1, d.2.2.2.1) n_).1).2)) = true then some (d, (Z17 (((Z2d d.1 d.2.1 (d.2.2.1, d.2.2.2.1) n_).1).1) (((Z2d d.1 d.2.1 (d.2.2.1, d.2.2.2.1) n_).1).2)), (Z2d d.1 d.2.1 (d.2.2.1, d.2.2.2.1) n_).2) else none) else (if (eqS Zl (bs [99, 111, 117, 110, 116])) = true then (if (Z5X ((Z5S d.1 d.2.1 n_).1)) = true then some (d, (Z01 ((Z5S d.1 d.2.1 n_).1)), (Z5S d.1 d.2.1 n_).2) else none) else some (d, bs [], 6))))))
theorem ZAP (d : D8i) (Zl : ByteArray) (n_ : Int) : eT Zpb 95 94 Zdo [.v (.agg ⟨[.int .i64 d.1, .int .i64 d.2.1, .int .i64 d.2.2.1, .int .i64 d.2.2.2.1, .int .i64 d.2.2.2.2.1, .int .i64 d.2.2.2.2.2.1, .int .i64 d.2.2.2.2.2.2.1, .int .i64 d.2.2.2.2.2.2.2]⟩), .v (.string Zl), pI n_] = Z18 d Zl n_ := by
 kernel_rfl
def Z7E : (D8i) -> (ByteArray) -> (Int) -> (Bool) := shut fun (d : D8i) (Zl : ByteArray) (n_ : Int) => (Z18 d Zl n_).isSome
def Z7R : (D8i) -> (ByteArray) -> (Int) -> ((D8i) × ByteArray × Int) := shut fun (d : D8i) (Zl : ByteArray) (n_ : Int) => (Z18 d Zl n_).getD ((0, 0, 0, 0, 0, 0, 0, 0), .empty, 0)
theorem ZsE {d : D8i} {Zl : ByteArray} {n_ : Int} {r : (D8i) × ByteArray × Int} (e : Z18 d Zl n_ = some r) : Z7E d Zl n_ = true := by
 unfold Z7E
 rw [Zu, e]
 rfl
theorem ZBE {d : D8i} {Zl : ByteArray} {n_ : Int} {r : (D8i) × ByteArray × Int} (e : Z18 d Zl n_ = some r) : Z7R d Zl n_ = r := by
 unfold Z7R
 rw [Zu, e]
 rfl
theorem ZyU (d : D8i) (Zl : ByteArray) (n_ : Int) (hp : (Z7E d Zl n_) = true) : Z18 d Zl n_ = some (Z7R d Zl n_) := by
 unfold Z7E at hp
 rw [Zu] at hp
 unfold Z7R
 rw [Zu]
 exact Z1t hp
def Zfp : RunP
 | [.v (.agg ⟨[.int .i64 d0, .int .i64 d1, .int .i64 d2, .int .i64 d3, .int .i64 d4, .int .i64 d5, .int .i64 d6, .int .i64 d7]⟩), .v (.string Zl), .v (.int .i64 n_)] => some (Z7E (d0, d1, d2, d3, d4, d5, d6, d7) Zl n_, ZgI (Z7R (d0, d1, d2, d3, d4, d5, d6, d7) Zl n_))
 | _ => none
theorem Ztb : Sound prog 95 Zfp := by
 refine Zd ZnF ZzG (by kernel_rfl) func95 ntmps95 rfl (by kernel_rfl) fun q r E => ?_
 unfold Zfp at E
 split at E
 ·obtain ⟨hp, rfl⟩ := so2 E
  rename_i d0 d1 d2 d3 d4 d5 d6 d7 Zl n_
  exact ⟨_, _, rfl, (ZAP (d0, d1, d2, d3, d4, d5, d6, d7) Zl n_).trans (ZyU (d0, d1, d2, d3, d4, d5, d6, d7) Zl n_ hp)⟩
 ·cases E

def Zmz : Sums := ⟨tblS [(42, Z9y), (91, Zhd), (92, ZdK), (93, ZcG), (94, ZaT), (95, Zfp)], tblM [], false⟩
theorem Zxm : Ze prog Zmz := ⟨Za ⟨⟨call42, ZdU⟩, ⟨call91, ZvG⟩, ⟨call92, ZqQ⟩, ⟨call93, Zhm⟩, ⟨call94, ZhT⟩, ⟨call95, Ztb⟩, ⟨⟩⟩, tM⟩
def ZO (d : D8i) (line : ByteArray) : Option ((D8i) × ByteArray × Int) :=
 (if (Z9h line 32) = true then (if (decide (0 <= 0) && decide (0 < (((Z7 line 32).1 : Nat) : Int))) = true then (if (Nat.ble (1) (((Z7 line 32).2).length)) = true then (if ((((Z7 line 32).1 : Nat) : Int) == 1) = true then (if (Z8G d (((Z7 line 32).2).getD 0 ByteArray.empty)) = true then some (((Z9E d (((Z7 line 32).2).getD 0 ByteArray.empty)).1), (Z9E d (((Z7 line 32).2).getD 0 ByteArray.empty)).2.1, (Z9E d (((Z7 line 32).2).getD 0 ByteArray.empty)).2.2) else none) else (if (decide ((((Z7 line 32).1 : Nat) : Int) > 2)) = true then some (d, bs [], 6) else (if (eqS (((Z7 line 32).2).getD 0 ByteArray.empty) (bs [102, 105, 114, 115, 116])) = true then (if (decide (0 <= 1) && decide (1 < (((Z7 line 32).1 : Nat) : Int))) = true then (if (Nat.ble (2) (((Z7 line 32).2).length)) = true then (if (Z2Z d.1 (((Z7 line 32).2).getD 1 ByteArray.empty)) = true then (if (Z29 d 0 ((Z0a d.1 (((Z7 line 32).2).getD 1 ByteArray.empty)).1) ((Z0a d.1 (((Z7 line 32).2).getD 1 ByteArray.empty)).2)) = true then some (((Z0S d 0 ((Z0a d.1 (((Z7 line 32).2).getD 1 ByteArray.empty)).1) ((Z0a d.1 (((Z7 line 32).2).getD 1 ByteArray.empty)).2)).1), (Z0S d 0 ((Z0a d.1 (((Z7 line 32).2).getD 1 ByteArray.empty)).1) ((Z0a d.1 (((Z7 line 32).2).getD 1 ByteArray.empty)).2)).2.1, (Z0S d 0 ((Z0a d.1 (((Z7 line 32).2).getD 1 ByteArray.empty)).1) ((Z0a d.1 (((Z7 line 32).2).getD 1 ByteArray.empty)).2)).2.2) else none) else none) else none) else none) else (if (eqS (((Z7 line 32).2).getD 0 ByteArray.empty) (bs [115, 101, 99, 111, 110, 100])) = true then (if (decide (0 <= 1) && decide (1 < (((Z7 line 32).1 : Nat) : Int))) = true then (if (Nat.ble (2) (((Z7 line 32).2).length)) = true then (if (Z2Z d.1 (((Z7 line 32).2).getD 1 ByteArray.empty)) = true then (if (Z29 d 1 ((Z0a d.1 (((Z7 line 32).2).getD 1 ByteArray.empty)).1) ((Z0a d.1 (((Z7 line 32).2).getD 1 ByteArray.empty)).2)) = true then some (((Z0S d 1 ((Z0a d.1 (((Z7 line 32).2).getD 1 ByteArray.empty)).1) ((Z0a d.1 (((Z7 line 32).2).getD 1 ByteArray.empty)).2)).1), (Z0S d 1 ((Z0a d.1 (((Z7 line 32).2).getD 1 ByteArray.empty)).1) ((Z0a d.1 (((Z7 line 32).2).getD 1 ByteArray.empty)).2)).2.1, (Z0S d 1 ((Z0a d.1 (((Z7 line 32).2).getD 1 ByteArray.empty)).1) ((Z0a d.1 (((Z7 line 32).2).getD 1 ByteArray.empty)).2)).2.2) else none) else none) else none) else none) else (if (eqS (((Z7 line 32).2).getD 0 ByteArray.empty) (bs [116, 104, 105, 114, 100])) = true then (if (decide (0 <= 1) && decide (1 < (((Z7 line 32).1 : Nat) : Int))) = true then (if (Nat.ble (2) (((Z7 line 32).2).length)) = true then (if (Z2Z d.1 (((Z7 line 32).2).getD 1 ByteArray.empty)) = true then (if (Z29 d 2 ((Z0a d.1 (((Z7 line 32).2).getD 1 ByteArray.empty)).1) ((Z0a d.1 (((Z7 line 32).2).getD 1 ByteArray.empty)).2)) = true then some (((Z0S d 2 ((Z0a d.1 (((Z7 line 32).2).getD 1 ByteArray.empty)).1) ((Z0a d.1 (((Z7 line 32).2).getD 1 ByteArray.empty)).2)).1), (Z0S d 2 ((Z0a d.1 (((Z7 line 32).2).getD 1 ByteArray.empty)).1) ((Z0a d.1 (((Z7 line 32).2).getD 1 ByteArray.empty)).2)).2.1, (Z0S d 2 ((Z0a d.1 (((Z7 line 32).2).getD 1 ByteArray.empty)).1) ((Z0a d.1 (((Z7 line 32).2).getD 1 ByteArray.empty)).2)).2.2) else none) else none) else none) else none) else (if (decide (0 <= 1) && decide (1 < (((Z7 line 32).1 : Nat) : Int))) = true then (if (Nat.ble (2) (((Z7 line 32).2).length)) = true then (if (decide ((Z2p (((Z7 line 32).2).getD 1 ByteArray.empty)) < 0)) = true then some (d, bs [], 6) else (if (decide ((Z2p (((Z7 line 32).2).getD 1 ByteArray.empty)) > 999999999)) = true then some (d, bs [], 6) else (if (Z7E d (((Z7 line 32).2).getD 0 ByteArray.empty) (Z2p (((Z7 line 32).2).getD 1 ByteArray.empty))) = true then some (((Z7R d (((Z7 line 32).2).getD 0 ByteArray.empty) (Z2p (((Z7 line 32).2).getD 1 ByteArray.empty))).1), (Z7R d (((Z7 line 32).2).getD 0 ByteArray.empty) (Z2p (((Z7 line 32).2).getD 1 ByteArray.empty))).2.1, (Z7R d (((Z7 line 32).2).getD 0 ByteArray.empty) (Z2p (((Z7 line 32).2).getD 1 ByteArray.empty))).2.2) else none))) else none) else none)))))) else none) else none) else none)
theorem Zy0 (d : D8i) (line : ByteArray) : eT Zmz 34 78 Zdo [.v (.agg ⟨[.int .i64 d.1, .int .i64 d.2.1, .int .i64 d.2.2.1, .int .i64 d.2.2.2.1, .int .i64 d.2.2.2.2.1, .int .i64 d.2.2.2.2.2.1, .int .i64 d.2.2.2.2.2.2.1, .int .i64 d.2.2.2.2.2.2.2]⟩), .v (.string line)] = ZO d line := by
 kernel_rfl
def Z6F : (D8i) -> (ByteArray) -> (Bool) := shut fun (d : D8i) (line : ByteArray) => (ZO d line).isSome
def Z6W : (D8i) -> (ByteArray) -> ((D8i) × ByteArray × Int) := shut fun (d : D8i) (line : ByteArray) => (ZO d line).getD ((0, 0, 0, 0, 0, 0, 0, 0), .empty, 0)
theorem Z63 {d : D8i} {line : ByteArray} {r : (D8i) × ByteArray × Int} (e : ZO d line = some r) : Z6F d line = true := by
 unfold Z6F
 rw [Zu, e]
 rfl
theorem Z8k {d : D8i} {line : ByteArray} {r : (D8i) × ByteArray × Int} (e : ZO d line = some r) : Z6W d line = r := by
 unfold Z6W
 rw [Zu, e]
 rfl
theorem Zw9 (d : D8i) (line : ByteArray) (hp : (Z6F d line) = true) : ZO d line = some (Z6W d line) := by
 unfold Z6F at hp
 rw [Zu] at hp
 unfold Z6W
 rw [Zu]
 exact Z1t hp
def ZdP : RunP
 | [.v (.agg ⟨[.int .i64 d0, .int .i64 d1, .int .i64 d2, .int .i64 d3, .int .i64 d4, .int .i64 d5, .int .i64 d6, .int .i64 d7]⟩), .v (.string line)] => some (Z6F (d0, d1, d2, d3, d4, d5, d6, d7) line, ZgI (Z6W (d0, d1, d2, d3, d4, d5, d6, d7) line))
 | _ => none
theorem ZqV : Sound prog 34 ZdP := by
 refine Zd ZnF Zxm (by kernel_rfl) func34 ntmps34 rfl (by kernel_rfl) fun q r E => ?_
 unfold ZdP at E
 split at E
 ·obtain ⟨hp, rfl⟩ := so2 E
  rename_i d0 d1 d2 d3 d4 d5 d6 d7 line
  exact ⟨_, _, rfl, (Zy0 (d0, d1, d2, d3, d4, d5, d6, d7) line).trans (Zw9 (d0, d1, d2, d3, d4, d5, d6, d7) line hp)⟩
 ·cases E

def Zwn : Sums := ⟨tblS [(18, ZfO), (34, ZdP)], tblM [], false⟩
theorem ZFB : Ze prog Zwn := ⟨Za ⟨⟨call18, Znp⟩, ⟨call34, ZqV⟩, ⟨⟩⟩, tM⟩
def Z2w (d : D8i) (line : ByteArray) : Option ((D8i) × ByteArray) :=
 (if (!(Z9C d)) = true then some ((0, 0, 0, 0, 0, 0, 0, 0), bs []) else (if (Z6F d line) = true then (if (((Z6W d line).2.2) != 0) = true then some (d, bs [101, 114, 114, 111, 114]) else some (((Z6W d line).1), (Z6W d line).2.1)) else none))
theorem ZGq (d : D8i) (line : ByteArray) : eT Zwn 15 25 ZmH [.v (.agg ⟨[.int .i64 d.1, .int .i64 d.2.1, .int .i64 d.2.2.1, .int .i64 d.2.2.2.1, .int .i64 d.2.2.2.2.1, .int .i64 d.2.2.2.2.2.1, .int .i64 d.2.2.2.2.2.2.1, .int .i64 d.2.2.2.2.2.2.2]⟩), .v (.string line)] = Z2w d line := by
 kernel_rfl
def Z3w : (D8i) -> (ByteArray) -> (Bool) := shut fun (d : D8i) (line : ByteArray) => (Z2w d line).isSome
def Zs : (D8i) -> (ByteArray) -> ((D8i) × ByteArray) := shut fun (d : D8i) (line : ByteArray) => (Z2w d line).getD ((0, 0, 0, 0, 0, 0, 0, 0), .empty)
theorem Zyg {d : D8i} {line : ByteArray} {r : (D8i) × ByteArray} (e : Z2w d line = some r) : Z3w d line = true := by
 unfold Z3w
 rw [Zu, e]
 rfl
theorem ZkG {d : D8i} {line : ByteArray} {r : (D8i) × ByteArray} (e : Z2w d line = some r) : Zs d line = r := by
 unfold Zs
 rw [Zu, e]
 rfl
theorem ZEa (d : D8i) (line : ByteArray) (hp : (Z3w d line) = true) : Z2w d line = some (Zs d line) := by
 unfold Z3w at hp
 rw [Zu] at hp
 unfold Zs
 rw [Zu]
 exact Z1t hp
def Z8J : RunP
 | [.v (.agg ⟨[.int .i64 d0, .int .i64 d1, .int .i64 d2, .int .i64 d3, .int .i64 d4, .int .i64 d5, .int .i64 d6, .int .i64 d7]⟩), .v (.string line)] => some (Z3w (d0, d1, d2, d3, d4, d5, d6, d7) line, Zs1 (Zs (d0, d1, d2, d3, d4, d5, d6, d7) line))
 | _ => none
theorem Zb1 : Sound prog 15 Z8J := by
 refine Zd ZG4 ZFB (by kernel_rfl) func15 ntmps15 rfl (by kernel_rfl) fun q r E => ?_
 unfold Z8J at E
 split at E
 ·obtain ⟨hp, rfl⟩ := so2 E
  rename_i d0 d1 d2 d3 d4 d5 d6 d7 line
  exact ⟨_, _, rfl, (ZGq (d0, d1, d2, d3, d4, d5, d6, d7) line).trans (ZEa (d0, d1, d2, d3, d4, d5, d6, d7) line hp)⟩
 ·cases E

end

end Go.Proofs.YtcdpfpfbilfpoaaGreatDoor
