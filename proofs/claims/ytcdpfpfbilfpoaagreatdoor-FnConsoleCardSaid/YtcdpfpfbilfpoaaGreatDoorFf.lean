import Derived.Test.YtcdpfpfbilfpoaaGreatDoorTc
import Derived.Test.YtcdpfpfbilfpoaaGreatDoorTd
import Derived.Test.YtcdpfpfbilfpoaaGreatDoorTe
import Derived.Test.YtcdpfpfbilfpoaaGreatDoorFb
import Derived.Test.YtcdpfpfbilfpoaaGreatDoorFc
import Derived.Test.YtcdpfpfbilfpoaaGreatDoorFd
import Derived.Test.YtcdpfpfbilfpoaaGreatDoorProg
set_option linter.unusedSimpArgs false
set_option linter.unusedVariables false
namespace Go.Proofs.YtcdpfpfbilfpoaaGreatDoor
open Go.RowKit Tryz
noncomputable section
def ZzJ : Sums := ⟨tblS [(35, Z79), (36, Z2R), (37, Z2t)], tblM [], false⟩
theorem ZHD : Ze prog ZzJ := ⟨Za ⟨⟨call35, Z8m⟩, ⟨call36, Z3g⟩, ⟨call37, Z2L⟩, ⟨⟩⟩, tM⟩
def ZlX (d : D8i) : Option (Bool) :=
 (if (Z6 d.1) = true then (if (Z05 d.2.1) = true then some (ZE d.1 [(d.2.2.1, d.2.2.2.1), (d.2.2.2.2.1, d.2.2.2.2.2.1), d.2.2.2.2.2.2]) else some false) else some false)
theorem ZIg (d : D8i) : eT ZzJ 17 18 Z1M [.v (.agg ⟨[.int .i64 d.1, .int .i64 d.2.1, .int .i64 d.2.2.1, .int .i64 d.2.2.2.1, .int .i64 d.2.2.2.2.1, .int .i64 d.2.2.2.2.2.1, .int .i64 d.2.2.2.2.2.2.1, .int .i64 d.2.2.2.2.2.2.2]⟩)] = ZlX d := by
 kernel_rfl
def Z0n (d : D8i) : Bool :=
 (if (Z6 d.1) = true then (if (Z05 d.2.1) = true then (ZE d.1 [(d.2.2.1, d.2.2.2.1), (d.2.2.2.2.1, d.2.2.2.2.2.1), d.2.2.2.2.2.2]) else false) else false)
theorem ZHj (d : D8i) : ZlX d = some (Z0n d) := by
 unfold ZlX Z0n
 (try simp only [Zz])
 repeat' (first | with_reducible rfl | refine Zm (fun _ => ?_) (fun _ => ?_) | rfl)
def ZfN : RunP
 | [.v (.agg ⟨[.int .i64 d0, .int .i64 d1, .int .i64 d2, .int .i64 d3, .int .i64 d4, .int .i64 d5, .int .i64 d6, .int .i64 d7]⟩)] => some (true, Z4k (Z0n (d0, d1, d2, d3, d4, d5, d6, d7)))
 | _ => none
theorem Znk : Sound prog 17 ZfN := by
 refine Zd Z9i ZHD (by kernel_rfl) func17 ntmps17 rfl (by kernel_rfl) fun q r E => ?_
 unfold ZfN at E
 split at E
 ·obtain ⟨hp, rfl⟩ := so2 E
  rename_i d0 d1 d2 d3 d4 d5 d6 d7
  exact ⟨_, _, rfl, (ZIg (d0, d1, d2, d3, d4, d5, d6, d7)).trans (ZHj (d0, d1, d2, d3, d4, d5, d6, d7))⟩
 ·cases E

def ZoZ : Sums := ⟨tblS [(55, Z51)], tblM [], false⟩
theorem Zzo : Ze prog ZoZ := ⟨Za ⟨⟨call55, Z6X⟩, ⟨⟩⟩, tM⟩
def Z4v (x : P2) (ZR : Int) (c0s : D8i) : Option (ByteArray × Int × Bool × D8i) :=
 (if (num2 x) = true then some ((Z1D x), ZR, true, c0s.1, c0s.2.1, x.1, x.2, c0s.2.2.2.2) else none)
theorem ZAx (x : P2) (ZR : Int) (c0s : D8i) : ZLn prog ZoZ 54 16 (fun _ => 1000000) ZdZ 28 [.v (.int .i64 c0s.1), .v (.int .i64 c0s.2.1), .v (.int .i64 c0s.2.2.1), .v (.int .i64 c0s.2.2.2.1), .v (.int .i64 c0s.2.2.2.2.1), .v (.int .i64 c0s.2.2.2.2.2.1), .v (.int .i64 c0s.2.2.2.2.2.2.1), .v (.int .i64 c0s.2.2.2.2.2.2.2)] [.v (.agg ⟨[.int .i64 x.1, .int .i64 x.2]⟩), .v (.int .i64 ZR)] = Z4v x ZR c0s := by
 kernel_rfl
def Z1Z : P2 -> (Int) -> (D8i) -> (Bool) := shut fun (x : P2) (ZR : Int) (c0s : D8i) => (Z4v x ZR c0s).isSome
def Z2J : P2 -> (Int) -> (D8i) -> (ByteArray × Int × Bool × D8i) := shut fun (x : P2) (ZR : Int) (c0s : D8i) => (Z4v x ZR c0s).getD (.empty, 0, false, 0, 0, 0, 0, 0, 0, 0, 0)
theorem ZsA {x : P2} {ZR : Int} {c0s : D8i} {r : ByteArray × Int × Bool × D8i} (e : Z4v x ZR c0s = some r) : Z1Z x ZR c0s = true := by
 unfold Z1Z
 rw [Zu, e]
 rfl
theorem ZB2 {x : P2} {ZR : Int} {c0s : D8i} {r : ByteArray × Int × Bool × D8i} (e : Z4v x ZR c0s = some r) : Z2J x ZR c0s = r := by
 unfold Z2J
 rw [Zu, e]
 rfl
theorem ZyC (x : P2) (ZR : Int) (c0s : D8i) (hp : (Z1Z x ZR c0s) = true) : Z4v x ZR c0s = some (Z2J x ZR c0s) := by
 unfold Z1Z at hp
 rw [Zu] at hp
 unfold Z2J
 rw [Zu]
 exact Z1t hp
def Zff : PRun
 | 28, [.v (.int .i64 c0_0), .v (.int .i64 c0_1), .v (.int .i64 c0_2), .v (.int .i64 c0_3), .v (.int .i64 c0_4), .v (.int .i64 c0_5), .v (.int .i64 c0_6), .v (.int .i64 c0_7)], [.v (.agg ⟨[.int .i64 x0, .int .i64 x1]⟩), .v (.int .i64 ZR)] => some (Z1Z (x0, x1) ZR (c0_0, c0_1, c0_2, c0_3, c0_4, c0_5, c0_6, c0_7), Zix (Z2J (x0, x1) ZR (c0_0, c0_1, c0_2, c0_3, c0_4, c0_5, c0_6, c0_7)))
 | _, _, _ => none
theorem ZsY : ZFT prog 54 Zff := by
 refine ZN6 ZrW Zzo (by kernel_rfl) func54 ntmps54 rfl (by kernel_rfl) ?_
 intro e bcs pvs rs bcs' hrun
 unfold Zff at hrun
 split at hrun
 ·simp only [Option.some.injEq, Prod.mk.injEq] at hrun
  obtain ⟨hp, hrun⟩ := hrun
  rename_i c0_0 c0_1 c0_2 c0_3 c0_4 c0_5 c0_6 c0_7 x0 x1 ZR
  exact ⟨_, Z2J (x0, x1) ZR (c0_0, c0_1, c0_2, c0_3, c0_4, c0_5, c0_6, c0_7), by first | exact hrun.symm | exact (Prod.ext hrun.1 hrun.2).symm, (ZAx (x0, x1) ZR (c0_0, c0_1, c0_2, c0_3, c0_4, c0_5, c0_6, c0_7)).trans (ZyC (x0, x1) ZR (c0_0, c0_1, c0_2, c0_3, c0_4, c0_5, c0_6, c0_7) hp)⟩
 ·cases hrun

def ZEt : Sums := ⟨tblS [], tblM [], false⟩
theorem ZJM : Ze prog ZEt := ⟨Za ⟨⟩, tM⟩
def Zpp (p : Int) : Option (D8i) :=
 some (p, 0, 0, 0, 1, 0, 0, 1)
theorem ZK8 (p : Int) : eT ZEt 39 9 Zuv [pI p] = Zpp p := by
 kernel_rfl
def Zkj (p : Int) : D8i :=
 (p, 0, 0, 0, 1, 0, 0, 1)
theorem ZJA (p : Int) : Zpp p = some (Zkj p) := by
 unfold Zpp Zkj
 (try simp only [Zz])
 repeat' (first | with_reducible rfl | refine Zm (fun _ => ?_) (fun _ => ?_) | rfl)
def ZhO : RunP
 | [.v (.int .i64 p)] => some (true, ZAl (Zkj p))
 | _ => none
theorem Zpk : Sound prog 39 ZhO := by
 refine Zd ZLi ZJM (by kernel_rfl) func39 ntmps39 rfl (by kernel_rfl) fun q r E => ?_
 unfold ZhO at E
 split at E
 ·obtain ⟨hp, rfl⟩ := so2 E
  rename_i p
  exact ⟨_, _, rfl, (ZK8 p).trans (ZJA p)⟩
 ·cases E

def Zwe : Sums := ⟨tblS [(39, ZhO)], tblM [], false⟩
theorem ZFq : Ze prog Zwe := ⟨Za ⟨⟨call39, Zpk⟩, ⟨⟩⟩, tM⟩
def ZjM : Option (D8i) :=
 some (Zkj 7)
theorem ZGf : eT Zwe 19 2 Zuv [] = ZjM := by
 kernel_rfl
def Zg : D8i :=
 (Zkj 7)
theorem ZDZ : ZjM = some (Zg) := by
 unfold ZjM Zg
 (try simp only [Zz])
 repeat' (first | with_reducible rfl | refine Zm (fun _ => ?_) (fun _ => ?_) | rfl)
def ZaI : RunP
 | [] => some (true, ZAl (Zg))
 | _ => none
theorem Zfr : Sound prog 19 ZaI := by
 refine Zd ZLi ZFq (by kernel_rfl) func19 ntmps19 rfl (by kernel_rfl) fun q r E => ?_
 unfold ZaI at E
 split at E
 ·obtain ⟨hp, rfl⟩ := so2 E
  exact ⟨_, _, rfl, (ZGf).trans (ZDZ)⟩
 ·cases E

def Zmk : Sums := ⟨tblS [(35, Z79), (118, Zcx)], tblM [], false⟩
theorem Zx0 : Ze prog Zmk := ⟨Za ⟨⟨call35, Z8m⟩, ⟨call118, ZoA⟩, ⟨⟩⟩, tM⟩
def Z3H (p : Int) (text : ByteArray) : Option (P2 × Int) :=
 (if (!(Z6 p)) = true then some ((0, 0), 1) else (if (Zvq p text 2) = true then (if (!((Z2P p text 2).2)) = true then some ((0, 0), 6) else (if (decide (0 <= 0) && decide (0 < ((((Z2P p text 2).1).1 : Nat) : Int))) = true then (if (Nat.ble (1) ((((Z2P p text 2).1).2).length)) = true then (if (decide (0 <= 1) && decide (1 < ((((Z2P p text 2).1).1 : Nat) : Int))) = true then (if (Nat.ble (2) ((((Z2P p text 2).1).2).length)) = true then some (((((Z2P p text 2).1).2).getD 0 0, (((Z2P p text 2).1).2).getD 1 0), 0) else none) else none) else none) else none)) else none))
theorem ZxE (p : Int) (text : ByteArray) : eT Zmk 62 28 Z57 [pI p, .v (.string text)] = Z3H p text := by
 kernel_rfl
def Z2Y : (Int) -> (ByteArray) -> (Bool) := shut fun (p : Int) (text : ByteArray) => (Z3H p text).isSome
def ZV : (Int) -> (ByteArray) -> (P2 × Int) := shut fun (p : Int) (text : ByteArray) => (Z3H p text).getD ((0, 0), 0)
theorem Zqu {p : Int} {text : ByteArray} {r : P2 × Int} (e : Z3H p text = some r) : Z2Y p text = true := by
 unfold Z2Y
 rw [Zu, e]
 rfl
theorem Zy2 {p : Int} {text : ByteArray} {r : P2 × Int} (e : Z3H p text = some r) : ZV p text = r := by
 unfold ZV
 rw [Zu, e]
 rfl
theorem ZvN (p : Int) (text : ByteArray) (hp : (Z2Y p text) = true) : Z3H p text = some (ZV p text) := by
 unfold Z2Y at hp
 rw [Zu] at hp
 unfold ZV
 rw [Zu]
 exact Z1t hp
def ZdA : RunP
 | [.v (.int .i64 p), .v (.string text)] => some (Z2Y p text, Z5Y (ZV p text))
 | _ => none
theorem ZqH : Sound prog 62 ZdA := by
 refine Zd Z8W Zx0 (by kernel_rfl) func62 ntmps62 rfl (by kernel_rfl) fun q r E => ?_
 unfold ZdA at E
 split at E
 ·obtain ⟨hp, rfl⟩ := so2 E
  rename_i p text
  exact ⟨_, _, rfl, (ZxE p text).trans (ZvN p text hp)⟩
 ·cases E

abbrev ZPO (ds : D8i) (wn : Nat) (wl : List ByteArray) : ByteArray := (Z9X 3 [ds.2.2.2.2.1, ds.2.2.2.2.2.1, ds.2.2.2.2.2.2.1, ds.2.2.2.2.2.2.2, ds.2.2.1, ds.2.2.2.1])
abbrev ZIR (ds : D8i) (wn : Nat) (wl : List ByteArray) : P2 × Int := (Z9V ds.1 (ds.2.2.1, ds.2.2.2.1) (ds.2.2.2.2.1, ds.2.2.2.2.2.1))
abbrev ZPP (ds : D8i) (wn : Nat) (wl : List ByteArray) : ByteArray × Int × Bool × D8i := (Z2J ((ZIR ds wn wl).1) ((ZIR ds wn wl).2) ds)
abbrev ZIS (ds : D8i) (wn : Nat) (wl : List ByteArray) : P3 × Int := (Z75 ds.1 (ds.2.2.2.2.1, ds.2.2.2.2.2.1) ds.2.2.2.2.2.2)
abbrev ZEW (ds : D8i) (wn : Nat) (wl : List ByteArray) : P2 × Int := (Zeq ds.1 ds.2.1 (ds.2.2.1, ds.2.2.2.1) ((ZIS ds wn wl).1))
abbrev ZOa (ds : D8i) (wn : Nat) (wl : List ByteArray) : ByteArray × Int × Bool × D8i := (Z2J ((ZEW ds wn wl).1) ((ZEW ds wn wl).2) ds)
abbrev ZIT (ds : D8i) (wn : Nat) (wl : List ByteArray) : P2 × Int := (Z4d ds.1 ds.2.1 (ds.2.2.1, ds.2.2.2.1) (ds.2.2.2.2.1, ds.2.2.2.2.2.1) ds.2.2.2.2.2.2)
abbrev ZPQ (ds : D8i) (wn : Nat) (wl : List ByteArray) : ByteArray × Int × Bool × D8i := (Z2J ((ZIT ds wn wl).1) ((ZIT ds wn wl).2) ds)
abbrev ZIU (ds : D8i) (wn : Nat) (wl : List ByteArray) : P2 × Int := (Z4Y ds.1 ds.2.1 (ds.2.2.1, ds.2.2.2.1) (ds.2.2.2.2.1, ds.2.2.2.2.2.1) ds.2.2.2.2.2.2)
abbrev ZPR (ds : D8i) (wn : Nat) (wl : List ByteArray) : ByteArray × Int × Bool × D8i := (Z2J ((ZIU ds wn wl).1) ((ZIU ds wn wl).2) ds)
abbrev Zf8 (ds : D8i) (wn : Nat) (wl : List ByteArray) : P2 × Int := (ZV ds.1 (wl.getD 1 ByteArray.empty))
abbrev ZKl (ds : D8i) (wn : Nat) (wl : List ByteArray) : ByteArray := (Z1D ((Zf8 ds wn wl).1))
abbrev Zv3 (ds : D8i) (wn : Nat) (wl : List ByteArray) : Int × Bool := (ZH (wl.getD 1 ByteArray.empty))
abbrev ZQg (ds : D8i) (wn : Nat) (wl : List ByteArray) : Bool := (Z6 ((Zv3 ds wn wl).1))
abbrev ZQh (ds : D8i) (wn : Nat) (wl : List ByteArray) : D8i := (Zkj ((Zv3 ds wn wl).1))
abbrev ZQi (ds : D8i) (wn : Nat) (wl : List ByteArray) : Bool := (Z05 ((Zv3 ds wn wl).1))
abbrev ZGU (ds : D8i) (wn : Nat) (wl : List ByteArray) : P2 × Int := (Z1H ds.1 (ds.2.2.1, ds.2.2.2.1) (ds.2.2.2.2.1, ds.2.2.2.2.2.1) ((Zv3 ds wn wl).1))
abbrev ZQj (ds : D8i) (wn : Nat) (wl : List ByteArray) : ByteArray × Int × Bool × D8i := (Z2J ((ZGU ds wn wl).1) ((ZGU ds wn wl).2) ds)
def ZzL : Sums := ⟨tblS [(56, Z7G), (57, Zdz), (58, Z8Y), (59, Zku), (60, Z9t), (61, Zao), (19, ZaI), (62, ZdA), (55, Z51), (63, Za3), (35, Z79), (39, ZhO), (36, Z2R), (64, Zam)], tblM [(54, .cap Zff)], true⟩
theorem ZHF : Ze prog ZzL := ⟨Za ⟨⟨call56, Zbt⟩, ⟨call57, ZqG⟩, ⟨call58, ZfE⟩, ⟨call59, ZBG⟩, ⟨call60, ZkK⟩, ⟨call61, ZlI⟩, ⟨call19, Zfr⟩, ⟨call62, ZqH⟩, ⟨call55, Z6X⟩, ⟨call63, Zhl⟩, ⟨call35, Z8m⟩, ⟨call39, Zpk⟩, ⟨call36, Z3g⟩, ⟨call64, ZlG⟩, ⟨⟩⟩, Z6a ⟨⟨call54, ZsY⟩, ⟨⟩⟩⟩
def Z0f (ds : D8i) (wn : Nat) (wl : List ByteArray) : Option (ByteArray × Int × Bool × D8i) :=
 (if (((wn : Nat) : Int) == 1) = true then (if (decide (0 <= 0) && decide (0 < ((wn : Nat) : Int))) = true then (if (Nat.ble (1) wl.length) = true then (if (eqS (wl.getD 0 ByteArray.empty) (bs [116, 117, 114, 110])) = true then (if (ptsB 3 [ds.2.2.2.2.1, ds.2.2.2.2.2.1, ds.2.2.2.2.2.2.1, ds.2.2.2.2.2.2.2, ds.2.2.1, ds.2.2.2.1]) = true then some ((ZPO ds wn wl), 0, true, ds.1, ds.2.1, ds.2.2.2.2.1, ds.2.2.2.2.2.1, ds.2.2.2.2.2.2.1, ds.2.2.2.2.2.2.2, ds.2.2.1, ds.2.2.2.1) else none) else (if (eqS (wl.getD 0 ByteArray.empty) (bs [109, 105, 100, 100, 108, 101])) = true then (if (Z1Z ((ZIR ds wn wl).1) ((ZIR ds wn wl).2) ds) = true then some ((ZPP ds wn wl)) else none) else (if (eqS (wl.getD 0 ByteArray.empty) (bs [102, 111, 111, 116])) = true then (if (((ZIS ds wn wl).2) != 0) = true then some (bs [], (ZIS ds wn wl).2, true, ds) else (if (Z1Z ((ZEW ds wn wl).1) ((ZEW ds wn wl).2) ds) = true then some ((ZOa ds wn wl)) else none)) else (if (eqS (wl.getD 0 ByteArray.empty) (bs [99, 101, 110, 116, 114, 101])) = true then (if (Z1Z ((ZIT ds wn wl).1) ((ZIT ds wn wl).2) ds) = true then some ((ZPQ ds wn wl)) else none) else (if (eqS (wl.getD 0 ByteArray.empty) (bs [104, 105, 103, 104])) = true then (if (Z1Z ((ZIU ds wn wl).1) ((ZIU ds wn wl).2) ds) = true then some ((ZPR ds wn wl)) else none) else (if (eqS (wl.getD 0 ByteArray.empty) (bs [114, 101, 115, 101, 116])) = true then some (bs [111, 107], 0, true, Zg) else some (bs [], 0, false, ds))))))) else none) else none) else (if (decide (0 <= 0) && decide (0 < ((wn : Nat) : Int))) = true then (if (Nat.ble (1) wl.length) = true then (if (eqS (wl.getD 0 ByteArray.empty) (bs [102, 105, 114, 115, 116])) = true then (if (decide (0 <= 1) && decide (1 < ((wn : Nat) : Int))) = true then (if (Nat.ble (2) wl.length) = true then (if (Z2Y ds.1 (wl.getD 1 ByteArray.empty)) = true then (if (num2 ((Zf8 ds wn wl).1)) = true then some ((ZKl ds wn wl), (Zf8 ds wn wl).2, true, ds.1, ds.2.1, ((Zf8 ds wn wl).1).1, ((Zf8 ds wn wl).1).2, ds.2.2.2.2) else none) else none) else none) else none) else (if (decide (0 <= 0) && decide (0 < ((wn : Nat) : Int))) = true then (if (Nat.ble (1) wl.length) = true then (if (eqS (wl.getD 0 ByteArray.empty) (bs [115, 101, 99, 111, 110, 100])) = true then (if (decide (0 <= 1) && decide (1 < ((wn : Nat) : Int))) = true then (if (Nat.ble (2) wl.length) = true then (if (Z2Y ds.1 (wl.getD 1 ByteArray.empty)) = true then (if (num2 ((Zf8 ds wn wl).1)) = true then some ((ZKl ds wn wl), (Zf8 ds wn wl).2, true, ds.1, ds.2.1, ds.2.2.1, ds.2.2.2.1, ((Zf8 ds wn wl).1).1, ((Zf8 ds wn wl).1).2, ds.2.2.2.2.2.2) else none) else none) else none) else none) else (if (decide (0 <= 0) && decide (0 < ((wn : Nat) : Int))) = true then (if (Nat.ble (1) wl.length) = true then (if (eqS (wl.getD 0 ByteArray.empty) (bs [116, 104, 105, 114, 100])) = true then (if (decide (0 <= 1) && decide (1 < ((wn : Nat) : Int))) = true then (if (Nat.ble (2) wl.length) = true then (if (Z2Y ds.1 (wl.getD 1 ByteArray.empty)) = true then (if (num2 ((Zf8 ds wn wl).1)) = true then some ((ZKl ds wn wl), (Zf8 ds wn wl).2, true, ds.1, ds.2.1, ds.2.2.1, ds.2.2.2.1, ds.2.2.2.2.1, ds.2.2.2.2.2.1, ((Zf8 ds wn wl).1)) else none) else none) else none) else none) else (if (decide (0 <= 1) && decide (1 < ((wn : Nat) : Int))) = true then (if (Nat.ble (2) wl.length) = true then (if (!((Zv3 ds wn wl).2)) = true then some (bs [], 6, true, ds) else (if (decide (0 <= 0) && decide (0 < ((wn : Nat) : Int))) = true then (if (Nat.ble (1) wl.length) = true then (if (eqS (wl.getD 0 ByteArray.empty) (bs [112, 114, 105, 109, 101])) = true then (if (!(ZQg ds wn wl)) = true then some (bs [], 1, true, ds) else (if (decide (0 <= 1) && decide (1 < ((wn : Nat) : Int))) = true then (if (Nat.ble (2) wl.length) = true then some (wl.getD 1 ByteArray.empty, 0, true, (ZQh ds wn wl)) else none) else none)) else (if (eqS (wl.getD 0 ByteArray.empty) (bs [99, 111, 108, 111, 117, 114])) = true then (if (!(ZQi ds wn wl)) = true then some (bs [], 2, true, ds) else (if (decide (0 <= 1) && decide (1 < ((wn : Nat) : Int))) = true then (if (Nat.ble (2) wl.length) = true then some (wl.getD 1 ByteArray.empty, 0, true, ds.1, (Zv3 ds wn wl).1, ds.2.2) else none) else none)) else (if (eqS (wl.getD 0 ByteArray.empty) (bs [99, 111, 109, 98, 105, 110, 101])) = true then (if (Z1Z ((ZGU ds wn wl).1) ((ZGU ds wn wl).2) ds) = true then some ((ZQj ds wn wl)) else none) else some (bs [], 0, false, ds)))) else none) else none)) else none) else none)) else none) else none)) else none) else none)) else none) else none))
theorem ZIi (ds : D8i) (wn : Nat) (wl : List ByteArray) : ZcR prog ZzL 32 217 (fun _ => 1000000) ZdZ 28 [.v (.int .i64 ds.1), .v (.int .i64 ds.2.1), .v (.int .i64 ds.2.2.1), .v (.int .i64 ds.2.2.2.1), .v (.int .i64 ds.2.2.2.2.1), .v (.int .i64 ds.2.2.2.2.2.1), .v (.int .i64 ds.2.2.2.2.2.2.1), .v (.int .i64 ds.2.2.2.2.2.2.2)] [.s wn (.strs wl)] = Z0f ds wn wl := by
 kernel_rfl
def ZbH : (D8i) -> (Nat) -> (List ByteArray) -> (Bool) := shut fun (ds : D8i) (wn : Nat) (wl : List ByteArray) => (Z0f ds wn wl).isSome
def Z4G : (D8i) -> (Nat) -> (List ByteArray) -> (ByteArray × Int × Bool × D8i) := shut fun (ds : D8i) (wn : Nat) (wl : List ByteArray) => (Z0f ds wn wl).getD (.empty, 0, false, 0, 0, 0, 0, 0, 0, 0, 0)
theorem Zch {ds : D8i} {wn : Nat} {wl : List ByteArray} {r : ByteArray × Int × Bool × D8i} (e : Z0f ds wn wl = some r) : ZbH ds wn wl = true := by
 unfold ZbH
 rw [Zu, e]
 rfl
theorem ZwJ {ds : D8i} {wn : Nat} {wl : List ByteArray} {r : ByteArray × Int × Bool × D8i} (e : Z0f ds wn wl = some r) : Z4G ds wn wl = r := by
 unfold Z4G
 rw [Zu, e]
 rfl
theorem ZHl (ds : D8i) (wn : Nat) (wl : List ByteArray) (hp : (ZbH ds wn wl) = true) : Z0f ds wn wl = some (Z4G ds wn wl) := by
 unfold ZbH at hp
 rw [Zu] at hp
 unfold Z4G
 rw [Zu]
 exact Z1t hp
def Zkx : PRun
 | 28, [.v (.int .i64 d_0), .v (.int .i64 d_1), .v (.int .i64 d_2), .v (.int .i64 d_3), .v (.int .i64 d_4), .v (.int .i64 d_5), .v (.int .i64 d_6), .v (.int .i64 d_7)], [.s wn (.strs wl)] => some (ZbH (d_0, d_1, d_2, d_3, d_4, d_5, d_6, d_7) wn wl, Zix (Z4G (d_0, d_1, d_2, d_3, d_4, d_5, d_6, d_7) wn wl))
 | _, _, _ => none
theorem ZBI : Zag prog 32 Zkx := by
 refine Z5U ZrW ZHF (by kernel_rfl) func32 ntmps32 rfl (by kernel_rfl) ?_
 intro e bcs pvs rs bcs' hrun
 unfold Zkx at hrun
 split at hrun
 ·simp only [Option.some.injEq, Prod.mk.injEq] at hrun
  obtain ⟨hp, hrun⟩ := hrun
  rename_i d_0 d_1 d_2 d_3 d_4 d_5 d_6 d_7 wn wl
  exact ⟨_, Z4G (d_0, d_1, d_2, d_3, d_4, d_5, d_6, d_7) wn wl, by first | exact hrun.symm | exact (Prod.ext hrun.1 hrun.2).symm, (ZIi (d_0, d_1, d_2, d_3, d_4, d_5, d_6, d_7) wn wl).trans (ZHl (d_0, d_1, d_2, d_3, d_4, d_5, d_6, d_7) wn wl hp)⟩
 ·cases hrun

def Zmn : Sums := ⟨tblS [(56, Z7G)], tblM [], false⟩
theorem Zx4 : Ze prog Zmn := ⟨Za ⟨⟨call56, Zbt⟩, ⟨⟩⟩, tM⟩
def Z3I (ln : Nat) (ll : List Int) (ZR : Int) : Option (ByteArray × Int) :=
 (if (ptsB ln ll) = true then some ((Z9X ln ll), ZR) else none)
theorem ZxI (ln : Nat) (ll : List Int) (ZR : Int) : eT Zmn 65 9 ZfJ [.s ln (.ints ll), pI ZR] = Z3I ln ll ZR := by
 kernel_rfl
def Z2s : (Nat) -> (List Int) -> (Int) -> (Bool) := shut fun (ln : Nat) (ll : List Int) (ZR : Int) => (Z3I ln ll ZR).isSome
def Z3r : (Nat) -> (List Int) -> (Int) -> (ByteArray × Int) := shut fun (ln : Nat) (ll : List Int) (ZR : Int) => (Z3I ln ll ZR).getD (.empty, 0)
theorem Zqv {ln : Nat} {ll : List Int} {ZR : Int} {r : ByteArray × Int} (e : Z3I ln ll ZR = some r) : Z2s ln ll ZR = true := by
 unfold Z2s
 rw [Zu, e]
 rfl
theorem Zy3 {ln : Nat} {ll : List Int} {ZR : Int} {r : ByteArray × Int} (e : Z3I ln ll ZR = some r) : Z3r ln ll ZR = r := by
 unfold Z3r
 rw [Zu, e]
 rfl
theorem ZvR (ln : Nat) (ll : List Int) (ZR : Int) (hp : (Z2s ln ll ZR) = true) : Z3I ln ll ZR = some (Z3r ln ll ZR) := by
 unfold Z2s at hp
 rw [Zu] at hp
 unfold Z3r
 rw [Zu]
 exact Z1t hp
def ZdE : RunP
 | [.s ln (.ints ll), .v (.int .i64 ZR)] => some (Z2s ln ll ZR, ZhG (Z3r ln ll ZR))
 | _ => none
theorem ZqK : Sound prog 65 ZdE := by
 refine Zd ZpO Zx4 (by kernel_rfl) func65 ntmps65 rfl (by kernel_rfl) fun q r E => ?_
 unfold ZdE at E
 split at E
 ·obtain ⟨hp, rfl⟩ := so2 E
  rename_i ln ll ZR
  exact ⟨_, _, rfl, (ZxI ln ll ZR).trans (ZvR ln ll ZR hp)⟩
 ·cases E

def Zp1 : Sums := ⟨tblS [(85, Z3x)], tblM [], false⟩
theorem Zzs : Ze prog Zp1 := ⟨Za ⟨⟨call85, Z5b⟩, ⟨⟩⟩, tM⟩
def Z4x (n_ ZR : Int) : Option (ByteArray × Int) :=
 (if (numB 1 [n_] && Nat.ble (bs [32]).size 10) = true then some ((Z5t 1 [n_] (bs [32])), ZR) else none)
theorem ZAB (n_ ZR : Int) : eT Zp1 67 10 ZfJ [pI n_, pI ZR] = Z4x n_ ZR := by
 kernel_rfl
def Z2l : (Int) -> (Int) -> (Bool) := shut fun (n_ ZR : Int) => (Z4x n_ ZR).isSome
def Z3S : (Int) -> (Int) -> (ByteArray × Int) := shut fun (n_ ZR : Int) => (Z4x n_ ZR).getD (.empty, 0)
theorem ZsC {n_ ZR : Int} {r : ByteArray × Int} (e : Z4x n_ ZR = some r) : Z2l n_ ZR = true := by
 unfold Z2l
 rw [Zu, e]
 rfl
theorem ZB4 {n_ ZR : Int} {r : ByteArray × Int} (e : Z4x n_ ZR = some r) : Z3S n_ ZR = r := by
 unfold Z3S
 rw [Zu, e]
 rfl
theorem ZyG (n_ ZR : Int) (hp : (Z2l n_ ZR) = true) : Z4x n_ ZR = some (Z3S n_ ZR) := by
 unfold Z2l at hp
 rw [Zu] at hp
 unfold Z3S
 rw [Zu]
 exact Z1t hp
def Zfj : RunP
 | [.v (.int .i64 n_), .v (.int .i64 ZR)] => some (Z2l n_ ZR, ZhG (Z3S n_ ZR))
 | _ => none
theorem Zt4 : Sound prog 67 Zfj := by
 refine Zd ZpO Zzs (by kernel_rfl) func67 ntmps67 rfl (by kernel_rfl) fun q r E => ?_
 unfold Zfj at E
 split at E
 ·obtain ⟨hp, rfl⟩ := so2 E
  rename_i n_ ZR
  exact ⟨_, _, rfl, (ZAB n_ ZR).trans (ZyG n_ ZR hp)⟩
 ·cases E

def Zwi : Sums := ⟨tblS [(127, Zcq)], tblM [], false⟩
theorem ZFw : Ze prog Zwi := ⟨Za ⟨⟨call127, ZjB⟩, ⟨⟩⟩, tM⟩
def Z6L (l : P3) (ZR : Int) : Option (ByteArray × Int) :=
 (if (num3 l) = true then some ((Zbh l), ZR) else none)
theorem ZGl (l : P3) (ZR : Int) : eT Zwi 71 9 ZfJ [pB l, pI ZR] = Z6L l ZR := by
 kernel_rfl
def Z4r : P3 -> (Int) -> (Bool) := shut fun (l : P3) (ZR : Int) => (Z6L l ZR).isSome
def Z8F : P3 -> (Int) -> (ByteArray × Int) := shut fun (l : P3) (ZR : Int) => (Z6L l ZR).getD (.empty, 0)
theorem Zye {l : P3} {ZR : Int} {r : ByteArray × Int} (e : Z6L l ZR = some r) : Z4r l ZR = true := by
 unfold Z4r
 rw [Zu, e]
 rfl
theorem ZGP {l : P3} {ZR : Int} {r : ByteArray × Int} (e : Z6L l ZR = some r) : Z8F l ZR = r := by
 unfold Z8F
 rw [Zu, e]
 rfl
theorem ZE5 (l : P3) (ZR : Int) (hp : (Z4r l ZR) = true) : Z6L l ZR = some (Z8F l ZR) := by
 unfold Z4r at hp
 rw [Zu] at hp
 unfold Z8F
 rw [Zu]
 exact Z1t hp
def ZiH : RunP
 | [.v (.agg ⟨[.int .i64 l0, .int .i64 l1, .int .i64 l2]⟩), .v (.int .i64 ZR)] => some (Z4r (l0, l1, l2) ZR, ZhG (Z8F (l0, l1, l2) ZR))
 | _ => none
theorem Zyn : Sound prog 71 ZiH := by
 refine Zd ZpO ZFw (by kernel_rfl) func71 ntmps71 rfl (by kernel_rfl) fun q r E => ?_
 unfold ZiH at E
 split at E
 ·obtain ⟨hp, rfl⟩ := so2 E
  rename_i l0 l1 l2 ZR
  exact ⟨_, _, rfl, (ZGl (l0, l1, l2) ZR).trans (ZE5 (l0, l1, l2) ZR hp)⟩
 ·cases E

def Zp0 : Sums := ⟨tblS [(130, Zfg)], tblM [], false⟩
theorem Zzr : Ze prog Zp0 := ⟨Za ⟨⟨call130, Zt0⟩, ⟨⟩⟩, tM⟩
def Z4w (ln : Nat) (ll : List Int) (ZR : Int) : Option (ByteArray × Int) :=
 (if (lnsB ln ll) = true then some ((ZhL ln ll), ZR) else none)
theorem ZAA (ln : Nat) (ll : List Int) (ZR : Int) : eT Zp0 73 9 ZfJ [.s ln (.ints ll), pI ZR] = Z4w ln ll ZR := by
 kernel_rfl
def Z4J : (Nat) -> (List Int) -> (Int) -> (Bool) := shut fun (ln : Nat) (ll : List Int) (ZR : Int) => (Z4w ln ll ZR).isSome
def Z7O : (Nat) -> (List Int) -> (Int) -> (ByteArray × Int) := shut fun (ln : Nat) (ll : List Int) (ZR : Int) => (Z4w ln ll ZR).getD (.empty, 0)
theorem ZsB {ln : Nat} {ll : List Int} {ZR : Int} {r : ByteArray × Int} (e : Z4w ln ll ZR = some r) : Z4J ln ll ZR = true := by
 unfold Z4J
 rw [Zu, e]
 rfl
theorem ZB3 {ln : Nat} {ll : List Int} {ZR : Int} {r : ByteArray × Int} (e : Z4w ln ll ZR = some r) : Z7O ln ll ZR = r := by
 unfold Z7O
 rw [Zu, e]
 rfl
theorem ZyF (ln : Nat) (ll : List Int) (ZR : Int) (hp : (Z4J ln ll ZR) = true) : Z4w ln ll ZR = some (Z7O ln ll ZR) := by
 unfold Z4J at hp
 rw [Zu] at hp
 unfold Z7O
 rw [Zu]
 exact Z1t hp
def Zfi : RunP
 | [.s ln (.ints ll), .v (.int .i64 ZR)] => some (Z4J ln ll ZR, ZhG (Z7O ln ll ZR))
 | _ => none
theorem Zt2 : Sound prog 73 Zfi := by
 refine Zd ZpO Zzr (by kernel_rfl) func73 ntmps73 rfl (by kernel_rfl) fun q r E => ?_
 unfold Zfi at E
 split at E
 ·obtain ⟨hp, rfl⟩ := so2 E
  rename_i ln ll ZR
  exact ⟨_, _, rfl, (ZAA ln ll ZR).trans (ZyF ln ll ZR hp)⟩
 ·cases E

def Zrz : Sums := ⟨tblS [(55, Z51)], tblM [], false⟩
theorem ZCH : Ze prog Zrz := ⟨Za ⟨⟨call55, Z6X⟩, ⟨⟩⟩, tM⟩
def Z5i (a : P2) (ZR : Int) : Option (ByteArray × Int) :=
 (if (num2 a) = true then some ((Z1D a), ZR) else none)
theorem ZDj (a : P2) (ZR : Int) : eT Zrz 78 9 ZfJ [pA a, pI ZR] = Z5i a ZR := by
 kernel_rfl
def Z78 : P2 -> (Int) -> (Bool) := shut fun (a : P2) (ZR : Int) => (Z5i a ZR).isSome
def Zbj : P2 -> (Int) -> (ByteArray × Int) := shut fun (a : P2) (ZR : Int) => (Z5i a ZR).getD (.empty, 0)
theorem Zvi {a : P2} {ZR : Int} {r : ByteArray × Int} (e : Z5i a ZR = some r) : Z78 a ZR = true := by
 unfold Z78
 rw [Zu, e]
 rfl
theorem ZDI {a : P2} {ZR : Int} {r : ByteArray × Int} (e : Z5i a ZR = some r) : Zbj a ZR = r := by
 unfold Zbj
 rw [Zu, e]
 rfl
theorem ZC8 (a : P2) (ZR : Int) (hp : (Z78 a ZR) = true) : Z5i a ZR = some (Zbj a ZR) := by
 unfold Z78 at hp
 rw [Zu] at hp
 unfold Zbj
 rw [Zu]
 exact Z1t hp
def Zh4 : RunP
 | [.v (.agg ⟨[.int .i64 a0, .int .i64 a1]⟩), .v (.int .i64 ZR)] => some (Z78 (a0, a1) ZR, ZhG (Zbj (a0, a1) ZR))
 | _ => none
theorem Zvx : Sound prog 78 Zh4 := by
 refine Zd ZpO ZCH (by kernel_rfl) func78 ntmps78 rfl (by kernel_rfl) fun q r E => ?_
 unfold Zh4 at E
 split at E
 ·obtain ⟨hp, rfl⟩ := so2 E
  rename_i a0 a1 ZR
  exact ⟨_, _, rfl, (ZDj (a0, a1) ZR).trans (ZC8 (a0, a1) ZR hp)⟩
 ·cases E

def Zl3 : Sums := ⟨tblS [(69, Zcs)], tblM [], false⟩
theorem Zu1 : Ze prog Zl3 := ⟨Za ⟨⟨call69, ZjD⟩, ⟨⟩⟩, tM⟩
def Z34 (ln : Nat) (ll : List Int) (ZR : Int) : Option (ByteArray × Int) :=
 (if (numB ln ll) = true then some ((Zdt ln ll), ZR) else none)
theorem ZuG (ln : Nat) (ll : List Int) (ZR : Int) : eT Zl3 88 9 ZfJ [.s ln (.ints ll), pI ZR] = Z34 ln ll ZR := by
 kernel_rfl
def Z3d : (Nat) -> (List Int) -> (Int) -> (Bool) := shut fun (ln : Nat) (ll : List Int) (ZR : Int) => (Z34 ln ll ZR).isSome
def Z5s : (Nat) -> (List Int) -> (Int) -> (ByteArray × Int) := shut fun (ln : Nat) (ll : List Int) (ZR : Int) => (Z34 ln ll ZR).getD (.empty, 0)
theorem Zor {ln : Nat} {ll : List Int} {ZR : Int} {r : ByteArray × Int} (e : Z34 ln ll ZR = some r) : Z3d ln ll ZR = true := by
 unfold Z3d
 rw [Zu, e]
 rfl
theorem Zv0 {ln : Nat} {ll : List Int} {ZR : Int} {r : ByteArray × Int} (e : Z34 ln ll ZR = some r) : Z5s ln ll ZR = r := by
 unfold Z5s
 rw [Zu, e]
 rfl
theorem Ztq (ln : Nat) (ll : List Int) (ZR : Int) (hp : (Z3d ln ll ZR) = true) : Z34 ln ll ZR = some (Z5s ln ll ZR) := by
 unfold Z3d at hp
 rw [Zu] at hp
 unfold Z5s
 rw [Zu]
 exact Z1t hp
def Zct : RunP
 | [.s ln (.ints ll), .v (.int .i64 ZR)] => some (Z3d ln ll ZR, ZhG (Z5s ln ll ZR))
 | _ => none
theorem Zox : Sound prog 88 Zct := by
 refine Zd ZpO Zu1 (by kernel_rfl) func88 ntmps88 rfl (by kernel_rfl) fun q r E => ?_
 unfold Zct at E
 split at E
 ·obtain ⟨hp, rfl⟩ := so2 E
  rename_i ln ll ZR
  exact ⟨_, _, rfl, (ZuG ln ll ZR).trans (Ztq ln ll ZR hp)⟩
 ·cases E

abbrev ZPS (ds : D8i) (wn : Nat) (wl : List ByteArray) : Int × Bool := (ZH (wl.getD 1 ByteArray.empty))
abbrev ZEX (ds : D8i) (wn : Nat) (wl : List ByteArray) : (Nat × List Int) × Int := (Z31 ds.1 ds.2.1 (ds.2.2.1, ds.2.2.2.1) ((ZPS ds wn wl).1))
abbrev ZPT (ds : D8i) (wn : Nat) (wl : List ByteArray) : ByteArray × Int := (Z3r (((ZEX ds wn wl).1).1) (((ZEX ds wn wl).1).2) ((ZEX ds wn wl).2))
abbrev ZLz (ds : D8i) (wn : Nat) (wl : List ByteArray) : Int × Int := (Z6C ds.1 ds.2.1 ((ZPS ds wn wl).1))
abbrev ZPU (ds : D8i) (wn : Nat) (wl : List ByteArray) : ByteArray × Int := (Z3S ((ZLz ds wn wl).1) ((ZLz ds wn wl).2))
abbrev ZPV (ds : D8i) (wn : Nat) (wl : List ByteArray) : ByteArray := (Z9X 3 [ds.2.2.1, ds.2.2.2.1, ds.2.2.2.2.1, ds.2.2.2.2.2.1, ds.2.2.2.2.2.2.1, ds.2.2.2.2.2.2.2])
abbrev ZIV (ds : D8i) (wn : Nat) (wl : List ByteArray) : Int × Int := (Z8E ds.1 (ds.2.2.1, ds.2.2.2.1) (ds.2.2.2.2.1, ds.2.2.2.2.2.1) ds.2.2.2.2.2.2)
abbrev ZOd (ds : D8i) (wn : Nat) (wl : List ByteArray) : ByteArray × Int := (Z3S ((ZIV ds wn wl).1) ((ZIV ds wn wl).2))
abbrev ZIW (ds : D8i) (wn : Nat) (wl : List ByteArray) : P3 × Int := (Z75 ds.1 (ds.2.2.2.2.1, ds.2.2.2.2.2.1) ds.2.2.2.2.2.2)
abbrev ZOe (ds : D8i) (wn : Nat) (wl : List ByteArray) : ByteArray × Int := (Z8F ((ZIW ds wn wl).1) ((ZIW ds wn wl).2))
abbrev ZKm (ds : D8i) (wn : Nat) (wl : List ByteArray) : Int := (ZA ds.1 ds.2.1 (ds.2.2.2.2.1, ds.2.2.2.2.2.1) ds.2.2.2.2.2.2)
abbrev ZKn (ds : D8i) (wn : Nat) (wl : List ByteArray) : Int := (ZA ds.1 ds.2.1 (ds.2.2.1, ds.2.2.2.1) ds.2.2.2.2.2.2)
abbrev ZKo (ds : D8i) (wn : Nat) (wl : List ByteArray) : Int := (ZA ds.1 ds.2.1 (ds.2.2.1, ds.2.2.2.1) (ds.2.2.2.2.1, ds.2.2.2.2.2.1))
abbrev ZOb (ds : D8i) (wn : Nat) (wl : List ByteArray) : ByteArray := (Zdt 3 [(ZKm ds wn wl), (ZKn ds wn wl), (ZKo ds wn wl)])
abbrev Zq9 (ds : D8i) (wn : Nat) (wl : List ByteArray) : (Nat × List Int) × Int := (ZbC ds.1 ds.2.1 (ds.2.2.1, ds.2.2.2.1))
abbrev ZKp (ds : D8i) (wn : Nat) (wl : List ByteArray) : ByteArray × Int := (Z7O (((Zq9 ds wn wl).1).1) (((Zq9 ds wn wl).1).2) ((Zq9 ds wn wl).2))
abbrev ZOc (ds : D8i) (wn : Nat) (wl : List ByteArray) : Bool := (Z6E ds.1 ds.2.1 (ds.2.2.1, ds.2.2.2.1) (ds.2.2.2.2.1, ds.2.2.2.2.2.1) ds.2.2.2.2.2.2)
abbrev ZB7 (ds : D8i) (wn : Nat) (wl : List ByteArray) : Int × Int := (Zds ds.1 ds.2.1 (ds.2.2.1, ds.2.2.2.1) (ds.2.2.2.2.1, ds.2.2.2.2.2.1) ds.2.2.2.2.2.2)
abbrev ZKq (ds : D8i) (wn : Nat) (wl : List ByteArray) : ByteArray × Int := (Z3S ((ZB7 ds wn wl).1) ((ZB7 ds wn wl).2))
abbrev ZB8 (ds : D8i) (wn : Nat) (wl : List ByteArray) : Int × Int := (Z9n ds.1 ds.2.1 (ds.2.2.1, ds.2.2.2.1) (ds.2.2.2.2.1, ds.2.2.2.2.2.1) ds.2.2.2.2.2.2)
abbrev ZKr (ds : D8i) (wn : Nat) (wl : List ByteArray) : ByteArray × Int := (Z3S ((ZB8 ds wn wl).1) ((ZB8 ds wn wl).2))
abbrev ZB9 (ds : D8i) (wn : Nat) (wl : List ByteArray) : P2 × Int := (Z9U ds.1 (ds.2.2.1, ds.2.2.2.1) (ds.2.2.2.2.1, ds.2.2.2.2.2.1) ds.2.2.2.2.2.2)
abbrev ZKs (ds : D8i) (wn : Nat) (wl : List ByteArray) : ByteArray × Int := (Zbj ((ZB9 ds wn wl).1) ((ZB9 ds wn wl).2))
abbrev ZBa (ds : D8i) (wn : Nat) (wl : List ByteArray) : P3 × Int := (Zdr ds.1 (ds.2.2.1, ds.2.2.2.1) (ds.2.2.2.2.1, ds.2.2.2.2.2.1) ds.2.2.2.2.2.2)
abbrev ZKt (ds : D8i) (wn : Nat) (wl : List ByteArray) : ByteArray × Int := (Z8F ((ZBa ds wn wl).1) ((ZBa ds wn wl).2))
abbrev ZBb (ds : D8i) (wn : Nat) (wl : List ByteArray) : P3 × Int := (Z9T ds.1 ds.2.1 (ds.2.2.1, ds.2.2.2.1) (ds.2.2.2.2.1, ds.2.2.2.2.2.1) ds.2.2.2.2.2.2)
abbrev ZKu (ds : D8i) (wn : Nat) (wl : List ByteArray) : ByteArray × Int := (Z8F ((ZBb ds wn wl).1) ((ZBb ds wn wl).2))
abbrev ZBc (ds : D8i) (wn : Nat) (wl : List ByteArray) : P3 × Int := (ZI ds.1 ds.2.1 (ds.2.2.1, ds.2.2.2.1) (ds.2.2.2.2.1, ds.2.2.2.2.2.1) ds.2.2.2.2.2.2)
abbrev ZKv (ds : D8i) (wn : Nat) (wl : List ByteArray) : ByteArray × Int := (Z8F ((ZBc ds wn wl).1) ((ZBc ds wn wl).2))
abbrev Zqa (ds : D8i) (wn : Nat) (wl : List ByteArray) : (Nat × List Int) × Int := (Z4F ds.1 ds.2.1 (ds.2.2.1, ds.2.2.2.1) (ds.2.2.2.2.1, ds.2.2.2.2.2.1) ds.2.2.2.2.2.2)
abbrev ZKw (ds : D8i) (wn : Nat) (wl : List ByteArray) : ByteArray × Int := (Z3r (((Zqa ds wn wl).1).1) (((Zqa ds wn wl).1).2) ((Zqa ds wn wl).2))
abbrev ZmS (ds : D8i) (wn : Nat) (wl : List ByteArray) : P3 × Int := (Z6B ds.1 ds.2.1 (ds.2.2.1, ds.2.2.2.1) (ds.2.2.2.2.1, ds.2.2.2.2.2.1) ds.2.2.2.2.2.2)
abbrev ZGV (ds : D8i) (wn : Nat) (wl : List ByteArray) : ByteArray := (Z1D (((ZmS ds wn wl).1).1, ((ZmS ds wn wl).1).2.1))
abbrev ZKx (ds : D8i) (wn : Nat) (wl : List ByteArray) : ByteArray := (Z5t 1 [((ZmS ds wn wl).1).2.2] (bs [32]))
abbrev Zqb (ds : D8i) (wn : Nat) (wl : List ByteArray) : (Nat × List Int) × Int := (Z76 ds.1 (ds.2.2.1, ds.2.2.2.1) (ds.2.2.2.2.1, ds.2.2.2.2.2.1) ds.2.2.2.2.2.2)
abbrev ZKy (ds : D8i) (wn : Nat) (wl : List ByteArray) : ByteArray × Int := (Z3r (((Zqb ds wn wl).1).1) (((Zqb ds wn wl).1).2) ((Zqb ds wn wl).2))
abbrev Zqc (ds : D8i) (wn : Nat) (wl : List ByteArray) : (Nat × List Int) × Int := (Z3q ds.1 (ds.2.2.1, ds.2.2.2.1) (ds.2.2.2.2.1, ds.2.2.2.2.2.1) ds.2.2.2.2.2.2)
abbrev ZKz (ds : D8i) (wn : Nat) (wl : List ByteArray) : ByteArray × Int := (Z7O (((Zqc ds wn wl).1).1) (((Zqc ds wn wl).1).2) ((Zqc ds wn wl).2))
abbrev Zqd (ds : D8i) (wn : Nat) (wl : List ByteArray) : (Nat × List Int) × Int := (Z60 ds.1 (ds.2.2.1, ds.2.2.2.1) (ds.2.2.2.2.1, ds.2.2.2.2.2.1) ds.2.2.2.2.2.2)
abbrev ZKA (ds : D8i) (wn : Nat) (wl : List ByteArray) : ByteArray × Int := (Z5s (((Zqd ds wn wl).1).1) (((Zqd ds wn wl).1).2) ((Zqd ds wn wl).2))
abbrev ZKB (ds : D8i) (wn : Nat) (wl : List ByteArray) : ByteArray × Int := (Z5s (((Z2X ds.1).1).1) (((Z2X ds.1).1).2) ((Z2X ds.1).2))
def ZzK : Sums := ⟨tblS [(63, Za3), (66, Zh1), (65, ZdE), (68, ZiF), (67, Zfj), (56, Z7G), (69, Zcs), (70, Zck), (58, Z8Y), (71, ZiH), (72, Z52), (74, Zfd), (73, Zfi), (75, Ze5), (76, Zh2), (77, Zfe), (79, Zdx), (78, Zh4), (80, Zh0), (81, Zdw), (82, Z8X), (83, Zbm), (84, Zal), (55, Z51), (85, Z3x), (86, Zcl), (87, Z8U), (89, Zbn), (88, Zct), (90, ZdB)], tblM [], false⟩
theorem ZHE : Ze prog ZzK := ⟨Za ⟨⟨call63, Zhl⟩, ⟨call66, Zvu⟩, ⟨call65, ZqK⟩, ⟨call68, Zyl⟩, ⟨call67, Zt4⟩, ⟨call56, Zbt⟩, ⟨call69, ZjD⟩, ⟨call70, Zos⟩, ⟨call58, ZfE⟩, ⟨call71, Zyn⟩, ⟨call72, Z6Y⟩, ⟨call74, ZsV⟩, ⟨call73, Zt2⟩, ⟨call75, Zls⟩, ⟨call76, Zvv⟩, ⟨call77, ZsW⟩, ⟨call79, ZqE⟩, ⟨call78, Zvx⟩, ⟨call80, Zvt⟩, ⟨call81, ZqD⟩, ⟨call82, ZfD⟩, ⟨call83, Znn⟩, ⟨call84, ZlF⟩, ⟨call55, Z6X⟩, ⟨call85, Z5b⟩, ⟨call86, Zot⟩, ⟨call87, Zjz⟩, ⟨call89, Zno⟩, ⟨call88, Zox⟩, ⟨call90, ZqI⟩, ⟨⟩⟩, tM⟩
def Z0d (ds : D8i) (wn : Nat) (wl : List ByteArray) : Option (ByteArray × Int × D8i) :=
 (if (((wn : Nat) : Int) == 2) = true then (if (decide (0 <= 1) && decide (1 < ((wn : Nat) : Int))) = true then (if (Nat.ble (2) wl.length) = true then (if (decide (0 <= 0) && decide (0 < ((wn : Nat) : Int))) = true then (if (Nat.ble (1) wl.length) = true then (if (eqS (wl.getD 0 ByteArray.empty) (bs [97, 116])) = true then (if (Z2s (((ZEX ds wn wl).1).1) (((ZEX ds wn wl).1).2) ((ZEX ds wn wl).2)) = true then some ((ZPT ds wn wl).1, (ZPT ds wn wl).2, ds) else none) else (if (eqS (wl.getD 0 ByteArray.empty) (bs [99, 111, 117, 110, 116])) = true then (if (Z2l ((ZLz ds wn wl).1) ((ZLz ds wn wl).2)) = true then some ((ZPU ds wn wl).1, (ZPU ds wn wl).2, ds) else none) else some (bs [], 6, ds))) else none) else none) else none) else none) else (if (decide (0 <= 0) && decide (0 < ((wn : Nat) : Int))) = true then (if (Nat.ble (1) wl.length) = true then (if (eqS (wl.getD 0 ByteArray.empty) (bs [115, 104, 111, 119])) = true then (if (ptsB 3 [ds.2.2.1, ds.2.2.2.1, ds.2.2.2.2.1, ds.2.2.2.2.2.1, ds.2.2.2.2.2.2.1, ds.2.2.2.2.2.2.2]) = true then some ((ZPV ds wn wl), 0, ds) else none) else (if (eqS (wl.getD 0 ByteArray.empty) (bs [102, 105, 101, 108, 100])) = true then (if (numB 2 [ds.1, ds.2.1]) = true then some ((Zdt 2 [ds.1, ds.2.1]), 0, ds) else none) else (if (eqS (wl.getD 0 ByteArray.empty) (bs [97, 114, 101, 97])) = true then (if (Z2l ((ZIV ds wn wl).1) ((ZIV ds wn wl).2)) = true then some ((ZOd ds wn wl).1, (ZOd ds wn wl).2, ds) else none) else (if (eqS (wl.getD 0 ByteArray.empty) (bs [115, 105, 100, 101])) = true then (if (Z4r ((ZIW ds wn wl).1) ((ZIW ds wn wl).2)) = true then some ((ZOe ds wn wl).1, (ZOe ds wn wl).2, ds) else none) else (if (eqS (wl.getD 0 ByteArray.empty) (bs [113, 117, 97, 100, 114, 97, 110, 99, 101, 115])) = true then (if (prB ds.1) = true then (if (prB ds.1) = true then (if (prB ds.1) = true then (if (numB 3 [(ZKm ds wn wl), (ZKn ds wn wl), (ZKo ds wn wl)]) = true then some ((ZOb ds wn wl), 0, ds) else none) else none) else none) else none) else (if (eqS (wl.getD 0 ByteArray.empty) (bs [110, 117, 108, 108])) = true then (if (Z4J (((Zq9 ds wn wl).1).1) (((Zq9 ds wn wl).1).2) ((Zq9 ds wn wl).2)) = true then some ((ZKp ds wn wl).1, (ZKp ds wn wl).2, ds) else none) else (if (eqS (wl.getD 0 ByteArray.empty) (bs [114, 105, 103, 104, 116])) = true then (if (prB ds.1) = true then (if (ZOc ds wn wl) = true then some (bs [121, 101, 115], 0, ds) else some (bs [110, 111], 0, ds)) else none) else (if (eqS (wl.getD 0 ByteArray.empty) (bs [115, 112, 114, 101, 97, 100])) = true then (if (Z2l ((ZB7 ds wn wl).1) ((ZB7 ds wn wl).2)) = true then some ((ZKq ds wn wl).1, (ZKq ds wn wl).2, ds) else none) else (if (eqS (wl.getD 0 ByteArray.empty) (bs [113, 117, 97, 100, 114, 101, 97])) = true then (if (Z2l ((ZB8 ds wn wl).1) ((ZB8 ds wn wl).2)) = true then some ((ZKr ds wn wl).1, (ZKr ds wn wl).2, ds) else none) else (if (eqS (wl.getD 0 ByteArray.empty) (bs [99, 101, 110, 116, 114, 111, 105, 100])) = true then (if (Z78 ((ZB9 ds wn wl).1) ((ZB9 ds wn wl).2)) = true then some ((ZKs ds wn wl).1, (ZKs ds wn wl).2, ds) else none) else (if (eqS (wl.getD 0 ByteArray.empty) (bs [109, 101, 100, 105, 97, 110])) = true then (if (Z4r ((ZBa ds wn wl).1) ((ZBa ds wn wl).2)) = true then some ((ZKt ds wn wl).1, (ZKt ds wn wl).2, ds) else none) else (if (eqS (wl.getD 0 ByteArray.empty) (bs [97, 108, 116, 105, 116, 117, 100, 101])) = true then (if (Z4r ((ZBb ds wn wl).1) ((ZBb ds wn wl).2)) = true then some ((ZKu ds wn wl).1, (ZKu ds wn wl).2, ds) else none) else (if (eqS (wl.getD 0 ByteArray.empty) (bs [101, 117, 108, 101, 114])) = true then (if (Z4r ((ZBc ds wn wl).1) ((ZBc ds wn wl).2)) = true then some ((ZKv ds wn wl).1, (ZKv ds wn wl).2, ds) else none) else (if (eqS (wl.getD 0 ByteArray.empty) (bs [111, 114, 116, 104, 105, 99])) = true then (if (Z2s (((Zqa ds wn wl).1).1) (((Zqa ds wn wl).1).2) ((Zqa ds wn wl).2)) = true then some ((ZKw ds wn wl).1, (ZKw ds wn wl).2, ds) else none) else (if (eqS (wl.getD 0 ByteArray.empty) (bs [99, 105, 114, 99, 108, 101])) = true then (if (num2 (((ZmS ds wn wl).1).1, ((ZmS ds wn wl).1).2.1)) = true then (if (Nat.ble ((ZGV ds wn wl).size + (bs [32]).size) 9223372036854775807) = true then (if (numB 1 [((ZmS ds wn wl).1).2.2] && Nat.ble (bs [32]).size 10) = true then (if (Nat.ble (((ZGV ds wn wl) ++ (bs [32])).size + (ZKx ds wn wl).size) 9223372036854775807) = true then some (((ZGV ds wn wl) ++ (bs [32])) ++ (ZKx ds wn wl), (ZmS ds wn wl).2, ds) else none) else none) else none) else none) else (if (eqS (wl.getD 0 ByteArray.empty) (bs [111, 109, 101, 103, 97])) = true then (if (Z2s (((Zqb ds wn wl).1).1) (((Zqb ds wn wl).1).2) ((Zqb ds wn wl).2)) = true then some ((ZKy ds wn wl).1, (ZKy ds wn wl).2, ds) else none) else (if (eqS (wl.getD 0 ByteArray.empty) (bs [101, 117, 108, 101, 114, 115])) = true then (if (Z4J (((Zqc ds wn wl).1).1) (((Zqc ds wn wl).1).2) ((Zqc ds wn wl).2)) = true then some ((ZKz ds wn wl).1, (ZKz ds wn wl).2, ds) else none) else (if (eqS (wl.getD 0 ByteArray.empty) (bs [114, 105, 103, 104, 116, 115])) = true then (if (Z3d (((Zqd ds wn wl).1).1) (((Zqd ds wn wl).1).2) ((Zqd ds wn wl).2)) = true then some ((ZKA ds wn wl).1, (ZKA ds wn wl).2, ds) else none) else (if (eqS (wl.getD 0 ByteArray.empty) (bs [117, 110, 105, 116, 115])) = true then (if (Z3d (((Z2X ds.1).1).1) (((Z2X ds.1).1).2) ((Z2X ds.1).2)) = true then some ((ZKB ds wn wl).1, (ZKB ds wn wl).2, ds) else none) else some (bs [], 6, ds)))))))))))))))))))) else none) else none))
theorem ZIh (ds : D8i) (wn : Nat) (wl : List ByteArray) : ZcR prog ZzK 33 306 (fun _ => 1000000) ZmG 28 [.v (.int .i64 ds.1), .v (.int .i64 ds.2.1), .v (.int .i64 ds.2.2.1), .v (.int .i64 ds.2.2.2.1), .v (.int .i64 ds.2.2.2.2.1), .v (.int .i64 ds.2.2.2.2.2.1), .v (.int .i64 ds.2.2.2.2.2.2.1), .v (.int .i64 ds.2.2.2.2.2.2.2)] [.s wn (.strs wl)] = Z0d ds wn wl := by
 kernel_rfl
def ZbG : (D8i) -> (Nat) -> (List ByteArray) -> (Bool) := shut fun (ds : D8i) (wn : Nat) (wl : List ByteArray) => (Z0d ds wn wl).isSome
def Z59 : (D8i) -> (Nat) -> (List ByteArray) -> (ByteArray × Int × D8i) := shut fun (ds : D8i) (wn : Nat) (wl : List ByteArray) => (Z0d ds wn wl).getD (.empty, 0, 0, 0, 0, 0, 0, 0, 0, 0)
theorem Zn2 {ds : D8i} {wn : Nat} {wl : List ByteArray} {r : ByteArray × Int × D8i} (e : Z0d ds wn wl = some r) : ZbG ds wn wl = true := by
 unfold ZbG
 rw [Zu, e]
 rfl
theorem ZwI {ds : D8i} {wn : Nat} {wl : List ByteArray} {r : ByteArray × Int × D8i} (e : Z0d ds wn wl = some r) : Z59 ds wn wl = r := by
 unfold Z59
 rw [Zu, e]
 rfl
theorem ZHk (ds : D8i) (wn : Nat) (wl : List ByteArray) (hp : (ZbG ds wn wl) = true) : Z0d ds wn wl = some (Z59 ds wn wl) := by
 unfold ZbG at hp
 rw [Zu] at hp
 unfold Z59
 rw [Zu]
 exact Z1t hp
def Zkv : PRun
 | 28, [.v (.int .i64 d_0), .v (.int .i64 d_1), .v (.int .i64 d_2), .v (.int .i64 d_3), .v (.int .i64 d_4), .v (.int .i64 d_5), .v (.int .i64 d_6), .v (.int .i64 d_7)], [.s wn (.strs wl)] => some (ZbG (d_0, d_1, d_2, d_3, d_4, d_5, d_6, d_7) wn wl, ZwF (Z59 (d_0, d_1, d_2, d_3, d_4, d_5, d_6, d_7) wn wl))
 | _, _, _ => none
theorem ZBH : Zag prog 33 Zkv := by
 refine Z5U ZK1 ZHE (by kernel_rfl) func33 ntmps33 rfl (by kernel_rfl) ?_
 intro e bcs pvs rs bcs' hrun
 unfold Zkv at hrun
 split at hrun
 ·simp only [Option.some.injEq, Prod.mk.injEq] at hrun
  obtain ⟨hp, hrun⟩ := hrun
  rename_i d_0 d_1 d_2 d_3 d_4 d_5 d_6 d_7 wn wl
  exact ⟨_, Z59 (d_0, d_1, d_2, d_3, d_4, d_5, d_6, d_7) wn wl, by first | exact hrun.symm | exact (Prod.ext hrun.1 hrun.2).symm, (ZIh (d_0, d_1, d_2, d_3, d_4, d_5, d_6, d_7) wn wl).trans (ZHk (d_0, d_1, d_2, d_3, d_4, d_5, d_6, d_7) wn wl hp)⟩
 ·cases hrun

def Zwf : Sums := ⟨tblS [(17, ZfN), (31, Znf)], tblM [(32, .box Zkx), (33, .box Zkv)], false⟩
theorem ZFr : Ze prog Zwf := ⟨Za ⟨⟨call17, Znk⟩, ⟨call31, ZDU⟩, ⟨⟩⟩, Z6a ⟨⟨call32, ZBI⟩, ⟨call33, ZBH⟩, ⟨⟩⟩⟩
def Z2v (d : D8i) (line : ByteArray) : Option ((D8i) × ByteArray) :=
 (if (!(Z0n d)) = true then some ((0, 0, 0, 0, 0, 0, 0, 0), bs []) else (if (ZnY line (bs [32])) = true then (if (decide ((((Z0l line (bs [32])).1 : Nat) : Int) > 2)) = true then some (d, bs [101, 114, 114, 111, 114]) else (if (ZbH d ((Z0l line (bs [32])).1) ((Z0l line (bs [32])).2)) = true then (if (!((Z4G d ((Z0l line (bs [32])).1) ((Z0l line (bs [32])).2)).2.2.1)) = true then (if (ZbG d ((Z0l line (bs [32])).1) ((Z0l line (bs [32])).2)) = true then (if (((Z59 d ((Z0l line (bs [32])).1) ((Z0l line (bs [32])).2)).2.1) != 0) = true then some (d, bs [101, 114, 114, 111, 114]) else some (((Z59 d ((Z0l line (bs [32])).1) ((Z0l line (bs [32])).2)).2.2.1, (Z59 d ((Z0l line (bs [32])).1) ((Z0l line (bs [32])).2)).2.2.2.1, (Z59 d ((Z0l line (bs [32])).1) ((Z0l line (bs [32])).2)).2.2.2.2.1, (Z59 d ((Z0l line (bs [32])).1) ((Z0l line (bs [32])).2)).2.2.2.2.2.1, (Z59 d ((Z0l line (bs [32])).1) ((Z0l line (bs [32])).2)).2.2.2.2.2.2.1, (Z59 d ((Z0l line (bs [32])).1) ((Z0l line (bs [32])).2)).2.2.2.2.2.2.2.1, (Z59 d ((Z0l line (bs [32])).1) ((Z0l line (bs [32])).2)).2.2.2.2.2.2.2.2.1, (Z59 d ((Z0l line (bs [32])).1) ((Z0l line (bs [32])).2)).2.2.2.2.2.2.2.2.2), (Z59 d ((Z0l line (bs [32])).1) ((Z0l line (bs [32])).2)).1)) else none) else (if (((Z4G d ((Z0l line (bs [32])).1) ((Z0l line (bs [32])).2)).2.1) != 0) = true then some (d, bs [101, 114, 114, 111, 114]) else some (((Z4G d ((Z0l line (bs [32])).1) ((Z0l line (bs [32])).2)).2.2.2.1, (Z4G d ((Z0l line (bs [32])).1) ((Z0l line (bs [32])).2)).2.2.2.2.1, (Z4G d ((Z0l line (bs [32])).1) ((Z0l line (bs [32])).2)).2.2.2.2.2.1, (Z4G d ((Z0l line (bs [32])).1) ((Z0l line (bs [32])).2)).2.2.2.2.2.2.1, (Z4G d ((Z0l line (bs [32])).1) ((Z0l line (bs [32])).2)).2.2.2.2.2.2.2.1, (Z4G d ((Z0l line (bs [32])).1) ((Z0l line (bs [32])).2)).2.2.2.2.2.2.2.2.1, (Z4G d ((Z0l line (bs [32])).1) ((Z0l line (bs [32])).2)).2.2.2.2.2.2.2.2.2.1, (Z4G d ((Z0l line (bs [32])).1) ((Z0l line (bs [32])).2)).2.2.2.2.2.2.2.2.2.2), (Z4G d ((Z0l line (bs [32])).1) ((Z0l line (bs [32])).2)).1))) else none)) else none))
theorem ZGg (d : D8i) (line : ByteArray) : eT Zwf 14 41 ZmH [.v (.agg ⟨[.int .i64 d.1, .int .i64 d.2.1, .int .i64 d.2.2.1, .int .i64 d.2.2.2.1, .int .i64 d.2.2.2.2.1, .int .i64 d.2.2.2.2.2.1, .int .i64 d.2.2.2.2.2.2.1, .int .i64 d.2.2.2.2.2.2.2]⟩), .v (.string line)] = Z2v d line := by
 kernel_rfl
def Z4q : (D8i) -> (ByteArray) -> (Bool) := shut fun (d : D8i) (line : ByteArray) => (Z2v d line).isSome
def Z08 : (D8i) -> (ByteArray) -> ((D8i) × ByteArray) := shut fun (d : D8i) (line : ByteArray) => (Z2v d line).getD ((0, 0, 0, 0, 0, 0, 0, 0), .empty)
theorem Zyd {d : D8i} {line : ByteArray} {r : (D8i) × ByteArray} (e : Z2v d line = some r) : Z4q d line = true := by
 unfold Z4q
 rw [Zu, e]
 rfl
theorem ZGO {d : D8i} {line : ByteArray} {r : (D8i) × ByteArray} (e : Z2v d line = some r) : Z08 d line = r := by
 unfold Z08
 rw [Zu, e]
 rfl
theorem ZE0 (d : D8i) (line : ByteArray) (hp : (Z4q d line) = true) : Z2v d line = some (Z08 d line) := by
 unfold Z4q at hp
 rw [Zu] at hp
 unfold Z08
 rw [Zu]
 exact Z1t hp
def Ze2 : RunP
 | [.v (.agg ⟨[.int .i64 d0, .int .i64 d1, .int .i64 d2, .int .i64 d3, .int .i64 d4, .int .i64 d5, .int .i64 d6, .int .i64 d7]⟩), .v (.string line)] => some (Z4q (d0, d1, d2, d3, d4, d5, d6, d7) line, Zs1 (Z08 (d0, d1, d2, d3, d4, d5, d6, d7) line))
 | _ => none
theorem Zlp : Sound prog 14 Ze2 := by
 refine Zd ZG4 ZFr (by kernel_rfl) func14 ntmps14 rfl (by kernel_rfl) fun q r E => ?_
 unfold Ze2 at E
 split at E
 ·obtain ⟨hp, rfl⟩ := so2 E
  rename_i d0 d1 d2 d3 d4 d5 d6 d7 line
  exact ⟨_, _, rfl, (ZGg (d0, d1, d2, d3, d4, d5, d6, d7) line).trans (ZE0 (d0, d1, d2, d3, d4, d5, d6, d7) line hp)⟩
 ·cases E

end

end Go.Proofs.YtcdpfpfbilfpoaaGreatDoor
