import Derived.Test.YtcdpfpfbilfpoaaGreatDoorFa
import Derived.Test.YtcdpfpfbilfpoaaGreatDoorProg
set_option linter.unusedSimpArgs false
set_option linter.unusedVariables false
namespace Go.Proofs.YtcdpfpfbilfpoaaGreatDoor
open Go.RowKit Tryz
noncomputable section
def Zht : Sums := ⟨tblS [(37, Z2t)], tblM [], false⟩
theorem Zpx : Ze prog Zht := ⟨Za ⟨⟨call37, Z2L⟩, ⟨⟩⟩, tM⟩
def Zb5 (c0 : Int) (c1 c2 : P2) : Option (Bool) :=
 some (ZE c0 [c1, c2])
theorem ZpV (c0 : Int) (c1 c2 : P2) : eT Zht 107 9 Z1M [.p [.int .i64 c0], .p [.int .i64 c1.1, .int .i64 c1.2], .p [.int .i64 c2.1, .int .i64 c2.2]] = Zb5 c0 c1 c2 := by
 kernel_rfl
def Z3R (c0 : Int) (c1 c2 : P2) : Bool :=
 (ZE c0 [c1, c2])
theorem ZoL (c0 : Int) (c1 c2 : P2) : Zb5 c0 c1 c2 = some (Z3R c0 c1 c2) := by
 unfold Zb5 Z3R
 (try simp only [Zz])
 repeat' (first | with_reducible rfl | refine Zm (fun _ => ?_) (fun _ => ?_) | rfl)
def Zan : RunP
 | [.p [.int .i64 c0], .p [.int .i64 c10, .int .i64 c11], .p [.int .i64 c20, .int .i64 c21]] => some (true, Z4k (Z3R c0 (c10, c11) (c20, c21)))
 | _ => none
theorem ZlH : Sound prog 107 Zan := by
 refine Zd Z9i Zpx (by kernel_rfl) func107 ntmps107 rfl (by kernel_rfl) fun q r E => ?_
 unfold Zan at E
 split at E
 ·obtain ⟨hp, rfl⟩ := so2 E
  rename_i c0 c10 c11 c20 c21
  exact ⟨_, _, rfl, (ZpV c0 (c10, c11) (c20, c21)).trans (ZoL c0 (c10, c11) (c20, c21))⟩
 ·cases E

def Zmj : Sums := ⟨tblS [(106, Z3e), (107, Zan), (108, Zcu)], tblM [], false⟩
theorem ZwZ : Ze prog Zmj := ⟨Za ⟨⟨call106, Z2S⟩, ⟨call107, ZlH⟩, ⟨call108, ZjE⟩, ⟨⟩⟩, tM⟩
def ZeM (p : Int) (a b : P2) : Option (P2 × Int) :=
 (if ((true) || !(Z6 p)) = true then (if ((ZK p (true) (Z3R p a b)) != 0) = true then some ((0, 0), (ZK p (true) (Z3R p a b))) else (if (prB p) = true then some ((Z4Z p a b), 0) else none)) else none)
theorem ZxD (p : Int) (a b : P2) : eT Zmj 57 20 Z57 [pI p, pA a, pA b] = ZeM p a b := by
 kernel_rfl
def Z9V (p : Int) (a b : P2) : P2 × Int :=
 (if ((ZK p (true) (Z3R p a b)) != 0) = true then ((0, 0), (ZK p (true) (Z3R p a b))) else ((Z4Z p a b), 0))
theorem ZvM (p : Int) (a b : P2) : ZeM p a b = some (Z9V p a b) := by
 unfold ZeM Z9V
 (try simp only [Zz])
 repeat' (first | with_reducible rfl | refine Zv (by first | with_reducible rfl | exact Bool.true_or _ | (have hq : prB p = true := (by (with_reducible first | assumption | exact Z6A ‹_› | exact Z5W ‹_›)); first | exact hq | exact Zn0 hq | exact Z3h hq (fun _ => rfl) | exact Z3h hq (fun _ => hq) | exact and3 hq hq hq | exact Z2W hq rfl | exact map3_ok hq) | rfl) ?_ | refine Zm (fun _ => ?_) (fun _ => ?_) | rfl)
def Zdz : RunP
 | [.v (.int .i64 p), .v (.agg ⟨[.int .i64 a0, .int .i64 a1]⟩), .v (.agg ⟨[.int .i64 b0, .int .i64 b1]⟩)] => some (true, Z5Y (Z9V p (a0, a1) (b0, b1)))
 | _ => none
theorem ZqG : Sound prog 57 Zdz := by
 refine Zd Z8W ZwZ (by kernel_rfl) func57 ntmps57 rfl (by kernel_rfl) fun q r E => ?_
 unfold Zdz at E
 split at E
 ·obtain ⟨hp, rfl⟩ := so2 E
  rename_i p a0 a1 b0 b1
  exact ⟨_, _, rfl, (ZxD p (a0, a1) (b0, b1)).trans (ZvM p (a0, a1) (b0, b1))⟩
 ·cases E

def Zmr : Sums := ⟨tblS [(97, Z3k), (180, Z8h)], tblM [], false⟩
theorem Zxb : Ze prog Zmr := ⟨Za ⟨⟨call97, Z3U⟩, ⟨call180, ZcM⟩, ⟨⟩⟩, tM⟩
def ZeV (p : Int) (a b : P2) : Option (P2 × Int) :=
 (if ((ZW p [a, b]) != 0) = true then some ((0, 0), (ZW p [a, b])) else (if (prB p) = true then some ((Z1f p a b), 0) else none))
theorem ZxP (p : Int) (a b : P2) : eT Zmr 146 22 Z57 [pI p, pA a, pA b] = ZeV p a b := by
 kernel_rfl
def Z1w (p : Int) (a b : P2) : P2 × Int :=
 (if ((ZW p [a, b]) != 0) = true then ((0, 0), (ZW p [a, b])) else ((Z1f p a b), 0))
theorem ZvY (p : Int) (a b : P2) : ZeV p a b = some (Z1w p a b) := by
 unfold ZeV Z1w
 (try simp only [Zz])
 repeat' (first | with_reducible rfl | refine Zv (by (with_reducible first | assumption | exact ZbF ‹_› | exact Zce ‹_›)) ?_ | refine Zm (fun _ => ?_) (fun _ => ?_) | rfl)
def ZdJ : RunP
 | [.v (.int .i64 p), .v (.agg ⟨[.int .i64 a0, .int .i64 a1]⟩), .v (.agg ⟨[.int .i64 b0, .int .i64 b1]⟩)] => some (true, Z5Y (Z1w p (a0, a1) (b0, b1)))
 | _ => none
theorem ZqP : Sound prog 146 ZdJ := by
 refine Zd Z8W Zxb (by kernel_rfl) func146 ntmps146 rfl (by kernel_rfl) fun q r E => ?_
 unfold ZdJ at E
 split at E
 ·obtain ⟨hp, rfl⟩ := so2 E
  rename_i p a0 a1 b0 b1
  exact ⟨_, _, rfl, (ZxP p (a0, a1) (b0, b1)).trans (ZvY p (a0, a1) (b0, b1))⟩
 ·cases E

def Zgv : Sums := ⟨tblS [(37, Z2t)], tblM [], false⟩
theorem Zo6 : Ze prog Zgv := ⟨Za ⟨⟨call37, Z2L⟩, ⟨⟩⟩, tM⟩
def Zad (c0 : Int) (c1 c2 : P2) : Option (Bool) :=
 some (ZE c0 [c1, c2])
theorem Zoc (c0 : Int) (c1 c2 : P2) : eT Zgv 109 9 Z1M [.p [.int .i64 c0], .p [.int .i64 c1.1, .int .i64 c1.2], .p [.int .i64 c2.1, .int .i64 c2.2]] = Zad c0 c1 c2 := by
 kernel_rfl
def Z3b (c0 : Int) (c1 c2 : P2) : Bool :=
 (ZE c0 [c1, c2])
theorem ZnB (c0 : Int) (c1 c2 : P2) : Zad c0 c1 c2 = some (Z3b c0 c1 c2) := by
 unfold Zad Z3b
 (try simp only [Zz])
 repeat' (first | with_reducible rfl | refine Zm (fun _ => ?_) (fun _ => ?_) | rfl)
def Z9v : RunP
 | [.p [.int .i64 c0], .p [.int .i64 c10, .int .i64 c11], .p [.int .i64 c20, .int .i64 c21]] => some (true, Z4k (Z3b c0 (c10, c11) (c20, c21)))
 | _ => none
theorem ZkM : Sound prog 109 Z9v := by
 refine Zd Z9i Zo6 (by kernel_rfl) func109 ntmps109 rfl (by kernel_rfl) fun q r E => ?_
 unfold Z9v at E
 split at E
 ·obtain ⟨hp, rfl⟩ := so2 E
  rename_i c0 c10 c11 c20 c21
  exact ⟨_, _, rfl, (Zoc c0 (c10, c11) (c20, c21)).trans (ZnB c0 (c10, c11) (c20, c21))⟩
 ·cases E

def ZkW : Sums := ⟨tblS [(106, Z3e), (109, Z9v), (110, Z2K)], tblM [], false⟩
theorem ZtU : Ze prog ZkW := ⟨Za ⟨⟨call106, Z2S⟩, ⟨call109, ZkM⟩, ⟨call110, Z3F⟩, ⟨⟩⟩, tM⟩
def ZcV (p : Int) (a b : P2) : Option (P3 × Int) :=
 (if ((true) || !(Z6 p)) = true then (if ((ZK p (true) (Z3b p a b)) != 0) = true then some ((0, 0, 0), (ZK p (true) (Z3b p a b))) else (if (a == b) = true then some ((0, 0, 0), 5) else (if (prB p) = true then some ((Zr p a b), 0) else none))) else none)
theorem Zuz (p : Int) (a b : P2) : eT ZkW 58 24 Z8g [pI p, pA a, pA b] = ZcV p a b := by
 kernel_rfl
def Z75 (p : Int) (a b : P2) : P3 × Int :=
 (if ((ZK p (true) (Z3b p a b)) != 0) = true then ((0, 0, 0), (ZK p (true) (Z3b p a b))) else (if (a == b) = true then ((0, 0, 0), 5) else ((Zr p a b), 0)))
theorem Ztj (p : Int) (a b : P2) : ZcV p a b = some (Z75 p a b) := by
 unfold ZcV Z75
 (try simp only [Zz])
 repeat' (first | with_reducible rfl | refine Zv (by first | with_reducible rfl | exact Bool.true_or _ | (have hq : prB p = true := (by (with_reducible first | assumption | exact Z6A ‹_› | exact Z5W ‹_›)); first | exact hq | exact Zn0 hq | exact Z3h hq (fun _ => rfl) | exact Z3h hq (fun _ => hq) | exact and3 hq hq hq | exact Z2W hq rfl | exact map3_ok hq) | rfl) ?_ | refine Zm (fun _ => ?_) (fun _ => ?_) | rfl)
def Z8Y : RunP
 | [.v (.int .i64 p), .v (.agg ⟨[.int .i64 a0, .int .i64 a1]⟩), .v (.agg ⟨[.int .i64 b0, .int .i64 b1]⟩)] => some (true, Z9j (Z75 p (a0, a1) (b0, b1)))
 | _ => none
theorem ZfE : Sound prog 58 Z8Y := by
 refine Zd ZdY ZtU (by kernel_rfl) func58 ntmps58 rfl (by kernel_rfl) fun q r E => ?_
 unfold Z8Y at E
 split at E
 ·obtain ⟨hp, rfl⟩ := so2 E
  rename_i p a0 a1 b0 b1
  exact ⟨_, _, rfl, (Zuz p (a0, a1) (b0, b1)).trans (Ztj p (a0, a1) (b0, b1))⟩
 ·cases E

def Zlc : Sums := ⟨tblS [(97, Z3k), (181, Z4e)], tblM [], false⟩
theorem Zuc : Ze prog Zlc := ⟨Za ⟨⟨call97, Z3U⟩, ⟨call181, Z67⟩, ⟨⟩⟩, tM⟩
def Zda (p : Int) (a b : P2) : Option (P3 × Int) :=
 (if ((ZW p [a, b]) != 0) = true then some ((0, 0, 0), (ZW p [a, b])) else (if (a == b) = true then some ((0, 0, 0), 5) else (if (prB p) = true then some ((Zx p a b), 0) else none)))
theorem ZuR (p : Int) (a b : P2) : eT Zlc 147 26 Z8g [pI p, pA a, pA b] = Zda p a b := by
 kernel_rfl
def ZT (p : Int) (a b : P2) : P3 × Int :=
 (if ((ZW p [a, b]) != 0) = true then ((0, 0, 0), (ZW p [a, b])) else (if (a == b) = true then ((0, 0, 0), 5) else ((Zx p a b), 0)))
theorem ZtB (p : Int) (a b : P2) : Zda p a b = some (ZT p a b) := by
 unfold Zda ZT
 (try simp only [Zz])
 repeat' (first | with_reducible rfl | refine Zv (by (with_reducible first | assumption | exact ZbF ‹_› | exact Zce ‹_›)) ?_ | refine Zm (fun _ => ?_) (fun _ => ?_) | rfl)
def Z90 : RunP
 | [.v (.int .i64 p), .v (.agg ⟨[.int .i64 a0, .int .i64 a1]⟩), .v (.agg ⟨[.int .i64 b0, .int .i64 b1]⟩)] => some (true, Z9j (ZT p (a0, a1) (b0, b1)))
 | _ => none
theorem ZfG : Sound prog 147 Z90 := by
 refine Zd ZdY Zuc (by kernel_rfl) func147 ntmps147 rfl (by kernel_rfl) fun q r E => ?_
 unfold Z90 at E
 split at E
 ·obtain ⟨hp, rfl⟩ := so2 E
  rename_i p a0 a1 b0 b1
  exact ⟨_, _, rfl, (ZuR p (a0, a1) (b0, b1)).trans (ZtB p (a0, a1) (b0, b1))⟩
 ·cases E

def ZoW : Sums := ⟨tblS [(36, Z2R), (96, Z8H), (112, Zkz)], tblM [], false⟩
theorem Zzj : Ze prog ZoW := ⟨Za ⟨⟨call36, Z3g⟩, ⟨call96, ZaZ⟩, ⟨call112, ZBJ⟩, ⟨⟩⟩, tM⟩
def Zg2 (c0 c1 : Int) (c2 : P2) (c3 : P3) : Option (Bool) :=
 (if (Z05 c0) = true then (if (Z5 c1 c2) = true then some (Z3c c1 c3) else some false) else some false)
theorem ZAs (c0 c1 : Int) (c2 : P2) (c3 : P3) : eT ZoW 111 17 Z1M [.p [.int .i64 c0], .p [.int .i64 c1], .p [.int .i64 c2.1, .int .i64 c2.2], .p [.int .i64 c3.1, .int .i64 c3.2.1, .int .i64 c3.2.2]] = Zg2 c0 c1 c2 c3 := by
 kernel_rfl
def Z6R (c0 c1 : Int) (c2 : P2) (c3 : P3) : Bool :=
 (if (Z05 c0) = true then (if (Z5 c1 c2) = true then (Z3c c1 c3) else false) else false)
theorem Zyx (c0 c1 : Int) (c2 : P2) (c3 : P3) : Zg2 c0 c1 c2 c3 = some (Z6R c0 c1 c2 c3) := by
 unfold Zg2 Z6R
 (try simp only [Zz])
 repeat' (first | with_reducible rfl | refine Zm (fun _ => ?_) (fun _ => ?_) | rfl)
def Zfc : RunP
 | [.p [.int .i64 c0], .p [.int .i64 c1], .p [.int .i64 c20, .int .i64 c21], .p [.int .i64 c30, .int .i64 c31, .int .i64 c32]] => some (true, Z4k (Z6R c0 c1 (c20, c21) (c30, c31, c32)))
 | _ => none
theorem ZsU : Sound prog 111 Zfc := by
 refine Zd Z9i Zzj (by kernel_rfl) func111 ntmps111 rfl (by kernel_rfl) fun q r E => ?_
 unfold Zfc at E
 split at E
 ·obtain ⟨hp, rfl⟩ := so2 E
  rename_i c0 c1 c20 c21 c30 c31 c32
  exact ⟨_, _, rfl, (ZAs c0 c1 (c20, c21) (c30, c31, c32)).trans (Zyx c0 c1 (c20, c21) (c30, c31, c32))⟩
 ·cases E

def ZzI : Sums := ⟨tblS [(106, Z3e), (111, Zfc), (113, Za2), (114, Zky)], tblM [], false⟩
theorem ZHC : Ze prog ZzI := ⟨Za ⟨⟨call106, Z2S⟩, ⟨call111, ZsU⟩, ⟨call113, ZcL⟩, ⟨call114, ZsZ⟩, ⟨⟩⟩, tM⟩
def ZlW (p Z0 : Int) (a : P2) (l : P3) : Option (P2 × Int) :=
 (if ((true) || !(Z6 p)) = true then (if ((ZK p (true) (Z6R Z0 p a l)) != 0) = true then some ((0, 0), (ZK p (true) (Z6R Z0 p a l))) else (if (prB p) = true then (if (Z1Y p Z0 l) = true then some ((0, 0), 5) else (if (prB p) = true then some ((Z4H p Z0 a l), 0) else none)) else none)) else none)
theorem ZIf (p Z0 : Int) (a : P2) (l : P3) : eT ZzI 59 28 Z57 [pI p, pI Z0, pA a, pB l] = ZlW p Z0 a l := by
 kernel_rfl
def Zeq (p Z0 : Int) (a : P2) (l : P3) : P2 × Int :=
 (if ((ZK p (true) (Z6R Z0 p a l)) != 0) = true then ((0, 0), (ZK p (true) (Z6R Z0 p a l))) else (if (Z1Y p Z0 l) = true then ((0, 0), 5) else ((Z4H p Z0 a l), 0)))
theorem ZHi (p Z0 : Int) (a : P2) (l : P3) : ZlW p Z0 a l = some (Zeq p Z0 a l) := by
 unfold ZlW Zeq
 (try simp only [Zz])
 repeat' (first | with_reducible rfl | refine Zv (by first | with_reducible rfl | exact Bool.true_or _ | (have hq : prB p = true := (by (with_reducible first | assumption | exact Z6A ‹_› | exact Z5W ‹_›)); first | exact hq | exact Zn0 hq | exact Z3h hq (fun _ => rfl) | exact Z3h hq (fun _ => hq) | exact and3 hq hq hq | exact Z2W hq rfl | exact map3_ok hq) | rfl) ?_ | refine Zm (fun _ => ?_) (fun _ => ?_) | rfl)
def Zku : RunP
 | [.v (.int .i64 p), .v (.int .i64 Z0), .v (.agg ⟨[.int .i64 a0, .int .i64 a1]⟩), .v (.agg ⟨[.int .i64 l0, .int .i64 l1, .int .i64 l2]⟩)] => some (true, Z5Y (Zeq p Z0 (a0, a1) (l0, l1, l2)))
 | _ => none
theorem ZBG : Sound prog 59 Zku := by
 refine Zd Z8W ZHC (by kernel_rfl) func59 ntmps59 rfl (by kernel_rfl) fun q r E => ?_
 unfold Zku at E
 split at E
 ·obtain ⟨hp, rfl⟩ := so2 E
  rename_i p Z0 a0 a1 l0 l1 l2
  exact ⟨_, _, rfl, (ZIf p Z0 (a0, a1) (l0, l1, l2)).trans (ZHi p Z0 (a0, a1) (l0, l1, l2))⟩
 ·cases E

def Zwp : Sums := ⟨tblS [(97, Z3k), (223, Zh9)], tblM [], false⟩
theorem ZFD : Ze prog Zwp := ⟨Za ⟨⟨call97, Z3U⟩, ⟨call223, ZvC⟩, ⟨⟩⟩, tM⟩
def ZjT (p : Int) (a : P2) (l : P3) : Option (Int) :=
 (if ((ZW p [a]) != 0) = true then some (ZW p [a]) else some (Zbr p [l]))
theorem ZGs (p : Int) (a : P2) (l : P3) : eT Zwp 182 19 Z2f [pI p, pA a, pB l] = ZjT p a l := by
 kernel_rfl
def Z0J (p : Int) (a : P2) (l : P3) : Int :=
 (if ((ZW p [a]) != 0) = true then (ZW p [a]) else (Zbr p [l]))
theorem ZEc (p : Int) (a : P2) (l : P3) : ZjT p a l = some (Z0J p a l) := by
 unfold ZjT Z0J
 (try simp only [Zz])
 repeat' (first | with_reducible rfl | refine Zm (fun _ => ?_) (fun _ => ?_) | rfl)
def ZiL : RunP
 | [.v (.int .i64 p), .v (.agg ⟨[.int .i64 a0, .int .i64 a1]⟩), .v (.agg ⟨[.int .i64 l0, .int .i64 l1, .int .i64 l2]⟩)] => some (true, Z7e (Z0J p (a0, a1) (l0, l1, l2)))
 | _ => none
theorem Zyr : Sound prog 182 ZiL := by
 refine Zd Zdj ZFD (by kernel_rfl) func182 ntmps182 rfl (by kernel_rfl) fun q r E => ?_
 unfold ZiL at E
 split at E
 ·obtain ⟨hp, rfl⟩ := so2 E
  rename_i p a0 a1 l0 l1 l2
  exact ⟨_, _, rfl, (ZGs p (a0, a1) (l0, l1, l2)).trans (ZEc p (a0, a1) (l0, l1, l2))⟩
 ·cases E

theorem ZwL {p : Int} {a : P2} {l : P3} (h : ¬ (Z0J p a l != 0) = true) : prB p = true := by
 refine Zgs (Zy ?_)
 have h : Z0J p a l = 0 := by simpa using h
 cases hf : Z6 p
 ·simp [Z0J, ZW, Zbr, Z06, hf] at h
 ·rfl
theorem ZGX {p : Int} {a : P2} {l : P3} (h : (Z0J p a l == 0) = true) : prB p = true := ZwL (by simpa using h)
def Zek : Sums := ⟨tblS [(225, Z86), (224, Z4f)], tblM [], false⟩
theorem Zlz : Ze prog Zek := ⟨Za ⟨⟨call225, ZeF⟩, ⟨call224, Z68⟩, ⟨⟩⟩, tM⟩
def Z8Q (p Z0 : Int) (l m : P3) : Option (Bool) :=
 (if (prB p) = true then (if (prB p) = true then (if (prB p) = true then some ((Z04 p Z0 (Z1K p l) (Z1K p m)) == 0) else none) else none) else none)
theorem ZlC (p Z0 : Int) (l m : P3) : eT Zek 183 19 Z1M [pI p, pI Z0, pB l, pB m] = Z8Q p Z0 l m := by
 kernel_rfl
def Z0b (p Z0 : Int) (l m : P3) : Bool :=
 (Z04 p Z0 (Z1K p l) (Z1K p m)) == 0
theorem ZkR (p Z0 : Int) (l m : P3) (hp : (prB p) = true) : Z8Q p Z0 l m = some (Z0b p Z0 l m) := by
 unfold Z8Q Z0b
 (try simp only [Zz])
 repeat' (first | with_reducible rfl | with_reducible refine Zv hp ?_ | refine Zm (fun _ => ?_) (fun _ => ?_) | rfl)
def Z5g : RunP
 | [.v (.int .i64 p), .v (.int .i64 Z0), .v (.agg ⟨[.int .i64 l0, .int .i64 l1, .int .i64 l2]⟩), .v (.agg ⟨[.int .i64 m0, .int .i64 m1, .int .i64 m2]⟩)] => some (prB p, Z4k (Z0b p Z0 (l0, l1, l2) (m0, m1, m2)))
 | _ => none
theorem ZaN : Sound prog 183 Z5g := by
 refine Zd Z9i Zlz (by kernel_rfl) func183 ntmps183 rfl (by kernel_rfl) fun q r E => ?_
 unfold Z5g at E
 split at E
 ·obtain ⟨hp, rfl⟩ := so2 E
  rename_i p Z0 l0 l1 l2 m0 m1 m2
  exact ⟨_, _, rfl, (ZlC p Z0 (l0, l1, l2) (m0, m1, m2)).trans (ZkR p Z0 (l0, l1, l2) (m0, m1, m2) hp)⟩
 ·cases E

def ZzQ : Sums := ⟨tblS [(182, ZiL), (98, Z6H), (183, Z5g), (184, Ze7)], tblM [], false⟩
theorem ZHK : Ze prog ZzQ := ⟨Za ⟨⟨call182, Zyr⟩, ⟨call98, Z93⟩, ⟨call183, ZaN⟩, ⟨call184, Zlu⟩, ⟨⟩⟩, tM⟩
def Zm2 (p Z0 : Int) (a : P2) (l : P3) : Option (P2 × Int) :=
 (if ((Z0J p a l) == 0) = true then (if (!(Z2a Z0)) = true then some ((0, 0), 2) else (if ((Z0J p a l) == 0) = true then (if (prB p) = true then (if (Z0b p Z0 l l) = true then some ((0, 0), 5) else (if ((Z0J p a l) != 0) = true then some ((0, 0), (Z0J p a l)) else (if (prB p) = true then some (((Z0K p Z0 a l).1), 0) else none))) else none) else (if ((Z0J p a l) != 0) = true then some ((0, 0), (Z0J p a l)) else (if (prB p) = true then some (((Z0K p Z0 a l).1), 0) else none)))) else (if ((Z0J p a l) == 0) = true then (if (prB p) = true then (if (Z0b p Z0 l l) = true then some ((0, 0), 5) else (if ((Z0J p a l) != 0) = true then some ((0, 0), (Z0J p a l)) else (if (prB p) = true then some (((Z0K p Z0 a l).1), 0) else none))) else none) else (if ((Z0J p a l) != 0) = true then some ((0, 0), (Z0J p a l)) else (if (prB p) = true then some (((Z0K p Z0 a l).1), 0) else none))))
theorem ZIn (p Z0 : Int) (a : P2) (l : P3) : eT ZzQ 148 46 Z57 [pI p, pI Z0, pA a, pB l] = Zm2 p Z0 a l := by
 kernel_rfl
def Z5a (p Z0 : Int) (a : P2) (l : P3) : P2 × Int :=
 (if ((Z0J p a l) == 0) = true then (if (!(Z2a Z0)) = true then ((0, 0), 2) else (if ((Z0J p a l) == 0) = true then (if (Z0b p Z0 l l) = true then ((0, 0), 5) else (if ((Z0J p a l) != 0) = true then ((0, 0), (Z0J p a l)) else (((Z0K p Z0 a l).1), 0))) else (if ((Z0J p a l) != 0) = true then ((0, 0), (Z0J p a l)) else (((Z0K p Z0 a l).1), 0)))) else (if ((Z0J p a l) == 0) = true then (if (Z0b p Z0 l l) = true then ((0, 0), 5) else (if ((Z0J p a l) != 0) = true then ((0, 0), (Z0J p a l)) else (((Z0K p Z0 a l).1), 0))) else (if ((Z0J p a l) != 0) = true then ((0, 0), (Z0J p a l)) else (((Z0K p Z0 a l).1), 0))))
theorem ZHq (p Z0 : Int) (a : P2) (l : P3) : Zm2 p Z0 a l = some (Z5a p Z0 a l) := by
 unfold Zm2 Z5a
 (try simp only [Zz])
 repeat' (first | with_reducible rfl | refine Zv (by (with_reducible first | assumption | exact ZwL ‹_› | exact ZGX ‹_›)) ?_ | refine Zm (fun _ => ?_) (fun _ => ?_) | rfl)
def ZkC : RunP
 | [.v (.int .i64 p), .v (.int .i64 Z0), .v (.agg ⟨[.int .i64 a0, .int .i64 a1]⟩), .v (.agg ⟨[.int .i64 l0, .int .i64 l1, .int .i64 l2]⟩)] => some (true, Z5Y (Z5a p Z0 (a0, a1) (l0, l1, l2)))
 | _ => none
theorem ZBL : Sound prog 148 ZkC := by
 refine Zd Z8W ZHK (by kernel_rfl) func148 ntmps148 rfl (by kernel_rfl) fun q r E => ?_
 unfold ZkC at E
 split at E
 ·obtain ⟨hp, rfl⟩ := so2 E
  rename_i p Z0 a0 a1 l0 l1 l2
  exact ⟨_, _, rfl, (ZIn p Z0 (a0, a1) (l0, l1, l2)).trans (ZHq p Z0 (a0, a1) (l0, l1, l2))⟩
 ·cases E

def Zee : Sums := ⟨tblS [(37, Z2t), (120, Z7F)], tblM [], false⟩
theorem Zlx : Ze prog Zee := ⟨Za ⟨⟨call37, Z2L⟩, ⟨call120, Za9⟩, ⟨⟩⟩, tM⟩
def Z8O (c0 : Int) (c1 c2 : P2) (c3 : Int) : Option (Bool) :=
 (if (ZE c0 [c1, c2]) = true then some (Z0p c0 c3) else some false)
theorem ZlA (c0 : Int) (c1 c2 : P2) (c3 : Int) : eT Zee 119 15 Z1M [.p [.int .i64 c0], .p [.int .i64 c1.1, .int .i64 c1.2], .p [.int .i64 c2.1, .int .i64 c2.2], .p [.int .i64 c3]] = Z8O c0 c1 c2 c3 := by
 kernel_rfl
def Z1Q (c0 : Int) (c1 c2 : P2) (c3 : Int) : Bool :=
 (if (ZE c0 [c1, c2]) = true then (Z0p c0 c3) else false)
theorem ZkP (c0 : Int) (c1 c2 : P2) (c3 : Int) : Z8O c0 c1 c2 c3 = some (Z1Q c0 c1 c2 c3) := by
 unfold Z8O Z1Q
 (try simp only [Zz])
 repeat' (first | with_reducible rfl | refine Zm (fun _ => ?_) (fun _ => ?_) | rfl)
def Z82 : RunP
 | [.p [.int .i64 c0], .p [.int .i64 c10, .int .i64 c11], .p [.int .i64 c20, .int .i64 c21], .p [.int .i64 c3]] => some (true, Z4k (Z1Q c0 (c10, c11) (c20, c21) c3))
 | _ => none
theorem ZiS : Sound prog 119 Z82 := by
 refine Zd Z9i Zlx (by kernel_rfl) func119 ntmps119 rfl (by kernel_rfl) fun q r E => ?_
 unfold Z82 at E
 split at E
 ·obtain ⟨hp, rfl⟩ := so2 E
  rename_i c0 c10 c11 c20 c21 c3
  exact ⟨_, _, rfl, (ZlA c0 (c10, c11) (c20, c21) c3).trans (ZkP c0 (c10, c11) (c20, c21) c3)⟩
 ·cases E

def Zhs : Sums := ⟨tblS [(106, Z3e), (119, Z82), (121, Z8Z)], tblM [], false⟩
theorem Zpw : Ze prog Zhs := ⟨Za ⟨⟨call106, Z2S⟩, ⟨call119, ZiS⟩, ⟨call121, ZfF⟩, ⟨⟩⟩, tM⟩
def Zb4 (p : Int) (a b : P2) (t : Int) : Option (P2 × Int) :=
 (if ((true) || !(Z6 p)) = true then (if ((ZK p (true) (Z1Q p a b t)) != 0) = true then some ((0, 0), (ZK p (true) (Z1Q p a b t))) else (if (prB p) = true then some ((Z1B p a b t), 0) else none)) else none)
theorem ZpU (p : Int) (a b : P2) (t : Int) : eT Zhs 64 23 Z57 [pI p, pA a, pA b, pI t] = Zb4 p a b t := by
 kernel_rfl
def Z1H (p : Int) (a b : P2) (t : Int) : P2 × Int :=
 (if ((ZK p (true) (Z1Q p a b t)) != 0) = true then ((0, 0), (ZK p (true) (Z1Q p a b t))) else ((Z1B p a b t), 0))
theorem ZoK (p : Int) (a b : P2) (t : Int) : Zb4 p a b t = some (Z1H p a b t) := by
 unfold Zb4 Z1H
 (try simp only [Zz])
 repeat' (first | with_reducible rfl | refine Zv (by first | with_reducible rfl | exact Bool.true_or _ | (have hq : prB p = true := (by (with_reducible first | assumption | exact Z6A ‹_› | exact Z5W ‹_›)); first | exact hq | exact Zn0 hq | exact Z3h hq (fun _ => rfl) | exact Z3h hq (fun _ => hq) | exact and3 hq hq hq | exact Z2W hq rfl | exact map3_ok hq) | rfl) ?_ | refine Zm (fun _ => ?_) (fun _ => ?_) | rfl)
def Zam : RunP
 | [.v (.int .i64 p), .v (.agg ⟨[.int .i64 a0, .int .i64 a1]⟩), .v (.agg ⟨[.int .i64 b0, .int .i64 b1]⟩), .v (.int .i64 t)] => some (true, Z5Y (Z1H p (a0, a1) (b0, b1) t))
 | _ => none
theorem ZlG : Sound prog 64 Zam := by
 refine Zd Z8W Zpw (by kernel_rfl) func64 ntmps64 rfl (by kernel_rfl) fun q r E => ?_
 unfold Zam at E
 split at E
 ·obtain ⟨hp, rfl⟩ := so2 E
  rename_i p a0 a1 b0 b1 t
  exact ⟨_, _, rfl, (ZpU p (a0, a1) (b0, b1) t).trans (ZoK p (a0, a1) (b0, b1) t)⟩
 ·cases E

def Zhx : Sums := ⟨tblS [(97, Z3k), (152, Z5R), (205, Z3z), (204, Z9z), (203, ZaL)], tblM [], false⟩
theorem ZpC : Ze prog Zhx := ⟨Za ⟨⟨call97, Z3U⟩, ⟨call152, Z8b⟩, ⟨call205, Z4h⟩, ⟨call204, ZdV⟩, ⟨call203, Zfu⟩, ⟨⟩⟩, tM⟩
def Zba (p : Int) (a b : P2) (t : Int) : Option (P2 × Int) :=
 (if ((ZW p [a, b]) == 0) = true then (if ((Z00 p [t]) != 0) = true then some ((0, 0), (Z00 p [t])) else (if (prB p) = true then (if (prB p) = true then (if (prB p) = true then some ((Z0m p a (Z0X p t (Zj p b a))), 0) else none) else none) else none)) else (if ((ZW p [a, b]) != 0) = true then some ((0, 0), (ZW p [a, b])) else (if (prB p) = true then (if (prB p) = true then (if (prB p) = true then some ((Z0m p a (Z0X p t (Zj p b a))), 0) else none) else none) else none)))
theorem Zq0 (p : Int) (a b : P2) (t : Int) : eT Zhx 155 36 Z57 [pI p, pA a, pA b, pI t] = Zba p a b t := by
 kernel_rfl
def Z0M (p : Int) (a b : P2) (t : Int) : P2 × Int :=
 (if ((ZW p [a, b]) == 0) = true then (if ((Z00 p [t]) != 0) = true then ((0, 0), (Z00 p [t])) else ((Z0m p a (Z0X p t (Zj p b a))), 0)) else (if ((ZW p [a, b]) != 0) = true then ((0, 0), (ZW p [a, b])) else ((Z0m p a (Z0X p t (Zj p b a))), 0)))
theorem ZoQ (p : Int) (a b : P2) (t : Int) : Zba p a b t = some (Z0M p a b t) := by
 unfold Zba Z0M
 (try simp only [Zz])
 repeat' (first | with_reducible rfl | refine Zv (by (with_reducible first | assumption | exact ZbF ‹_› | exact Zce ‹_› | exact Zcf ‹_› | exact Zfa ‹_›)) ?_ | refine Zm (fun _ => ?_) (fun _ => ?_) | rfl)
def Zar : RunP
 | [.v (.int .i64 p), .v (.agg ⟨[.int .i64 a0, .int .i64 a1]⟩), .v (.agg ⟨[.int .i64 b0, .int .i64 b1]⟩), .v (.int .i64 t)] => some (true, Z5Y (Z0M p (a0, a1) (b0, b1) t))
 | _ => none
theorem ZlL : Sound prog 155 Zar := by
 refine Zd Z8W ZpC (by kernel_rfl) func155 ntmps155 rfl (by kernel_rfl) fun q r E => ?_
 unfold Zar at E
 split at E
 ·obtain ⟨hp, rfl⟩ := so2 E
  rename_i p a0 a1 b0 b1 t
  exact ⟨_, _, rfl, (Zq0 p (a0, a1) (b0, b1) t).trans (ZoQ p (a0, a1) (b0, b1) t)⟩
 ·cases E

def ZkY : Sums := ⟨tblS [(36, Z2R), (96, Z8H), (120, Z7F)], tblM [], false⟩
theorem ZtW : Ze prog ZkY := ⟨Za ⟨⟨call36, Z3g⟩, ⟨call96, ZaZ⟩, ⟨call120, Za9⟩, ⟨⟩⟩, tM⟩
def ZcX (c0 c1 : Int) (c2 : P2) (c3 : Int) : Option (Bool) :=
 (if (Z05 c0) = true then (if (Z5 c1 c2) = true then some (Z0p c1 c3) else some false) else some false)
theorem ZuB (c0 c1 : Int) (c2 : P2) (c3 : Int) : eT ZkY 122 17 Z1M [.p [.int .i64 c0], .p [.int .i64 c1], .p [.int .i64 c2.1, .int .i64 c2.2], .p [.int .i64 c3]] = ZcX c0 c1 c2 c3 := by
 kernel_rfl
def Z4n (c0 c1 : Int) (c2 : P2) (c3 : Int) : Bool :=
 (if (Z05 c0) = true then (if (Z5 c1 c2) = true then (Z0p c1 c3) else false) else false)
theorem Ztl (c0 c1 : Int) (c2 : P2) (c3 : Int) : ZcX c0 c1 c2 c3 = some (Z4n c0 c1 c2 c3) := by
 unfold ZcX Z4n
 (try simp only [Zz])
 repeat' (first | with_reducible rfl | refine Zm (fun _ => ?_) (fun _ => ?_) | rfl)
def Zcm : RunP
 | [.p [.int .i64 c0], .p [.int .i64 c1], .p [.int .i64 c20, .int .i64 c21], .p [.int .i64 c3]] => some (true, Z4k (Z4n c0 c1 (c20, c21) c3))
 | _ => none
theorem Zou : Sound prog 122 Zcm := by
 refine Zd Z9i ZtW (by kernel_rfl) func122 ntmps122 rfl (by kernel_rfl) fun q r E => ?_
 unfold Zcm at E
 split at E
 ·obtain ⟨hp, rfl⟩ := so2 E
  rename_i c0 c1 c20 c21 c3
  exact ⟨_, _, rfl, (ZuB c0 c1 (c20, c21) c3).trans (Ztl c0 c1 (c20, c21) c3)⟩
 ·cases E

def Zrp : Sums := ⟨tblS [(106, Z3e), (122, Zcm), (123, Z9w)], tblM [], false⟩
theorem ZCx : Ze prog Zrp := ⟨Za ⟨⟨call106, Z2S⟩, ⟨call122, Zou⟩, ⟨call123, ZdT⟩, ⟨⟩⟩, tM⟩
def ZhW (p Z0 : Int) (a : P2) (q : Int) : Option ((Nat × List Int) × Int) :=
 (if ((true) || !(Z6 p)) = true then (if ((ZK p (true) (Z4n Z0 p a q)) != 0) = true then some ((0, []), (ZK p (true) (Z4n Z0 p a q))) else (if (prB p) = true then some (((Z1R p Z0 a q).1, (Z1R p Z0 a q).2), 0) else none)) else none)
theorem ZD9 (p Z0 : Int) (a : P2) (q : Int) : eT Zrp 66 22 Z7N [pI p, pI Z0, pA a, pI q] = ZhW p Z0 a q := by
 kernel_rfl
def Z31 (p Z0 : Int) (a : P2) (q : Int) : (Nat × List Int) × Int :=
 (if ((ZK p (true) (Z4n Z0 p a q)) != 0) = true then ((0, []), (ZK p (true) (Z4n Z0 p a q))) else (((Z1R p Z0 a q).1, (Z1R p Z0 a q).2), 0))
theorem ZBY (p Z0 : Int) (a : P2) (q : Int) : ZhW p Z0 a q = some (Z31 p Z0 a q) := by
 unfold ZhW Z31
 (try simp only [Zz])
 repeat' (first | with_reducible rfl | refine Zv (by first | with_reducible rfl | exact Bool.true_or _ | (have hq : prB p = true := (by (with_reducible first | assumption | exact Z6A ‹_› | exact Z5W ‹_›)); first | exact hq | exact Zn0 hq | exact Z3h hq (fun _ => rfl) | exact Z3h hq (fun _ => hq) | exact and3 hq hq hq | exact Z2W hq rfl | exact map3_ok hq) | rfl) ?_ | refine Zm (fun _ => ?_) (fun _ => ?_) | rfl)
def Zh1 : RunP
 | [.v (.int .i64 p), .v (.int .i64 Z0), .v (.agg ⟨[.int .i64 a0, .int .i64 a1]⟩), .v (.int .i64 q)] => some (true, Z9k (Z31 p Z0 (a0, a1) q))
 | _ => none
theorem Zvu : Sound prog 66 Zh1 := by
 refine Zd Zdk ZCx (by kernel_rfl) func66 ntmps66 rfl (by kernel_rfl) fun q r E => ?_
 unfold Zh1 at E
 split at E
 ·obtain ⟨hp, rfl⟩ := so2 E
  rename_i p Z0 a0 a1 q
  exact ⟨_, _, rfl, (ZD9 p Z0 (a0, a1) q).trans (ZBY p Z0 (a0, a1) q)⟩
 ·cases E

def ZrE : Sums := ⟨tblS [(38, Z7a), (152, Z5R), (206, Zew)], tblM [], false⟩
theorem ZCM : Ze prog ZrE := ⟨Za ⟨⟨call38, Z8n⟩, ⟨call152, Z8b⟩, ⟨call206, ZiT⟩, ⟨⟩⟩, tM⟩
def Zia (p Z0 : Int) (a : P2) (q : Int) : Option ((Nat × List Int) × Int) :=
 (if ((Z0e p Z0 1 [a.1, a.2]) == 0) = true then (if ((Z00 p [q]) != 0) = true then some ((0, []), (Z00 p [q])) else (if (prB p) = true then some (((Z2D p Z0 a q).1, (Z2D p Z0 a q).2), 0) else none)) else (if ((Z0e p Z0 1 [a.1, a.2]) != 0) = true then some ((0, []), (Z0e p Z0 1 [a.1, a.2])) else (if (prB p) = true then some (((Z2D p Z0 a q).1, (Z2D p Z0 a q).2), 0) else none)))
theorem ZDo (p Z0 : Int) (a : P2) (q : Int) : eT ZrE 156 30 Z7N [pI p, pI Z0, pA a, pI q] = Zia p Z0 a q := by
 kernel_rfl
def Z2d (p Z0 : Int) (a : P2) (q : Int) : (Nat × List Int) × Int :=
 (if ((Z0e p Z0 1 [a.1, a.2]) == 0) = true then (if ((Z00 p [q]) != 0) = true then ((0, []), (Z00 p [q])) else (((Z2D p Z0 a q).1, (Z2D p Z0 a q).2), 0)) else (if ((Z0e p Z0 1 [a.1, a.2]) != 0) = true then ((0, []), (Z0e p Z0 1 [a.1, a.2])) else (((Z2D p Z0 a q).1, (Z2D p Z0 a q).2), 0)))
theorem ZCd (p Z0 : Int) (a : P2) (q : Int) : Zia p Z0 a q = some (Z2d p Z0 a q) := by
 unfold Zia Z2d
 (try simp only [Zz])
 repeat' (first | with_reducible rfl | refine Zv (by (with_reducible first | assumption | exact Zcf ‹_› | exact Zfa ‹_› | exact Zes ‹_› | exact Zkl ‹_›)) ?_ | refine Zm (fun _ => ?_) (fun _ => ?_) | rfl)
def Zh7 : RunP
 | [.v (.int .i64 p), .v (.int .i64 Z0), .v (.agg ⟨[.int .i64 a0, .int .i64 a1]⟩), .v (.int .i64 q)] => some (true, Z9k (Z2d p Z0 (a0, a1) q))
 | _ => none
theorem ZvA : Sound prog 156 Zh7 := by
 refine Zd Zdk ZCM (by kernel_rfl) func156 ntmps156 rfl (by kernel_rfl) fun q r E => ?_
 unfold Zh7 at E
 split at E
 ·obtain ⟨hp, rfl⟩ := so2 E
  rename_i p Z0 a0 a1 q
  exact ⟨_, _, rfl, (ZDo p Z0 (a0, a1) q).trans (ZCd p Z0 (a0, a1) q)⟩
 ·cases E

def Zmi : Sums := ⟨tblS [(36, Z2R), (120, Z7F)], tblM [], false⟩
theorem ZwY : Ze prog Zmi := ⟨Za ⟨⟨call36, Z3g⟩, ⟨call120, Za9⟩, ⟨⟩⟩, tM⟩
def ZeL (c0 c1 c2 : Int) : Option (Bool) :=
 (if (Z05 c0) = true then some (Z0p c1 c2) else some false)
theorem ZxC (c0 c1 c2 : Int) : eT Zmi 124 11 Z1M [.p [.int .i64 c0], .p [.int .i64 c1], .p [.int .i64 c2]] = ZeL c0 c1 c2 := by
 kernel_rfl
def Z5c (c0 c1 c2 : Int) : Bool :=
 (if (Z05 c0) = true then (Z0p c1 c2) else false)
theorem ZvL (c0 c1 c2 : Int) : ZeL c0 c1 c2 = some (Z5c c0 c1 c2) := by
 unfold ZeL Z5c
 (try simp only [Zz])
 repeat' (first | with_reducible rfl | refine Zm (fun _ => ?_) (fun _ => ?_) | rfl)
def Zdy : RunP
 | [.p [.int .i64 c0], .p [.int .i64 c1], .p [.int .i64 c2]] => some (true, Z4k (Z5c c0 c1 c2))
 | _ => none
theorem ZqF : Sound prog 124 Zdy := by
 refine Zd Z9i ZwY (by kernel_rfl) func124 ntmps124 rfl (by kernel_rfl) fun q r E => ?_
 unfold Zdy at E
 split at E
 ·obtain ⟨hp, rfl⟩ := so2 E
  rename_i c0 c1 c2
  exact ⟨_, _, rfl, (ZxC c0 c1 c2).trans (ZvL c0 c1 c2)⟩
 ·cases E

def Zwc : Sums := ⟨tblS [(106, Z3e), (124, Zdy), (123, Z9w)], tblM [], false⟩
theorem ZFo : Ze prog Zwc := ⟨Za ⟨⟨call106, Z2S⟩, ⟨call124, ZqF⟩, ⟨call123, ZdT⟩, ⟨⟩⟩, tM⟩
def ZjK (p Z0 q : Int) : Option P2 :=
 (if ((true) || !(Z6 p)) = true then (if ((ZK p (true) (Z5c Z0 p q)) != 0) = true then some (0, (ZK p (true) (Z5c Z0 p q))) else (if (prB p) = true then some ((((Z1R p Z0 (0, 0) q).1 : Nat) : Int), 0) else none)) else none)
theorem ZGd (p Z0 q : Int) : eT Zwc 68 21 Ze0 [pI p, pI Z0, pI q] = ZjK p Z0 q := by
 kernel_rfl
def Z6C (p Z0 q : Int) : Int × Int :=
 (if ((ZK p (true) (Z5c Z0 p q)) != 0) = true then (0, (ZK p (true) (Z5c Z0 p q))) else ((((Z1R p Z0 (0, 0) q).1 : Nat) : Int), 0))
theorem ZDX (p Z0 q : Int) : ZjK p Z0 q = some (Z6C p Z0 q) := by
 unfold ZjK Z6C
 (try simp only [Zz])
 repeat' (first | with_reducible rfl | refine Zv (by first | with_reducible rfl | exact Bool.true_or _ | (have hq : prB p = true := (by (with_reducible first | assumption | exact Z6A ‹_› | exact Z5W ‹_›)); first | exact hq | exact Zn0 hq | exact Z3h hq (fun _ => rfl) | exact Z3h hq (fun _ => hq) | exact and3 hq hq hq | exact Z2W hq rfl | exact map3_ok hq) | rfl) ?_ | refine Zm (fun _ => ?_) (fun _ => ?_) | rfl)
def ZiF : RunP
 | [.v (.int .i64 p), .v (.int .i64 Z0), .v (.int .i64 q)] => some (true, ZfL (Z6C p Z0 q))
 | _ => none
theorem Zyl : Sound prog 68 ZiF := by
 refine Zd ZmE ZFo (by kernel_rfl) func68 ntmps68 rfl (by kernel_rfl) fun q r E => ?_
 unfold ZiF at E
 split at E
 ·obtain ⟨hp, rfl⟩ := so2 E
  rename_i p Z0 q
  exact ⟨_, _, rfl, (ZGd p Z0 q).trans (ZDX p Z0 q)⟩
 ·cases E

def Zwm : Sums := ⟨tblS [(152, Z5R), (98, Z6H), (206, Zew)], tblM [], false⟩
theorem ZFA : Ze prog Zwm := ⟨Za ⟨⟨call152, Z8b⟩, ⟨call98, Z93⟩, ⟨call206, ZiT⟩, ⟨⟩⟩, tM⟩
def ZjR (p Z0 q : Int) : Option P2 :=
 (if ((Z00 p [q]) == 0) = true then (if (!(Z2a Z0)) = true then some (0, 2) else (if ((Z00 p [q]) != 0) = true then some (0, (Z00 p [q])) else (if (prB p) = true then some ((((Z2D p Z0 (0, 0) q).1 : Nat) : Int), 0) else none))) else (if ((Z00 p [q]) != 0) = true then some (0, (Z00 p [q])) else (if (prB p) = true then some ((((Z2D p Z0 (0, 0) q).1 : Nat) : Int), 0) else none)))
theorem ZGp (p Z0 q : Int) : eT Zwm 157 29 Ze0 [pI p, pI Z0, pI q] = ZjR p Z0 q := by
 kernel_rfl
def Z5S (p Z0 q : Int) : Int × Int :=
 (if ((Z00 p [q]) == 0) = true then (if (!(Z2a Z0)) = true then (0, 2) else (if ((Z00 p [q]) != 0) = true then (0, (Z00 p [q])) else ((((Z2D p Z0 (0, 0) q).1 : Nat) : Int), 0))) else (if ((Z00 p [q]) != 0) = true then (0, (Z00 p [q])) else ((((Z2D p Z0 (0, 0) q).1 : Nat) : Int), 0)))
theorem ZE9 (p Z0 q : Int) : ZjR p Z0 q = some (Z5S p Z0 q) := by
 unfold ZjR Z5S
 (try simp only [Zz])
 repeat' (first | with_reducible rfl | refine Zv (by (with_reducible first | assumption | exact Zcf ‹_› | exact Zfa ‹_›)) ?_ | refine Zm (fun _ => ?_) (fun _ => ?_) | rfl)
def ZiK : RunP
 | [.v (.int .i64 p), .v (.int .i64 Z0), .v (.int .i64 q)] => some (true, ZfL (Z5S p Z0 q))
 | _ => none
theorem Zyq : Sound prog 157 ZiK := by
 refine Zd ZmE ZFA (by kernel_rfl) func157 ntmps157 rfl (by kernel_rfl) fun q r E => ?_
 unfold ZiK at E
 split at E
 ·obtain ⟨hp, rfl⟩ := so2 E
  rename_i p Z0 q
  exact ⟨_, _, rfl, (ZGp p Z0 q).trans (ZE9 p Z0 q)⟩
 ·cases E

def Zgu : Sums := ⟨tblS [(37, Z2t)], tblM [], false⟩
theorem Zo5 : Ze prog Zgu := ⟨Za ⟨⟨call37, Z2L⟩, ⟨⟩⟩, tM⟩
def Zac (c0 : Int) (c1 c2 c3 : P2) : Option (Bool) :=
 some (ZE c0 [c1, c2, c3])
theorem Zob (c0 : Int) (c1 c2 c3 : P2) : eT Zgu 125 11 Z1M [.p [.int .i64 c0], .p [.int .i64 c1.1, .int .i64 c1.2], .p [.int .i64 c2.1, .int .i64 c2.2], .p [.int .i64 c3.1, .int .i64 c3.2]] = Zac c0 c1 c2 c3 := by
 kernel_rfl
def Z3a (c0 : Int) (c1 c2 c3 : P2) : Bool :=
 (ZE c0 [c1, c2, c3])
theorem ZnA (c0 : Int) (c1 c2 c3 : P2) : Zac c0 c1 c2 c3 = some (Z3a c0 c1 c2 c3) := by
 unfold Zac Z3a
 (try simp only [Zz])
 repeat' (first | with_reducible rfl | refine Zm (fun _ => ?_) (fun _ => ?_) | rfl)
def Z9u : RunP
 | [.p [.int .i64 c0], .p [.int .i64 c10, .int .i64 c11], .p [.int .i64 c20, .int .i64 c21], .p [.int .i64 c30, .int .i64 c31]] => some (true, Z4k (Z3a c0 (c10, c11) (c20, c21) (c30, c31)))
 | _ => none
theorem ZkL : Sound prog 125 Z9u := by
 refine Zd Z9i Zo5 (by kernel_rfl) func125 ntmps125 rfl (by kernel_rfl) fun q r E => ?_
 unfold Z9u at E
 split at E
 ·obtain ⟨hp, rfl⟩ := so2 E
  rename_i c0 c10 c11 c20 c21 c30 c31
  exact ⟨_, _, rfl, (Zob c0 (c10, c11) (c20, c21) (c30, c31)).trans (ZnA c0 (c10, c11) (c20, c21) (c30, c31))⟩
 ·cases E

def ZkU : Sums := ⟨tblS [(106, Z3e), (125, Z9u), (126, Zkw)], tblM [], false⟩
theorem ZtS : Ze prog ZkU := ⟨Za ⟨⟨call106, Z2S⟩, ⟨call125, ZkL⟩, ⟨call126, ZsX⟩, ⟨⟩⟩, tM⟩
def ZcT (p : Int) (a b c : P2) : Option P2 :=
 (if ((true) || !(Z6 p)) = true then (if ((ZK p (true) (Z3a p a b c)) != 0) = true then some (0, (ZK p (true) (Z3a p a b c))) else (if (prB p) = true then some ((Zcb p a b c), 0) else none)) else none)
theorem Zux (p : Int) (a b c : P2) : eT ZkU 70 22 Ze0 [pI p, pA a, pA b, pA c] = ZcT p a b c := by
 kernel_rfl
def Z8E (p : Int) (a b c : P2) : Int × Int :=
 (if ((ZK p (true) (Z3a p a b c)) != 0) = true then (0, (ZK p (true) (Z3a p a b c))) else ((Zcb p a b c), 0))
theorem Zth (p : Int) (a b c : P2) : ZcT p a b c = some (Z8E p a b c) := by
 unfold ZcT Z8E
 (try simp only [Zz])
 repeat' (first | with_reducible rfl | refine Zv (by first | with_reducible rfl | exact Bool.true_or _ | (have hq : prB p = true := (by (with_reducible first | assumption | exact Z6A ‹_› | exact Z5W ‹_›)); first | exact hq | exact Zn0 hq | exact Z3h hq (fun _ => rfl) | exact Z3h hq (fun _ => hq) | exact and3 hq hq hq | exact Z2W hq rfl | exact map3_ok hq) | rfl) ?_ | refine Zm (fun _ => ?_) (fun _ => ?_) | rfl)
def Zck : RunP
 | [.v (.int .i64 p), .v (.agg ⟨[.int .i64 a0, .int .i64 a1]⟩), .v (.agg ⟨[.int .i64 b0, .int .i64 b1]⟩), .v (.agg ⟨[.int .i64 c0, .int .i64 c1]⟩)] => some (true, ZfL (Z8E p (a0, a1) (b0, b1) (c0, c1)))
 | _ => none
theorem Zos : Sound prog 70 Zck := by
 refine Zd ZmE ZtS (by kernel_rfl) func70 ntmps70 rfl (by kernel_rfl) fun q r E => ?_
 unfold Zck at E
 split at E
 ·obtain ⟨hp, rfl⟩ := so2 E
  rename_i p a0 a1 b0 b1 c0 c1
  exact ⟨_, _, rfl, (Zux p (a0, a1) (b0, b1) (c0, c1)).trans (Zth p (a0, a1) (b0, b1) (c0, c1))⟩
 ·cases E

def Zl8 : Sums := ⟨tblS [(97, Z3k), (228, Ze6)], tblM [], false⟩
theorem Zu8 : Ze prog Zl8 := ⟨Za ⟨⟨call97, Z3U⟩, ⟨call228, Zlt⟩, ⟨⟩⟩, tM⟩
def Zd8 (p : Int) (a b c : P2) : Option P2 :=
 (if ((ZW p [a, b, c]) != 0) = true then some (0, (ZW p [a, b, c])) else (if (prB p) = true then some ((Z8L p a b c), 0) else none))
theorem ZuN (p : Int) (a b c : P2) : eT Zl8 189 25 Ze0 [pI p, pA a, pA b, pA c] = Zd8 p a b c := by
 kernel_rfl
def Z27 (p : Int) (a b c : P2) : Int × Int :=
 (if ((ZW p [a, b, c]) != 0) = true then (0, (ZW p [a, b, c])) else ((Z8L p a b c), 0))
theorem Ztx (p : Int) (a b c : P2) : Zd8 p a b c = some (Z27 p a b c) := by
 unfold Zd8 Z27
 (try simp only [Zz])
 repeat' (first | with_reducible rfl | refine Zv (by (with_reducible first | assumption | exact ZbF ‹_› | exact Zce ‹_›)) ?_ | refine Zm (fun _ => ?_) (fun _ => ?_) | rfl)
def Zcz : RunP
 | [.v (.int .i64 p), .v (.agg ⟨[.int .i64 a0, .int .i64 a1]⟩), .v (.agg ⟨[.int .i64 b0, .int .i64 b1]⟩), .v (.agg ⟨[.int .i64 c0, .int .i64 c1]⟩)] => some (true, ZfL (Z27 p (a0, a1) (b0, b1) (c0, c1)))
 | _ => none
theorem ZoC : Sound prog 189 Zcz := by
 refine Zd ZmE Zu8 (by kernel_rfl) func189 ntmps189 rfl (by kernel_rfl) fun q r E => ?_
 unfold Zcz at E
 split at E
 ·obtain ⟨hp, rfl⟩ := so2 E
  rename_i p a0 a1 b0 b1 c0 c1
  exact ⟨_, _, rfl, (ZuN p (a0, a1) (b0, b1) (c0, c1)).trans (Ztx p (a0, a1) (b0, b1) (c0, c1))⟩
 ·cases E

def ZiU : Sums := ⟨tblS [(36, Z2R), (96, Z8H)], tblM [], false⟩
theorem Zrc : Ze prog ZiU := ⟨Za ⟨⟨call36, Z3g⟩, ⟨call96, ZaZ⟩, ⟨⟩⟩, tM⟩
def ZbK (c0 c1 : Int) (c2 : P2) : Option (Bool) :=
 (if (Z05 c0) = true then some (Z5 c1 c2) else some false)
theorem Zs2 (c0 c1 : Int) (c2 : P2) : eT ZiU 131 11 Z1M [.p [.int .i64 c0], .p [.int .i64 c1], .p [.int .i64 c2.1, .int .i64 c2.2]] = ZbK c0 c1 c2 := by
 kernel_rfl
def Z3p (c0 c1 : Int) (c2 : P2) : Bool :=
 (if (Z05 c0) = true then (Z5 c1 c2) else false)
theorem ZqX (c0 c1 : Int) (c2 : P2) : ZbK c0 c1 c2 = some (Z3p c0 c1 c2) := by
 unfold ZbK Z3p
 (try simp only [Zz])
 repeat' (first | with_reducible rfl | refine Zm (fun _ => ?_) (fun _ => ?_) | rfl)
def Zbk : RunP
 | [.p [.int .i64 c0], .p [.int .i64 c1], .p [.int .i64 c20, .int .i64 c21]] => some (true, Z4k (Z3p c0 c1 (c20, c21)))
 | _ => none
theorem Znl : Sound prog 131 Zbk := by
 refine Zd Z9i Zrc (by kernel_rfl) func131 ntmps131 rfl (by kernel_rfl) fun q r E => ?_
 unfold Zbk at E
 split at E
 ·obtain ⟨hp, rfl⟩ := so2 E
  rename_i c0 c1 c20 c21
  exact ⟨_, _, rfl, (Zs2 c0 c1 (c20, c21)).trans (ZqX c0 c1 (c20, c21))⟩
 ·cases E

def ZiV : Sums := ⟨tblS [(113, Za2)], tblM [], false⟩
theorem Zrd : Ze prog ZiV := ⟨Za ⟨⟨call113, ZcL⟩, ⟨⟩⟩, tM⟩
def ZbL (l : P3) (c0 c1 : Int) : Option (Bool) :=
 (if (prB c0) = true then some (Z1Y c0 c1 l) else none)
theorem Zs3 (l : P3) (c0 c1 : Int) : eT ZiV 133 9 Z1M [pB l, .p [.int .i64 c0], .p [.int .i64 c1]] = ZbL l c0 c1 := by
 kernel_rfl
def Z4E (l : P3) (c0 c1 : Int) : Bool :=
 (Z1Y c0 c1 l)
theorem ZqY (l : P3) (c0 c1 : Int) (hp : (prB c0) = true) : ZbL l c0 c1 = some (Z4E l c0 c1) := by
 unfold ZbL Z4E
 (try simp only [Zz])
 repeat' (first | with_reducible rfl | with_reducible refine Zv hp ?_ | refine Zm (fun _ => ?_) (fun _ => ?_) | rfl)
def Zbl : RunP
 | [.v (.agg ⟨[.int .i64 l0, .int .i64 l1, .int .i64 l2]⟩), .p [.int .i64 c0], .p [.int .i64 c1]] => some (prB c0, Z4k (Z4E (l0, l1, l2) c0 c1))
 | _ => none
theorem Znm : Sound prog 133 Zbl := by
 refine Zd Z9i Zrd (by kernel_rfl) func133 ntmps133 rfl (by kernel_rfl) fun q r E => ?_
 unfold Zbl at E
 split at E
 ·obtain ⟨hp, rfl⟩ := so2 E
  rename_i l0 l1 l2 c0 c1
  exact ⟨_, _, rfl, (Zs3 (l0, l1, l2) c0 c1).trans (ZqY (l0, l1, l2) c0 c1 hp)⟩
 ·cases E

def ZaA : Sums := ⟨tblS [(176, Z83)], tblM [], false⟩
theorem Zzq : Ze prog ZaA := ⟨Za ⟨⟨call176, ZeD⟩, ⟨⟩⟩, tM⟩
def Zxq (p : Int) (a : P2) (ZJ : P3 -> Bool) (Zw : P3 -> Bool) (l10 : List Int) (m10 : Nat) (t15 : Int) : Tab := ⟨[vI (p), .val (.agg ⟨[.int .i64 a.1, .int .i64 a.2]⟩), .fn (Zj7 ZJ Zw), jK, .ptr 16 0, jK, .val (.slice none 0 0), .row 40, jK, jK, jK, vI (p), .val (.agg ⟨[.int .i64 a.1, .int .i64 a.2]⟩), .row 52, vI ((((ZL p a).1 : Nat) : Int)), vI (t15), ] ++ (jN 11 ++ [jK]), [(16, .box 25 [vI (a.1), vI (a.2)]), (40, .row 90 3 m10 (.ints l10)), (52, .row 90 3 ((ZL p a).1) (.ints ((ZL p a).2)))]⟩
def Z6r (P : Program) (fu : Nat) (p : Int) (a : P2) (ZJ : P3 -> Bool) (Zw : P3 -> Bool) (f : Nat) (l10 : List Int) (m10 : Nat) (t15 : Int) : Option (Nat × List Int) := Z1u (exec P ZaA 28 (fun _ => fu + 100) (Code.sub [1, 1, 0, 1, 0, 0] (ZS P 132))) f (Zxq p a ZJ Zw l10 m10 t15) (Z0g 0 (kSeq (fun zs9 => exec P ZaA 28 (fun _ => fu + 100) (Code.sub [1, 1, 1] (ZS P 132)) zs9 (finT P 132 Z8C)) (finT P 132 Z8C)))
def Z6i (p : Int) (a : P2) (ZJ : P3 -> Bool) (Zw : P3 -> Bool) (Z1F : (List Int) -> Nat -> Int -> Option (Nat × List Int)) (l10 : List Int) (m10 : Nat) (t15 : Int) : Option (Nat × List Int) :=
 (if (decide (t15 < (((ZL p a).1 : Nat) : Int))) = true then (if (decide (0 <= t15) && decide (t15 < (((ZL p a).1 : Nat) : Int))) = true then (if (Nat.ble (t15.toNat * 3 + 3) (((ZL p a).2).length)) = true then (if (ZJ (((ZL p a).2).getD (t15.toNat * 3 + 0) 0, ((ZL p a).2).getD (t15.toNat * 3 + 1) 0, ((ZL p a).2).getD (t15.toNat * 3 + 2) 0)) = true then (if (Zw (((ZL p a).2).getD (t15.toNat * 3 + 0) 0, ((ZL p a).2).getD (t15.toNat * 3 + 1) 0, ((ZL p a).2).getD (t15.toNat * 3 + 2) 0)) = true then (if (Nat.ble 0 1 && Nat.ble (m10 + 1) 2000000 && Nat.beq 3 (3)) = true then Z1F (l10 ++ [((ZL p a).2).getD (t15.toNat * 3 + 0) 0, ((ZL p a).2).getD (t15.toNat * 3 + 1) 0, ((ZL p a).2).getD (t15.toNat * 3 + 2) 0]) (m10 + 1) (wI (t15 + 1)) else none) else Z1F l10 m10 (wI (t15 + 1))) else none) else none) else none) else some (m10, l10))
def Z2T (fu : Nat) (p : Int) (a : P2) (ZJ : P3 -> Bool) (Zw : P3 -> Bool) : Nat -> (List Int) -> Nat -> Int -> Option (Nat × List Int)
 | 0, _, _, _ => none
 | f + 1, l10, m10, t15 => Z6i p a ZJ Zw (Z2T fu p a ZJ Zw f) l10 m10 t15
theorem Zqk (fu : Nat) (p : Int) (a : P2) (ZJ : P3 -> Bool) (Zw : P3 -> Bool) : ∀ (f : Nat) (l10 : List Int) (m10 : Nat) (t15 : Int), Z6r prog fu p a ZJ Zw f l10 m10 t15 = Z2T fu p a ZJ Zw f l10 m10 t15 := by
 intro f
 induction f with
 | zero => intros; rfl
 | succ f ih =>
  intro l10 m10 t15
  have h1 : Z6r prog fu p a ZJ Zw (f + 1) l10 m10 t15 = Z6i p a ZJ Zw (Z6r prog fu p a ZJ Zw f) l10 m10 t15 := by kernel_rfl
  have h2 : Z6r prog fu p a ZJ Zw f = Z2T fu p a ZJ Zw f := by funext l10 m10 t15; exact ih l10 m10 t15
  rw [h1, h2]
  rfl
def Zir (p : Int) (a : P2) (ZJ : P3 -> Bool) (Zw : P3 -> Bool) (lo0 : (List Int) -> Nat -> Int -> Option (Nat × List Int)) : Option (Nat × List Int) :=
 (if (prB p) = true then lo0 [] 0 0 else none)
def Zg8 (fu : Nat) (p : Int) (a : P2) (ZJ : P3 -> Bool) (Zw : P3 -> Bool) : Option (Nat × List Int) := Zir p a ZJ Zw (Z2T fu p a ZJ Zw (fu + 100))
theorem ZAz (fu : Nat) (p : Int) (a : P2) (ZJ : P3 -> Bool) (Zw : P3 -> Bool) : eF fu ZaA 132 28 Z8C [pI p, pA a, .f (Zj7 ZJ Zw)] = Zg8 fu p a ZJ Zw := by
 have h1 : eF fu ZaA 132 28 Z8C [pI p, pA a, .f (Zj7 ZJ Zw)] = Zir p a ZJ Zw (Z6r prog fu p a ZJ Zw (fu + 100)) := by kernel_rfl
 have c0 : Z6r prog fu p a ZJ Zw (fu + 100) = Z2T fu p a ZJ Zw (fu + 100) := by funext l10 m10 t15; exact Zqk fu p a ZJ Zw (fu + 100) l10 m10 t15
 rw [h1, c0]
 rfl
def Z9o (p : Int) (a : P2) (ZJ Zw : P3 -> Bool) : Nat × List Int := (((Z0c p a).filter Zw).length, Z1i ((Z0c p a).filter Zw))
theorem Zy6 (p : Int) (a : P2) (ZJ Zw : P3 -> Bool) (hp : prB p = true) (key : ∀ k, k < (Z0c p a).length -> ZJ (R3 (Z1i (Z0c p a)) k) = true) {F : Nat} (hF : 993 < F) : Z2T 1000000 p a ZJ Zw F [] 0 0 = some (((Z0c p a).filter Zw).length, Z1i ((Z0c p a).filter Zw)) := by
 have Z4X : (Z0c p a).length <= 993 := Zqe hp a
 exact gather (flat := Z1i) ZuY rfl (L := fun f l m i => Z2T 1000000 p a ZJ Zw f l m i) (n := (Z0c p a).length) (b := 1) (M := 0) (fun k => if Zw (R3 (Z1i (Z0c p a)) k) = true then [R3 (Z1i (Z0c p a)) k] else []) (K := (some (((Z0c p a).filter Zw).length, Z1i ((Z0c p a).filter Zw)))) (l := []) (m := 0) (F := F) (by intro k hk; first | (split <;> simp) | simp_all)
  (fun f k l m hk hm => by
   show Z6i p a ZJ Zw (Z2T 1000000 p a ZJ Zw f) l m (k : Int) = _
   unfold Z6i
   have x0 : ZJ ((Z1i (Z0c p a)).getD (k * 3 + 0) 0, (Z1i (Z0c p a)).getD (k * 3 + 1) 0, (Z1i (Z0c p a)).getD (k * 3 + 2) 0) = true := key k hk
   have e0 : decide (0 <= (k : Int)) = true := by simp
   have e1 := cnd hk
   have e3 : (k : Int).toNat = k := Int.toNat_natCast k
   have e4 := ZM5 (Z5O _) hk
   have e5 : Nat.ble 1 1 = true := rfl
   have e6 : Nat.ble (m + 1) 2000000 = true := leb (by omega)
   rw [show ZL p a = ((Z0c p a).length, Z1i (Z0c p a)) from rfl]
   simp only [e0, e1, e3, e4, e5, e6, ZQA, x0, Bool.and_true, Bool.true_and, if_true, Z4j hk (by omega)]
   have hq0 : (Zw ((Z1i (Z0c p a)).getD (k * 3 + 0) 0, (Z1i (Z0c p a)).getD (k * 3 + 1) 0, (Z1i (Z0c p a)).getD (k * 3 + 2) 0)) = (Zw (R3 (Z1i (Z0c p a)) k)) := rfl
   try rw [hq0]
   generalize (Zw (R3 (Z1i (Z0c p a)) k)) = c0
   cases c0 <;> first
    | rfl
    | (
      simp only [Bool.false_eq_true, Bool.false_and, Bool.and_false, Bool.true_and, if_false, if_true]
      rw [show Z1i [] = [] from rfl, List.append_nil]
      rfl))
  (fun f hm => by
   show Z6i p a ZJ Zw (Z2T 1000000 p a ZJ Zw f) ([] ++ Z1i ((List.range (Z0c p a).length).flatMap (fun k => if Zw (R3 (Z1i (Z0c p a)) k) = true then [R3 (Z1i (Z0c p a)) k] else []))) (0 + ((List.range (Z0c p a).length).flatMap (fun k => if Zw (R3 (Z1i (Z0c p a)) k) = true then [R3 (Z1i (Z0c p a)) k] else [])).length) (((Z0c p a).length : Nat) : Int) = _
   unfold Z6i
   have hkp : ((List.range ((Z0c p a).length)).flatMap fun k => if Zw (R3 (Z1i (Z0c p a)) k) = true then [R3 (Z1i (Z0c p a)) k] else []) = (Znb ((Z0c p a).length) (Z1i (Z0c p a))).filter (fun zz => Zw zz) := ZQI ((Z0c p a).length) (Z1i (Z0c p a)) (fun zz => Zw zz)
   rw [show ZL p a = ((Z0c p a).length, Z1i (Z0c p a)) from rfl]
   rw [if_neg (by simp), hkp, ZJj]
   simp) (by omega) (Nat.le_refl _)
theorem ZyE (p : Int) (a : P2) (ZJ : P3 -> Bool) (Zw : P3 -> Bool) (hp : (prB p && (Z0c p a).all ZJ) = true) : Zg8 1000000 p a ZJ Zw = some (Z9o p a ZJ Zw) := by
 simp only [Bool.and_eq_true] at hp
 obtain ⟨hp, hall⟩ := hp
 have ZQP : ∀ k, k < (Z0c p a).length -> ZJ (R3 (Z1i (Z0c p a)) k) = true := by
  intro k hk
  rw [ZyX, List.getD_eq_getElem?_getD, List.getElem?_eq_getElem hk]
  exact List.all_eq_true.1 hall _ (List.getElem_mem hk)
 unfold Zg8 Zir
 rw [if_pos hp]
 exact Zy6 p a ZJ Zw hp ZQP (by omega)
def Zfh : RunP
 | [.v (.int .i64 p), .v (.agg ⟨[.int .i64 a0, .int .i64 a1]⟩), .f Z43] => some (prB p && (Z0c p (a0, a1)).all (fun a0 => okV (Z43 [.agg ⟨[.int .i64 a0.1, .int .i64 a0.2.1, .int .i64 a0.2.2]⟩])), Zuw (Z9o p (a0, a1) (fun a0 => okV (Z43 [.agg ⟨[.int .i64 a0.1, .int .i64 a0.2.1, .int .i64 a0.2.2]⟩])) (fun a0 => Zen (Z43 [.agg ⟨[.int .i64 a0.1, .int .i64 a0.2.1, .int .i64 a0.2.2]⟩]))))
 | _ => none
theorem Zt1 : Sound prog 132 Zfh := by
 refine ZjF ZIc Zzq (by kernel_rfl) func132 ntmps132 rfl (by kernel_rfl) ?_
 intro W pvs avs rs hargs hrun
 unfold Zfh at hrun
 split at hrun
 ·simp only [Option.some.injEq, Prod.mk.injEq] at hrun
  obtain ⟨hp, rfl⟩ := hrun
  rename_i p a0 a1 Z43
  have hargs := All2.replace (l1 := [_, _]) hargs (y := .f (Zj7 _ _)) fun b hb => ZnJ hb (ZI6 _)
  exact ⟨_, _, _, hargs, rfl, (ZAz _ p (a0, a1) (fun a0 => okV (Z43 [.agg ⟨[.int .i64 a0.1, .int .i64 a0.2.1, .int .i64 a0.2.2]⟩])) (fun a0 => Zen (Z43 [.agg ⟨[.int .i64 a0.1, .int .i64 a0.2.1, .int .i64 a0.2.2]⟩]))).trans (ZyE p (a0, a1) (fun a0 => okV (Z43 [.agg ⟨[.int .i64 a0.1, .int .i64 a0.2.1, .int .i64 a0.2.2]⟩])) (fun a0 => Zen (Z43 [.agg ⟨[.int .i64 a0.1, .int .i64 a0.2.1, .int .i64 a0.2.2]⟩])) hp)⟩
 ·cases hrun

def ZoX : Sums := ⟨tblS [(106, Z3e), (131, Zbk), (132, Zfh), (133, Zbl)], tblM [], false⟩
theorem Zzk : Ze prog ZoX := ⟨Za ⟨⟨call106, Z2S⟩, ⟨call131, Znl⟩, ⟨call132, Zt1⟩, ⟨call133, Znm⟩, ⟨⟩⟩, tM⟩
def Zg3 (p Z0 : Int) (a : P2) : Option ((Nat × List Int) × Int) :=
 (if ((true) || !(Z6 p)) = true then (if ((ZK p (true) (Z3p Z0 p a)) != 0) = true then some ((0, []), (ZK p (true) (Z3p Z0 p a))) else (if (prB p && (Z0c p a).all (fun a0 => prB p)) = true then some (((Z9o p a (fun a0 => prB p) (fun a0 => Z4E a0 p Z0)).1, (Z9o p a (fun a0 => prB p) (fun a0 => Z4E a0 p Z0)).2), 0) else none)) else none)
theorem ZAt (p Z0 : Int) (a : P2) : eT ZoX 74 19 Z5o [pI p, pI Z0, pA a] = Zg3 p Z0 a := by
 kernel_rfl
def ZbC (p Z0 : Int) (a : P2) : (Nat × List Int) × Int :=
 (if ((ZK p (true) (Z3p Z0 p a)) != 0) = true then ((0, []), (ZK p (true) (Z3p Z0 p a))) else (((Z9o p a (fun a0 => prB p) (fun a0 => Z4E a0 p Z0)).1, (Z9o p a (fun a0 => prB p) (fun a0 => Z4E a0 p Z0)).2), 0))
theorem Zyy (p Z0 : Int) (a : P2) : Zg3 p Z0 a = some (ZbC p Z0 a) := by
 unfold Zg3 ZbC
 (try simp only [Zz])
 repeat' (first | with_reducible rfl | refine Zv (by first | with_reducible rfl | exact Bool.true_or _ | (have hq : prB p = true := (by (with_reducible first | assumption | exact Z6A ‹_› | exact Z5W ‹_›)); first | exact hq | exact Zn0 hq | exact Z3h hq (fun _ => rfl) | exact Z3h hq (fun _ => hq) | exact and3 hq hq hq | exact Z2W hq rfl | exact map3_ok hq) | rfl) ?_ | refine Zm (fun _ => ?_) (fun _ => ?_) | rfl)
def Zfd : RunP
 | [.v (.int .i64 p), .v (.int .i64 Z0), .v (.agg ⟨[.int .i64 a0, .int .i64 a1]⟩)] => some (true, ZbB (ZbC p Z0 (a0, a1)))
 | _ => none
theorem ZsV : Sound prog 74 Zfd := by
 refine Zd ZgE Zzk (by kernel_rfl) func74 ntmps74 rfl (by kernel_rfl) fun q r E => ?_
 unfold Zfd at E
 split at E
 ·obtain ⟨hp, rfl⟩ := so2 E
  rename_i p Z0 a0 a1
  exact ⟨_, _, rfl, (ZAt p Z0 (a0, a1)).trans (Zyy p Z0 (a0, a1))⟩
 ·cases E

def ZaB : Sums := ⟨tblS [(38, Z7a), (222, Z8i), (183, Z5g)], tblM [], false⟩
theorem Zzx : Ze prog ZaB := ⟨Za ⟨⟨call38, Z8n⟩, ⟨call222, ZcN⟩, ⟨call183, ZaN⟩, ⟨⟩⟩, tM⟩
def Zxu (p Z0 : Int) (a : P2) (l20 : List Int) (m20 : Nat) (i : Int) : Tab := ⟨[vI (p), vI (Z0), .val (.agg ⟨[.int .i64 a.1, .int .i64 a.2]⟩), jK, jK, .ptr 20 0, .val (.slice none 0 0), vI (0), vI ((Z0e p Z0 1 [a.1, a.2])), .row 80, vI (i), jK, vI (p), vI (Z0), .val (.agg ⟨[.int .i64 a.1, .int .i64 a.2]⟩), .row 60, vI ((Z0e p Z0 1 [a.1, a.2])), vI ((Z0e p Z0 1 [a.1, a.2])), vB (((Z0e p Z0 1 [a.1, a.2]) != 0)), ] ++ (jN 34 ++ [jK]), [(20, .box 25 [vI (a.1), vI (a.2)]), (60, .row 25 2 1 (.ints [a.1, a.2])), (80, .row 90 3 m20 (.ints l20))]⟩
def Z6v (P : Program) (fu : Nat) (p Z0 : Int) (a : P2) (f : Nat) (l20 : List Int) (m20 : Nat) (i : Int) : Option ((Nat × List Int) × Int) := Z1u (exec P ZaB 54 (fun _ => fu + 100) (Code.sub [1, 1, 1, 0, 1, 0, 0] (ZS P 239))) f (Zxu p Z0 a l20 m20 i) (Z0g 0 (kSeq (fun zs9 => exec P ZaB 54 (fun _ => fu + 100) (Code.sub [1, 1, 1, 1] (ZS P 239)) zs9 (finT P 239 Z5o)) (finT P 239 Z5o)))
def Z3G (p Z0 : Int) (a : P2) (Z1F : (List Int) -> Nat -> Int -> Option ((Nat × List Int) × Int)) (l20 : List Int) (m20 : Nat) (i : Int) : Option ((Nat × List Int) × Int) :=
 (if (decide (i < p)) = true then (if (prB p) = true then (if (decide (i ≥ 0)) = true then (if (prB p) = true then (if (prB p) = true then (if (Z0b p Z0 (ZP p 1 i (wI (0 - (wI (a.1 + (wI (i * a.2))))))) (ZP p 1 i (wI (0 - (wI (a.1 + (wI (i * a.2)))))))) = true then (if (Nat.ble 0 1 && Nat.ble (m20 + 1) 2000000 && Nat.beq 3 (3)) = true then Z1F (l20 ++ [(ZP p 1 i (wI (0 - (wI (a.1 + (wI (i * a.2))))))).1, (ZP p 1 i (wI (0 - (wI (a.1 + (wI (i * a.2))))))).2.1, (ZP p 1 i (wI (0 - (wI (a.1 + (wI (i * a.2))))))).2.2]) (m20 + 1) (wI (i + 1)) else none) else Z1F l20 m20 (wI (i + 1))) else none) else none) else (if (prB p) = true then (if (Z0b p Z0 (ZP p 0 1 (wI (0 - a.2))) (ZP p 0 1 (wI (0 - a.2)))) = true then (if (Nat.ble 0 1 && Nat.ble (m20 + 1) 2000000 && Nat.beq 3 (3)) = true then Z1F (l20 ++ [(ZP p 0 1 (wI (0 - a.2))).1, (ZP p 0 1 (wI (0 - a.2))).2.1, (ZP p 0 1 (wI (0 - a.2))).2.2]) (m20 + 1) (wI (i + 1)) else none) else Z1F l20 m20 (wI (i + 1))) else none)) else none) else some ((m20, l20), 0))
def Z2r (fu : Nat) (p Z0 : Int) (a : P2) : Nat -> (List Int) -> Nat -> Int -> Option ((Nat × List Int) × Int)
 | 0, _, _, _ => none
 | f + 1, l20, m20, i => Z3G p Z0 a (Z2r fu p Z0 a f) l20 m20 i
theorem Zqo (fu : Nat) (p Z0 : Int) (a : P2) : ∀ (f : Nat) (l20 : List Int) (m20 : Nat) (i : Int), Z6v prog fu p Z0 a f l20 m20 i = Z2r fu p Z0 a f l20 m20 i := by
 intro f
 induction f with
 | zero => intros; rfl
 | succ f ih =>
  intro l20 m20 i
  have h1 : Z6v prog fu p Z0 a (f + 1) l20 m20 i = Z3G p Z0 a (Z6v prog fu p Z0 a f) l20 m20 i := by kernel_rfl
  have h2 : Z6v prog fu p Z0 a f = Z2r fu p Z0 a f := by funext l20 m20 i; exact ih l20 m20 i
  rw [h1, h2]
  rfl
def Zit (p Z0 : Int) (a : P2) (lo0 : (List Int) -> Nat -> Int -> Option ((Nat × List Int) × Int)) : Option ((Nat × List Int) × Int) :=
 (if ((Z0e p Z0 1 [a.1, a.2]) != 0) = true then some ((0, []), (Z0e p Z0 1 [a.1, a.2])) else lo0 [] 0 (-1))
def Zgb (fu : Nat) (p Z0 : Int) (a : P2) : Option ((Nat × List Int) × Int) := Zit p Z0 a (Z2r fu p Z0 a (fu + 100))
theorem ZAG (fu : Nat) (p Z0 : Int) (a : P2) : eF fu ZaB 239 54 Z5o [pI p, pI Z0, pA a] = Zgb fu p Z0 a := by
 have h1 : eF fu ZaB 239 54 Z5o [pI p, pI Z0, pA a] = Zit p Z0 a (Z6v prog fu p Z0 a (fu + 100)) := by kernel_rfl
 have c0 : Z6v prog fu p Z0 a (fu + 100) = Z2r fu p Z0 a (fu + 100) := by funext l20 m20 i; exact Zqo fu p Z0 a (fu + 100) l20 m20 i
 rw [h1, c0]
 rfl
def Zqt (p Z0 : Int) (a : P2) : List P3 := (((ZP p 0 1 (wI (0 - a.2))) :: (List.range p.toNat).map fun k : Nat => ZP p 1 (k : Int) (wI (0 - (wI (a.1 + (wI ((k : Int) * a.2)))))))).filter fun zz => Z0b p Z0 zz zz
def Z1x (p Z0 : Int) (a : P2) : (Nat × List Int) × Int := if ((Z0e p Z0 1 [a.1, a.2]) != 0) = true then ((0, []), (Z0e p Z0 1 [a.1, a.2])) else (((Zqt p Z0 a).length, Z1i (Zqt p Z0 a)), 0)
theorem ZJ6 {p : Int} (hp : prB p = true) (Z0 : Int) (a : P2) {F m : Nat} {l : List Int} (hF : p.toNat < F) (hm : m <= 1) : Z2r 1000000 p Z0 a F l m 0 = some ((m + (((List.range p.toNat).map fun k : Nat => ZP p 1 (k : Int) (wI (0 - (wI (a.1 + (wI ((k : Int) * a.2))))))).filter fun zz => Z0b p Z0 zz zz).length, l ++ Z1i (((List.range p.toNat).map fun k : Nat => ZP p 1 (k : Int) (wI (0 - (wI (a.1 + (wI ((k : Int) * a.2))))))).filter fun zz => Z0b p Z0 zz zz)), 0) := by
 obtain ⟨h1, h0, hpn⟩ := Zci hp
 have hg : ((List.range p.toNat).flatMap fun k : Nat => if Z0b p Z0 (ZP p 1 (k : Int) (wI (0 - (wI (a.1 + (wI ((k : Int) * a.2))))))) (ZP p 1 (k : Int) (wI (0 - (wI (a.1 + (wI ((k : Int) * a.2))))))) = true then [ZP p 1 (k : Int) (wI (0 - (wI (a.1 + (wI ((k : Int) * a.2))))))] else []) = (((List.range p.toNat).map fun k : Nat => ZP p 1 (k : Int) (wI (0 - (wI (a.1 + (wI ((k : Int) * a.2))))))).filter fun zz => Z0b p Z0 zz zz) := by
  rw [<- ZhJ, List.flatMap_map]
 rw [<- hg]
 refine gather (flat := Z1i) ZuY rfl (L := fun f l m i => Z2r 1000000 p Z0 a f l m i) (n := p.toNat) (b := 1) (M := 1) (fun k : Nat => if Z0b p Z0 (ZP p 1 (k : Int) (wI (0 - (wI (a.1 + (wI ((k : Int) * a.2))))))) (ZP p 1 (k : Int) (wI (0 - (wI (a.1 + (wI ((k : Int) * a.2))))))) = true then [ZP p 1 (k : Int) (wI (0 - (wI (a.1 + (wI ((k : Int) * a.2))))))] else []) (F := F) (by intro k hk; split <;> simp)
  (fun f k l m hk hm => by
   show Z3G p Z0 a (Z2r 1000000 p Z0 a f) l m (k : Int) = _
   unfold Z3G
   have e2 : decide ((k : Int) ≥ 0) = true := by simp
   have e6 : (Nat.ble 0 1 && Nat.ble (m + 1) 2000000 && Nat.beq 3 3) = true := by simp; omega
   simp only [cndp hk, hp, e2, e6, if_true, Z4j hk (by omega)]
   generalize ZP p 1 (k : Int) (wI (0 - (wI (a.1 + (wI ((k : Int) * a.2)))))) = Z
   cases Z0b p Z0 Z Z
   ·simp only [Bool.false_eq_true, if_false]
    rw [show Z1i [] = [] from rfl, List.append_nil]
    rfl
   ·simp only [if_true]
    rfl)
  (fun f hm => by
   show Z3G p Z0 a (Z2r 1000000 p Z0 a f) _ _ ((p.toNat : Nat) : Int) = _
   unfold Z3G
   rw [if_neg (by simp; omega)]) hF hm
theorem ZyL (p Z0 : Int) (a : P2) : Zgb 1000000 p Z0 a = some (Z1x p Z0 a) := by
 unfold Zgb Zit Z1x
 refine Zm (fun _ => rfl) (fun hc => ?_)
 have hp : prB p = true := Zes hc
 obtain ⟨h1, h0, hpn⟩ := Zci hp
 show Z3G p Z0 a (Z2r 1000000 p Z0 a _) [] 0 (-1) = _
 unfold Z3G
 have e1 : decide ((-1 : Int) < p) = true := by simp; omega
 have e2 : decide ((-1 : Int) ≥ 0) = false := by decide
 have e3 : (Nat.ble 0 1 && Nat.ble (0 + 1) 2000000 && Nat.beq 3 3) = true := rfl
 have e4 : wI (-1 + 1) = 0 := by rw [Zz]; unfold wrap64; omega
 simp only [e1, hp, e2, e3, e4, if_true, Bool.false_eq_true, if_false]
 unfold Zqt
 rw [List.filter_cons]
 cases hq : Z0b p Z0 (ZP p 0 1 (wI (0 - a.2))) (ZP p 0 1 (wI (0 - a.2)))
 ·simp only [Bool.false_eq_true, if_false]
  rw [ZJ6 hp Z0 a (by omega) (by omega)]
  simp
 ·simp only [if_true]
  rw [ZJ6 hp Z0 a (by omega) (by omega), List.length_cons, Nat.add_comm]
  rfl
def Zfl : RunP
 | [.v (.int .i64 p), .v (.int .i64 Z0), .v (.agg ⟨[.int .i64 a0, .int .i64 a1]⟩)] => some (true, ZbB (Z1x p Z0 (a0, a1)))
 | _ => none
theorem Zt7 : Sound prog 239 Zfl := by
 refine Zd ZgE Zzx (by kernel_rfl) func239 ntmps239 rfl (by kernel_rfl) fun q r E => ?_
 unfold Zfl at E
 split at E
 ·obtain ⟨hp, rfl⟩ := so2 E
  rename_i p Z0 a0 a1
  exact ⟨_, _, rfl, (ZAG _ p Z0 (a0, a1)).trans (ZyL p Z0 (a0, a1))⟩
 ·cases E

end

end Go.Proofs.YtcdpfpfbilfpoaaGreatDoor
