import Derived.Test.YtcdpfpfbilfpoaaGreatDoorFa
import Derived.Test.YtcdpfpfbilfpoaaGreatDoorProg
set_option linter.unusedSimpArgs false
set_option linter.unusedVariables false
namespace Go.Proofs.YtcdpfpfbilfpoaaGreatDoor
open Go.RowKit Tryz
noncomputable section
def Zwh : Sums := ⟨tblS [(128, ZdD), (129, Z8I)], tblM [], false⟩
theorem ZFv : Ze prog Zwh := ⟨Za ⟨⟨call128, ZfR⟩, ⟨call129, Zb0⟩, ⟨⟩⟩, tM⟩
def ZjO (p Z0 : Int) (a b c : P2) : Option (Bool) :=
 (if (prB p) = true then (if (prB p) = true then (if (prB p) = true then some ((Z2z p Z0 (Z44 p b a) (Z44 p c a)) == 0) else none) else none) else none)
theorem ZGk (p Z0 : Int) (a b c : P2) : eT Zwh 75 23 Z1M [pI p, pI Z0, pA a, pA b, pA c] = ZjO p Z0 a b c := by
 kernel_rfl
def Z6E (p Z0 : Int) (a b c : P2) : Bool :=
 (Z2z p Z0 (Z44 p b a) (Z44 p c a)) == 0
theorem ZE4 (p Z0 : Int) (a b c : P2) (hp : (prB p) = true) : ZjO p Z0 a b c = some (Z6E p Z0 a b c) := by
 unfold ZjO Z6E
 (try simp only [Zz])
 repeat' (first | with_reducible rfl | with_reducible refine Zv hp ?_ | refine Zm (fun _ => ?_) (fun _ => ?_) | rfl)
def Ze5 : RunP
 | [.v (.int .i64 p), .v (.int .i64 Z0), .v (.agg ⟨[.int .i64 a0, .int .i64 a1]⟩), .v (.agg ⟨[.int .i64 b0, .int .i64 b1]⟩), .v (.agg ⟨[.int .i64 c0, .int .i64 c1]⟩)] => some (prB p, Z4k (Z6E p Z0 (a0, a1) (b0, b1) (c0, c1)))
 | _ => none
theorem Zls : Sound prog 75 Ze5 := by
 refine Zd Z9i ZFv (by kernel_rfl) func75 ntmps75 rfl (by kernel_rfl) fun q r E => ?_
 unfold Ze5 at E
 split at E
 ·obtain ⟨hp, rfl⟩ := so2 E
  rename_i p Z0 a0 a1 b0 b1 c0 c1
  exact ⟨_, _, rfl, (ZGk p Z0 (a0, a1) (b0, b1) (c0, c1)).trans (ZE4 p Z0 (a0, a1) (b0, b1) (c0, c1) hp)⟩
 ·cases E

def Zhy : Sums := ⟨tblS [(38, Z7a), (205, Z3z), (224, Z4f)], tblM [], false⟩
theorem ZpD : Ze prog Zhy := ⟨Za ⟨⟨call38, Z8n⟩, ⟨call205, Z4h⟩, ⟨call224, Z68⟩, ⟨⟩⟩, tM⟩
def Zbb (p Z0 : Int) (a b c : P2) : Option (Bool × Int) :=
 (if ((Z0e p Z0 3 [a.1, a.2, b.1, b.2, c.1, c.2]) != 0) = true then some (false, (Z0e p Z0 3 [a.1, a.2, b.1, b.2, c.1, c.2])) else (if (prB p) = true then (if (prB p) = true then (if (prB p) = true then some ((Z04 p Z0 (Zj p b a) (Zj p c a)) == 0, 0) else none) else none) else none))
theorem Zq1 (p Z0 : Int) (a b c : P2) : eT Zhy 191 35 ZG5 [pI p, pI Z0, pA a, pA b, pA c] = Zbb p Z0 a b c := by
 kernel_rfl
def Z53 (p Z0 : Int) (a b c : P2) : Bool × Int :=
 (if ((Z0e p Z0 3 [a.1, a.2, b.1, b.2, c.1, c.2]) != 0) = true then (false, (Z0e p Z0 3 [a.1, a.2, b.1, b.2, c.1, c.2])) else ((Z04 p Z0 (Zj p b a) (Zj p c a)) == 0, 0))
theorem ZoR (p Z0 : Int) (a b c : P2) : Zbb p Z0 a b c = some (Z53 p Z0 a b c) := by
 unfold Zbb Z53
 (try simp only [Zz])
 repeat' (first | with_reducible rfl | refine Zv (by (with_reducible first | assumption | exact Zes ‹_› | exact Zkl ‹_›)) ?_ | refine Zm (fun _ => ?_) (fun _ => ?_) | rfl)
def Zas : RunP
 | [.v (.int .i64 p), .v (.int .i64 Z0), .v (.agg ⟨[.int .i64 a0, .int .i64 a1]⟩), .v (.agg ⟨[.int .i64 b0, .int .i64 b1]⟩), .v (.agg ⟨[.int .i64 c0, .int .i64 c1]⟩)] => some (true, ZLm (Z53 p Z0 (a0, a1) (b0, b1) (c0, c1)))
 | _ => none
theorem ZlM : Sound prog 191 Zas := by
 refine Zd ZQc ZpD (by kernel_rfl) func191 ntmps191 rfl (by kernel_rfl) fun q r E => ?_
 unfold Zas at E
 split at E
 ·obtain ⟨hp, rfl⟩ := so2 E
  rename_i p Z0 a0 a1 b0 b1 c0 c1
  exact ⟨_, _, rfl, (Zq1 p Z0 (a0, a1) (b0, b1) (c0, c1)).trans (ZoR p Z0 (a0, a1) (b0, b1) (c0, c1))⟩
 ·cases E

def ZkZ : Sums := ⟨tblS [(36, Z2R), (37, Z2t)], tblM [], false⟩
theorem ZtX : Ze prog ZkZ := ⟨Za ⟨⟨call36, Z3g⟩, ⟨call37, Z2L⟩, ⟨⟩⟩, tM⟩
def ZcY (c0 c1 : Int) (c2 c3 c4 : P2) : Option (Bool) :=
 (if (Z05 c0) = true then some (ZE c1 [c2, c3, c4]) else some false)
theorem ZuC (c0 c1 : Int) (c2 c3 c4 : P2) : eT ZkZ 134 16 Z1M [.p [.int .i64 c0], .p [.int .i64 c1], .p [.int .i64 c2.1, .int .i64 c2.2], .p [.int .i64 c3.1, .int .i64 c3.2], .p [.int .i64 c4.1, .int .i64 c4.2]] = ZcY c0 c1 c2 c3 c4 := by
 kernel_rfl
def Z4o (c0 c1 : Int) (c2 c3 c4 : P2) : Bool :=
 (if (Z05 c0) = true then (ZE c1 [c2, c3, c4]) else false)
theorem Ztm (c0 c1 : Int) (c2 c3 c4 : P2) : ZcY c0 c1 c2 c3 c4 = some (Z4o c0 c1 c2 c3 c4) := by
 unfold ZcY Z4o
 (try simp only [Zz])
 repeat' (first | with_reducible rfl | refine Zm (fun _ => ?_) (fun _ => ?_) | rfl)
def Zcn : RunP
 | [.p [.int .i64 c0], .p [.int .i64 c1], .p [.int .i64 c20, .int .i64 c21], .p [.int .i64 c30, .int .i64 c31], .p [.int .i64 c40, .int .i64 c41]] => some (true, Z4k (Z4o c0 c1 (c20, c21) (c30, c31) (c40, c41)))
 | _ => none
theorem Zov : Sound prog 134 Zcn := by
 refine Zd Z9i ZtX (by kernel_rfl) func134 ntmps134 rfl (by kernel_rfl) fun q r E => ?_
 unfold Zcn at E
 split at E
 ·obtain ⟨hp, rfl⟩ := so2 E
  rename_i c0 c1 c20 c21 c30 c31 c40 c41
  exact ⟨_, _, rfl, (ZuC c0 c1 (c20, c21) (c30, c31) (c40, c41)).trans (Ztm c0 c1 (c20, c21) (c30, c31) (c40, c41))⟩
 ·cases E

def ZEs : Sums := ⟨tblS [(216, ZnU), (129, Z8I), (173, Z3y), (137, Za1)], tblM [], false⟩
theorem ZJL : Ze prog ZEs := ⟨Za ⟨⟨call216, ZwQ⟩, ⟨call129, Zb0⟩, ⟨call173, Z30⟩, ⟨call137, ZcK⟩, ⟨⟩⟩, tM⟩
def Zpo (p Z0 : Int) (l m : P3) : Option (Int) :=
 (if (prB p) = true then (if (prB p) = true then (if (prB p) = true then (if (prB p) = true then (if (prB p) = true then (if (prB p) = true then (if (prB p) = true then some (Z0L p (wI ((Z2z p Z0 (Z7P p l) (Z7P p m)) * (Z2z p Z0 (Z7P p l) (Z7P p m)))) (ZF p (wI ((Z2z p Z0 (Z7P p l) (Z7P p l)) * (Z2z p Z0 (Z7P p m) (Z7P p m)))))) else none) else none) else none) else none) else none) else none) else none)
theorem ZK7 (p Z0 : Int) (l m : P3) : eT ZEs 217 41 Z2f [pI p, pI Z0, pB l, pB m] = Zpo p Z0 l m := by
 kernel_rfl
def Zsi (p Z0 : Int) (l m : P3) : Int :=
 (Z0L p (wrap64 ((Z2z p Z0 (Z7P p l) (Z7P p m)) * (Z2z p Z0 (Z7P p l) (Z7P p m)))) (ZF p (wrap64 ((Z2z p Z0 (Z7P p l) (Z7P p l)) * (Z2z p Z0 (Z7P p m) (Z7P p m))))))
theorem ZJz (p Z0 : Int) (l m : P3) (hp : (prB p) = true) : Zpo p Z0 l m = some (Zsi p Z0 l m) := by
 unfold Zpo Zsi
 (try simp only [Zz])
 repeat' (first | with_reducible rfl | with_reducible refine Zv hp ?_ | refine Zm (fun _ => ?_) (fun _ => ?_) | rfl)
def Znc : RunP
 | [.v (.int .i64 p), .v (.int .i64 Z0), .v (.agg ⟨[.int .i64 l0, .int .i64 l1, .int .i64 l2]⟩), .v (.agg ⟨[.int .i64 m0, .int .i64 m1, .int .i64 m2]⟩)] => some (prB p, Z7e (Zsi p Z0 (l0, l1, l2) (m0, m1, m2)))
 | _ => none
theorem ZDR : Sound prog 217 Znc := by
 refine Zd Zdj ZJL (by kernel_rfl) func217 ntmps217 rfl (by kernel_rfl) fun q r E => ?_
 unfold Znc at E
 split at E
 ·obtain ⟨hp, rfl⟩ := so2 E
  rename_i p Z0 l0 l1 l2 m0 m1 m2
  exact ⟨_, _, rfl, (ZK7 p Z0 (l0, l1, l2) (m0, m1, m2)).trans (ZJz p Z0 (l0, l1, l2) (m0, m1, m2) hp)⟩
 ·cases E

def ZzP : Sums := ⟨tblS [(217, Znc), (173, Z3y)], tblM [], false⟩
theorem ZHJ : Ze prog ZzP := ⟨Za ⟨⟨call217, ZDR⟩, ⟨call173, Z30⟩, ⟨⟩⟩, tM⟩
def Zm1 (p Z0 : Int) (l m : P3) : Option (Int) :=
 (if (prB p) = true then (if (prB p) = true then some (ZF p (wI (1 - (Zsi p Z0 l m)))) else none) else none)
theorem ZIm (p Z0 : Int) (l m : P3) : eT ZzP 177 17 Z2f [pI p, pI Z0, pB l, pB m] = Zm1 p Z0 l m := by
 kernel_rfl
def Zer (p Z0 : Int) (l m : P3) : Int :=
 (ZF p (wrap64 (1 - (Zsi p Z0 l m))))
theorem ZHp (p Z0 : Int) (l m : P3) (hp : (prB p) = true) : Zm1 p Z0 l m = some (Zer p Z0 l m) := by
 unfold Zm1 Zer
 (try simp only [Zz])
 repeat' (first | with_reducible rfl | with_reducible refine Zv hp ?_ | refine Zm (fun _ => ?_) (fun _ => ?_) | rfl)
def ZkB : RunP
 | [.v (.int .i64 p), .v (.int .i64 Z0), .v (.agg ⟨[.int .i64 l0, .int .i64 l1, .int .i64 l2]⟩), .v (.agg ⟨[.int .i64 m0, .int .i64 m1, .int .i64 m2]⟩)] => some (prB p, Z7e (Zer p Z0 (l0, l1, l2) (m0, m1, m2)))
 | _ => none
theorem ZBK : Sound prog 177 ZkB := by
 refine Zd Zdj ZHJ (by kernel_rfl) func177 ntmps177 rfl (by kernel_rfl) fun q r E => ?_
 unfold ZkB at E
 split at E
 ·obtain ⟨hp, rfl⟩ := so2 E
  rename_i p Z0 l0 l1 l2 m0 m1 m2
  exact ⟨_, _, rfl, (ZIm p Z0 (l0, l1, l2) (m0, m1, m2)).trans (ZHp p Z0 (l0, l1, l2) (m0, m1, m2) hp)⟩
 ·cases E

def ZrB : Sums := ⟨tblS [(110, Z2K), (113, Za2), (177, ZkB)], tblM [], false⟩
theorem ZCJ : Ze prog ZrB := ⟨Za ⟨⟨call110, Z3F⟩, ⟨call113, ZcL⟩, ⟨call177, ZBK⟩, ⟨⟩⟩, tM⟩
def Zi7 (p Z0 : Int) (a b c : P2) : Option (Int × Bool) :=
 (if (a == b) = true then some (0, false) else (if (a == c) = true then some (0, false) else (if (prB p) = true then (if (prB p) = true then (if (prB p) = true then (if (Z1Y p Z0 (Zr p a b)) = true then some (0, false) else (if (prB p) = true then (if (Z1Y p Z0 (Zr p a c)) = true then some (0, false) else (if (prB p) = true then some ((Zer p Z0 (Zr p a b) (Zr p a c)), true) else none)) else none)) else none) else none) else none)))
theorem ZDl (p Z0 : Int) (a b c : P2) : eT ZrB 135 45 ZfI [pI p, pI Z0, pA a, pA b, pA c] = Zi7 p Z0 a b c := by
 kernel_rfl
def Z3s (p Z0 : Int) (a b c : P2) : Int × Bool :=
 (if (a == b) = true then (0, false) else (if (a == c) = true then (0, false) else (if (Z1Y p Z0 (Zr p a b)) = true then (0, false) else (if (Z1Y p Z0 (Zr p a c)) = true then (0, false) else ((Zer p Z0 (Zr p a b) (Zr p a c)), true)))))
theorem ZCa (p Z0 : Int) (a b c : P2) (hp : (prB p) = true) : Zi7 p Z0 a b c = some (Z3s p Z0 a b c) := by
 unfold Zi7 Z3s
 (try simp only [Zz])
 repeat' (first | with_reducible rfl | with_reducible refine Zv hp ?_ | refine Zm (fun _ => ?_) (fun _ => ?_) | rfl)
def Zh5 : RunP
 | [.v (.int .i64 p), .v (.int .i64 Z0), .v (.agg ⟨[.int .i64 a0, .int .i64 a1]⟩), .v (.agg ⟨[.int .i64 b0, .int .i64 b1]⟩), .v (.agg ⟨[.int .i64 c0, .int .i64 c1]⟩)] => some (prB p, ZG7 (Z3s p Z0 (a0, a1) (b0, b1) (c0, c1)))
 | _ => none
theorem Zvy : Sound prog 135 Zh5 := by
 refine Zd ZNN ZCJ (by kernel_rfl) func135 ntmps135 rfl (by kernel_rfl) fun q r E => ?_
 unfold Zh5 at E
 split at E
 ·obtain ⟨hp, rfl⟩ := so2 E
  rename_i p Z0 a0 a1 b0 b1 c0 c1
  exact ⟨_, _, rfl, (ZDl p Z0 (a0, a1) (b0, b1) (c0, c1)).trans (ZCa p Z0 (a0, a1) (b0, b1) (c0, c1) hp)⟩
 ·cases E

def Zrq : Sums := ⟨tblS [(106, Z3e), (134, Zcn), (135, Zh5)], tblM [], false⟩
theorem ZCy : Ze prog Zrq := ⟨Za ⟨⟨call106, Z2S⟩, ⟨call134, Zov⟩, ⟨call135, Zvy⟩, ⟨⟩⟩, tM⟩
def ZhX (p Z0 : Int) (a b c : P2) : Option P2 :=
 (if ((true) || !(Z6 p)) = true then (if ((ZK p (true) (Z4o Z0 p a b c)) != 0) = true then some (0, (ZK p (true) (Z4o Z0 p a b c))) else (if (prB p) = true then (if (!((Z3s p Z0 a b c).2)) = true then some (0, 5) else some ((Z3s p Z0 a b c).1, 0)) else none)) else none)
theorem ZDa (p Z0 : Int) (a b c : P2) : eT Zrq 76 33 Ze0 [pI p, pI Z0, pA a, pA b, pA c] = ZhX p Z0 a b c := by
 kernel_rfl
def Zds (p Z0 : Int) (a b c : P2) : Int × Int :=
 (if ((ZK p (true) (Z4o Z0 p a b c)) != 0) = true then (0, (ZK p (true) (Z4o Z0 p a b c))) else (if (!((Z3s p Z0 a b c).2)) = true then (0, 5) else ((Z3s p Z0 a b c).1, 0)))
theorem ZBZ (p Z0 : Int) (a b c : P2) : ZhX p Z0 a b c = some (Zds p Z0 a b c) := by
 unfold ZhX Zds
 (try simp only [Zz])
 repeat' (first | with_reducible rfl | refine Zv (by first | with_reducible rfl | exact Bool.true_or _ | (have hq : prB p = true := (by (with_reducible first | assumption | exact Z6A ‹_› | exact Z5W ‹_›)); first | exact hq | exact Zn0 hq | exact Z3h hq (fun _ => rfl) | exact Z3h hq (fun _ => hq) | exact and3 hq hq hq | exact Z2W hq rfl | exact map3_ok hq) | rfl) ?_ | refine Zm (fun _ => ?_) (fun _ => ?_) | rfl)
def Zh2 : RunP
 | [.v (.int .i64 p), .v (.int .i64 Z0), .v (.agg ⟨[.int .i64 a0, .int .i64 a1]⟩), .v (.agg ⟨[.int .i64 b0, .int .i64 b1]⟩), .v (.agg ⟨[.int .i64 c0, .int .i64 c1]⟩)] => some (true, ZfL (Zds p Z0 (a0, a1) (b0, b1) (c0, c1)))
 | _ => none
theorem Zvv : Sound prog 76 Zh2 := by
 refine Zd ZmE ZCy (by kernel_rfl) func76 ntmps76 rfl (by kernel_rfl) fun q r E => ?_
 unfold Zh2 at E
 split at E
 ·obtain ⟨hp, rfl⟩ := so2 E
  rename_i p Z0 a0 a1 b0 b1 c0 c1
  exact ⟨_, _, rfl, (ZDa p Z0 (a0, a1) (b0, b1) (c0, c1)).trans (ZBZ p Z0 (a0, a1) (b0, b1) (c0, c1))⟩
 ·cases E

def Zpa : Sums := ⟨tblS [(97, Z3k), (160, Z7Q)], tblM [], false⟩
theorem ZzF : Ze prog Zpa := ⟨Za ⟨⟨call97, Z3U⟩, ⟨call160, Z8N⟩, ⟨⟩⟩, tM⟩
def Zgi (p Z0 : Int) (Zf : Nat) (pointsl : List Int) : Option (Int) :=
 (if (lenB Zf 2 pointsl) = true then (if ((ZW p (Z5v Zf pointsl)) == 0) = true then (if (!(Z1U Z0 0 2)) = true then some 2 else some (ZW p (Z5v Zf pointsl))) else some (ZW p (Z5v Zf pointsl))) else none)
theorem ZAO (p Z0 : Int) (Zf : Nat) (pointsl : List Int) : eT Zpa 230 19 Z2f [pI p, pI Z0, .s Zf (.ints pointsl)] = Zgi p Z0 Zf pointsl := by
 kernel_rfl
def Z1y (p Z0 : Int) (Zf : Nat) (pointsl : List Int) : Int :=
 (if ((ZW p (Z5v Zf pointsl)) == 0) = true then (if (!(Z1U Z0 0 2)) = true then 2 else (ZW p (Z5v Zf pointsl))) else (ZW p (Z5v Zf pointsl)))
theorem ZyT (p Z0 : Int) (Zf : Nat) (pointsl : List Int) (hp : (lenB Zf 2 pointsl) = true) : Zgi p Z0 Zf pointsl = some (Z1y p Z0 Zf pointsl) := by
 unfold Zgi Z1y
 (try simp only [Zz])
 repeat' (first | with_reducible rfl | with_reducible refine Zv hp ?_ | refine Zm (fun _ => ?_) (fun _ => ?_) | rfl)
def Zfo : RunP
 | [.v (.int .i64 p), .v (.int .i64 Z0), .s Zf (.ints pointsl)] => some (lenB Zf 2 pointsl, Z7e (Z1y p Z0 Zf pointsl))
 | _ => none
theorem Zta : Sound prog 230 Zfo := by
 refine Zd Zdj ZzF (by kernel_rfl) func230 ntmps230 rfl (by kernel_rfl) fun q r E => ?_
 unfold Zfo at E
 split at E
 ·obtain ⟨hp, rfl⟩ := so2 E
  rename_i p Z0 Zf pointsl
  exact ⟨_, _, rfl, (ZAO p Z0 Zf pointsl).trans (ZyT p Z0 Zf pointsl hp)⟩
 ·cases E

theorem Zpg {p c : Int} {n : Nat} {l : List Int} (h : ¬ (Z1y p c n l != 0) = true) : prB p = true := by
 refine Zgs (Zy ?_)
 have h : Z1y p c n l = 0 := by simpa using h
 cases hf : Z6 p
 ·simp [Z1y, ZW, Z06, hf] at h
 ·rfl
theorem ZBg {p c : Int} {n : Nat} {l : List Int} (h : (Z1y p c n l == 0) = true) : prB p = true := Zpg (by simpa using h)
def ZEw : Sums := ⟨tblS [(205, Z3z), (224, Z4f), (233, Z5Q), (242, Z2g)], tblM [], false⟩
theorem ZJQ : Ze prog ZEw := ⟨Za ⟨⟨call205, Z4h⟩, ⟨call224, Z68⟩, ⟨call233, Z8a⟩, ⟨call242, Z21⟩, ⟨⟩⟩, tM⟩
def Zpt (p Z0 : Int) (a b c : P2) : Option (Int) :=
 (if (prB p) = true then (if (prB p) = true then (if (prB p) = true then (if (!(p == 0)) = true then (if (prB p) = true then (if (prB p) = true then (if (prB p) = true then (if (prB p) = true then some (Zi (wI (1 - (wI (((wI ((Z04 p Z0 (Zj p b a) (Zj p c a)) * (Z04 p Z0 (Zj p b a) (Zj p c a)))).tmod p) * (ZB (wI ((Z04 p Z0 (Zj p b a) (Zj p b a)) * (Z04 p Z0 (Zj p c a) (Zj p c a)))) p))))) p) else none) else none) else none) else none) else none) else none) else none) else none)
theorem ZKc (p Z0 : Int) (a b c : P2) : eT ZEw 231 49 Z2f [pI p, pI Z0, pA a, pA b, pA c] = Zpt p Z0 a b c := by
 kernel_rfl
def ZfQ (p Z0 : Int) (a b c : P2) : Int :=
 (Zi (wrap64 (1 - (wrap64 (((wrap64 ((Z04 p Z0 (Zj p b a) (Zj p c a)) * (Z04 p Z0 (Zj p b a) (Zj p c a)))).tmod p) * (ZB (wrap64 ((Z04 p Z0 (Zj p b a) (Zj p b a)) * (Z04 p Z0 (Zj p c a) (Zj p c a)))) p))))) p)
theorem ZJE (p Z0 : Int) (a b c : P2) (hp : (prB p) = true) : Zpt p Z0 a b c = some (ZfQ p Z0 a b c) := by
 have h0 := ZgX hp
 unfold Zpt ZfQ
 (try simp only [Zz])
 repeat' (first | with_reducible rfl | with_reducible refine Zv hp ?_ | with_reducible refine Zv h0 ?_ | refine Zm (fun _ => ?_) (fun _ => ?_) | rfl)
def Zne : RunP
 | [.v (.int .i64 p), .v (.int .i64 Z0), .v (.agg ⟨[.int .i64 a0, .int .i64 a1]⟩), .v (.agg ⟨[.int .i64 b0, .int .i64 b1]⟩), .v (.agg ⟨[.int .i64 c0, .int .i64 c1]⟩)] => some (prB p, Z7e (ZfQ p Z0 (a0, a1) (b0, b1) (c0, c1)))
 | _ => none
theorem ZDT : Sound prog 231 Zne := by
 refine Zd Zdj ZJQ (by kernel_rfl) func231 ntmps231 rfl (by kernel_rfl) fun q r E => ?_
 unfold Zne at E
 split at E
 ·obtain ⟨hp, rfl⟩ := so2 E
  rename_i p Z0 a0 a1 b0 b1 c0 c1
  exact ⟨_, _, rfl, (ZKc p Z0 (a0, a1) (b0, b1) (c0, c1)).trans (ZJE p Z0 (a0, a1) (b0, b1) (c0, c1) hp)⟩
 ·cases E

def ZrF : Sums := ⟨tblS [(230, Zfo), (190, Z32), (231, Zne)], tblM [], false⟩
theorem ZCN : Ze prog ZrF := ⟨Za ⟨⟨call230, Zta⟩, ⟨call190, Z4L⟩, ⟨call231, ZDT⟩, ⟨⟩⟩, tM⟩
def Zib (p Z0 : Int) (a b c : P2) : Option P2 :=
 (if ((Z1y p Z0 3 [a.1, a.2, b.1, b.2, c.1, c.2]) == 0) = true then (if (prB p) = true then (if ((Zp p Z0 a b) == 0) = true then some (0, 5) else (if (prB p) = true then (if ((Zp p Z0 a c) == 0) = true then some (0, 5) else (if ((Z1y p Z0 3 [a.1, a.2, b.1, b.2, c.1, c.2]) != 0) = true then some (0, (Z1y p Z0 3 [a.1, a.2, b.1, b.2, c.1, c.2])) else (if (prB p) = true then some ((ZfQ p Z0 a b c), 0) else none))) else none)) else none) else (if ((Z1y p Z0 3 [a.1, a.2, b.1, b.2, c.1, c.2]) != 0) = true then some (0, (Z1y p Z0 3 [a.1, a.2, b.1, b.2, c.1, c.2])) else (if (prB p) = true then some ((ZfQ p Z0 a b c), 0) else none)))
theorem ZDp (p Z0 : Int) (a b c : P2) : eT ZrF 193 47 Ze0 [pI p, pI Z0, pA a, pA b, pA c] = Zib p Z0 a b c := by
 kernel_rfl
def Z4g (p Z0 : Int) (a b c : P2) : Int × Int :=
 (if ((Z1y p Z0 3 [a.1, a.2, b.1, b.2, c.1, c.2]) == 0) = true then (if ((Zp p Z0 a b) == 0) = true then (0, 5) else (if ((Zp p Z0 a c) == 0) = true then (0, 5) else (if ((Z1y p Z0 3 [a.1, a.2, b.1, b.2, c.1, c.2]) != 0) = true then (0, (Z1y p Z0 3 [a.1, a.2, b.1, b.2, c.1, c.2])) else ((ZfQ p Z0 a b c), 0)))) else (if ((Z1y p Z0 3 [a.1, a.2, b.1, b.2, c.1, c.2]) != 0) = true then (0, (Z1y p Z0 3 [a.1, a.2, b.1, b.2, c.1, c.2])) else ((ZfQ p Z0 a b c), 0)))
theorem ZCe (p Z0 : Int) (a b c : P2) : Zib p Z0 a b c = some (Z4g p Z0 a b c) := by
 unfold Zib Z4g
 (try simp only [Zz])
 repeat' (first | with_reducible rfl | refine Zv (by (with_reducible first | assumption | exact Zpg ‹_› | exact ZBg ‹_›)) ?_ | refine Zm (fun _ => ?_) (fun _ => ?_) | rfl)
def Zh8 : RunP
 | [.v (.int .i64 p), .v (.int .i64 Z0), .v (.agg ⟨[.int .i64 a0, .int .i64 a1]⟩), .v (.agg ⟨[.int .i64 b0, .int .i64 b1]⟩), .v (.agg ⟨[.int .i64 c0, .int .i64 c1]⟩)] => some (true, ZfL (Z4g p Z0 (a0, a1) (b0, b1) (c0, c1)))
 | _ => none
theorem ZvB : Sound prog 193 Zh8 := by
 refine Zd ZmE ZCN (by kernel_rfl) func193 ntmps193 rfl (by kernel_rfl) fun q r E => ?_
 unfold Zh8 at E
 split at E
 ·obtain ⟨hp, rfl⟩ := so2 E
  rename_i p Z0 a0 a1 b0 b1 c0 c1
  exact ⟨_, _, rfl, (ZDp p Z0 (a0, a1) (b0, b1) (c0, c1)).trans (ZCe p Z0 (a0, a1) (b0, b1) (c0, c1))⟩
 ·cases E

def Zmm : Sums := ⟨tblS [(173, Z3y)], tblM [], false⟩
theorem Zx2 : Ze prog Zmm := ⟨Za ⟨⟨call173, Z30⟩, ⟨⟩⟩, tM⟩
def ZeO (p a : Int) (b c : Int) : Option (Int) :=
 (if (prB p) = true then some (ZF p (wI ((wI ((wI ((wI (a + b)) + c)) * (wI ((wI (a + b)) + c)))) - (wI (2 * (wI ((wI ((wI (a * a)) + (wI (b * b)))) + (wI (c * c))))))))) else none)
theorem ZxG (p a : Int) (b c : Int) : eT Zmm 136 35 Z2f [pI p, pI a, pI b, pI c] = ZeO p a b c := by
 kernel_rfl
def Z9W (p a : Int) (b c : Int) : Int :=
 (ZF p (wrap64 ((wrap64 ((wrap64 ((wrap64 (a + b)) + c)) * (wrap64 ((wrap64 (a + b)) + c)))) - (wrap64 (2 * (wrap64 ((wrap64 ((wrap64 (a * a)) + (wrap64 (b * b)))) + (wrap64 (c * c)))))))))
theorem ZvP (p a : Int) (b c : Int) (hp : (prB p) = true) : ZeO p a b c = some (Z9W p a b c) := by
 unfold ZeO Z9W
 (try simp only [Zz])
 repeat' (first | with_reducible rfl | with_reducible refine Zv hp ?_ | refine Zm (fun _ => ?_) (fun _ => ?_) | rfl)
def ZdC : RunP
 | [.v (.int .i64 p), .v (.int .i64 a), .v (.int .i64 b), .v (.int .i64 c)] => some (prB p, Z7e (Z9W p a b c))
 | _ => none
theorem ZqJ : Sound prog 136 ZdC := by
 refine Zd Zdj Zx2 (by kernel_rfl) func136 ntmps136 rfl (by kernel_rfl) fun q r E => ?_
 unfold ZdC at E
 split at E
 ·obtain ⟨hp, rfl⟩ := so2 E
  rename_i p a b c
  exact ⟨_, _, rfl, (ZxG p a b c).trans (ZvP p a b c hp)⟩
 ·cases E

def ZoY : Sums := ⟨tblS [(115, Z20), (72, Z52), (136, ZdC)], tblM [], false⟩
theorem Zzl : Ze prog ZoY := ⟨Za ⟨⟨call115, Z28⟩, ⟨call72, Z6Y⟩, ⟨call136, ZqJ⟩, ⟨⟩⟩, tM⟩
def Zg4 (p Z0 : Int) (a b c : P2) : Option P2 :=
 (if ((Zk p Z0 a b c) != 0) = true then some (0, (Zk p Z0 a b c)) else (if (prB p) = true then (if (prB p) = true then (if (prB p) = true then (if (prB p) = true then some ((Z9W p (ZA p Z0 b c) (ZA p Z0 a c) (ZA p Z0 a b)), 0) else none) else none) else none) else none))
theorem ZAu (p Z0 : Int) (a b c : P2) : eT ZoY 77 39 Ze0 [pI p, pI Z0, pA a, pA b, pA c] = Zg4 p Z0 a b c := by
 kernel_rfl
def Z9n (p Z0 : Int) (a b c : P2) : Int × Int :=
 (if ((Zk p Z0 a b c) != 0) = true then (0, (Zk p Z0 a b c)) else ((Z9W p (ZA p Z0 b c) (ZA p Z0 a c) (ZA p Z0 a b)), 0))
theorem Zyz (p Z0 : Int) (a b c : P2) : Zg4 p Z0 a b c = some (Z9n p Z0 a b c) := by
 unfold Zg4 Z9n
 (try simp only [Zz])
 repeat' (first | with_reducible rfl | refine Zv (by (with_reducible first | assumption | exact Z3B ‹_› | exact Z3l ‹_›)) ?_ | refine Zm (fun _ => ?_) (fun _ => ?_) | rfl)
def Zfe : RunP
 | [.v (.int .i64 p), .v (.int .i64 Z0), .v (.agg ⟨[.int .i64 a0, .int .i64 a1]⟩), .v (.agg ⟨[.int .i64 b0, .int .i64 b1]⟩), .v (.agg ⟨[.int .i64 c0, .int .i64 c1]⟩)] => some (true, ZfL (Z9n p Z0 (a0, a1) (b0, b1) (c0, c1)))
 | _ => none
theorem ZsW : Sound prog 77 Zfe := by
 refine Zd ZmE Zzl (by kernel_rfl) func77 ntmps77 rfl (by kernel_rfl) fun q r E => ?_
 unfold Zfe at E
 split at E
 ·obtain ⟨hp, rfl⟩ := so2 E
  rename_i p Z0 a0 a1 b0 b1 c0 c1
  exact ⟨_, _, rfl, (ZAu p Z0 (a0, a1) (b0, b1) (c0, c1)).trans (Zyz p Z0 (a0, a1) (b0, b1) (c0, c1))⟩
 ·cases E

def ZhA : Sums := ⟨tblS [(242, Z2g)], tblM [], false⟩
theorem ZpF : Ze prog ZhA := ⟨Za ⟨⟨call242, Z21⟩, ⟨⟩⟩, tM⟩
def Zbd (p a : Int) (b c : Int) : Option (Int) :=
 (if (prB p) = true then some (Zi (wI ((wI ((wI ((wI (a + b)) + c)) * (wI ((wI (a + b)) + c)))) - (wI (2 * (wI ((wI ((wI (a * a)) + (wI (b * b)))) + (wI (c * c)))))))) p) else none)
theorem Zq3 (p a : Int) (b c : Int) : eT ZhA 253 33 Z2f [pI p, pI a, pI b, pI c] = Zbd p a b c := by
 kernel_rfl
def Z6I (p a : Int) (b c : Int) : Int :=
 (Zi (wrap64 ((wrap64 ((wrap64 ((wrap64 (a + b)) + c)) * (wrap64 ((wrap64 (a + b)) + c)))) - (wrap64 (2 * (wrap64 ((wrap64 ((wrap64 (a * a)) + (wrap64 (b * b)))) + (wrap64 (c * c)))))))) p)
theorem ZoT (p a : Int) (b c : Int) (hp : (prB p) = true) : Zbd p a b c = some (Z6I p a b c) := by
 unfold Zbd Z6I
 (try simp only [Zz])
 repeat' (first | with_reducible rfl | with_reducible refine Zv hp ?_ | refine Zm (fun _ => ?_) (fun _ => ?_) | rfl)
def Zau : RunP
 | [.v (.int .i64 p), .v (.int .i64 a), .v (.int .i64 b), .v (.int .i64 c)] => some (prB p, Z7e (Z6I p a b c))
 | _ => none
theorem ZlO : Sound prog 253 Zau := by
 refine Zd Zdj ZpF (by kernel_rfl) func253 ntmps253 rfl (by kernel_rfl) fun q r E => ?_
 unfold Zau at E
 split at E
 ·obtain ⟨hp, rfl⟩ := so2 E
  rename_i p a b c
  exact ⟨_, _, rfl, (Zq3 p a b c).trans (ZoT p a b c hp)⟩
 ·cases E

def Zmx : Sums := ⟨tblS [(190, Z32), (253, Zau)], tblM [], false⟩
theorem Zxj : Ze prog Zmx := ⟨Za ⟨⟨call190, Z4L⟩, ⟨call253, ZlO⟩, ⟨⟩⟩, tM⟩
def Zf2 (p Z0 : Int) (a b c : P2) : Option (Int) :=
 (if (prB p) = true then (if (prB p) = true then (if (prB p) = true then (if (prB p) = true then some (Z6I p (Zp p Z0 b c) (Zp p Z0 a c) (Zp p Z0 a b)) else none) else none) else none) else none)
theorem ZxX (p Z0 : Int) (a b c : P2) : eT Zmx 232 28 Z2f [pI p, pI Z0, pA a, pA b, pA c] = Zf2 p Z0 a b c := by
 kernel_rfl
def Za7 (p Z0 : Int) (a b c : P2) : Int :=
 (Z6I p (Zp p Z0 b c) (Zp p Z0 a c) (Zp p Z0 a b))
theorem Zw6 (p Z0 : Int) (a b c : P2) (hp : (prB p) = true) : Zf2 p Z0 a b c = some (Za7 p Z0 a b c) := by
 unfold Zf2 Za7
 (try simp only [Zz])
 repeat' (first | with_reducible rfl | with_reducible refine Zv hp ?_ | refine Zm (fun _ => ?_) (fun _ => ?_) | rfl)
def ZdM : RunP
 | [.v (.int .i64 p), .v (.int .i64 Z0), .v (.agg ⟨[.int .i64 a0, .int .i64 a1]⟩), .v (.agg ⟨[.int .i64 b0, .int .i64 b1]⟩), .v (.agg ⟨[.int .i64 c0, .int .i64 c1]⟩)] => some (prB p, Z7e (Za7 p Z0 (a0, a1) (b0, b1) (c0, c1)))
 | _ => none
theorem ZqS : Sound prog 232 ZdM := by
 refine Zd Zdj Zxj (by kernel_rfl) func232 ntmps232 rfl (by kernel_rfl) fun q r E => ?_
 unfold ZdM at E
 split at E
 ·obtain ⟨hp, rfl⟩ := so2 E
  rename_i p Z0 a0 a1 b0 b1 c0 c1
  exact ⟨_, _, rfl, (ZxX p Z0 (a0, a1) (b0, b1) (c0, c1)).trans (Zw6 p Z0 (a0, a1) (b0, b1) (c0, c1) hp)⟩
 ·cases E

def Zp5 : Sums := ⟨tblS [(185, Z26), (232, ZdM)], tblM [], false⟩
theorem Zzy : Ze prog Zp5 := ⟨Za ⟨⟨call185, Z23⟩, ⟨call232, ZqS⟩, ⟨⟩⟩, tM⟩
def Zgc (p Z0 : Int) (a b c : P2) : Option P2 :=
 (if ((ZQ p Z0 a b c) != 0) = true then some (0, (ZQ p Z0 a b c)) else (if (prB p) = true then some ((Za7 p Z0 a b c), 0) else none))
theorem ZAH (p Z0 : Int) (a b c : P2) : eT Zp5 194 28 Ze0 [pI p, pI Z0, pA a, pA b, pA c] = Zgc p Z0 a b c := by
 kernel_rfl
def Z2n (p Z0 : Int) (a b c : P2) : Int × Int :=
 (if ((ZQ p Z0 a b c) != 0) = true then (0, (ZQ p Z0 a b c)) else ((Za7 p Z0 a b c), 0))
theorem ZyM (p Z0 : Int) (a b c : P2) : Zgc p Z0 a b c = some (Z2n p Z0 a b c) := by
 unfold Zgc Z2n
 (try simp only [Zz])
 repeat' (first | with_reducible rfl | refine Zv (by (with_reducible first | assumption | exact Z4I ‹_› | exact Z3t ‹_›)) ?_ | refine Zm (fun _ => ?_) (fun _ => ?_) | rfl)
def Zfm : RunP
 | [.v (.int .i64 p), .v (.int .i64 Z0), .v (.agg ⟨[.int .i64 a0, .int .i64 a1]⟩), .v (.agg ⟨[.int .i64 b0, .int .i64 b1]⟩), .v (.agg ⟨[.int .i64 c0, .int .i64 c1]⟩)] => some (true, ZfL (Z2n p Z0 (a0, a1) (b0, b1) (c0, c1)))
 | _ => none
theorem Zt8 : Sound prog 194 Zfm := by
 refine Zd ZmE Zzy (by kernel_rfl) func194 ntmps194 rfl (by kernel_rfl) fun q r E => ?_
 unfold Zfm at E
 split at E
 ·obtain ⟨hp, rfl⟩ := so2 E
  rename_i p Z0 a0 a1 b0 b1 c0 c1
  exact ⟨_, _, rfl, (ZAH p Z0 (a0, a1) (b0, b1) (c0, c1)).trans (ZyM p Z0 (a0, a1) (b0, b1) (c0, c1))⟩
 ·cases E

def Zmh : Sums := ⟨tblS [(115, Z20), (137, Za1)], tblM [], false⟩
theorem ZwX : Ze prog Zmh := ⟨Za ⟨⟨call115, Z28⟩, ⟨call137, ZcK⟩, ⟨⟩⟩, tM⟩
def ZeK (p : Int) (a b c : P2) : Option (P2 × Int) :=
 (if ((Zk p 0 a b c) != 0) = true then some ((0, 0), (Zk p 0 a b c)) else (if (p == 3) = true then some ((0, 0), 5) else (if (prB p) = true then (if (prB p) = true then some (((Z0L p (wI ((wI (a.1 + b.1)) + c.1)) 3), (Z0L p (wI ((wI (a.2 + b.2)) + c.2)) 3)), 0) else none) else none)))
theorem ZxB (p : Int) (a b c : P2) : eT Zmh 79 44 Z57 [pI p, pA a, pA b, pA c] = ZeK p a b c := by
 kernel_rfl
def Z9U (p : Int) (a b c : P2) : P2 × Int :=
 (if ((Zk p 0 a b c) != 0) = true then ((0, 0), (Zk p 0 a b c)) else (if (p == 3) = true then ((0, 0), 5) else (((Z0L p (wrap64 ((wrap64 (a.1 + b.1)) + c.1)) 3), (Z0L p (wrap64 ((wrap64 (a.2 + b.2)) + c.2)) 3)), 0)))
theorem ZvK (p : Int) (a b c : P2) : ZeK p a b c = some (Z9U p a b c) := by
 unfold ZeK Z9U
 (try simp only [Zz])
 repeat' (first | with_reducible rfl | refine Zv (by (with_reducible first | assumption | exact Z3B ‹_› | exact Z3l ‹_›)) ?_ | refine Zm (fun _ => ?_) (fun _ => ?_) | rfl)
def Zdx : RunP
 | [.v (.int .i64 p), .v (.agg ⟨[.int .i64 a0, .int .i64 a1]⟩), .v (.agg ⟨[.int .i64 b0, .int .i64 b1]⟩), .v (.agg ⟨[.int .i64 c0, .int .i64 c1]⟩)] => some (true, Z5Y (Z9U p (a0, a1) (b0, b1) (c0, c1)))
 | _ => none
theorem ZqE : Sound prog 79 Zdx := by
 refine Zd Z8W ZwX (by kernel_rfl) func79 ntmps79 rfl (by kernel_rfl) fun q r E => ?_
 unfold Zdx at E
 split at E
 ·obtain ⟨hp, rfl⟩ := so2 E
  rename_i p a0 a1 b0 b1 c0 c1
  exact ⟨_, _, rfl, (ZxB p (a0, a1) (b0, b1) (c0, c1)).trans (ZvK p (a0, a1) (b0, b1) (c0, c1))⟩
 ·cases E

def Zmp : Sums := ⟨tblS [(185, Z26), (233, Z5Q), (203, ZaL), (204, Z9z)], tblM [], false⟩
theorem Zx9 : Ze prog Zmp := ⟨Za ⟨⟨call185, Z23⟩, ⟨call233, Z8a⟩, ⟨call203, Zfu⟩, ⟨call204, ZdV⟩, ⟨⟩⟩, tM⟩
def ZeU (p : Int) (a b c : P2) : Option (P2 × Int) :=
 (if ((ZQ p 0 a b c) == 0) = true then (if (p == 3) = true then some ((0, 0), 5) else (if ((ZQ p 0 a b c) != 0) = true then some ((0, 0), (ZQ p 0 a b c)) else (if (!(p == 0)) = true then (if (prB p) = true then (if (prB p) = true then (if (prB p) = true then (if (prB p) = true then some ((Z0X p (ZB ((3 : Int).tmod p) p) (Z0m p a (Z0m p b c))), 0) else none) else none) else none) else none) else none))) else (if ((ZQ p 0 a b c) != 0) = true then some ((0, 0), (ZQ p 0 a b c)) else (if (!(p == 0)) = true then (if (prB p) = true then (if (prB p) = true then (if (prB p) = true then (if (prB p) = true then some ((Z0X p (ZB ((3 : Int).tmod p) p) (Z0m p a (Z0m p b c))), 0) else none) else none) else none) else none) else none)))
theorem ZxN (p : Int) (a b c : P2) : eT Zmp 195 39 Z57 [pI p, pA a, pA b, pA c] = ZeU p a b c := by
 kernel_rfl
def Z2B (p : Int) (a b c : P2) : P2 × Int :=
 (if ((ZQ p 0 a b c) != 0) = true then ((0, 0), (ZQ p 0 a b c)) else (if (p == 3) = true then ((0, 0), 5) else ((Z0X p (ZB ((3 : Int).tmod p) p) (Z0m p a (Z0m p b c))), 0)))
theorem ZvW (p : Int) (a b c : P2) : ZeU p a b c = some (Z2B p a b c) := by
 unfold ZeU Z2B
 by_cases h : ZQ p 0 a b c = 0
 ·have hp : prB p = true := Z3t (by rw [h]; rfl)
  have h0 := ZgX hp
  rw [if_pos (by rw [h]; rfl), if_neg (c := (ZQ p 0 a b c != 0) = true) (by rw [h]; decide)]
  by_cases h3 : (p == 3) = true
  ·rw [if_pos h3, if_pos h3]
   simp [h]
  ·rw [if_neg h3, if_neg h3]
   simp [h0, hp, h]
 ·rw [if_neg (fun q => h (eq_of_beq q)), if_pos (bne_iff_ne.2 h), if_pos (bne_iff_ne.2 h)]
def ZdH : RunP
 | [.v (.int .i64 p), .v (.agg ⟨[.int .i64 a0, .int .i64 a1]⟩), .v (.agg ⟨[.int .i64 b0, .int .i64 b1]⟩), .v (.agg ⟨[.int .i64 c0, .int .i64 c1]⟩)] => some (true, Z5Y (Z2B p (a0, a1) (b0, b1) (c0, c1)))
 | _ => none
theorem ZqN : Sound prog 195 ZdH := by
 refine Zd Z8W Zx9 (by kernel_rfl) func195 ntmps195 rfl (by kernel_rfl) fun q r E => ?_
 unfold ZdH at E
 split at E
 ·obtain ⟨hp, rfl⟩ := so2 E
  rename_i p a0 a1 b0 b1 c0 c1
  exact ⟨_, _, rfl, (ZxN p (a0, a1) (b0, b1) (c0, c1)).trans (ZvW p (a0, a1) (b0, b1) (c0, c1))⟩
 ·cases E

def Zro : Sums := ⟨tblS [(115, Z20), (108, Zcu), (110, Z2K)], tblM [], false⟩
theorem ZCw : Ze prog Zro := ⟨Za ⟨⟨call115, Z28⟩, ⟨call108, ZjE⟩, ⟨call110, Z3F⟩, ⟨⟩⟩, tM⟩
def ZhV (p : Int) (a b c : P2) : Option (P3 × Int) :=
 (if ((Zk p 0 a b c) != 0) = true then some ((0, 0, 0), (Zk p 0 a b c)) else (if (prB p) = true then (if (prB p) = true then some ((Zr p a (Z4Z p b c)), 0) else none) else none))
theorem ZD8 (p : Int) (a b c : P2) : eT Zro 80 27 Z8g [pI p, pA a, pA b, pA c] = ZhV p a b c := by
 kernel_rfl
def Zdr (p : Int) (a b c : P2) : P3 × Int :=
 (if ((Zk p 0 a b c) != 0) = true then ((0, 0, 0), (Zk p 0 a b c)) else ((Zr p a (Z4Z p b c)), 0))
theorem ZBX (p : Int) (a b c : P2) : ZhV p a b c = some (Zdr p a b c) := by
 unfold ZhV Zdr
 (try simp only [Zz])
 repeat' (first | with_reducible rfl | refine Zv (by (with_reducible first | assumption | exact Z3B ‹_› | exact Z3l ‹_›)) ?_ | refine Zm (fun _ => ?_) (fun _ => ?_) | rfl)
def Zh0 : RunP
 | [.v (.int .i64 p), .v (.agg ⟨[.int .i64 a0, .int .i64 a1]⟩), .v (.agg ⟨[.int .i64 b0, .int .i64 b1]⟩), .v (.agg ⟨[.int .i64 c0, .int .i64 c1]⟩)] => some (true, Z9j (Zdr p (a0, a1) (b0, b1) (c0, c1)))
 | _ => none
theorem Zvt : Sound prog 80 Zh0 := by
 refine Zd ZdY ZCw (by kernel_rfl) func80 ntmps80 rfl (by kernel_rfl) fun q r E => ?_
 unfold Zh0 at E
 split at E
 ·obtain ⟨hp, rfl⟩ := so2 E
  rename_i p a0 a1 b0 b1 c0 c1
  exact ⟨_, _, rfl, (ZD8 p (a0, a1) (b0, b1) (c0, c1)).trans (ZBX p (a0, a1) (b0, b1) (c0, c1))⟩
 ·cases E

def ZrD : Sums := ⟨tblS [(185, Z26), (180, Z8h), (181, Z4e)], tblM [], false⟩
theorem ZCL : Ze prog ZrD := ⟨Za ⟨⟨call185, Z23⟩, ⟨call180, ZcM⟩, ⟨call181, Z67⟩, ⟨⟩⟩, tM⟩
def Zi9 (p : Int) (a b c : P2) : Option (P3 × Int) :=
 (if ((ZQ p 0 a b c) != 0) = true then some ((0, 0, 0), (ZQ p 0 a b c)) else (if (prB p) = true then (if (prB p) = true then some ((Zx p a (Z1f p b c)), 0) else none) else none))
theorem ZDn (p : Int) (a b c : P2) : eT ZrD 236 27 Z8g [pI p, pA a, pA b, pA c] = Zi9 p a b c := by
 kernel_rfl
def Z2c (p : Int) (a b c : P2) : P3 × Int :=
 (if ((ZQ p 0 a b c) != 0) = true then ((0, 0, 0), (ZQ p 0 a b c)) else ((Zx p a (Z1f p b c)), 0))
theorem ZCc (p : Int) (a b c : P2) : Zi9 p a b c = some (Z2c p a b c) := by
 unfold Zi9 Z2c
 (try simp only [Zz])
 repeat' (first | with_reducible rfl | refine Zv (by (with_reducible first | assumption | exact Z4I ‹_› | exact Z3t ‹_›)) ?_ | refine Zm (fun _ => ?_) (fun _ => ?_) | rfl)
def Zh6 : RunP
 | [.v (.int .i64 p), .v (.agg ⟨[.int .i64 a0, .int .i64 a1]⟩), .v (.agg ⟨[.int .i64 b0, .int .i64 b1]⟩), .v (.agg ⟨[.int .i64 c0, .int .i64 c1]⟩)] => some (true, Z9j (Z2c p (a0, a1) (b0, b1) (c0, c1)))
 | _ => none
theorem Zvz : Sound prog 236 Zh6 := by
 refine Zd ZdY ZCL (by kernel_rfl) func236 ntmps236 rfl (by kernel_rfl) fun q r E => ?_
 unfold Zh6 at E
 split at E
 ·obtain ⟨hp, rfl⟩ := so2 E
  rename_i p a0 a1 b0 b1 c0 c1
  exact ⟨_, _, rfl, (ZDn p (a0, a1) (b0, b1) (c0, c1)).trans (ZCc p (a0, a1) (b0, b1) (c0, c1))⟩
 ·cases E

def Zhv : Sums := ⟨tblS [(116, Z64), (72, Z52)], tblM [], false⟩
theorem Zpz : Ze prog Zhv := ⟨Za ⟨⟨call116, Z9F⟩, ⟨call72, Z6Y⟩, ⟨⟩⟩, tM⟩
def Zb7 (p Z0 : Int) (a b c : P2) : Option P3 :=
 (if (prB p) = true then (if (prB p) = true then some ((Z0R p Z0 a b c).1, (Z0R p Z0 a b c).2, (ZA p Z0 (Z0R p Z0 a b c) a)) else none) else none)
theorem ZpX (p Z0 : Int) (a b c : P2) : eT Zhv 139 25 Zah [pI p, pI Z0, pA a, pA b, pA c] = Zb7 p Z0 a b c := by
 kernel_rfl
def Z6D (p Z0 : Int) (a b c : P2) : Int × Int × Int :=
 ((Z0R p Z0 a b c).1, (Z0R p Z0 a b c).2, (ZA p Z0 (Z0R p Z0 a b c) a))
theorem ZoN (p Z0 : Int) (a b c : P2) (hp : (prB p) = true) : Zb7 p Z0 a b c = some (Z6D p Z0 a b c) := by
 unfold Zb7 Z6D
 (try simp only [Zz])
 repeat' (first | with_reducible rfl | with_reducible refine Zv hp ?_ | refine Zm (fun _ => ?_) (fun _ => ?_) | rfl)
def Zap : RunP
 | [.v (.int .i64 p), .v (.int .i64 Z0), .v (.agg ⟨[.int .i64 a0, .int .i64 a1]⟩), .v (.agg ⟨[.int .i64 b0, .int .i64 b1]⟩), .v (.agg ⟨[.int .i64 c0, .int .i64 c1]⟩)] => some (prB p, Zf7 (Z6D p Z0 (a0, a1) (b0, b1) (c0, c1)))
 | _ => none
theorem ZlJ : Sound prog 139 Zap := by
 refine Zd ZmD Zpz (by kernel_rfl) func139 ntmps139 rfl (by kernel_rfl) fun q r E => ?_
 unfold Zap at E
 split at E
 ·obtain ⟨hp, rfl⟩ := so2 E
  rename_i p Z0 a0 a1 b0 b1 c0 c1
  exact ⟨_, _, rfl, (ZpX p Z0 (a0, a1) (b0, b1) (c0, c1)).trans (ZoN p Z0 (a0, a1) (b0, b1) (c0, c1) hp)⟩
 ·cases E

def Zhr : Sums := ⟨tblS [(115, Z20), (139, Zap)], tblM [], false⟩
theorem Zpv : Ze prog Zhr := ⟨Za ⟨⟨call115, Z28⟩, ⟨call139, ZlJ⟩, ⟨⟩⟩, tM⟩
def Zb3 (p Z0 : Int) (a b c : P2) : Option (P3 × Int) :=
 (if ((Zk p Z0 a b c) != 0) = true then some ((0, 0, 0), (Zk p Z0 a b c)) else (if (prB p) = true then some ((Z6D p Z0 a b c), 0) else none))
theorem ZpT (p Z0 : Int) (a b c : P2) : eT Zhr 84 29 Z8g [pI p, pI Z0, pA a, pA b, pA c] = Zb3 p Z0 a b c := by
 kernel_rfl
def Z6B (p Z0 : Int) (a b c : P2) : P3 × Int :=
 (if ((Zk p Z0 a b c) != 0) = true then ((0, 0, 0), (Zk p Z0 a b c)) else ((Z6D p Z0 a b c), 0))
theorem ZoJ (p Z0 : Int) (a b c : P2) : Zb3 p Z0 a b c = some (Z6B p Z0 a b c) := by
 unfold Zb3 Z6B
 (try simp only [Zz])
 repeat' (first | with_reducible rfl | refine Zv (by (with_reducible first | assumption | exact Z3B ‹_› | exact Z3l ‹_›)) ?_ | refine Zm (fun _ => ?_) (fun _ => ?_) | rfl)
def Zal : RunP
 | [.v (.int .i64 p), .v (.int .i64 Z0), .v (.agg ⟨[.int .i64 a0, .int .i64 a1]⟩), .v (.agg ⟨[.int .i64 b0, .int .i64 b1]⟩), .v (.agg ⟨[.int .i64 c0, .int .i64 c1]⟩)] => some (true, Z9j (Z6B p Z0 (a0, a1) (b0, b1) (c0, c1)))
 | _ => none
theorem ZlF : Sound prog 84 Zal := by
 refine Zd ZdY Zpv (by kernel_rfl) func84 ntmps84 rfl (by kernel_rfl) fun q r E => ?_
 unfold Zal at E
 split at E
 ·obtain ⟨hp, rfl⟩ := so2 E
  rename_i p Z0 a0 a1 b0 b1 c0 c1
  exact ⟨_, _, rfl, (ZpT p Z0 (a0, a1) (b0, b1) (c0, c1)).trans (ZoJ p Z0 (a0, a1) (b0, b1) (c0, c1))⟩
 ·cases E

def Zmy : Sums := ⟨tblS [(186, Z2M), (190, Z32)], tblM [], false⟩
theorem Zxk : Ze prog Zmy := ⟨Za ⟨⟨call186, Z4S⟩, ⟨call190, Z4L⟩, ⟨⟩⟩, tM⟩
def Zf3 (p Z0 : Int) (a b c : P2) : Option P3 :=
 (if (prB p) = true then (if (prB p) = true then some ((Zb p Z0 a b c).1, (Zb p Z0 a b c).2, (Zp p Z0 (Zb p Z0 a b c) a)) else none) else none)
theorem ZxY (p Z0 : Int) (a b c : P2) : eT Zmy 234 25 Zah [pI p, pI Z0, pA a, pA b, pA c] = Zf3 p Z0 a b c := by
 kernel_rfl
def Za8 (p Z0 : Int) (a b c : P2) : Int × Int × Int :=
 ((Zb p Z0 a b c).1, (Zb p Z0 a b c).2, (Zp p Z0 (Zb p Z0 a b c) a))
theorem Zw7 (p Z0 : Int) (a b c : P2) (hp : (prB p) = true) : Zf3 p Z0 a b c = some (Za8 p Z0 a b c) := by
 unfold Zf3 Za8
 (try simp only [Zz])
 repeat' (first | with_reducible rfl | with_reducible refine Zv hp ?_ | refine Zm (fun _ => ?_) (fun _ => ?_) | rfl)
def ZdN : RunP
 | [.v (.int .i64 p), .v (.int .i64 Z0), .v (.agg ⟨[.int .i64 a0, .int .i64 a1]⟩), .v (.agg ⟨[.int .i64 b0, .int .i64 b1]⟩), .v (.agg ⟨[.int .i64 c0, .int .i64 c1]⟩)] => some (prB p, Zf7 (Za8 p Z0 (a0, a1) (b0, b1) (c0, c1)))
 | _ => none
theorem ZqT : Sound prog 234 ZdN := by
 refine Zd ZmD Zxk (by kernel_rfl) func234 ntmps234 rfl (by kernel_rfl) fun q r E => ?_
 unfold ZdN at E
 split at E
 ·obtain ⟨hp, rfl⟩ := so2 E
  rename_i p Z0 a0 a1 b0 b1 c0 c1
  exact ⟨_, _, rfl, (ZxY p Z0 (a0, a1) (b0, b1) (c0, c1)).trans (Zw7 p Z0 (a0, a1) (b0, b1) (c0, c1) hp)⟩
 ·cases E

def Zhw : Sums := ⟨tblS [(185, Z26), (234, ZdN)], tblM [], false⟩
theorem ZpB : Ze prog Zhw := ⟨Za ⟨⟨call185, Z23⟩, ⟨call234, ZqT⟩, ⟨⟩⟩, tM⟩
def Zb9 (p Z0 : Int) (a b c : P2) : Option (P3 × Int) :=
 (if ((ZQ p Z0 a b c) != 0) = true then some ((0, 0, 0), (ZQ p Z0 a b c)) else (if (prB p) = true then some ((Za8 p Z0 a b c), 0) else none))
theorem ZpZ (p Z0 : Int) (a b c : P2) : eT Zhw 196 29 Z8g [pI p, pI Z0, pA a, pA b, pA c] = Zb9 p Z0 a b c := by
 kernel_rfl
def ZC (p Z0 : Int) (a b c : P2) : P3 × Int :=
 (if ((ZQ p Z0 a b c) != 0) = true then ((0, 0, 0), (ZQ p Z0 a b c)) else ((Za8 p Z0 a b c), 0))
theorem ZoP (p Z0 : Int) (a b c : P2) : Zb9 p Z0 a b c = some (ZC p Z0 a b c) := by
 unfold Zb9 ZC
 (try simp only [Zz])
 repeat' (first | with_reducible rfl | refine Zv (by (with_reducible first | assumption | exact Z4I ‹_› | exact Z3t ‹_›)) ?_ | refine Zm (fun _ => ?_) (fun _ => ?_) | rfl)
def Zaq : RunP
 | [.v (.int .i64 p), .v (.int .i64 Z0), .v (.agg ⟨[.int .i64 a0, .int .i64 a1]⟩), .v (.agg ⟨[.int .i64 b0, .int .i64 b1]⟩), .v (.agg ⟨[.int .i64 c0, .int .i64 c1]⟩)] => some (true, Z9j (ZC p Z0 (a0, a1) (b0, b1) (c0, c1)))
 | _ => none
theorem ZlK : Sound prog 196 Zaq := by
 refine Zd ZdY ZpB (by kernel_rfl) func196 ntmps196 rfl (by kernel_rfl) fun q r E => ?_
 unfold Zaq at E
 split at E
 ·obtain ⟨hp, rfl⟩ := so2 E
  rename_i p Z0 a0 a1 b0 b1 c0 c1
  exact ⟨_, _, rfl, (ZpZ p Z0 (a0, a1) (b0, b1) (c0, c1)).trans (ZoP p Z0 (a0, a1) (b0, b1) (c0, c1))⟩
 ·cases E

def Zl4 : Sums := ⟨tblS [(117, Z6U)], tblM [], false⟩
theorem Zu3 : Ze prog Zl4 := ⟨Za ⟨⟨call117, Zaw⟩, ⟨⟩⟩, tM⟩
def Zd3 (p : Int) (a b c : P2) : Option (Nat × List Int) :=
 (if (prB p) = true then (if (prB p) = true then (if (prB p) = true then some (3, [(Z0i p 0 a b c).1, (Z0i p 0 a b c).2, (Z0i p 1 a b c).1, (Z0i p 1 a b c).2, (Z0i p 2 a b c).1, (Z0i p 2 a b c).2]) else none) else none) else none)
theorem ZuI (p : Int) (a b c : P2) : eT Zl4 141 25 Z0k [pI p, pA a, pA b, pA c] = Zd3 p a b c := by
 kernel_rfl
def Z5u (p : Int) (a b c : P2) : Nat × List Int :=
 (3, [(Z0i p 0 a b c).1, (Z0i p 0 a b c).2, (Z0i p 1 a b c).1, (Z0i p 1 a b c).2, (Z0i p 2 a b c).1, (Z0i p 2 a b c).2])
theorem Zts (p : Int) (a b c : P2) (hp : (prB p) = true) : Zd3 p a b c = some (Z5u p a b c) := by
 unfold Zd3 Z5u
 (try simp only [Zz])
 repeat' (first | with_reducible rfl | with_reducible refine Zv hp ?_ | refine Zm (fun _ => ?_) (fun _ => ?_) | rfl)
def Zcv : RunP
 | [.v (.int .i64 p), .v (.agg ⟨[.int .i64 a0, .int .i64 a1]⟩), .v (.agg ⟨[.int .i64 b0, .int .i64 b1]⟩), .v (.agg ⟨[.int .i64 c0, .int .i64 c1]⟩)] => some (prB p, Zdq (Z5u p (a0, a1) (b0, b1) (c0, c1)))
 | _ => none
theorem Zoy : Sound prog 141 Zcv := by
 refine Zd Zj8 Zu3 (by kernel_rfl) func141 ntmps141 rfl (by kernel_rfl) fun q r E => ?_
 unfold Zcv at E
 split at E
 ·obtain ⟨hp, rfl⟩ := so2 E
  rename_i p a0 a1 b0 b1 c0 c1
  exact ⟨_, _, rfl, (ZuI p (a0, a1) (b0, b1) (c0, c1)).trans (Zts p (a0, a1) (b0, b1) (c0, c1) hp)⟩
 ·cases E

def ZkX : Sums := ⟨tblS [(115, Z20), (141, Zcv)], tblM [], false⟩
theorem ZtV : Ze prog ZkX := ⟨Za ⟨⟨call115, Z28⟩, ⟨call141, Zoy⟩, ⟨⟩⟩, tM⟩
def ZcW (p : Int) (a b c : P2) : Option ((Nat × List Int) × Int) :=
 (if ((Zk p 0 a b c) != 0) = true then some ((0, []), (Zk p 0 a b c)) else (if (prB p) = true then some (((Z5u p a b c).1, (Z5u p a b c).2), 0) else none))
theorem ZuA (p : Int) (a b c : P2) : eT ZkX 86 24 Z7N [pI p, pA a, pA b, pA c] = ZcW p a b c := by
 kernel_rfl
def Z76 (p : Int) (a b c : P2) : (Nat × List Int) × Int :=
 (if ((Zk p 0 a b c) != 0) = true then ((0, []), (Zk p 0 a b c)) else (((Z5u p a b c).1, (Z5u p a b c).2), 0))
theorem Ztk (p : Int) (a b c : P2) : ZcW p a b c = some (Z76 p a b c) := by
 unfold ZcW Z76
 (try simp only [Zz])
 repeat' (first | with_reducible rfl | refine Zv (by (with_reducible first | assumption | exact Z3B ‹_› | exact Z3l ‹_›)) ?_ | refine Zm (fun _ => ?_) (fun _ => ?_) | rfl)
def Zcl : RunP
 | [.v (.int .i64 p), .v (.agg ⟨[.int .i64 a0, .int .i64 a1]⟩), .v (.agg ⟨[.int .i64 b0, .int .i64 b1]⟩), .v (.agg ⟨[.int .i64 c0, .int .i64 c1]⟩)] => some (true, Z9k (Z76 p (a0, a1) (b0, b1) (c0, c1)))
 | _ => none
theorem Zot : Sound prog 86 Zcl := by
 refine Zd Zdk ZtV (by kernel_rfl) func86 ntmps86 rfl (by kernel_rfl) fun q r E => ?_
 unfold Zcl at E
 split at E
 ·obtain ⟨hp, rfl⟩ := so2 E
  rename_i p a0 a1 b0 b1 c0 c1
  exact ⟨_, _, rfl, (ZuA p (a0, a1) (b0, b1) (c0, c1)).trans (Ztk p (a0, a1) (b0, b1) (c0, c1))⟩
 ·cases E

def ZrJ : Sums := ⟨tblS [(187, Z3f)], tblM [], false⟩
theorem ZCV : Ze prog ZrJ := ⟨Za ⟨⟨call187, Z5h⟩, ⟨⟩⟩, tM⟩
def Zij (p : Int) (a b c : P2) : Option (Nat × List Int) :=
 (if (prB p) = true then (if (prB p) = true then (if (prB p) = true then some (3, [(Zc p 0 a b c).1, (Zc p 0 a b c).2, (Zc p 1 a b c).1, (Zc p 1 a b c).2, (Zc p 2 a b c).1, (Zc p 2 a b c).2]) else none) else none) else none)
theorem ZDx (p : Int) (a b c : P2) : eT ZrJ 235 26 Z0k [pI p, pA a, pA b, pA c] = Zij p a b c := by
 kernel_rfl
def Z87 (p : Int) (a b c : P2) : Nat × List Int :=
 (3, [(Zc p 0 a b c).1, (Zc p 0 a b c).2, (Zc p 1 a b c).1, (Zc p 1 a b c).2, (Zc p 2 a b c).1, (Zc p 2 a b c).2])
theorem ZCm (p : Int) (a b c : P2) (hp : (prB p) = true) : Zij p a b c = some (Z87 p a b c) := by
 unfold Zij Z87
 (try simp only [Zz])
 repeat' (first | with_reducible rfl | with_reducible refine Zv hp ?_ | refine Zm (fun _ => ?_) (fun _ => ?_) | rfl)
def Zhc : RunP
 | [.v (.int .i64 p), .v (.agg ⟨[.int .i64 a0, .int .i64 a1]⟩), .v (.agg ⟨[.int .i64 b0, .int .i64 b1]⟩), .v (.agg ⟨[.int .i64 c0, .int .i64 c1]⟩)] => some (prB p, Zdq (Z87 p (a0, a1) (b0, b1) (c0, c1)))
 | _ => none
theorem ZvF : Sound prog 235 Zhc := by
 refine Zd Zj8 ZCV (by kernel_rfl) func235 ntmps235 rfl (by kernel_rfl) fun q r E => ?_
 unfold Zhc at E
 split at E
 ·obtain ⟨hp, rfl⟩ := so2 E
  rename_i p a0 a1 b0 b1 c0 c1
  exact ⟨_, _, rfl, (ZDx p (a0, a1) (b0, b1) (c0, c1)).trans (ZCm p (a0, a1) (b0, b1) (c0, c1) hp)⟩
 ·cases E

def Zld : Sums := ⟨tblS [(185, Z26), (235, Zhc)], tblM [], false⟩
theorem Zud : Ze prog Zld := ⟨Za ⟨⟨call185, Z23⟩, ⟨call235, ZvF⟩, ⟨⟩⟩, tM⟩
def Zdb (p : Int) (a b c : P2) : Option ((Nat × List Int) × Int) :=
 (if ((ZQ p 0 a b c) != 0) = true then some ((0, []), (ZQ p 0 a b c)) else (if (prB p) = true then some (((Z87 p a b c).1, (Z87 p a b c).2), 0) else none))
theorem ZuS (p : Int) (a b c : P2) : eT Zld 198 24 Z7N [pI p, pA a, pA b, pA c] = Zdb p a b c := by
 kernel_rfl
def Z0I (p : Int) (a b c : P2) : (Nat × List Int) × Int :=
 (if ((ZQ p 0 a b c) != 0) = true then ((0, []), (ZQ p 0 a b c)) else (((Z87 p a b c).1, (Z87 p a b c).2), 0))
theorem ZtC (p : Int) (a b c : P2) : Zdb p a b c = some (Z0I p a b c) := by
 unfold Zdb Z0I
 (try simp only [Zz])
 repeat' (first | with_reducible rfl | refine Zv (by (with_reducible first | assumption | exact Z4I ‹_› | exact Z3t ‹_›)) ?_ | refine Zm (fun _ => ?_) (fun _ => ?_) | rfl)
def ZcD : RunP
 | [.v (.int .i64 p), .v (.agg ⟨[.int .i64 a0, .int .i64 a1]⟩), .v (.agg ⟨[.int .i64 b0, .int .i64 b1]⟩), .v (.agg ⟨[.int .i64 c0, .int .i64 c1]⟩)] => some (true, Z9k (Z0I p (a0, a1) (b0, b1) (c0, c1)))
 | _ => none
theorem ZoG : Sound prog 198 ZcD := by
 refine Zd Zdk Zud (by kernel_rfl) func198 ntmps198 rfl (by kernel_rfl) fun q r E => ?_
 unfold ZcD at E
 split at E
 ·obtain ⟨hp, rfl⟩ := so2 E
  rename_i p a0 a1 b0 b1 c0 c1
  exact ⟨_, _, rfl, (ZuS p (a0, a1) (b0, b1) (c0, c1)).trans (ZtC p (a0, a1) (b0, b1) (c0, c1))⟩
 ·cases E

def Zfw : Sums := ⟨tblS [(37, Z2t)], tblM [], false⟩
theorem Zmb : Ze prog Zfw := ⟨Za ⟨⟨call37, Z2L⟩, ⟨⟩⟩, tM⟩
def Z94 (c0 : Int) (c1 c2 c3 : P2) : Option (Bool) :=
 some (ZE c0 [c1, c2, c3])
theorem ZmJ (c0 : Int) (c1 c2 c3 : P2) : eT Zfw 142 11 Z1M [.p [.int .i64 c0], .p [.int .i64 c1.1, .int .i64 c1.2], .p [.int .i64 c2.1, .int .i64 c2.2], .p [.int .i64 c3.1, .int .i64 c3.2]] = Z94 c0 c1 c2 c3 := by
 kernel_rfl
def Z2H (c0 : Int) (c1 c2 c3 : P2) : Bool :=
 (ZE c0 [c1, c2, c3])
theorem ZlQ (c0 : Int) (c1 c2 c3 : P2) : Z94 c0 c1 c2 c3 = some (Z2H c0 c1 c2 c3) := by
 unfold Z94 Z2H
 (try simp only [Zz])
 repeat' (first | with_reducible rfl | refine Zm (fun _ => ?_) (fun _ => ?_) | rfl)
def Z8S : RunP
 | [.p [.int .i64 c0], .p [.int .i64 c10, .int .i64 c11], .p [.int .i64 c20, .int .i64 c21], .p [.int .i64 c30, .int .i64 c31]] => some (true, Z4k (Z2H c0 (c10, c11) (c20, c21) (c30, c31)))
 | _ => none
theorem Zjx : Sound prog 142 Z8S := by
 refine Zd Z9i Zmb (by kernel_rfl) func142 ntmps142 rfl (by kernel_rfl) fun q r E => ?_
 unfold Z8S at E
 split at E
 ·obtain ⟨hp, rfl⟩ := so2 E
  rename_i c0 c10 c11 c20 c21 c30 c31
  exact ⟨_, _, rfl, (ZmJ c0 (c10, c11) (c20, c21) (c30, c31)).trans (ZlQ c0 (c10, c11) (c20, c21) (c30, c31))⟩
 ·cases E

def Zfx : Sums := ⟨tblS [(75, Ze5)], tblM [], false⟩
theorem Zmc : Ze prog Zfx := ⟨Za ⟨⟨call75, Zls⟩, ⟨⟩⟩, tM⟩
def Z95 (Z0 c0 : Int) (c1 c2 c3 : P2) : Option (Bool) :=
 (if (prB c0) = true then some (Z6E c0 Z0 c1 c2 c3) else none)
theorem ZmK (Z0 c0 : Int) (c1 c2 c3 : P2) : eT Zfx 144 13 Z1M [pI Z0, .p [.int .i64 c0], .p [.int .i64 c1.1, .int .i64 c1.2], .p [.int .i64 c2.1, .int .i64 c2.2], .p [.int .i64 c3.1, .int .i64 c3.2]] = Z95 Z0 c0 c1 c2 c3 := by
 kernel_rfl
def Z2I (Z0 c0 : Int) (c1 c2 c3 : P2) : Bool :=
 (Z6E c0 Z0 c1 c2 c3)
theorem ZlR (Z0 c0 : Int) (c1 c2 c3 : P2) (hp : (prB c0) = true) : Z95 Z0 c0 c1 c2 c3 = some (Z2I Z0 c0 c1 c2 c3) := by
 unfold Z95 Z2I
 (try simp only [Zz])
 repeat' (first | with_reducible rfl | with_reducible refine Zv hp ?_ | refine Zm (fun _ => ?_) (fun _ => ?_) | rfl)
def Z8T : RunP
 | [.v (.int .i64 Z0), .p [.int .i64 c0], .p [.int .i64 c10, .int .i64 c11], .p [.int .i64 c20, .int .i64 c21], .p [.int .i64 c30, .int .i64 c31]] => some (prB c0, Z4k (Z2I Z0 c0 (c10, c11) (c20, c21) (c30, c31)))
 | _ => none
theorem Zjy : Sound prog 144 Z8T := by
 refine Zd Z9i Zmc (by kernel_rfl) func144 ntmps144 rfl (by kernel_rfl) fun q r E => ?_
 unfold Z8T at E
 split at E
 ·obtain ⟨hp, rfl⟩ := so2 E
  rename_i Z0 c0 c10 c11 c20 c21 c30 c31
  exact ⟨_, _, rfl, (ZmK Z0 c0 (c10, c11) (c20, c21) (c30, c31)).trans (ZlR Z0 c0 (c10, c11) (c20, c21) (c30, c31) hp)⟩
 ·cases E

def Zl0 : Sums := ⟨tblS [], tblM [], false⟩
theorem ZtY : Ze prog Zl0 := ⟨Za ⟨⟩, tM⟩
def ZcZ (ZJ Zw : Int -> Bool) : Option (Nat × List Int) :=
 (if (ZJ 0) = true then (if (Zw 0) = true then (if (ZJ 1) = true then (if (Zw 1) = true then (if (ZJ 2) = true then (if (Zw 2) = true then some (3, [0, 1, 2]) else some (2, [0, 1])) else none) else (if (ZJ 2) = true then (if (Zw 2) = true then some (2, [0, 2]) else some (1, [0])) else none)) else none) else (if (ZJ 1) = true then (if (Zw 1) = true then (if (ZJ 2) = true then (if (Zw 2) = true then some (2, [1, 2]) else some (1, [1])) else none) else (if (ZJ 2) = true then (if (Zw 2) = true then some (1, [2]) else some (0, [])) else none)) else none)) else none)
theorem ZuD (ZJ Zw : Int -> Bool) : eT Zl0 143 18 ZgF [.f (Zz1 ZJ Zw)] = ZcZ ZJ Zw := by
 kernel_rfl
def Z5r (ZJ Zw : Int -> Bool) : Nat × List Int :=
 (if (Zw 0) = true then (if (Zw 1) = true then (if (Zw 2) = true then (3, [0, 1, 2]) else (2, [0, 1])) else (if (Zw 2) = true then (2, [0, 2]) else (1, [0]))) else (if (Zw 1) = true then (if (Zw 2) = true then (2, [1, 2]) else (1, [1])) else (if (Zw 2) = true then (1, [2]) else (0, []))))
theorem Ztn (ZJ Zw : Int -> Bool) (hp : (ZJ 0 && ZJ 1 && ZJ 2) = true) : ZcZ ZJ Zw = some (Z5r ZJ Zw) := by
 simp only [Bool.and_eq_true] at hp
 obtain ⟨⟨h0, h1⟩, h2⟩ := hp
 unfold ZcZ Z5r
 simp only [h0, h1, h2, if_true]
 repeat' split
 all_goals rfl
def Zcp : RunP
 | [.f Z43] => some ((fun a0 => okV (Z43 [.int .i64 a0])) 0 && (fun a0 => okV (Z43 [.int .i64 a0])) 1 && (fun a0 => okV (Z43 [.int .i64 a0])) 2, ZAn (Z5r (fun a0 => okV (Z43 [.int .i64 a0])) (fun a0 => Zen (Z43 [.int .i64 a0]))))
 | _ => none
theorem Zow : Sound prog 143 Zcp := by
 refine ZjF ZLk ZtY (by kernel_rfl) func143 ntmps143 rfl (by kernel_rfl) ?_
 intro W pvs avs rs hargs hrun
 unfold Zcp at hrun
 split at hrun
 ·simp only [Option.some.injEq, Prod.mk.injEq] at hrun
  obtain ⟨hp, rfl⟩ := hrun
  rename_i Z43
  have hargs := All2.replace (l1 := []) hargs (y := .f (Zz1 _ _)) fun b hb => ZnJ hb (ZK0 _)
  exact ⟨_, _, _, hargs, rfl, (ZuD (fun a0 => okV (Z43 [.int .i64 a0])) (fun a0 => Zen (Z43 [.int .i64 a0]))).trans (Ztn (fun a0 => okV (Z43 [.int .i64 a0])) (fun a0 => Zen (Z43 [.int .i64 a0])) hp)⟩
 ·cases hrun

def ZiX : Sums := ⟨tblS [(106, Z3e), (142, Z8S), (143, Zcp), (144, Z8T)], tblM [], false⟩
theorem Zrf : Ze prog ZiX := ⟨Za ⟨⟨call106, Z2S⟩, ⟨call142, Zjx⟩, ⟨call143, Zow⟩, ⟨call144, Zjy⟩, ⟨⟩⟩, tM⟩
def ZbN (p : Int) (a b c : P2) : Option ((Nat × List Int) × Int) :=
 (if ((true) || !(Z6 p)) = true then (if ((ZK p (true) (Z2H p a b c)) != 0) = true then some ((0, []), (ZK p (true) (Z2H p a b c))) else (if ((fun a0 => prB p) 0 && (fun a0 => prB p) 1 && (fun a0 => prB p) 2) = true then some (((Z5r (fun a0 => prB p) (fun a0 => Z2I a0 p a b c)).1, (Z5r (fun a0 => prB p) (fun a0 => Z2I a0 p a b c)).2), 0) else none)) else none)
theorem Zs5 (p : Int) (a b c : P2) : eT ZiX 89 19 Zdp [pI p, pA a, pA b, pA c] = ZbN p a b c := by
 kernel_rfl
def Z60 (p : Int) (a b c : P2) : (Nat × List Int) × Int :=
 (if ((ZK p (true) (Z2H p a b c)) != 0) = true then ((0, []), (ZK p (true) (Z2H p a b c))) else (((Z5r (fun a0 => prB p) (fun a0 => Z2I a0 p a b c)).1, (Z5r (fun a0 => prB p) (fun a0 => Z2I a0 p a b c)).2), 0))
theorem Zr0 (p : Int) (a b c : P2) : ZbN p a b c = some (Z60 p a b c) := by
 unfold ZbN Z60
 (try simp only [Zz])
 repeat' (first | with_reducible rfl | refine Zv (by first | with_reducible rfl | exact Bool.true_or _ | (have hq : prB p = true := (by (with_reducible first | assumption | exact Z6A ‹_› | exact Z5W ‹_›)); first | exact hq | exact Zn0 hq | exact Z3h hq (fun _ => rfl) | exact Z3h hq (fun _ => hq) | exact and3 hq hq hq | exact Z2W hq rfl | exact map3_ok hq) | rfl) ?_ | refine Zm (fun _ => ?_) (fun _ => ?_) | rfl)
def Zbn : RunP
 | [.v (.int .i64 p), .v (.agg ⟨[.int .i64 a0, .int .i64 a1]⟩), .v (.agg ⟨[.int .i64 b0, .int .i64 b1]⟩), .v (.agg ⟨[.int .i64 c0, .int .i64 c1]⟩)] => some (true, ZgJ (Z60 p (a0, a1) (b0, b1) (c0, c1)))
 | _ => none
theorem Zno : Sound prog 89 Zbn := by
 refine Zd ZnG Zrf (by kernel_rfl) func89 ntmps89 rfl (by kernel_rfl) fun q r E => ?_
 unfold Zbn at E
 split at E
 ·obtain ⟨hp, rfl⟩ := so2 E
  rename_i p a0 a1 b0 b1 c0 c1
  exact ⟨_, _, rfl, (Zs5 p (a0, a1) (b0, b1) (c0, c1)).trans (Zr0 p (a0, a1) (b0, b1) (c0, c1))⟩
 ·cases E

def ZiZ : Sums := ⟨tblS [(97, Z3k), (205, Z3z), (224, Z4f)], tblM [], false⟩
theorem Zrj : Ze prog ZiZ := ⟨Za ⟨⟨call97, Z3U⟩, ⟨call205, Z4h⟩, ⟨call224, Z68⟩, ⟨⟩⟩, tM⟩
def ZbS (p : Int) (a b c : P2) : Option ((Nat × List Int) × Int) :=
 (if ((ZW p [a, b, c]) != 0) = true then some ((0, []), (ZW p [a, b, c])) else (if (prB p) = true then (if (prB p) = true then (if (prB p) = true then (if ((Z04 p 0 (Zj p b a) (Zj p c a)) == 0) = true then (if (prB p) = true then (if (prB p) = true then (if (prB p) = true then (if ((Z04 p 1 (Zj p b a) (Zj p c a)) == 0) = true then (if (prB p) = true then (if (prB p) = true then (if (prB p) = true then (if ((Z04 p 2 (Zj p b a) (Zj p c a)) == 0) = true then some ((3, [0, 1, 2]), 0) else some ((2, [0, 1]), 0)) else none) else none) else none) else (if (prB p) = true then (if (prB p) = true then (if (prB p) = true then (if ((Z04 p 2 (Zj p b a) (Zj p c a)) == 0) = true then some ((2, [0, 2]), 0) else some ((1, [0]), 0)) else none) else none) else none)) else none) else none) else none) else (if (prB p) = true then (if (prB p) = true then (if (prB p) = true then (if ((Z04 p 1 (Zj p b a) (Zj p c a)) == 0) = true then (if (prB p) = true then (if (prB p) = true then (if (prB p) = true then (if ((Z04 p 2 (Zj p b a) (Zj p c a)) == 0) = true then some ((2, [1, 2]), 0) else some ((1, [1]), 0)) else none) else none) else none) else (if (prB p) = true then (if (prB p) = true then (if (prB p) = true then (if ((Z04 p 2 (Zj p b a) (Zj p c a)) == 0) = true then some ((1, [2]), 0) else some ((0, []), 0)) else none) else none) else none)) else none) else none) else none)) else none) else none) else none))
theorem Zs9 (p : Int) (a b c : P2) : eT ZiZ 199 44 Zdp [pI p, pA a, pA b, pA c] = ZbS p a b c := by
 kernel_rfl
def Z0s (p : Int) (a b c : P2) : (Nat × List Int) × Int :=
 (if ((ZW p [a, b, c]) != 0) = true then ((0, []), (ZW p [a, b, c])) else (if ((Z04 p 0 (Zj p b a) (Zj p c a)) == 0) = true then (if ((Z04 p 1 (Zj p b a) (Zj p c a)) == 0) = true then (if ((Z04 p 2 (Zj p b a) (Zj p c a)) == 0) = true then ((3, [0, 1, 2]), 0) else ((2, [0, 1]), 0)) else (if ((Z04 p 2 (Zj p b a) (Zj p c a)) == 0) = true then ((2, [0, 2]), 0) else ((1, [0]), 0))) else (if ((Z04 p 1 (Zj p b a) (Zj p c a)) == 0) = true then (if ((Z04 p 2 (Zj p b a) (Zj p c a)) == 0) = true then ((2, [1, 2]), 0) else ((1, [1]), 0)) else (if ((Z04 p 2 (Zj p b a) (Zj p c a)) == 0) = true then ((1, [2]), 0) else ((0, []), 0)))))
theorem Zr4 (p : Int) (a b c : P2) : ZbS p a b c = some (Z0s p a b c) := by
 unfold ZbS Z0s
 (try simp only [Zz])
 repeat' (first | with_reducible rfl | refine Zv (by (with_reducible first | assumption | exact ZbF ‹_› | exact Zce ‹_›)) ?_ | refine Zm (fun _ => ?_) (fun _ => ?_) | rfl)
def Zbp : RunP
 | [.v (.int .i64 p), .v (.agg ⟨[.int .i64 a0, .int .i64 a1]⟩), .v (.agg ⟨[.int .i64 b0, .int .i64 b1]⟩), .v (.agg ⟨[.int .i64 c0, .int .i64 c1]⟩)] => some (true, ZgJ (Z0s p (a0, a1) (b0, b1) (c0, c1)))
 | _ => none
theorem Znr : Sound prog 199 Zbp := by
 refine Zd ZnG Zrj (by kernel_rfl) func199 ntmps199 rfl (by kernel_rfl) fun q r E => ?_
 unfold Zbp at E
 split at E
 ·obtain ⟨hp, rfl⟩ := so2 E
  rename_i p a0 a1 b0 b1 c0 c1
  exact ⟨_, _, rfl, (Zs9 p (a0, a1) (b0, b1) (c0, c1)).trans (Zr4 p (a0, a1) (b0, b1) (c0, c1))⟩
 ·cases E

def Zml : Sums := ⟨tblS [(35, Z79), (123, Z9w)], tblM [], false⟩
theorem Zx1 : Ze prog Zml := ⟨Za ⟨⟨call35, Z8m⟩, ⟨call123, ZdT⟩, ⟨⟩⟩, tM⟩
def ZeN (p : Int) : Option ((Nat × List Int) × Int) :=
 (if (!(Z6 p)) = true then some ((0, []), 1) else (if (prB p) = true then (if (prB p) = true then (if (prB p) = true then some ((3, [(((Z1R p 0 (0, 0) 1).1 : Nat) : Int), (((Z1R p 1 (0, 0) 1).1 : Nat) : Int), (((Z1R p 2 (0, 0) 1).1 : Nat) : Int)]), 0) else none) else none) else none))
theorem ZxF (p : Int) : eT Zml 90 23 Zdp [pI p] = ZeN p := by
 kernel_rfl
def Z2X (p : Int) : (Nat × List Int) × Int :=
 (if (!(Z6 p)) = true then ((0, []), 1) else ((3, [(((Z1R p 0 (0, 0) 1).1 : Nat) : Int), (((Z1R p 1 (0, 0) 1).1 : Nat) : Int), (((Z1R p 2 (0, 0) 1).1 : Nat) : Int)]), 0))
theorem ZvO (p : Int) : ZeN p = some (Z2X p) := by
 unfold ZeN Z2X
 (try simp only [Zz])
 repeat' (first | with_reducible rfl | refine Zv (by (with_reducible first | assumption | exact ZfX ‹_› | exact ZAT ‹_›)) ?_ | refine Zm (fun _ => ?_) (fun _ => ?_) | rfl)
def ZdB : RunP
 | [.v (.int .i64 p)] => some (true, ZgJ (Z2X p))
 | _ => none
theorem ZqI : Sound prog 90 ZdB := by
 refine Zd ZnG Zx1 (by kernel_rfl) func90 ntmps90 rfl (by kernel_rfl) fun q r E => ?_
 unfold ZdB at E
 split at E
 ·obtain ⟨hp, rfl⟩ := so2 E
  rename_i p
  exact ⟨_, _, rfl, (ZxF p).trans (ZvO p)⟩
 ·cases E

def Zmt : Sums := ⟨tblS [(154, Z65), (206, Zew)], tblM [], false⟩
theorem Zxd : Ze prog Zmt := ⟨Za ⟨⟨call154, Z7L⟩, ⟨call206, ZiT⟩, ⟨⟩⟩, tM⟩
def ZeW (p : Int) : Option ((Nat × List Int) × Int) :=
 (if (!(Z06 p)) = true then some ((0, []), 1) else (if (prB p) = true then (if (prB p) = true then (if (prB p) = true then some ((3, [(((Z2D p 0 (0, 0) 1).1 : Nat) : Int), (((Z2D p 1 (0, 0) 1).1 : Nat) : Int), (((Z2D p 2 (0, 0) 1).1 : Nat) : Int)]), 0) else none) else none) else none))
theorem ZxR (p : Int) : eT Zmt 200 23 Zdp [pI p] = ZeW p := by
 kernel_rfl
def Z0V (p : Int) : (Nat × List Int) × Int :=
 (if (!(Z06 p)) = true then ((0, []), 1) else ((3, [(((Z2D p 0 (0, 0) 1).1 : Nat) : Int), (((Z2D p 1 (0, 0) 1).1 : Nat) : Int), (((Z2D p 2 (0, 0) 1).1 : Nat) : Int)]), 0))
theorem Zw0 (p : Int) : ZeW p = some (Z0V p) := by
 unfold ZeW Z0V
 (try simp only [Zz])
 repeat' (first | with_reducible rfl | refine Zv (by (with_reducible first | assumption | exact ZJo ‹_›)) ?_ | refine Zm (fun _ => ?_) (fun _ => ?_) | rfl)
def ZdL : RunP
 | [.v (.int .i64 p)] => some (true, ZgJ (Z0V p))
 | _ => none
theorem ZqR : Sound prog 200 ZdL := by
 refine Zd ZnG Zxd (by kernel_rfl) func200 ntmps200 rfl (by kernel_rfl) fun q r E => ?_
 unfold ZdL at E
 split at E
 ·obtain ⟨hp, rfl⟩ := so2 E
  rename_i p
  exact ⟨_, _, rfl, (ZxR p).trans (Zw0 p)⟩
 ·cases E

end

end Go.Proofs.YtcdpfpfbilfpoaaGreatDoor
