import Derived.Test.YtcdpfpfbilfpoaaGreatDoorHz
import Derived.Test.YtcdpfpfbilfpoaaGreatDoorProg
set_option linter.unusedSimpArgs false
set_option linter.unusedVariables false
namespace Go.Proofs.YtcdpfpfbilfpoaaGreatDoor
open Go.RowKit Tryz
noncomputable section
def Zwd : Sums := ⟨tblS [], tblM [], false⟩
theorem ZFp : Ze prog Zwd := ⟨Za ⟨⟩, tM⟩
def ZjL (p : Int) : Option (Bool) :=
 (if (p == 3) = true then (if (p == 3) = true then some true else some false) else (if (p == 5) = true then (if (p == 5) = true then some true else some false) else (if (p == 7) = true then (if (p == 7) = true then some true else some false) else (if (p == 11) = true then (if (p == 11) = true then some true else some false) else (if (p == 13) = true then (if (p == 13) = true then some true else some false) else (if (p == 17) = true then (if (p == 17) = true then some true else some false) else (if (p == 19) = true then (if (p == 19) = true then some true else some false) else (if (p == 23) = true then (if (p == 23) = true then some true else some false) else (if (p == 29) = true then (if (p == 29) = true then some true else some false) else (if (p == 31) = true then some true else some false))))))))))
theorem ZGe (p : Int) : eT Zwd 35 15 Z1M [pI p] = ZjL p := by
 kernel_rfl
def Z6 (p : Int) : Bool :=
 (if (p == 3) = true then (if (p == 3) = true then true else false) else (if (p == 5) = true then (if (p == 5) = true then true else false) else (if (p == 7) = true then (if (p == 7) = true then true else false) else (if (p == 11) = true then (if (p == 11) = true then true else false) else (if (p == 13) = true then (if (p == 13) = true then true else false) else (if (p == 17) = true then (if (p == 17) = true then true else false) else (if (p == 19) = true then (if (p == 19) = true then true else false) else (if (p == 23) = true then (if (p == 23) = true then true else false) else (if (p == 29) = true then (if (p == 29) = true then true else false) else (if (p == 31) = true then true else false))))))))))
theorem ZDY (p : Int) : ZjL p = some (Z6 p) := by
 unfold ZjL Z6
 (try simp only [Zz])
 repeat' (first | with_reducible rfl | refine Zm (fun _ => ?_) (fun _ => ?_) | rfl)
def Z79 : RunP
 | [.v (.int .i64 p)] => some (true, Z4k (Z6 p))
 | _ => none
theorem Z8m : Sound prog 35 Z79 := by
 refine Zd Z9i ZFp (by kernel_rfl) func35 ntmps35 rfl (by kernel_rfl) fun q r E => ?_
 unfold Z79 at E
 split at E
 ·obtain ⟨hp, rfl⟩ := so2 E
  rename_i p
  exact ⟨_, _, rfl, (ZGe p).trans (ZDY p)⟩
 ·cases E

def ZEr : Sums := ⟨tblS [(35, Z79)], tblM [], false⟩
theorem ZJK : Ze prog ZEr := ⟨Za ⟨⟨call35, Z8m⟩, ⟨⟩⟩, tM⟩
def Zpn (p : Int) (rightk righth : Bool) : Option (Int) :=
 (if (!(Z6 p)) = true then some 1 else (if (rightk) = true then (if (!righth) = true then some 2 else some 0) else none))
theorem ZK6 (p : Int) (rightk righth : Bool) : eT ZEr 106 11 Z2f [pI p, .f (ZG2 rightk righth)] = Zpn p rightk righth := by
 kernel_rfl
def ZK (p : Int) (rightk righth : Bool) : Int := if Z6 p = true then (if righth = true then 0 else 2) else 1
theorem ZpM {p : Int} {k b : Bool} (h : ZK p k b = 0) : Z6 p = true /\ b = true := by
 unfold ZK at h
 cases h1 : Z6 p <;> cases h2 : b <;> simp [h1, h2] at h ⊢
theorem Zy {p : Int} (h : Z6 p = true) : Pr p := by
 unfold Pr; simp [Z6] at h; omega
theorem Z6A {p : Int} {k b : Bool} (h : ¬ (ZK p k b != 0) = true) : prB p = true := Zgs (Zy (ZpM (by simpa using h)).1)
theorem Z5W {p : Int} {k b : Bool} (h : (ZK p k b == 0) = true) : prB p = true := Z6A (by simpa using h)
theorem ZfX {p : Int} (h : Z6 p = true) : prB p = true := Zgs (Zy h)
theorem ZAT {p : Int} (h : ¬ (!(Z6 p)) = true) : prB p = true := ZfX (by simpa using h)
theorem ZJy (p : Int) (rightk righth : Bool) (hp : (rightk || !(Z6 p)) = true) : Zpn p rightk righth = some (ZK p rightk righth) := by
 unfold Zpn ZK
 cases h : Z6 p <;> cases rightk <;> cases righth <;> simp_all
def Z3e : RunP
 | [.v (.int .i64 p), .f rightg] => some ((okV (rightg [])) || !(Z6 p), Z7e (ZK p (okV (rightg [])) (Zen (rightg []))))
 | _ => none
theorem Z2S : Sound prog 106 Z3e := by
 refine ZjF Zdj ZJK (by kernel_rfl) func106 ntmps106 rfl (by kernel_rfl) ?_
 intro W pvs avs rs hargs hrun
 unfold Z3e at hrun
 split at hrun
 ·simp only [Option.some.injEq, Prod.mk.injEq] at hrun
  obtain ⟨hp, rfl⟩ := hrun
  rename_i p rightg
  have hargs := All2.replace (l1 := [_]) hargs (y := .f (ZG2 _ _)) fun b hb => ZnJ hb (ZMz _)
  exact ⟨_, _, _, hargs, rfl, (ZK6 p (okV (rightg [])) (Zen (rightg []))).trans (ZJy p (okV (rightg [])) (Zen (rightg [])) hp)⟩
 ·cases hrun

def ZEv : Sums := ⟨tblS [], tblM [], false⟩
theorem ZJO : Ze prog ZEv := ⟨Za ⟨⟩, tM⟩
def Zpr (n_ low high : Int) : Option (Bool) :=
 (if (decide (n_ ≥ low)) = true then some (decide (n_ <= high)) else some false)
theorem ZKa (n_ low high : Int) : eT ZEv 160 15 Z1M [pI n_, pI low, pI high] = Zpr n_ low high := by
 kernel_rfl
def Z1U (n_ low high : Int) : Bool :=
 (if (decide (n_ ≥ low)) = true then decide (n_ <= high) else false)
theorem ZJC (n_ low high : Int) : Zpr n_ low high = some (Z1U n_ low high) := by
 unfold Zpr Z1U
 (try simp only [Zz])
 repeat' (first | with_reducible rfl | refine Zm (fun _ => ?_) (fun _ => ?_) | rfl)
def Z7Q : RunP
 | [.v (.int .i64 n_), .v (.int .i64 low), .v (.int .i64 high)] => some (true, Z4k (Z1U n_ low high))
 | _ => none
theorem Z8N : Sound prog 160 Z7Q := by
 refine Zd Z9i ZJO (by kernel_rfl) func160 ntmps160 rfl (by kernel_rfl) fun q r E => ?_
 unfold Z7Q at E
 split at E
 ·obtain ⟨hp, rfl⟩ := so2 E
  rename_i n_ low high
  exact ⟨_, _, rfl, (ZKa n_ low high).trans (ZJC n_ low high)⟩
 ·cases E

def Zrt : Sums := ⟨tblS [], tblM [], false⟩
theorem ZCB : Ze prog Zrt := ⟨Za ⟨⟩, tM⟩
def Zi0 (p x : Int) : Option (Bool) :=
 (if (decide (x ≥ 0)) = true then some (decide (x < p)) else some false)
theorem ZDd (p x : Int) : eT Zrt 120 12 Z1M [pI p, pI x] = Zi0 p x := by
 kernel_rfl
def Z0p (p x : Int) : Bool :=
 (if (decide (x ≥ 0)) = true then decide (x < p) else false)
theorem ZC2 (p x : Int) : Zi0 p x = some (Z0p p x) := by
 unfold Zi0 Z0p
 (try simp only [Zz])
 repeat' (first | with_reducible rfl | refine Zm (fun _ => ?_) (fun _ => ?_) | rfl)
def Z7F : RunP
 | [.v (.int .i64 p), .v (.int .i64 x)] => some (true, Z4k (Z0p p x))
 | _ => none
theorem Za9 : Sound prog 120 Z7F := by
 refine Zd Z9i ZCB (by kernel_rfl) func120 ntmps120 rfl (by kernel_rfl) fun q r E => ?_
 unfold Z7F at E
 split at E
 ·obtain ⟨hp, rfl⟩ := so2 E
  rename_i p x
  exact ⟨_, _, rfl, (ZDd p x).trans (ZC2 p x)⟩
 ·cases E

def Z9b : Sums := ⟨tblS [(120, Z7F)], tblM [], false⟩
theorem Zx3 : Ze prog Z9b := ⟨Za ⟨⟨call120, Za9⟩, ⟨⟩⟩, tM⟩
def Zui (p : Int) (Z2 : Nat) (listl : List Int) (t9 : Int) : Tab := ⟨[vI (p), .row 4, jK, jK, vB (false), jK, jK, .row 4, vI (((Z2 : Nat) : Int)), vI (t9), jK, jK, jK, jK, jK, jK, jK, jK], [(4, .ros Z2 (.ints listl))]⟩
def Z5F (P : Program) (fu : Nat) (p : Int) (Z2 : Nat) (listl : List Int) (f : Nat) (t9 : Int) : Option (Bool) := Z1u (exec P Z9b 18 (fun _ => fu + 100) (Code.sub [1, 0, 1, 0, 0] (ZS P 158))) f (Zui p Z2 listl t9) (Z0g 0 (kSeq (fun zs9 => exec P Z9b 18 (fun _ => fu + 100) (Code.sub [1, 1] (ZS P 158)) zs9 (finT P 158 Z1M)) (finT P 158 Z1M)))
def Z5x (p : Int) (Z2 : Nat) (listl : List Int) (Z1F : Int -> Option (Bool)) (t9 : Int) : Option (Bool) :=
 (if (decide (t9 < ((Z2 : Nat) : Int))) = true then (if (decide (0 <= t9) && decide (t9 < ((Z2 : Nat) : Int))) = true then (if (Nat.ble (t9.toNat * 1 + 1) listl.length) = true then (if (!(Z0p p (listl.getD (t9.toNat * 1) 0))) = true then some false else Z1F (wI (t9 + 1))) else none) else none) else some true)
def Z35 (fu : Nat) (p : Int) (Z2 : Nat) (listl : List Int) : Nat -> Int -> Option (Bool)
 | 0, _ => none
 | f + 1, t9 => Z5x p Z2 listl (Z35 fu p Z2 listl f) t9
theorem Zoi (fu : Nat) (p : Int) (Z2 : Nat) (listl : List Int) : ∀ (f : Nat) (t9 : Int), Z5F prog fu p Z2 listl f t9 = Z35 fu p Z2 listl f t9 := by
 intro f
 induction f with
 | zero => intros; rfl
 | succ f ih =>
  intro t9
  have h1 : Z5F prog fu p Z2 listl (f + 1) t9 = Z5x p Z2 listl (Z5F prog fu p Z2 listl f) t9 := by kernel_rfl
  have h2 : Z5F prog fu p Z2 listl f = Z35 fu p Z2 listl f := by funext t9; exact ih t9
  rw [h1, h2]
  rfl
def Zgk (p : Int) (Z2 : Nat) (listl : List Int) (lo0 : Int -> Option (Bool)) : Option (Bool) :=
 lo0 0
def ZeP (fu : Nat) (p : Int) (Z2 : Nat) (listl : List Int) : Option (Bool) := Zgk p Z2 listl (Z35 fu p Z2 listl (fu + 100))
theorem ZxH (fu : Nat) (p : Int) (Z2 : Nat) (listl : List Int) : eF fu Z9b 158 18 Z1M [pI p, .s Z2 (.ints listl)] = ZeP fu p Z2 listl := by
 have h1 : eF fu Z9b 158 18 Z1M [pI p, .s Z2 (.ints listl)] = Zgk p Z2 listl (Z5F prog fu p Z2 listl (fu + 100)) := by kernel_rfl
 have c0 : Z5F prog fu p Z2 listl (fu + 100) = Z35 fu p Z2 listl (fu + 100) := by funext t9; exact Zoi fu p Z2 listl (fu + 100) t9
 rw [h1, c0]
 rfl
def ZM (p : Int) (l : List Int) : Bool := l.all (fun x => Z0p p x)
theorem ZvQ (p : Int) (Z2 : Nat) (listl : List Int) (hp : (lenB Z2 1 listl) = true) : ZeP Z2 p Z2 listl = some (ZM p listl) := by
 obtain ⟨hl, hn⟩ := Z7Y hp
 have key : ∀ F, Z2 < F -> (Z35 Z2 p Z2 listl) F 0 = some (if (List.range Z2).all (fun k => (fun x => Z0p p x) (listl.getD (k * 1) 0)) = true then true else false) := by
  intro F hF
  refine scan hF (fun f k hk => ?_) fun f => ?_
  ·show Z5x p Z2 listl ((Z35 Z2 p Z2 listl) f) (k : Int) = _
   unfold Z5x
   rw [if_pos (by simpa using hk), if_pos (by simpa using hk), if_pos (leb (by rw [hl, Int.toNat_natCast]; omega)), Z4j hk (by omega)]
   first | rfl | (rw [Zz]; rfl)
  ·show Z5x p Z2 listl ((Z35 Z2 p Z2 listl) f) ((Z2 : Nat) : Int) = _
   unfold Z5x
   rw [if_neg (by simp)]
 unfold ZeP Zgk
 rw [key _ (by omega)]
 show _ = some ((listl).all (fun x => Z0p p x))
 rw [ZEx Z2 listl (by omega)]
 cases (List.range Z2).all (fun k => (fun x => Z0p p x) (listl.getD (k * 1) 0)) <;> rfl
def Za0 : RunP
 | [.v (.int .i64 p), .s Z2 (.ints listl)] => some (lenB Z2 1 listl, Z4k (ZM p listl))
 | _ => none
theorem Zhk : Sound prog 158 Za0 := by
 refine Zd Z9i Zx3 (by kernel_rfl) func158 ntmps158 rfl (by kernel_rfl) fun q r E => ?_
 unfold Za0 at E
 split at E
 ·obtain ⟨hp, rfl⟩ := so2 E
  rename_i p Z2 listl
  exact ⟨_, _, rfl, (ZxH _ p Z2 listl).trans (ZvQ p Z2 listl hp)⟩
 ·cases E

def Zc0 : Sums := ⟨tblS [(160, Z7Q)], tblM [], false⟩
theorem ZCO : Ze prog Zc0 := ⟨Za ⟨⟨call160, Z8N⟩, ⟨⟩⟩, tM⟩
def ZzX (p d : Int) : Tab := ⟨[vI (p), jK, vB (false), vI (d), vI (p), vB ((Z1U p 3 31)), vB ((!(Z1U p 3 31))), ] ++ (jN 10 ++ [jK]), []⟩
def Z7t (P : Program) (fu : Nat) (p : Int) (f : Nat) (d : Int) : Option (Bool) := Z1u (exec P Zc0 18 (fun _ => fu + 100) (Code.sub [1, 1, 0, 1, 0, 0] (ZS P 154))) f (ZzX p d) (Z0g 0 (kSeq (fun zs9 => exec P Zc0 18 (fun _ => fu + 100) (Code.sub [1, 1, 1] (ZS P 154)) zs9 (finT P 154 Z1M)) (finT P 154 Z1M)))
def ZlV (p : Int) (Z1F : Int -> Option (Bool)) (d : Int) : Option (Bool) :=
 (if (decide ((wI (d * d)) <= p)) = true then (if (!(d == 0)) = true then (if ((p.tmod d) == 0) = true then some false else Z1F (wI (d + 1))) else none) else some true)
def Z9a (fu : Nat) (p : Int) : Nat -> Int -> Option (Bool)
 | 0, _ => none
 | f + 1, d => ZlV p (Z9a fu p f) d
theorem Zso (fu : Nat) (p : Int) : ∀ (f : Nat) (d : Int), Z7t prog fu p f d = Z9a fu p f d := by
 intro f
 induction f with
 | zero => intros; rfl
 | succ f ih =>
  intro d
  have h1 : Z7t prog fu p (f + 1) d = ZlV p (Z7t prog fu p f) d := by kernel_rfl
  have h2 : Z7t prog fu p f = Z9a fu p f := by funext d; exact ih d
  rw [h1, h2]
  rfl
def Zk5 (p : Int) (lo0 : Int -> Option (Bool)) : Option (Bool) :=
 (if (!(Z1U p 3 31)) = true then some false else lo0 2)
def Zic (fu : Nat) (p : Int) : Option (Bool) := Zk5 p (Z9a fu p (fu + 100))
theorem ZDq (fu : Nat) (p : Int) : eF fu Zc0 154 18 Z1M [pI p] = Zic fu p := by
 have h1 : eF fu Zc0 154 18 Z1M [pI p] = Zk5 p (Z7t prog fu p (fu + 100)) := by kernel_rfl
 have c0 : Z7t prog fu p (fu + 100) = Z9a fu p (fu + 100) := by funext d; exact Zso fu p (fu + 100) d
 rw [h1, c0]
 rfl
def Z06 (p : Int) : Bool := Z6 p
theorem ZPl {p : Int} (h3 : 3 <= p) (h31 : p <= 31) : p = 3 \/ p = 4 \/ p = 5 \/ p = 6 \/ p = 7 \/ p = 8 \/ p = 9 \/ p = 10 \/ p = 11 \/ p = 12 \/ p = 13 \/ p = 14 \/ p = 15 \/ p = 16 \/ p = 17 \/ p = 18 \/ p = 19 \/ p = 20 \/ p = 21 \/ p = 22 \/ p = 23 \/ p = 24 \/ p = 25 \/ p = 26 \/ p = 27 \/ p = 28 \/ p = 29 \/ p = 30 \/ p = 31 := by omega
theorem ZCf (p : Int) : Zic 40 p = some (Z06 p) := by
 by_cases hr : 3 <= p /\ p <= 31
 ·obtain ⟨h3, h31⟩ := hr
  obtain rfl | rfl | rfl | rfl | rfl | rfl | rfl | rfl | rfl | rfl | rfl | rfl | rfl | rfl | rfl | rfl | rfl | rfl | rfl | rfl | rfl | rfl | rfl | rfl | rfl | rfl | rfl | rfl | rfl := ZPl h3 h31
  all_goals kernel_rfl
 ·have hin : Z1U p 3 31 = false := by simp [Z1U]; omega
  unfold Zic Zk5
  rw [hin]
  show some false = some (Z6 p)
  congr 1
  symm
  simp [Z6]; omega
def Z65 : RunP
 | [.v (.int .i64 p)] => some (true, Z4k (Z06 p))
 | _ => none
theorem Z7L : Sound prog 154 Z65 := by
 refine Zd Z9i ZCO (by kernel_rfl) func154 ntmps154 rfl (by kernel_rfl) fun q r E => ?_
 unfold Z65 at E
 split at E
 ·obtain ⟨hp, rfl⟩ := so2 E
  rename_i p
  exact ⟨_, _, rfl, (ZDq _ p).trans (ZCf p)⟩
 ·cases E

theorem ZJo {p : Int} (h : ¬ (!(Z06 p)) = true) : prB p = true := ZAT h
def Z9f : Sums := ⟨tblS [(154, Z65), (160, Z7Q)], tblM [], false⟩
theorem Zxf : Ze prog Z9f := ⟨Za ⟨⟨call154, Z7L⟩, ⟨call160, Z8N⟩, ⟨⟩⟩, tM⟩
def Zuo (p : Int) (Z2 : Nat) (listl : List Int) (i : Int) : Tab := ⟨[vI (p), .row 4, jK, jK, vI (0), vI (i), vI (p), vB ((Z06 p)), vB ((!(Z06 p))), ] ++ (jN 13 ++ [jK]), [(4, .ros Z2 (.ints listl))]⟩
def Z5L (P : Program) (fu : Nat) (p : Int) (Z2 : Nat) (listl : List Int) (f : Nat) (i : Int) : Option (Int) := Z1u (exec P Z9f 23 (fun _ => fu + 100) (Code.sub [1, 1, 0, 1, 0, 0] (ZS P 152))) f (Zuo p Z2 listl i) (Z0g 0 (kSeq (fun zs9 => exec P Z9f 23 (fun _ => fu + 100) (Code.sub [1, 1, 1] (ZS P 152)) zs9 (finT P 152 Z2f)) (finT P 152 Z2f)))
def Z5C (p : Int) (Z2 : Nat) (listl : List Int) (Z1F : Int -> Option (Int)) (i : Int) : Option (Int) :=
 (if (decide (i < ((Z2 : Nat) : Int))) = true then (if (decide (0 <= i) && decide (i < ((Z2 : Nat) : Int))) = true then (if (Nat.ble (i.toNat * 1 + 1) listl.length) = true then (if (!(Z1U (listl.getD (i.toNat * 1) 0) 0 (wI (p - 1)))) = true then some 2 else Z1F (wI (i + 1))) else none) else none) else some 0)
def Z39 (fu : Nat) (p : Int) (Z2 : Nat) (listl : List Int) : Nat -> Int -> Option (Int)
 | 0, _ => none
 | f + 1, i => Z5C p Z2 listl (Z39 fu p Z2 listl f) i
theorem Zoo (fu : Nat) (p : Int) (Z2 : Nat) (listl : List Int) : ∀ (f : Nat) (i : Int), Z5L prog fu p Z2 listl f i = Z39 fu p Z2 listl f i := by
 intro f
 induction f with
 | zero => intros; rfl
 | succ f ih =>
  intro i
  have h1 : Z5L prog fu p Z2 listl (f + 1) i = Z5C p Z2 listl (Z5L prog fu p Z2 listl f) i := by kernel_rfl
  have h2 : Z5L prog fu p Z2 listl f = Z39 fu p Z2 listl f := by funext i; exact ih i
  rw [h1, h2]
  rfl
def Zgp (p : Int) (Z2 : Nat) (listl : List Int) (lo0 : Int -> Option (Int)) : Option (Int) :=
 (if (!(Z06 p)) = true then some 1 else lo0 0)
def ZeY (fu : Nat) (p : Int) (Z2 : Nat) (listl : List Int) : Option (Int) := Zgp p Z2 listl (Z39 fu p Z2 listl (fu + 100))
theorem ZxT (fu : Nat) (p : Int) (Z2 : Nat) (listl : List Int) : eF fu Z9f 152 23 Z2f [pI p, .s Z2 (.ints listl)] = ZeY fu p Z2 listl := by
 have h1 : eF fu Z9f 152 23 Z2f [pI p, .s Z2 (.ints listl)] = Zgp p Z2 listl (Z5L prog fu p Z2 listl (fu + 100)) := by kernel_rfl
 have c0 : Z5L prog fu p Z2 listl (fu + 100) = Z39 fu p Z2 listl (fu + 100) := by funext i; exact Zoo fu p Z2 listl (fu + 100) i
 rw [h1, c0]
 rfl
def Z00 (p : Int) (l : List Int) : Int := if Z06 p = true then (if l.all (fun x => Z1U x 0 (wrap64 (p - 1))) = true then 0 else 2) else 1
theorem Zcf {p : Int} {l : List Int} (h : ¬ (Z00 p l != 0) = true) : prB p = true := by
 refine Zgs (Zy ?_)
 have h : Z00 p l = 0 := by simpa using h
 cases hf : Z6 p
 ·simp [Z00, Z06, hf] at h
 ·rfl
theorem Zfa {p : Int} {l : List Int} (h : (Z00 p l == 0) = true) : prB p = true := Zcf (by simpa using h)
theorem Zw2 (p : Int) (Z2 : Nat) (listl : List Int) (hp : (lenB Z2 1 listl) = true) : ZeY Z2 p Z2 listl = some (Z00 p listl) := by
 obtain ⟨hl, hn⟩ := Z7Y hp
 have key : ∀ F, Z2 < F -> (Z39 Z2 p Z2 listl) F 0 = some (if (List.range Z2).all (fun k => (fun x => Z1U x 0 (wrap64 (p - 1))) (listl.getD (k * 1) 0)) = true then 0 else 2) := by
  intro F hF
  refine scan hF (fun f k hk => ?_) fun f => ?_
  ·show Z5C p Z2 listl ((Z39 Z2 p Z2 listl) f) (k : Int) = _
   unfold Z5C
   rw [if_pos (by simpa using hk), if_pos (by simpa using hk), if_pos (leb (by rw [hl, Int.toNat_natCast]; omega)), Z4j hk (by omega)]
   first | rfl | (rw [Zz]; rfl)
  ·show Z5C p Z2 listl ((Z39 Z2 p Z2 listl) f) ((Z2 : Nat) : Int) = _
   unfold Z5C
   rw [if_neg (by simp)]
 unfold ZeY Zgp
 show _ = some (if Z06 p = true then (if (listl).all (fun x => Z1U x 0 (wrap64 (p - 1))) = true then 0 else 2) else 1)
 cases hf : Z06 p
 ·rfl
 ·rw [key _ (by omega), ZEx Z2 listl (by omega)]
  rfl
def Z5R : RunP
 | [.v (.int .i64 p), .s Z2 (.ints listl)] => some (lenB Z2 1 listl, Z7e (Z00 p listl))
 | _ => none
theorem Z8b : Sound prog 152 Z5R := by
 refine Zd Zdj Zxf (by kernel_rfl) func152 ntmps152 rfl (by kernel_rfl) fun q r E => ?_
 unfold Z5R at E
 split at E
 ·obtain ⟨hp, rfl⟩ := so2 E
  rename_i p Z2 listl
  exact ⟨_, _, rfl, (ZxT _ p Z2 listl).trans (Zw2 p Z2 listl hp)⟩
 ·cases E

def ZrH : Sums := ⟨tblS [(160, Z7Q)], tblM [], false⟩
theorem ZCS : Ze prog ZrH := ⟨Za ⟨⟨call160, Z8N⟩, ⟨⟩⟩, tM⟩
def Zig (p : Int) (a : P2) : Option (Bool) :=
 (if (Z1U a.1 0 (wI (p - 1))) = true then some (Z1U a.2 0 (wI (p - 1))) else some false)
theorem ZDu (p : Int) (a : P2) : eT ZrH 159 17 Z1M [pI p, pA a] = Zig p a := by
 kernel_rfl
def Z7d (p : Int) (a : P2) : Bool :=
 (if (Z1U a.1 0 (wrap64 (p - 1))) = true then (Z1U a.2 0 (wrap64 (p - 1))) else false)
theorem ZCj (p : Int) (a : P2) : Zig p a = some (Z7d p a) := by
 unfold Zig Z7d
 (try simp only [Zz])
 repeat' (first | with_reducible rfl | refine Zm (fun _ => ?_) (fun _ => ?_) | rfl)
def Zhb : RunP
 | [.v (.int .i64 p), .v (.agg ⟨[.int .i64 a0, .int .i64 a1]⟩)] => some (true, Z4k (Z7d p (a0, a1)))
 | _ => none
theorem ZvE : Sound prog 159 Zhb := by
 refine Zd Z9i ZCS (by kernel_rfl) func159 ntmps159 rfl (by kernel_rfl) fun q r E => ?_
 unfold Zhb at E
 split at E
 ·obtain ⟨hp, rfl⟩ := so2 E
  rename_i p a0 a1
  exact ⟨_, _, rfl, (ZDu p (a0, a1)).trans (ZCj p (a0, a1))⟩
 ·cases E

def Zei : Sums := ⟨tblS [(154, Z65), (159, Zhb)], tblM [], false⟩
theorem ZFE : Ze prog Zei := ⟨Za ⟨⟨call154, Z7L⟩, ⟨call159, ZvE⟩, ⟨⟩⟩, tM⟩
def ZD3 (p : Int) (Zf : Nat) (pointsl : List Int) (i : Int) : Tab := ⟨[vI (p), .row 4, jK, jK, vI (0), vI (i), vI (p), vB ((Z06 p)), vB ((!(Z06 p))), ] ++ (jN 12 ++ [jK]), [(4, .ros Zf (.ints pointsl))]⟩
def Z8x (P : Program) (fu : Nat) (p : Int) (Zf : Nat) (pointsl : List Int) (f : Nat) (i : Int) : Option (Int) := Z1u (exec P Zei 22 (fun _ => fu + 100) (Code.sub [1, 1, 0, 1, 0, 0] (ZS P 97))) f (ZD3 p Zf pointsl i) (Z0g 0 (kSeq (fun zs9 => exec P Zei 22 (fun _ => fu + 100) (Code.sub [1, 1, 1] (ZS P 97)) zs9 (finT P 97 Z2f)) (finT P 97 Z2f)))
def Z8s (p : Int) (Zf : Nat) (pointsl : List Int) (Z1F : Int -> Option (Int)) (i : Int) : Option (Int) :=
 (if (decide (i < ((Zf : Nat) : Int))) = true then (if (decide (0 <= i) && decide (i < ((Zf : Nat) : Int))) = true then (if (Nat.ble (i.toNat * 2 + 2) pointsl.length) = true then (if (!(Z7d p (pointsl.getD (i.toNat * 2 + 0) 0, pointsl.getD (i.toNat * 2 + 1) 0))) = true then some 2 else Z1F (wI (i + 1))) else none) else none) else some 0)
def Z5l (fu : Nat) (p : Int) (Zf : Nat) (pointsl : List Int) : Nat -> Int -> Option (Int)
 | 0, _ => none
 | f + 1, i => Z8s p Zf pointsl (Z5l fu p Zf pointsl f) i
theorem Zvb (fu : Nat) (p : Int) (Zf : Nat) (pointsl : List Int) : ∀ (f : Nat) (i : Int), Z8x prog fu p Zf pointsl f i = Z5l fu p Zf pointsl f i := by
 intro f
 induction f with
 | zero => intros; rfl
 | succ f ih =>
  intro i
  have h1 : Z8x prog fu p Zf pointsl (f + 1) i = Z8s p Zf pointsl (Z8x prog fu p Zf pointsl f) i := by kernel_rfl
  have h2 : Z8x prog fu p Zf pointsl f = Z5l fu p Zf pointsl f := by funext i; exact ih i
  rw [h1, h2]
  rfl
def Zm7 (p : Int) (Zf : Nat) (pointsl : List Int) (lo0 : Int -> Option (Int)) : Option (Int) :=
 (if (!(Z06 p)) = true then some 1 else lo0 0)
def ZjU (fu : Nat) (p : Int) (Zf : Nat) (pointsl : List Int) : Option (Int) := Zm7 p Zf pointsl (Z5l fu p Zf pointsl (fu + 100))
theorem ZGt (fu : Nat) (p : Int) (Zf : Nat) (pointsl : List Int) : eF fu Zei 97 22 Z2f [pI p, .s Zf (.ints pointsl)] = ZjU fu p Zf pointsl := by
 have h1 : eF fu Zei 97 22 Z2f [pI p, .s Zf (.ints pointsl)] = Zm7 p Zf pointsl (Z8x prog fu p Zf pointsl (fu + 100)) := by kernel_rfl
 have c0 : Z8x prog fu p Zf pointsl (fu + 100) = Z5l fu p Zf pointsl (fu + 100) := by funext i; exact Zvb fu p Zf pointsl (fu + 100) i
 rw [h1, c0]
 rfl
def ZW (p : Int) (l : List P2) : Int := if Z06 p = true then (if l.all (fun x => Z7d p x) = true then 0 else 2) else 1
theorem ZbF {p : Int} {l : List P2} (h : ¬ (ZW p l != 0) = true) : prB p = true := by
 refine Zgs (Zy ?_)
 have h : ZW p l = 0 := by simpa using h
 cases hf : Z6 p
 ·simp [ZW, Z06, hf] at h
 ·rfl
theorem Zce {p : Int} {l : List P2} (h : (ZW p l == 0) = true) : prB p = true := ZbF (by simpa using h)
theorem ZEd (p : Int) (Zf : Nat) (pointsl : List Int) (hp : (lenB Zf 2 pointsl) = true) : ZjU Zf p Zf pointsl = some (ZW p (Z5v Zf pointsl)) := by
 obtain ⟨hl, hn⟩ := Z7Y hp
 have key : ∀ F, Zf < F -> (Z5l Zf p Zf pointsl) F 0 = some (if (List.range Zf).all (fun k => (fun x => Z7d p x) (pointsl.getD (k * 2) 0, pointsl.getD (k * 2 + 1) 0)) = true then 0 else 2) := by
  intro F hF
  refine scan hF (fun f k hk => ?_) fun f => ?_
  ·show Z8s p Zf pointsl ((Z5l Zf p Zf pointsl) f) (k : Int) = _
   unfold Z8s
   rw [if_pos (by simpa using hk), if_pos (by simpa using hk), if_pos (leb (by rw [hl, Int.toNat_natCast]; omega)), Z4j hk (by omega)]
   first | rfl | (rw [Zz]; rfl)
  ·show Z8s p Zf pointsl ((Z5l Zf p Zf pointsl) f) ((Zf : Nat) : Int) = _
   unfold Z8s
   rw [if_neg (by simp)]
 unfold ZjU Zm7
 show _ = some (if Z06 p = true then (if ((Z5v Zf pointsl)).all (fun x => Z7d p x) = true then 0 else 2) else 1)
 cases hf : Z06 p
 ·rfl
 ·rw [key _ (by omega), ZEy Zf pointsl]
  rfl
def Z3k : RunP
 | [.v (.int .i64 p), .s Zf (.ints pointsl)] => some (lenB Zf 2 pointsl, Z7e (ZW p (Z5v Zf pointsl)))
 | _ => none
theorem Z3U : Sound prog 97 Z3k := by
 refine Zd Zdj ZFE (by kernel_rfl) func97 ntmps97 rfl (by kernel_rfl) fun q r E => ?_
 unfold Z3k at E
 split at E
 ·obtain ⟨hp, rfl⟩ := so2 E
  rename_i p Zf pointsl
  exact ⟨_, _, rfl, (ZGt _ p Zf pointsl).trans (ZEd p Zf pointsl hp)⟩
 ·cases E

def Zwq : Sums := ⟨tblS [(160, Z7Q)], tblM [], false⟩
theorem ZFG : Ze prog Zwq := ⟨Za ⟨⟨call160, Z8N⟩, ⟨⟩⟩, tM⟩
def ZjV (p : Int) (l : P3) : Option (Bool) :=
 (if (Z1U l.1 0 (wI (p - 1))) = true then (if (Z1U l.2.1 0 (wI (p - 1))) = true then (if (Z1U l.2.2 0 (wI (p - 1))) = true then (if (l.1 == 1) = true then some true else (if (l.1 == 0) = true then some (l.2.1 == 1) else some false)) else some false) else some false) else some false)
theorem ZGv (p : Int) (l : P3) : eT Zwq 252 39 Z1M [pI p, pB l] = ZjV p l := by
 kernel_rfl
def Za6 (p : Int) (l : P3) : Bool :=
 (if (Z1U l.1 0 (wrap64 (p - 1))) = true then (if (Z1U l.2.1 0 (wrap64 (p - 1))) = true then (if (Z1U l.2.2 0 (wrap64 (p - 1))) = true then (if (l.1 == 1) = true then true else (if (l.1 == 0) = true then l.2.1 == 1 else false)) else false) else false) else false)
theorem ZEf (p : Int) (l : P3) : ZjV p l = some (Za6 p l) := by
 unfold ZjV Za6
 (try simp only [Zz])
 repeat' (first | with_reducible rfl | refine Zm (fun _ => ?_) (fun _ => ?_) | rfl)
def ZiM : RunP
 | [.v (.int .i64 p), .v (.agg ⟨[.int .i64 l0, .int .i64 l1, .int .i64 l2]⟩)] => some (true, Z4k (Za6 p (l0, l1, l2)))
 | _ => none
theorem Zys : Sound prog 252 ZiM := by
 refine Zd Z9i ZFG (by kernel_rfl) func252 ntmps252 rfl (by kernel_rfl) fun q r E => ?_
 unfold ZiM at E
 split at E
 ·obtain ⟨hp, rfl⟩ := so2 E
  rename_i p l0 l1 l2
  exact ⟨_, _, rfl, (ZGv p (l0, l1, l2)).trans (ZEf p (l0, l1, l2))⟩
 ·cases E

def Zc1 : Sums := ⟨tblS [(154, Z65), (252, ZiM)], tblM [], false⟩
theorem ZCP : Ze prog Zc1 := ⟨Za ⟨⟨call154, Z7L⟩, ⟨call252, Zys⟩, ⟨⟩⟩, tM⟩
def ZzY (p : Int) (ZG : Nat) (linesl : List Int) (i : Int) : Tab := ⟨[vI (p), .row 4, jK, jK, vI (0), vI (i), vI (p), vB ((Z06 p)), vB ((!(Z06 p))), ] ++ (jN 12 ++ [jK]), [(4, .ros ZG (.ints linesl))]⟩
def Z7u (P : Program) (fu : Nat) (p : Int) (ZG : Nat) (linesl : List Int) (f : Nat) (i : Int) : Option (Int) := Z1u (exec P Zc1 22 (fun _ => fu + 100) (Code.sub [1, 1, 0, 1, 0, 0] (ZS P 223))) f (ZzY p ZG linesl i) (Z0g 0 (kSeq (fun zs9 => exec P Zc1 22 (fun _ => fu + 100) (Code.sub [1, 1, 1] (ZS P 223)) zs9 (finT P 223 Z2f)) (finT P 223 Z2f)))
def Z7j (p : Int) (ZG : Nat) (linesl : List Int) (Z1F : Int -> Option (Int)) (i : Int) : Option (Int) :=
 (if (decide (i < ((ZG : Nat) : Int))) = true then (if (decide (0 <= i) && decide (i < ((ZG : Nat) : Int))) = true then (if (Nat.ble (i.toNat * 3 + 3) linesl.length) = true then (if (!(Za6 p (linesl.getD (i.toNat * 3 + 0) 0, linesl.getD (i.toNat * 3 + 1) 0, linesl.getD (i.toNat * 3 + 2) 0))) = true then some 2 else Z1F (wI (i + 1))) else none) else none) else some 0)
def Z4z (fu : Nat) (p : Int) (ZG : Nat) (linesl : List Int) : Nat -> Int -> Option (Int)
 | 0, _ => none
 | f + 1, i => Z7j p ZG linesl (Z4z fu p ZG linesl f) i
theorem Zsp (fu : Nat) (p : Int) (ZG : Nat) (linesl : List Int) : ∀ (f : Nat) (i : Int), Z7u prog fu p ZG linesl f i = Z4z fu p ZG linesl f i := by
 intro f
 induction f with
 | zero => intros; rfl
 | succ f ih =>
  intro i
  have h1 : Z7u prog fu p ZG linesl (f + 1) i = Z7j p ZG linesl (Z7u prog fu p ZG linesl f) i := by kernel_rfl
  have h2 : Z7u prog fu p ZG linesl f = Z4z fu p ZG linesl f := by funext i; exact ih i
  rw [h1, h2]
  rfl
def Zk6 (p : Int) (ZG : Nat) (linesl : List Int) (lo0 : Int -> Option (Int)) : Option (Int) :=
 (if (!(Z06 p)) = true then some 1 else lo0 0)
def Zid (fu : Nat) (p : Int) (ZG : Nat) (linesl : List Int) : Option (Int) := Zk6 p ZG linesl (Z4z fu p ZG linesl (fu + 100))
theorem ZDr (fu : Nat) (p : Int) (ZG : Nat) (linesl : List Int) : eF fu Zc1 223 22 Z2f [pI p, .s ZG (.ints linesl)] = Zid fu p ZG linesl := by
 have h1 : eF fu Zc1 223 22 Z2f [pI p, .s ZG (.ints linesl)] = Zk6 p ZG linesl (Z7u prog fu p ZG linesl (fu + 100)) := by kernel_rfl
 have c0 : Z7u prog fu p ZG linesl (fu + 100) = Z4z fu p ZG linesl (fu + 100) := by funext i; exact Zsp fu p ZG linesl (fu + 100) i
 rw [h1, c0]
 rfl
def Zbr (p : Int) (l : List P3) : Int := if Z06 p = true then (if l.all (fun x => Za6 p x) = true then 0 else 2) else 1
theorem ZCg (p : Int) (ZG : Nat) (linesl : List Int) (hp : (lenB ZG 3 linesl) = true) : Zid ZG p ZG linesl = some (Zbr p (Znb ZG linesl)) := by
 obtain ⟨hl, hn⟩ := Z7Y hp
 have key : ∀ F, ZG < F -> (Z4z ZG p ZG linesl) F 0 = some (if (List.range ZG).all (fun k => (fun x => Za6 p x) (linesl.getD (k * 3) 0, linesl.getD (k * 3 + 1) 0, linesl.getD (k * 3 + 2) 0)) = true then 0 else 2) := by
  intro F hF
  refine scan hF (fun f k hk => ?_) fun f => ?_
  ·show Z7j p ZG linesl ((Z4z ZG p ZG linesl) f) (k : Int) = _
   unfold Z7j
   rw [if_pos (by simpa using hk), if_pos (by simpa using hk), if_pos (leb (by rw [hl, Int.toNat_natCast]; omega)), Z4j hk (by omega)]
   first | rfl | (rw [Zz]; rfl)
  ·show Z7j p ZG linesl ((Z4z ZG p ZG linesl) f) ((ZG : Nat) : Int) = _
   unfold Z7j
   rw [if_neg (by simp)]
 unfold Zid Zk6
 show _ = some (if Z06 p = true then (if ((Znb ZG linesl)).all (fun x => Za6 p x) = true then 0 else 2) else 1)
 cases hf : Z06 p
 ·rfl
 ·rw [key _ (by omega), ZMp ZG linesl]
  rfl
def Zh9 : RunP
 | [.v (.int .i64 p), .s ZG (.ints linesl)] => some (lenB ZG 3 linesl, Z7e (Zbr p (Znb ZG linesl)))
 | _ => none
theorem ZvC : Sound prog 223 Zh9 := by
 refine Zd Zdj ZCP (by kernel_rfl) func223 ntmps223 rfl (by kernel_rfl) fun q r E => ?_
 unfold Zh9 at E
 split at E
 ·obtain ⟨hp, rfl⟩ := so2 E
  rename_i p ZG linesl
  exact ⟨_, _, rfl, (ZDr _ p ZG linesl).trans (ZCg p ZG linesl hp)⟩
 ·cases E

def ZzN : Sums := ⟨tblS [(158, Za0)], tblM [], false⟩
theorem ZHH : Ze prog ZzN := ⟨Za ⟨⟨call158, Zhk⟩, ⟨⟩⟩, tM⟩
def ZlZ (p : Int) (l : P3) : Option (Bool) :=
 (if (!(ZM p [l.1, l.2.1, l.2.2])) = true then some false else (if (l.1 == 1) = true then some true else (if (l.1 == 0) = true then some (l.2.1 == 1) else some false)))
theorem ZIk (p : Int) (l : P3) : eT ZzN 112 22 Z1M [pI p, pB l] = ZlZ p l := by
 kernel_rfl
def Z3c (p : Int) (l : P3) : Bool :=
 (if (!(ZM p [l.1, l.2.1, l.2.2])) = true then false else (if (l.1 == 1) = true then true else (if (l.1 == 0) = true then l.2.1 == 1 else false)))
theorem ZHn (p : Int) (l : P3) : ZlZ p l = some (Z3c p l) := by
 unfold ZlZ Z3c
 (try simp only [Zz])
 repeat' (first | with_reducible rfl | refine Zm (fun _ => ?_) (fun _ => ?_) | rfl)
def Zkz : RunP
 | [.v (.int .i64 p), .v (.agg ⟨[.int .i64 l0, .int .i64 l1, .int .i64 l2]⟩)] => some (true, Z4k (Z3c p (l0, l1, l2)))
 | _ => none
theorem ZBJ : Sound prog 112 Zkz := by
 refine Zd Z9i ZHH (by kernel_rfl) func112 ntmps112 rfl (by kernel_rfl) fun q r E => ?_
 unfold Zkz at E
 split at E
 ·obtain ⟨hp, rfl⟩ := so2 E
  rename_i p l0 l1 l2
  exact ⟨_, _, rfl, (ZIk p (l0, l1, l2)).trans (ZHn p (l0, l1, l2))⟩
 ·cases E

def Zrs : Sums := ⟨tblS [], tblM [], false⟩
theorem ZCA : Ze prog Zrs := ⟨Za ⟨⟩, tM⟩
def ZhZ (Z0 : Int) : Option (Bool) :=
 (if (decide (Z0 ≥ 0)) = true then some (decide (Z0 <= 2)) else some false)
theorem ZDc (Z0 : Int) : eT Zrs 36 9 Z1M [pI Z0] = ZhZ Z0 := by
 kernel_rfl
def Z05 (Z0 : Int) : Bool :=
 (if (decide (Z0 ≥ 0)) = true then decide (Z0 <= 2) else false)
theorem ZC1 (Z0 : Int) : ZhZ Z0 = some (Z05 Z0) := by
 unfold ZhZ Z05
 (try simp only [Zz])
 repeat' (first | with_reducible rfl | refine Zm (fun _ => ?_) (fun _ => ?_) | rfl)
def Z2R : RunP
 | [.v (.int .i64 Z0)] => some (true, Z4k (Z05 Z0))
 | _ => none
theorem Z3g : Sound prog 36 Z2R := by
 refine Zd Z9i ZCA (by kernel_rfl) func36 ntmps36 rfl (by kernel_rfl) fun q r E => ?_
 unfold Z2R at E
 split at E
 ·obtain ⟨hp, rfl⟩ := so2 E
  rename_i Z0
  exact ⟨_, _, rfl, (ZDc Z0).trans (ZC1 Z0)⟩
 ·cases E

def Zwg : Sums := ⟨tblS [(158, Za0)], tblM [], false⟩
theorem ZFu : Ze prog Zwg := ⟨Za ⟨⟨call158, Zhk⟩, ⟨⟩⟩, tM⟩
def ZjN (p : Int) (a : P2) : Option (Bool) :=
 some (ZM p [a.1, a.2])
theorem ZGj (p : Int) (a : P2) : eT Zwg 96 8 Z1M [pI p, pA a] = ZjN p a := by
 kernel_rfl
def Z5 (p : Int) (a : P2) : Bool :=
 (ZM p [a.1, a.2])
theorem ZE3 (p : Int) (a : P2) : ZjN p a = some (Z5 p a) := by
 unfold ZjN Z5
 (try simp only [Zz])
 repeat' (first | with_reducible rfl | refine Zm (fun _ => ?_) (fun _ => ?_) | rfl)
def Z8H : RunP
 | [.v (.int .i64 p), .v (.agg ⟨[.int .i64 a0, .int .i64 a1]⟩)] => some (true, Z4k (Z5 p (a0, a1)))
 | _ => none
theorem ZaZ : Sound prog 96 Z8H := by
 refine Zd Z9i ZFu (by kernel_rfl) func96 ntmps96 rfl (by kernel_rfl) fun q r E => ?_
 unfold Z8H at E
 split at E
 ·obtain ⟨hp, rfl⟩ := so2 E
  rename_i p a0 a1
  exact ⟨_, _, rfl, (ZGj p (a0, a1)).trans (ZE3 p (a0, a1))⟩
 ·cases E

def Zay : Sums := ⟨tblS [(96, Z8H)], tblM [], false⟩
theorem Zzn : Ze prog Zay := ⟨Za ⟨⟨call96, ZaZ⟩, ⟨⟩⟩, tM⟩
def Zxo (p : Int) (Z2 : Nat) (listl : List Int) (t9 : Int) : Tab := ⟨[vI (p), .row 4, jK, jK, vB (false), jK, jK, .row 4, vI (((Z2 : Nat) : Int)), vI (t9), jK, jK, jK, jK, jK, jK, jK, jK], [(4, .ros Z2 (.ints listl))]⟩
def Z6p (P : Program) (fu : Nat) (p : Int) (Z2 : Nat) (listl : List Int) (f : Nat) (t9 : Int) : Option (Bool) := Z1u (exec P Zay 18 (fun _ => fu + 100) (Code.sub [1, 0, 1, 0, 0] (ZS P 37))) f (Zxo p Z2 listl t9) (Z0g 0 (kSeq (fun zs9 => exec P Zay 18 (fun _ => fu + 100) (Code.sub [1, 1] (ZS P 37)) zs9 (finT P 37 Z1M)) (finT P 37 Z1M)))
def Z6g (p : Int) (Z2 : Nat) (listl : List Int) (Z1F : Int -> Option (Bool)) (t9 : Int) : Option (Bool) :=
 (if (decide (t9 < ((Z2 : Nat) : Int))) = true then (if (decide (0 <= t9) && decide (t9 < ((Z2 : Nat) : Int))) = true then (if (Nat.ble (t9.toNat * 2 + 2) listl.length) = true then (if (!(Z5 p (listl.getD (t9.toNat * 2 + 0) 0, listl.getD (t9.toNat * 2 + 1) 0))) = true then some false else Z1F (wI (t9 + 1))) else none) else none) else some true)
def Z3L (fu : Nat) (p : Int) (Z2 : Nat) (listl : List Int) : Nat -> Int -> Option (Bool)
 | 0, _ => none
 | f + 1, t9 => Z6g p Z2 listl (Z3L fu p Z2 listl f) t9
theorem Zqi (fu : Nat) (p : Int) (Z2 : Nat) (listl : List Int) : ∀ (f : Nat) (t9 : Int), Z6p prog fu p Z2 listl f t9 = Z3L fu p Z2 listl f t9 := by
 intro f
 induction f with
 | zero => intros; rfl
 | succ f ih =>
  intro t9
  have h1 : Z6p prog fu p Z2 listl (f + 1) t9 = Z6g p Z2 listl (Z6p prog fu p Z2 listl f) t9 := by kernel_rfl
  have h2 : Z6p prog fu p Z2 listl f = Z3L fu p Z2 listl f := by funext t9; exact ih t9
  rw [h1, h2]
  rfl
def Zip (p : Int) (Z2 : Nat) (listl : List Int) (lo0 : Int -> Option (Bool)) : Option (Bool) :=
 lo0 0
def Zg6 (fu : Nat) (p : Int) (Z2 : Nat) (listl : List Int) : Option (Bool) := Zip p Z2 listl (Z3L fu p Z2 listl (fu + 100))
theorem ZAw (fu : Nat) (p : Int) (Z2 : Nat) (listl : List Int) : eF fu Zay 37 18 Z1M [pI p, .s Z2 (.ints listl)] = Zg6 fu p Z2 listl := by
 have h1 : eF fu Zay 37 18 Z1M [pI p, .s Z2 (.ints listl)] = Zip p Z2 listl (Z6p prog fu p Z2 listl (fu + 100)) := by kernel_rfl
 have c0 : Z6p prog fu p Z2 listl (fu + 100) = Z3L fu p Z2 listl (fu + 100) := by funext t9; exact Zqi fu p Z2 listl (fu + 100) t9
 rw [h1, c0]
 rfl
def ZE (p : Int) (l : List P2) : Bool := l.all (fun x => Z5 p x)
theorem ZyB (p : Int) (Z2 : Nat) (listl : List Int) (hp : (lenB Z2 2 listl) = true) : Zg6 Z2 p Z2 listl = some (ZE p (Z5v Z2 listl)) := by
 obtain ⟨hl, hn⟩ := Z7Y hp
 have key : ∀ F, Z2 < F -> (Z3L Z2 p Z2 listl) F 0 = some (if (List.range Z2).all (fun k => (fun x => Z5 p x) (listl.getD (k * 2) 0, listl.getD (k * 2 + 1) 0)) = true then true else false) := by
  intro F hF
  refine scan hF (fun f k hk => ?_) fun f => ?_
  ·show Z6g p Z2 listl ((Z3L Z2 p Z2 listl) f) (k : Int) = _
   unfold Z6g
   rw [if_pos (by simpa using hk), if_pos (by simpa using hk), if_pos (leb (by rw [hl, Int.toNat_natCast]; omega)), Z4j hk (by omega)]
   first | rfl | (rw [Zz]; rfl)
  ·show Z6g p Z2 listl ((Z3L Z2 p Z2 listl) f) ((Z2 : Nat) : Int) = _
   unfold Z6g
   rw [if_neg (by simp)]
 unfold Zg6 Zip
 rw [key _ (by omega)]
 show _ = some (((Z5v Z2 listl)).all (fun x => Z5 p x))
 rw [ZEy Z2 listl]
 cases (List.range Z2).all (fun k => (fun x => Z5 p x) (listl.getD (k * 2) 0, listl.getD (k * 2 + 1) 0)) <;> rfl
def Z2t : RunP
 | [.v (.int .i64 p), .s Z2 (.ints listl)] => some (lenB Z2 2 listl, Z4k (ZE p (Z5v Z2 listl)))
 | _ => none
theorem Z2L : Sound prog 37 Z2t := by
 refine Zd Z9i Zzn (by kernel_rfl) func37 ntmps37 rfl (by kernel_rfl) fun q r E => ?_
 unfold Z2t at E
 split at E
 ·obtain ⟨hp, rfl⟩ := so2 E
  rename_i p Z2 listl
  exact ⟨_, _, rfl, (ZAw _ p Z2 listl).trans (ZyB p Z2 listl hp)⟩
 ·cases E

def ZHV : Sums := ⟨tblS [], tblM [], false⟩
theorem ZMo : Ze prog ZHV := ⟨Za ⟨⟩, tM⟩
def ZtP (p x : Int) : Option (Int) :=
 (if (!(p == 0)) = true then (if (!(p == 0)) = true then some ((wI ((x.tmod p) + p)).tmod p) else none) else none)
theorem ZMJ (p x : Int) : eT ZHV 173 12 Z2f [pI p, pI x] = ZtP p x := by
 kernel_rfl
def ZF (p x : Int) : Int := x % p
theorem ZKZ (p x : Int) (hp : (prB p) = true) : ZtP p x = some (ZF p x) := by
 have h0 := ZgX hp
 unfold ZtP ZF
 simp only [h0, if_true, Zz]
 rw [ZJe hp]
def Z3y : RunP
 | [.v (.int .i64 p), .v (.int .i64 x)] => some (prB p, Z7e (ZF p x))
 | _ => none
theorem Z30 : Sound prog 173 Z3y := by
 refine Zd Zdj ZMo (by kernel_rfl) func173 ntmps173 rfl (by kernel_rfl) fun q r E => ?_
 unfold Z3y at E
 split at E
 ·obtain ⟨hp, rfl⟩ := so2 E
  rename_i p x
  exact ⟨_, _, rfl, (ZMJ p x).trans (ZKZ p x hp)⟩
 ·cases E

def Zeh : Sums := ⟨tblS [], tblM [], false⟩
theorem ZFt : Ze prog Zeh := ⟨Za ⟨⟩, tM⟩
def ZD2 (p a x : Int) : Tab := ⟨[vI (p), vI (a), jK, jK, vI (0), vI (x), ] ++ (jN 11 ++ [jK]), []⟩
def Z8w (P : Program) (fu : Nat) (p a : Int) (f : Nat) (x : Int) : Option (Int) := Z1u (exec P Zeh 18 (fun _ => fu + 100) (Code.sub [1, 0, 1, 0, 0] (ZS P 166))) f (ZD2 p a x) (Z0g 0 (kSeq (fun zs9 => exec P Zeh 18 (fun _ => fu + 100) (Code.sub [1, 1] (ZS P 166)) zs9 (finT P 166 Z2f)) (finT P 166 Z2f)))
def Z8r (p a : Int) (Z1F : Int -> Option (Int)) (x : Int) : Option (Int) :=
 (if (decide (x < p)) = true then (if (!(p == 0)) = true then (if (((wI (a * x)).tmod p) == 1) = true then some x else Z1F (wI (x + 1))) else none) else some 0)
def Z70 (fu : Nat) (p a : Int) : Nat -> Int -> Option (Int)
 | 0, _ => none
 | f + 1, x => Z8r p a (Z70 fu p a f) x
theorem Zva (fu : Nat) (p a : Int) : ∀ (f : Nat) (x : Int), Z8w prog fu p a f x = Z70 fu p a f x := by
 intro f
 induction f with
 | zero => intros; rfl
 | succ f ih =>
  intro x
  have h1 : Z8w prog fu p a (f + 1) x = Z8r p a (Z8w prog fu p a f) x := by kernel_rfl
  have h2 : Z8w prog fu p a f = Z70 fu p a f := by funext x; exact ih x
  rw [h1, h2]
  rfl
def Zwa (p a : Int) (lo0 : Int -> Option (Int)) : Option (Int) :=
 lo0 1
def Zra (fu : Nat) (p a : Int) : Option (Int) := Zwa p a (Z70 fu p a (fu + 100))
theorem ZGi (fu : Nat) (p a : Int) : eF fu Zeh 166 18 Z2f [pI p, pI a] = Zra fu p a := by
 have h1 : eF fu Zeh 166 18 Z2f [pI p, pI a] = Zwa p a (Z8w prog fu p a (fu + 100)) := by kernel_rfl
 have c0 : Z8w prog fu p a (fu + 100) = Z70 fu p a (fu + 100) := by funext x; exact Zva fu p a (fu + 100) x
 rw [h1, c0]
 rfl
def Zz3 (p a : Int) : Nat -> Int -> Int
 | 0, _ => 0
 | k + 1, x => if ((wrap64 (a * x)).tmod p == 1) = true then x else Zz3 p a k (x + 1)
def Z1C (p a : Int) : Int := Zz3 p a (p - 1).toNat 1
theorem ZIK (fu : Nat) (p a : Int) (hp : prB p = true) : ∀ (k f : Nat) (j : Int), 1 <= j -> j <= p -> (p - j).toNat = k -> k < f -> Z70 fu p a f j = some (Zz3 p a k j)
 | k, 0, j, _, _, _, h => absurd h (Nat.not_lt_zero k)
 | 0, f + 1, j, h1, h2, hk, _ => by
  show Z8r p a _ j = _
  unfold Z8r
  rw [if_neg (by simp; omega)]; rfl
 | k + 1, f + 1, j, h1, h2, hk, hf => by
  show Z8r p a (Z70 fu p a f) j = _
  unfold Z8r
  rw [if_pos (by simp; omega), if_pos (ZgX hp), Zz, Zz]
  show _ = some (if ((wrap64 (a * j)).tmod p == 1) = true then j else Zz3 p a k (j + 1))
  refine Zm (fun _ => rfl) fun _ => ?_
  have h31 := (Zvm hp).2
  rw [show wrap64 (j + 1) = j + 1 from by unfold wrap64; omega]
  exact ZIK fu p a hp k f (j + 1) (by omega) (by omega) (by omega) (by omega)
theorem ZE2 (p a : Int) (hp : (prB p) = true) : Zra 40 p a = some (Z1C p a) := by
 obtain ⟨h1, h2⟩ := Zvm hp
 exact ZIK 40 p a hp _ _ 1 (by omega) (by omega) rfl (by omega)
def Ze4 : RunP
 | [.v (.int .i64 p), .v (.int .i64 a)] => some (prB p, Z7e (Z1C p a))
 | _ => none
theorem Zlr : Sound prog 166 Ze4 := by
 refine Zd Zdj ZFt (by kernel_rfl) func166 ntmps166 rfl (by kernel_rfl) fun q r E => ?_
 unfold Ze4 at E
 split at E
 ·obtain ⟨hp, rfl⟩ := so2 E
  rename_i p a
  exact ⟨_, _, rfl, (ZGi _ p a).trans (ZE2 p a hp)⟩
 ·cases E

def ZzM : Sums := ⟨tblS [(166, Ze4), (173, Z3y)], tblM [], false⟩
theorem ZHG : Ze prog ZzM := ⟨Za ⟨⟨call166, Zlr⟩, ⟨call173, Z30⟩, ⟨⟩⟩, tM⟩
def ZlY (p a b : Int) : Option (Int) :=
 (if (prB p) = true then (if (prB p) = true then some (ZF p (wI (a * (Z1C p b)))) else none) else none)
theorem ZIj (p a b : Int) : eT ZzM 137 14 Z2f [pI p, pI a, pI b] = ZlY p a b := by
 kernel_rfl
def Z0L (p a b : Int) : Int :=
 (ZF p (wrap64 (a * (Z1C p b))))
theorem ZHm (p a b : Int) (hp : (prB p) = true) : ZlY p a b = some (Z0L p a b) := by
 unfold ZlY Z0L
 (try simp only [Zz])
 repeat' (first | with_reducible rfl | with_reducible refine Zv hp ?_ | refine Zm (fun _ => ?_) (fun _ => ?_) | rfl)
def Za1 : RunP
 | [.v (.int .i64 p), .v (.int .i64 a), .v (.int .i64 b)] => some (prB p, Z7e (Z0L p a b))
 | _ => none
theorem ZcK : Sound prog 137 Za1 := by
 refine Zd Zdj ZHG (by kernel_rfl) func137 ntmps137 rfl (by kernel_rfl) fun q r E => ?_
 unfold Za1 at E
 split at E
 ·obtain ⟨hp, rfl⟩ := so2 E
  rename_i p a b
  exact ⟨_, _, rfl, (ZIj p a b).trans (ZHm p a b hp)⟩
 ·cases E

def Zrx : Sums := ⟨tblS [(173, Z3y), (137, Za1)], tblM [], false⟩
theorem ZCF : Ze prog Zrx := ⟨Za ⟨⟨call173, Z30⟩, ⟨call137, ZcK⟩, ⟨⟩⟩, tM⟩
def Zi4 (p a : Int) (b c : Int) : Option P3 :=
 (if (prB p) = true then (if (prB p) = true then (if (prB p) = true then (if ((ZF p a) == 0) = true then (if (prB p) = true then (if (prB p) = true then (if (prB p) = true then some ((Z0L p (ZF p a) (ZF p b)), (Z0L p (ZF p b) (ZF p b)), (Z0L p (ZF p c) (ZF p b))) else none) else none) else none) else (if (prB p) = true then (if (prB p) = true then (if (prB p) = true then some ((Z0L p (ZF p a) (ZF p a)), (Z0L p (ZF p b) (ZF p a)), (Z0L p (ZF p c) (ZF p a))) else none) else none) else none)) else none) else none) else none)
theorem ZDh (p a : Int) (b c : Int) : eT Zrx 215 36 Zah [pI p, pI a, pI b, pI c] = Zi4 p a b c := by
 kernel_rfl
def Zbi (p a : Int) (b c : Int) : Int × Int × Int :=
 (if ((ZF p a) == 0) = true then ((Z0L p (ZF p a) (ZF p b)), (Z0L p (ZF p b) (ZF p b)), (Z0L p (ZF p c) (ZF p b))) else ((Z0L p (ZF p a) (ZF p a)), (Z0L p (ZF p b) (ZF p a)), (Z0L p (ZF p c) (ZF p a))))
theorem ZC6 (p a : Int) (b c : Int) (hp : (prB p) = true) : Zi4 p a b c = some (Zbi p a b c) := by
 unfold Zi4 Zbi
 (try simp only [Zz])
 repeat' (first | with_reducible rfl | with_reducible refine Zv hp ?_ | refine Zm (fun _ => ?_) (fun _ => ?_) | rfl)
def Zh3 : RunP
 | [.v (.int .i64 p), .v (.int .i64 a), .v (.int .i64 b), .v (.int .i64 c)] => some (prB p, Zf7 (Zbi p a b c))
 | _ => none
theorem Zvw : Sound prog 215 Zh3 := by
 refine Zd ZmD ZCF (by kernel_rfl) func215 ntmps215 rfl (by kernel_rfl) fun q r E => ?_
 unfold Zh3 at E
 split at E
 ·obtain ⟨hp, rfl⟩ := so2 E
  rename_i p a b c
  exact ⟨_, _, rfl, (ZDh p a b c).trans (ZC6 p a b c hp)⟩
 ·cases E

def ZzT : Sums := ⟨tblS [], tblM [], false⟩
theorem ZHM : Ze prog ZzT := ⟨Za ⟨⟩, tM⟩
def Zm5 (x p : Int) : Option (Int) :=
 (if (!(p == 0)) = true then (if (!(p == 0)) = true then some ((wI ((x.tmod p) + p)).tmod p) else none) else none)
theorem ZIq (x p : Int) : eT ZzT 242 12 Z2f [pI x, pI p] = Zm5 x p := by
 kernel_rfl
def Zi (x p : Int) : Int := x % p
theorem ZHt (x p : Int) (hp : (prB p) = true) : Zm5 x p = some (Zi x p) := by
 have h0 := ZgX hp
 unfold Zm5 Zi
 simp only [h0, if_true, Zz]
 rw [ZJe hp]
def Z2g : RunP
 | [.v (.int .i64 x), .v (.int .i64 p)] => some (prB p, Z7e (Zi x p))
 | _ => none
theorem Z21 : Sound prog 242 Z2g := by
 refine Zd Zdj ZHM (by kernel_rfl) func242 ntmps242 rfl (by kernel_rfl) fun q r E => ?_
 unfold Z2g at E
 split at E
 ·obtain ⟨hp, rfl⟩ := so2 E
  rename_i x p
  exact ⟨_, _, rfl, (ZIq x p).trans (ZHt x p hp)⟩
 ·cases E

def Z9e : Sums := ⟨tblS [(242, Z2g)], tblM [], false⟩
theorem Zxe : Ze prog Z9e := ⟨Za ⟨⟨call242, Z21⟩, ⟨⟩⟩, tM⟩
def Zun (a p : Int) (out base k : Int) : Tab := ⟨[vI (a), vI (p), jK, jK, vI (0), vI (out), vI (base), vI (k), vI (a), vI (p), vI ((Zi a p)), vI (p), vI ((wI (p - 2))), ] ++ (jN 17 ++ [jK]), []⟩
def Z5K (P : Program) (fu : Nat) (a p : Int) (f : Nat) (out base k : Int) : Option (Int) := Z1u (exec P Z9e 31 (fun _ => fu + 100) (Code.sub [1, 1, 0, 1, 0, 0] (ZS P 233))) f (Zun a p out base k) (Z0g 0 (kSeq (fun zs9 => exec P Z9e 31 (fun _ => fu + 100) (Code.sub [1, 1, 1] (ZS P 233)) zs9 (finT P 233 Z2f)) (finT P 233 Z2f)))
def Z9K (a p : Int) (Z1F : Int -> Int -> Int -> Option (Int)) (out base k : Int) : Option (Int) :=
 (if (decide (k > 0)) = true then (if ((k.tmod 2) == 1) = true then (if (!(p == 0)) = true then (if (!(p == 0)) = true then Z1F ((wI (out * base)).tmod p) ((wI (base * base)).tmod p) (wI (k.tdiv 2)) else none) else none) else (if (!(p == 0)) = true then Z1F out ((wI (base * base)).tmod p) (wI (k.tdiv 2)) else none)) else some out)
def Z47 (fu : Nat) (a p : Int) : Nat -> Int -> Int -> Int -> Option (Int)
 | 0, _, _, _ => none
 | f + 1, out, base, k => Z9K a p (Z47 fu a p f) out base k
theorem Zon (fu : Nat) (a p : Int) : ∀ (f : Nat) (out base k : Int), Z5K prog fu a p f out base k = Z47 fu a p f out base k := by
 intro f
 induction f with
 | zero => intros; rfl
 | succ f ih =>
  intro out base k
  have h1 : Z5K prog fu a p (f + 1) out base k = Z9K a p (Z5K prog fu a p f) out base k := by kernel_rfl
  have h2 : Z5K prog fu a p f = Z47 fu a p f := by funext out base k; exact ih out base k
  rw [h1, h2]
  rfl
def Zgo (a p : Int) (lo0 : Int -> Int -> Int -> Option (Int)) : Option (Int) :=
 (if (prB p) = true then lo0 1 (Zi a p) (wI (p - 2)) else none)
def ZeX (fu : Nat) (a p : Int) : Option (Int) := Zgo a p (Z47 fu a p (fu + 100))
theorem ZxS (fu : Nat) (a p : Int) : eF fu Z9e 233 31 Z2f [pI a, pI p] = ZeX fu a p := by
 have h1 : eF fu Z9e 233 31 Z2f [pI a, pI p] = Zgo a p (Z5K prog fu a p (fu + 100)) := by kernel_rfl
 have c0 : Z5K prog fu a p (fu + 100) = Z47 fu a p (fu + 100) := by funext out base k; exact Zon fu a p (fu + 100) out base k
 rw [h1, c0]
 rfl
def ZsJ (p : Int) : Nat -> Int -> Int -> Int -> Int
 | 0, _, out, _ => out
 | f + 1, k, out, base => if decide (0 < k) = true then ZsJ p f (k / 2) (if (k % 2 == 1) = true then (wrap64 (out * base)).tmod p else out) ((wrap64 (base * base)).tmod p) else out
def ZB (a p : Int) : Int := ZsJ p 5 (p - 2) 1 (Zi a p)
theorem ZH4 (p : Int) (f : Nat) (k out base : Int) (h : ¬ 0 < k) : ZsJ p f k out base = out := by
 cases f
 ·rfl
 ·show (if decide (0 < k) = true then _ else out) = out
  rw [if_neg (by simpa using h)]
theorem ZBv (fu : Nat) (a p : Int) (hp : prB p = true) : ∀ (f F : Nat) (k out base : Int), k < 2 ^ f -> k <= 31 -> f < F -> Z47 fu a p F out base k = some (ZsJ p f k out base)
 | f, 0, k, _, _, _, _, h => absurd h (Nat.not_lt_zero f)
 | f, F + 1, k, out, base, h1, h31, hF => by
  show Z9K a p (Z47 fu a p F) out base k = _
  unfold Z9K
  by_cases hk : 0 < k
  ·obtain ⟨f, rfl⟩ : ∃ g, f = g + 1 := ⟨f - 1, by rcases f with _ | f <;> omega⟩
   have h0 := ZgX hp
   rw [if_pos (by simp; omega)]
   have e1 : k.tmod 2 = k % 2 := Int.tmod_eq_emod_of_nonneg (by omega)
   have e2 : k.tdiv 2 = k / 2 := Int.tdiv_eq_ediv_of_nonneg (by omega)
   have e3 : wrap64 (k / 2) = k / 2 := by unfold wrap64; omega
   have hh : k / 2 < 2 ^ f := by rw [Int.pow_succ] at h1; omega
   simp only [h0, if_true, Zz, e1, e2, e3]
   show _ = some (if decide (0 < k) = true then ZsJ p f (k / 2) (if (k % 2 == 1) = true then (wrap64 (out * base)).tmod p else out) ((wrap64 (base * base)).tmod p) else out)
   have hk' : decide (0 < k) = true := by simpa using hk
   rw [hk']
   cases h2 : (k % 2 == 1)
   ·exact ZBv fu a p hp f F (k / 2) _ _ hh (by omega) (by omega)
   ·exact ZBv fu a p hp f F (k / 2) _ _ hh (by omega) (by omega)
  ·rw [if_neg (by simp; omega), ZH4 p f k out base hk]
theorem Zw1 (a p : Int) (hp : (prB p) = true) : ZeX 40 a p = some (ZB a p) := by
 obtain ⟨h1, h2⟩ := Zvm hp
 unfold ZeX Zgo
 rw [if_pos hp, Zz, show wrap64 (p - 2) = p - 2 from by unfold wrap64; omega]
 exact ZBv 40 a p hp 5 _ (p - 2) _ _ (by omega) (by omega) (by omega)
def Z5Q : RunP
 | [.v (.int .i64 a), .v (.int .i64 p)] => some (prB p, Z7e (ZB a p))
 | _ => none
theorem Z8a : Sound prog 233 Z5Q := by
 refine Zd Zdj Zxe (by kernel_rfl) func233 ntmps233 rfl (by kernel_rfl) fun q r E => ?_
 unfold Z5Q at E
 split at E
 ·obtain ⟨hp, rfl⟩ := so2 E
  rename_i a p
  exact ⟨_, _, rfl, (ZxS _ a p).trans (Zw1 a p hp)⟩
 ·cases E

def Zp8 : Sums := ⟨tblS [(242, Z2g), (233, Z5Q)], tblM [], false⟩
theorem ZzC : Ze prog Zp8 := ⟨Za ⟨⟨call242, Z21⟩, ⟨call233, Z8a⟩, ⟨⟩⟩, tM⟩
def Zgf (p a : Int) (b c : Int) : Option P3 :=
 (if (prB p) = true then (if ((Zi a p) == 0) = true then (if (prB p) = true then (if (prB p) = true then (if (prB p) = true then (if (prB p) = true then (if (prB p) = true then some ((Zi (wI (a * (ZB (Zi b p) p))) p), (Zi (wI (b * (ZB (Zi b p) p))) p), (Zi (wI (c * (ZB (Zi b p) p))) p)) else none) else none) else none) else none) else none) else (if (prB p) = true then (if (prB p) = true then (if (prB p) = true then (if (prB p) = true then some ((Zi (wI (a * (ZB (Zi a p) p))) p), (Zi (wI (b * (ZB (Zi a p) p))) p), (Zi (wI (c * (ZB (Zi a p) p))) p)) else none) else none) else none) else none)) else none)
theorem ZAL (p a : Int) (b c : Int) : eT Zp8 222 38 Zah [pI p, pI a, pI b, pI c] = Zgf p a b c := by
 kernel_rfl
def ZP (p a : Int) (b c : Int) : Int × Int × Int :=
 (if ((Zi a p) == 0) = true then ((Zi (wrap64 (a * (ZB (Zi b p) p))) p), (Zi (wrap64 (b * (ZB (Zi b p) p))) p), (Zi (wrap64 (c * (ZB (Zi b p) p))) p)) else ((Zi (wrap64 (a * (ZB (Zi a p) p))) p), (Zi (wrap64 (b * (ZB (Zi a p) p))) p), (Zi (wrap64 (c * (ZB (Zi a p) p))) p)))
theorem ZyQ (p a : Int) (b c : Int) (hp : (prB p) = true) : Zgf p a b c = some (ZP p a b c) := by
 unfold Zgf ZP
 (try simp only [Zz])
 repeat' (first | with_reducible rfl | with_reducible refine Zv hp ?_ | refine Zm (fun _ => ?_) (fun _ => ?_) | rfl)
def Z8i : RunP
 | [.v (.int .i64 p), .v (.int .i64 a), .v (.int .i64 b), .v (.int .i64 c)] => some (prB p, Zf7 (ZP p a b c))
 | _ => none
theorem ZcN : Sound prog 222 Z8i := by
 refine Zd ZmD ZzC (by kernel_rfl) func222 ntmps222 rfl (by kernel_rfl) fun q r E => ?_
 unfold Z8i at E
 split at E
 ·obtain ⟨hp, rfl⟩ := so2 E
  rename_i p a b c
  exact ⟨_, _, rfl, (ZAL p a b c).trans (ZyQ p a b c hp)⟩
 ·cases E

def Zwj : Sums := ⟨tblS [(173, Z3y)], tblM [], false⟩
theorem ZFx : Ze prog Zwj := ⟨Za ⟨⟨call173, Z30⟩, ⟨⟩⟩, tM⟩
def ZjP (p Z0 : Int) (a b : P2) : Option (Int) :=
 (if (Z0 == 0) = true then (if (prB p) = true then some (ZF p (wI ((wI (a.1 * b.1)) + (wI (a.2 * b.2))))) else none) else (if (Z0 == 1) = true then (if (prB p) = true then some (ZF p (wI ((wI (a.1 * b.1)) - (wI (a.2 * b.2))))) else none) else (if (prB p) = true then some (ZF p (wI ((wI (a.1 * b.2)) + (wI (a.2 * b.1))))) else none)))
theorem ZGm (p Z0 : Int) (a b : P2) : eT Zwj 129 53 Z2f [pI p, pI Z0, pA a, pA b] = ZjP p Z0 a b := by
 kernel_rfl
def Z2z (p Z0 : Int) (a b : P2) : Int :=
 (if (Z0 == 0) = true then (ZF p (wrap64 ((wrap64 (a.1 * b.1)) + (wrap64 (a.2 * b.2))))) else (if (Z0 == 1) = true then (ZF p (wrap64 ((wrap64 (a.1 * b.1)) - (wrap64 (a.2 * b.2))))) else (ZF p (wrap64 ((wrap64 (a.1 * b.2)) + (wrap64 (a.2 * b.1)))))))
theorem ZE6 (p Z0 : Int) (a b : P2) (hp : (prB p) = true) : ZjP p Z0 a b = some (Z2z p Z0 a b) := by
 unfold ZjP Z2z
 (try simp only [Zz])
 repeat' (first | with_reducible rfl | with_reducible refine Zv hp ?_ | refine Zm (fun _ => ?_) (fun _ => ?_) | rfl)
def Z8I : RunP
 | [.v (.int .i64 p), .v (.int .i64 Z0), .v (.agg ⟨[.int .i64 a0, .int .i64 a1]⟩), .v (.agg ⟨[.int .i64 b0, .int .i64 b1]⟩)] => some (prB p, Z7e (Z2z p Z0 (a0, a1) (b0, b1)))
 | _ => none
theorem Zb0 : Sound prog 129 Z8I := by
 refine Zd Zdj ZFx (by kernel_rfl) func129 ntmps129 rfl (by kernel_rfl) fun q r E => ?_
 unfold Z8I at E
 split at E
 ·obtain ⟨hp, rfl⟩ := so2 E
  rename_i p Z0 a0 a1 b0 b1
  exact ⟨_, _, rfl, (ZGm p Z0 (a0, a1) (b0, b1)).trans (ZE6 p Z0 (a0, a1) (b0, b1) hp)⟩
 ·cases E

def Zmv : Sums := ⟨tblS [(242, Z2g)], tblM [], false⟩
theorem Zxh : Ze prog Zmv := ⟨Za ⟨⟨call242, Z21⟩, ⟨⟩⟩, tM⟩
def Zf0 (p Z0 : Int) (a b : P2) : Option (Int) :=
 (if (Z0 == 0) = true then (if (prB p) = true then some (Zi (wI ((wI (a.1 * b.1)) + (wI (a.2 * b.2)))) p) else none) else (if (Z0 == 1) = true then (if (prB p) = true then some (Zi (wI ((wI (a.1 * b.1)) - (wI (a.2 * b.2)))) p) else none) else (if (prB p) = true then some (Zi (wI ((wI (a.1 * b.2)) + (wI (a.2 * b.1)))) p) else none)))
theorem ZxV (p Z0 : Int) (a b : P2) : eT Zmv 224 53 Z2f [pI p, pI Z0, pA a, pA b] = Zf0 p Z0 a b := by
 kernel_rfl
def Z04 (p Z0 : Int) (a b : P2) : Int :=
 (if (Z0 == 0) = true then (Zi (wrap64 ((wrap64 (a.1 * b.1)) + (wrap64 (a.2 * b.2)))) p) else (if (Z0 == 1) = true then (Zi (wrap64 ((wrap64 (a.1 * b.1)) - (wrap64 (a.2 * b.2)))) p) else (Zi (wrap64 ((wrap64 (a.1 * b.2)) + (wrap64 (a.2 * b.1)))) p)))
theorem Zw4 (p Z0 : Int) (a b : P2) (hp : (prB p) = true) : Zf0 p Z0 a b = some (Z04 p Z0 a b) := by
 unfold Zf0 Z04
 (try simp only [Zz])
 repeat' (first | with_reducible rfl | with_reducible refine Zv hp ?_ | refine Zm (fun _ => ?_) (fun _ => ?_) | rfl)
def Z4f : RunP
 | [.v (.int .i64 p), .v (.int .i64 Z0), .v (.agg ⟨[.int .i64 a0, .int .i64 a1]⟩), .v (.agg ⟨[.int .i64 b0, .int .i64 b1]⟩)] => some (prB p, Z7e (Z04 p Z0 (a0, a1) (b0, b1)))
 | _ => none
theorem Z68 : Sound prog 224 Z4f := by
 refine Zd Zdj Zxh (by kernel_rfl) func224 ntmps224 rfl (by kernel_rfl) fun q r E => ?_
 unfold Z4f at E
 split at E
 ·obtain ⟨hp, rfl⟩ := so2 E
  rename_i p Z0 a0 a1 b0 b1
  exact ⟨_, _, rfl, (ZxV p Z0 (a0, a1) (b0, b1)).trans (Zw4 p Z0 (a0, a1) (b0, b1) hp)⟩
 ·cases E

def ZHT : Sums := ⟨tblS [(173, Z3y)], tblM [], false⟩
theorem ZMm : Ze prog ZHT := ⟨Za ⟨⟨call173, Z30⟩, ⟨⟩⟩, tM⟩
def ZtN (p : Int) (a b : P2) : Option P2 :=
 (if (prB p) = true then (if (prB p) = true then some ((ZF p (wI (a.1 - b.1))), (ZF p (wI (a.2 - b.2)))) else none) else none)
theorem ZMH (p : Int) (a b : P2) : eT ZHT 128 22 Z7A [pI p, pA a, pA b] = ZtN p a b := by
 kernel_rfl
def Z44 (p : Int) (a b : P2) : Int × Int :=
 ((ZF p (wrap64 (a.1 - b.1))), (ZF p (wrap64 (a.2 - b.2))))
theorem ZKX (p : Int) (a b : P2) (hp : (prB p) = true) : ZtN p a b = some (Z44 p a b) := by
 unfold ZtN Z44
 (try simp only [Zz])
 repeat' (first | with_reducible rfl | with_reducible refine Zv hp ?_ | refine Zm (fun _ => ?_) (fun _ => ?_) | rfl)
def ZdD : RunP
 | [.v (.int .i64 p), .v (.agg ⟨[.int .i64 a0, .int .i64 a1]⟩), .v (.agg ⟨[.int .i64 b0, .int .i64 b1]⟩)] => some (prB p, Zai (Z44 p (a0, a1) (b0, b1)))
 | _ => none
theorem ZfR : Sound prog 128 ZdD := by
 refine Zd ZgD ZMm (by kernel_rfl) func128 ntmps128 rfl (by kernel_rfl) fun q r E => ?_
 unfold ZdD at E
 split at E
 ·obtain ⟨hp, rfl⟩ := so2 E
  rename_i p a0 a1 b0 b1
  exact ⟨_, _, rfl, (ZMH p (a0, a1) (b0, b1)).trans (ZKX p (a0, a1) (b0, b1) hp)⟩
 ·cases E

def ZrG : Sums := ⟨tblS [(242, Z2g)], tblM [], false⟩
theorem ZCQ : Ze prog ZrG := ⟨Za ⟨⟨call242, Z21⟩, ⟨⟩⟩, tM⟩
def Zie (p : Int) (a b : P2) : Option P2 :=
 (if (prB p) = true then (if (prB p) = true then some ((Zi (wI (a.1 - b.1)) p), (Zi (wI (a.2 - b.2)) p)) else none) else none)
theorem ZDs (p : Int) (a b : P2) : eT ZrG 205 22 Z7A [pI p, pA a, pA b] = Zie p a b := by
 kernel_rfl
def Zj (p : Int) (a b : P2) : Int × Int :=
 ((Zi (wrap64 (a.1 - b.1)) p), (Zi (wrap64 (a.2 - b.2)) p))
theorem ZCh (p : Int) (a b : P2) (hp : (prB p) = true) : Zie p a b = some (Zj p a b) := by
 unfold Zie Zj
 (try simp only [Zz])
 repeat' (first | with_reducible rfl | with_reducible refine Zv hp ?_ | refine Zm (fun _ => ?_) (fun _ => ?_) | rfl)
def Z3z : RunP
 | [.v (.int .i64 p), .v (.agg ⟨[.int .i64 a0, .int .i64 a1]⟩), .v (.agg ⟨[.int .i64 b0, .int .i64 b1]⟩)] => some (prB p, Zai (Zj p (a0, a1) (b0, b1)))
 | _ => none
theorem Z4h : Sound prog 205 Z3z := by
 refine Zd ZgD ZCQ (by kernel_rfl) func205 ntmps205 rfl (by kernel_rfl) fun q r E => ?_
 unfold Z3z at E
 split at E
 ·obtain ⟨hp, rfl⟩ := so2 E
  rename_i p a0 a1 b0 b1
  exact ⟨_, _, rfl, (ZDs p (a0, a1) (b0, b1)).trans (ZCh p (a0, a1) (b0, b1) hp)⟩
 ·cases E

def Zp3 : Sums := ⟨tblS [(128, ZdD), (129, Z8I)], tblM [], false⟩
theorem Zzu : Ze prog Zp3 := ⟨Za ⟨⟨call128, ZfR⟩, ⟨call129, Zb0⟩, ⟨⟩⟩, tM⟩
def Zga (p Z0 : Int) (a b : P2) : Option (Int) :=
 (if (prB p) = true then (if (prB p) = true then some (Z2z p Z0 (Z44 p a b) (Z44 p a b)) else none) else none)
theorem ZAD (p Z0 : Int) (a b : P2) : eT Zp3 72 19 Z2f [pI p, pI Z0, pA a, pA b] = Zga p Z0 a b := by
 kernel_rfl
def ZA (p Z0 : Int) (a b : P2) : Int :=
 (Z2z p Z0 (Z44 p a b) (Z44 p a b))
theorem ZyI (p Z0 : Int) (a b : P2) (hp : (prB p) = true) : Zga p Z0 a b = some (ZA p Z0 a b) := by
 unfold Zga ZA
 (try simp only [Zz])
 repeat' (first | with_reducible rfl | with_reducible refine Zv hp ?_ | refine Zm (fun _ => ?_) (fun _ => ?_) | rfl)
def Z52 : RunP
 | [.v (.int .i64 p), .v (.int .i64 Z0), .v (.agg ⟨[.int .i64 a0, .int .i64 a1]⟩), .v (.agg ⟨[.int .i64 b0, .int .i64 b1]⟩)] => some (prB p, Z7e (ZA p Z0 (a0, a1) (b0, b1)))
 | _ => none
theorem Z6Y : Sound prog 72 Z52 := by
 refine Zd Zdj Zzu (by kernel_rfl) func72 ntmps72 rfl (by kernel_rfl) fun q r E => ?_
 unfold Z52 at E
 split at E
 ·obtain ⟨hp, rfl⟩ := so2 E
  rename_i p Z0 a0 a1 b0 b1
  exact ⟨_, _, rfl, (ZAD p Z0 (a0, a1) (b0, b1)).trans (ZyI p Z0 (a0, a1) (b0, b1) hp)⟩
 ·cases E

def Zj3 : Sums := ⟨tblS [(205, Z3z), (224, Z4f)], tblM [], false⟩
theorem Zrn : Ze prog Zj3 := ⟨Za ⟨⟨call205, Z4h⟩, ⟨call224, Z68⟩, ⟨⟩⟩, tM⟩
def ZbX (p Z0 : Int) (a b : P2) : Option (Int) :=
 (if (prB p) = true then (if (prB p) = true then some (Z04 p Z0 (Zj p b a) (Zj p b a)) else none) else none)
theorem Zsd (p Z0 : Int) (a b : P2) : eT Zj3 190 19 Z2f [pI p, pI Z0, pA a, pA b] = ZbX p Z0 a b := by
 kernel_rfl
def Zp (p Z0 : Int) (a b : P2) : Int :=
 (Z04 p Z0 (Zj p b a) (Zj p b a))
theorem Zr8 (p Z0 : Int) (a b : P2) (hp : (prB p) = true) : ZbX p Z0 a b = some (Zp p Z0 a b) := by
 unfold ZbX Zp
 (try simp only [Zz])
 repeat' (first | with_reducible rfl | with_reducible refine Zv hp ?_ | refine Zm (fun _ => ?_) (fun _ => ?_) | rfl)
def Z32 : RunP
 | [.v (.int .i64 p), .v (.int .i64 Z0), .v (.agg ⟨[.int .i64 a0, .int .i64 a1]⟩), .v (.agg ⟨[.int .i64 b0, .int .i64 b1]⟩)] => some (prB p, Z7e (Zp p Z0 (a0, a1) (b0, b1)))
 | _ => none
theorem Z4L : Sound prog 190 Z32 := by
 refine Zd Zdj Zrn (by kernel_rfl) func190 ntmps190 rfl (by kernel_rfl) fun q r E => ?_
 unfold Z32 at E
 split at E
 ·obtain ⟨hp, rfl⟩ := so2 E
  rename_i p Z0 a0 a1 b0 b1
  exact ⟨_, _, rfl, (Zsd p Z0 (a0, a1) (b0, b1)).trans (Zr8 p Z0 (a0, a1) (b0, b1) hp)⟩
 ·cases E

def Zj2 : Sums := ⟨tblS [(242, Z2g)], tblM [], false⟩
theorem Zrm : Ze prog Zj2 := ⟨Za ⟨⟨call242, Z21⟩, ⟨⟩⟩, tM⟩
def ZbW (p : Int) (l : P3) : Option P2 :=
 (if (prB p) = true then some ((Zi (wI (0 - l.2.1)) p), l.1) else none)
theorem Zsc (p : Int) (l : P3) : eT Zj2 225 13 Z7A [pI p, pB l] = ZbW p l := by
 kernel_rfl
def Z1K (p : Int) (l : P3) : Int × Int :=
 ((Zi (wrap64 (0 - l.2.1)) p), l.1)
theorem Zr7 (p : Int) (l : P3) (hp : (prB p) = true) : ZbW p l = some (Z1K p l) := by
 unfold ZbW Z1K
 (try simp only [Zz])
 repeat' (first | with_reducible rfl | with_reducible refine Zv hp ?_ | refine Zm (fun _ => ?_) (fun _ => ?_) | rfl)
def Z86 : RunP
 | [.v (.int .i64 p), .v (.agg ⟨[.int .i64 l0, .int .i64 l1, .int .i64 l2]⟩)] => some (prB p, Zai (Z1K p (l0, l1, l2)))
 | _ => none
theorem ZeF : Sound prog 225 Z86 := by
 refine Zd ZgD Zrm (by kernel_rfl) func225 ntmps225 rfl (by kernel_rfl) fun q r E => ?_
 unfold Z86 at E
 split at E
 ·obtain ⟨hp, rfl⟩ := so2 E
  rename_i p l0 l1 l2
  exact ⟨_, _, rfl, (Zsc p (l0, l1, l2)).trans (Zr7 p (l0, l1, l2) hp)⟩
 ·cases E

def ZL6 : Sums := ⟨tblS [(173, Z3y)], tblM [], false⟩
theorem ZNk : Ze prog ZL6 := ⟨Za ⟨⟨call173, Z30⟩, ⟨⟩⟩, tM⟩
def Zzf (p : Int) (l : P3) : Option P2 :=
 (if (prB p) = true then some ((ZF p (wI (0 - l.2.1))), l.1) else none)
theorem ZNS (p : Int) (l : P3) : eT ZL6 216 13 Z7A [pI p, pB l] = Zzf p l := by
 kernel_rfl
def Z7P (p : Int) (l : P3) : Int × Int :=
 ((ZF p (wrap64 (0 - l.2.1))), l.1)
theorem ZNb (p : Int) (l : P3) (hp : (prB p) = true) : Zzf p l = some (Z7P p l) := by
 unfold Zzf Z7P
 (try simp only [Zz])
 repeat' (first | with_reducible rfl | with_reducible refine Zv hp ?_ | refine Zm (fun _ => ?_) (fun _ => ?_) | rfl)
def ZnU : RunP
 | [.v (.int .i64 p), .v (.agg ⟨[.int .i64 l0, .int .i64 l1, .int .i64 l2]⟩)] => some (prB p, Zai (Z7P p (l0, l1, l2)))
 | _ => none
theorem ZwQ : Sound prog 216 ZnU := by
 refine Zd ZgD ZNk (by kernel_rfl) func216 ntmps216 rfl (by kernel_rfl) fun q r E => ?_
 unfold ZnU at E
 split at E
 ·obtain ⟨hp, rfl⟩ := so2 E
  rename_i p l0 l1 l2
  exact ⟨_, _, rfl, (ZNS p (l0, l1, l2)).trans (ZNb p (l0, l1, l2) hp)⟩
 ·cases E

def Zwu : Sums := ⟨tblS [(242, Z2g)], tblM [], false⟩
theorem ZFK : Ze prog Zwu := ⟨Za ⟨⟨call242, Z21⟩, ⟨⟩⟩, tM⟩
def ZjZ (p : Int) (a b : P2) : Option P2 :=
 (if (prB p) = true then (if (prB p) = true then some ((Zi (wI (a.1 + b.1)) p), (Zi (wI (a.2 + b.2)) p)) else none) else none)
theorem ZGz (p : Int) (a b : P2) : eT Zwu 203 22 Z7A [pI p, pA a, pA b] = ZjZ p a b := by
 kernel_rfl
def Z0m (p : Int) (a b : P2) : Int × Int :=
 ((Zi (wrap64 (a.1 + b.1)) p), (Zi (wrap64 (a.2 + b.2)) p))
theorem ZEj (p : Int) (a b : P2) (hp : (prB p) = true) : ZjZ p a b = some (Z0m p a b) := by
 unfold ZjZ Z0m
 (try simp only [Zz])
 repeat' (first | with_reducible rfl | with_reducible refine Zv hp ?_ | refine Zm (fun _ => ?_) (fun _ => ?_) | rfl)
def ZaL : RunP
 | [.v (.int .i64 p), .v (.agg ⟨[.int .i64 a0, .int .i64 a1]⟩), .v (.agg ⟨[.int .i64 b0, .int .i64 b1]⟩)] => some (prB p, Zai (Z0m p (a0, a1) (b0, b1)))
 | _ => none
theorem Zfu : Sound prog 203 ZaL := by
 refine Zd ZgD ZFK (by kernel_rfl) func203 ntmps203 rfl (by kernel_rfl) fun q r E => ?_
 unfold ZaL at E
 split at E
 ·obtain ⟨hp, rfl⟩ := so2 E
  rename_i p a0 a1 b0 b1
  exact ⟨_, _, rfl, (ZGz p (a0, a1) (b0, b1)).trans (ZEj p (a0, a1) (b0, b1) hp)⟩
 ·cases E

def Zl1 : Sums := ⟨tblS [(173, Z3y)], tblM [], false⟩
theorem ZtZ : Ze prog Zl1 := ⟨Za ⟨⟨call173, Z30⟩, ⟨⟩⟩, tM⟩
def Zd0 (p : Int) (a b : P2) (t : Int) : Option P2 :=
 (if (prB p) = true then (if (prB p) = true then some ((ZF p (wI (a.1 + (wI (t * (wI (b.1 - a.1))))))), (ZF p (wI (a.2 + (wI (t * (wI (b.2 - a.2)))))))) else none) else none)
theorem ZuE (p : Int) (a b : P2) (t : Int) : eT Zl1 121 34 Z7A [pI p, pA a, pA b, pI t] = Zd0 p a b t := by
 kernel_rfl
def Z1B (p : Int) (a b : P2) (t : Int) : Int × Int :=
 ((ZF p (wrap64 (a.1 + (wrap64 (t * (wrap64 (b.1 - a.1))))))), (ZF p (wrap64 (a.2 + (wrap64 (t * (wrap64 (b.2 - a.2))))))))
theorem Zto (p : Int) (a b : P2) (t : Int) (hp : (prB p) = true) : Zd0 p a b t = some (Z1B p a b t) := by
 unfold Zd0 Z1B
 (try simp only [Zz])
 repeat' (first | with_reducible rfl | with_reducible refine Zv hp ?_ | refine Zm (fun _ => ?_) (fun _ => ?_) | rfl)
def Z8Z : RunP
 | [.v (.int .i64 p), .v (.agg ⟨[.int .i64 a0, .int .i64 a1]⟩), .v (.agg ⟨[.int .i64 b0, .int .i64 b1]⟩), .v (.int .i64 t)] => some (prB p, Zai (Z1B p (a0, a1) (b0, b1) t))
 | _ => none
theorem ZfF : Sound prog 121 Z8Z := by
 refine Zd ZgD ZtZ (by kernel_rfl) func121 ntmps121 rfl (by kernel_rfl) fun q r E => ?_
 unfold Z8Z at E
 split at E
 ·obtain ⟨hp, rfl⟩ := so2 E
  rename_i p a0 a1 b0 b1 t
  exact ⟨_, _, rfl, (ZuE p (a0, a1) (b0, b1) t).trans (Zto p (a0, a1) (b0, b1) t hp)⟩
 ·cases E

def Zry : Sums := ⟨tblS [(166, Ze4), (121, Z8Z)], tblM [], false⟩
theorem ZCG : Ze prog Zry := ⟨Za ⟨⟨call166, Zlr⟩, ⟨call121, ZfF⟩, ⟨⟩⟩, tM⟩
def Zi5 (p : Int) (a b : P2) : Option P2 :=
 (if (prB p) = true then (if (prB p) = true then some (Z1B p a b (Z1C p 2)) else none) else none)
theorem ZDi (p : Int) (a b : P2) : eT Zry 108 13 Z7A [pI p, pA a, pA b] = Zi5 p a b := by
 kernel_rfl
def Z4Z (p : Int) (a b : P2) : Int × Int :=
 (Z1B p a b (Z1C p 2))
theorem ZC7 (p : Int) (a b : P2) (hp : (prB p) = true) : Zi5 p a b = some (Z4Z p a b) := by
 unfold Zi5 Z4Z
 (try simp only [Zz])
 repeat' (first | with_reducible rfl | with_reducible refine Zv hp ?_ | refine Zm (fun _ => ?_) (fun _ => ?_) | rfl)
def Zcu : RunP
 | [.v (.int .i64 p), .v (.agg ⟨[.int .i64 a0, .int .i64 a1]⟩), .v (.agg ⟨[.int .i64 b0, .int .i64 b1]⟩)] => some (prB p, Zai (Z4Z p (a0, a1) (b0, b1)))
 | _ => none
theorem ZjE : Sound prog 108 Zcu := by
 refine Zd ZgD ZCG (by kernel_rfl) func108 ntmps108 rfl (by kernel_rfl) fun q r E => ?_
 unfold Zcu at E
 split at E
 ·obtain ⟨hp, rfl⟩ := so2 E
  rename_i p a0 a1 b0 b1
  exact ⟨_, _, rfl, (ZDi p (a0, a1) (b0, b1)).trans (ZC7 p (a0, a1) (b0, b1) hp)⟩
 ·cases E

def ZrI : Sums := ⟨tblS [(242, Z2g)], tblM [], false⟩
theorem ZCU : Ze prog ZrI := ⟨Za ⟨⟨call242, Z21⟩, ⟨⟩⟩, tM⟩
def Zii (p t : Int) (a : P2) : Option P2 :=
 (if (prB p) = true then (if (prB p) = true then some ((Zi (wI (t * a.1)) p), (Zi (wI (t * a.2)) p)) else none) else none)
theorem ZDw (p t : Int) (a : P2) : eT ZrI 204 20 Z7A [pI p, pI t, pA a] = Zii p t a := by
 kernel_rfl
def Z0X (p t : Int) (a : P2) : Int × Int :=
 ((Zi (wrap64 (t * a.1)) p), (Zi (wrap64 (t * a.2)) p))
theorem ZCl (p t : Int) (a : P2) (hp : (prB p) = true) : Zii p t a = some (Z0X p t a) := by
 unfold Zii Z0X
 (try simp only [Zz])
 repeat' (first | with_reducible rfl | with_reducible refine Zv hp ?_ | refine Zm (fun _ => ?_) (fun _ => ?_) | rfl)
def Z9z : RunP
 | [.v (.int .i64 p), .v (.int .i64 t), .v (.agg ⟨[.int .i64 a0, .int .i64 a1]⟩)] => some (prB p, Zai (Z0X p t (a0, a1)))
 | _ => none
theorem ZdV : Sound prog 204 Z9z := by
 refine Zd ZgD ZCU (by kernel_rfl) func204 ntmps204 rfl (by kernel_rfl) fun q r E => ?_
 unfold Z9z at E
 split at E
 ·obtain ⟨hp, rfl⟩ := so2 E
  rename_i p t a0 a1
  exact ⟨_, _, rfl, (ZDw p t (a0, a1)).trans (ZCl p t (a0, a1) hp)⟩
 ·cases E

def Zp7 : Sums := ⟨tblS [(203, ZaL), (204, Z9z)], tblM [], false⟩
theorem ZzB : Ze prog Zp7 := ⟨Za ⟨⟨call203, Zfu⟩, ⟨call204, ZdV⟩, ⟨⟩⟩, tM⟩
def Zge (p : Int) (a b : P2) : Option P2 :=
 (if (prB p) = true then (if (prB p) = true then some (Z0X p (wI ((wI (p + 1)).tdiv 2)) (Z0m p a b)) else none) else none)
theorem ZAK (p : Int) (a b : P2) : eT Zp7 180 16 Z7A [pI p, pA a, pA b] = Zge p a b := by
 kernel_rfl
def Z1f (p : Int) (a b : P2) : Int × Int :=
 (Z0X p (wrap64 ((wrap64 (p + 1)).tdiv 2)) (Z0m p a b))
theorem ZyP (p : Int) (a b : P2) (hp : (prB p) = true) : Zge p a b = some (Z1f p a b) := by
 unfold Zge Z1f
 (try simp only [Zz])
 repeat' (first | with_reducible rfl | with_reducible refine Zv hp ?_ | refine Zm (fun _ => ?_) (fun _ => ?_) | rfl)
def Z8h : RunP
 | [.v (.int .i64 p), .v (.agg ⟨[.int .i64 a0, .int .i64 a1]⟩), .v (.agg ⟨[.int .i64 b0, .int .i64 b1]⟩)] => some (prB p, Zai (Z1f p (a0, a1) (b0, b1)))
 | _ => none
theorem ZcM : Sound prog 180 Z8h := by
 refine Zd ZgD ZzB (by kernel_rfl) func180 ntmps180 rfl (by kernel_rfl) fun q r E => ?_
 unfold Z8h at E
 split at E
 ·obtain ⟨hp, rfl⟩ := so2 E
  rename_i p a0 a1 b0 b1
  exact ⟨_, _, rfl, (ZAK p (a0, a1) (b0, b1)).trans (ZyP p (a0, a1) (b0, b1) hp)⟩
 ·cases E

def Zwk : Sums := ⟨tblS [(215, Zh3)], tblM [], false⟩
theorem ZFy : Ze prog Zwk := ⟨Za ⟨⟨call215, Zvw⟩, ⟨⟩⟩, tM⟩
def ZjQ (p : Int) (a way : P2) : Option P3 :=
 (if (prB p) = true then some (Zbi p way.2 (wI (0 - way.1)) (wI (0 - (wI ((wI (way.2 * a.1)) + (wI ((wI (0 - way.1)) * a.2))))))) else none)
theorem ZGn (p : Int) (a way : P2) : eT Zwk 167 28 Zah [pI p, pA a, pA way] = ZjQ p a way := by
 kernel_rfl
def ZfY (p : Int) (a way : P2) : Int × Int × Int :=
 (Zbi p way.2 (wrap64 (0 - way.1)) (wrap64 (0 - (wrap64 ((wrap64 (way.2 * a.1)) + (wrap64 ((wrap64 (0 - way.1)) * a.2)))))))
theorem ZE7 (p : Int) (a way : P2) (hp : (prB p) = true) : ZjQ p a way = some (ZfY p a way) := by
 unfold ZjQ ZfY
 (try simp only [Zz])
 repeat' (first | with_reducible rfl | with_reducible refine Zv hp ?_ | refine Zm (fun _ => ?_) (fun _ => ?_) | rfl)
def ZiI : RunP
 | [.v (.int .i64 p), .v (.agg ⟨[.int .i64 a0, .int .i64 a1]⟩), .v (.agg ⟨[.int .i64 way0, .int .i64 way1]⟩)] => some (prB p, Zf7 (ZfY p (a0, a1) (way0, way1)))
 | _ => none
theorem Zyo : Sound prog 167 ZiI := by
 refine Zd ZmD ZFy (by kernel_rfl) func167 ntmps167 rfl (by kernel_rfl) fun q r E => ?_
 unfold ZiI at E
 split at E
 ·obtain ⟨hp, rfl⟩ := so2 E
  rename_i p a0 a1 way0 way1
  exact ⟨_, _, rfl, (ZGn p (a0, a1) (way0, way1)).trans (ZE7 p (a0, a1) (way0, way1) hp)⟩
 ·cases E

def Zl2 : Sums := ⟨tblS [(128, ZdD), (167, ZiI)], tblM [], false⟩
theorem Zu0 : Ze prog Zl2 := ⟨Za ⟨⟨call128, ZfR⟩, ⟨call167, Zyo⟩, ⟨⟩⟩, tM⟩
def Zd1 (p : Int) (a b : P2) : Option P3 :=
 (if (prB p) = true then (if (prB p) = true then some (ZfY p a (Z44 p b a)) else none) else none)
theorem ZuF (p : Int) (a b : P2) : eT Zl2 110 14 Zah [pI p, pA a, pA b] = Zd1 p a b := by
 kernel_rfl
def Zr (p : Int) (a b : P2) : Int × Int × Int :=
 (ZfY p a (Z44 p b a))
theorem Ztp (p : Int) (a b : P2) (hp : (prB p) = true) : Zd1 p a b = some (Zr p a b) := by
 unfold Zd1 Zr
 (try simp only [Zz])
 repeat' (first | with_reducible rfl | with_reducible refine Zv hp ?_ | refine Zm (fun _ => ?_) (fun _ => ?_) | rfl)
def Z2K : RunP
 | [.v (.int .i64 p), .v (.agg ⟨[.int .i64 a0, .int .i64 a1]⟩), .v (.agg ⟨[.int .i64 b0, .int .i64 b1]⟩)] => some (prB p, Zf7 (Zr p (a0, a1) (b0, b1)))
 | _ => none
theorem Z3F : Sound prog 110 Z2K := by
 refine Zd ZmD Zu0 (by kernel_rfl) func110 ntmps110 rfl (by kernel_rfl) fun q r E => ?_
 unfold Z2K at E
 split at E
 ·obtain ⟨hp, rfl⟩ := so2 E
  rename_i p a0 a1 b0 b1
  exact ⟨_, _, rfl, (ZuF p (a0, a1) (b0, b1)).trans (Ztp p (a0, a1) (b0, b1) hp)⟩
 ·cases E

def Zmu : Sums := ⟨tblS [(222, Z8i)], tblM [], false⟩
theorem Zxg : Ze prog Zmu := ⟨Za ⟨⟨call222, ZcN⟩, ⟨⟩⟩, tM⟩
def ZeZ (p : Int) (a b : P2) : Option P3 :=
 (if (prB p) = true then some (ZP p (wI (a.2 - b.2)) (wI (b.1 - a.1)) (wI ((wI (a.1 * b.2)) - (wI (b.1 * a.2))))) else none)
theorem ZxU (p : Int) (a b : P2) : eT Zmu 181 30 Zah [pI p, pA a, pA b] = ZeZ p a b := by
 kernel_rfl
def Zx (p : Int) (a b : P2) : Int × Int × Int :=
 (ZP p (wrap64 (a.2 - b.2)) (wrap64 (b.1 - a.1)) (wrap64 ((wrap64 (a.1 * b.2)) - (wrap64 (b.1 * a.2)))))
theorem Zw3 (p : Int) (a b : P2) (hp : (prB p) = true) : ZeZ p a b = some (Zx p a b) := by
 unfold ZeZ Zx
 (try simp only [Zz])
 repeat' (first | with_reducible rfl | with_reducible refine Zv hp ?_ | refine Zm (fun _ => ?_) (fun _ => ?_) | rfl)
def Z4e : RunP
 | [.v (.int .i64 p), .v (.agg ⟨[.int .i64 a0, .int .i64 a1]⟩), .v (.agg ⟨[.int .i64 b0, .int .i64 b1]⟩)] => some (prB p, Zf7 (Zx p (a0, a1) (b0, b1)))
 | _ => none
theorem Z67 : Sound prog 181 Z4e := by
 refine Zd ZmD Zxg (by kernel_rfl) func181 ntmps181 rfl (by kernel_rfl) fun q r E => ?_
 unfold Z4e at E
 split at E
 ·obtain ⟨hp, rfl⟩ := so2 E
  rename_i p a0 a1 b0 b1
  exact ⟨_, _, rfl, (ZxU p (a0, a1) (b0, b1)).trans (Zw3 p (a0, a1) (b0, b1) hp)⟩
 ·cases E

def Zef : Sums := ⟨tblS [(216, ZnU), (129, Z8I)], tblM [], false⟩
theorem Zly : Ze prog Zef := ⟨Za ⟨⟨call216, ZwQ⟩, ⟨call129, Zb0⟩, ⟨⟩⟩, tM⟩
def Z8P (p Z0 : Int) (l m : P3) : Option (Bool) :=
 (if (prB p) = true then (if (prB p) = true then (if (prB p) = true then some ((Z2z p Z0 (Z7P p l) (Z7P p m)) == 0) else none) else none) else none)
theorem ZlB (p Z0 : Int) (l m : P3) : eT Zef 168 19 Z1M [pI p, pI Z0, pB l, pB m] = Z8P p Z0 l m := by
 kernel_rfl
def Z0o (p Z0 : Int) (l m : P3) : Bool :=
 (Z2z p Z0 (Z7P p l) (Z7P p m)) == 0
theorem ZkQ (p Z0 : Int) (l m : P3) (hp : (prB p) = true) : Z8P p Z0 l m = some (Z0o p Z0 l m) := by
 unfold Z8P Z0o
 (try simp only [Zz])
 repeat' (first | with_reducible rfl | with_reducible refine Zv hp ?_ | refine Zm (fun _ => ?_) (fun _ => ?_) | rfl)
def Z5f : RunP
 | [.v (.int .i64 p), .v (.int .i64 Z0), .v (.agg ⟨[.int .i64 l0, .int .i64 l1, .int .i64 l2]⟩), .v (.agg ⟨[.int .i64 m0, .int .i64 m1, .int .i64 m2]⟩)] => some (prB p, Z4k (Z0o p Z0 (l0, l1, l2) (m0, m1, m2)))
 | _ => none
theorem ZaM : Sound prog 168 Z5f := by
 refine Zd Z9i Zly (by kernel_rfl) func168 ntmps168 rfl (by kernel_rfl) fun q r E => ?_
 unfold Z5f at E
 split at E
 ·obtain ⟨hp, rfl⟩ := so2 E
  rename_i p Z0 l0 l1 l2 m0 m1 m2
  exact ⟨_, _, rfl, (ZlB p Z0 (l0, l1, l2) (m0, m1, m2)).trans (ZkQ p Z0 (l0, l1, l2) (m0, m1, m2) hp)⟩
 ·cases E

def ZzO : Sums := ⟨tblS [(168, Z5f)], tblM [], false⟩
theorem ZHI : Ze prog ZzO := ⟨Za ⟨⟨call168, ZaM⟩, ⟨⟩⟩, tM⟩
def Zm0 (p Z0 : Int) (l : P3) : Option (Bool) :=
 (if (prB p) = true then some (Z0o p Z0 l l) else none)
theorem ZIl (p Z0 : Int) (l : P3) : eT ZzO 113 12 Z1M [pI p, pI Z0, pB l] = Zm0 p Z0 l := by
 kernel_rfl
def Z1Y (p Z0 : Int) (l : P3) : Bool :=
 (Z0o p Z0 l l)
theorem ZHo (p Z0 : Int) (l : P3) (hp : (prB p) = true) : Zm0 p Z0 l = some (Z1Y p Z0 l) := by
 unfold Zm0 Z1Y
 (try simp only [Zz])
 repeat' (first | with_reducible rfl | with_reducible refine Zv hp ?_ | refine Zm (fun _ => ?_) (fun _ => ?_) | rfl)
def Za2 : RunP
 | [.v (.int .i64 p), .v (.int .i64 Z0), .v (.agg ⟨[.int .i64 l0, .int .i64 l1, .int .i64 l2]⟩)] => some (prB p, Z4k (Z1Y p Z0 (l0, l1, l2)))
 | _ => none
theorem ZcL : Sound prog 113 Za2 := by
 refine Zd Z9i ZHI (by kernel_rfl) func113 ntmps113 rfl (by kernel_rfl) fun q r E => ?_
 unfold Za2 at E
 split at E
 ·obtain ⟨hp, rfl⟩ := so2 E
  rename_i p Z0 l0 l1 l2
  exact ⟨_, _, rfl, (ZIl p Z0 (l0, l1, l2)).trans (ZHo p Z0 (l0, l1, l2) hp)⟩
 ·cases E

def Z7s : Sums := ⟨tblS [(173, Z3y)], tblM [], false⟩
theorem Zrh : Ze prog Z7s := ⟨Za ⟨⟨call173, Z30⟩, ⟨⟩⟩, tM⟩
def ZpI (p : Int) (a : P2) (l13 : List Int) (m13 : Nat) (b : Int) : Tab := ⟨[vI (p), .val (.agg ⟨[.int .i64 a.1, .int .i64 a.2]⟩), jK, .ptr 12 0, .val (.slice none 0 0), .row 52, vI (b), vI (p), .ptr 12 1, vI (a.2), vI ((wI (0 - a.2))), vI ((ZF p (wI (0 - a.2)))), .val (.agg ⟨[.int .i64 0, .int .i64 1, .int .i64 (ZF p (wI (0 - a.2)))]⟩), ] ++ (jN 21 ++ [jK]), [(12, .box 25 [vI (a.1), vI (a.2)]), (52, .row 90 3 m13 (.ints l13))]⟩
def Z4a (P : Program) (fu : Nat) (p : Int) (a : P2) (f : Nat) (l13 : List Int) (m13 : Nat) (b : Int) : Option (Nat × List Int) := Z1u (exec P Z7s 35 (fun _ => fu + 100) (Code.sub [1, 1, 0, 1, 0, 0] (ZS P 176))) f (ZpI p a l13 m13 b) (Z0g 0 (kSeq (fun zs9 => exec P Z7s 35 (fun _ => fu + 100) (Code.sub [1, 1, 1] (ZS P 176)) zs9 (finT P 176 Z8C)) (finT P 176 Z8C)))
def Z46 (p : Int) (a : P2) (Z1F : (List Int) -> Nat -> Int -> Option (Nat × List Int)) (l13 : List Int) (m13 : Nat) (b : Int) : Option (Nat × List Int) :=
 (if (decide (b < p)) = true then (if (prB p) = true then (if (Nat.ble 0 1 && Nat.ble (m13 + 1) 2000000 && Nat.beq 3 (3)) = true then Z1F (l13 ++ [1, b, (ZF p (wI ((wI (0 - a.1)) - (wI (b * a.2)))))]) (m13 + 1) (wI (b + 1)) else none) else none) else some (m13, l13))
def Z2i (fu : Nat) (p : Int) (a : P2) : Nat -> (List Int) -> Nat -> Int -> Option (Nat × List Int)
 | 0, _, _, _ => none
 | f + 1, l13, m13, b => Z46 p a (Z2i fu p a f) l13 m13 b
theorem ZlE (fu : Nat) (p : Int) (a : P2) : ∀ (f : Nat) (l13 : List Int) (m13 : Nat) (b : Int), Z4a prog fu p a f l13 m13 b = Z2i fu p a f l13 m13 b := by
 intro f
 induction f with
 | zero => intros; rfl
 | succ f ih =>
  intro l13 m13 b
  have h1 : Z4a prog fu p a (f + 1) l13 m13 b = Z46 p a (Z4a prog fu p a f) l13 m13 b := by kernel_rfl
  have h2 : Z4a prog fu p a f = Z2i fu p a f := by funext l13 m13 b; exact ih l13 m13 b
  rw [h1, h2]
  rfl
def Zdg (p : Int) (a : P2) (lo0 : (List Int) -> Nat -> Int -> Option (Nat × List Int)) : Option (Nat × List Int) :=
 (if (prB p) = true then lo0 [0, 1, (ZF p (wI (0 - a.2)))] 1 0 else none)
def ZbP (fu : Nat) (p : Int) (a : P2) : Option (Nat × List Int) := Zdg p a (Z2i fu p a (fu + 100))
theorem Zs7 (fu : Nat) (p : Int) (a : P2) : eF fu Z7s 176 35 Z8C [pI p, pA a] = ZbP fu p a := by
 have h1 : eF fu Z7s 176 35 Z8C [pI p, pA a] = Zdg p a (Z4a prog fu p a (fu + 100)) := by kernel_rfl
 have c0 : Z4a prog fu p a (fu + 100) = Z2i fu p a (fu + 100) := by funext l13 m13 b; exact ZlE fu p a (fu + 100) l13 m13 b
 rw [h1, c0]
 rfl
def Z0c (p : Int) (a : P2) : List P3 := ((0, 1, ZF p (wrap64 (0 - a.2))) :: ((List.range p.toNat).map fun b : Nat => ((1 : Int), (b : Int), ZF p (wrap64 (wrap64 (0 - a.1) - wrap64 ((b : Int) * a.2))))))
def ZL (p : Int) (a : P2) : Nat × List Int := ((Z0c p a).length, Z1i (Z0c p a))
theorem Zqe {p : Int} (hp : prB p = true) (a : P2) : (Z0c p a).length <= 993 := by
 have h1 := (Zci hp).1
 unfold Z0c
 simp; omega

theorem Zr2 (p : Int) (a : P2) (hp : (prB p) = true) : ZbP 1000000 p a = some (ZL p a) := by
 obtain ⟨h1, h0, hpn⟩ := Zci hp
 unfold ZbP Zdg
 rw [if_pos hp]
 refine (gather (flat := Z1i) ZuY rfl (L := fun f l m i => Z2i 1000000 p a f l m i) (n := p.toNat) (b := 1) (M := 1) (fun b : Nat => [((1 : Int), (b : Int), ZF p (wrap64 (wrap64 (0 - a.1) - wrap64 ((b : Int) * a.2))))]) (K := (some (ZL p a))) (l := [0, 1, ZF p (wI (0 - a.2))]) (m := 1) (F := (1000000 + 100)) (by intro k hk; first | (split <;> simp) | simp_all)
  (fun f k l m hk hm => by
   show Z46 p a (Z2i 1000000 p a f) l m (k : Int) = _
   unfold Z46
   simp only [cndp hk, hp, if_true, Zz]
   rw [if_pos (by simp; omega), show wrap64 ((k : Int) + 1) = ((k + 1 : Nat) : Int) from by rw [<- Zz]; exact Z4j hk (by omega)]
   rfl)
  (fun f hm => by
   show Z46 p a (Z2i 1000000 p a f) ([0, 1, ZF p (wI (0 - a.2))] ++ Z1i ((List.range p.toNat).flatMap (fun b : Nat => [((1 : Int), (b : Int), ZF p (wrap64 (wrap64 (0 - a.1) - wrap64 ((b : Int) * a.2))))]))) (1 + ((List.range p.toNat).flatMap (fun b : Nat => [((1 : Int), (b : Int), ZF p (wrap64 (wrap64 (0 - a.1) - wrap64 ((b : Int) * a.2))))])).length) ((p.toNat : Nat) : Int) = _
   unfold Z46
   rw [if_neg (by simp; omega), ZwH]
   refine congrArg some (Prod.ext ?_ ?_)
   ·simp [ZL, Z0c]; omega
   ·simp only [Zz]
    rfl) (by omega) (Nat.le_refl _)).trans ?_
 rfl
def Z83 : RunP
 | [.v (.int .i64 p), .v (.agg ⟨[.int .i64 a0, .int .i64 a1]⟩)] => some (prB p, Zuw (ZL p (a0, a1)))
 | _ => none
theorem ZeD : Sound prog 176 Z83 := by
 refine Zd ZIc Zrh (by kernel_rfl) func176 ntmps176 rfl (by kernel_rfl) fun q r E => ?_
 unfold Z83 at E
 split at E
 ·obtain ⟨hp, rfl⟩ := so2 E
  rename_i p a0 a1
  exact ⟨_, _, rfl, (Zs7 _ p (a0, a1)).trans (Zr2 p (a0, a1) hp)⟩
 ·cases E

def Z6P : Sums := ⟨tblS [(176, Z83), (168, Z5f)], tblM [], false⟩
theorem ZpA : Ze prog Z6P := ⟨Za ⟨⟨call176, ZeD⟩, ⟨call168, ZaM⟩, ⟨⟩⟩, tM⟩
def Zo9 (p Z0 : Int) (l : P3) (a : P2) (t15 : Int) : Tab := ⟨[vI (p), vI (Z0), .val (.agg ⟨[.int .i64 l.1, .int .i64 l.2.1, .int .i64 l.2.2]⟩), .val (.agg ⟨[.int .i64 a.1, .int .i64 a.2]⟩), jK, jK, .ptr 24 0, .ptr 28 0, .ptr 32 0, jK, jK, vI (p), .val (.agg ⟨[.int .i64 a.1, .int .i64 a.2]⟩), .row 52, vI ((((ZL p a).1 : Nat) : Int)), vI (t15), ] ++ (jN 10 ++ [jK]), [(24, .box 90 [vI (l.1), vI (l.2.1), vI (l.2.2)]), (28, .box 25 [vI (a.1), vI (a.2)]), (32, .box 90 [vI (0), vI (0), vI (0)]), (52, .row 90 3 ((ZL p a).1) (.ints ((ZL p a).2)))]⟩
def Z3D (P : Program) (fu : Nat) (p Z0 : Int) (l : P3) (a : P2) (f : Nat) (t15 : Int) : Option P3 := Z1u (exec P Z6P 27 (fun _ => fu + 100) (Code.sub [1, 0, 1, 0, 0] (ZS P 170))) f (Zo9 p Z0 l a t15) (Z0g 0 (kSeq (fun zs9 => exec P Z6P 27 (fun _ => fu + 100) (Code.sub [1, 1] (ZS P 170)) zs9 (finT P 170 Zah)) (finT P 170 Zah)))
def Z3C (p Z0 : Int) (l : P3) (a : P2) (Z1F : Int -> Option P3) (t15 : Int) : Option P3 :=
 (if (decide (t15 < (((ZL p a).1 : Nat) : Int))) = true then (if (decide (0 <= t15) && decide (t15 < (((ZL p a).1 : Nat) : Int))) = true then (if (Nat.ble (t15.toNat * 3 + 3) (((ZL p a).2).length)) = true then (if (prB p) = true then (if (Z0o p Z0 l (((ZL p a).2).getD (t15.toNat * 3 + 0) 0, ((ZL p a).2).getD (t15.toNat * 3 + 1) 0, ((ZL p a).2).getD (t15.toNat * 3 + 2) 0)) = true then some (((ZL p a).2).getD (t15.toNat * 3 + 0) 0, ((ZL p a).2).getD (t15.toNat * 3 + 1) 0, ((ZL p a).2).getD (t15.toNat * 3 + 2) 0) else Z1F (wI (t15 + 1))) else none) else none) else none) else some (0, 0, 0))
def Z1E (fu : Nat) (p Z0 : Int) (l : P3) (a : P2) : Nat -> Int -> Option P3
 | 0, _ => none
 | f + 1, t15 => Z3C p Z0 l a (Z1E fu p Z0 l a f) t15
theorem Zko (fu : Nat) (p Z0 : Int) (l : P3) (a : P2) : ∀ (f : Nat) (t15 : Int), Z3D prog fu p Z0 l a f t15 = Z1E fu p Z0 l a f t15 := by
 intro f
 induction f with
 | zero => intros; rfl
 | succ f ih =>
  intro t15
  have h1 : Z3D prog fu p Z0 l a (f + 1) t15 = Z3C p Z0 l a (Z3D prog fu p Z0 l a f) t15 := by kernel_rfl
  have h2 : Z3D prog fu p Z0 l a f = Z1E fu p Z0 l a f := by funext t15; exact ih t15
  rw [h1, h2]
  rfl
def ZbZ (p Z0 : Int) (l : P3) (a : P2) (lo0 : Int -> Option P3) : Option P3 :=
 (if (prB p) = true then lo0 0 else none)
def Zb8 (fu : Nat) (p Z0 : Int) (l : P3) (a : P2) : Option P3 := ZbZ p Z0 l a (Z1E fu p Z0 l a (fu + 100))
theorem ZpY (fu : Nat) (p Z0 : Int) (l : P3) (a : P2) : eF fu Z6P 170 27 Zah [pI p, pI Z0, pB l, pA a] = Zb8 fu p Z0 l a := by
 have h1 : eF fu Z6P 170 27 Zah [pI p, pI Z0, pB l, pA a] = ZbZ p Z0 l a (Z3D prog fu p Z0 l a (fu + 100)) := by kernel_rfl
 have c0 : Z3D prog fu p Z0 l a (fu + 100) = Z1E fu p Z0 l a (fu + 100) := by funext t15; exact Zko fu p Z0 l a (fu + 100) t15
 rw [h1, c0]
 rfl
def Z3T (p Z0 : Int) (l : P3) (a : P2) : P3 := (((Z0c p a).findSome? fun zz => if Z0o p Z0 l zz = true then some zz else none)).getD (0, 0, 0)
theorem Zoh (p Z0 : Int) (l : P3) (a : P2) (hp : prB p = true) {F : Nat} (hF : 993 < F) : Z1E 1000000 p Z0 l a F 0 = some ((((Z0c p a).findSome? fun zz => if Z0o p Z0 l zz = true then some (zz) else none)).getD (0, 0, 0)) := by
 have Z4X : (Z0c p a).length <= 993 := Zqe hp a
 have h := seek (L := fun f i => Z1E 1000000 p Z0 l a f i) (n := (Z0c p a).length) (F := F) (q := fun k => if Z0o p Z0 l (R3 (Z1i (Z0c p a)) k) = true then some ((R3 (Z1i (Z0c p a)) k)) else none) (e := (0, 0, 0)) (by omega)
  (fun f k hk => by
   show Z3C p Z0 l a (Z1E 1000000 p Z0 l a f) (k : Int) = _
   unfold Z3C
   have e0 : decide (0 <= (k : Int)) = true := by simp
   have e1 := cnd hk
   have e3 : (k : Int).toNat = k := Int.toNat_natCast k
   have e4 := ZM5 (Z5O _) hk
   rw [show ZL p a = ((Z0c p a).length, Z1i (Z0c p a)) from rfl]
   simp only [e0, e1, e3, e4, hp, Bool.and_true, Bool.true_and, if_true, Z4j hk (by omega)]
   have hr : ((Z1i (Z0c p a)).getD (k * 3 + 0) 0, (Z1i (Z0c p a)).getD (k * 3 + 1) 0, (Z1i (Z0c p a)).getD (k * 3 + 2) 0) = R3 (Z1i (Z0c p a)) k := rfl
   try simp only [hr]
   generalize (Z0o p Z0 l (R3 (Z1i (Z0c p a)) k)) = c0
   cases c0 <;> rfl)
  (fun f => by
   show Z3C p Z0 l a (Z1E 1000000 p Z0 l a f) (((Z0c p a).length : Nat) : Int) = _
   unfold Z3C
   rw [show ZL p a = ((Z0c p a).length, Z1i (Z0c p a)) from rfl]
   rw [if_neg (by simp)])
 have h2 := ZIA (Z0c p a) (0, 0, 0) (fun zz => if Z0o p Z0 l zz = true then some (zz) else none)
 rw [<- h2]
 simp only [<- ZyX]
 exact h

theorem ZoO (p Z0 : Int) (l : P3) (a : P2) (hp : (prB p) = true) : Zb8 1000000 p Z0 l a = some (Z3T p Z0 l a) := by
 unfold Zb8 ZbZ
 rw [if_pos hp]
 exact Zoh p Z0 l a hp (by omega)
def Z7i : RunP
 | [.v (.int .i64 p), .v (.int .i64 Z0), .v (.agg ⟨[.int .i64 l0, .int .i64 l1, .int .i64 l2]⟩), .v (.agg ⟨[.int .i64 a0, .int .i64 a1]⟩)] => some (prB p, Zf7 (Z3T p Z0 (l0, l1, l2) (a0, a1)))
 | _ => none
theorem ZcS : Sound prog 170 Z7i := by
 refine Zd ZmD ZpA (by kernel_rfl) func170 ntmps170 rfl (by kernel_rfl) fun q r E => ?_
 unfold Z7i at E
 split at E
 ·obtain ⟨hp, rfl⟩ := so2 E
  rename_i p Z0 l0 l1 l2 a0 a1
  exact ⟨_, _, rfl, (ZpY _ p Z0 (l0, l1, l2) (a0, a1)).trans (ZoO p Z0 (l0, l1, l2) (a0, a1) hp)⟩
 ·cases E

def ZHU : Sums := ⟨tblS [(173, Z3y), (137, Za1)], tblM [], false⟩
theorem ZMn : Ze prog ZHU := ⟨Za ⟨⟨call173, Z30⟩, ⟨call137, ZcK⟩, ⟨⟩⟩, tM⟩
def ZtO (p : Int) (l m : P3) : Option P2 :=
 (if (prB p) = true then (if (prB p) = true then (if (prB p) = true then (if (prB p) = true then (if (prB p) = true then some ((Z0L p (ZF p (wI ((wI (l.2.1 * m.2.2)) - (wI (l.2.2 * m.2.1))))) (ZF p (wI ((wI (l.1 * m.2.1)) - (wI (l.2.1 * m.1)))))), (Z0L p (ZF p (wI ((wI (l.2.2 * m.1)) - (wI (l.1 * m.2.2))))) (ZF p (wI ((wI (l.1 * m.2.1)) - (wI (l.2.1 * m.1))))))) else none) else none) else none) else none) else none)
theorem ZMI (p : Int) (l m : P3) : eT ZHU 169 54 Z7A [pI p, pB l, pB m] = ZtO p l m := by
 kernel_rfl
def Zcc (p : Int) (l m : P3) : Int × Int :=
 ((Z0L p (ZF p (wrap64 ((wrap64 (l.2.1 * m.2.2)) - (wrap64 (l.2.2 * m.2.1))))) (ZF p (wrap64 ((wrap64 (l.1 * m.2.1)) - (wrap64 (l.2.1 * m.1)))))), (Z0L p (ZF p (wrap64 ((wrap64 (l.2.2 * m.1)) - (wrap64 (l.1 * m.2.2))))) (ZF p (wrap64 ((wrap64 (l.1 * m.2.1)) - (wrap64 (l.2.1 * m.1)))))))
theorem ZKY (p : Int) (l m : P3) (hp : (prB p) = true) : ZtO p l m = some (Zcc p l m) := by
 unfold ZtO Zcc
 (try simp only [Zz])
 repeat' (first | with_reducible rfl | with_reducible refine Zv hp ?_ | refine Zm (fun _ => ?_) (fun _ => ?_) | rfl)
def ZkA : RunP
 | [.v (.int .i64 p), .v (.agg ⟨[.int .i64 l0, .int .i64 l1, .int .i64 l2]⟩), .v (.agg ⟨[.int .i64 m0, .int .i64 m1, .int .i64 m2]⟩)] => some (prB p, Zai (Zcc p (l0, l1, l2) (m0, m1, m2)))
 | _ => none
theorem Zt3 : Sound prog 169 ZkA := by
 refine Zd ZgD ZMn (by kernel_rfl) func169 ntmps169 rfl (by kernel_rfl) fun q r E => ?_
 unfold ZkA at E
 split at E
 ·obtain ⟨hp, rfl⟩ := so2 E
  rename_i p l0 l1 l2 m0 m1 m2
  exact ⟨_, _, rfl, (ZMI p (l0, l1, l2) (m0, m1, m2)).trans (ZKY p (l0, l1, l2) (m0, m1, m2) hp)⟩
 ·cases E

def ZHS : Sums := ⟨tblS [(170, Z7i), (169, ZkA)], tblM [], false⟩
theorem ZMl : Ze prog ZHS := ⟨Za ⟨⟨call170, ZcS⟩, ⟨call169, Zt3⟩, ⟨⟩⟩, tM⟩
def ZtM (p Z0 : Int) (a : P2) (l : P3) : Option P2 :=
 (if (prB p) = true then (if (prB p) = true then some (Zcc p l (Z3T p Z0 l a)) else none) else none)
theorem ZMG (p Z0 : Int) (a : P2) (l : P3) : eT ZHS 114 17 Z7A [pI p, pI Z0, pA a, pB l] = ZtM p Z0 a l := by
 kernel_rfl
def Z4H (p Z0 : Int) (a : P2) (l : P3) : Int × Int :=
 (Zcc p l (Z3T p Z0 l a))
theorem ZKW (p Z0 : Int) (a : P2) (l : P3) (hp : (prB p) = true) : ZtM p Z0 a l = some (Z4H p Z0 a l) := by
 unfold ZtM Z4H
 (try simp only [Zz])
 repeat' (first | with_reducible rfl | with_reducible refine Zv hp ?_ | refine Zm (fun _ => ?_) (fun _ => ?_) | rfl)
def Zky : RunP
 | [.v (.int .i64 p), .v (.int .i64 Z0), .v (.agg ⟨[.int .i64 a0, .int .i64 a1]⟩), .v (.agg ⟨[.int .i64 l0, .int .i64 l1, .int .i64 l2]⟩)] => some (prB p, Zai (Z4H p Z0 (a0, a1) (l0, l1, l2)))
 | _ => none
theorem ZsZ : Sound prog 114 Zky := by
 refine Zd ZgD ZMl (by kernel_rfl) func114 ntmps114 rfl (by kernel_rfl) fun q r E => ?_
 unfold Zky at E
 split at E
 ·obtain ⟨hp, rfl⟩ := so2 E
  rename_i p Z0 a0 a1 l0 l1 l2
  exact ⟨_, _, rfl, (ZMG p Z0 (a0, a1) (l0, l1, l2)).trans (ZKW p Z0 (a0, a1) (l0, l1, l2) hp)⟩
 ·cases E

def Zp9 : Sums := ⟨tblS [(160, Z7Q)], tblM [], false⟩
theorem ZzE : Ze prog Zp9 := ⟨Za ⟨⟨call160, Z8N⟩, ⟨⟩⟩, tM⟩
def Zgh (Z0 : Int) : Option (Bool) :=
 some (Z1U Z0 0 2)
theorem ZAN (Z0 : Int) : eT Zp9 98 5 Z1M [pI Z0] = Zgh Z0 := by
 kernel_rfl
def Z2a (Z0 : Int) : Bool :=
 (Z1U Z0 0 2)
theorem ZyS (Z0 : Int) : Zgh Z0 = some (Z2a Z0) := by
 unfold Zgh Z2a
 (try simp only [Zz])
 repeat' (first | with_reducible rfl | refine Zm (fun _ => ?_) (fun _ => ?_) | rfl)
def Z6H : RunP
 | [.v (.int .i64 Z0)] => some (true, Z4k (Z2a Z0))
 | _ => none
theorem Z93 : Sound prog 98 Z6H := by
 refine Zd Z9i ZzE (by kernel_rfl) func98 ntmps98 rfl (by kernel_rfl) fun q r E => ?_
 unfold Z6H at E
 split at E
 ·obtain ⟨hp, rfl⟩ := so2 E
  rename_i Z0
  exact ⟨_, _, rfl, (ZAN Z0).trans (ZyS Z0)⟩
 ·cases E

def Zmw : Sums := ⟨tblS [(242, Z2g), (222, Z8i)], tblM [], false⟩
theorem Zxi : Ze prog Zmw := ⟨Za ⟨⟨call242, Z21⟩, ⟨call222, ZcN⟩, ⟨⟩⟩, tM⟩
def Zf1 (p Z0 : Int) (d a : P2) : Option P3 :=
 (if (Z0 == 1) = true then (if (prB p) = true then (if (prB p) = true then (if (prB p) = true then some (ZP p d.1 (Zi (wI (0 - d.2)) p) (Zi (wI (0 - (wI ((wI (d.1 * a.1)) + (wI ((Zi (wI (0 - d.2)) p) * a.2)))))) p)) else none) else none) else none) else (if (Z0 == 2) = true then (if (prB p) = true then (if (prB p) = true then some (ZP p d.2 d.1 (Zi (wI (0 - (wI ((wI (d.2 * a.1)) + (wI (d.1 * a.2)))))) p)) else none) else none) else (if (prB p) = true then (if (prB p) = true then some (ZP p d.1 d.2 (Zi (wI (0 - (wI ((wI (d.1 * a.1)) + (wI (d.2 * a.2)))))) p)) else none) else none)))
theorem ZxW (p Z0 : Int) (d a : P2) : eT Zmw 227 44 Zah [pI p, pI Z0, pA d, pA a] = Zf1 p Z0 d a := by
 kernel_rfl
def Z1V (p Z0 : Int) (d a : P2) : Int × Int × Int :=
 (if (Z0 == 1) = true then (ZP p d.1 (Zi (wrap64 (0 - d.2)) p) (Zi (wrap64 (0 - (wrap64 ((wrap64 (d.1 * a.1)) + (wrap64 ((Zi (wrap64 (0 - d.2)) p) * a.2)))))) p)) else (if (Z0 == 2) = true then (ZP p d.2 d.1 (Zi (wrap64 (0 - (wrap64 ((wrap64 (d.2 * a.1)) + (wrap64 (d.1 * a.2)))))) p)) else (ZP p d.1 d.2 (Zi (wrap64 (0 - (wrap64 ((wrap64 (d.1 * a.1)) + (wrap64 (d.2 * a.2)))))) p))))
theorem Zw5 (p Z0 : Int) (d a : P2) (hp : (prB p) = true) : Zf1 p Z0 d a = some (Z1V p Z0 d a) := by
 unfold Zf1 Z1V
 (try simp only [Zz])
 repeat' (first | with_reducible rfl | with_reducible refine Zv hp ?_ | refine Zm (fun _ => ?_) (fun _ => ?_) | rfl)
def Z7H : RunP
 | [.v (.int .i64 p), .v (.int .i64 Z0), .v (.agg ⟨[.int .i64 d0, .int .i64 d1]⟩), .v (.agg ⟨[.int .i64 a0, .int .i64 a1]⟩)] => some (prB p, Zf7 (Z1V p Z0 (d0, d1) (a0, a1)))
 | _ => none
theorem Zbu : Sound prog 227 Z7H := by
 refine Zd ZmD Zxi (by kernel_rfl) func227 ntmps227 rfl (by kernel_rfl) fun q r E => ?_
 unfold Z7H at E
 split at E
 ·obtain ⟨hp, rfl⟩ := so2 E
  rename_i p Z0 d0 d1 a0 a1
  exact ⟨_, _, rfl, (ZxW p Z0 (d0, d1) (a0, a1)).trans (Zw5 p Z0 (d0, d1) (a0, a1) hp)⟩
 ·cases E

def Zwr : Sums := ⟨tblS [(242, Z2g), (233, Z5Q)], tblM [], false⟩
theorem ZFH : Ze prog Zwr := ⟨Za ⟨⟨call242, Z21⟩, ⟨call233, Z8a⟩, ⟨⟩⟩, tM⟩
def ZjW (p : Int) (l m : P3) : Option (P2 × Bool) :=
 (if (prB p) = true then (if ((Zi (wI ((wI (l.1 * m.2.1)) - (wI (l.2.1 * m.1)))) p) == 0) = true then some ((0, 0), false) else (if (prB p) = true then (if (!(p == 0)) = true then (if (prB p) = true then (if (!(p == 0)) = true then (if (prB p) = true then some (((Zi (wI (((wI ((wI (l.2.1 * m.2.2)) - (wI (m.2.1 * l.2.2)))).tmod p) * (ZB (Zi (wI ((wI (l.1 * m.2.1)) - (wI (l.2.1 * m.1)))) p) p))) p), (Zi (wI (((wI ((wI (m.1 * l.2.2)) - (wI (l.1 * m.2.2)))).tmod p) * (ZB (Zi (wI ((wI (l.1 * m.2.1)) - (wI (l.2.1 * m.1)))) p) p))) p)), true) else none) else none) else none) else none) else none)) else none)
theorem ZGw (p : Int) (l m : P3) : eT Zwr 226 64 ZrX [pI p, pB l, pB m] = ZjW p l m := by
 kernel_rfl
def Z1N (p : Int) (l m : P3) : P2 × Bool :=
 (if ((Zi (wrap64 ((wrap64 (l.1 * m.2.1)) - (wrap64 (l.2.1 * m.1)))) p) == 0) = true then ((0, 0), false) else (((Zi (wrap64 (((wrap64 ((wrap64 (l.2.1 * m.2.2)) - (wrap64 (m.2.1 * l.2.2)))).tmod p) * (ZB (Zi (wrap64 ((wrap64 (l.1 * m.2.1)) - (wrap64 (l.2.1 * m.1)))) p) p))) p), (Zi (wrap64 (((wrap64 ((wrap64 (m.1 * l.2.2)) - (wrap64 (l.1 * m.2.2)))).tmod p) * (ZB (Zi (wrap64 ((wrap64 (l.1 * m.2.1)) - (wrap64 (l.2.1 * m.1)))) p) p))) p)), true))
theorem ZEg (p : Int) (l m : P3) (hp : (prB p) = true) : ZjW p l m = some (Z1N p l m) := by
 have h0 := ZgX hp
 unfold ZjW Z1N
 (try simp only [Zz])
 repeat' (first | with_reducible rfl | with_reducible refine Zv hp ?_ | with_reducible refine Zv h0 ?_ | refine Zm (fun _ => ?_) (fun _ => ?_) | rfl)
def ZaK : RunP
 | [.v (.int .i64 p), .v (.agg ⟨[.int .i64 l0, .int .i64 l1, .int .i64 l2]⟩), .v (.agg ⟨[.int .i64 m0, .int .i64 m1, .int .i64 m2]⟩)] => some (prB p, ZAk (Z1N p (l0, l1, l2) (m0, m1, m2)))
 | _ => none
theorem Zft : Sound prog 226 ZaK := by
 refine Zd ZLh ZFH (by kernel_rfl) func226 ntmps226 rfl (by kernel_rfl) fun q r E => ?_
 unfold ZaK at E
 split at E
 ·obtain ⟨hp, rfl⟩ := so2 E
  rename_i p l0 l1 l2 m0 m1 m2
  exact ⟨_, _, rfl, (ZGw p (l0, l1, l2) (m0, m1, m2)).trans (ZEg p (l0, l1, l2) (m0, m1, m2) hp)⟩
 ·cases E

def Zww : Sums := ⟨tblS [(225, Z86), (227, Z7H), (226, ZaK)], tblM [], false⟩
theorem ZFM : Ze prog Zww := ⟨Za ⟨⟨call225, ZeF⟩, ⟨call227, Zbu⟩, ⟨call226, Zft⟩, ⟨⟩⟩, tM⟩
def Zk1 (p Z0 : Int) (a : P2) (l : P3) : Option (P2 × Bool) :=
 (if (prB p) = true then (if (prB p) = true then (if (prB p) = true then some (((Z1N p l (Z1V p Z0 (Z1K p l) a)).1), (Z1N p l (Z1V p Z0 (Z1K p l) a)).2) else none) else none) else none)
theorem ZGB (p Z0 : Int) (a : P2) (l : P3) : eT Zww 184 22 ZrX [pI p, pI Z0, pA a, pB l] = Zk1 p Z0 a l := by
 kernel_rfl
def Z0K (p Z0 : Int) (a : P2) (l : P3) : P2 × Bool :=
 (((Z1N p l (Z1V p Z0 (Z1K p l) a)).1), (Z1N p l (Z1V p Z0 (Z1K p l) a)).2)
theorem ZEl (p Z0 : Int) (a : P2) (l : P3) (hp : (prB p) = true) : Zk1 p Z0 a l = some (Z0K p Z0 a l) := by
 unfold Zk1 Z0K
 (try simp only [Zz])
 repeat' (first | with_reducible rfl | with_reducible refine Zv hp ?_ | refine Zm (fun _ => ?_) (fun _ => ?_) | rfl)
def Ze7 : RunP
 | [.v (.int .i64 p), .v (.int .i64 Z0), .v (.agg ⟨[.int .i64 a0, .int .i64 a1]⟩), .v (.agg ⟨[.int .i64 l0, .int .i64 l1, .int .i64 l2]⟩)] => some (prB p, ZAk (Z0K p Z0 (a0, a1) (l0, l1, l2)))
 | _ => none
theorem Zlu : Sound prog 184 Ze7 := by
 refine Zd ZLh ZFM (by kernel_rfl) func184 ntmps184 rfl (by kernel_rfl) fun q r E => ?_
 unfold Ze7 at E
 split at E
 ·obtain ⟨hp, rfl⟩ := so2 E
  rename_i p Z0 a0 a1 l0 l1 l2
  exact ⟨_, _, rfl, (ZGB p Z0 (a0, a1) (l0, l1, l2)).trans (ZEl p Z0 (a0, a1) (l0, l1, l2) hp)⟩
 ·cases E

def Zl6 : Sums := ⟨tblS [(72, Z52)], tblM [], false⟩
theorem Zu5 : Ze prog Zl6 := ⟨Za ⟨⟨call72, Z6Y⟩, ⟨⟩⟩, tM⟩
def Zd5 (b : P2) (c0 c1 : Int) (c2 : P2) (c3 : Int) : Option (Bool) :=
 (if (prB c0) = true then some ((ZA c0 c1 c2 b) == c3) else none)
theorem ZuK (b : P2) (c0 c1 : Int) (c2 : P2) (c3 : Int) : eT Zl6 175 14 Z1M [pA b, .p [.int .i64 c0], .p [.int .i64 c1], .p [.int .i64 c2.1, .int .i64 c2.2], .p [.int .i64 c3]] = Zd5 b c0 c1 c2 c3 := by
 kernel_rfl
def Z4p (b : P2) (c0 c1 : Int) (c2 : P2) (c3 : Int) : Bool :=
 (ZA c0 c1 c2 b) == c3
theorem Ztu (b : P2) (c0 c1 : Int) (c2 : P2) (c3 : Int) (hp : (prB c0) = true) : Zd5 b c0 c1 c2 c3 = some (Z4p b c0 c1 c2 c3) := by
 unfold Zd5 Z4p
 (try simp only [Zz])
 repeat' (first | with_reducible rfl | with_reducible refine Zv hp ?_ | refine Zm (fun _ => ?_) (fun _ => ?_) | rfl)
def Zcw : RunP
 | [.v (.agg ⟨[.int .i64 b0, .int .i64 b1]⟩), .p [.int .i64 c0], .p [.int .i64 c1], .p [.int .i64 c20, .int .i64 c21], .p [.int .i64 c3]] => some (prB c0, Z4k (Z4p (b0, b1) c0 c1 (c20, c21) c3))
 | _ => none
theorem Zoz : Sound prog 175 Zcw := by
 refine Zd Z9i Zu5 (by kernel_rfl) func175 ntmps175 rfl (by kernel_rfl) fun q r E => ?_
 unfold Zcw at E
 split at E
 ·obtain ⟨hp, rfl⟩ := so2 E
  rename_i b0 b1 c0 c1 c20 c21 c3
  exact ⟨_, _, rfl, (ZuK (b0, b1) c0 c1 (c20, c21) c3).trans (Ztu (b0, b1) c0 c1 (c20, c21) c3 hp)⟩
 ·cases E

def Z1A : Sums := ⟨tblS [], tblM [], false⟩
theorem Zzm : Ze prog Z1A := ⟨Za ⟨⟩, tM⟩
def Z6n (p : Int) (l6 : List Int) (m6 : Nat) (x : Int) : Tab := ⟨[vI (p), jK, .val (.slice none 0 0), .row 24, vI (x), ] ++ (jN 18 ++ [jK]), [(24, .row 25 2 m6 (.ints l6))]⟩
def Zxn (p : Int) (l6 : List Int) (m6 : Nat) (x : Int) (l6' : List Int) (m6' : Nat) (y : Int) : Tab := ⟨[vI (p), jK, .val (.slice none 0 0), .row 24, vI (x), vI (y), jK, vI (x), vI (p), vB ((decide (x < p))), ] ++ (jN 13 ++ [jK]), [(24, .row 25 2 m6' (.ints l6'))]⟩
def Z6o (P : Program) (fu : Nat) (p : Int) (l6 : List Int) (m6 : Nat) (x : Int) (rc2 : Tab -> Option (Nat × List Int)) (f : Nat) (l6' : List Int) (m6' : Nat) (y : Int) : Option (Nat × List Int) := Z1u (exec P Z1A 24 (fun _ => fu + 100) (Code.sub [1, 1, 0, 1, 0, 0, 1, 0, 0, 1, 0, 0] (ZS P 172))) f (Zxn p l6 m6 x l6' m6' y) (Z0g 2 (Z0g 1 (kSeq (fun zs9 => exec P Z1A 24 (fun _ => fu + 100) (Code.sub [1, 1, 0, 1, 0, 0, 1, 1] (ZS P 172)) zs9 (ZBd rc2 (Z6n p l6 m6 x) (Z0g 0 (kSeq (fun zs9 => exec P Z1A 24 (fun _ => fu + 100) (Code.sub [1, 1, 1] (ZS P 172)) zs9 (finT P 172 Z0k)) (finT P 172 Z0k))))) (ZBd rc2 (Z6n p l6 m6 x) (Z0g 0 (kSeq (fun zs9 => exec P Z1A 24 (fun _ => fu + 100) (Code.sub [1, 1, 1] (ZS P 172)) zs9 (finT P 172 Z0k)) (finT P 172 Z0k)))))))
def Z6f (p : Int) (l6 : List Int) (m6 : Nat) (x : Int) (Z2b : (List Int) -> Nat -> Int -> Option (Nat × List Int)) (ZH8 : (List Int) -> Nat -> Int -> Option (Nat × List Int)) (l6' : List Int) (m6' : Nat) (y : Int) : Option (Nat × List Int) :=
 (if (decide (y < p)) = true then (if (Nat.ble 0 1 && Nat.ble (m6' + 1) 2000000 && Nat.beq 2 (2)) = true then ZH8 (l6' ++ [x, y]) (m6' + 1) (wI (y + 1)) else none) else Z2b l6' m6' (wI (x + 1)))
def Z1X (fu : Nat) (p : Int) (l6 : List Int) (m6 : Nat) (x : Int) (Z2b : (List Int) -> Nat -> Int -> Option (Nat × List Int)) : Nat -> (List Int) -> Nat -> Int -> Option (Nat × List Int)
 | 0, _, _, _ => none
 | f + 1, l6', m6', y => Z6f p l6 m6 x Z2b (Z1X fu p l6 m6 x Z2b f) l6' m6' y
theorem Zqh (fu : Nat) (p : Int) (l6 : List Int) (m6 : Nat) (x : Int) (rc2 : Tab -> Option (Nat × List Int)) : ∀ (f : Nat) (l6' : List Int) (m6' : Nat) (y : Int), Z6o prog fu p l6 m6 x rc2 f l6' m6' y = Z1X fu p l6 m6 x (fun l6 m6 x => rc2 (Z6n p l6 m6 x)) f l6' m6' y := by
 intro f
 induction f with
 | zero => intros; rfl
 | succ f ih =>
  intro l6' m6' y
  have h1 : Z6o prog fu p l6 m6 x rc2 (f + 1) l6' m6' y = Z6f p l6 m6 x (fun l6 m6 x => rc2 (Z6n p l6 m6 x)) (Z6o prog fu p l6 m6 x rc2 f) l6' m6' y := by kernel_rfl
  have h2 : Z6o prog fu p l6 m6 x rc2 f = Z1X fu p l6 m6 x (fun l6 m6 x => rc2 (Z6n p l6 m6 x)) f := by funext l6' m6' y; exact ih l6' m6' y
  rw [h1, h2]
  rfl
def Z4V (P : Program) (fu : Nat) (p : Int) (f : Nat) (l6 : List Int) (m6 : Nat) (x : Int) : Option (Nat × List Int) := Z1u (exec P Z1A 24 (fun _ => fu + 100) (Code.sub [1, 1, 0, 1, 0, 0] (ZS P 172))) f (Z6n p l6 m6 x) (Z0g 0 (kSeq (fun zs9 => exec P Z1A 24 (fun _ => fu + 100) (Code.sub [1, 1, 1] (ZS P 172)) zs9 (finT P 172 Z0k)) (finT P 172 Z0k)))
def Z6e (p : Int) (lo3 : (List Int) -> Nat -> Int -> Option (Nat × List Int)) (Z2b : (List Int) -> Nat -> Int -> Option (Nat × List Int)) (l6 : List Int) (m6 : Nat) (x : Int) : Option (Nat × List Int) :=
 (if (decide (x < p)) = true then lo3 l6 m6 0 else some (m6, l6))
def Z1G (fu : Nat) (p : Int) : Nat -> (List Int) -> Nat -> Int -> Option (Nat × List Int)
 | 0, _, _, _ => none
 | f + 1, l6, m6, x => Z6e p (Z1X fu p l6 m6 x (Z1G fu p f) (fu + 100)) (Z1G fu p f) l6 m6 x
theorem Zqg (fu : Nat) (p : Int) : ∀ (f : Nat) (l6 : List Int) (m6 : Nat) (x : Int), Z4V prog fu p f l6 m6 x = Z1G fu p f l6 m6 x := by
 intro f
 induction f with
 | zero => intros; rfl
 | succ f ih =>
  intro l6 m6 x
  have h1 : Z4V prog fu p (f + 1) l6 m6 x = Z6e p (Z6o prog fu p l6 m6 x (fun t => Z1u (exec prog Z1A 24 (fun _ => fu + 100) (Code.sub [1, 1, 0, 1, 0, 0] (ZS prog 172))) f t (Z0g 0 (kSeq (fun zs9 => exec prog Z1A 24 (fun _ => fu + 100) (Code.sub [1, 1, 1] (ZS prog 172)) zs9 (finT prog 172 Z0k)) (finT prog 172 Z0k)))) (fu + 100)) (Z4V prog fu p f) l6 m6 x := by kernel_rfl
  have h2 : Z4V prog fu p f = Z1G fu p f := by funext l6 m6 x; exact ih l6 m6 x
  have c3 : (Z6o prog fu p l6 m6 x (fun t => Z1u (exec prog Z1A 24 (fun _ => fu + 100) (Code.sub [1, 1, 0, 1, 0, 0] (ZS prog 172))) f t (Z0g 0 (kSeq (fun zs9 => exec prog Z1A 24 (fun _ => fu + 100) (Code.sub [1, 1, 1] (ZS prog 172)) zs9 (finT prog 172 Z0k)) (finT prog 172 Z0k)))) (fu + 100)) = Z1X fu p l6 m6 x (Z4V prog fu p f) (fu + 100) := by funext l6' m6' y; exact Zqh fu p l6 m6 x (fun t => Z1u (exec prog Z1A 24 (fun _ => fu + 100) (Code.sub [1, 1, 0, 1, 0, 0] (ZS prog 172))) f t (Z0g 0 (kSeq (fun zs9 => exec prog Z1A 24 (fun _ => fu + 100) (Code.sub [1, 1, 1] (ZS prog 172)) zs9 (finT prog 172 Z0k)) (finT prog 172 Z0k)))) (fu + 100) l6' m6' y
  rw [h1, c3, h2]
  rfl
def Zio (p : Int) (lo2 : (List Int) -> Nat -> Int -> Option (Nat × List Int)) : Option (Nat × List Int) :=
 lo2 [] 0 0
def Zg5 (fu : Nat) (p : Int) : Option (Nat × List Int) := Zio p (Z1G fu p (fu + 100))
theorem ZAv (fu : Nat) (p : Int) : eF fu Z1A 172 24 Z0k [pI p] = Zg5 fu p := by
 have h1 : eF fu Z1A 172 24 Z0k [pI p] = Zio p (Z4V prog fu p (fu + 100)) := by kernel_rfl
 have c2 : Z4V prog fu p (fu + 100) = Z1G fu p (fu + 100) := by funext l6 m6 x; exact Zqg fu p (fu + 100) l6 m6 x
 rw [h1, c2]
 rfl
def Z09 (p : Int) : Nat × List Int := ((pts p).length, Z0G (pts p))
theorem Zy8 {p : Int} (hp : prB p = true) (fu : Nat) (l6 : List Int) (m6 : Nat) (x : Int) (Z2b : List Int -> Nat -> Int -> Option (Nat × List Int)) {F m : Nat} {l : List Int} (hF : p.toNat < F) (hm : m <= 100000) :
  Z1X fu p l6 m6 x Z2b F l m 0 = Z2b (l ++ Z0G ((List.range p.toNat).flatMap (fun y : Nat => [((x : Int), (y : Int))]))) (m + ((List.range p.toNat).flatMap (fun y : Nat => [((x : Int), (y : Int))])).length) (wI (x + 1)) := by
 obtain ⟨h1, h0, hpn⟩ := Zci hp
 exact gather (flat := Z0G) Zjb rfl (L := fun f l m i => Z1X fu p l6 m6 x Z2b f l m i) (n := p.toNat) (b := 1) (M := 100000) ((fun y : Nat => [((x : Int), (y : Int))])) (K := (Z2b (l ++ Z0G ((List.range p.toNat).flatMap (fun y : Nat => [((x : Int), (y : Int))]))) (m + ((List.range p.toNat).flatMap (fun y : Nat => [((x : Int), (y : Int))])).length) (wI (x + 1)))) (l := l) (m := m) (F := F) (by intro k hk; first | (split <;> simp) | simp_all)
  (fun f k l m hk hm => by
   show Z6f p l6 m6 x Z2b (Z1X fu p l6 m6 x Z2b f) l m (k : Int) = _
   unfold Z6f
   rw [if_pos (cndp hk), if_pos (by simp; omega), Z4j hk (by omega)]
   rfl)
  (fun f hm => by
   show Z6f p l6 m6 x Z2b (Z1X fu p l6 m6 x Z2b f) (l ++ Z0G ((List.range p.toNat).flatMap ((fun y : Nat => [((x : Int), (y : Int))])))) (m + ((List.range p.toNat).flatMap ((fun y : Nat => [((x : Int), (y : Int))]))).length) ((p.toNat : Nat) : Int) = _
   unfold Z6f
   rw [if_neg (by simp; omega)]) hF hm
theorem Zy7 {p : Int} (hp : prB p = true) {F : Nat} (hF : p.toNat < F) : Z1G 1000000 p F [] 0 0 = (some (((pts p)).length, Z0G ((pts p)))) := by
 obtain ⟨h1, h0, hpn⟩ := Zci hp
 exact gather (flat := Z0G) Zjb rfl (L := fun f l m i => Z1G 1000000 p f l m i) (n := p.toNat) (b := 31) (M := 0) ((fun x : Nat => (List.range p.toNat).flatMap (fun y : Nat => [(((x : Int) : Int), (y : Int))]))) (K := (some (((pts p)).length, Z0G ((pts p))))) (l := []) (m := 0) (F := F) (by intro k hk; refine Nat.le_trans (Z9p (b := 1) fun j _ => ?_) (by omega); first | (split <;> simp) | simp)
  (fun f k l m hk hm => by
   show Z6e p (Z1X 1000000 p l m (k : Int) (Z1G 1000000 p f) (1000000 + 100)) (Z1G 1000000 p f) l m (k : Int) = _
   unfold Z6e
   rw [if_pos (cndp hk), Zy8 hp _ _ _ _ _ (by omega) (by omega), Z4j hk (by omega)])
  (fun f hm => by
   show Z6e p (Z1X 1000000 p ([] ++ Z0G ((List.range p.toNat).flatMap ((fun x : Nat => (List.range p.toNat).flatMap (fun y : Nat => [(((x : Int) : Int), (y : Int))]))))) (0 + ((List.range p.toNat).flatMap ((fun x : Nat => (List.range p.toNat).flatMap (fun y : Nat => [(((x : Int) : Int), (y : Int))])))).length) ((p.toNat : Nat) : Int) (Z1G 1000000 p f) (1000000 + 100)) (Z1G 1000000 p f) ([] ++ Z0G ((List.range p.toNat).flatMap ((fun x : Nat => (List.range p.toNat).flatMap (fun y : Nat => [(((x : Int) : Int), (y : Int))]))))) (0 + ((List.range p.toNat).flatMap ((fun x : Nat => (List.range p.toNat).flatMap (fun y : Nat => [(((x : Int) : Int), (y : Int))])))).length) ((p.toNat : Nat) : Int) = _
   unfold Z6e
   have hkp : ((List.range p.toNat).flatMap (fun x : Nat => (List.range p.toNat).flatMap (fun y : Nat => [(((x : Int) : Int), (y : Int))]))) = (pts p) := by unfold pts; congr 1; funext x; exact ZwH _ _
   rw [if_neg (by simp; omega), hkp]
   simp) hF (Nat.le_refl _)

theorem ZyA (p : Int) (hp : (prB p) = true) : Zg5 1000000 p = some (Z09 p) := by
 unfold Zg5 Zio
 have h1 := (Zci hp).1
 exact Zy7 hp (by omega)
def ZaR : RunP
 | [.v (.int .i64 p)] => some (prB p, Zdq (Z09 p))
 | _ => none
theorem ZhR : Sound prog 172 ZaR := by
 refine Zd Zj8 Zzm (by kernel_rfl) func172 ntmps172 rfl (by kernel_rfl) fun q r E => ?_
 unfold ZaR at E
 split at E
 ·obtain ⟨hp, rfl⟩ := so2 E
  rename_i p
  exact ⟨_, _, rfl, (ZAv _ p).trans (ZyA p hp)⟩
 ·cases E

def Z9d : Sums := ⟨tblS [(172, ZaR)], tblM [], false⟩
theorem Zx6 : Ze prog Z9d := ⟨Za ⟨⟨call172, ZhR⟩, ⟨⟩⟩, tM⟩
def Zuk (p : Int) (ZJ : P2 -> Bool) (Zw : P2 -> Bool) (l8 : List Int) (m8 : Nat) (t12 : Int) : Tab := ⟨[vI (p), .fn (Zj6 ZJ Zw), jK, jK, .val (.slice none 0 0), .row 32, jK, jK, jK, vI (p), .row 40, vI ((((Z09 p).1 : Nat) : Int)), vI (t12), ] ++ (jN 11 ++ [jK]), [(32, .row 25 2 m8 (.ints l8)), (40, .row 25 2 ((Z09 p).1) (.ints ((Z09 p).2)))]⟩
def Z5H (P : Program) (fu : Nat) (p : Int) (ZJ : P2 -> Bool) (Zw : P2 -> Bool) (f : Nat) (l8 : List Int) (m8 : Nat) (t12 : Int) : Option (Nat × List Int) := Z1u (exec P Z9d 25 (fun _ => fu + 100) (Code.sub [1, 1, 0, 1, 0, 0] (ZS P 174))) f (Zuk p ZJ Zw l8 m8 t12) (Z0g 0 (kSeq (fun zs9 => exec P Z9d 25 (fun _ => fu + 100) (Code.sub [1, 1, 1] (ZS P 174)) zs9 (finT P 174 Z0k)) (finT P 174 Z0k)))
def Z5z (p : Int) (ZJ : P2 -> Bool) (Zw : P2 -> Bool) (Z1F : (List Int) -> Nat -> Int -> Option (Nat × List Int)) (l8 : List Int) (m8 : Nat) (t12 : Int) : Option (Nat × List Int) :=
 (if (decide (t12 < (((Z09 p).1 : Nat) : Int))) = true then (if (decide (0 <= t12) && decide (t12 < (((Z09 p).1 : Nat) : Int))) = true then (if (Nat.ble (t12.toNat * 2 + 2) (((Z09 p).2).length)) = true then (if (ZJ (((Z09 p).2).getD (t12.toNat * 2 + 0) 0, ((Z09 p).2).getD (t12.toNat * 2 + 1) 0)) = true then (if (Zw (((Z09 p).2).getD (t12.toNat * 2 + 0) 0, ((Z09 p).2).getD (t12.toNat * 2 + 1) 0)) = true then (if (Nat.ble 0 1 && Nat.ble (m8 + 1) 2000000 && Nat.beq 2 (2)) = true then Z1F (l8 ++ [((Z09 p).2).getD (t12.toNat * 2 + 0) 0, ((Z09 p).2).getD (t12.toNat * 2 + 1) 0]) (m8 + 1) (wI (t12 + 1)) else none) else Z1F l8 m8 (wI (t12 + 1))) else none) else none) else none) else some (m8, l8))
def Z2x (fu : Nat) (p : Int) (ZJ : P2 -> Bool) (Zw : P2 -> Bool) : Nat -> (List Int) -> Nat -> Int -> Option (Nat × List Int)
 | 0, _, _, _ => none
 | f + 1, l8, m8, t12 => Z5z p ZJ Zw (Z2x fu p ZJ Zw f) l8 m8 t12
theorem Zok (fu : Nat) (p : Int) (ZJ : P2 -> Bool) (Zw : P2 -> Bool) : ∀ (f : Nat) (l8 : List Int) (m8 : Nat) (t12 : Int), Z5H prog fu p ZJ Zw f l8 m8 t12 = Z2x fu p ZJ Zw f l8 m8 t12 := by
 intro f
 induction f with
 | zero => intros; rfl
 | succ f ih =>
  intro l8 m8 t12
  have h1 : Z5H prog fu p ZJ Zw (f + 1) l8 m8 t12 = Z5z p ZJ Zw (Z5H prog fu p ZJ Zw f) l8 m8 t12 := by kernel_rfl
  have h2 : Z5H prog fu p ZJ Zw f = Z2x fu p ZJ Zw f := by funext l8 m8 t12; exact ih l8 m8 t12
  rw [h1, h2]
  rfl
def Zgm (p : Int) (ZJ : P2 -> Bool) (Zw : P2 -> Bool) (lo0 : (List Int) -> Nat -> Int -> Option (Nat × List Int)) : Option (Nat × List Int) :=
 (if (prB p) = true then lo0 [] 0 0 else none)
def ZeR (fu : Nat) (p : Int) (ZJ : P2 -> Bool) (Zw : P2 -> Bool) : Option (Nat × List Int) := Zgm p ZJ Zw (Z2x fu p ZJ Zw (fu + 100))
theorem ZxK (fu : Nat) (p : Int) (ZJ : P2 -> Bool) (Zw : P2 -> Bool) : eF fu Z9d 174 25 Z0k [pI p, .f (Zj6 ZJ Zw)] = ZeR fu p ZJ Zw := by
 have h1 : eF fu Z9d 174 25 Z0k [pI p, .f (Zj6 ZJ Zw)] = Zgm p ZJ Zw (Z5H prog fu p ZJ Zw (fu + 100)) := by kernel_rfl
 have c0 : Z5H prog fu p ZJ Zw (fu + 100) = Z2x fu p ZJ Zw (fu + 100) := by funext l8 m8 t12; exact Zok fu p ZJ Zw (fu + 100) l8 m8 t12
 rw [h1, c0]
 rfl
def Z6S (p : Int) (ZJ Zw : P2 -> Bool) : Nat × List Int := (((pts p).filter Zw).length, Z0G ((pts p).filter Zw))
theorem Zv5 (p : Int) (ZJ Zw : P2 -> Bool) (hp : prB p = true) (hall : ∀ k, k < (pts p).length -> ZJ (R2 (Z0G (pts p)) k) = true) {F : Nat} (hF : 993 < F) : Z2x 1000000 p ZJ Zw F [] 0 0 = some (((pts p).filter fun zz => Zw zz).length, Z0G ((pts p).filter fun zz => Zw zz)) := by
 have Z4X : (pts p).length <= 961 := ZH6 hp
 exact gather (flat := Z0G) Zjb rfl (L := fun f l m i => Z2x 1000000 p ZJ Zw f l m i) (n := (pts p).length) (b := 1) (M := 0) (fun k => if (Zw (R2 (Z0G (pts p)) k)) = true then [R2 (Z0G (pts p)) k] else []) (K := (some (((pts p).filter fun zz => Zw zz).length, Z0G ((pts p).filter fun zz => Zw zz)))) (l := []) (m := 0) (F := F) (by intro k hk; first | (split <;> simp) | simp_all)
  (fun f k l m hk hm => by
   show Z5z p ZJ Zw (Z2x 1000000 p ZJ Zw f) l m (k : Int) = _
   unfold Z5z
   have x0 : ZJ ((Z0G (pts p)).getD (k * 2 + 0) 0, (Z0G (pts p)).getD (k * 2 + 1) 0) = true := hall k hk
   have e0 : decide (0 <= (k : Int)) = true := by simp
   have e1 := cnd hk
   have e3 : (k : Int).toNat = k := Int.toNat_natCast k
   have e4 := ZM4 (Z5N _) hk
   have e5 : Nat.ble 1 1 = true := rfl
   have e6 : Nat.ble (m + 1) 2000000 = true := leb (by omega)
   rw [show Z09 p = ((pts p).length, Z0G (pts p)) from rfl]
   simp only [e0, e1, e3, e4, e5, e6, ZQz, x0, Bool.and_true, Bool.true_and, if_true, Z4j hk (by omega)]
   have hq0 : ((Zw ((Z0G (pts p)).getD (k * 2 + 0) 0, (Z0G (pts p)).getD (k * 2 + 1) 0))) = ((Zw (R2 (Z0G (pts p)) k))) := rfl
   try rw [hq0]
   generalize ((Zw (R2 (Z0G (pts p)) k))) = c0
   cases c0 <;> first
    | rfl
    | (
      simp only [Bool.false_eq_true, Bool.false_and, Bool.and_false, Bool.true_and, if_false, if_true]
      rw [show Z0G [] = [] from rfl, List.append_nil]
      rfl))
  (fun f hm => by
   show Z5z p ZJ Zw (Z2x 1000000 p ZJ Zw f) ([] ++ Z0G ((List.range (pts p).length).flatMap (fun k => if (Zw (R2 (Z0G (pts p)) k)) = true then [R2 (Z0G (pts p)) k] else []))) (0 + ((List.range (pts p).length).flatMap (fun k => if (Zw (R2 (Z0G (pts p)) k)) = true then [R2 (Z0G (pts p)) k] else [])).length) (((pts p).length : Nat) : Int) = _
   unfold Z5z
   have hkp : ((List.range ((pts p).length)).flatMap fun k => if (Zw (R2 (Z0G (pts p)) k)) = true then [R2 (Z0G (pts p)) k] else []) = (Z5v ((pts p).length) (Z0G (pts p))).filter (fun zz => (Zw zz)) := ZQH ((pts p).length) (Z0G (pts p)) (fun zz => (Zw zz))
   rw [show Z09 p = ((pts p).length, Z0G (pts p)) from rfl]
   rw [if_neg (by simp), hkp, ZJi]
   simp) (by omega) (Nat.le_refl _)

theorem ZvT (p : Int) (ZJ : P2 -> Bool) (Zw : P2 -> Bool) (hp : (prB p && (pts p).all ZJ) = true) : ZeR 1000000 p ZJ Zw = some (Z6S p ZJ Zw) := by
 simp only [Bool.and_eq_true] at hp
 obtain ⟨hp, hall⟩ := hp
 unfold ZeR Zgm
 rw [if_pos hp]
 refine Zv5 p ZJ Zw hp ?_ (by omega)
 intro k hk
 rw [ZyW, List.getD_eq_getElem?_getD, List.getElem?_eq_getElem hk]
 exact List.all_eq_true.1 hall _ (List.getElem_mem hk)
def ZdF : RunP
 | [.v (.int .i64 p), .f Z43] => some (prB p && (pts p).all (fun a0 => okV (Z43 [.agg ⟨[.int .i64 a0.1, .int .i64 a0.2]⟩])), Zdq (Z6S p (fun a0 => okV (Z43 [.agg ⟨[.int .i64 a0.1, .int .i64 a0.2]⟩])) (fun a0 => Zen (Z43 [.agg ⟨[.int .i64 a0.1, .int .i64 a0.2]⟩]))))
 | _ => none
theorem ZqL : Sound prog 174 ZdF := by
 refine ZjF Zj8 Zx6 (by kernel_rfl) func174 ntmps174 rfl (by kernel_rfl) ?_
 intro W pvs avs rs hargs hrun
 unfold ZdF at hrun
 split at hrun
 ·simp only [Option.some.injEq, Prod.mk.injEq] at hrun
  obtain ⟨hp, rfl⟩ := hrun
  rename_i p Z43
  have hargs := All2.replace (l1 := [_]) hargs (y := .f (Zj6 _ _)) fun b hb => ZnJ hb (ZI5 _)
  exact ⟨_, _, _, hargs, rfl, (ZxK _ p (fun a0 => okV (Z43 [.agg ⟨[.int .i64 a0.1, .int .i64 a0.2]⟩])) (fun a0 => Zen (Z43 [.agg ⟨[.int .i64 a0.1, .int .i64 a0.2]⟩]))).trans (ZvT p (fun a0 => okV (Z43 [.agg ⟨[.int .i64 a0.1, .int .i64 a0.2]⟩])) (fun a0 => Zen (Z43 [.agg ⟨[.int .i64 a0.1, .int .i64 a0.2]⟩])) hp)⟩
 ·cases hrun

def ZrA : Sums := ⟨tblS [(174, ZdF), (175, Zcw)], tblM [], false⟩
theorem ZCI : Ze prog ZrA := ⟨Za ⟨⟨call174, ZqL⟩, ⟨call175, Zoz⟩, ⟨⟩⟩, tM⟩
def Zi6 (p Z0 : Int) (a : P2) (q : Int) : Option (Nat × List Int) :=
 (if (prB p && (pts p).all (fun a0 => prB p)) = true then some ((Z6S p (fun a0 => prB p) (fun a0 => Z4p a0 p Z0 a q)).1, (Z6S p (fun a0 => prB p) (fun a0 => Z4p a0 p Z0 a q)).2) else none)
theorem ZDk (p Z0 : Int) (a : P2) (q : Int) : eT ZrA 123 12 Z0k [pI p, pI Z0, pA a, pI q] = Zi6 p Z0 a q := by
 kernel_rfl
def Z1R (p Z0 : Int) (a : P2) (q : Int) : Nat × List Int :=
 ((Z6S p (fun a0 => prB p) (fun a0 => Z4p a0 p Z0 a q)).1, (Z6S p (fun a0 => prB p) (fun a0 => Z4p a0 p Z0 a q)).2)
theorem ZC9 (p Z0 : Int) (a : P2) (q : Int) (hp : (prB p) = true) : Zi6 p Z0 a q = some (Z1R p Z0 a q) := by
 try have h0 := ZgX hp
 unfold Zi6 Z1R
 (try simp only [Zz])
 repeat' (first | with_reducible rfl | with_reducible refine Zv hp ?_ | with_reducible refine Zv h0 ?_ | refine Zv (Z3h hp fun _ => hp) ?_ | refine Zv (Z3h hp fun _ => rfl) ?_ | refine Zm (fun _ => ?_) (fun _ => ?_) | rfl)
def Z9w : RunP
 | [.v (.int .i64 p), .v (.int .i64 Z0), .v (.agg ⟨[.int .i64 a0, .int .i64 a1]⟩), .v (.int .i64 q)] => some (prB p, Zdq (Z1R p Z0 (a0, a1) q))
 | _ => none
theorem ZdT : Sound prog 123 Z9w := by
 refine Zd Zj8 ZCI (by kernel_rfl) func123 ntmps123 rfl (by kernel_rfl) fun q r E => ?_
 unfold Z9w at E
 split at E
 ·obtain ⟨hp, rfl⟩ := so2 E
  rename_i p Z0 a0 a1 q
  exact ⟨_, _, rfl, (ZDk p Z0 (a0, a1) q).trans (ZC9 p Z0 (a0, a1) q hp)⟩
 ·cases E

def Zwv : Sums := ⟨tblS [(97, Z3k), (98, Z6H)], tblM [], false⟩
theorem ZFL : Ze prog Zwv := ⟨Za ⟨⟨call97, Z3U⟩, ⟨call98, Z93⟩, ⟨⟩⟩, tM⟩
def Zk0 (p Z0 : Int) (Zf : Nat) (pointsl : List Int) : Option (Int) :=
 (if (lenB Zf 2 pointsl) = true then (if ((ZW p (Z5v Zf pointsl)) == 0) = true then (if (!(Z2a Z0)) = true then some 2 else some (ZW p (Z5v Zf pointsl))) else some (ZW p (Z5v Zf pointsl))) else none)
theorem ZGA (p Z0 : Int) (Zf : Nat) (pointsl : List Int) : eT Zwv 38 19 Z2f [pI p, pI Z0, .s Zf (.ints pointsl)] = Zk0 p Z0 Zf pointsl := by
 kernel_rfl
def Z0e (p Z0 : Int) (Zf : Nat) (pointsl : List Int) : Int :=
 (if ((ZW p (Z5v Zf pointsl)) == 0) = true then (if (!(Z2a Z0)) = true then 2 else (ZW p (Z5v Zf pointsl))) else (ZW p (Z5v Zf pointsl)))
theorem ZEk (p Z0 : Int) (Zf : Nat) (pointsl : List Int) (hp : (lenB Zf 2 pointsl) = true) : Zk0 p Z0 Zf pointsl = some (Z0e p Z0 Zf pointsl) := by
 unfold Zk0 Z0e
 (try simp only [Zz])
 repeat' (first | with_reducible rfl | with_reducible refine Zv hp ?_ | refine Zm (fun _ => ?_) (fun _ => ?_) | rfl)
def Z7a : RunP
 | [.v (.int .i64 p), .v (.int .i64 Z0), .s Zf (.ints pointsl)] => some (lenB Zf 2 pointsl, Z7e (Z0e p Z0 Zf pointsl))
 | _ => none
theorem Z8n : Sound prog 38 Z7a := by
 refine Zd Zdj ZFL (by kernel_rfl) func38 ntmps38 rfl (by kernel_rfl) fun q r E => ?_
 unfold Z7a at E
 split at E
 ·obtain ⟨hp, rfl⟩ := so2 E
  rename_i p Z0 Zf pointsl
  exact ⟨_, _, rfl, (ZGA p Z0 Zf pointsl).trans (ZEk p Z0 Zf pointsl hp)⟩
 ·cases E

theorem Zes {p c : Int} {n : Nat} {l : List Int} (h : ¬ (Z0e p c n l != 0) = true) : prB p = true := by
 refine Zgs (Zy ?_)
 have h : Z0e p c n l = 0 := by simpa using h
 cases hf : Z6 p
 ·simp [Z0e, ZW, Z06, hf] at h
 ·rfl
theorem Zkl {p c : Int} {n : Nat} {l : List Int} (h : (Z0e p c n l == 0) = true) : prB p = true := Zes (by simpa using h)
def Z48 : Sums := ⟨tblS [(190, Z32)], tblM [], false⟩
theorem ZJP : Ze prog Z48 := ⟨Za ⟨⟨call190, Z4L⟩, ⟨⟩⟩, tM⟩
def Zby (p Z0 : Int) (a : P2) (q : Int) (l13 : List Int) (m13 : Nat) (x : Int) : Tab := ⟨[vI (p), vI (Z0), .val (.agg ⟨[.int .i64 a.1, .int .i64 a.2]⟩), vI (q), jK, jK, .ptr 24 0, jK, .val (.slice none 0 0), .row 52, vI (x), ] ++ (jN 27 ++ [jK]), [(24, .box 25 [vI (a.1), vI (a.2)]), (52, .row 25 2 m13 (.ints l13))]⟩
def ZHW (p Z0 : Int) (a : P2) (q : Int) (l13 : List Int) (m13 : Nat) (x : Int) (l13' : List Int) (m13' : Nat) (y : Int) : Tab := ⟨[vI (p), vI (Z0), .val (.agg ⟨[.int .i64 a.1, .int .i64 a.2]⟩), vI (q), jK, jK, .ptr 24 0, jK, .val (.slice none 0 0), .row 52, vI (x), vI (y), jK, jK, vI (x), vI (p), vB ((decide (x < p))), ] ++ (jN 21 ++ [jK]), [(24, .box 25 [vI (a.1), vI (a.2)]), (52, .row 25 2 m13' (.ints l13'))]⟩
def Zbz (P : Program) (fu : Nat) (p Z0 : Int) (a : P2) (q : Int) (l13 : List Int) (m13 : Nat) (x : Int) (rc2 : Tab -> Option (Nat × List Int)) (f : Nat) (l13' : List Int) (m13' : Nat) (y : Int) : Option (Nat × List Int) := Z1u (exec P Z48 39 (Z6b fu []) (Code.sub [1, 1, 0, 1, 0, 0, 1, 0, 0, 1, 0, 0] (ZS P 206))) f (ZHW p Z0 a q l13 m13 x l13' m13' y) (Z0g 2 (Z0g 1 (kSeq (fun zs9 => exec P Z48 39 (Z6b fu []) (Code.sub [1, 1, 0, 1, 0, 0, 1, 1] (ZS P 206)) zs9 (ZBd rc2 (Zby p Z0 a q l13 m13 x) (Z0g 0 (kSeq (fun zs9 => exec P Z48 39 (Z6b fu []) (Code.sub [1, 1, 1] (ZS P 206)) zs9 (finT P 206 Z0k)) (finT P 206 Z0k))))) (ZBd rc2 (Zby p Z0 a q l13 m13 x) (Z0g 0 (kSeq (fun zs9 => exec P Z48 39 (Z6b fu []) (Code.sub [1, 1, 1] (ZS P 206)) zs9 (finT P 206 Z0k)) (finT P 206 Z0k)))))))
def Zbx (p Z0 : Int) (a : P2) (q : Int) (l13 : List Int) (m13 : Nat) (x : Int) (Z2b : (List Int) -> Nat -> Int -> Option (Nat × List Int)) (ZH8 : (List Int) -> Nat -> Int -> Option (Nat × List Int)) (l13' : List Int) (m13' : Nat) (y : Int) : Option (Nat × List Int) :=
 (if (decide (y < p)) = true then (if (prB p) = true then (if ((Zp p Z0 a (x, y)) == q) = true then (if (Nat.ble 0 1 && Nat.ble (m13' + 1) 2000000 && Nat.beq 2 (2)) = true then ZH8 (l13' ++ [x, y]) (m13' + 1) (wI (y + 1)) else none) else ZH8 l13' m13' (wI (y + 1))) else none) else Z2b l13' m13' (wI (x + 1)))
def Z4C (fu : Nat) (p Z0 : Int) (a : P2) (q : Int) (l13 : List Int) (m13 : Nat) (x : Int) (Z2b : (List Int) -> Nat -> Int -> Option (Nat × List Int)) : Nat -> (List Int) -> Nat -> Int -> Option (Nat × List Int)
 | 0, _, _, _ => none
 | f + 1, l13', m13', y => Zbx p Z0 a q l13 m13 x Z2b (Z4C fu p Z0 a q l13 m13 x Z2b f) l13' m13' y
theorem ZBn (fu : Nat) (p Z0 : Int) (a : P2) (q : Int) (l13 : List Int) (m13 : Nat) (x : Int) (rc2 : Tab -> Option (Nat × List Int)) : ∀ (f : Nat) (l13' : List Int) (m13' : Nat) (y : Int), Zbz prog fu p Z0 a q l13 m13 x rc2 f l13' m13' y = Z4C fu p Z0 a q l13 m13 x (fun l13 m13 x => rc2 (Zby p Z0 a q l13 m13 x)) f l13' m13' y := by
 intro f
 induction f with
 | zero => intros; rfl
 | succ f ih =>
  intro l13' m13' y
  have h1 : Zbz prog fu p Z0 a q l13 m13 x rc2 (f + 1) l13' m13' y = Zbx p Z0 a q l13 m13 x (fun l13 m13 x => rc2 (Zby p Z0 a q l13 m13 x)) (Zbz prog fu p Z0 a q l13 m13 x rc2 f) l13' m13' y := by kernel_rfl
  have h2 : Zbz prog fu p Z0 a q l13 m13 x rc2 f = Z4C fu p Z0 a q l13 m13 x (fun l13 m13 x => rc2 (Zby p Z0 a q l13 m13 x)) f := by funext l13' m13' y; exact ih l13' m13' y
  rw [h1, h2]
  rfl
def Z9g (P : Program) (fu : Nat) (p Z0 : Int) (a : P2) (q : Int) (f : Nat) (l13 : List Int) (m13 : Nat) (x : Int) : Option (Nat × List Int) := Z1u (exec P Z48 39 (Z6b fu []) (Code.sub [1, 1, 0, 1, 0, 0] (ZS P 206))) f (Zby p Z0 a q l13 m13 x) (Z0g 0 (kSeq (fun zs9 => exec P Z48 39 (Z6b fu []) (Code.sub [1, 1, 1] (ZS P 206)) zs9 (finT P 206 Z0k)) (finT P 206 Z0k)))
def Zbw (p Z0 : Int) (a : P2) (q : Int) (lo3 : (List Int) -> Nat -> Int -> Option (Nat × List Int)) (Z2b : (List Int) -> Nat -> Int -> Option (Nat × List Int)) (l13 : List Int) (m13 : Nat) (x : Int) : Option (Nat × List Int) :=
 (if (decide (x < p)) = true then lo3 l13 m13 0 else some (m13, l13))
def Z3P (fu : Nat) (p Z0 : Int) (a : P2) (q : Int) : Nat -> (List Int) -> Nat -> Int -> Option (Nat × List Int)
 | 0, _, _, _ => none
 | f + 1, l13, m13, x => Zbw p Z0 a q (Z4C fu p Z0 a q l13 m13 x (Z3P fu p Z0 a q f) fu) (Z3P fu p Z0 a q f) l13 m13 x
theorem ZBm (fu : Nat) (p Z0 : Int) (a : P2) (q : Int) : ∀ (f : Nat) (l13 : List Int) (m13 : Nat) (x : Int), Z9g prog fu p Z0 a q f l13 m13 x = Z3P fu p Z0 a q f l13 m13 x := by
 intro f
 induction f with
 | zero => intros; rfl
 | succ f ih =>
  intro l13 m13 x
  have h1 : Z9g prog fu p Z0 a q (f + 1) l13 m13 x = Zbw p Z0 a q (Zbz prog fu p Z0 a q l13 m13 x (fun t => Z1u (exec prog Z48 39 (Z6b fu []) (Code.sub [1, 1, 0, 1, 0, 0] (ZS prog 206))) f t (Z0g 0 (kSeq (fun zs9 => exec prog Z48 39 (Z6b fu []) (Code.sub [1, 1, 1] (ZS prog 206)) zs9 (finT prog 206 Z0k)) (finT prog 206 Z0k)))) fu) (Z9g prog fu p Z0 a q f) l13 m13 x := by kernel_rfl
  have h2 : Z9g prog fu p Z0 a q f = Z3P fu p Z0 a q f := by funext l13 m13 x; exact ih l13 m13 x
  have c3 : (Zbz prog fu p Z0 a q l13 m13 x (fun t => Z1u (exec prog Z48 39 (Z6b fu []) (Code.sub [1, 1, 0, 1, 0, 0] (ZS prog 206))) f t (Z0g 0 (kSeq (fun zs9 => exec prog Z48 39 (Z6b fu []) (Code.sub [1, 1, 1] (ZS prog 206)) zs9 (finT prog 206 Z0k)) (finT prog 206 Z0k)))) fu) = Z4C fu p Z0 a q l13 m13 x (Z9g prog fu p Z0 a q f) fu := by funext l13' m13' y; exact ZBn fu p Z0 a q l13 m13 x (fun t => Z1u (exec prog Z48 39 (Z6b fu []) (Code.sub [1, 1, 0, 1, 0, 0] (ZS prog 206))) f t (Z0g 0 (kSeq (fun zs9 => exec prog Z48 39 (Z6b fu []) (Code.sub [1, 1, 1] (ZS prog 206)) zs9 (finT prog 206 Z0k)) (finT prog 206 Z0k)))) fu l13' m13' y
  rw [h1, c3, h2]
  rfl
def ZtQ (p Z0 : Int) (a : P2) (q : Int) (lo2 : (List Int) -> Nat -> Int -> Option (Nat × List Int)) : Option (Nat × List Int) :=
 lo2 [] 0 0
def Zps (fu : Nat) (p Z0 : Int) (a : P2) (q : Int) : Option (Nat × List Int) := ZtQ p Z0 a q (Z3P fu p Z0 a q fu)
theorem ZKb (fu : Nat) (p Z0 : Int) (a : P2) (q : Int) : ZmO prog Z48 206 39 (Z6b fu []) Z0k [.v (.int .i64 p), .v (.int .i64 Z0), .v (.agg ⟨[.int .i64 a.1, .int .i64 a.2]⟩), .v (.int .i64 q)] = Zps fu p Z0 a q := by
 have h1 : ZmO prog Z48 206 39 (Z6b fu []) Z0k [.v (.int .i64 p), .v (.int .i64 Z0), .v (.agg ⟨[.int .i64 a.1, .int .i64 a.2]⟩), .v (.int .i64 q)] = ZtQ p Z0 a q (Z9g prog fu p Z0 a q fu) := by kernel_rfl
 have c2 : Z9g prog fu p Z0 a q fu = Z3P fu p Z0 a q fu := by funext l13 m13 x; exact ZBm fu p Z0 a q fu l13 m13 x
 rw [h1, c2]
 rfl
def Z2D (p Z0 : Int) (a : P2) (q : Int) : Nat × List Int := (((pts p).filter fun zz => (Zp p Z0 a zz == q)).length, Z0G ((pts p).filter fun zz => (Zp p Z0 a zz == q)))
theorem ZJ2 {p : Int} (hp : prB p = true) (Z0 : Int) (a : P2) (q : Int) (fu : Nat) (l13 : List Int) (m13 : Nat) (x : Int) (Z2b : List Int -> Nat -> Int -> Option (Nat × List Int)) {F m : Nat} {l : List Int} (hF : p.toNat < F) (hm : m <= 100000) :
  Z4C fu p Z0 a q l13 m13 x Z2b F l m 0 = Z2b (l ++ Z0G ((List.range p.toNat).flatMap (fun y : Nat => if (Zp p Z0 a (x, (y : Int)) == q) = true then [((x : Int), (y : Int))] else []))) (m + ((List.range p.toNat).flatMap (fun y : Nat => if (Zp p Z0 a (x, (y : Int)) == q) = true then [((x : Int), (y : Int))] else [])).length) (wI (x + 1)) := by
 obtain ⟨h1, h0, hpn⟩ := Zci hp
 exact gather (flat := Z0G) Zjb rfl (L := fun f l m i => Z4C fu p Z0 a q l13 m13 x Z2b f l m i) (n := p.toNat) (b := 1) (M := 100000) ((fun y : Nat => if (Zp p Z0 a (x, (y : Int)) == q) = true then [((x : Int), (y : Int))] else [])) (K := (Z2b (l ++ Z0G ((List.range p.toNat).flatMap (fun y : Nat => if (Zp p Z0 a (x, (y : Int)) == q) = true then [((x : Int), (y : Int))] else []))) (m + ((List.range p.toNat).flatMap (fun y : Nat => if (Zp p Z0 a (x, (y : Int)) == q) = true then [((x : Int), (y : Int))] else [])).length) (wI (x + 1)))) (l := l) (m := m) (F := F) (by intro k hk; first | (split <;> simp) | simp_all)
  (fun f k l m hk hm => by
   show Zbx p Z0 a q l13 m13 x Z2b (Z4C fu p Z0 a q l13 m13 x Z2b f) l m (k : Int) = _
   unfold Zbx
   have x0 : prB p = true := hp
   simp only [cndp hk, x0, if_true, Z4j hk (by omega), show (Nat.ble 0 1 && Nat.ble (m + 1) 2000000 && Nat.beq 2 2) = true from by simp; omega]
   generalize ((Zp p Z0 a (x, (k : Int)) == q)) = c0
   cases c0 <;> first
    | rfl
    | (
      simp only [Bool.false_eq_true, Bool.false_and, Bool.and_false, Bool.true_and, if_false, if_true]
      rw [show Z0G [] = [] from rfl, List.append_nil]
      rfl))
  (fun f hm => by
   show Zbx p Z0 a q l13 m13 x Z2b (Z4C fu p Z0 a q l13 m13 x Z2b f) (l ++ Z0G ((List.range p.toNat).flatMap ((fun y : Nat => if (Zp p Z0 a (x, (y : Int)) == q) = true then [((x : Int), (y : Int))] else [])))) (m + ((List.range p.toNat).flatMap ((fun y : Nat => if (Zp p Z0 a (x, (y : Int)) == q) = true then [((x : Int), (y : Int))] else []))).length) ((p.toNat : Nat) : Int) = _
   unfold Zbx
   rw [if_neg (by simp; omega)]) hF hm
theorem ZJ1 {p : Int} (hp : prB p = true) (Z0 : Int) (a : P2) (q : Int) {F : Nat} (hF : p.toNat < F) : Z3P 1000000 p Z0 a q F [] 0 0 = (some (((pts p).filter fun zz => (Zp p Z0 a zz == q)).length, Z0G ((pts p).filter fun zz => (Zp p Z0 a zz == q)))) := by
 obtain ⟨h1, h0, hpn⟩ := Zci hp
 exact gather (flat := Z0G) Zjb rfl (L := fun f l m i => Z3P 1000000 p Z0 a q f l m i) (n := p.toNat) (b := 31) (M := 0) ((fun x : Nat => (List.range p.toNat).flatMap (fun y : Nat => if (Zp p Z0 a ((x : Int), (y : Int)) == q) = true then [(((x : Int) : Int), (y : Int))] else []))) (K := (some (((pts p).filter fun zz => (Zp p Z0 a zz == q)).length, Z0G ((pts p).filter fun zz => (Zp p Z0 a zz == q))))) (l := []) (m := 0) (F := F) (by intro k hk; refine Nat.le_trans (Z9p (b := 1) fun j _ => ?_) (by omega); first | (split <;> simp) | simp)
  (fun f k l m hk hm => by
   show Zbw p Z0 a q (Z4C 1000000 p Z0 a q l m (k : Int) (Z3P 1000000 p Z0 a q f) 1000000) (Z3P 1000000 p Z0 a q f) l m (k : Int) = _
   unfold Zbw
   rw [if_pos (cndp hk), ZJ2 hp _ _ _ _ _ _ _ _ (by omega) (by omega), Z4j hk (by omega)])
  (fun f hm => by
   show Zbw p Z0 a q (Z4C 1000000 p Z0 a q ([] ++ Z0G ((List.range p.toNat).flatMap ((fun x : Nat => (List.range p.toNat).flatMap (fun y : Nat => if (Zp p Z0 a ((x : Int), (y : Int)) == q) = true then [(((x : Int) : Int), (y : Int))] else []))))) (0 + ((List.range p.toNat).flatMap ((fun x : Nat => (List.range p.toNat).flatMap (fun y : Nat => if (Zp p Z0 a ((x : Int), (y : Int)) == q) = true then [(((x : Int) : Int), (y : Int))] else [])))).length) ((p.toNat : Nat) : Int) (Z3P 1000000 p Z0 a q f) 1000000) (Z3P 1000000 p Z0 a q f) ([] ++ Z0G ((List.range p.toNat).flatMap ((fun x : Nat => (List.range p.toNat).flatMap (fun y : Nat => if (Zp p Z0 a ((x : Int), (y : Int)) == q) = true then [(((x : Int) : Int), (y : Int))] else []))))) (0 + ((List.range p.toNat).flatMap ((fun x : Nat => (List.range p.toNat).flatMap (fun y : Nat => if (Zp p Z0 a ((x : Int), (y : Int)) == q) = true then [(((x : Int) : Int), (y : Int))] else [])))).length) ((p.toNat : Nat) : Int) = _
   unfold Zbw
   have hkp : ((List.range p.toNat).flatMap (fun x : Nat => (List.range p.toNat).flatMap (fun y : Nat => if (Zp p Z0 a ((x : Int), (y : Int)) == q) = true then [(((x : Int) : Int), (y : Int))] else []))) = (pts p).filter (fun zz => (Zp p Z0 a zz == q)) := ZIH p.toNat (fun zz => (Zp p Z0 a zz == q))
   rw [if_neg (by simp; omega), hkp]
   simp) hF (Nat.le_refl _)

theorem ZJD (p Z0 : Int) (a : P2) (q : Int) (hp : (prB p) = true) : Zps 1000000 p Z0 a q = some (Z2D p Z0 a q) := by
 unfold Zps ZtQ
 have h1 := (Zci hp).1
 exact ZJ1 hp _ _ _ (by omega)
def Zew : RunP
 | [.v (.int .i64 p), .v (.int .i64 Z0), .v (.agg ⟨[.int .i64 a0, .int .i64 a1]⟩), .v (.int .i64 q)] => some (prB p, Zdq (Z2D p Z0 (a0, a1) q))
 | _ => none
theorem ZiT : Sound prog 206 Zew := by
 refine Zd Zj8 ZJP (by kernel_rfl) func206 ntmps206 rfl (by kernel_rfl) fun q r E => ?_
 unfold Zew at E
 split at E
 ·obtain ⟨hp, rfl⟩ := so2 E
  rename_i p Z0 a0 a1 q
  exact ⟨_, _, rfl, (ZKb _ p Z0 (a0, a1) q).trans (ZJD p Z0 (a0, a1) q hp)⟩
 ·cases E

def ZHR : Sums := ⟨tblS [(128, ZdD), (173, Z3y)], tblM [], false⟩
theorem ZMk : Ze prog ZHR := ⟨Za ⟨⟨call128, ZfR⟩, ⟨call173, Z30⟩, ⟨⟩⟩, tM⟩
def ZtL (p : Int) (a b c : P2) : Option (Int) :=
 (if (prB p) = true then (if (prB p) = true then (if (prB p) = true then some (ZF p (wI ((wI (((Z44 p b a).1) * ((Z44 p c a).2))) - (wI (((Z44 p b a).2) * ((Z44 p c a).1)))))) else none) else none) else none)
theorem ZMF (p : Int) (a b c : P2) : eT ZHR 126 32 Z2f [pI p, pA a, pA b, pA c] = ZtL p a b c := by
 kernel_rfl
def Zcb (p : Int) (a b c : P2) : Int :=
 (ZF p (wrap64 ((wrap64 (((Z44 p b a).1) * ((Z44 p c a).2))) - (wrap64 (((Z44 p b a).2) * ((Z44 p c a).1))))))
theorem ZKV (p : Int) (a b c : P2) (hp : (prB p) = true) : ZtL p a b c = some (Zcb p a b c) := by
 unfold ZtL Zcb
 (try simp only [Zz])
 repeat' (first | with_reducible rfl | with_reducible refine Zv hp ?_ | refine Zm (fun _ => ?_) (fun _ => ?_) | rfl)
def Zkw : RunP
 | [.v (.int .i64 p), .v (.agg ⟨[.int .i64 a0, .int .i64 a1]⟩), .v (.agg ⟨[.int .i64 b0, .int .i64 b1]⟩), .v (.agg ⟨[.int .i64 c0, .int .i64 c1]⟩)] => some (prB p, Z7e (Zcb p (a0, a1) (b0, b1) (c0, c1)))
 | _ => none
theorem ZsX : Sound prog 126 Zkw := by
 refine Zd Zdj ZMk (by kernel_rfl) func126 ntmps126 rfl (by kernel_rfl) fun q r E => ?_
 unfold Zkw at E
 split at E
 ·obtain ⟨hp, rfl⟩ := so2 E
  rename_i p a0 a1 b0 b1 c0 c1
  exact ⟨_, _, rfl, (ZMF p (a0, a1) (b0, b1) (c0, c1)).trans (ZKV p (a0, a1) (b0, b1) (c0, c1) hp)⟩
 ·cases E

def Zwo : Sums := ⟨tblS [(242, Z2g)], tblM [], false⟩
theorem ZFC : Ze prog Zwo := ⟨Za ⟨⟨call242, Z21⟩, ⟨⟩⟩, tM⟩
def ZjS (p : Int) (a b c : P2) : Option (Int) :=
 (if (prB p) = true then some (Zi (wI ((wI ((wI (b.1 - a.1)) * (wI (c.2 - a.2)))) - (wI ((wI (b.2 - a.2)) * (wI (c.1 - a.1)))))) p) else none)
theorem ZGr (p : Int) (a b c : P2) : eT Zwo 228 34 Z2f [pI p, pA a, pA b, pA c] = ZjS p a b c := by
 kernel_rfl
def Z8L (p : Int) (a b c : P2) : Int :=
 (Zi (wrap64 ((wrap64 ((wrap64 (b.1 - a.1)) * (wrap64 (c.2 - a.2)))) - (wrap64 ((wrap64 (b.2 - a.2)) * (wrap64 (c.1 - a.1)))))) p)
theorem ZEb (p : Int) (a b c : P2) (hp : (prB p) = true) : ZjS p a b c = some (Z8L p a b c) := by
 unfold ZjS Z8L
 (try simp only [Zz])
 repeat' (first | with_reducible rfl | with_reducible refine Zv hp ?_ | refine Zm (fun _ => ?_) (fun _ => ?_) | rfl)
def Ze6 : RunP
 | [.v (.int .i64 p), .v (.agg ⟨[.int .i64 a0, .int .i64 a1]⟩), .v (.agg ⟨[.int .i64 b0, .int .i64 b1]⟩), .v (.agg ⟨[.int .i64 c0, .int .i64 c1]⟩)] => some (prB p, Z7e (Z8L p (a0, a1) (b0, b1) (c0, c1)))
 | _ => none
theorem Zlt : Sound prog 228 Ze6 := by
 refine Zd Zdj ZFC (by kernel_rfl) func228 ntmps228 rfl (by kernel_rfl) fun q r E => ?_
 unfold Ze6 at E
 split at E
 ·obtain ⟨hp, rfl⟩ := so2 E
  rename_i p a0 a1 b0 b1 c0 c1
  exact ⟨_, _, rfl, (ZGr p (a0, a1) (b0, b1) (c0, c1)).trans (ZEb p (a0, a1) (b0, b1) (c0, c1) hp)⟩
 ·cases E

def Zl7 : Sums := ⟨tblS [(36, Z2R), (37, Z2t)], tblM [], false⟩
theorem Zu7 : Ze prog Zl7 := ⟨Za ⟨⟨call36, Z3g⟩, ⟨call37, Z2L⟩, ⟨⟩⟩, tM⟩
def Zd7 (c0 c1 : Int) (c2 c3 c4 : P2) : Option (Bool) :=
 (if (Z05 c0) = true then some (ZE c1 [c2, c3, c4]) else some false)
theorem ZuM (c0 c1 : Int) (c2 c3 c4 : P2) : eT Zl7 171 16 Z1M [.p [.int .i64 c0], .p [.int .i64 c1], .p [.int .i64 c2.1, .int .i64 c2.2], .p [.int .i64 c3.1, .int .i64 c3.2], .p [.int .i64 c4.1, .int .i64 c4.2]] = Zd7 c0 c1 c2 c3 c4 := by
 kernel_rfl
def Z24 (c0 c1 : Int) (c2 c3 c4 : P2) : Bool :=
 (if (Z05 c0) = true then (ZE c1 [c2, c3, c4]) else false)
theorem Ztw (c0 c1 : Int) (c2 c3 c4 : P2) : Zd7 c0 c1 c2 c3 c4 = some (Z24 c0 c1 c2 c3 c4) := by
 unfold Zd7 Z24
 (try simp only [Zz])
 repeat' (first | with_reducible rfl | refine Zm (fun _ => ?_) (fun _ => ?_) | rfl)
def Zcy : RunP
 | [.p [.int .i64 c0], .p [.int .i64 c1], .p [.int .i64 c20, .int .i64 c21], .p [.int .i64 c30, .int .i64 c31], .p [.int .i64 c40, .int .i64 c41]] => some (true, Z4k (Z24 c0 c1 (c20, c21) (c30, c31) (c40, c41)))
 | _ => none
theorem ZoB : Sound prog 171 Zcy := by
 refine Zd Z9i Zu7 (by kernel_rfl) func171 ntmps171 rfl (by kernel_rfl) fun q r E => ?_
 unfold Zcy at E
 split at E
 ·obtain ⟨hp, rfl⟩ := so2 E
  rename_i c0 c1 c20 c21 c30 c31 c40 c41
  exact ⟨_, _, rfl, (ZuM c0 c1 (c20, c21) (c30, c31) (c40, c41)).trans (Ztw c0 c1 (c20, c21) (c30, c31) (c40, c41))⟩
 ·cases E

def ZrC : Sums := ⟨tblS [(106, Z3e), (171, Zcy), (126, Zkw)], tblM [], false⟩
theorem ZCK : Ze prog ZrC := ⟨Za ⟨⟨call106, Z2S⟩, ⟨call171, ZoB⟩, ⟨call126, ZsX⟩, ⟨⟩⟩, tM⟩
def Zi8 (p Z0 : Int) (a b c : P2) : Option (Int) :=
 (if ((true) || !(Z6 p)) = true then (if ((ZK p (true) (Z24 Z0 p a b c)) == 0) = true then (if (prB p) = true then (if ((Zcb p a b c) == 0) = true then some 5 else some (ZK p (true) (Z24 Z0 p a b c))) else none) else some (ZK p (true) (Z24 Z0 p a b c))) else none)
theorem ZDm (p Z0 : Int) (a b c : P2) : eT ZrC 115 26 Z2f [pI p, pI Z0, pA a, pA b, pA c] = Zi8 p Z0 a b c := by
 kernel_rfl
def Zk (p Z0 : Int) (a b c : P2) : Int :=
 (if ((ZK p (true) (Z24 Z0 p a b c)) == 0) = true then (if ((Zcb p a b c) == 0) = true then 5 else (ZK p (true) (Z24 Z0 p a b c))) else (ZK p (true) (Z24 Z0 p a b c)))
theorem ZCb (p Z0 : Int) (a b c : P2) : Zi8 p Z0 a b c = some (Zk p Z0 a b c) := by
 unfold Zi8 Zk
 (try simp only [Zz])
 repeat' (first | with_reducible rfl | refine Zv (by first | with_reducible rfl | exact Bool.true_or _ | (have hq : prB p = true := (by (with_reducible first | assumption | exact Z6A ‹_› | exact Z5W ‹_›)); first | exact hq | exact Zn0 hq | exact Z3h hq (fun _ => rfl) | exact Z3h hq (fun _ => hq) | exact and3 hq hq hq | exact Z2W hq rfl | exact map3_ok hq) | rfl) ?_ | refine Zm (fun _ => ?_) (fun _ => ?_) | rfl)
def Z20 : RunP
 | [.v (.int .i64 p), .v (.int .i64 Z0), .v (.agg ⟨[.int .i64 a0, .int .i64 a1]⟩), .v (.agg ⟨[.int .i64 b0, .int .i64 b1]⟩), .v (.agg ⟨[.int .i64 c0, .int .i64 c1]⟩)] => some (true, Z7e (Zk p Z0 (a0, a1) (b0, b1) (c0, c1)))
 | _ => none
theorem Z28 : Sound prog 115 Z20 := by
 refine Zd Zdj ZCK (by kernel_rfl) func115 ntmps115 rfl (by kernel_rfl) fun q r E => ?_
 unfold Z20 at E
 split at E
 ·obtain ⟨hp, rfl⟩ := so2 E
  rename_i p Z0 a0 a1 b0 b1 c0 c1
  exact ⟨_, _, rfl, (ZDm p Z0 (a0, a1) (b0, b1) (c0, c1)).trans (ZCb p Z0 (a0, a1) (b0, b1) (c0, c1))⟩
 ·cases E

theorem Z3B {p k : Int} {a b c : P2} (h : ¬ (Zk p k a b c != 0) = true) : prB p = true := by
 refine Zgs (Zy ?_)
 have h : Zk p k a b c = 0 := by simpa using h
 cases hf : Z6 p
 ·simp [Zk, ZK, Z06, hf] at h
 ·rfl
theorem Z3l {p k : Int} {a b c : P2} (h : (Zk p k a b c == 0) = true) : prB p = true := Z3B (by simpa using h)
def Z7r : Sums := ⟨tblS [(172, ZaR), (72, Z52)], tblM [], false⟩
theorem Zrg : Ze prog Z7r := ⟨Za ⟨⟨call172, ZhR⟩, ⟨call72, Z6Y⟩, ⟨⟩⟩, tM⟩
def ZpH (p Z0 : Int) (a b c : P2) (t17 : Int) : Tab := ⟨[vI (p), vI (Z0), .val (.agg ⟨[.int .i64 a.1, .int .i64 a.2]⟩), .val (.agg ⟨[.int .i64 b.1, .int .i64 b.2]⟩), .val (.agg ⟨[.int .i64 c.1, .int .i64 c.2]⟩), jK, jK, .ptr 28 0, .ptr 32 0, .ptr 36 0, .ptr 40 0, jK, jK, jK, vI (p), .row 60, vI ((((Z09 p).1 : Nat) : Int)), vI (t17), ] ++ (jN 26 ++ [jK]), [(28, .box 25 [vI (a.1), vI (a.2)]), (32, .box 25 [vI (b.1), vI (b.2)]), (36, .box 25 [vI (c.1), vI (c.2)]), (40, .box 25 [vI (0), vI (0)]), (60, .row 25 2 ((Z09 p).1) (.ints ((Z09 p).2)))]⟩
def Z49 (P : Program) (fu : Nat) (p Z0 : Int) (a b c : P2) (f : Nat) (t17 : Int) : Option P2 := Z1u (exec P Z7r 45 (fun _ => fu + 100) (Code.sub [1, 0, 1, 0, 0] (ZS P 116))) f (ZpH p Z0 a b c t17) (Z0g 0 (kSeq (fun zs9 => exec P Z7r 45 (fun _ => fu + 100) (Code.sub [1, 1] (ZS P 116)) zs9 (finT P 116 Z7A)) (finT P 116 Z7A)))
def Z45 (p Z0 : Int) (a b c : P2) (Z1F : Int -> Option P2) (t17 : Int) : Option P2 :=
 (if (decide (t17 < (((Z09 p).1 : Nat) : Int))) = true then (if (decide (0 <= t17) && decide (t17 < (((Z09 p).1 : Nat) : Int))) = true then (if (Nat.ble (t17.toNat * 2 + 2) (((Z09 p).2).length)) = true then (if (prB p) = true then (if (prB p) = true then (if ((ZA p Z0 (((Z09 p).2).getD (t17.toNat * 2 + 0) 0, ((Z09 p).2).getD (t17.toNat * 2 + 1) 0) a) == (ZA p Z0 (((Z09 p).2).getD (t17.toNat * 2 + 0) 0, ((Z09 p).2).getD (t17.toNat * 2 + 1) 0) b)) = true then (if (prB p) = true then (if ((ZA p Z0 (((Z09 p).2).getD (t17.toNat * 2 + 0) 0, ((Z09 p).2).getD (t17.toNat * 2 + 1) 0) a) == (ZA p Z0 (((Z09 p).2).getD (t17.toNat * 2 + 0) 0, ((Z09 p).2).getD (t17.toNat * 2 + 1) 0) c)) = true then some (((Z09 p).2).getD (t17.toNat * 2 + 0) 0, ((Z09 p).2).getD (t17.toNat * 2 + 1) 0) else Z1F (wI (t17 + 1))) else none) else Z1F (wI (t17 + 1))) else none) else none) else none) else none) else some (0, 0))
def Z1P (fu : Nat) (p Z0 : Int) (a b c : P2) : Nat -> Int -> Option P2
 | 0, _ => none
 | f + 1, t17 => Z45 p Z0 a b c (Z1P fu p Z0 a b c f) t17
theorem ZlD (fu : Nat) (p Z0 : Int) (a b c : P2) : ∀ (f : Nat) (t17 : Int), Z49 prog fu p Z0 a b c f t17 = Z1P fu p Z0 a b c f t17 := by
 intro f
 induction f with
 | zero => intros; rfl
 | succ f ih =>
  intro t17
  have h1 : Z49 prog fu p Z0 a b c (f + 1) t17 = Z45 p Z0 a b c (Z49 prog fu p Z0 a b c f) t17 := by kernel_rfl
  have h2 : Z49 prog fu p Z0 a b c f = Z1P fu p Z0 a b c f := by funext t17; exact ih t17
  rw [h1, h2]
  rfl
def Zdf (p Z0 : Int) (a b c : P2) (lo0 : Int -> Option P2) : Option P2 :=
 (if (prB p) = true then lo0 0 else none)
def ZbO (fu : Nat) (p Z0 : Int) (a b c : P2) : Option P2 := Zdf p Z0 a b c (Z1P fu p Z0 a b c (fu + 100))
theorem Zs6 (fu : Nat) (p Z0 : Int) (a b c : P2) : eF fu Z7r 116 45 Z7A [pI p, pI Z0, pA a, pA b, pA c] = ZbO fu p Z0 a b c := by
 have h1 : eF fu Z7r 116 45 Z7A [pI p, pI Z0, pA a, pA b, pA c] = Zdf p Z0 a b c (Z49 prog fu p Z0 a b c (fu + 100)) := by kernel_rfl
 have c0 : Z49 prog fu p Z0 a b c (fu + 100) = Z1P fu p Z0 a b c (fu + 100) := by funext t17; exact ZlD fu p Z0 a b c (fu + 100) t17
 rw [h1, c0]
 rfl
def Z0R (p Z0 : Int) (a b c : P2) : P2 := (((pts p).findSome? fun zz => if (ZA p Z0 zz a == ZA p Z0 zz b && ZA p Z0 zz a == ZA p Z0 zz c) = true then some zz else none)).getD (0, 0)
theorem Zqf (p Z0 : Int) (a b c : P2) (hp : prB p = true) {F : Nat} (hF : 993 < F) : Z1P 1000000 p Z0 a b c F 0 = some ((((pts p).findSome? fun zz => if ((ZA p Z0 zz a == ZA p Z0 zz b) && (ZA p Z0 zz a == ZA p Z0 zz c)) = true then some (zz) else none)).getD (0, 0)) := by
 have Z4X : (pts p).length <= 993 := Nat.le_trans (ZH6 hp) (by omega)
 have h := seek (L := fun f i => Z1P 1000000 p Z0 a b c f i) (n := (pts p).length) (F := F) (q := fun k => if ((ZA p Z0 (R2 (Z0G (pts p)) k) a == ZA p Z0 (R2 (Z0G (pts p)) k) b) && (ZA p Z0 (R2 (Z0G (pts p)) k) a == ZA p Z0 (R2 (Z0G (pts p)) k) c)) = true then some ((R2 (Z0G (pts p)) k)) else none) (e := (0, 0)) (by omega)
  (fun f k hk => by
   show Z45 p Z0 a b c (Z1P 1000000 p Z0 a b c f) (k : Int) = _
   unfold Z45
   have e0 : decide (0 <= (k : Int)) = true := by simp
   have e1 := cnd hk
   have e3 : (k : Int).toNat = k := Int.toNat_natCast k
   have e4 := ZM4 (Z5N _) hk
   rw [show Z09 p = ((pts p).length, Z0G (pts p)) from rfl]
   simp only [e0, e1, e3, e4, hp, Bool.and_true, Bool.true_and, if_true, Z4j hk (by omega)]
   have hr : ((Z0G (pts p)).getD (k * 2 + 0) 0, (Z0G (pts p)).getD (k * 2 + 1) 0) = R2 (Z0G (pts p)) k := rfl
   try simp only [hr]
   generalize ((ZA p Z0 (R2 (Z0G (pts p)) k) a == ZA p Z0 (R2 (Z0G (pts p)) k) b)) = c0
   generalize ((ZA p Z0 (R2 (Z0G (pts p)) k) a == ZA p Z0 (R2 (Z0G (pts p)) k) c)) = c1
   cases c0 <;> cases c1 <;> rfl)
  (fun f => by
   show Z45 p Z0 a b c (Z1P 1000000 p Z0 a b c f) (((pts p).length : Nat) : Int) = _
   unfold Z45
   rw [show Z09 p = ((pts p).length, Z0G (pts p)) from rfl]
   rw [if_neg (by simp)])
 have h2 := ZIA (pts p) (0, 0) (fun zz => if ((ZA p Z0 zz a == ZA p Z0 zz b) && (ZA p Z0 zz a == ZA p Z0 zz c)) = true then some (zz) else none)
 rw [<- h2]
 simp only [<- ZyW]
 exact h

theorem Zr1 (p Z0 : Int) (a b c : P2) (hp : (prB p) = true) : ZbO 1000000 p Z0 a b c = some (Z0R p Z0 a b c) := by
 unfold ZbO Zdf
 rw [if_pos hp]
 exact Zqf p Z0 a b c hp (by omega)
def Z64 : RunP
 | [.v (.int .i64 p), .v (.int .i64 Z0), .v (.agg ⟨[.int .i64 a0, .int .i64 a1]⟩), .v (.agg ⟨[.int .i64 b0, .int .i64 b1]⟩), .v (.agg ⟨[.int .i64 c0, .int .i64 c1]⟩)] => some (prB p, Zai (Z0R p Z0 (a0, a1) (b0, b1) (c0, c1)))
 | _ => none
theorem Z9F : Sound prog 116 Z64 := by
 refine Zd ZgD Zrg (by kernel_rfl) func116 ntmps116 rfl (by kernel_rfl) fun q r E => ?_
 unfold Z64 at E
 split at E
 ·obtain ⟨hp, rfl⟩ := so2 E
  rename_i p Z0 a0 a1 b0 b1 c0 c1
  exact ⟨_, _, rfl, (Zs6 _ p Z0 (a0, a1) (b0, b1) (c0, c1)).trans (Zr1 p Z0 (a0, a1) (b0, b1) (c0, c1) hp)⟩
 ·cases E

def Zwx : Sums := ⟨tblS [(38, Z7a), (228, Ze6)], tblM [], false⟩
theorem ZFN : Ze prog Zwx := ⟨Za ⟨⟨call38, Z8n⟩, ⟨call228, Zlt⟩, ⟨⟩⟩, tM⟩
def Zk2 (p Z0 : Int) (a b c : P2) : Option (Int) :=
 (if ((Z0e p Z0 3 [a.1, a.2, b.1, b.2, c.1, c.2]) == 0) = true then (if (prB p) = true then (if ((Z8L p a b c) == 0) = true then some 5 else some (Z0e p Z0 3 [a.1, a.2, b.1, b.2, c.1, c.2])) else none) else some (Z0e p Z0 3 [a.1, a.2, b.1, b.2, c.1, c.2]))
theorem ZGC (p Z0 : Int) (a b c : P2) : eT Zwx 185 30 Z2f [pI p, pI Z0, pA a, pA b, pA c] = Zk2 p Z0 a b c := by
 kernel_rfl
def ZQ (p Z0 : Int) (a b c : P2) : Int :=
 (if ((Z0e p Z0 3 [a.1, a.2, b.1, b.2, c.1, c.2]) == 0) = true then (if ((Z8L p a b c) == 0) = true then 5 else (Z0e p Z0 3 [a.1, a.2, b.1, b.2, c.1, c.2])) else (Z0e p Z0 3 [a.1, a.2, b.1, b.2, c.1, c.2]))
theorem ZEm (p Z0 : Int) (a b c : P2) : Zk2 p Z0 a b c = some (ZQ p Z0 a b c) := by
 unfold Zk2 ZQ
 (try simp only [Zz])
 repeat' (first | with_reducible rfl | refine Zv (by (with_reducible first | assumption | exact Zes ‹_› | exact Zkl ‹_›)) ?_ | refine Zm (fun _ => ?_) (fun _ => ?_) | rfl)
def Z26 : RunP
 | [.v (.int .i64 p), .v (.int .i64 Z0), .v (.agg ⟨[.int .i64 a0, .int .i64 a1]⟩), .v (.agg ⟨[.int .i64 b0, .int .i64 b1]⟩), .v (.agg ⟨[.int .i64 c0, .int .i64 c1]⟩)] => some (true, Z7e (ZQ p Z0 (a0, a1) (b0, b1) (c0, c1)))
 | _ => none
theorem Z23 : Sound prog 185 Z26 := by
 refine Zd Zdj ZFN (by kernel_rfl) func185 ntmps185 rfl (by kernel_rfl) fun q r E => ?_
 unfold Z26 at E
 split at E
 ·obtain ⟨hp, rfl⟩ := so2 E
  rename_i p Z0 a0 a1 b0 b1 c0 c1
  exact ⟨_, _, rfl, (ZGC p Z0 (a0, a1) (b0, b1) (c0, c1)).trans (ZEm p Z0 (a0, a1) (b0, b1) (c0, c1))⟩
 ·cases E

theorem Z4I {p k : Int} {a b c : P2} (h : ¬ (ZQ p k a b c != 0) = true) : prB p = true := by
 refine Zgs (Zy ?_)
 have h : ZQ p k a b c = 0 := by simpa using h
 cases hf : Z6 p
 ·simp [ZQ, Z0e, ZW, Z06, hf] at h
 ·rfl
theorem Z3t {p k : Int} {a b c : P2} (h : (ZQ p k a b c == 0) = true) : prB p = true := Z4I (by simpa using h)
def ZfA : Sums := ⟨tblS [(205, Z3z), (180, Z8h), (227, Z7H), (226, ZaK)], tblM [], false⟩
theorem Zmf : Ze prog ZfA := ⟨Za ⟨⟨call205, Z4h⟩, ⟨call180, ZcM⟩, ⟨call227, Zbu⟩, ⟨call226, Zft⟩, ⟨⟩⟩, tM⟩
def Z99 (p Z0 : Int) (a b c : P2) : Option P2 :=
 (if (prB p) = true then (if (prB p) = true then (if (prB p) = true then (if (prB p) = true then (if (prB p) = true then (if (prB p) = true then (if (prB p) = true then some ((Z1N p (Z1V p Z0 (Zj p a b) (Z1f p a b)) (Z1V p Z0 (Zj p a c) (Z1f p a c))).1) else none) else none) else none) else none) else none) else none) else none)
theorem ZmN (p Z0 : Int) (a b c : P2) : eT ZfA 186 45 Z7A [pI p, pI Z0, pA a, pA b, pA c] = Z99 p Z0 a b c := by
 kernel_rfl
def Zb (p Z0 : Int) (a b c : P2) : Int × Int :=
 ((Z1N p (Z1V p Z0 (Zj p a b) (Z1f p a b)) (Z1V p Z0 (Zj p a c) (Z1f p a c))).1)
theorem ZlU (p Z0 : Int) (a b c : P2) (hp : (prB p) = true) : Z99 p Z0 a b c = some (Zb p Z0 a b c) := by
 unfold Z99 Zb
 (try simp only [Zz])
 repeat' (first | with_reducible rfl | with_reducible refine Zv hp ?_ | refine Zm (fun _ => ?_) (fun _ => ?_) | rfl)
def Z2M : RunP
 | [.v (.int .i64 p), .v (.int .i64 Z0), .v (.agg ⟨[.int .i64 a0, .int .i64 a1]⟩), .v (.agg ⟨[.int .i64 b0, .int .i64 b1]⟩), .v (.agg ⟨[.int .i64 c0, .int .i64 c1]⟩)] => some (prB p, Zai (Zb p Z0 (a0, a1) (b0, b1) (c0, c1)))
 | _ => none
theorem Z4S : Sound prog 186 Z2M := by
 refine Zd ZgD Zmf (by kernel_rfl) func186 ntmps186 rfl (by kernel_rfl) fun q r E => ?_
 unfold Z2M at E
 split at E
 ·obtain ⟨hp, rfl⟩ := so2 E
  rename_i p Z0 a0 a1 b0 b1 c0 c1
  exact ⟨_, _, rfl, (ZmN p Z0 (a0, a1) (b0, b1) (c0, c1)).trans (ZlU p Z0 (a0, a1) (b0, b1) (c0, c1) hp)⟩
 ·cases E

def Zrr : Sums := ⟨tblS [(110, Z2K), (170, Z7i)], tblM [], false⟩
theorem ZCz : Ze prog Zrr := ⟨Za ⟨⟨call110, Z3F⟩, ⟨call170, ZcS⟩, ⟨⟩⟩, tM⟩
def ZhY (p Z0 : Int) (a b c : P2) : Option P3 :=
 (if (prB p) = true then (if (prB p) = true then some (Z3T p Z0 (Zr p b c) a) else none) else none)
theorem ZDb (p Z0 : Int) (a b c : P2) : eT Zrr 138 19 Zah [pI p, pI Z0, pA a, pA b, pA c] = ZhY p Z0 a b c := by
 kernel_rfl
def Z61 (p Z0 : Int) (a b c : P2) : Int × Int × Int :=
 (Z3T p Z0 (Zr p b c) a)
theorem ZC0 (p Z0 : Int) (a b c : P2) (hp : (prB p) = true) : ZhY p Z0 a b c = some (Z61 p Z0 a b c) := by
 unfold ZhY Z61
 (try simp only [Zz])
 repeat' (first | with_reducible rfl | with_reducible refine Zv hp ?_ | refine Zm (fun _ => ?_) (fun _ => ?_) | rfl)
def Zco : RunP
 | [.v (.int .i64 p), .v (.int .i64 Z0), .v (.agg ⟨[.int .i64 a0, .int .i64 a1]⟩), .v (.agg ⟨[.int .i64 b0, .int .i64 b1]⟩), .v (.agg ⟨[.int .i64 c0, .int .i64 c1]⟩)] => some (prB p, Zf7 (Z61 p Z0 (a0, a1) (b0, b1) (c0, c1)))
 | _ => none
theorem ZjA : Sound prog 138 Zco := by
 refine Zd ZmD ZCz (by kernel_rfl) func138 ntmps138 rfl (by kernel_rfl) fun q r E => ?_
 unfold Zco at E
 split at E
 ·obtain ⟨hp, rfl⟩ := so2 E
  rename_i p Z0 a0 a1 b0 b1 c0 c1
  exact ⟨_, _, rfl, (ZDb p Z0 (a0, a1) (b0, b1) (c0, c1)).trans (ZC0 p Z0 (a0, a1) (b0, b1) (c0, c1) hp)⟩
 ·cases E

def Zl5 : Sums := ⟨tblS [(138, Zco), (169, ZkA)], tblM [], false⟩
theorem Zu4 : Ze prog Zl5 := ⟨Za ⟨⟨call138, ZjA⟩, ⟨call169, Zt3⟩, ⟨⟩⟩, tM⟩
def Zd4 (p Z0 : Int) (a b c : P2) : Option P2 :=
 (if (prB p) = true then (if (prB p) = true then (if (prB p) = true then some (Zcc p (Z61 p Z0 a b c) (Z61 p Z0 b a c)) else none) else none) else none)
theorem ZuJ (p Z0 : Int) (a b c : P2) : eT Zl5 117 25 Z7A [pI p, pI Z0, pA a, pA b, pA c] = Zd4 p Z0 a b c := by
 kernel_rfl
def Z0i (p Z0 : Int) (a b c : P2) : Int × Int :=
 (Zcc p (Z61 p Z0 a b c) (Z61 p Z0 b a c))
theorem Ztt (p Z0 : Int) (a b c : P2) (hp : (prB p) = true) : Zd4 p Z0 a b c = some (Z0i p Z0 a b c) := by
 unfold Zd4 Z0i
 (try simp only [Zz])
 repeat' (first | with_reducible rfl | with_reducible refine Zv hp ?_ | refine Zm (fun _ => ?_) (fun _ => ?_) | rfl)
def Z6U : RunP
 | [.v (.int .i64 p), .v (.int .i64 Z0), .v (.agg ⟨[.int .i64 a0, .int .i64 a1]⟩), .v (.agg ⟨[.int .i64 b0, .int .i64 b1]⟩), .v (.agg ⟨[.int .i64 c0, .int .i64 c1]⟩)] => some (prB p, Zai (Z0i p Z0 (a0, a1) (b0, b1) (c0, c1)))
 | _ => none
theorem Zaw : Sound prog 117 Z6U := by
 refine Zd ZgD Zu4 (by kernel_rfl) func117 ntmps117 rfl (by kernel_rfl) fun q r E => ?_
 unfold Z6U at E
 split at E
 ·obtain ⟨hp, rfl⟩ := so2 E
  rename_i p Z0 a0 a1 b0 b1 c0 c1
  exact ⟨_, _, rfl, (ZuJ p Z0 (a0, a1) (b0, b1) (c0, c1)).trans (Ztt p Z0 (a0, a1) (b0, b1) (c0, c1) hp)⟩
 ·cases E

def Zlg : Sums := ⟨tblS [(205, Z3z), (227, Z7H)], tblM [], false⟩
theorem Zug : Ze prog Zlg := ⟨Za ⟨⟨call205, Z4h⟩, ⟨call227, Zbu⟩, ⟨⟩⟩, tM⟩
def Zde (p Z0 : Int) (a b c : P2) : Option P3 :=
 (if (prB p) = true then (if (prB p) = true then some (Z1V p Z0 (Zj p b c) a) else none) else none)
theorem ZuV (p Z0 : Int) (a b c : P2) : eT Zlg 229 19 Zah [pI p, pI Z0, pA a, pA b, pA c] = Zde p Z0 a b c := by
 kernel_rfl
def Z2u (p Z0 : Int) (a b c : P2) : Int × Int × Int :=
 (Z1V p Z0 (Zj p b c) a)
theorem ZtF (p Z0 : Int) (a b c : P2) (hp : (prB p) = true) : Zde p Z0 a b c = some (Z2u p Z0 a b c) := by
 unfold Zde Z2u
 (try simp only [Zz])
 repeat' (first | with_reducible rfl | with_reducible refine Zv hp ?_ | refine Zm (fun _ => ?_) (fun _ => ?_) | rfl)
def Z91 : RunP
 | [.v (.int .i64 p), .v (.int .i64 Z0), .v (.agg ⟨[.int .i64 a0, .int .i64 a1]⟩), .v (.agg ⟨[.int .i64 b0, .int .i64 b1]⟩), .v (.agg ⟨[.int .i64 c0, .int .i64 c1]⟩)] => some (prB p, Zf7 (Z2u p Z0 (a0, a1) (b0, b1) (c0, c1)))
 | _ => none
theorem ZfH : Sound prog 229 Z91 := by
 refine Zd ZmD Zug (by kernel_rfl) func229 ntmps229 rfl (by kernel_rfl) fun q r E => ?_
 unfold Z91 at E
 split at E
 ·obtain ⟨hp, rfl⟩ := so2 E
  rename_i p Z0 a0 a1 b0 b1 c0 c1
  exact ⟨_, _, rfl, (ZuV p Z0 (a0, a1) (b0, b1) (c0, c1)).trans (ZtF p Z0 (a0, a1) (b0, b1) (c0, c1) hp)⟩
 ·cases E

def Zgx : Sums := ⟨tblS [(229, Z91), (226, ZaK)], tblM [], false⟩
theorem Zo8 : Ze prog Zgx := ⟨Za ⟨⟨call229, ZfH⟩, ⟨call226, Zft⟩, ⟨⟩⟩, tM⟩
def Zaf (p Z0 : Int) (a b c : P2) : Option P2 :=
 (if (prB p) = true then (if (prB p) = true then (if (prB p) = true then some ((Z1N p (Z2u p Z0 a b c) (Z2u p Z0 b a c)).1) else none) else none) else none)
theorem Zoe (p Z0 : Int) (a b c : P2) : eT Zgx 187 31 Z7A [pI p, pI Z0, pA a, pA b, pA c] = Zaf p Z0 a b c := by
 kernel_rfl
def Zc (p Z0 : Int) (a b c : P2) : Int × Int :=
 ((Z1N p (Z2u p Z0 a b c) (Z2u p Z0 b a c)).1)
theorem ZnD (p Z0 : Int) (a b c : P2) (hp : (prB p) = true) : Zaf p Z0 a b c = some (Zc p Z0 a b c) := by
 unfold Zaf Zc
 (try simp only [Zz])
 repeat' (first | with_reducible rfl | with_reducible refine Zv hp ?_ | refine Zm (fun _ => ?_) (fun _ => ?_) | rfl)
def Z3f : RunP
 | [.v (.int .i64 p), .v (.int .i64 Z0), .v (.agg ⟨[.int .i64 a0, .int .i64 a1]⟩), .v (.agg ⟨[.int .i64 b0, .int .i64 b1]⟩), .v (.agg ⟨[.int .i64 c0, .int .i64 c1]⟩)] => some (prB p, Zai (Zc p Z0 (a0, a1) (b0, b1) (c0, c1)))
 | _ => none
theorem Z5h : Sound prog 187 Z3f := by
 refine Zd ZgD Zo8 (by kernel_rfl) func187 ntmps187 rfl (by kernel_rfl) fun q r E => ?_
 unfold Z3f at E
 split at E
 ·obtain ⟨hp, rfl⟩ := so2 E
  rename_i p Z0 a0 a1 b0 b1 c0 c1
  exact ⟨_, _, rfl, (Zoe p Z0 (a0, a1) (b0, b1) (c0, c1)).trans (ZnD p Z0 (a0, a1) (b0, b1) (c0, c1) hp)⟩
 ·cases E

end

end Go.Proofs.YtcdpfpfbilfpoaaGreatDoor
