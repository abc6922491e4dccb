import Derived.Test.YtfclaacaphpoaaaFa
import Derived.Test.YtfclaacaphpoaaaProg
set_option linter.unusedSimpArgs false
set_option linter.unusedVariables false
namespace Go.Proofs.Ytfclaacaphpoaaa
open Go.RowKit Try
noncomputable section
def Zdr : Sums := ⟨tblS [(94, Z4o)], tblM [], false, false⟩
theorem Zjp : ZJ prog Zdr := ⟨ZD ⟨⟨call94, Z5z⟩, ⟨⟩⟩, tM⟩
def Z8M (c0n : Nat) (c0l : List Int) (c1 : Int) : Option (Bool) :=
 (if (((c0n : Nat) : Int) == 6) = true then (if (lenB c0n 1 c0l) = true then some (ZR c1 c0l) else none) else some false)
theorem ZjD (c0n : Nat) (c0l : List Int) (c1 : Int) : eT Zdr 93 11 Z0o [.ps c0n (.ints c0l), .p [.int .i64 c1]] = Z8M c0n c0l c1 := by
 kernel_rfl
def Z18 (c0n : Nat) (c0l : List Int) (c1 : Int) : Bool :=
 (if (((c0n : Nat) : Int) == 6) = true then (ZR c1 c0l) else false)
theorem Zis (c0n : Nat) (c0l : List Int) (c1 : Int) (hp : (lenB c0n 1 c0l) = true) : Z8M c0n c0l c1 = some (Z18 c0n c0l c1) := by
 unfold Z8M Z18
 (try simp only [Z03])
 repeat' (first | with_reducible rfl | with_reducible refine Z04 hp ?_ | refine ZS (fun _ => ?_) (fun _ => ?_) | rfl)
def Z8e : RunP
 | [.ps c0n (.ints c0l), .p [.int .i64 c1]] => some (lenB c0n 1 c0l, Z4Q (Z18 c0n c0l c1))
 | _ => none
theorem Zg8 : Sound prog 93 Z8e := by
 refine ZN Z7T Zjp (by kernel_rfl) func93 ntmps93 rfl (by kernel_rfl) fun q r E => ?_
 unfold Z8e at E
 split at E
 ·obtain ⟨hp, rfl⟩ := so2 E
  rename_i c0n c0l c1
  exact ⟨_, _, rfl, (ZjD c0n c0l c1).trans (Zis c0n c0l c1 hp)⟩
 ·cases E

def ZiC : Sums := ⟨tblS [(41, Z5o), (93, Z8e), (86, Z5D)], tblM [], false, false⟩
theorem ZnS : ZJ prog ZiC := ⟨ZD ⟨⟨call41, Z5N⟩, ⟨call93, Zg8⟩, ⟨call86, Z7S⟩, ⟨⟩⟩, tM⟩
def ZbF (p : Int) (Zi : Nat) (listl : List Int) : Option ((Int × Int × Int × Int × Int × Int) × Int) :=
 (if ((lenB Zi 1 listl) || !(Zo p)) = true then (if ((Zt p (lenB Zi 1 listl) (Z18 Zi listl p)) != 0) = true then some ((0, 0, 0, 0, 0, 0), (Zt p (lenB Zi 1 listl) (Z18 Zi listl p))) else (if (Nat.ble 6 Zi && Nat.ble 1 Zi) = true then (if (Nat.ble (6) listl.length) = true then (if (prB p) = true then (if (!((Z02 p (listl.getD 0 0, listl.getD 1 0, listl.getD 2 0, listl.getD 3 0, listl.getD 4 0, listl.getD 5 0)).2)) = true then some ((0, 0, 0, 0, 0, 0), 5) else some (((Z02 p (listl.getD 0 0, listl.getD 1 0, listl.getD 2 0, listl.getD 3 0, listl.getD 4 0, listl.getD 5 0)).1), 0)) else none) else none) else none)) else none)
theorem Zos (p : Int) (Zi : Nat) (listl : List Int) : eT ZiC 30 28 Ze [pI p, .s Zi (.ints listl)] = ZbF p Zi listl := by
 kernel_rfl
def Z5f (p : Int) (Zi : Nat) (listl : List Int) : P6 × Int := if (Zt p true (Z18 Zi listl p) != 0) = true then ((0, 0, 0, 0, 0, 0), Zt p true (Z18 Zi listl p)) else if (!((Z02 p (listl.getD 0 0, listl.getD 1 0, listl.getD 2 0, listl.getD 3 0, listl.getD 4 0, listl.getD 5 0)).2)) = true then ((0, 0, 0, 0, 0, 0), 5) else ((Z02 p (listl.getD 0 0, listl.getD 1 0, listl.getD 2 0, listl.getD 3 0, listl.getD 4 0, listl.getD 5 0)).1, 0)
theorem ZmN (p : Int) (Zi : Nat) (listl : List Int) (hp : (lenB Zi 1 listl) = true) : ZbF p Zi listl = some (Z5f p Zi listl) := by
 obtain ⟨hl, _⟩ := Z53 hp
 rw [Nat.one_mul] at hl
 unfold ZbF Z5f
 refine Z04 (by rw [hp]; rfl) ?_
 rw [show ∀ k h, Zt p k h = Zt p true h from fun _ _ => rfl]
 refine ZS (fun _ => rfl) (fun h => ?_)
 have h0 : Zt p true (Z18 Zi listl p) = 0 := by simpa using h
 obtain ⟨hf, hb⟩ := Zx2 h0
 have h6 : Zi = 6 := by
  unfold Z18 at hb
  by_cases e : (((Zi : Nat) : Int) == 6) = true
  ·have := of_decide_eq_true e
   simp at e
   omega
  ·simp [e] at hb
 subst h6
 refine Z04 rfl (Z04 (by rw [hl]; rfl) (Z04 (Z9R (Zx hf)) (ZS (fun _ => rfl) (fun _ => rfl))))
def ZaZ : RunP
 | [.v (.int .i64 p), .s Zi (.ints listl)] => some (lenB Zi 1 listl, Z9Y (Z5f p Zi listl))
 | _ => none
theorem ZjS : Sound prog 30 ZaZ := by
 refine ZN Zej ZnS (by kernel_rfl) func30 ntmps30 rfl (by kernel_rfl) fun q r E => ?_
 unfold ZaZ at E
 split at E
 ·obtain ⟨hp, rfl⟩ := so2 E
  rename_i p Zi listl
  exact ⟨_, _, rfl, (Zos p Zi listl).trans (ZmN p Zi listl hp)⟩
 ·cases E

def ZiI : Sums := ⟨tblS [(95, Z8j), (91, Z5M)], tblM [], false, false⟩
theorem ZnZ : ZJ prog ZiI := ⟨ZD ⟨⟨call95, Zgd⟩, ⟨call91, Z72⟩, ⟨⟩⟩, tM⟩
def ZbL (p : Int) (Zi : Nat) (listl : List Int) : Option ((Int × Int × Int × Int × Int × Int) × Int) :=
 (if (lenB Zi 1 listl) = true then (if ((Z1k p listl) == 0) = true then (if (((Zi : Nat) : Int) != 6) = true then some ((0, 0, 0, 0, 0, 0), 2) else (if ((Z1k p listl) != 0) = true then some ((0, 0, 0, 0, 0, 0), (Z1k p listl)) else (if (prB p && (Nat.beq Zi 6 && Nat.beq listl.length 6)) = true then (if (!((ZO p Zi listl).2)) = true then some ((0, 0, 0, 0, 0, 0), 5) else some (((ZO p Zi listl).1), 0)) else none))) else (if ((Z1k p listl) != 0) = true then some ((0, 0, 0, 0, 0, 0), (Z1k p listl)) else (if (prB p && (Nat.beq Zi 6 && Nat.beq listl.length 6)) = true then (if (!((ZO p Zi listl).2)) = true then some ((0, 0, 0, 0, 0, 0), 5) else some (((ZO p Zi listl).1), 0)) else none))) else none)
theorem Zoz (p : Int) (Zi : Nat) (listl : List Int) : eT ZiI 31 33 Ze [pI p, .s Zi (.ints listl)] = ZbL p Zi listl := by
 kernel_rfl
def Z9r (p : Int) (Zi : Nat) (listl : List Int) : P6 × Int := if (Z1k p listl != 0) = true then ((0, 0, 0, 0, 0, 0), Z1k p listl) else if (((Zi : Nat) : Int) != 6) = true then ((0, 0, 0, 0, 0, 0), 2) else if (!((ZO p Zi listl).2)) = true then ((0, 0, 0, 0, 0, 0), 5) else ((ZO p Zi listl).1, 0)
theorem ZmU (p : Int) (Zi : Nat) (listl : List Int) (hp : (lenB Zi 1 listl) = true) : ZbL p Zi listl = some (Z9r p Zi listl) := by
 obtain ⟨hl, _⟩ := Z53 hp
 rw [Nat.one_mul] at hl
 unfold ZbL Z9r
 refine Z04 hp ?_
 by_cases h0 : Z1k p listl = 0
 ·have hq : prB p = true := ZjN (by simpa using h0)
  rw [h0, if_pos (show ((0 : Int) == 0) = true from rfl)]
  rw [if_neg (show ¬ ((0 : Int) != 0) = true by decide), if_neg (show ¬ ((0 : Int) != 0) = true by decide)]
  refine ZS (fun _ => rfl) (fun h6 => ?_)
  have h6' : Zi = 6 := by simp at h6; omega
  subst h6'
  exact Z04 (Z1G hq (Z1G rfl (by rw [hl]; rfl))) (ZS (fun _ => rfl) (fun _ => rfl))
 ·rw [if_neg (by simpa using h0), if_pos (by simpa using h0), if_pos (by simpa using h0)]
def Zb1 : RunP
 | [.v (.int .i64 p), .s Zi (.ints listl)] => some (lenB Zi 1 listl, Z9Y (Z9r p Zi listl))
 | _ => none
theorem ZjU : Sound prog 31 Zb1 := by
 refine ZN Zej ZnZ (by kernel_rfl) func31 ntmps31 rfl (by kernel_rfl) fun q r E => ?_
 unfold Zb1 at E
 split at E
 ·obtain ⟨hp, rfl⟩ := so2 E
  rename_i p Zi listl
  exact ⟨_, _, rfl, (Zoz p Zi listl).trans (ZmU p Zi listl hp)⟩
 ·cases E

def Z9S : Sums := ⟨tblS [(43, Z8s)], tblM [], false, false⟩
theorem Zez : ZJ prog Z9S := ⟨ZD ⟨⟨call43, ZcP⟩, ⟨⟩⟩, tM⟩
def Z6t (c0 : Int) (c1 : Int × Int × Int × Int × Int × Int) : Option (Bool) :=
 some (Z0Z c0 c1)
theorem ZeI (c0 : Int) (c1 : Int × Int × Int × Int × Int × Int) : eT Z9S 61 6 Z0o [.p [.int .i64 c0], .p [.int .i64 c1.1, .int .i64 c1.2.1, .int .i64 c1.2.2.1, .int .i64 c1.2.2.2.1, .int .i64 c1.2.2.2.2.1, .int .i64 c1.2.2.2.2.2]] = Z6t c0 c1 := by
 kernel_rfl
def Z1Z (c0 : Int) (c1 : Int × Int × Int × Int × Int × Int) : Bool :=
 (Z0Z c0 c1)
theorem Zed (c0 : Int) (c1 : Int × Int × Int × Int × Int × Int) : Z6t c0 c1 = some (Z1Z c0 c1) := by
 unfold Z6t Z1Z
 (try simp only [Z03])
 repeat' (first | with_reducible rfl | refine ZS (fun _ => ?_) (fun _ => ?_) | rfl)
def Z67 : RunP
 | [.p [.int .i64 c0], .p [.int .i64 c10, .int .i64 c11, .int .i64 c12, .int .i64 c13, .int .i64 c14, .int .i64 c15]] => some (true, Z4Q (Z1Z c0 (c10, c11, c12, c13, c14, c15)))
 | _ => none
theorem Zcv : Sound prog 61 Z67 := by
 refine ZN Z7T Zez (by kernel_rfl) func61 ntmps61 rfl (by kernel_rfl) fun q r E => ?_
 unfold Z67 at E
 split at E
 ·obtain ⟨hp, rfl⟩ := so2 E
  rename_i c0 c10 c11 c12 c13 c14 c15
  exact ⟨_, _, rfl, (ZeI c0 (c10, c11, c12, c13, c14, c15)).trans (Zed c0 (c10, c11, c12, c13, c14, c15))⟩
 ·cases E

def Zf9 : Sums := ⟨tblS [(83, Zet)], tblM [], false, false⟩
theorem ZkE : ZJ prog Zf9 := ⟨ZD ⟨⟨call83, Zjk⟩, ⟨⟩⟩, tM⟩
def Z9E (p : Int) (a : P2) (k : Int × Int × Int × Int × Int × Int) : Option (Bool) :=
 (if (prB p) = true then (if (!(p == 0)) = true then some (((wI ((wI ((wI ((wI ((wI ((wI (0 + (wI (((Z4s p a).1) * k.1)))) + (wI (((Z4s p a).2.1) * k.2.1)))) + (wI (((Z4s p a).2.2.1) * k.2.2.1)))) + (wI (((Z4s p a).2.2.2.1) * k.2.2.2.1)))) + (wI (((Z4s p a).2.2.2.2.1) * k.2.2.2.2.1)))) + (wI (((Z4s p a).2.2.2.2.2) * k.2.2.2.2.2)))).tmod p) == 0) else none) else none)
theorem Zlj (p : Int) (a : P2) (k : Int × Int × Int × Int × Int × Int) : eT Zf9 46 29 Z0o [pI p, pA a, .v (.agg ⟨[.int .i64 k.1, .int .i64 k.2.1, .int .i64 k.2.2.1, .int .i64 k.2.2.2.1, .int .i64 k.2.2.2.2.1, .int .i64 k.2.2.2.2.2]⟩)] = Z9E p a k := by
 kernel_rfl
def Z1g (p : Int) (a : P2) (k : Int × Int × Int × Int × Int × Int) : Bool :=
 ((wrap64 ((wrap64 ((wrap64 ((wrap64 ((wrap64 ((wrap64 (0 + (wrap64 (((Z4s p a).1) * k.1)))) + (wrap64 (((Z4s p a).2.1) * k.2.1)))) + (wrap64 (((Z4s p a).2.2.1) * k.2.2.1)))) + (wrap64 (((Z4s p a).2.2.2.1) * k.2.2.2.1)))) + (wrap64 (((Z4s p a).2.2.2.2.1) * k.2.2.2.2.1)))) + (wrap64 (((Z4s p a).2.2.2.2.2) * k.2.2.2.2.2)))).tmod p) == 0
theorem Zk7 (p : Int) (a : P2) (k : Int × Int × Int × Int × Int × Int) (hp : (prB p) = true) : Z9E p a k = some (Z1g p a k) := by
 have h0 := Z6y hp
 unfold Z9E Z1g
 (try simp only [Z03])
 repeat' (first | with_reducible rfl | with_reducible refine Z04 hp ?_ | with_reducible refine Z04 h0 ?_ | refine ZS (fun _ => ?_) (fun _ => ?_) | rfl)
def Z91 : RunP
 | [.v (.int .i64 p), .v (.agg ⟨[.int .i64 a0, .int .i64 a1]⟩), .v (.agg ⟨[.int .i64 k0, .int .i64 k1, .int .i64 k2, .int .i64 k3, .int .i64 k4, .int .i64 k5]⟩)] => some (prB p, Z4Q (Z1g p (a0, a1) (k0, k1, k2, k3, k4, k5)))
 | _ => none
theorem Zhg : Sound prog 46 Z91 := by
 refine ZN Z7T ZkE (by kernel_rfl) func46 ntmps46 rfl (by kernel_rfl) fun q r E => ?_
 unfold Z91 at E
 split at E
 ·obtain ⟨hp, rfl⟩ := so2 E
  rename_i p a0 a1 k0 k1 k2 k3 k4 k5
  exact ⟨_, _, rfl, (Zlj p (a0, a1) (k0, k1, k2, k3, k4, k5)).trans (Zk7 p (a0, a1) (k0, k1, k2, k3, k4, k5) hp)⟩
 ·cases E

def Z9T : Sums := ⟨tblS [(46, Z91)], tblM [], false, false⟩
theorem ZeA : ZJ prog Z9T := ⟨ZD ⟨⟨call46, Zhg⟩, ⟨⟩⟩, tM⟩
def Z6u (a : P2) (c0 : Int) (c1 : Int × Int × Int × Int × Int × Int) : Option (Bool) :=
 (if (prB c0) = true then some (Z1g c0 a c1) else none)
theorem ZeJ (a : P2) (c0 : Int) (c1 : Int × Int × Int × Int × Int × Int) : eT Z9T 63 9 Z0o [pA a, .p [.int .i64 c0], .p [.int .i64 c1.1, .int .i64 c1.2.1, .int .i64 c1.2.2.1, .int .i64 c1.2.2.2.1, .int .i64 c1.2.2.2.2.1, .int .i64 c1.2.2.2.2.2]] = Z6u a c0 c1 := by
 kernel_rfl
def Z2n (a : P2) (c0 : Int) (c1 : Int × Int × Int × Int × Int × Int) : Bool :=
 (Z1g c0 a c1)
theorem Zee (a : P2) (c0 : Int) (c1 : Int × Int × Int × Int × Int × Int) (hp : (prB c0) = true) : Z6u a c0 c1 = some (Z2n a c0 c1) := by
 unfold Z6u Z2n
 (try simp only [Z03])
 repeat' (first | with_reducible rfl | with_reducible refine Z04 hp ?_ | refine ZS (fun _ => ?_) (fun _ => ?_) | rfl)
def Z68 : RunP
 | [.v (.agg ⟨[.int .i64 a0, .int .i64 a1]⟩), .p [.int .i64 c0], .p [.int .i64 c10, .int .i64 c11, .int .i64 c12, .int .i64 c13, .int .i64 c14, .int .i64 c15]] => some (prB c0, Z4Q (Z2n (a0, a1) c0 (c10, c11, c12, c13, c14, c15)))
 | _ => none
theorem Zcw : Sound prog 63 Z68 := by
 refine ZN Z7T ZeA (by kernel_rfl) func63 ntmps63 rfl (by kernel_rfl) fun q r E => ?_
 unfold Z68 at E
 split at E
 ·obtain ⟨hp, rfl⟩ := so2 E
  rename_i a0 a1 c0 c10 c11 c12 c13 c14 c15
  exact ⟨_, _, rfl, (ZeJ (a0, a1) c0 (c10, c11, c12, c13, c14, c15)).trans (Zee (a0, a1) c0 (c10, c11, c12, c13, c14, c15) hp)⟩
 ·cases E

def Z1a : Sums := ⟨tblS [], tblM [], false, false⟩
theorem ZkC : ZJ prog Z1a := ⟨ZD ⟨⟩, tM⟩
def Z4F (p : Int) (l6 : List Int) (m6 : Nat) (x : Int) : Tab := ⟨[vI (p), jK, .val (.slice none 0 0), .row 24, vI (x), ] ++ (jN 18 ++ [jK]), [(24, .row 27 2 m6 (.ints l6))]⟩
def Zjy (p : Int) (l6 : List Int) (m6 : Nat) (x : Int) (l6' : List Int) (m6' : Nat) (y : Int) : Tab := ⟨[vI (p), jK, .val (.slice none 0 0), .row 24, vI (x), vI (y), jK, vI (x), vI (p), vB ((decide (x < p))), ] ++ (jN 13 ++ [jK]), [(24, .row 27 2 m6' (.ints l6'))]⟩
def Z4H (P : Program) (fu : Nat) (p : Int) (l6 : List Int) (m6 : Nat) (x : Int) (rc2 : Tab -> Option (Nat × List Int)) (f : Nat) (l6' : List Int) (m6' : Nat) (y : Int) : Option (Nat × List Int) := ZH (exec P Z1a 24 (fun _ => fu + 100) (Code.sub [1, 1, 0, 1, 0, 0, 1, 0, 0, 1, 0, 0] (Zb P 55))) f (Zjy p l6 m6 x l6' m6' y) (Zc 2 (Zc 1 (kSeq (fun Zp => exec P Z1a 24 (fun _ => fu + 100) (Code.sub [1, 1, 0, 1, 0, 0, 1, 1] (Zb P 55)) Zp (Zz rc2 (Z4F p l6 m6 x) (Zc 0 (kSeq (fun Zp => exec P Z1a 24 (fun _ => fu + 100) (Code.sub [1, 1, 1] (Zb P 55)) Zp (finT P 55 Z0p)) (finT P 55 Z0p))))) (Zz rc2 (Z4F p l6 m6 x) (Zc 0 (kSeq (fun Zp => exec P Z1a 24 (fun _ => fu + 100) (Code.sub [1, 1, 1] (Zb P 55)) Zp (finT P 55 Z0p)) (finT P 55 Z0p)))))))
def Z4A (p : Int) (l6 : List Int) (m6 : Nat) (x : Int) (Z7a : (List Int) -> Nat -> Int -> Option (Nat × List Int)) (Zu6 : (List Int) -> Nat -> Int -> Option (Nat × List Int)) (l6' : List Int) (m6' : Nat) (y : Int) : Option (Nat × List Int) :=
 (if (decide (y < p)) = true then (if (Nat.ble 0 1 && Nat.ble (m6' + 1) 2000000 && Nat.beq 2 (2)) = true then Zu6 (l6' ++ [x, y]) (m6' + 1) (wI (y + 1)) else none) else Z7a l6' m6' (wI (x + 1)))
def Z1r (fu : Nat) (p : Int) (l6 : List Int) (m6 : Nat) (x : Int) (Z7a : (List Int) -> Nat -> Int -> Option (Nat × List Int)) : Nat -> (List Int) -> Nat -> Int -> Option (Nat × List Int)
 | 0, _, _, _ => none
 | f + 1, l6', m6', y => Z4A p l6 m6 x Z7a (Z1r fu p l6 m6 x Z7a f) l6' m6' y
theorem ZfX (fu : Nat) (p : Int) (l6 : List Int) (m6 : Nat) (x : Int) (rc2 : Tab -> Option (Nat × List Int)) : ∀ (f : Nat) (l6' : List Int) (m6' : Nat) (y : Int), Z4H prog fu p l6 m6 x rc2 f l6' m6' y = Z1r fu p l6 m6 x (fun l6 m6 x => rc2 (Z4F p l6 m6 x)) f l6' m6' y := by
 intro f
 induction f with
 | zero => intros; rfl
 | succ f ih =>
  intro l6' m6' y
  have h1 : Z4H prog fu p l6 m6 x rc2 (f + 1) l6' m6' y = Z4A p l6 m6 x (fun l6 m6 x => rc2 (Z4F p l6 m6 x)) (Z4H prog fu p l6 m6 x rc2 f) l6' m6' y := by kernel_rfl
  have h2 : Z4H prog fu p l6 m6 x rc2 f = Z1r fu p l6 m6 x (fun l6 m6 x => rc2 (Z4F p l6 m6 x)) f := by funext l6' m6' y; exact ih l6' m6' y
  rw [h1, h2]
  rfl
def Z3T (P : Program) (fu : Nat) (p : Int) (f : Nat) (l6 : List Int) (m6 : Nat) (x : Int) : Option (Nat × List Int) := ZH (exec P Z1a 24 (fun _ => fu + 100) (Code.sub [1, 1, 0, 1, 0, 0] (Zb P 55))) f (Z4F p l6 m6 x) (Zc 0 (kSeq (fun Zp => exec P Z1a 24 (fun _ => fu + 100) (Code.sub [1, 1, 1] (Zb P 55)) Zp (finT P 55 Z0p)) (finT P 55 Z0p)))
def Z4z (p : Int) (lo3 : (List Int) -> Nat -> Int -> Option (Nat × List Int)) (Z7a : (List Int) -> Nat -> Int -> Option (Nat × List Int)) (l6 : List Int) (m6 : Nat) (x : Int) : Option (Nat × List Int) :=
 (if (decide (x < p)) = true then lo3 l6 m6 0 else some (m6, l6))
def Z1l (fu : Nat) (p : Int) : Nat -> (List Int) -> Nat -> Int -> Option (Nat × List Int)
 | 0, _, _, _ => none
 | f + 1, l6, m6, x => Z4z p (Z1r fu p l6 m6 x (Z1l fu p f) (fu + 100)) (Z1l fu p f) l6 m6 x
theorem ZfW (fu : Nat) (p : Int) : ∀ (f : Nat) (l6 : List Int) (m6 : Nat) (x : Int), Z3T prog fu p f l6 m6 x = Z1l fu p f l6 m6 x := by
 intro f
 induction f with
 | zero => intros; rfl
 | succ f ih =>
  intro l6 m6 x
  have h1 : Z3T prog fu p (f + 1) l6 m6 x = Z4z p (Z4H prog fu p l6 m6 x (fun t => ZH (exec prog Z1a 24 (fun _ => fu + 100) (Code.sub [1, 1, 0, 1, 0, 0] (Zb prog 55))) f t (Zc 0 (kSeq (fun Zp => exec prog Z1a 24 (fun _ => fu + 100) (Code.sub [1, 1, 1] (Zb prog 55)) Zp (finT prog 55 Z0p)) (finT prog 55 Z0p)))) (fu + 100)) (Z3T prog fu p f) l6 m6 x := by kernel_rfl
  have h2 : Z3T prog fu p f = Z1l fu p f := by funext l6 m6 x; exact ih l6 m6 x
  have c3 : (Z4H prog fu p l6 m6 x (fun t => ZH (exec prog Z1a 24 (fun _ => fu + 100) (Code.sub [1, 1, 0, 1, 0, 0] (Zb prog 55))) f t (Zc 0 (kSeq (fun Zp => exec prog Z1a 24 (fun _ => fu + 100) (Code.sub [1, 1, 1] (Zb prog 55)) Zp (finT prog 55 Z0p)) (finT prog 55 Z0p)))) (fu + 100)) = Z1r fu p l6 m6 x (Z3T prog fu p f) (fu + 100) := by funext l6' m6' y; exact ZfX fu p l6 m6 x (fun t => ZH (exec prog Z1a 24 (fun _ => fu + 100) (Code.sub [1, 1, 0, 1, 0, 0] (Zb prog 55))) f t (Zc 0 (kSeq (fun Zp => exec prog Z1a 24 (fun _ => fu + 100) (Code.sub [1, 1, 1] (Zb prog 55)) Zp (finT prog 55 Z0p)) (finT prog 55 Z0p)))) (fu + 100) l6' m6' y
  rw [h1, c3, h2]
  rfl
def ZaP (p : Int) (lo2 : (List Int) -> Nat -> Int -> Option (Nat × List Int)) : Option (Nat × List Int) :=
 lo2 [] 0 0
def Z9C (fu : Nat) (p : Int) : Option (Nat × List Int) := ZaP p (Z1l fu p (fu + 100))
theorem Zlh (fu : Nat) (p : Int) : eF fu Z1a 55 24 Z0p [pI p] = Z9C fu p := by
 have h1 : eF fu Z1a 55 24 Z0p [pI p] = ZaP p (Z3T prog fu p (fu + 100)) := by kernel_rfl
 have c2 : Z3T prog fu p (fu + 100) = Z1l fu p (fu + 100) := by funext l6 m6 x; exact ZfW fu p (fu + 100) l6 m6 x
 rw [h1, c2]
 rfl
def Z1D (p : Int) : Nat × List Int := ((pts p).length, Z0Y (pts p))
theorem ZjQ {p : Int} (hp : prB p = true) (fu : Nat) (l6 : List Int) (m6 : Nat) (x : Int) (Z7a : List Int -> Nat -> Int -> Option (Nat × List Int)) {F m : Nat} {l : List Int} (hF : p.toNat < F) (hm : m <= 100000) :
  Z1r fu p l6 m6 x Z7a F l m 0 = Z7a (l ++ Z0Y ((List.range p.toNat).flatMap (fun y : Nat => [((x : Int), (y : Int))]))) (m + ((List.range p.toNat).flatMap (fun y : Nat => [((x : Int), (y : Int))])).length) (wI (x + 1)) := by
 obtain ⟨h1, h0, hpn⟩ := Z7J hp
 exact gather (flat := Z0Y) Zbk rfl (L := fun f l m i => Z1r fu p l6 m6 x Z7a f l m i) (n := p.toNat) (b := 1) (M := 100000) ((fun y : Nat => [((x : Int), (y : Int))])) (K := (Z7a (l ++ Z0Y ((List.range p.toNat).flatMap (fun y : Nat => [((x : Int), (y : Int))]))) (m + ((List.range p.toNat).flatMap (fun y : Nat => [((x : Int), (y : Int))])).length) (wI (x + 1)))) (l := l) (m := m) (F := F) (by intro k hk; first | (split <;> simp) | simp_all)
  (fun f k l m hk hm => by
   show Z4A p l6 m6 x Z7a (Z1r fu p l6 m6 x Z7a f) l m (k : Int) = _
   unfold Z4A
   rw [if_pos (cndp hk), if_pos (by simp; omega), Z2o hk (by omega)]
   rfl)
  (fun f hm => by
   show Z4A p l6 m6 x Z7a (Z1r fu p l6 m6 x Z7a f) (l ++ Z0Y ((List.range p.toNat).flatMap ((fun y : Nat => [((x : Int), (y : Int))])))) (m + ((List.range p.toNat).flatMap ((fun y : Nat => [((x : Int), (y : Int))]))).length) ((p.toNat : Nat) : Int) = _
   unfold Z4A
   rw [if_neg (by simp; omega)]) hF hm
theorem ZjO {p : Int} (hp : prB p = true) {F : Nat} (hF : p.toNat < F) : Z1l 1000000 p F [] 0 0 = (some (((pts p)).length, Z0Y ((pts p)))) := by
 obtain ⟨h1, h0, hpn⟩ := Z7J hp
 exact gather (flat := Z0Y) Zbk rfl (L := fun f l m i => Z1l 1000000 p f l m i) (n := p.toNat) (b := 31) (M := 0) ((fun x : Nat => (List.range p.toNat).flatMap (fun y : Nat => [(((x : Int) : Int), (y : Int))]))) (K := (some (((pts p)).length, Z0Y ((pts p))))) (l := []) (m := 0) (F := F) (by intro k hk; refine Nat.le_trans (Z66 (b := 1) fun j _ => ?_) (by omega); first | (split <;> simp) | simp)
  (fun f k l m hk hm => by
   show Z4z p (Z1r 1000000 p l m (k : Int) (Z1l 1000000 p f) (1000000 + 100)) (Z1l 1000000 p f) l m (k : Int) = _
   unfold Z4z
   rw [if_pos (cndp hk), ZjQ hp _ _ _ _ _ (by omega) (by omega), Z2o hk (by omega)])
  (fun f hm => by
   show Z4z p (Z1r 1000000 p ([] ++ Z0Y ((List.range p.toNat).flatMap ((fun x : Nat => (List.range p.toNat).flatMap (fun y : Nat => [(((x : Int) : Int), (y : Int))]))))) (0 + ((List.range p.toNat).flatMap ((fun x : Nat => (List.range p.toNat).flatMap (fun y : Nat => [(((x : Int) : Int), (y : Int))])))).length) ((p.toNat : Nat) : Int) (Z1l 1000000 p f) (1000000 + 100)) (Z1l 1000000 p f) ([] ++ Z0Y ((List.range p.toNat).flatMap ((fun x : Nat => (List.range p.toNat).flatMap (fun y : Nat => [(((x : Int) : Int), (y : Int))]))))) (0 + ((List.range p.toNat).flatMap ((fun x : Nat => (List.range p.toNat).flatMap (fun y : Nat => [(((x : Int) : Int), (y : Int))])))).length) ((p.toNat : Nat) : Int) = _
   unfold Z4z
   have hkp : ((List.range p.toNat).flatMap (fun x : Nat => (List.range p.toNat).flatMap (fun y : Nat => [(((x : Int) : Int), (y : Int))]))) = (pts p) := by unfold pts; congr 1; funext x; exact ZiZ _ _
   rw [if_neg (by simp; omega), hkp]
   simp) hF (Nat.le_refl _)

theorem Zk5 (p : Int) (hp : (prB p) = true) : Z9C 1000000 p = some (Z1D p) := by
 unfold Z9C ZaP
 have h1 := (Z7J hp).1
 exact ZjO hp (by omega)
def Z90 : RunP
 | [.v (.int .i64 p)] => some (prB p, Zek (Z1D p))
 | _ => none
theorem Zhe : Sound prog 55 Z90 := by
 refine ZN Zl7 ZkC (by kernel_rfl) func55 ntmps55 rfl (by kernel_rfl) fun q r E => ?_
 unfold Z90 at E
 split at E
 ·obtain ⟨hp, rfl⟩ := so2 E
  rename_i p
  exact ⟨_, _, rfl, (Zlh _ p).trans (Zk5 p hp)⟩
 ·cases E

def Z61 : Sums := ⟨tblS [(55, Z90)], tblM [], false, false⟩
theorem Zjs : ZJ prog Z61 := ⟨ZD ⟨⟨call55, Zhe⟩, ⟨⟩⟩, tM⟩
def ZhI (p : Int) (Z17 : P2 -> Bool) (Z0z : P2 -> Bool) (l8 : List Int) (m8 : Nat) (t12 : Int) : Tab := ⟨[vI (p), .fn (Zbg Z17 Z0z), jK, jK, .val (.slice none 0 0), .row 32, jK, jK, jK, vI (p), .row 40, vI ((((Z1D p).1 : Nat) : Int)), vI (t12), ] ++ (jN 11 ++ [jK]), [(32, .row 27 2 m8 (.ints l8)), (40, .row 27 2 ((Z1D p).1) (.ints ((Z1D p).2)))]⟩
def Z4j (P : Program) (fu : Nat) (p : Int) (Z17 : P2 -> Bool) (Z0z : P2 -> Bool) (f : Nat) (l8 : List Int) (m8 : Nat) (t12 : Int) : Option (Nat × List Int) := ZH (exec P Z61 25 (fun _ => fu + 100) (Code.sub [1, 1, 0, 1, 0, 0] (Zb P 62))) f (ZhI p Z17 Z0z l8 m8 t12) (Zc 0 (kSeq (fun Zp => exec P Z61 25 (fun _ => fu + 100) (Code.sub [1, 1, 1] (Zb P 62)) Zp (finT P 62 Z0p)) (finT P 62 Z0p)))
def Z49 (p : Int) (Z17 : P2 -> Bool) (Z0z : P2 -> Bool) (ZE : (List Int) -> Nat -> Int -> Option (Nat × List Int)) (l8 : List Int) (m8 : Nat) (t12 : Int) : Option (Nat × List Int) :=
 (if (decide (t12 < (((Z1D p).1 : Nat) : Int))) = true then (if (decide (0 <= t12) && decide (t12 < (((Z1D p).1 : Nat) : Int))) = true then (if (Nat.ble (t12.toNat * 2 + 2) (((Z1D p).2).length)) = true then (if (Z17 (((Z1D p).2).getD (t12.toNat * 2 + 0) 0, ((Z1D p).2).getD (t12.toNat * 2 + 1) 0)) = true then (if (Z0z (((Z1D p).2).getD (t12.toNat * 2 + 0) 0, ((Z1D p).2).getD (t12.toNat * 2 + 1) 0)) = true then (if (Nat.ble 0 1 && Nat.ble (m8 + 1) 2000000 && Nat.beq 2 (2)) = true then ZE (l8 ++ [((Z1D p).2).getD (t12.toNat * 2 + 0) 0, ((Z1D p).2).getD (t12.toNat * 2 + 1) 0]) (m8 + 1) (wI (t12 + 1)) else none) else ZE l8 m8 (wI (t12 + 1))) else none) else none) else none) else some (m8, l8))
def Z1R (fu : Nat) (p : Int) (Z17 : P2 -> Bool) (Z0z : P2 -> Bool) : Nat -> (List Int) -> Nat -> Int -> Option (Nat × List Int)
 | 0, _, _, _ => none
 | f + 1, l8, m8, t12 => Z49 p Z17 Z0z (Z1R fu p Z17 Z0z f) l8 m8 t12
theorem ZeN (fu : Nat) (p : Int) (Z17 : P2 -> Bool) (Z0z : P2 -> Bool) : ∀ (f : Nat) (l8 : List Int) (m8 : Nat) (t12 : Int), Z4j prog fu p Z17 Z0z f l8 m8 t12 = Z1R fu p Z17 Z0z f l8 m8 t12 := by
 intro f
 induction f with
 | zero => intros; rfl
 | succ f ih =>
  intro l8 m8 t12
  have h1 : Z4j prog fu p Z17 Z0z (f + 1) l8 m8 t12 = Z49 p Z17 Z0z (Z4j prog fu p Z17 Z0z f) l8 m8 t12 := by kernel_rfl
  have h2 : Z4j prog fu p Z17 Z0z f = Z1R fu p Z17 Z0z f := by funext l8 m8 t12; exact ih l8 m8 t12
  rw [h1, h2]
  rfl
def Z9O (p : Int) (Z17 : P2 -> Bool) (Z0z : P2 -> Bool) (lo0 : (List Int) -> Nat -> Int -> Option (Nat × List Int)) : Option (Nat × List Int) :=
 (if (prB p) = true then lo0 [] 0 0 else none)
def Z8P (fu : Nat) (p : Int) (Z17 : P2 -> Bool) (Z0z : P2 -> Bool) : Option (Nat × List Int) := Z9O p Z17 Z0z (Z1R fu p Z17 Z0z (fu + 100))
theorem ZjG (fu : Nat) (p : Int) (Z17 : P2 -> Bool) (Z0z : P2 -> Bool) : eF fu Z61 62 25 Z0p [pI p, .f (Zbg Z17 Z0z)] = Z8P fu p Z17 Z0z := by
 have h1 : eF fu Z61 62 25 Z0p [pI p, .f (Zbg Z17 Z0z)] = Z9O p Z17 Z0z (Z4j prog fu p Z17 Z0z (fu + 100)) := by kernel_rfl
 have c0 : Z4j prog fu p Z17 Z0z (fu + 100) = Z1R fu p Z17 Z0z (fu + 100) := by funext l8 m8 t12; exact ZeN fu p Z17 Z0z (fu + 100) l8 m8 t12
 rw [h1, c0]
 rfl
def Z5u (p : Int) (Z17 Z0z : P2 -> Bool) : Nat × List Int := (((pts p).filter Z0z).length, Z0Y ((pts p).filter Z0z))
theorem Zi5 (p : Int) (Z17 Z0z : P2 -> Bool) (hp : prB p = true) (hall : ∀ k, k < (pts p).length -> Z17 (R2 (Z0Y (pts p)) k) = true) {F : Nat} (hF : 993 < F) : Z1R 1000000 p Z17 Z0z F [] 0 0 = some (((pts p).filter fun zz => Z0z zz).length, Z0Y ((pts p).filter fun zz => Z0z zz)) := by
 have Z5e : (pts p).length <= 961 := Zkt hp
 exact gather (flat := Z0Y) Zbk rfl (L := fun f l m i => Z1R 1000000 p Z17 Z0z f l m i) (n := (pts p).length) (b := 1) (M := 0) (fun k => if (Z0z (R2 (Z0Y (pts p)) k)) = true then [R2 (Z0Y (pts p)) k] else []) (K := (some (((pts p).filter fun zz => Z0z zz).length, Z0Y ((pts p).filter fun zz => Z0z zz)))) (l := []) (m := 0) (F := F) (by intro k hk; first | (split <;> simp) | simp_all)
  (fun f k l m hk hm => by
   show Z49 p Z17 Z0z (Z1R 1000000 p Z17 Z0z f) l m (k : Int) = _
   unfold Z49
   have x0 : Z17 ((Z0Y (pts p)).getD (k * 2 + 0) 0, (Z0Y (pts p)).getD (k * 2 + 1) 0) = true := hall k hk
   have e0 : decide (0 <= (k : Int)) = true := by simp
   have e1 := cnd hk
   have e3 : (k : Int).toNat = k := Int.toNat_natCast k
   have e4 := Zta (Z0q _) hk
   have e5 : Nat.ble 1 1 = true := rfl
   have e6 : Nat.ble (m + 1) 2000000 = true := leb (by omega)
   rw [show Z1D p = ((pts p).length, Z0Y (pts p)) from rfl]
   simp only [e0, e1, e3, e4, e5, e6, Zxx, x0, Bool.and_true, Bool.true_and, if_true, Z2o hk (by omega)]
   have hq0 : ((Z0z ((Z0Y (pts p)).getD (k * 2 + 0) 0, (Z0Y (pts p)).getD (k * 2 + 1) 0))) = ((Z0z (R2 (Z0Y (pts p)) k))) := rfl
   try rw [hq0]
   generalize ((Z0z (R2 (Z0Y (pts p)) k))) = c0
   cases c0 <;> first
    | rfl
    | (
      simp only [Bool.false_eq_true, Bool.false_and, Bool.and_false, Bool.true_and, if_false, if_true]
      rw [show Z0Y [] = [] from rfl, List.append_nil]
      rfl))
  (fun f hm => by
   show Z49 p Z17 Z0z (Z1R 1000000 p Z17 Z0z f) ([] ++ Z0Y ((List.range (pts p).length).flatMap (fun k => if (Z0z (R2 (Z0Y (pts p)) k)) = true then [R2 (Z0Y (pts p)) k] else []))) (0 + ((List.range (pts p).length).flatMap (fun k => if (Z0z (R2 (Z0Y (pts p)) k)) = true then [R2 (Z0Y (pts p)) k] else [])).length) (((pts p).length : Nat) : Int) = _
   unfold Z49
   have hkp : ((List.range ((pts p).length)).flatMap fun k => if (Z0z (R2 (Z0Y (pts p)) k)) = true then [R2 (Z0Y (pts p)) k] else []) = (Z06 ((pts p).length) (Z0Y (pts p))).filter (fun zz => (Z0z zz)) := ZxB ((pts p).length) (Z0Y (pts p)) (fun zz => (Z0z zz))
   rw [show Z1D p = ((pts p).length, Z0Y (pts p)) from rfl]
   rw [if_neg (by simp), hkp, Zjh]
   simp) (by omega) (Nat.le_refl _)

theorem Ziv (p : Int) (Z17 : P2 -> Bool) (Z0z : P2 -> Bool) (hp : (prB p && (pts p).all Z17) = true) : Z8P 1000000 p Z17 Z0z = some (Z5u p Z17 Z0z) := by
 simp only [Bool.and_eq_true] at hp
 obtain ⟨hp, hall⟩ := hp
 unfold Z8P Z9O
 rw [if_pos hp]
 refine Zi5 p Z17 Z0z hp ?_ (by omega)
 intro k hk
 rw [Zkh, List.getD_eq_getElem?_getD, List.getElem?_eq_getElem hk]
 exact List.all_eq_true.1 hall _ (List.getElem_mem hk)
def Z8g : RunP
 | [.v (.int .i64 p), .f ZdG] => some (prB p && (pts p).all (fun a0 => okV (ZdG [.agg ⟨[.int .i64 a0.1, .int .i64 a0.2]⟩])), Zek (Z5u p (fun a0 => okV (ZdG [.agg ⟨[.int .i64 a0.1, .int .i64 a0.2]⟩])) (fun a0 => ZgC (ZdG [.agg ⟨[.int .i64 a0.1, .int .i64 a0.2]⟩]))))
 | _ => none
theorem Zga : Sound prog 62 Z8g := by
 refine Zm1 Zl7 Zjs (by kernel_rfl) func62 ntmps62 rfl (by kernel_rfl) ?_
 intro W pvs avs rs hargs hrun
 unfold Z8g at hrun
 split at hrun
 ·simp only [Option.some.injEq, Prod.mk.injEq] at hrun
  obtain ⟨hp, rfl⟩ := hrun
  rename_i p ZdG
  have hargs := All2.replace (l1 := [_]) hargs (y := .f (Zbg _ _)) fun b hb => Znj hb (ZpY _)
  exact ⟨_, _, _, hargs, rfl, (ZjG _ p (fun a0 => okV (ZdG [.agg ⟨[.int .i64 a0.1, .int .i64 a0.2]⟩])) (fun a0 => ZgC (ZdG [.agg ⟨[.int .i64 a0.1, .int .i64 a0.2]⟩]))).trans (Ziv p (fun a0 => okV (ZdG [.agg ⟨[.int .i64 a0.1, .int .i64 a0.2]⟩])) (fun a0 => ZgC (ZdG [.agg ⟨[.int .i64 a0.1, .int .i64 a0.2]⟩])) hp)⟩
 ·cases hrun

def ZcD : Sums := ⟨tblS [(41, Z5o), (61, Z67), (62, Z8g), (63, Z68)], tblM [], false, false⟩
theorem ZhB : ZJ prog ZcD := ⟨ZD ⟨⟨call41, Z5N⟩, ⟨call61, Zcv⟩, ⟨call62, Zga⟩, ⟨call63, Zcw⟩, ⟨⟩⟩, tM⟩
def Z80 (p : Int) (k : Int × Int × Int × Int × Int × Int) : Option ((Nat × List Int) × Int) :=
 (if ((true) || !(Zo p)) = true then (if ((Zt p (true) (Z1Z p k)) != 0) = true then some ((0, []), (Zt p (true) (Z1Z p k))) else (if (prB p && (pts p).all (fun a0 => prB p)) = true then some (((Z5u p (fun a0 => prB p) (fun a0 => Z2n a0 p k)).1, (Z5u p (fun a0 => prB p) (fun a0 => Z2n a0 p k)).2), 0) else none)) else none)
theorem ZhS (p : Int) (k : Int × Int × Int × Int × Int × Int) : eT ZcD 12 16 Zdy [pI p, .v (.agg ⟨[.int .i64 k.1, .int .i64 k.2.1, .int .i64 k.2.2.1, .int .i64 k.2.2.2.1, .int .i64 k.2.2.2.2.1, .int .i64 k.2.2.2.2.2]⟩)] = Z80 p k := by
 kernel_rfl
def Z0r (p : Int) (k : Int × Int × Int × Int × Int × Int) : (Nat × List Int) × Int :=
 (if ((Zt p (true) (Z1Z p k)) != 0) = true then ((0, []), (Zt p (true) (Z1Z p k))) else (((Z5u p (fun a0 => prB p) (fun a0 => Z2n a0 p k)).1, (Z5u p (fun a0 => prB p) (fun a0 => Z2n a0 p k)).2), 0))
theorem Zhn (p : Int) (k : Int × Int × Int × Int × Int × Int) : Z80 p k = some (Z0r p k) := by
 unfold Z80 Z0r
 (try simp only [Z03])
 repeat' (first | with_reducible rfl | refine Z04 (by first | with_reducible rfl | exact Bool.true_or _ | (have hq : prB p = true := (by (with_reducible first | assumption | exact Zbf ‹_› | exact Zc2 ‹_›)); first | exact hq | exact ZqM hq | exact Z8o hq (fun _ => rfl) | exact Z8o hq (fun _ => hq) | exact and3 hq hq hq | exact Z1G hq rfl | exact map3_ok hq) | rfl) ?_ | refine ZS (fun _ => ?_) (fun _ => ?_) | rfl)
def Z7L : RunP
 | [.v (.int .i64 p), .v (.agg ⟨[.int .i64 k0, .int .i64 k1, .int .i64 k2, .int .i64 k3, .int .i64 k4, .int .i64 k5]⟩)] => some (true, ZiW (Z0r p (k0, k1, k2, k3, k4, k5)))
 | _ => none
theorem ZeZ : Sound prog 12 Z7L := by
 refine ZN Zrw ZhB (by kernel_rfl) func12 ntmps12 rfl (by kernel_rfl) fun q r E => ?_
 unfold Z7L at E
 split at E
 ·obtain ⟨hp, rfl⟩ := so2 E
  rename_i p k0 k1 k2 k3 k4 k5
  exact ⟨_, _, rfl, (ZhS p (k0, k1, k2, k3, k4, k5)).trans (Zhn p (k0, k1, k2, k3, k4, k5))⟩
 ·cases E

def Zna : Sums := ⟨tblS [(122, Z5p)], tblM [], false, false⟩
theorem Zrr : ZJ prog Zna := ⟨ZD ⟨⟨call122, Z5O⟩, ⟨⟩⟩, tM⟩
def Zfr (p : Int) (k : Int × Int × Int × Int × Int × Int) : Option (Bool) :=
 (if (!(Z0N k.1 0 (wI (p - 1)))) = true then some false else (if (!(Z0N k.2.1 0 (wI (p - 1)))) = true then some false else (if (!(Z0N k.2.2.1 0 (wI (p - 1)))) = true then some false else (if (!(Z0N k.2.2.2.1 0 (wI (p - 1)))) = true then some false else (if (!(Z0N k.2.2.2.2.1 0 (wI (p - 1)))) = true then some false else (if (!(Z0N k.2.2.2.2.2 0 (wI (p - 1)))) = true then some false else (if (k.1 != 0) = true then some (k.1 == 1) else (if (k.2.1 != 0) = true then some (k.2.1 == 1) else (if (k.2.2.1 != 0) = true then some (k.2.2.1 == 1) else some false)))))))))
theorem ZrE (p : Int) (k : Int × Int × Int × Int × Int × Int) : eT Zna 108 30 Z0o [pI p, .v (.agg ⟨[.int .i64 k.1, .int .i64 k.2.1, .int .i64 k.2.2.1, .int .i64 k.2.2.2.1, .int .i64 k.2.2.2.2.1, .int .i64 k.2.2.2.2.2]⟩)] = Zfr p k := by
 kernel_rfl
def ZaC (p : Int) (k : Int × Int × Int × Int × Int × Int) : Bool :=
 (if (!(Z0N k.1 0 (wrap64 (p - 1)))) = true then false else (if (!(Z0N k.2.1 0 (wrap64 (p - 1)))) = true then false else (if (!(Z0N k.2.2.1 0 (wrap64 (p - 1)))) = true then false else (if (!(Z0N k.2.2.2.1 0 (wrap64 (p - 1)))) = true then false else (if (!(Z0N k.2.2.2.2.1 0 (wrap64 (p - 1)))) = true then false else (if (!(Z0N k.2.2.2.2.2 0 (wrap64 (p - 1)))) = true then false else (if (k.1 != 0) = true then k.1 == 1 else (if (k.2.1 != 0) = true then k.2.1 == 1 else (if (k.2.2.1 != 0) = true then k.2.2.1 == 1 else false)))))))))
theorem Zrf (p : Int) (k : Int × Int × Int × Int × Int × Int) : Zfr p k = some (ZaC p k) := by
 unfold Zfr ZaC
 (try simp only [Z03])
 repeat' (first | with_reducible rfl | refine ZS (fun _ => ?_) (fun _ => ?_) | rfl)
def ZdW : RunP
 | [.v (.int .i64 p), .v (.agg ⟨[.int .i64 k0, .int .i64 k1, .int .i64 k2, .int .i64 k3, .int .i64 k4, .int .i64 k5]⟩)] => some (true, Z4Q (ZaC p (k0, k1, k2, k3, k4, k5)))
 | _ => none
theorem ZmL : Sound prog 108 ZdW := by
 refine ZN Z7T Zrr (by kernel_rfl) func108 ntmps108 rfl (by kernel_rfl) fun q r E => ?_
 unfold ZdW at E
 split at E
 ·obtain ⟨hp, rfl⟩ := so2 E
  rename_i p k0 k1 k2 k3 k4 k5
  exact ⟨_, _, rfl, (ZrE p (k0, k1, k2, k3, k4, k5)).trans (Zrf p (k0, k1, k2, k3, k4, k5))⟩
 ·cases E

def Z8l (p : Int) (k : Int × Int × Int × Int × Int × Int) : Int :=
 (if (!(Z0a p)) = true then 1 else (if (!(ZaC p k)) = true then 2 else 0))
theorem ZqH {p : Int} {k : P6} (h : ¬ (Z8l p k != 0) = true) : prB p = true := by
 refine Z9R (Zx ?_)
 have h : Z8l p k = 0 := by simpa using h
 cases hf : Zo p
 ·simp [Z8l, Z0a, hf] at h
 ·rfl
def Z6M (p : Int) (k : Int × Int × Int × Int × Int × Int) : (Nat × List Int) × Int :=
 (if ((Z8l p k) != 0) = true then ((0, []), (Z8l p k)) else (((Z5r p k).1, (Z5r p k).2), 0))
def ZiD : Sums := ⟨tblS [(106, Z8r), (43, Z8s)], tblM [], false, false⟩
theorem ZnT : ZJ prog ZiD := ⟨ZD ⟨⟨call106, ZcO⟩, ⟨call43, ZcP⟩, ⟨⟩⟩, tM⟩
def ZbG (p : Int) (k : Int × Int × Int × Int × Int × Int) : Option (Bool × Int) :=
 (if (!(Zo p)) = true then some (false, 1) else some ((Z0Z p k), 0))
theorem Zot (p : Int) (k : Int × Int × Int × Int × Int × Int) : eT ZiD 36 12 Zkl [pI p, .v (.agg ⟨[.int .i64 k.1, .int .i64 k.2.1, .int .i64 k.2.2.1, .int .i64 k.2.2.2.1, .int .i64 k.2.2.2.2.1, .int .i64 k.2.2.2.2.2]⟩)] = ZbG p k := by
 kernel_rfl
def Z6l (p : Int) (k : Int × Int × Int × Int × Int × Int) : Bool × Int :=
 (if (!(Zo p)) = true then (false, 1) else ((Z0Z p k), 0))
theorem ZmO (p : Int) (k : Int × Int × Int × Int × Int × Int) : ZbG p k = some (Z6l p k) := by
 unfold ZbG Z6l
 (try simp only [Z03])
 repeat' (first | with_reducible rfl | refine ZS (fun _ => ?_) (fun _ => ?_) | rfl)
def Zb0 : RunP
 | [.v (.int .i64 p), .v (.agg ⟨[.int .i64 k0, .int .i64 k1, .int .i64 k2, .int .i64 k3, .int .i64 k4, .int .i64 k5]⟩)] => some (true, Zon (Z6l p (k0, k1, k2, k3, k4, k5)))
 | _ => none
theorem ZjT : Sound prog 36 Zb0 := by
 refine ZN ZuB ZnT (by kernel_rfl) func36 ntmps36 rfl (by kernel_rfl) fun q r E => ?_
 unfold Zb0 at E
 split at E
 ·obtain ⟨hp, rfl⟩ := so2 E
  rename_i p k0 k1 k2 k3 k4 k5
  exact ⟨_, _, rfl, (Zot p (k0, k1, k2, k3, k4, k5)).trans (ZmO p (k0, k1, k2, k3, k4, k5))⟩
 ·cases E

def ZiJ : Sums := ⟨tblS [(107, Z5g), (108, ZdW)], tblM [], false, false⟩
theorem Zo0 : ZJ prog ZiJ := ⟨ZD ⟨⟨call107, Z6r⟩, ⟨call108, ZmL⟩, ⟨⟩⟩, tM⟩
def ZbM (p : Int) (k : Int × Int × Int × Int × Int × Int) : Option (Bool × Int) :=
 (if (!(Z0a p)) = true then some (false, 1) else some ((ZaC p k), 0))
theorem ZoA (p : Int) (k : Int × Int × Int × Int × Int × Int) : eT ZiJ 37 12 Zkl [pI p, .v (.agg ⟨[.int .i64 k.1, .int .i64 k.2.1, .int .i64 k.2.2.1, .int .i64 k.2.2.2.1, .int .i64 k.2.2.2.2.1, .int .i64 k.2.2.2.2.2]⟩)] = ZbM p k := by
 kernel_rfl
def Z9s (p : Int) (k : Int × Int × Int × Int × Int × Int) : Bool × Int :=
 (if (!(Z0a p)) = true then (false, 1) else ((ZaC p k), 0))
theorem ZmV (p : Int) (k : Int × Int × Int × Int × Int × Int) : ZbM p k = some (Z9s p k) := by
 unfold ZbM Z9s
 (try simp only [Z03])
 repeat' (first | with_reducible rfl | refine ZS (fun _ => ?_) (fun _ => ?_) | rfl)
def Zb2 : RunP
 | [.v (.int .i64 p), .v (.agg ⟨[.int .i64 k0, .int .i64 k1, .int .i64 k2, .int .i64 k3, .int .i64 k4, .int .i64 k5]⟩)] => some (true, Zon (Z9s p (k0, k1, k2, k3, k4, k5)))
 | _ => none
theorem ZjV : Sound prog 37 Zb2 := by
 refine ZN ZuB Zo0 (by kernel_rfl) func37 ntmps37 rfl (by kernel_rfl) fun q r E => ?_
 unfold Zb2 at E
 split at E
 ·obtain ⟨hp, rfl⟩ := so2 E
  rename_i p k0 k1 k2 k3 k4 k5
  exact ⟨_, _, rfl, (ZoA p (k0, k1, k2, k3, k4, k5)).trans (ZmV p (k0, k1, k2, k3, k4, k5))⟩
 ·cases E

def Z6F : Sums := ⟨tblS [], tblM [], false, false⟩
theorem ZkH : ZJ prog Z6F := ⟨ZD ⟨⟩, tM⟩
def ZjA (Zi : Nat) (listl : List Int) (a : P2) (i : Int) : Tab := ⟨[.row 0, .val (.agg ⟨[.int .i64 a.1, .int .i64 a.2]⟩), jK, .ptr 12 0, vB (false), vI (i), ] ++ (jN 11 ++ [jK]), [(0, .ros Zi (.ints listl)), (12, .box 27 [vI (a.1), vI (a.2)])]⟩
def Z4J (P : Program) (fu Zi : Nat) (listl : List Int) (a : P2) (f : Nat) (i : Int) : Option (Bool) := ZH (exec P Z6F 18 (fun _ => fu + 100) (Code.sub [1, 0, 1, 0, 0] (Zb P 24))) f (ZjA Zi listl a i) (Zc 0 (kSeq (fun Zp => exec P Z6F 18 (fun _ => fu + 100) (Code.sub [1, 1] (Zb P 24)) Zp (finT P 24 Z0o)) (finT P 24 Z0o)))
def Z4C (Zi : Nat) (listl : List Int) (a : P2) (ZE : Int -> Option (Bool)) (i : Int) : Option (Bool) :=
 (if (decide (i < ((Zi : Nat) : Int))) = true then (if (decide (0 <= i) && decide (i < ((Zi : Nat) : Int))) = true then (if (Nat.ble (i.toNat * 2 + 2) listl.length) = true then (if ((listl.getD (i.toNat * 2 + 0) 0, listl.getD (i.toNat * 2 + 1) 0) == a) = true then some true else ZE (wI (i + 1))) else none) else none) else some false)
def Z3S (fu Zi : Nat) (listl : List Int) (a : P2) : Nat -> Int -> Option (Bool)
 | 0, _ => none
 | f + 1, i => Z4C Zi listl a (Z3S fu Zi listl a f) i
theorem ZfZ (fu Zi : Nat) (listl : List Int) (a : P2) : ∀ (f : Nat) (i : Int), Z4J prog fu Zi listl a f i = Z3S fu Zi listl a f i := by
 intro f
 induction f with
 | zero => intros; rfl
 | succ f ih =>
  intro i
  have h1 : Z4J prog fu Zi listl a (f + 1) i = Z4C Zi listl a (Z4J prog fu Zi listl a f) i := by kernel_rfl
  have h2 : Z4J prog fu Zi listl a f = Z3S fu Zi listl a f := by funext i; exact ih i
  rw [h1, h2]
  rfl
def ZaR (Zi : Nat) (listl : List Int) (a : P2) (lo0 : Int -> Option (Bool)) : Option (Bool) :=
 lo0 0
def Z9H (fu Zi : Nat) (listl : List Int) (a : P2) : Option (Bool) := ZaR Zi listl a (Z3S fu Zi listl a (fu + 100))
theorem Zlm (fu Zi : Nat) (listl : List Int) (a : P2) : eF fu Z6F 24 18 Z0o [.s Zi (.ints listl), pA a] = Z9H fu Zi listl a := by
 have h1 : eF fu Z6F 24 18 Z0o [.s Zi (.ints listl), pA a] = ZaR Zi listl a (Z4J prog fu Zi listl a (fu + 100)) := by kernel_rfl
 have c0 : Z4J prog fu Zi listl a (fu + 100) = Z3S fu Zi listl a (fu + 100) := by funext i; exact ZfZ fu Zi listl a (fu + 100) i
 rw [h1, c0]
 rfl
theorem Zrs (n : Nat) (l : List Int) (g : P2 -> Bool) : (Z06 n l).all g = (List.range n).all fun k => g (R2 l k) := ZhP n l g
def Z46 (Zi : Nat) (listl : List Int) (a : P2) : Bool := (Z06 Zi listl).any (fun z => z == a)
theorem Zka (Zi : Nat) (listl : List Int) (a : P2) (hp : (lenB Zi 2 listl) = true) : Z9H Zi Zi listl a = some (Z46 Zi listl a) := by
 obtain ⟨hl, hn⟩ := Z53 hp
 have hl0 := hl
 unfold Z9H ZaR Z46
 have h := scan (L := fun f i => Z3S Zi Zi listl a f i) (n := Zi) (q := fun k => !(R2 listl k == a)) (bad := true) (good := false) (F := Zi + 100) (by omega)
  (fun f k hk => by
   show Z4C Zi listl a (Z3S Zi Zi listl a f) (k : Int) = _
   unfold Z4C
   rw [if_pos (cnd hk), if_pos (cnd2 hk), Int.toNat_natCast, if_pos (Zta hl hk), Z2o hk (by omega), Bool.not_not]
   try rfl)
  (fun f => by
   show Z4C Zi listl a _ ((Zi : Nat) : Int) = _
   unfold Z4C
   rw [if_neg (by simp)])
 rw [<- Zrs Zi listl (fun z => !(z == a))] at h
 refine h.trans ?_
 rw [List.any_eq_not_all_not]
 cases ((Z06 Zi listl).all fun z => !(z == a)) <;> rfl
def Z92 : RunP
 | [.s Zi (.ints listl), .v (.agg ⟨[.int .i64 a0, .int .i64 a1]⟩)] => some (lenB Zi 2 listl, Z4Q (Z46 Zi listl (a0, a1)))
 | _ => none
theorem Zhh : Sound prog 24 Z92 := by
 refine ZN Z7T ZkH (by kernel_rfl) func24 ntmps24 rfl (by kernel_rfl) fun q r E => ?_
 unfold Z92 at E
 split at E
 ·obtain ⟨hp, rfl⟩ := so2 E
  rename_i Zi listl a0 a1
  exact ⟨_, _, rfl, (Zlm _ Zi listl (a0, a1)).trans (Zka Zi listl (a0, a1) hp)⟩
 ·cases E

end

end Go.Proofs.Ytfclaacaphpoaaa
