import Derived.Test.YtcdpfpfbilfpoaaGreatDoorFa
import Derived.Test.YtcdpfpfbilfpoaaGreatDoorProg
set_option linter.unusedSimpArgs false
set_option linter.unusedVariables false
namespace Go.Proofs.YtcdpfpfbilfpoaaGreatDoor
open Go.RowKit Tryz
noncomputable section
def Zgt : Sums := ⟨tblS [(115, Z20), (116, Z64)], tblM [], false⟩
theorem Zo4 : Ze prog Zgt := ⟨Za ⟨⟨call115, Z28⟩, ⟨call116, Z9F⟩, ⟨⟩⟩, tM⟩
def Zab (p Z0 : Int) (a b c : P2) : Option (P2 × Int) :=
 (if ((Zk p Z0 a b c) != 0) = true then some ((0, 0), (Zk p Z0 a b c)) else (if (prB p) = true then some ((Z0R p Z0 a b c), 0) else none))
theorem Zoa (p Z0 : Int) (a b c : P2) : eT Zgt 60 29 Z57 [pI p, pI Z0, pA a, pA b, pA c] = Zab p Z0 a b c := by
 kernel_rfl
def Z4d (p Z0 : Int) (a b c : P2) : P2 × Int :=
 (if ((Zk p Z0 a b c) != 0) = true then ((0, 0), (Zk p Z0 a b c)) else ((Z0R p Z0 a b c), 0))
theorem Znz (p Z0 : Int) (a b c : P2) : Zab p Z0 a b c = some (Z4d p Z0 a b c) := by
 unfold Zab Z4d
 (try simp only [Zz])
 repeat' (first | with_reducible rfl | refine Zv (by (with_reducible first | assumption | exact Z3B ‹_› | exact Z3l ‹_›)) ?_ | refine Zm (fun _ => ?_) (fun _ => ?_) | rfl)
def Z9t : RunP
 | [.v (.int .i64 p), .v (.int .i64 Z0), .v (.agg ⟨[.int .i64 a0, .int .i64 a1]⟩), .v (.agg ⟨[.int .i64 b0, .int .i64 b1]⟩), .v (.agg ⟨[.int .i64 c0, .int .i64 c1]⟩)] => some (true, Z5Y (Z4d p Z0 (a0, a1) (b0, b1) (c0, c1)))
 | _ => none
theorem ZkK : Sound prog 60 Z9t := by
 refine Zd Z8W Zo4 (by kernel_rfl) func60 ntmps60 rfl (by kernel_rfl) fun q r E => ?_
 unfold Z9t at E
 split at E
 ·obtain ⟨hp, rfl⟩ := so2 E
  rename_i p Z0 a0 a1 b0 b1 c0 c1
  exact ⟨_, _, rfl, (Zoa p Z0 (a0, a1) (b0, b1) (c0, c1)).trans (Znz p Z0 (a0, a1) (b0, b1) (c0, c1))⟩
 ·cases E

def Zgw : Sums := ⟨tblS [(185, Z26), (186, Z2M)], tblM [], false⟩
theorem Zo7 : Ze prog Zgw := ⟨Za ⟨⟨call185, Z23⟩, ⟨call186, Z4S⟩, ⟨⟩⟩, tM⟩
def Zae (p Z0 : Int) (a b c : P2) : Option (P2 × Int) :=
 (if ((ZQ p Z0 a b c) != 0) = true then some ((0, 0), (ZQ p Z0 a b c)) else (if (prB p) = true then some ((Zb p Z0 a b c), 0) else none))
theorem Zod (p Z0 : Int) (a b c : P2) : eT Zgw 149 29 Z57 [pI p, pI Z0, pA a, pA b, pA c] = Zae p Z0 a b c := by
 kernel_rfl
def Z0E (p Z0 : Int) (a b c : P2) : P2 × Int :=
 (if ((ZQ p Z0 a b c) != 0) = true then ((0, 0), (ZQ p Z0 a b c)) else ((Zb p Z0 a b c), 0))
theorem ZnC (p Z0 : Int) (a b c : P2) : Zae p Z0 a b c = some (Z0E p Z0 a b c) := by
 unfold Zae Z0E
 (try simp only [Zz])
 repeat' (first | with_reducible rfl | refine Zv (by (with_reducible first | assumption | exact Z4I ‹_› | exact Z3t ‹_›)) ?_ | refine Zm (fun _ => ?_) (fun _ => ?_) | rfl)
def Z9x : RunP
 | [.v (.int .i64 p), .v (.int .i64 Z0), .v (.agg ⟨[.int .i64 a0, .int .i64 a1]⟩), .v (.agg ⟨[.int .i64 b0, .int .i64 b1]⟩), .v (.agg ⟨[.int .i64 c0, .int .i64 c1]⟩)] => some (true, Z5Y (Z0E p Z0 (a0, a1) (b0, b1) (c0, c1)))
 | _ => none
theorem ZkN : Sound prog 149 Z9x := by
 refine Zd Z8W Zo7 (by kernel_rfl) func149 ntmps149 rfl (by kernel_rfl) fun q r E => ?_
 unfold Z9x at E
 split at E
 ·obtain ⟨hp, rfl⟩ := so2 E
  rename_i p Z0 a0 a1 b0 b1 c0 c1
  exact ⟨_, _, rfl, (Zod p Z0 (a0, a1) (b0, b1) (c0, c1)).trans (ZnC p Z0 (a0, a1) (b0, b1) (c0, c1))⟩
 ·cases E

def Zhu : Sums := ⟨tblS [(115, Z20), (117, Z6U)], tblM [], false⟩
theorem Zpy : Ze prog Zhu := ⟨Za ⟨⟨call115, Z28⟩, ⟨call117, Zaw⟩, ⟨⟩⟩, tM⟩
def Zb6 (p Z0 : Int) (a b c : P2) : Option (P2 × Int) :=
 (if ((Zk p Z0 a b c) != 0) = true then some ((0, 0), (Zk p Z0 a b c)) else (if (prB p) = true then some ((Z0i p Z0 a b c), 0) else none))
theorem ZpW (p Z0 : Int) (a b c : P2) : eT Zhu 61 29 Z57 [pI p, pI Z0, pA a, pA b, pA c] = Zb6 p Z0 a b c := by
 kernel_rfl
def Z4Y (p Z0 : Int) (a b c : P2) : P2 × Int :=
 (if ((Zk p Z0 a b c) != 0) = true then ((0, 0), (Zk p Z0 a b c)) else ((Z0i p Z0 a b c), 0))
theorem ZoM (p Z0 : Int) (a b c : P2) : Zb6 p Z0 a b c = some (Z4Y p Z0 a b c) := by
 unfold Zb6 Z4Y
 (try simp only [Zz])
 repeat' (first | with_reducible rfl | refine Zv (by (with_reducible first | assumption | exact Z3B ‹_› | exact Z3l ‹_›)) ?_ | refine Zm (fun _ => ?_) (fun _ => ?_) | rfl)
def Zao : RunP
 | [.v (.int .i64 p), .v (.int .i64 Z0), .v (.agg ⟨[.int .i64 a0, .int .i64 a1]⟩), .v (.agg ⟨[.int .i64 b0, .int .i64 b1]⟩), .v (.agg ⟨[.int .i64 c0, .int .i64 c1]⟩)] => some (true, Z5Y (Z4Y p Z0 (a0, a1) (b0, b1) (c0, c1)))
 | _ => none
theorem ZlI : Sound prog 61 Zao := by
 refine Zd Z8W Zpy (by kernel_rfl) func61 ntmps61 rfl (by kernel_rfl) fun q r E => ?_
 unfold Zao at E
 split at E
 ·obtain ⟨hp, rfl⟩ := so2 E
  rename_i p Z0 a0 a1 b0 b1 c0 c1
  exact ⟨_, _, rfl, (ZpW p Z0 (a0, a1) (b0, b1) (c0, c1)).trans (ZoM p Z0 (a0, a1) (b0, b1) (c0, c1))⟩
 ·cases E

def Zhz : Sums := ⟨tblS [(185, Z26), (187, Z3f)], tblM [], false⟩
theorem ZpE : Ze prog Zhz := ⟨Za ⟨⟨call185, Z23⟩, ⟨call187, Z5h⟩, ⟨⟩⟩, tM⟩
def Zbc (p Z0 : Int) (a b c : P2) : Option (P2 × Int) :=
 (if ((ZQ p Z0 a b c) != 0) = true then some ((0, 0), (ZQ p Z0 a b c)) else (if (prB p) = true then some ((Zc p Z0 a b c), 0) else none))
theorem Zq2 (p Z0 : Int) (a b c : P2) : eT Zhz 150 29 Z57 [pI p, pI Z0, pA a, pA b, pA c] = Zbc p Z0 a b c := by
 kernel_rfl
def Z0N (p Z0 : Int) (a b c : P2) : P2 × Int :=
 (if ((ZQ p Z0 a b c) != 0) = true then ((0, 0), (ZQ p Z0 a b c)) else ((Zc p Z0 a b c), 0))
theorem ZoS (p Z0 : Int) (a b c : P2) : Zbc p Z0 a b c = some (Z0N p Z0 a b c) := by
 unfold Zbc Z0N
 (try simp only [Zz])
 repeat' (first | with_reducible rfl | refine Zv (by (with_reducible first | assumption | exact Z4I ‹_› | exact Z3t ‹_›)) ?_ | refine Zm (fun _ => ?_) (fun _ => ?_) | rfl)
def Zat : RunP
 | [.v (.int .i64 p), .v (.int .i64 Z0), .v (.agg ⟨[.int .i64 a0, .int .i64 a1]⟩), .v (.agg ⟨[.int .i64 b0, .int .i64 b1]⟩), .v (.agg ⟨[.int .i64 c0, .int .i64 c1]⟩)] => some (true, Z5Y (Z0N p Z0 (a0, a1) (b0, b1) (c0, c1)))
 | _ => none
theorem ZlN : Sound prog 150 Zat := by
 refine Zd Z8W ZpE (by kernel_rfl) func150 ntmps150 rfl (by kernel_rfl) fun q r E => ?_
 unfold Zat at E
 split at E
 ·obtain ⟨hp, rfl⟩ := so2 E
  rename_i p Z0 a0 a1 b0 b1 c0 c1
  exact ⟨_, _, rfl, (Zq2 p Z0 (a0, a1) (b0, b1) (c0, c1)).trans (ZoS p Z0 (a0, a1) (b0, b1) (c0, c1))⟩
 ·cases E

def ZkV : Sums := ⟨tblS [(115, Z20), (117, Z6U), (116, Z64), (110, Z2K)], tblM [], false⟩
theorem ZtT : Ze prog ZkV := ⟨Za ⟨⟨call115, Z28⟩, ⟨call117, Zaw⟩, ⟨call116, Z9F⟩, ⟨call110, Z3F⟩, ⟨⟩⟩, tM⟩
def ZcU (p Z0 : Int) (a b c : P2) : Option (P3 × Int) :=
 (if ((Zk p Z0 a b c) != 0) = true then some ((0, 0, 0), (Zk p Z0 a b c)) else (if (prB p) = true then (if (prB p) = true then (if ((Z0i p Z0 a b c) == (Z0R p Z0 a b c)) = true then some ((0, 0, 0), 5) else (if (prB p) = true then some ((Zr p (Z0i p Z0 a b c) (Z0R p Z0 a b c)), 0) else none)) else none) else none))
theorem Zuy (p Z0 : Int) (a b c : P2) : eT ZkV 82 45 Z8g [pI p, pI Z0, pA a, pA b, pA c] = ZcU p Z0 a b c := by
 kernel_rfl
def ZI (p Z0 : Int) (a b c : P2) : P3 × Int :=
 (if ((Zk p Z0 a b c) != 0) = true then ((0, 0, 0), (Zk p Z0 a b c)) else (if ((Z0i p Z0 a b c) == (Z0R p Z0 a b c)) = true then ((0, 0, 0), 5) else ((Zr p (Z0i p Z0 a b c) (Z0R p Z0 a b c)), 0)))
theorem Zti (p Z0 : Int) (a b c : P2) : ZcU p Z0 a b c = some (ZI p Z0 a b c) := by
 unfold ZcU ZI
 (try simp only [Zz])
 repeat' (first | with_reducible rfl | refine Zv (by (with_reducible first | assumption | exact Z3B ‹_› | exact Z3l ‹_›)) ?_ | refine Zm (fun _ => ?_) (fun _ => ?_) | rfl)
def Z8X : RunP
 | [.v (.int .i64 p), .v (.int .i64 Z0), .v (.agg ⟨[.int .i64 a0, .int .i64 a1]⟩), .v (.agg ⟨[.int .i64 b0, .int .i64 b1]⟩), .v (.agg ⟨[.int .i64 c0, .int .i64 c1]⟩)] => some (true, Z9j (ZI p Z0 (a0, a1) (b0, b1) (c0, c1)))
 | _ => none
theorem ZfD : Sound prog 82 Z8X := by
 refine Zd ZdY ZtT (by kernel_rfl) func82 ntmps82 rfl (by kernel_rfl) fun q r E => ?_
 unfold Z8X at E
 split at E
 ·obtain ⟨hp, rfl⟩ := so2 E
  rename_i p Z0 a0 a1 b0 b1 c0 c1
  exact ⟨_, _, rfl, (Zuy p Z0 (a0, a1) (b0, b1) (c0, c1)).trans (Zti p Z0 (a0, a1) (b0, b1) (c0, c1))⟩
 ·cases E

def Zlb : Sums := ⟨tblS [(185, Z26), (187, Z3f), (186, Z2M), (181, Z4e)], tblM [], false⟩
theorem Zub : Ze prog Zlb := ⟨Za ⟨⟨call185, Z23⟩, ⟨call187, Z5h⟩, ⟨call186, Z4S⟩, ⟨call181, Z67⟩, ⟨⟩⟩, tM⟩
def Zd9 (p Z0 : Int) (a b c : P2) : Option (P3 × Int) :=
 (if ((ZQ p Z0 a b c) != 0) = true then some ((0, 0, 0), (ZQ p Z0 a b c)) else (if (prB p) = true then (if (prB p) = true then (if ((Zc p Z0 a b c) == (Zb p Z0 a b c)) = true then some ((0, 0, 0), 5) else (if (prB p) = true then some ((Zx p (Zc p Z0 a b c) (Zb p Z0 a b c)), 0) else none)) else none) else none))
theorem ZuQ (p Z0 : Int) (a b c : P2) : eT Zlb 238 45 Z8g [pI p, pI Z0, pA a, pA b, pA c] = Zd9 p Z0 a b c := by
 kernel_rfl
def Z0H (p Z0 : Int) (a b c : P2) : P3 × Int :=
 (if ((ZQ p Z0 a b c) != 0) = true then ((0, 0, 0), (ZQ p Z0 a b c)) else (if ((Zc p Z0 a b c) == (Zb p Z0 a b c)) = true then ((0, 0, 0), 5) else ((Zx p (Zc p Z0 a b c) (Zb p Z0 a b c)), 0)))
theorem ZtA (p Z0 : Int) (a b c : P2) : Zd9 p Z0 a b c = some (Z0H p Z0 a b c) := by
 unfold Zd9 Z0H
 (try simp only [Zz])
 repeat' (first | with_reducible rfl | refine Zv (by (with_reducible first | assumption | exact Z4I ‹_› | exact Z3t ‹_›)) ?_ | refine Zm (fun _ => ?_) (fun _ => ?_) | rfl)
def ZcC : RunP
 | [.v (.int .i64 p), .v (.int .i64 Z0), .v (.agg ⟨[.int .i64 a0, .int .i64 a1]⟩), .v (.agg ⟨[.int .i64 b0, .int .i64 b1]⟩), .v (.agg ⟨[.int .i64 c0, .int .i64 c1]⟩)] => some (true, Z9j (Z0H p Z0 (a0, a1) (b0, b1) (c0, c1)))
 | _ => none
theorem ZoF : Sound prog 238 ZcC := by
 refine Zd ZdY Zub (by kernel_rfl) func238 ntmps238 rfl (by kernel_rfl) fun q r E => ?_
 unfold ZcC at E
 split at E
 ·obtain ⟨hp, rfl⟩ := so2 E
  rename_i p Z0 a0 a1 b0 b1 c0 c1
  exact ⟨_, _, rfl, (ZuQ p Z0 (a0, a1) (b0, b1) (c0, c1)).trans (ZtA p Z0 (a0, a1) (b0, b1) (c0, c1))⟩
 ·cases E

def Zfy : Sums := ⟨tblS [(82, Z8X)], tblM [], false⟩
theorem Zmd : Ze prog Zfy := ⟨Za ⟨⟨call82, ZfD⟩, ⟨⟩⟩, tM⟩
def Z96 (p : Int) (a b c : P2) : Option ((Nat × List Int) × Int) :=
 (if (((ZI p 0 a b c).2) != 0) = true then some ((0, []), (ZI p 0 a b c).2) else (if (((ZI p 1 a b c).2) != 0) = true then some ((0, []), (ZI p 1 a b c).2) else (if (((ZI p 2 a b c).2) != 0) = true then some ((0, []), (ZI p 2 a b c).2) else some ((3, [((ZI p 0 a b c).1).1, ((ZI p 0 a b c).1).2.1, ((ZI p 0 a b c).1).2.2, ((ZI p 1 a b c).1).1, ((ZI p 1 a b c).1).2.1, ((ZI p 1 a b c).1).2.2, ((ZI p 2 a b c).1).1, ((ZI p 2 a b c).1).2.1, ((ZI p 2 a b c).1).2.2]), 0))))
theorem ZmL (p : Int) (a b c : P2) : eT Zfy 87 36 Z5o [pI p, pA a, pA b, pA c] = Z96 p a b c := by
 kernel_rfl
def Z3q (p : Int) (a b c : P2) : (Nat × List Int) × Int :=
 (if (((ZI p 0 a b c).2) != 0) = true then ((0, []), (ZI p 0 a b c).2) else (if (((ZI p 1 a b c).2) != 0) = true then ((0, []), (ZI p 1 a b c).2) else (if (((ZI p 2 a b c).2) != 0) = true then ((0, []), (ZI p 2 a b c).2) else ((3, [((ZI p 0 a b c).1).1, ((ZI p 0 a b c).1).2.1, ((ZI p 0 a b c).1).2.2, ((ZI p 1 a b c).1).1, ((ZI p 1 a b c).1).2.1, ((ZI p 1 a b c).1).2.2, ((ZI p 2 a b c).1).1, ((ZI p 2 a b c).1).2.1, ((ZI p 2 a b c).1).2.2]), 0))))
theorem ZlS (p : Int) (a b c : P2) : Z96 p a b c = some (Z3q p a b c) := by
 unfold Z96 Z3q
 (try simp only [Zz])
 repeat' (first | with_reducible rfl | refine Zm (fun _ => ?_) (fun _ => ?_) | rfl)
def Z8U : RunP
 | [.v (.int .i64 p), .v (.agg ⟨[.int .i64 a0, .int .i64 a1]⟩), .v (.agg ⟨[.int .i64 b0, .int .i64 b1]⟩), .v (.agg ⟨[.int .i64 c0, .int .i64 c1]⟩)] => some (true, ZbB (Z3q p (a0, a1) (b0, b1) (c0, c1)))
 | _ => none
theorem Zjz : Sound prog 87 Z8U := by
 refine Zd ZgE Zmd (by kernel_rfl) func87 ntmps87 rfl (by kernel_rfl) fun q r E => ?_
 unfold Z8U at E
 split at E
 ·obtain ⟨hp, rfl⟩ := so2 E
  rename_i p a0 a1 b0 b1 c0 c1
  exact ⟨_, _, rfl, (ZmL p (a0, a1) (b0, b1) (c0, c1)).trans (ZlS p (a0, a1) (b0, b1) (c0, c1))⟩
 ·cases E

def Zfz : Sums := ⟨tblS [(185, Z26), (187, Z3f), (186, Z2M), (181, Z4e)], tblM [], false⟩
theorem Zme : Ze prog Zfz := ⟨Za ⟨⟨call185, Z23⟩, ⟨call187, Z5h⟩, ⟨call186, Z4S⟩, ⟨call181, Z67⟩, ⟨⟩⟩, tM⟩
def Z97 (p : Int) (a b c : P2) : Option ((Nat × List Int) × Int) :=
 (if ((ZQ p 0 a b c) != 0) = true then some ((0, []), (ZQ p 0 a b c)) else (if (prB p) = true then (if (prB p) = true then (if ((Zc p 0 a b c) == (Zb p 0 a b c)) = true then some ((0, []), 5) else (if (prB p) = true then (if (prB p) = true then (if (prB p) = true then (if ((Zc p 1 a b c) == (Zb p 1 a b c)) = true then some ((0, []), 5) else (if (prB p) = true then (if (prB p) = true then (if (prB p) = true then (if ((Zc p 2 a b c) == (Zb p 2 a b c)) = true then some ((0, []), 5) else (if (prB p) = true then some ((3, [(Zx p (Zc p 0 a b c) (Zb p 0 a b c)).1, (Zx p (Zc p 0 a b c) (Zb p 0 a b c)).2.1, (Zx p (Zc p 0 a b c) (Zb p 0 a b c)).2.2, (Zx p (Zc p 1 a b c) (Zb p 1 a b c)).1, (Zx p (Zc p 1 a b c) (Zb p 1 a b c)).2.1, (Zx p (Zc p 1 a b c) (Zb p 1 a b c)).2.2, (Zx p (Zc p 2 a b c) (Zb p 2 a b c)).1, (Zx p (Zc p 2 a b c) (Zb p 2 a b c)).2.1, (Zx p (Zc p 2 a b c) (Zb p 2 a b c)).2.2]), 0) else none)) else none) else none) else none)) else none) else none) else none)) else none) else none))
theorem ZmM (p : Int) (a b c : P2) : eT Zfz 240 51 Z5o [pI p, pA a, pA b, pA c] = Z97 p a b c := by
 kernel_rfl
def Z03 (p : Int) (a b c : P2) : (Nat × List Int) × Int :=
 (if ((ZQ p 0 a b c) != 0) = true then ((0, []), (ZQ p 0 a b c)) else (if ((Zc p 0 a b c) == (Zb p 0 a b c)) = true then ((0, []), 5) else (if ((Zc p 1 a b c) == (Zb p 1 a b c)) = true then ((0, []), 5) else (if ((Zc p 2 a b c) == (Zb p 2 a b c)) = true then ((0, []), 5) else ((3, [(Zx p (Zc p 0 a b c) (Zb p 0 a b c)).1, (Zx p (Zc p 0 a b c) (Zb p 0 a b c)).2.1, (Zx p (Zc p 0 a b c) (Zb p 0 a b c)).2.2, (Zx p (Zc p 1 a b c) (Zb p 1 a b c)).1, (Zx p (Zc p 1 a b c) (Zb p 1 a b c)).2.1, (Zx p (Zc p 1 a b c) (Zb p 1 a b c)).2.2, (Zx p (Zc p 2 a b c) (Zb p 2 a b c)).1, (Zx p (Zc p 2 a b c) (Zb p 2 a b c)).2.1, (Zx p (Zc p 2 a b c) (Zb p 2 a b c)).2.2]), 0)))))
theorem ZlT (p : Int) (a b c : P2) : Z97 p a b c = some (Z03 p a b c) := by
 unfold Z97 Z03
 (try simp only [Zz])
 repeat' (first | with_reducible rfl | refine Zv (by (with_reducible first | assumption | exact Z4I ‹_› | exact Z3t ‹_›)) ?_ | refine Zm (fun _ => ?_) (fun _ => ?_) | rfl)
def Z8V : RunP
 | [.v (.int .i64 p), .v (.agg ⟨[.int .i64 a0, .int .i64 a1]⟩), .v (.agg ⟨[.int .i64 b0, .int .i64 b1]⟩), .v (.agg ⟨[.int .i64 c0, .int .i64 c1]⟩)] => some (true, ZbB (Z03 p (a0, a1) (b0, b1) (c0, c1)))
 | _ => none
theorem ZjG : Sound prog 240 Z8V := by
 refine Zd ZgE Zme (by kernel_rfl) func240 ntmps240 rfl (by kernel_rfl) fun q r E => ?_
 unfold Z8V at E
 split at E
 ·obtain ⟨hp, rfl⟩ := so2 E
  rename_i p a0 a1 b0 b1 c0 c1
  exact ⟨_, _, rfl, (ZmM p (a0, a1) (b0, b1) (c0, c1)).trans (ZlT p (a0, a1) (b0, b1) (c0, c1))⟩
 ·cases E

def ZiW : Sums := ⟨tblS [(115, Z20), (110, Z2K), (113, Za2), (114, Zky)], tblM [], false⟩
theorem Zre : Ze prog ZiW := ⟨Za ⟨⟨call115, Z28⟩, ⟨call110, Z3F⟩, ⟨call113, ZcL⟩, ⟨call114, ZsZ⟩, ⟨⟩⟩, tM⟩
def ZbM (p Z0 : Int) (a b c : P2) : Option ((Nat × List Int) × Int) :=
 (if ((Zk p Z0 a b c) != 0) = true then some ((0, []), (Zk p Z0 a b c)) else (if (prB p) = true then (if (prB p) = true then (if (prB p) = true then (if (prB p) = true then (if (Z1Y p Z0 (Zr p b c)) = true then some ((0, []), 5) else (if (prB p) = true then (if (prB p) = true then (if (Z1Y p Z0 (Zr p a c)) = true then some ((0, []), 5) else (if (prB p) = true then (if (prB p) = true then (if (Z1Y p Z0 (Zr p a b)) = true then some ((0, []), 5) else (if (prB p) = true then some ((3, [(Z4H p Z0 a (Zr p b c)).1, (Z4H p Z0 a (Zr p b c)).2, (Z4H p Z0 b (Zr p a c)).1, (Z4H p Z0 b (Zr p a c)).2, (Z4H p Z0 c (Zr p a b)).1, (Z4H p Z0 c (Zr p a b)).2]), 0) else none)) else none) else none)) else none) else none)) else none) else none) else none) else none))
theorem Zs4 (p Z0 : Int) (a b c : P2) : eT ZiW 83 70 Z7N [pI p, pI Z0, pA a, pA b, pA c] = ZbM p Z0 a b c := by
 kernel_rfl
def Z4F (p Z0 : Int) (a b c : P2) : (Nat × List Int) × Int :=
 (if ((Zk p Z0 a b c) != 0) = true then ((0, []), (Zk p Z0 a b c)) else (if (Z1Y p Z0 (Zr p b c)) = true then ((0, []), 5) else (if (Z1Y p Z0 (Zr p a c)) = true then ((0, []), 5) else (if (Z1Y p Z0 (Zr p a b)) = true then ((0, []), 5) else ((3, [(Z4H p Z0 a (Zr p b c)).1, (Z4H p Z0 a (Zr p b c)).2, (Z4H p Z0 b (Zr p a c)).1, (Z4H p Z0 b (Zr p a c)).2, (Z4H p Z0 c (Zr p a b)).1, (Z4H p Z0 c (Zr p a b)).2]), 0)))))
theorem ZqZ (p Z0 : Int) (a b c : P2) : ZbM p Z0 a b c = some (Z4F p Z0 a b c) := by
 unfold ZbM Z4F
 (try simp only [Zz])
 repeat' (first | with_reducible rfl | refine Zv (by (with_reducible first | assumption | exact Z3B ‹_› | exact Z3l ‹_›)) ?_ | refine Zm (fun _ => ?_) (fun _ => ?_) | rfl)
def Zbm : RunP
 | [.v (.int .i64 p), .v (.int .i64 Z0), .v (.agg ⟨[.int .i64 a0, .int .i64 a1]⟩), .v (.agg ⟨[.int .i64 b0, .int .i64 b1]⟩), .v (.agg ⟨[.int .i64 c0, .int .i64 c1]⟩)] => some (true, Z9k (Z4F p Z0 (a0, a1) (b0, b1) (c0, c1)))
 | _ => none
theorem Znn : Sound prog 83 Zbm := by
 refine Zd Zdk Zre (by kernel_rfl) func83 ntmps83 rfl (by kernel_rfl) fun q r E => ?_
 unfold Zbm at E
 split at E
 ·obtain ⟨hp, rfl⟩ := so2 E
  rename_i p Z0 a0 a1 b0 b1 c0 c1
  exact ⟨_, _, rfl, (Zs4 p Z0 (a0, a1) (b0, b1) (c0, c1)).trans (ZqZ p Z0 (a0, a1) (b0, b1) (c0, c1))⟩
 ·cases E

def ZiY : Sums := ⟨tblS [(185, Z26), (181, Z4e), (184, Ze7)], tblM [], false⟩
theorem Zri : Ze prog ZiY := ⟨Za ⟨⟨call185, Z23⟩, ⟨call181, Z67⟩, ⟨call184, Zlu⟩, ⟨⟩⟩, tM⟩
def ZbR (p Z0 : Int) (a b c : P2) : Option ((Nat × List Int) × Int) :=
 (if ((ZQ p Z0 a b c) != 0) = true then some ((0, []), (ZQ p Z0 a b c)) else (if (prB p) = true then (if (prB p) = true then (if (prB p) = true then (if (prB p) = true then (if (!((Z0K p Z0 a (Zx p b c)).2)) = true then some ((0, []), 5) else (if (prB p) = true then (if (!((Z0K p Z0 b (Zx p a c)).2)) = true then some ((0, []), 5) else (if (prB p) = true then (if (!((Z0K p Z0 c (Zx p a b)).2)) = true then some ((0, []), 5) else some ((3, [((Z0K p Z0 a (Zx p b c)).1).1, ((Z0K p Z0 a (Zx p b c)).1).2, ((Z0K p Z0 b (Zx p a c)).1).1, ((Z0K p Z0 b (Zx p a c)).1).2, ((Z0K p Z0 c (Zx p a b)).1).1, ((Z0K p Z0 c (Zx p a b)).1).2]), 0)) else none)) else none)) else none) else none) else none) else none))
theorem Zs8 (p Z0 : Int) (a b c : P2) : eT ZiY 197 71 Z7N [pI p, pI Z0, pA a, pA b, pA c] = ZbR p Z0 a b c := by
 kernel_rfl
def Z0D (p Z0 : Int) (a b c : P2) : (Nat × List Int) × Int :=
 (if ((ZQ p Z0 a b c) != 0) = true then ((0, []), (ZQ p Z0 a b c)) else (if (!((Z0K p Z0 a (Zx p b c)).2)) = true then ((0, []), 5) else (if (!((Z0K p Z0 b (Zx p a c)).2)) = true then ((0, []), 5) else (if (!((Z0K p Z0 c (Zx p a b)).2)) = true then ((0, []), 5) else ((3, [((Z0K p Z0 a (Zx p b c)).1).1, ((Z0K p Z0 a (Zx p b c)).1).2, ((Z0K p Z0 b (Zx p a c)).1).1, ((Z0K p Z0 b (Zx p a c)).1).2, ((Z0K p Z0 c (Zx p a b)).1).1, ((Z0K p Z0 c (Zx p a b)).1).2]), 0)))))
theorem Zr3 (p Z0 : Int) (a b c : P2) : ZbR p Z0 a b c = some (Z0D p Z0 a b c) := by
 unfold ZbR Z0D
 (try simp only [Zz])
 repeat' (first | with_reducible rfl | refine Zv (by (with_reducible first | assumption | exact Z4I ‹_› | exact Z3t ‹_›)) ?_ | refine Zm (fun _ => ?_) (fun _ => ?_) | rfl)
def Zbo : RunP
 | [.v (.int .i64 p), .v (.int .i64 Z0), .v (.agg ⟨[.int .i64 a0, .int .i64 a1]⟩), .v (.agg ⟨[.int .i64 b0, .int .i64 b1]⟩), .v (.agg ⟨[.int .i64 c0, .int .i64 c1]⟩)] => some (true, Z9k (Z0D p Z0 (a0, a1) (b0, b1) (c0, c1)))
 | _ => none
theorem Znq : Sound prog 197 Zbo := by
 refine Zd Zdk Zri (by kernel_rfl) func197 ntmps197 rfl (by kernel_rfl) fun q r E => ?_
 unfold Zbo at E
 split at E
 ·obtain ⟨hp, rfl⟩ := so2 E
  rename_i p Z0 a0 a1 b0 b1 c0 c1
  exact ⟨_, _, rfl, (Zs8 p Z0 (a0, a1) (b0, b1) (c0, c1)).trans (Zr3 p Z0 (a0, a1) (b0, b1) (c0, c1))⟩
 ·cases E

def Zmg : Sums := ⟨tblS [(115, Z20), (138, Zco)], tblM [], false⟩
theorem ZwW : Ze prog Zmg := ⟨Za ⟨⟨call115, Z28⟩, ⟨call138, ZjA⟩, ⟨⟩⟩, tM⟩
def ZeJ (p Z0 : Int) (a b c : P2) : Option (P3 × Int) :=
 (if ((Zk p Z0 a b c) != 0) = true then some ((0, 0, 0), (Zk p Z0 a b c)) else (if (prB p) = true then some ((Z61 p Z0 a b c), 0) else none))
theorem ZxA (p Z0 : Int) (a b c : P2) : eT Zmg 81 29 Z8g [pI p, pI Z0, pA a, pA b, pA c] = ZeJ p Z0 a b c := by
 kernel_rfl
def Z9T (p Z0 : Int) (a b c : P2) : P3 × Int :=
 (if ((Zk p Z0 a b c) != 0) = true then ((0, 0, 0), (Zk p Z0 a b c)) else ((Z61 p Z0 a b c), 0))
theorem ZvJ (p Z0 : Int) (a b c : P2) : ZeJ p Z0 a b c = some (Z9T p Z0 a b c) := by
 unfold ZeJ Z9T
 (try simp only [Zz])
 repeat' (first | with_reducible rfl | refine Zv (by (with_reducible first | assumption | exact Z3B ‹_› | exact Z3l ‹_›)) ?_ | refine Zm (fun _ => ?_) (fun _ => ?_) | rfl)
def Zdw : RunP
 | [.v (.int .i64 p), .v (.int .i64 Z0), .v (.agg ⟨[.int .i64 a0, .int .i64 a1]⟩), .v (.agg ⟨[.int .i64 b0, .int .i64 b1]⟩), .v (.agg ⟨[.int .i64 c0, .int .i64 c1]⟩)] => some (true, Z9j (Z9T p Z0 (a0, a1) (b0, b1) (c0, c1)))
 | _ => none
theorem ZqD : Sound prog 81 Zdw := by
 refine Zd ZdY ZwW (by kernel_rfl) func81 ntmps81 rfl (by kernel_rfl) fun q r E => ?_
 unfold Zdw at E
 split at E
 ·obtain ⟨hp, rfl⟩ := so2 E
  rename_i p Z0 a0 a1 b0 b1 c0 c1
  exact ⟨_, _, rfl, (ZxA p Z0 (a0, a1) (b0, b1) (c0, c1)).trans (ZvJ p Z0 (a0, a1) (b0, b1) (c0, c1))⟩
 ·cases E

def Zmo : Sums := ⟨tblS [(185, Z26), (229, Z91)], tblM [], false⟩
theorem Zx8 : Ze prog Zmo := ⟨Za ⟨⟨call185, Z23⟩, ⟨call229, ZfH⟩, ⟨⟩⟩, tM⟩
def ZeT (p Z0 : Int) (a b c : P2) : Option (P3 × Int) :=
 (if ((ZQ p Z0 a b c) != 0) = true then some ((0, 0, 0), (ZQ p Z0 a b c)) else (if (prB p) = true then some ((Z2u p Z0 a b c), 0) else none))
theorem ZxM (p Z0 : Int) (a b c : P2) : eT Zmo 237 29 Z8g [pI p, pI Z0, pA a, pA b, pA c] = ZeT p Z0 a b c := by
 kernel_rfl
def Z1e (p Z0 : Int) (a b c : P2) : P3 × Int :=
 (if ((ZQ p Z0 a b c) != 0) = true then ((0, 0, 0), (ZQ p Z0 a b c)) else ((Z2u p Z0 a b c), 0))
theorem ZvV (p Z0 : Int) (a b c : P2) : ZeT p Z0 a b c = some (Z1e p Z0 a b c) := by
 unfold ZeT Z1e
 (try simp only [Zz])
 repeat' (first | with_reducible rfl | refine Zv (by (with_reducible first | assumption | exact Z4I ‹_› | exact Z3t ‹_›)) ?_ | refine Zm (fun _ => ?_) (fun _ => ?_) | rfl)
def ZdG : RunP
 | [.v (.int .i64 p), .v (.int .i64 Z0), .v (.agg ⟨[.int .i64 a0, .int .i64 a1]⟩), .v (.agg ⟨[.int .i64 b0, .int .i64 b1]⟩), .v (.agg ⟨[.int .i64 c0, .int .i64 c1]⟩)] => some (true, Z9j (Z1e p Z0 (a0, a1) (b0, b1) (c0, c1)))
 | _ => none
theorem ZqM : Sound prog 237 ZdG := by
 refine Zd ZdY Zx8 (by kernel_rfl) func237 ntmps237 rfl (by kernel_rfl) fun q r E => ?_
 unfold ZdG at E
 split at E
 ·obtain ⟨hp, rfl⟩ := so2 E
  rename_i p Z0 a0 a1 b0 b1 c0 c1
  exact ⟨_, _, rfl, (ZxM p Z0 (a0, a1) (b0, b1) (c0, c1)).trans (ZvV p Z0 (a0, a1) (b0, b1) (c0, c1))⟩
 ·cases E

end

end Go.Proofs.YtcdpfpfbilfpoaaGreatDoor
