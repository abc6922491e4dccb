import Derived.Test.YtfclaacaphpoaaaFa
import Derived.Test.YtfclaacaphpoaaaProg
set_option linter.unusedSimpArgs false
set_option linter.unusedVariables false
namespace Go.Proofs.Ytfclaacaphpoaaa
open Go.RowKit Try
noncomputable section
def Zak : Sums := ⟨tblS [(98, Z69), (44, Z6K), (71, Z9k)], tblM [], false, false⟩
theorem Zft : ZJ prog Zak := ⟨ZD ⟨⟨call98, Z8m⟩, ⟨call44, Z98⟩, ⟨call71, Ze4⟩, ⟨⟩⟩, tM⟩
def Z73 (c0 c1 : Int) (c2 : P2) (c3 : P3) : Option (Bool) :=
 (if (Z0P c0) = true then (if (ZI c1 c2) = true then some (Z0S c1 c3) else some false) else some false)
theorem ZfM (c0 c1 : Int) (c2 : P2) (c3 : P3) : eT Zak 97 17 Z0o [.p [.int .i64 c0], .p [.int .i64 c1], .p [.int .i64 c2.1, .int .i64 c2.2], .p [.int .i64 c3.1, .int .i64 c3.2.1, .int .i64 c3.2.2]] = Z73 c0 c1 c2 c3 := by
 kernel_rfl
def Z0x (c0 c1 : Int) (c2 : P2) (c3 : P3) : Bool :=
 (if (Z0P c0) = true then (if (ZI c1 c2) = true then (Z0S c1 c3) else false) else false)
theorem Zf2 (c0 c1 : Int) (c2 : P2) (c3 : P3) : Z73 c0 c1 c2 c3 = some (Z0x c0 c1 c2 c3) := by
 unfold Z73 Z0x
 (try simp only [Z03])
 repeat' (first | with_reducible rfl | refine ZS (fun _ => ?_) (fun _ => ?_) | rfl)
def Z6z : RunP
 | [.p [.int .i64 c0], .p [.int .i64 c1], .p [.int .i64 c20, .int .i64 c21], .p [.int .i64 c30, .int .i64 c31, .int .i64 c32]] => some (true, Z4Q (Z0x c0 c1 (c20, c21) (c30, c31, c32)))
 | _ => none
theorem Zdb : Sound prog 97 Z6z := by
 refine ZN Z7T Zft (by kernel_rfl) func97 ntmps97 rfl (by kernel_rfl) fun q r E => ?_
 unfold Z6z at E
 split at E
 ·obtain ⟨hp, rfl⟩ := so2 E
  rename_i c0 c1 c20 c21 c30 c31 c32
  exact ⟨_, _, rfl, (ZfM c0 c1 (c20, c21) (c30, c31, c32)).trans (Zf2 c0 c1 (c20, c21) (c30, c31, c32))⟩
 ·cases E

def Zsn : Sums := ⟨tblS [(85, Z3V)], tblM [], false, false⟩
theorem Zuj : ZJ prog Zsn := ⟨ZD ⟨⟨call85, Z3E⟩, ⟨⟩⟩, tM⟩
def Zkx (p : Int) (l : P3) : Option P2 :=
 (if (prB p) = true then some ((Z1 p (wI (0 - l.2.1))), l.1) else none)
theorem ZuL (p : Int) (l : P3) : eT Zsn 136 13 ZfJ [pI p, pB l] = Zkx p l := by
 kernel_rfl
def Zfi (p : Int) (l : P3) : Int × Int :=
 ((Z1 p (wrap64 (0 - l.2.1))), l.1)
theorem Zuf (p : Int) (l : P3) (hp : (prB p) = true) : Zkx p l = some (Zfi p l) := by
 unfold Zkx Zfi
 (try simp only [Z03])
 repeat' (first | with_reducible rfl | with_reducible refine Z04 hp ?_ | refine ZS (fun _ => ?_) (fun _ => ?_) | rfl)
def Zii : RunP
 | [.v (.int .i64 p), .v (.agg ⟨[.int .i64 l0, .int .i64 l1, .int .i64 l2]⟩)] => some (prB p, ZhR (Zfi p (l0, l1, l2)))
 | _ => none
theorem Zr5 : Sound prog 136 Zii := by
 refine ZN Zq4 Zuj (by kernel_rfl) func136 ntmps136 rfl (by kernel_rfl) fun q r E => ?_
 unfold Zii at E
 split at E
 ·obtain ⟨hp, rfl⟩ := so2 E
  rename_i p l0 l1 l2
  exact ⟨_, _, rfl, (ZuL p (l0, l1, l2)).trans (Zuf p (l0, l1, l2) hp)⟩
 ·cases E

def ZiH : Sums := ⟨tblS [(85, Z3V)], tblM [], false, false⟩
theorem ZnY : ZJ prog ZiH := ⟨ZD ⟨⟨call85, Z3E⟩, ⟨⟩⟩, tM⟩
def ZbK (p Z8 : Int) (a b : P2) : Option (Int) :=
 (if (Z8 == 0) = true then (if (prB p) = true then some (Z1 p (wI ((wI (a.1 * b.1)) + (wI (a.2 * b.2))))) else none) else (if (Z8 == 1) = true then (if (prB p) = true then some (Z1 p (wI ((wI (a.1 * b.1)) - (wI (a.2 * b.2))))) else none) else (if (prB p) = true then some (Z1 p (wI ((wI (a.1 * b.2)) + (wI (a.2 * b.1))))) else none)))
theorem Zoy (p Z8 : Int) (a b : P2) : eT ZiH 128 53 Z2T [pI p, pI Z8, pA a, pA b] = ZbK p Z8 a b := by
 kernel_rfl
def Z7p (p Z8 : Int) (a b : P2) : Int :=
 (if (Z8 == 0) = true then (Z1 p (wrap64 ((wrap64 (a.1 * b.1)) + (wrap64 (a.2 * b.2))))) else (if (Z8 == 1) = true then (Z1 p (wrap64 ((wrap64 (a.1 * b.1)) - (wrap64 (a.2 * b.2))))) else (Z1 p (wrap64 ((wrap64 (a.1 * b.2)) + (wrap64 (a.2 * b.1)))))))
theorem ZmT (p Z8 : Int) (a b : P2) (hp : (prB p) = true) : ZbK p Z8 a b = some (Z7p p Z8 a b) := by
 unfold ZbK Z7p
 (try simp only [Z03])
 repeat' (first | with_reducible rfl | with_reducible refine Z04 hp ?_ | refine ZS (fun _ => ?_) (fun _ => ?_) | rfl)
def Z8t : RunP
 | [.v (.int .i64 p), .v (.int .i64 Z8), .v (.agg ⟨[.int .i64 a0, .int .i64 a1]⟩), .v (.agg ⟨[.int .i64 b0, .int .i64 b1]⟩)] => some (prB p, Z7V (Z7p p Z8 (a0, a1) (b0, b1)))
 | _ => none
theorem ZcQ : Sound prog 128 Z8t := by
 refine ZN Zdw ZnY (by kernel_rfl) func128 ntmps128 rfl (by kernel_rfl) fun q r E => ?_
 unfold Z8t at E
 split at E
 ·obtain ⟨hp, rfl⟩ := so2 E
  rename_i p Z8 a0 a1 b0 b1
  exact ⟨_, _, rfl, (Zoy p Z8 (a0, a1) (b0, b1)).trans (ZmT p Z8 (a0, a1) (b0, b1) hp)⟩
 ·cases E

def Z8x : Sums := ⟨tblS [(136, Zii), (128, Z8t)], tblM [], false, false⟩
theorem ZcR : ZJ prog Z8x := ⟨ZD ⟨⟨call136, Zr5⟩, ⟨call128, ZcQ⟩, ⟨⟩⟩, tM⟩
def Z5Q (p Z8 : Int) (l m : P3) : Option (Bool) :=
 (if (prB p) = true then (if (prB p) = true then (if (prB p) = true then some ((Z7p p Z8 (Zfi p l) (Zfi p m)) == 0) else none) else none) else none)
theorem ZcU (p Z8 : Int) (l m : P3) : eT Z8x 126 19 Z0o [pI p, pI Z8, pB l, pB m] = Z5Q p Z8 l m := by
 kernel_rfl
def Z0u (p Z8 : Int) (l m : P3) : Bool :=
 (Z7p p Z8 (Zfi p l) (Zfi p m)) == 0
theorem Zcz (p Z8 : Int) (l m : P3) (hp : (prB p) = true) : Z5Q p Z8 l m = some (Z0u p Z8 l m) := by
 unfold Z5Q Z0u
 (try simp only [Z03])
 repeat' (first | with_reducible rfl | with_reducible refine Z04 hp ?_ | refine ZS (fun _ => ?_) (fun _ => ?_) | rfl)
def Z40 : RunP
 | [.v (.int .i64 p), .v (.int .i64 Z8), .v (.agg ⟨[.int .i64 l0, .int .i64 l1, .int .i64 l2]⟩), .v (.agg ⟨[.int .i64 m0, .int .i64 m1, .int .i64 m2]⟩)] => some (prB p, Z4Q (Z0u p Z8 (l0, l1, l2) (m0, m1, m2)))
 | _ => none
theorem Z6P : Sound prog 126 Z40 := by
 refine ZN Z7T ZcR (by kernel_rfl) func126 ntmps126 rfl (by kernel_rfl) fun q r E => ?_
 unfold Z40 at E
 split at E
 ·obtain ⟨hp, rfl⟩ := so2 E
  rename_i p Z8 l0 l1 l2 m0 m1 m2
  exact ⟨_, _, rfl, (ZcU p Z8 (l0, l1, l2) (m0, m1, m2)).trans (Zcz p Z8 (l0, l1, l2) (m0, m1, m2) hp)⟩
 ·cases E

def ZkR : Sums := ⟨tblS [(126, Z40)], tblM [], false, false⟩
theorem ZpK : ZJ prog ZkR := ⟨ZD ⟨⟨call126, Z6P⟩, ⟨⟩⟩, tM⟩
def Zdk (p Z8 : Int) (l : P3) : Option (Bool) :=
 (if (prB p) = true then some (Z0u p Z8 l l) else none)
theorem Zqd (p Z8 : Int) (l : P3) : eT ZkR 99 12 Z0o [pI p, pI Z8, pB l] = Zdk p Z8 l := by
 kernel_rfl
def Z0T (p Z8 : Int) (l : P3) : Bool :=
 (Z0u p Z8 l l)
theorem ZpC (p Z8 : Int) (l : P3) (hp : (prB p) = true) : Zdk p Z8 l = some (Z0T p Z8 l) := by
 unfold Zdk Z0T
 (try simp only [Z03])
 repeat' (first | with_reducible rfl | with_reducible refine Z04 hp ?_ | refine ZS (fun _ => ?_) (fun _ => ?_) | rfl)
def Z9l : RunP
 | [.v (.int .i64 p), .v (.int .i64 Z8), .v (.agg ⟨[.int .i64 l0, .int .i64 l1, .int .i64 l2]⟩)] => some (prB p, Z4Q (Z0T p Z8 (l0, l1, l2)))
 | _ => none
theorem Ze5 : Sound prog 99 Z9l := by
 refine ZN Z7T ZpK (by kernel_rfl) func99 ntmps99 rfl (by kernel_rfl) fun q r E => ?_
 unfold Z9l at E
 split at E
 ·obtain ⟨hp, rfl⟩ := so2 E
  rename_i p Z8 l0 l1 l2
  exact ⟨_, _, rfl, (Zqd p Z8 (l0, l1, l2)).trans (ZpC p Z8 (l0, l1, l2) hp)⟩
 ·cases E

def ZpO : Sums := ⟨tblS [(85, Z3V)], tblM [], false, false⟩
theorem Ztv : ZJ prog ZpO := ⟨ZD ⟨⟨call85, Z3E⟩, ⟨⟩⟩, tM⟩
def Zhy (p : Int) (a b : P2) : Option P2 :=
 (if (prB p) = true then (if (prB p) = true then some ((Z1 p (wI (a.1 - b.1))), (Z1 p (wI (a.2 - b.2)))) else none) else none)
theorem ZtG (p : Int) (a b : P2) : eT ZpO 127 22 ZfJ [pI p, pA a, pA b] = Zhy p a b := by
 kernel_rfl
def Za1 (p : Int) (a b : P2) : Int × Int :=
 ((Z1 p (wrap64 (a.1 - b.1))), (Z1 p (wrap64 (a.2 - b.2))))
theorem Zsc (p : Int) (a b : P2) (hp : (prB p) = true) : Zhy p a b = some (Za1 p a b) := by
 unfold Zhy Za1
 (try simp only [Z03])
 repeat' (first | with_reducible rfl | with_reducible refine Z04 hp ?_ | refine ZS (fun _ => ?_) (fun _ => ?_) | rfl)
def Zg6 : RunP
 | [.v (.int .i64 p), .v (.agg ⟨[.int .i64 a0, .int .i64 a1]⟩), .v (.agg ⟨[.int .i64 b0, .int .i64 b1]⟩)] => some (prB p, ZhR (Za1 p (a0, a1) (b0, b1)))
 | _ => none
theorem Zpu : Sound prog 127 Zg6 := by
 refine ZN Zq4 Ztv (by kernel_rfl) func127 ntmps127 rfl (by kernel_rfl) fun q r E => ?_
 unfold Zg6 at E
 split at E
 ·obtain ⟨hp, rfl⟩ := so2 E
  rename_i p a0 a1 b0 b1
  exact ⟨_, _, rfl, (ZtG p (a0, a1) (b0, b1)).trans (Zsc p (a0, a1) (b0, b1) hp)⟩
 ·cases E

def Zfb : Sums := ⟨tblS [(127, Zg6), (128, Z8t)], tblM [], false, false⟩
theorem ZkG : ZJ prog Zfb := ⟨ZD ⟨⟨call127, Zpu⟩, ⟨call128, ZcQ⟩, ⟨⟩⟩, tM⟩
def Z9G (p Z8 : Int) (a b : P2) : Option (Int) :=
 (if (prB p) = true then (if (prB p) = true then some (Z7p p Z8 (Za1 p a b) (Za1 p a b)) else none) else none)
theorem Zll (p Z8 : Int) (a b : P2) : eT Zfb 101 19 Z2T [pI p, pI Z8, pA a, pA b] = Z9G p Z8 a b := by
 kernel_rfl
def Z29 (p Z8 : Int) (a b : P2) : Int :=
 (Z7p p Z8 (Za1 p a b) (Za1 p a b))
theorem Zk9 (p Z8 : Int) (a b : P2) (hp : (prB p) = true) : Z9G p Z8 a b = some (Z29 p Z8 a b) := by
 unfold Z9G Z29
 (try simp only [Z03])
 repeat' (first | with_reducible rfl | with_reducible refine Z04 hp ?_ | refine ZS (fun _ => ?_) (fun _ => ?_) | rfl)
def Z6T : RunP
 | [.v (.int .i64 p), .v (.int .i64 Z8), .v (.agg ⟨[.int .i64 a0, .int .i64 a1]⟩), .v (.agg ⟨[.int .i64 b0, .int .i64 b1]⟩)] => some (prB p, Z7V (Z29 p Z8 (a0, a1) (b0, b1)))
 | _ => none
theorem ZaF : Sound prog 101 Z6T := by
 refine ZN Zdw ZkG (by kernel_rfl) func101 ntmps101 rfl (by kernel_rfl) fun q r E => ?_
 unfold Z6T at E
 split at E
 ·obtain ⟨hp, rfl⟩ := so2 E
  rename_i p Z8 a0 a1 b0 b1
  exact ⟨_, _, rfl, (Zll p Z8 (a0, a1) (b0, b1)).trans (Zk9 p Z8 (a0, a1) (b0, b1) hp)⟩
 ·cases E

def Z59 : Sums := ⟨tblS [(85, Z3V)], tblM [], false, false⟩
theorem Zgr : ZJ prog Z59 := ⟨ZD ⟨⟨call85, Z3E⟩, ⟨⟩⟩, tM⟩
def Zfx (p : Int) (a : P2) (l13 : List Int) (m13 : Nat) (b : Int) : Tab := ⟨[vI (p), .val (.agg ⟨[.int .i64 a.1, .int .i64 a.2]⟩), jK, .ptr 12 0, .val (.slice none 0 0), .row 52, vI (b), vI (p), .ptr 12 1, vI (a.2), vI ((wI (0 - a.2))), vI ((Z1 p (wI (0 - a.2)))), .val (.agg ⟨[.int .i64 0, .int .i64 1, .int .i64 (Z1 p (wI (0 - a.2)))]⟩), ] ++ (jN 21 ++ [jK]), [(12, .box 27 [vI (a.1), vI (a.2)]), (52, .row 31 3 m13 (.ints l13))]⟩
def Z3b (P : Program) (fu : Nat) (p : Int) (a : P2) (f : Nat) (l13 : List Int) (m13 : Nat) (b : Int) : Option (Nat × List Int) := ZH (exec P Z59 35 (fun _ => fu + 100) (Code.sub [1, 1, 0, 1, 0, 0] (Zb P 137))) f (Zfx p a l13 m13 b) (Zc 0 (kSeq (fun Zp => exec P Z59 35 (fun _ => fu + 100) (Code.sub [1, 1, 1] (Zb P 137)) Zp (finT P 137 Z9o)) (finT P 137 Z9o)))
def Z2X (p : Int) (a : P2) (ZE : (List Int) -> Nat -> Int -> Option (Nat × List Int)) (l13 : List Int) (m13 : Nat) (b : Int) : Option (Nat × List Int) :=
 (if (decide (b < p)) = true then (if (prB p) = true then (if (Nat.ble 0 1 && Nat.ble (m13 + 1) 2000000 && Nat.beq 3 (3)) = true then ZE (l13 ++ [1, b, (Z1 p (wI ((wI (0 - a.1)) - (wI (b * a.2)))))]) (m13 + 1) (wI (b + 1)) else none) else none) else some (m13, l13))
def Z1H (fu : Nat) (p : Int) (a : P2) : Nat -> (List Int) -> Nat -> Int -> Option (Nat × List Int)
 | 0, _, _, _ => none
 | f + 1, l13, m13, b => Z2X p a (Z1H fu p a f) l13 m13 b
theorem ZcY (fu : Nat) (p : Int) (a : P2) : ∀ (f : Nat) (l13 : List Int) (m13 : Nat) (b : Int), Z3b prog fu p a f l13 m13 b = Z1H fu p a f l13 m13 b := by
 intro f
 induction f with
 | zero => intros; rfl
 | succ f ih =>
  intro l13 m13 b
  have h1 : Z3b prog fu p a (f + 1) l13 m13 b = Z2X p a (Z3b prog fu p a f) l13 m13 b := by kernel_rfl
  have h2 : Z3b prog fu p a f = Z1H fu p a f := by funext l13 m13 b; exact ih l13 m13 b
  rw [h1, h2]
  rfl
def Z86 (p : Int) (a : P2) (lo0 : (List Int) -> Nat -> Int -> Option (Nat × List Int)) : Option (Nat × List Int) :=
 (if (prB p) = true then lo0 [0, 1, (Z1 p (wI (0 - a.2)))] 1 0 else none)
def Z7v (fu : Nat) (p : Int) (a : P2) : Option (Nat × List Int) := Z86 p a (Z1H fu p a (fu + 100))
theorem ZgK (fu : Nat) (p : Int) (a : P2) : eF fu Z59 137 35 Z9o [pI p, pA a] = Z7v fu p a := by
 have h1 : eF fu Z59 137 35 Z9o [pI p, pA a] = Z86 p a (Z3b prog fu p a (fu + 100)) := by kernel_rfl
 have c0 : Z3b prog fu p a (fu + 100) = Z1H fu p a (fu + 100) := by funext l13 m13 b; exact ZcY fu p a (fu + 100) l13 m13 b
 rw [h1, c0]
 rfl
def Z3r (p : Int) (a : P2) : List P3 := ((0, 1, Z1 p (wrap64 (0 - a.2))) :: ((List.range p.toNat).map fun b : Nat => ((1 : Int), (b : Int), Z1 p (wrap64 (wrap64 (0 - a.1) - wrap64 ((b : Int) * a.2))))))
def Z0A (p : Int) (a : P2) : Nat × List Int := ((Z3r p a).length, Z5d (Z3r p a))
theorem ZrQ {p : Int} (hp : prB p = true) (a : P2) : (Z3r p a).length <= 993 := by
 have h1 := (Z7J hp).1
 unfold Z3r
 simp; omega

theorem Zgh (p : Int) (a : P2) (hp : (prB p) = true) : Z7v 1000000 p a = some (Z0A p a) := by
 obtain ⟨h1, h0, hpn⟩ := Z7J hp
 unfold Z7v Z86
 rw [if_pos hp]
 refine (gather (flat := Z5d) Zni rfl (L := fun f l m i => Z1H 1000000 p a f l m i) (n := p.toNat) (b := 1) (M := 1) (fun b : Nat => [((1 : Int), (b : Int), Z1 p (wrap64 (wrap64 (0 - a.1) - wrap64 ((b : Int) * a.2))))]) (K := (some (Z0A p a))) (l := [0, 1, Z1 p (wI (0 - a.2))]) (m := 1) (F := (1000000 + 100)) (by intro k hk; first | (split <;> simp) | simp_all)
  (fun f k l m hk hm => by
   show Z2X p a (Z1H 1000000 p a f) l m (k : Int) = _
   unfold Z2X
   simp only [cndp hk, hp, if_true, Z03]
   rw [if_pos (by simp; omega), show wrap64 ((k : Int) + 1) = ((k + 1 : Nat) : Int) from by rw [<- Z03]; exact Z2o hk (by omega)]
   rfl)
  (fun f hm => by
   show Z2X p a (Z1H 1000000 p a f) ([0, 1, Z1 p (wI (0 - a.2))] ++ Z5d ((List.range p.toNat).flatMap (fun b : Nat => [((1 : Int), (b : Int), Z1 p (wrap64 (wrap64 (0 - a.1) - wrap64 ((b : Int) * a.2))))]))) (1 + ((List.range p.toNat).flatMap (fun b : Nat => [((1 : Int), (b : Int), Z1 p (wrap64 (wrap64 (0 - a.1) - wrap64 ((b : Int) * a.2))))])).length) ((p.toNat : Nat) : Int) = _
   unfold Z2X
   rw [if_neg (by simp; omega), ZiZ]
   refine congrArg some (Prod.ext ?_ ?_)
   ·simp [Z0A, Z3r]; omega
   ·simp only [Z03]
    rfl) (by omega) (Nat.le_refl _)).trans ?_
 rfl
def Z7d : RunP
 | [.v (.int .i64 p), .v (.agg ⟨[.int .i64 a0, .int .i64 a1]⟩)] => some (prB p, Znc (Z0A p (a0, a1)))
 | _ => none
theorem Ze6 : Sound prog 137 Z7d := by
 refine ZN ZuC Zgr (by kernel_rfl) func137 ntmps137 rfl (by kernel_rfl) fun q r E => ?_
 unfold Z7d at E
 split at E
 ·obtain ⟨hp, rfl⟩ := so2 E
  rename_i p a0 a1
  exact ⟨_, _, rfl, (ZgK _ p (a0, a1)).trans (Zgh p (a0, a1) hp)⟩
 ·cases E

def Z4N : Sums := ⟨tblS [(137, Z7d), (126, Z40)], tblM [], false, false⟩
theorem Zfv : ZJ prog Z4N := ⟨ZD ⟨⟨call137, Ze6⟩, ⟨call126, Z6P⟩, ⟨⟩⟩, tM⟩
def ZeF (p Z8 : Int) (l : P3) (a : P2) (t15 : Int) : Tab := ⟨[vI (p), vI (Z8), .val (.agg ⟨[.int .i64 l.1, .int .i64 l.2.1, .int .i64 l.2.2]⟩), .val (.agg ⟨[.int .i64 a.1, .int .i64 a.2]⟩), jK, jK, .ptr 24 0, .ptr 28 0, .ptr 32 0, jK, jK, vI (p), .val (.agg ⟨[.int .i64 a.1, .int .i64 a.2]⟩), .row 52, vI ((((Z0A p a).1 : Nat) : Int)), vI (t15), ] ++ (jN 10 ++ [jK]), [(24, .box 31 [vI (l.1), vI (l.2.1), vI (l.2.2)]), (28, .box 27 [vI (a.1), vI (a.2)]), (32, .box 31 [vI (0), vI (0), vI (0)]), (52, .row 31 3 ((Z0A p a).1) (.ints ((Z0A p a).2)))]⟩
def Z2J (P : Program) (fu : Nat) (p Z8 : Int) (l : P3) (a : P2) (f : Nat) (t15 : Int) : Option P3 := ZH (exec P Z4N 27 (fun _ => fu + 100) (Code.sub [1, 0, 1, 0, 0] (Zb P 130))) f (ZeF p Z8 l a t15) (Zc 0 (kSeq (fun Zp => exec P Z4N 27 (fun _ => fu + 100) (Code.sub [1, 1] (Zb P 130)) Zp (finT P 130 ZfK)) (finT P 130 ZfK)))
def Z2E (p Z8 : Int) (l : P3) (a : P2) (ZE : Int -> Option P3) (t15 : Int) : Option P3 :=
 (if (decide (t15 < (((Z0A p a).1 : Nat) : Int))) = true then (if (decide (0 <= t15) && decide (t15 < (((Z0A p a).1 : Nat) : Int))) = true then (if (Nat.ble (t15.toNat * 3 + 3) (((Z0A p a).2).length)) = true then (if (prB p) = true then (if (Z0u p Z8 l (((Z0A p a).2).getD (t15.toNat * 3 + 0) 0, ((Z0A p a).2).getD (t15.toNat * 3 + 1) 0, ((Z0A p a).2).getD (t15.toNat * 3 + 2) 0)) = true then some (((Z0A p a).2).getD (t15.toNat * 3 + 0) 0, ((Z0A p a).2).getD (t15.toNat * 3 + 1) 0, ((Z0A p a).2).getD (t15.toNat * 3 + 2) 0) else ZE (wI (t15 + 1))) else none) else none) else none) else some (0, 0, 0))
def Z1j (fu : Nat) (p Z8 : Int) (l : P3) (a : P2) : Nat -> Int -> Option P3
 | 0, _ => none
 | f + 1, t15 => Z2E p Z8 l a (Z1j fu p Z8 l a f) t15
theorem Zcj (fu : Nat) (p Z8 : Int) (l : P3) (a : P2) : ∀ (f : Nat) (t15 : Int), Z2J prog fu p Z8 l a f t15 = Z1j fu p Z8 l a f t15 := by
 intro f
 induction f with
 | zero => intros; rfl
 | succ f ih =>
  intro t15
  have h1 : Z2J prog fu p Z8 l a (f + 1) t15 = Z2E p Z8 l a (Z2J prog fu p Z8 l a f) t15 := by kernel_rfl
  have h2 : Z2J prog fu p Z8 l a f = Z1j fu p Z8 l a f := by funext t15; exact ih t15
  rw [h1, h2]
  rfl
def Z7A (p Z8 : Int) (l : P3) (a : P2) (lo0 : Int -> Option P3) : Option P3 :=
 (if (prB p) = true then lo0 0 else none)
def Z75 (fu : Nat) (p Z8 : Int) (l : P3) (a : P2) : Option P3 := Z7A p Z8 l a (Z1j fu p Z8 l a (fu + 100))
theorem ZfO (fu : Nat) (p Z8 : Int) (l : P3) (a : P2) : eF fu Z4N 130 27 ZfK [pI p, pI Z8, pB l, pA a] = Z75 fu p Z8 l a := by
 have h1 : eF fu Z4N 130 27 ZfK [pI p, pI Z8, pB l, pA a] = Z7A p Z8 l a (Z2J prog fu p Z8 l a (fu + 100)) := by kernel_rfl
 have c0 : Z2J prog fu p Z8 l a (fu + 100) = Z1j fu p Z8 l a (fu + 100) := by funext t15; exact Zcj fu p Z8 l a (fu + 100) t15
 rw [h1, c0]
 rfl
def Z2Q (p Z8 : Int) (l : P3) (a : P2) : P3 := (((Z3r p a).findSome? fun zz => if Z0u p Z8 l zz = true then some zz else none)).getD (0, 0, 0)
theorem ZeL (p Z8 : Int) (l : P3) (a : P2) (hp : prB p = true) {F : Nat} (hF : 993 < F) : Z1j 1000000 p Z8 l a F 0 = some ((((Z3r p a).findSome? fun zz => if Z0u p Z8 l zz = true then some (zz) else none)).getD (0, 0, 0)) := by
 have Z5e : (Z3r p a).length <= 993 := ZrQ hp a
 have h := seek (L := fun f i => Z1j 1000000 p Z8 l a f i) (n := (Z3r p a).length) (F := F) (q := fun k => if Z0u p Z8 l (R3 (Z5d (Z3r p a)) k) = true then some ((R3 (Z5d (Z3r p a)) k)) else none) (e := (0, 0, 0)) (by omega)
  (fun f k hk => by
   show Z2E p Z8 l a (Z1j 1000000 p Z8 l a f) (k : Int) = _
   unfold Z2E
   have e0 : decide (0 <= (k : Int)) = true := by simp
   have e1 := cnd hk
   have e3 : (k : Int).toNat = k := Int.toNat_natCast k
   have e4 := Zwv (Z0y _) hk
   rw [show Z0A p a = ((Z3r p a).length, Z5d (Z3r p a)) from rfl]
   simp only [e0, e1, e3, e4, hp, Bool.and_true, Bool.true_and, if_true, Z2o hk (by omega)]
   have hr : ((Z5d (Z3r p a)).getD (k * 3 + 0) 0, (Z5d (Z3r p a)).getD (k * 3 + 1) 0, (Z5d (Z3r p a)).getD (k * 3 + 2) 0) = R3 (Z5d (Z3r p a)) k := rfl
   try simp only [hr]
   generalize (Z0u p Z8 l (R3 (Z5d (Z3r p a)) k)) = c0
   cases c0 <;> rfl)
  (fun f => by
   show Z2E p Z8 l a (Z1j 1000000 p Z8 l a f) (((Z3r p a).length : Nat) : Int) = _
   unfold Z2E
   rw [show Z0A p a = ((Z3r p a).length, Z5d (Z3r p a)) from rfl]
   rw [if_neg (by simp)])
 have h2 := ZuO (Z3r p a) (0, 0, 0) (fun zz => if Z0u p Z8 l zz = true then some (zz) else none)
 rw [<- h2]
 simp only [<- Zsl]
 exact h

theorem Zf4 (p Z8 : Int) (l : P3) (a : P2) (hp : (prB p) = true) : Z75 1000000 p Z8 l a = some (Z2Q p Z8 l a) := by
 unfold Z75 Z7A
 rw [if_pos hp]
 exact ZeL p Z8 l a hp (by omega)
def Z6B : RunP
 | [.v (.int .i64 p), .v (.int .i64 Z8), .v (.agg ⟨[.int .i64 l0, .int .i64 l1, .int .i64 l2]⟩), .v (.agg ⟨[.int .i64 a0, .int .i64 a1]⟩)] => some (prB p, ZrA (Z2Q p Z8 (l0, l1, l2) (a0, a1)))
 | _ => none
theorem Zdd : Sound prog 130 Z6B := by
 refine ZN ZwJ Zfv (by kernel_rfl) func130 ntmps130 rfl (by kernel_rfl) fun q r E => ?_
 unfold Z6B at E
 split at E
 ·obtain ⟨hp, rfl⟩ := so2 E
  rename_i p Z8 l0 l1 l2 a0 a1
  exact ⟨_, _, rfl, (ZfO _ p Z8 (l0, l1, l2) (a0, a1)).trans (Zf4 p Z8 (l0, l1, l2) (a0, a1) hp)⟩
 ·cases E

def ZpP : Sums := ⟨tblS [(85, Z3V), (118, Z9j)], tblM [], false, false⟩
theorem Ztw : ZJ prog ZpP := ⟨ZD ⟨⟨call85, Z3E⟩, ⟨call118, Ze3⟩, ⟨⟩⟩, tM⟩
def Zhz (p : Int) (l m : P3) : Option P2 :=
 (if (prB p) = true then (if (prB p) = true then (if (prB p) = true then (if (prB p) = true then (if (prB p) = true then some ((Z5 p (Z1 p (wI ((wI (l.2.1 * m.2.2)) - (wI (l.2.2 * m.2.1))))) (Z1 p (wI ((wI (l.1 * m.2.1)) - (wI (l.2.1 * m.1)))))), (Z5 p (Z1 p (wI ((wI (l.2.2 * m.1)) - (wI (l.1 * m.2.2))))) (Z1 p (wI ((wI (l.1 * m.2.1)) - (wI (l.2.1 * m.1))))))) else none) else none) else none) else none) else none)
theorem ZtH (p : Int) (l m : P3) : eT ZpP 129 54 ZfJ [pI p, pB l, pB m] = Zhz p l m := by
 kernel_rfl
def ZaX (p : Int) (l m : P3) : Int × Int :=
 ((Z5 p (Z1 p (wrap64 ((wrap64 (l.2.1 * m.2.2)) - (wrap64 (l.2.2 * m.2.1))))) (Z1 p (wrap64 ((wrap64 (l.1 * m.2.1)) - (wrap64 (l.2.1 * m.1)))))), (Z5 p (Z1 p (wrap64 ((wrap64 (l.2.2 * m.1)) - (wrap64 (l.1 * m.2.2))))) (Z1 p (wrap64 ((wrap64 (l.1 * m.2.1)) - (wrap64 (l.2.1 * m.1)))))))
theorem Zsd (p : Int) (l m : P3) (hp : (prB p) = true) : Zhz p l m = some (ZaX p l m) := by
 unfold Zhz ZaX
 (try simp only [Z03])
 repeat' (first | with_reducible rfl | with_reducible refine Z04 hp ?_ | refine ZS (fun _ => ?_) (fun _ => ?_) | rfl)
def Zg7 : RunP
 | [.v (.int .i64 p), .v (.agg ⟨[.int .i64 l0, .int .i64 l1, .int .i64 l2]⟩), .v (.agg ⟨[.int .i64 m0, .int .i64 m1, .int .i64 m2]⟩)] => some (prB p, ZhR (ZaX p (l0, l1, l2) (m0, m1, m2)))
 | _ => none
theorem Zpv : Sound prog 129 Zg7 := by
 refine ZN Zq4 Ztw (by kernel_rfl) func129 ntmps129 rfl (by kernel_rfl) fun q r E => ?_
 unfold Zg7 at E
 split at E
 ·obtain ⟨hp, rfl⟩ := so2 E
  rename_i p l0 l1 l2 m0 m1 m2
  exact ⟨_, _, rfl, (ZtH p (l0, l1, l2) (m0, m1, m2)).trans (Zsd p (l0, l1, l2) (m0, m1, m2) hp)⟩
 ·cases E

def ZpN : Sums := ⟨tblS [(130, Z6B), (129, Zg7)], tblM [], false, false⟩
theorem Ztu : ZJ prog ZpN := ⟨ZD ⟨⟨call130, Zdd⟩, ⟨call129, Zpv⟩, ⟨⟩⟩, tM⟩
def Zhx (p Z8 : Int) (a : P2) (l : P3) : Option P2 :=
 (if (prB p) = true then (if (prB p) = true then some (ZaX p l (Z2Q p Z8 l a)) else none) else none)
theorem ZtF (p Z8 : Int) (a : P2) (l : P3) : eT ZpN 102 17 ZfJ [pI p, pI Z8, pA a, pB l] = Zhx p Z8 a l := by
 kernel_rfl
def Z8c (p Z8 : Int) (a : P2) (l : P3) : Int × Int :=
 (ZaX p l (Z2Q p Z8 l a))
theorem Zsb (p Z8 : Int) (a : P2) (l : P3) (hp : (prB p) = true) : Zhx p Z8 a l = some (Z8c p Z8 a l) := by
 unfold Zhx Z8c
 (try simp only [Z03])
 repeat' (first | with_reducible rfl | with_reducible refine Z04 hp ?_ | refine ZS (fun _ => ?_) (fun _ => ?_) | rfl)
def Zcp : RunP
 | [.v (.int .i64 p), .v (.int .i64 Z8), .v (.agg ⟨[.int .i64 a0, .int .i64 a1]⟩), .v (.agg ⟨[.int .i64 l0, .int .i64 l1, .int .i64 l2]⟩)] => some (prB p, ZhR (Z8c p Z8 (a0, a1) (l0, l1, l2)))
 | _ => none
theorem Zhf : Sound prog 102 Zcp := by
 refine ZN Zq4 Ztu (by kernel_rfl) func102 ntmps102 rfl (by kernel_rfl) fun q r E => ?_
 unfold Zcp at E
 split at E
 ·obtain ⟨hp, rfl⟩ := so2 E
  rename_i p Z8 a0 a1 l0 l1 l2
  exact ⟨_, _, rfl, (ZtF p Z8 (a0, a1) (l0, l1, l2)).trans (Zsb p Z8 (a0, a1) (l0, l1, l2) hp)⟩
 ·cases E

def Zal : Sums := ⟨tblS [(85, Z3V), (101, Z6T), (102, Zcp)], tblM [], false, false⟩
theorem Zfu : ZJ prog Zal := ⟨ZD ⟨⟨call85, Z3E⟩, ⟨call101, ZaF⟩, ⟨call102, Zhf⟩, ⟨⟩⟩, tM⟩
def Z74 (x y : Int) (c0 c1 : Int) (c2 : P2) (c3 : P3) : Option (Int) :=
 (if (prB c0) = true then (if (prB c0) = true then (if (prB c0) = true then (if (prB c0) = true then (if (prB c0) = true then (if (prB c0) = true then some (Z1 c0 (wI ((Z29 c0 c1 ((Z1 c0 x), (Z1 c0 y)) c2) - (Z29 c0 c1 ((Z1 c0 x), (Z1 c0 y)) (Z8c c0 c1 ((Z1 c0 x), (Z1 c0 y)) c3))))) else none) else none) else none) else none) else none) else none)
theorem ZfN (x y : Int) (c0 c1 : Int) (c2 : P2) (c3 : P3) : eT Zal 100 34 Z2T [pI x, pI y, .p [.int .i64 c0], .p [.int .i64 c1], .p [.int .i64 c2.1, .int .i64 c2.2], .p [.int .i64 c3.1, .int .i64 c3.2.1, .int .i64 c3.2.2]] = Z74 x y c0 c1 c2 c3 := by
 kernel_rfl
def Zg (x y : Int) (c0 c1 : Int) (c2 : P2) (c3 : P3) : Int :=
 (Z1 c0 (wrap64 ((Z29 c0 c1 ((Z1 c0 x), (Z1 c0 y)) c2) - (Z29 c0 c1 ((Z1 c0 x), (Z1 c0 y)) (Z8c c0 c1 ((Z1 c0 x), (Z1 c0 y)) c3)))))
theorem Zf3 (x y : Int) (c0 c1 : Int) (c2 : P2) (c3 : P3) (hp : (prB c0) = true) : Z74 x y c0 c1 c2 c3 = some (Zg x y c0 c1 c2 c3) := by
 unfold Z74 Zg
 (try simp only [Z03])
 repeat' (first | with_reducible rfl | with_reducible refine Z04 hp ?_ | refine ZS (fun _ => ?_) (fun _ => ?_) | rfl)
def Z6A : RunP
 | [.v (.int .i64 x), .v (.int .i64 y), .p [.int .i64 c0], .p [.int .i64 c1], .p [.int .i64 c20, .int .i64 c21], .p [.int .i64 c30, .int .i64 c31, .int .i64 c32]] => some (prB c0, Z7V (Zg x y c0 c1 (c20, c21) (c30, c31, c32)))
 | _ => none
theorem Zdc : Sound prog 100 Z6A := by
 refine ZN Zdw Zfu (by kernel_rfl) func100 ntmps100 rfl (by kernel_rfl) fun q r E => ?_
 unfold Z6A at E
 split at E
 ·obtain ⟨hp, rfl⟩ := so2 E
  rename_i x y c0 c1 c20 c21 c30 c31 c32
  exact ⟨_, _, rfl, (ZfN x y c0 c1 (c20, c21) (c30, c31, c32)).trans (Zf3 x y c0 c1 (c20, c21) (c30, c31, c32) hp)⟩
 ·cases E

def Zds : Sums := ⟨tblS [(41, Z5o), (97, Z6z), (99, Z9l), (84, Z6J), (100, Z6A), (85, Z3V), (86, Z5D)], tblM [], false, false⟩
theorem Zjq : ZJ prog Zds := ⟨ZD ⟨⟨call41, Z5N⟩, ⟨call97, Zdb⟩, ⟨call99, Ze5⟩, ⟨call84, Z97⟩, ⟨call100, Zdc⟩, ⟨call85, Z3E⟩, ⟨call86, Z7S⟩, ⟨⟩⟩, tM⟩
def Z8N (p Z8 : Int) (a : P2) (l : P3) : Option ((Int × Int × Int × Int × Int × Int) × Int) :=
 (if ((true) || !(Zo p)) = true then (if ((Zt p (true) (Z0x Z8 p a l)) != 0) = true then some ((0, 0, 0, 0, 0, 0), (Zt p (true) (Z0x Z8 p a l))) else (if (prB p) = true then (if (Z0T p Z8 l) = true then some ((0, 0, 0, 0, 0, 0), 5) else (if (prB p) = true then (if (prB p) = true then (if (prB p) = true then (if (prB p) = true then (if (prB p) = true then (if (prB p) = true then (if (prB p) = true then (if (prB p) = true then (if (prB p) = true then (if (prB p) = true then (if (prB p) = true then (if (prB p) = true then (if (!((Z02 p (wI ((ZA p 2) * (wI ((wI ((Zg 1 0 p Z8 a l) + (Zg (-1) 0 p Z8 a l))) - (wI (2 * (Zg 0 0 p Z8 a l)))))), wI ((wI ((wI ((wI ((wI ((Zg 1 1 p Z8 a l) - (Z1 p (wI ((ZA p 2) * (wI ((wI ((Zg 1 0 p Z8 a l) + (Zg (-1) 0 p Z8 a l))) - (wI (2 * (Zg 0 0 p Z8 a l)))))))))) - (Z1 p (wI ((ZA p 2) * (wI ((wI ((Zg 0 1 p Z8 a l) + (Zg 0 (-1) p Z8 a l))) - (wI (2 * (Zg 0 0 p Z8 a l)))))))))) - (Z1 p (wI ((ZA p 2) * (wI ((Zg 1 0 p Z8 a l) - (Zg (-1) 0 p Z8 a l)))))))) - (Z1 p (wI ((ZA p 2) * (wI ((Zg 0 1 p Z8 a l) - (Zg 0 (-1) p Z8 a l)))))))) - (Zg 0 0 p Z8 a l)), wI ((ZA p 2) * (wI ((wI ((Zg 0 1 p Z8 a l) + (Zg 0 (-1) p Z8 a l))) - (wI (2 * (Zg 0 0 p Z8 a l)))))), wI ((ZA p 2) * (wI ((Zg 1 0 p Z8 a l) - (Zg (-1) 0 p Z8 a l)))), wI ((ZA p 2) * (wI ((Zg 0 1 p Z8 a l) - (Zg 0 (-1) p Z8 a l)))), (Zg 0 0 p Z8 a l))).2)) = true then some ((0, 0, 0, 0, 0, 0), 5) else some (((Z02 p (wI ((ZA p 2) * (wI ((wI ((Zg 1 0 p Z8 a l) + (Zg (-1) 0 p Z8 a l))) - (wI (2 * (Zg 0 0 p Z8 a l)))))), wI ((wI ((wI ((wI ((wI ((Zg 1 1 p Z8 a l) - (Z1 p (wI ((ZA p 2) * (wI ((wI ((Zg 1 0 p Z8 a l) + (Zg (-1) 0 p Z8 a l))) - (wI (2 * (Zg 0 0 p Z8 a l)))))))))) - (Z1 p (wI ((ZA p 2) * (wI ((wI ((Zg 0 1 p Z8 a l) + (Zg 0 (-1) p Z8 a l))) - (wI (2 * (Zg 0 0 p Z8 a l)))))))))) - (Z1 p (wI ((ZA p 2) * (wI ((Zg 1 0 p Z8 a l) - (Zg (-1) 0 p Z8 a l)))))))) - (Z1 p (wI ((ZA p 2) * (wI ((Zg 0 1 p Z8 a l) - (Zg 0 (-1) p Z8 a l)))))))) - (Zg 0 0 p Z8 a l)), wI ((ZA p 2) * (wI ((wI ((Zg 0 1 p Z8 a l) + (Zg 0 (-1) p Z8 a l))) - (wI (2 * (Zg 0 0 p Z8 a l)))))), wI ((ZA p 2) * (wI ((Zg 1 0 p Z8 a l) - (Zg (-1) 0 p Z8 a l)))), wI ((ZA p 2) * (wI ((Zg 0 1 p Z8 a l) - (Zg 0 (-1) p Z8 a l)))), (Zg 0 0 p Z8 a l))).1), 0)) else none) else none) else none) else none) else none) else none) else none) else none) else none) else none) else none) else none)) else none)) else none)
theorem ZjE (p Z8 : Int) (a : P2) (l : P3) : eT Zds 33 114 Ze [pI p, pI Z8, pA a, pB l] = Z8N p Z8 a l := by
 kernel_rfl
def ZP (p Z8 : Int) (a : P2) (l : P3) : (Int × Int × Int × Int × Int × Int) × Int :=
 (if ((Zt p (true) (Z0x Z8 p a l)) != 0) = true then ((0, 0, 0, 0, 0, 0), (Zt p (true) (Z0x Z8 p a l))) else (if (Z0T p Z8 l) = true then ((0, 0, 0, 0, 0, 0), 5) else (if (!((Z02 p (wrap64 ((ZA p 2) * (wrap64 ((wrap64 ((Zg 1 0 p Z8 a l) + (Zg (-1) 0 p Z8 a l))) - (wrap64 (2 * (Zg 0 0 p Z8 a l)))))), wrap64 ((wrap64 ((wrap64 ((wrap64 ((wrap64 ((Zg 1 1 p Z8 a l) - (Z1 p (wrap64 ((ZA p 2) * (wrap64 ((wrap64 ((Zg 1 0 p Z8 a l) + (Zg (-1) 0 p Z8 a l))) - (wrap64 (2 * (Zg 0 0 p Z8 a l)))))))))) - (Z1 p (wrap64 ((ZA p 2) * (wrap64 ((wrap64 ((Zg 0 1 p Z8 a l) + (Zg 0 (-1) p Z8 a l))) - (wrap64 (2 * (Zg 0 0 p Z8 a l)))))))))) - (Z1 p (wrap64 ((ZA p 2) * (wrap64 ((Zg 1 0 p Z8 a l) - (Zg (-1) 0 p Z8 a l)))))))) - (Z1 p (wrap64 ((ZA p 2) * (wrap64 ((Zg 0 1 p Z8 a l) - (Zg 0 (-1) p Z8 a l)))))))) - (Zg 0 0 p Z8 a l)), wrap64 ((ZA p 2) * (wrap64 ((wrap64 ((Zg 0 1 p Z8 a l) + (Zg 0 (-1) p Z8 a l))) - (wrap64 (2 * (Zg 0 0 p Z8 a l)))))), wrap64 ((ZA p 2) * (wrap64 ((Zg 1 0 p Z8 a l) - (Zg (-1) 0 p Z8 a l)))), wrap64 ((ZA p 2) * (wrap64 ((Zg 0 1 p Z8 a l) - (Zg 0 (-1) p Z8 a l)))), (Zg 0 0 p Z8 a l))).2)) = true then ((0, 0, 0, 0, 0, 0), 5) else (((Z02 p (wrap64 ((ZA p 2) * (wrap64 ((wrap64 ((Zg 1 0 p Z8 a l) + (Zg (-1) 0 p Z8 a l))) - (wrap64 (2 * (Zg 0 0 p Z8 a l)))))), wrap64 ((wrap64 ((wrap64 ((wrap64 ((wrap64 ((Zg 1 1 p Z8 a l) - (Z1 p (wrap64 ((ZA p 2) * (wrap64 ((wrap64 ((Zg 1 0 p Z8 a l) + (Zg (-1) 0 p Z8 a l))) - (wrap64 (2 * (Zg 0 0 p Z8 a l)))))))))) - (Z1 p (wrap64 ((ZA p 2) * (wrap64 ((wrap64 ((Zg 0 1 p Z8 a l) + (Zg 0 (-1) p Z8 a l))) - (wrap64 (2 * (Zg 0 0 p Z8 a l)))))))))) - (Z1 p (wrap64 ((ZA p 2) * (wrap64 ((Zg 1 0 p Z8 a l) - (Zg (-1) 0 p Z8 a l)))))))) - (Z1 p (wrap64 ((ZA p 2) * (wrap64 ((Zg 0 1 p Z8 a l) - (Zg 0 (-1) p Z8 a l)))))))) - (Zg 0 0 p Z8 a l)), wrap64 ((ZA p 2) * (wrap64 ((wrap64 ((Zg 0 1 p Z8 a l) + (Zg 0 (-1) p Z8 a l))) - (wrap64 (2 * (Zg 0 0 p Z8 a l)))))), wrap64 ((ZA p 2) * (wrap64 ((Zg 1 0 p Z8 a l) - (Zg (-1) 0 p Z8 a l)))), wrap64 ((ZA p 2) * (wrap64 ((Zg 0 1 p Z8 a l) - (Zg 0 (-1) p Z8 a l)))), (Zg 0 0 p Z8 a l))).1), 0))))
theorem Zit (p Z8 : Int) (a : P2) (l : P3) : Z8N p Z8 a l = some (ZP p Z8 a l) := by
 unfold Z8N ZP
 (try simp only [Z03])
 repeat' (first | with_reducible rfl | refine Z04 (by first | with_reducible rfl | exact Bool.true_or _ | (have hq : prB p = true := (by (with_reducible first | assumption | exact Zbf ‹_› | exact Zc2 ‹_›)); first | exact hq | exact ZqM hq | exact Z8o hq (fun _ => rfl) | exact Z8o hq (fun _ => hq) | exact and3 hq hq hq | exact Z1G hq rfl | exact map3_ok hq) | rfl) ?_ | refine ZS (fun _ => ?_) (fun _ => ?_) | rfl)
def Z8f : RunP
 | [.v (.int .i64 p), .v (.int .i64 Z8), .v (.agg ⟨[.int .i64 a0, .int .i64 a1]⟩), .v (.agg ⟨[.int .i64 l0, .int .i64 l1, .int .i64 l2]⟩)] => some (true, Z9Y (ZP p Z8 (a0, a1) (l0, l1, l2)))
 | _ => none
theorem Zg9 : Sound prog 33 Z8f := by
 refine ZN Zej Zjq (by kernel_rfl) func33 ntmps33 rfl (by kernel_rfl) fun q r E => ?_
 unfold Z8f at E
 split at E
 ·obtain ⟨hp, rfl⟩ := so2 E
  rename_i p Z8 a0 a1 l0 l1 l2
  exact ⟨_, _, rfl, (ZjE p Z8 (a0, a1) (l0, l1, l2)).trans (Zit p Z8 (a0, a1) (l0, l1, l2))⟩
 ·cases E

def ZiL : Sums := ⟨tblS [(122, Z5p)], tblM [], false, false⟩
theorem Zo4 : ZJ prog ZiL := ⟨ZD ⟨⟨call122, Z5O⟩, ⟨⟩⟩, tM⟩
def ZbP (p : Int) (l : P3) : Option (Bool) :=
 (if (Z0N l.1 0 (wI (p - 1))) = true then (if (Z0N l.2.1 0 (wI (p - 1))) = true then (if (Z0N l.2.2 0 (wI (p - 1))) = true then (if (l.1 == 1) = true then some true else (if (l.1 == 0) = true then some (l.2.1 == 1) else some false)) else some false) else some false) else some false)
theorem ZoE (p : Int) (l : P3) : eT ZiL 117 39 Z0o [pI p, pB l] = ZbP p l := by
 kernel_rfl
def Z6q (p : Int) (l : P3) : Bool :=
 (if (Z0N l.1 0 (wrap64 (p - 1))) = true then (if (Z0N l.2.1 0 (wrap64 (p - 1))) = true then (if (Z0N l.2.2 0 (wrap64 (p - 1))) = true then (if (l.1 == 1) = true then true else (if (l.1 == 0) = true then l.2.1 == 1 else false)) else false) else false) else false)
theorem ZmZ (p : Int) (l : P3) : ZbP p l = some (Z6q p l) := by
 unfold ZbP Z6q
 (try simp only [Z03])
 repeat' (first | with_reducible rfl | refine ZS (fun _ => ?_) (fun _ => ?_) | rfl)
def Zb4 : RunP
 | [.v (.int .i64 p), .v (.agg ⟨[.int .i64 l0, .int .i64 l1, .int .i64 l2]⟩)] => some (true, Z4Q (Z6q p (l0, l1, l2)))
 | _ => none
theorem ZjX : Sound prog 117 Zb4 := by
 refine ZN Z7T Zo4 (by kernel_rfl) func117 ntmps117 rfl (by kernel_rfl) fun q r E => ?_
 unfold Zb4 at E
 split at E
 ·obtain ⟨hp, rfl⟩ := so2 E
  rename_i p l0 l1 l2
  exact ⟨_, _, rfl, (ZoE p (l0, l1, l2)).trans (ZmZ p (l0, l1, l2))⟩
 ·cases E

def Z7C : Sums := ⟨tblS [(107, Z5g), (117, Zb4)], tblM [], false, false⟩
theorem Zmn : ZJ prog Z7C := ⟨ZD ⟨⟨call107, Z6r⟩, ⟨call117, ZjX⟩, ⟨⟩⟩, tM⟩
def ZkV (p : Int) (Z0F : Nat) (linesl : List Int) (i : Int) : Tab := ⟨[vI (p), .row 4, jK, jK, vI (0), vI (i), vI (p), vB ((Z0a p)), vB ((!(Z0a p))), ] ++ (jN 12 ++ [jK]), [(4, .ros Z0F (.ints linesl))]⟩
def Z5b (P : Program) (fu : Nat) (p : Int) (Z0F : Nat) (linesl : List Int) (f : Nat) (i : Int) : Option (Int) := ZH (exec P Z7C 22 (fun _ => fu + 100) (Code.sub [1, 1, 0, 1, 0, 0] (Zb P 72))) f (ZkV p Z0F linesl i) (Zc 0 (kSeq (fun Zp => exec P Z7C 22 (fun _ => fu + 100) (Code.sub [1, 1, 1] (Zb P 72)) Zp (finT P 72 Z2T)) (finT P 72 Z2T)))
def Z57 (p : Int) (Z0F : Nat) (linesl : List Int) (ZE : Int -> Option (Int)) (i : Int) : Option (Int) :=
 (if (decide (i < ((Z0F : Nat) : Int))) = true then (if (decide (0 <= i) && decide (i < ((Z0F : Nat) : Int))) = true then (if (Nat.ble (i.toNat * 3 + 3) linesl.length) = true then (if (!(Z6q p (linesl.getD (i.toNat * 3 + 0) 0, linesl.getD (i.toNat * 3 + 1) 0, linesl.getD (i.toNat * 3 + 2) 0))) = true then some 2 else ZE (wI (i + 1))) else none) else none) else some 0)
def Z3G (fu : Nat) (p : Int) (Z0F : Nat) (linesl : List Int) : Nat -> Int -> Option (Int)
 | 0, _ => none
 | f + 1, i => Z57 p Z0F linesl (Z3G fu p Z0F linesl f) i
theorem ZgZ (fu : Nat) (p : Int) (Z0F : Nat) (linesl : List Int) : ∀ (f : Nat) (i : Int), Z5b prog fu p Z0F linesl f i = Z3G fu p Z0F linesl f i := by
 intro f
 induction f with
 | zero => intros; rfl
 | succ f ih =>
  intro i
  have h1 : Z5b prog fu p Z0F linesl (f + 1) i = Z57 p Z0F linesl (Z5b prog fu p Z0F linesl f) i := by kernel_rfl
  have h2 : Z5b prog fu p Z0F linesl f = Z3G fu p Z0F linesl f := by funext i; exact ih i
  rw [h1, h2]
  rfl
def ZbZ (p : Int) (Z0F : Nat) (linesl : List Int) (lo0 : Int -> Option (Int)) : Option (Int) :=
 (if (!(Z0a p)) = true then some 1 else lo0 0)
def ZaM (fu : Nat) (p : Int) (Z0F : Nat) (linesl : List Int) : Option (Int) := ZbZ p Z0F linesl (Z3G fu p Z0F linesl (fu + 100))
theorem Zmy (fu : Nat) (p : Int) (Z0F : Nat) (linesl : List Int) : eF fu Z7C 72 22 Z2T [pI p, .s Z0F (.ints linesl)] = ZaM fu p Z0F linesl := by
 have h1 : eF fu Z7C 72 22 Z2T [pI p, .s Z0F (.ints linesl)] = ZbZ p Z0F linesl (Z5b prog fu p Z0F linesl (fu + 100)) := by kernel_rfl
 have c0 : Z5b prog fu p Z0F linesl (fu + 100) = Z3G fu p Z0F linesl (fu + 100) := by funext i; exact ZgZ fu p Z0F linesl (fu + 100) i
 rw [h1, c0]
 rfl
def Z7h (p : Int) (l : List P3) : Int := if Z0a p = true then (if l.all (fun x => Z6q p x) = true then 0 else 2) else 1
theorem Zmd (p : Int) (Z0F : Nat) (linesl : List Int) (hp : (lenB Z0F 3 linesl) = true) : ZaM Z0F p Z0F linesl = some (Z7h p (Zr3 Z0F linesl)) := by
 obtain ⟨hl, hn⟩ := Z53 hp
 have key : ∀ F, Z0F < F -> (Z3G Z0F p Z0F linesl) F 0 = some (if (List.range Z0F).all (fun k => (fun x => Z6q p x) (linesl.getD (k * 3) 0, linesl.getD (k * 3 + 1) 0, linesl.getD (k * 3 + 2) 0)) = true then 0 else 2) := by
  intro F hF
  refine scan hF (fun f k hk => ?_) fun f => ?_
  ·show Z57 p Z0F linesl ((Z3G Z0F p Z0F linesl) f) (k : Int) = _
   unfold Z57
   rw [if_pos (by simpa using hk), if_pos (by simpa using hk), if_pos (leb (by rw [hl, Int.toNat_natCast]; omega)), Z2o hk (by omega)]
   first | rfl | (rw [Z03]; rfl)
  ·show Z57 p Z0F linesl ((Z3G Z0F p Z0F linesl) f) ((Z0F : Nat) : Int) = _
   unfold Z57
   rw [if_neg (by simp)]
 unfold ZaM ZbZ
 show _ = some (if Z0a p = true then (if ((Zr3 Z0F linesl)).all (fun x => Z6q p x) = true then 0 else 2) else 1)
 cases hf : Z0a p
 ·rfl
 ·rw [key _ (by omega), Zty Z0F linesl]
  rfl
def Zaa : RunP
 | [.v (.int .i64 p), .s Z0F (.ints linesl)] => some (lenB Z0F 3 linesl, Z7V (Z7h p (Zr3 Z0F linesl)))
 | _ => none
theorem Zio : Sound prog 72 Zaa := by
 refine ZN Zdw Zmn (by kernel_rfl) func72 ntmps72 rfl (by kernel_rfl) fun q r E => ?_
 unfold Zaa at E
 split at E
 ·obtain ⟨hp, rfl⟩ := so2 E
  rename_i p Z0F linesl
  exact ⟨_, _, rfl, (Zmy _ p Z0F linesl).trans (Zmd p Z0F linesl hp)⟩
 ·cases E

def ZiK : Sums := ⟨tblS [(87, Z6L), (72, Zaa)], tblM [], false, false⟩
theorem Zo1 : ZJ prog ZiK := ⟨ZD ⟨⟨call87, Z99⟩, ⟨call72, Zio⟩, ⟨⟩⟩, tM⟩
def ZbN (p : Int) (a : P2) (l : P3) : Option (Int) :=
 (if ((ZB p [a]) != 0) = true then some (ZB p [a]) else some (Z7h p [l]))
theorem ZoB (p : Int) (a : P2) (l : P3) : eT ZiK 103 19 Z2T [pI p, pA a, pB l] = ZbN p a l := by
 kernel_rfl
def Z0D (p : Int) (a : P2) (l : P3) : Int :=
 (if ((ZB p [a]) != 0) = true then (ZB p [a]) else (Z7h p [l]))
theorem ZmW (p : Int) (a : P2) (l : P3) : ZbN p a l = some (Z0D p a l) := by
 unfold ZbN Z0D
 (try simp only [Z03])
 repeat' (first | with_reducible rfl | refine ZS (fun _ => ?_) (fun _ => ?_) | rfl)
def Zb3 : RunP
 | [.v (.int .i64 p), .v (.agg ⟨[.int .i64 a0, .int .i64 a1]⟩), .v (.agg ⟨[.int .i64 l0, .int .i64 l1, .int .i64 l2]⟩)] => some (true, Z7V (Z0D p (a0, a1) (l0, l1, l2)))
 | _ => none
theorem ZjW : Sound prog 103 Zb3 := by
 refine ZN Zdw Zo1 (by kernel_rfl) func103 ntmps103 rfl (by kernel_rfl) fun q r E => ?_
 unfold Zb3 at E
 split at E
 ·obtain ⟨hp, rfl⟩ := so2 E
  rename_i p a0 a1 l0 l1 l2
  exact ⟨_, _, rfl, (ZoB p (a0, a1) (l0, l1, l2)).trans (ZmW p (a0, a1) (l0, l1, l2))⟩
 ·cases E

theorem Zjd {p : Int} {a : P2} {l : P3} (h : ¬ (Z0D p a l != 0) = true) : prB p = true := by
 refine Z9R (Zx ?_)
 have h : Z0D p a l = 0 := by simpa using h
 cases hf : Zo p
 ·simp [Z0D, ZB, Z7h, Z0a, hf] at h
 ·rfl
theorem Zpd {p : Int} {a : P2} {l : P3} (h : (Z0D p a l == 0) = true) : prB p = true := Zjd (by simpa using h)
def Zfd : Sums := ⟨tblS [(122, Z5p)], tblM [], false, false⟩
theorem ZkK : ZJ prog Zfd := ⟨ZD ⟨⟨call122, Z5O⟩, ⟨⟩⟩, tM⟩
def Z9K (Z8 : Int) : Option (Bool) :=
 some (Z0N Z8 0 2)
theorem Zlp (Z8 : Int) : eT Zfd 104 5 Z0o [pI Z8] = Z9K Z8 := by
 kernel_rfl
def Z4U (Z8 : Int) : Bool :=
 (Z0N Z8 0 2)
theorem Zkd (Z8 : Int) : Z9K Z8 = some (Z4U Z8) := by
 unfold Z9K Z4U
 (try simp only [Z03])
 repeat' (first | with_reducible rfl | refine ZS (fun _ => ?_) (fun _ => ?_) | rfl)
def Z6U : RunP
 | [.v (.int .i64 Z8)] => some (true, Z4Q (Z4U Z8))
 | _ => none
theorem ZaG : Sound prog 104 Z6U := by
 refine ZN Z7T ZkK (by kernel_rfl) func104 ntmps104 rfl (by kernel_rfl) fun q r E => ?_
 unfold Z6U at E
 split at E
 ·obtain ⟨hp, rfl⟩ := so2 E
  rename_i Z8
  exact ⟨_, _, rfl, (Zlp Z8).trans (Zkd Z8)⟩
 ·cases E

def Zbe : Sums := ⟨tblS [(90, Z2e)], tblM [], false, false⟩
theorem Zgw : ZJ prog Zbe := ⟨ZD ⟨⟨call90, Z2d⟩, ⟨⟩⟩, tM⟩
def Z7z (p : Int) (l : P3) : Option P2 :=
 (if (prB p) = true then some ((Z4 (wI (0 - l.2.1)) p), l.1) else none)
theorem ZgP (p : Int) (l : P3) : eT Zbe 132 13 ZfJ [pI p, pB l] = Z7z p l := by
 kernel_rfl
def Z4x (p : Int) (l : P3) : Int × Int :=
 ((Z4 (wrap64 (0 - l.2.1)) p), l.1)
theorem Zgm (p : Int) (l : P3) (hp : (prB p) = true) : Z7z p l = some (Z4x p l) := by
 unfold Z7z Z4x
 (try simp only [Z03])
 repeat' (first | with_reducible rfl | with_reducible refine Z04 hp ?_ | refine ZS (fun _ => ?_) (fun _ => ?_) | rfl)
def Z7f : RunP
 | [.v (.int .i64 p), .v (.agg ⟨[.int .i64 l0, .int .i64 l1, .int .i64 l2]⟩)] => some (prB p, ZhR (Z4x p (l0, l1, l2)))
 | _ => none
theorem Ze9 : Sound prog 132 Z7f := by
 refine ZN Zq4 Zgw (by kernel_rfl) func132 ntmps132 rfl (by kernel_rfl) fun q r E => ?_
 unfold Z7f at E
 split at E
 ·obtain ⟨hp, rfl⟩ := so2 E
  rename_i p l0 l1 l2
  exact ⟨_, _, rfl, (ZgP p (l0, l1, l2)).trans (Zgm p (l0, l1, l2) hp)⟩
 ·cases E

def Zdv : Sums := ⟨tblS [(90, Z2e)], tblM [], false, false⟩
theorem Zjx : ZJ prog Zdv := ⟨ZD ⟨⟨call90, Z2d⟩, ⟨⟩⟩, tM⟩
def Z8U (p Z8 : Int) (a b : P2) : Option (Int) :=
 (if (Z8 == 0) = true then (if (prB p) = true then some (Z4 (wI ((wI (a.1 * b.1)) + (wI (a.2 * b.2)))) p) else none) else (if (Z8 == 1) = true then (if (prB p) = true then some (Z4 (wI ((wI (a.1 * b.1)) - (wI (a.2 * b.2)))) p) else none) else (if (prB p) = true then some (Z4 (wI ((wI (a.1 * b.2)) + (wI (a.2 * b.1)))) p) else none)))
theorem ZjL (p Z8 : Int) (a b : P2) : eT Zdv 131 53 Z2T [pI p, pI Z8, pA a, pA b] = Z8U p Z8 a b := by
 kernel_rfl
def Z7Q (p Z8 : Int) (a b : P2) : Int :=
 (if (Z8 == 0) = true then (Z4 (wrap64 ((wrap64 (a.1 * b.1)) + (wrap64 (a.2 * b.2)))) p) else (if (Z8 == 1) = true then (Z4 (wrap64 ((wrap64 (a.1 * b.1)) - (wrap64 (a.2 * b.2)))) p) else (Z4 (wrap64 ((wrap64 (a.1 * b.2)) + (wrap64 (a.2 * b.1)))) p)))
theorem ZiA (p Z8 : Int) (a b : P2) (hp : (prB p) = true) : Z8U p Z8 a b = some (Z7Q p Z8 a b) := by
 unfold Z8U Z7Q
 (try simp only [Z03])
 repeat' (first | with_reducible rfl | with_reducible refine Z04 hp ?_ | refine ZS (fun _ => ?_) (fun _ => ?_) | rfl)
def Z8k : RunP
 | [.v (.int .i64 p), .v (.int .i64 Z8), .v (.agg ⟨[.int .i64 a0, .int .i64 a1]⟩), .v (.agg ⟨[.int .i64 b0, .int .i64 b1]⟩)] => some (prB p, Z7V (Z7Q p Z8 (a0, a1) (b0, b1)))
 | _ => none
theorem Zge : Sound prog 131 Z8k := by
 refine ZN Zdw Zjx (by kernel_rfl) func131 ntmps131 rfl (by kernel_rfl) fun q r E => ?_
 unfold Z8k at E
 split at E
 ·obtain ⟨hp, rfl⟩ := so2 E
  rename_i p Z8 a0 a1 b0 b1
  exact ⟨_, _, rfl, (ZjL p Z8 (a0, a1) (b0, b1)).trans (ZiA p Z8 (a0, a1) (b0, b1) hp)⟩
 ·cases E

def Z8B : Sums := ⟨tblS [(132, Z7f), (131, Z8k)], tblM [], false, false⟩
theorem ZcT : ZJ prog Z8B := ⟨ZD ⟨⟨call132, Ze9⟩, ⟨call131, Zge⟩, ⟨⟩⟩, tM⟩
def Z5R (p Z8 : Int) (l m : P3) : Option (Bool) :=
 (if (prB p) = true then (if (prB p) = true then (if (prB p) = true then some ((Z7Q p Z8 (Z4x p l) (Z4x p m)) == 0) else none) else none) else none)
theorem ZcW (p Z8 : Int) (l m : P3) : eT Z8B 105 19 Z0o [pI p, pI Z8, pB l, pB m] = Z5R p Z8 l m := by
 kernel_rfl
def ZL (p Z8 : Int) (l m : P3) : Bool :=
 (Z7Q p Z8 (Z4x p l) (Z4x p m)) == 0
theorem ZcB (p Z8 : Int) (l m : P3) (hp : (prB p) = true) : Z5R p Z8 l m = some (ZL p Z8 l m) := by
 unfold Z5R ZL
 (try simp only [Z03])
 repeat' (first | with_reducible rfl | with_reducible refine Z04 hp ?_ | refine ZS (fun _ => ?_) (fun _ => ?_) | rfl)
def Z41 : RunP
 | [.v (.int .i64 p), .v (.int .i64 Z8), .v (.agg ⟨[.int .i64 l0, .int .i64 l1, .int .i64 l2]⟩), .v (.agg ⟨[.int .i64 m0, .int .i64 m1, .int .i64 m2]⟩)] => some (prB p, Z4Q (ZL p Z8 (l0, l1, l2) (m0, m1, m2)))
 | _ => none
theorem Z6Q : Sound prog 105 Z41 := by
 refine ZN Z7T ZcT (by kernel_rfl) func105 ntmps105 rfl (by kernel_rfl) fun q r E => ?_
 unfold Z41 at E
 split at E
 ·obtain ⟨hp, rfl⟩ := so2 E
  rename_i p Z8 l0 l1 l2 m0 m1 m2
  exact ⟨_, _, rfl, (ZcW p Z8 (l0, l1, l2) (m0, m1, m2)).trans (ZcB p Z8 (l0, l1, l2) (m0, m1, m2) hp)⟩
 ·cases E

def Zdt : Sums := ⟨tblS [(103, Zb3), (104, Z6U), (105, Z41), (90, Z2e), (91, Z5M)], tblM [], false, false⟩
theorem Zjt : ZJ prog Zdt := ⟨ZD ⟨⟨call103, ZjW⟩, ⟨call104, ZaG⟩, ⟨call105, Z6Q⟩, ⟨call90, Z2d⟩, ⟨call91, Z72⟩, ⟨⟩⟩, tM⟩
def Z8Q (p Z8 : Int) (a : P2) (l : P3) : Option ((Int × Int × Int × Int × Int × Int) × Int) :=
 (if ((Z0D p a l) == 0) = true then (if (!(Z4U Z8)) = true then some ((0, 0, 0, 0, 0, 0), 2) else (if ((Z0D p a l) == 0) = true then (if (prB p) = true then (if (ZL p Z8 l l) = true then some ((0, 0, 0, 0, 0, 0), 5) else (if ((Z0D p a l) != 0) = true then some ((0, 0, 0, 0, 0, 0), (Z0D p a l)) else (if (Z8 == 1) = true then (if (prB p) = true then (if (prB p) = true then (if (prB p) = true then (if (prB p) = true then (if (prB p) = true then (if (prB p) = true then (if (prB p && (Nat.beq 6 6 && Nat.beq [(Z4 (wI ((wI ((wI (l.1 * l.1)) - (wI (l.2.1 * l.2.1)))) - (wI (l.1 * l.1)))) p), (Z4 (wI (0 - (wI ((wI (2 * l.1)) * l.2.1)))) p), (Z4 (wI ((wI (0 - (wI ((wI (l.1 * l.1)) - (wI (l.2.1 * l.2.1)))))) - (wI (l.2.1 * l.2.1)))) p), (Z4 (wI ((wI ((wI ((-2) * (wI ((wI (l.1 * l.1)) - (wI (l.2.1 * l.2.1)))))) * a.1)) - (wI ((wI (2 * l.1)) * l.2.2)))) p), (Z4 (wI ((wI ((wI (2 * (wI ((wI (l.1 * l.1)) - (wI (l.2.1 * l.2.1)))))) * a.2)) - (wI ((wI (2 * l.2.1)) * l.2.2)))) p), (Z4 (wI ((wI ((wI ((wI (l.1 * l.1)) - (wI (l.2.1 * l.2.1)))) * (wI ((wI (a.1 * a.1)) - (wI (a.2 * a.2)))))) - (wI (l.2.2 * l.2.2)))) p)].length 6)) = true then some (((ZO p 6 [(Z4 (wI ((wI ((wI (l.1 * l.1)) - (wI (l.2.1 * l.2.1)))) - (wI (l.1 * l.1)))) p), (Z4 (wI (0 - (wI ((wI (2 * l.1)) * l.2.1)))) p), (Z4 (wI ((wI (0 - (wI ((wI (l.1 * l.1)) - (wI (l.2.1 * l.2.1)))))) - (wI (l.2.1 * l.2.1)))) p), (Z4 (wI ((wI ((wI ((-2) * (wI ((wI (l.1 * l.1)) - (wI (l.2.1 * l.2.1)))))) * a.1)) - (wI ((wI (2 * l.1)) * l.2.2)))) p), (Z4 (wI ((wI ((wI (2 * (wI ((wI (l.1 * l.1)) - (wI (l.2.1 * l.2.1)))))) * a.2)) - (wI ((wI (2 * l.2.1)) * l.2.2)))) p), (Z4 (wI ((wI ((wI ((wI (l.1 * l.1)) - (wI (l.2.1 * l.2.1)))) * (wI ((wI (a.1 * a.1)) - (wI (a.2 * a.2)))))) - (wI (l.2.2 * l.2.2)))) p)]).1), 0) else none) else none) else none) else none) else none) else none) else none) else (if (Z8 == 2) = true then (if (prB p) = true then (if (prB p) = true then (if (prB p) = true then (if (prB p) = true then (if (prB p) = true then (if (prB p) = true then (if (prB p && (Nat.beq 6 6 && Nat.beq [(Z4 (wI (0 - (wI (l.1 * l.1)))) p), (Z4 (wI ((wI (2 * (wI ((wI (2 * l.1)) * l.2.1)))) - (wI ((wI (2 * l.1)) * l.2.1)))) p), (Z4 (wI (0 - (wI (l.2.1 * l.2.1)))) p), (Z4 (wI ((wI ((wI ((-2) * (wI ((wI (2 * l.1)) * l.2.1)))) * a.2)) - (wI ((wI (2 * l.1)) * l.2.2)))) p), (Z4 (wI ((wI ((wI ((-2) * (wI ((wI (2 * l.1)) * l.2.1)))) * a.1)) - (wI ((wI (2 * l.2.1)) * l.2.2)))) p), (Z4 (wI ((wI ((wI ((wI (2 * (wI ((wI (2 * l.1)) * l.2.1)))) * a.1)) * a.2)) - (wI (l.2.2 * l.2.2)))) p)].length 6)) = true then some (((ZO p 6 [(Z4 (wI (0 - (wI (l.1 * l.1)))) p), (Z4 (wI ((wI (2 * (wI ((wI (2 * l.1)) * l.2.1)))) - (wI ((wI (2 * l.1)) * l.2.1)))) p), (Z4 (wI (0 - (wI (l.2.1 * l.2.1)))) p), (Z4 (wI ((wI ((wI ((-2) * (wI ((wI (2 * l.1)) * l.2.1)))) * a.2)) - (wI ((wI (2 * l.1)) * l.2.2)))) p), (Z4 (wI ((wI ((wI ((-2) * (wI ((wI (2 * l.1)) * l.2.1)))) * a.1)) - (wI ((wI (2 * l.2.1)) * l.2.2)))) p), (Z4 (wI ((wI ((wI ((wI (2 * (wI ((wI (2 * l.1)) * l.2.1)))) * a.1)) * a.2)) - (wI (l.2.2 * l.2.2)))) p)]).1), 0) else none) else none) else none) else none) else none) else none) else none) else (if (prB p) = true then (if (prB p) = true then (if (prB p) = true then (if (prB p) = true then (if (prB p) = true then (if (prB p) = true then (if (prB p && (Nat.beq 6 6 && Nat.beq [(Z4 (wI ((wI ((wI (l.1 * l.1)) + (wI (l.2.1 * l.2.1)))) - (wI (l.1 * l.1)))) p), (Z4 (wI (0 - (wI ((wI (2 * l.1)) * l.2.1)))) p), (Z4 (wI ((wI ((wI (l.1 * l.1)) + (wI (l.2.1 * l.2.1)))) - (wI (l.2.1 * l.2.1)))) p), (Z4 (wI ((wI ((wI ((-2) * (wI ((wI (l.1 * l.1)) + (wI (l.2.1 * l.2.1)))))) * a.1)) - (wI ((wI (2 * l.1)) * l.2.2)))) p), (Z4 (wI ((wI ((wI ((-2) * (wI ((wI (l.1 * l.1)) + (wI (l.2.1 * l.2.1)))))) * a.2)) - (wI ((wI (2 * l.2.1)) * l.2.2)))) p), (Z4 (wI ((wI ((wI ((wI (l.1 * l.1)) + (wI (l.2.1 * l.2.1)))) * (wI ((wI (a.1 * a.1)) + (wI (a.2 * a.2)))))) - (wI (l.2.2 * l.2.2)))) p)].length 6)) = true then some (((ZO p 6 [(Z4 (wI ((wI ((wI (l.1 * l.1)) + (wI (l.2.1 * l.2.1)))) - (wI (l.1 * l.1)))) p), (Z4 (wI (0 - (wI ((wI (2 * l.1)) * l.2.1)))) p), (Z4 (wI ((wI ((wI (l.1 * l.1)) + (wI (l.2.1 * l.2.1)))) - (wI (l.2.1 * l.2.1)))) p), (Z4 (wI ((wI ((wI ((-2) * (wI ((wI (l.1 * l.1)) + (wI (l.2.1 * l.2.1)))))) * a.1)) - (wI ((wI (2 * l.1)) * l.2.2)))) p), (Z4 (wI ((wI ((wI ((-2) * (wI ((wI (l.1 * l.1)) + (wI (l.2.1 * l.2.1)))))) * a.2)) - (wI ((wI (2 * l.2.1)) * l.2.2)))) p), (Z4 (wI ((wI ((wI ((wI (l.1 * l.1)) + (wI (l.2.1 * l.2.1)))) * (wI ((wI (a.1 * a.1)) + (wI (a.2 * a.2)))))) - (wI (l.2.2 * l.2.2)))) p)]).1), 0) else none) else none) else none) else none) else none) else none) else none))))) else none) else (if ((Z0D p a l) != 0) = true then some ((0, 0, 0, 0, 0, 0), (Z0D p a l)) else (if (Z8 == 1) = true then (if (prB p) = true then (if (prB p) = true then (if (prB p) = true then (if (prB p) = true then (if (prB p) = true then (if (prB p) = true then (if (prB p && (Nat.beq 6 6 && Nat.beq [(Z4 (wI ((wI ((wI (l.1 * l.1)) - (wI (l.2.1 * l.2.1)))) - (wI (l.1 * l.1)))) p), (Z4 (wI (0 - (wI ((wI (2 * l.1)) * l.2.1)))) p), (Z4 (wI ((wI (0 - (wI ((wI (l.1 * l.1)) - (wI (l.2.1 * l.2.1)))))) - (wI (l.2.1 * l.2.1)))) p), (Z4 (wI ((wI ((wI ((-2) * (wI ((wI (l.1 * l.1)) - (wI (l.2.1 * l.2.1)))))) * a.1)) - (wI ((wI (2 * l.1)) * l.2.2)))) p), (Z4 (wI ((wI ((wI (2 * (wI ((wI (l.1 * l.1)) - (wI (l.2.1 * l.2.1)))))) * a.2)) - (wI ((wI (2 * l.2.1)) * l.2.2)))) p), (Z4 (wI ((wI ((wI ((wI (l.1 * l.1)) - (wI (l.2.1 * l.2.1)))) * (wI ((wI (a.1 * a.1)) - (wI (a.2 * a.2)))))) - (wI (l.2.2 * l.2.2)))) p)].length 6)) = true then some (((ZO p 6 [(Z4 (wI ((wI ((wI (l.1 * l.1)) - (wI (l.2.1 * l.2.1)))) - (wI (l.1 * l.1)))) p), (Z4 (wI (0 - (wI ((wI (2 * l.1)) * l.2.1)))) p), (Z4 (wI ((wI (0 - (wI ((wI (l.1 * l.1)) - (wI (l.2.1 * l.2.1)))))) - (wI (l.2.1 * l.2.1)))) p), (Z4 (wI ((wI ((wI ((-2) * (wI ((wI (l.1 * l.1)) - (wI (l.2.1 * l.2.1)))))) * a.1)) - (wI ((wI (2 * l.1)) * l.2.2)))) p), (Z4 (wI ((wI ((wI (2 * (wI ((wI (l.1 * l.1)) - (wI (l.2.1 * l.2.1)))))) * a.2)) - (wI ((wI (2 * l.2.1)) * l.2.2)))) p), (Z4 (wI ((wI ((wI ((wI (l.1 * l.1)) - (wI (l.2.1 * l.2.1)))) * (wI ((wI (a.1 * a.1)) - (wI (a.2 * a.2)))))) - (wI (l.2.2 * l.2.2)))) p)]).1), 0) else none) else none) else none) else none) else none) else none) else none) else (if (Z8 == 2) = true then (if (prB p) = true then (if (prB p) = true then (if (prB p) = true then (if (prB p) = true then (if (prB p) = true then (if (prB p) = true then (if (prB p && (Nat.beq 6 6 && Nat.beq [(Z4 (wI (0 - (wI (l.1 * l.1)))) p), (Z4 (wI ((wI (2 * (wI ((wI (2 * l.1)) * l.2.1)))) - (wI ((wI (2 * l.1)) * l.2.1)))) p), (Z4 (wI (0 - (wI (l.2.1 * l.2.1)))) p), (Z4 (wI ((wI ((wI ((-2) * (wI ((wI (2 * l.1)) * l.2.1)))) * a.2)) - (wI ((wI (2 * l.1)) * l.2.2)))) p), (Z4 (wI ((wI ((wI ((-2) * (wI ((wI (2 * l.1)) * l.2.1)))) * a.1)) - (wI ((wI (2 * l.2.1)) * l.2.2)))) p), (Z4 (wI ((wI ((wI ((wI (2 * (wI ((wI (2 * l.1)) * l.2.1)))) * a.1)) * a.2)) - (wI (l.2.2 * l.2.2)))) p)].length 6)) = true then some (((ZO p 6 [(Z4 (wI (0 - (wI (l.1 * l.1)))) p), (Z4 (wI ((wI (2 * (wI ((wI (2 * l.1)) * l.2.1)))) - (wI ((wI (2 * l.1)) * l.2.1)))) p), (Z4 (wI (0 - (wI (l.2.1 * l.2.1)))) p), (Z4 (wI ((wI ((wI ((-2) * (wI ((wI (2 * l.1)) * l.2.1)))) * a.2)) - (wI ((wI (2 * l.1)) * l.2.2)))) p), (Z4 (wI ((wI ((wI ((-2) * (wI ((wI (2 * l.1)) * l.2.1)))) * a.1)) - (wI ((wI (2 * l.2.1)) * l.2.2)))) p), (Z4 (wI ((wI ((wI ((wI (2 * (wI ((wI (2 * l.1)) * l.2.1)))) * a.1)) * a.2)) - (wI (l.2.2 * l.2.2)))) p)]).1), 0) else none) else none) else none) else none) else none) else none) else none) else (if (prB p) = true then (if (prB p) = true then (if (prB p) = true then (if (prB p) = true then (if (prB p) = true then (if (prB p) = true then (if (prB p && (Nat.beq 6 6 && Nat.beq [(Z4 (wI ((wI ((wI (l.1 * l.1)) + (wI (l.2.1 * l.2.1)))) - (wI (l.1 * l.1)))) p), (Z4 (wI (0 - (wI ((wI (2 * l.1)) * l.2.1)))) p), (Z4 (wI ((wI ((wI (l.1 * l.1)) + (wI (l.2.1 * l.2.1)))) - (wI (l.2.1 * l.2.1)))) p), (Z4 (wI ((wI ((wI ((-2) * (wI ((wI (l.1 * l.1)) + (wI (l.2.1 * l.2.1)))))) * a.1)) - (wI ((wI (2 * l.1)) * l.2.2)))) p), (Z4 (wI ((wI ((wI ((-2) * (wI ((wI (l.1 * l.1)) + (wI (l.2.1 * l.2.1)))))) * a.2)) - (wI ((wI (2 * l.2.1)) * l.2.2)))) p), (Z4 (wI ((wI ((wI ((wI (l.1 * l.1)) + (wI (l.2.1 * l.2.1)))) * (wI ((wI (a.1 * a.1)) + (wI (a.2 * a.2)))))) - (wI (l.2.2 * l.2.2)))) p)].length 6)) = true then some (((ZO p 6 [(Z4 (wI ((wI ((wI (l.1 * l.1)) + (wI (l.2.1 * l.2.1)))) - (wI (l.1 * l.1)))) p), (Z4 (wI (0 - (wI ((wI (2 * l.1)) * l.2.1)))) p), (Z4 (wI ((wI ((wI (l.1 * l.1)) + (wI (l.2.1 * l.2.1)))) - (wI (l.2.1 * l.2.1)))) p), (Z4 (wI ((wI ((wI ((-2) * (wI ((wI (l.1 * l.1)) + (wI (l.2.1 * l.2.1)))))) * a.1)) - (wI ((wI (2 * l.1)) * l.2.2)))) p), (Z4 (wI ((wI ((wI ((-2) * (wI ((wI (l.1 * l.1)) + (wI (l.2.1 * l.2.1)))))) * a.2)) - (wI ((wI (2 * l.2.1)) * l.2.2)))) p), (Z4 (wI ((wI ((wI ((wI (l.1 * l.1)) + (wI (l.2.1 * l.2.1)))) * (wI ((wI (a.1 * a.1)) + (wI (a.2 * a.2)))))) - (wI (l.2.2 * l.2.2)))) p)]).1), 0) else none) else none) else none) else none) else none) else none) else none)))))) else (if ((Z0D p a l) == 0) = true then (if (prB p) = true then (if (ZL p Z8 l l) = true then some ((0, 0, 0, 0, 0, 0), 5) else (if ((Z0D p a l) != 0) = true then some ((0, 0, 0, 0, 0, 0), (Z0D p a l)) else (if (Z8 == 1) = true then (if (prB p) = true then (if (prB p) = true then (if (prB p) = true then (if (prB p) = true then (if (prB p) = true then (if (prB p) = true then (if (prB p && (Nat.beq 6 6 && Nat.beq [(Z4 (wI ((wI ((wI (l.1 * l.1)) - (wI (l.2.1 * l.2.1)))) - (wI (l.1 * l.1)))) p), (Z4 (wI (0 - (wI ((wI (2 * l.1)) * l.2.1)))) p), (Z4 (wI ((wI (0 - (wI ((wI (l.1 * l.1)) - (wI (l.2.1 * l.2.1)))))) - (wI (l.2.1 * l.2.1)))) p), (Z4 (wI ((wI ((wI ((-2) * (wI ((wI (l.1 * l.1)) - (wI (l.2.1 * l.2.1)))))) * a.1)) - (wI ((wI (2 * l.1)) * l.2.2)))) p), (Z4 (wI ((wI ((wI (2 * (wI ((wI (l.1 * l.1)) - (wI (l.2.1 * l.2.1)))))) * a.2)) - (wI ((wI (2 * l.2.1)) * l.2.2)))) p), (Z4 (wI ((wI ((wI ((wI (l.1 * l.1)) - (wI (l.2.1 * l.2.1)))) * (wI ((wI (a.1 * a.1)) - (wI (a.2 * a.2)))))) - (wI (l.2.2 * l.2.2)))) p)].length 6)) = true then some (((ZO p 6 [(Z4 (wI ((wI ((wI (l.1 * l.1)) - (wI (l.2.1 * l.2.1)))) - (wI (l.1 * l.1)))) p), (Z4 (wI (0 - (wI ((wI (2 * l.1)) * l.2.1)))) p), (Z4 (wI ((wI (0 - (wI ((wI (l.1 * l.1)) - (wI (l.2.1 * l.2.1)))))) - (wI (l.2.1 * l.2.1)))) p), (Z4 (wI ((wI ((wI ((-2) * (wI ((wI (l.1 * l.1)) - (wI (l.2.1 * l.2.1)))))) * a.1)) - (wI ((wI (2 * l.1)) * l.2.2)))) p), (Z4 (wI ((wI ((wI (2 * (wI ((wI (l.1 * l.1)) - (wI (l.2.1 * l.2.1)))))) * a.2)) - (wI ((wI (2 * l.2.1)) * l.2.2)))) p), (Z4 (wI ((wI ((wI ((wI (l.1 * l.1)) - (wI (l.2.1 * l.2.1)))) * (wI ((wI (a.1 * a.1)) - (wI (a.2 * a.2)))))) - (wI (l.2.2 * l.2.2)))) p)]).1), 0) else none) else none) else none) else none) else none) else none) else none) else (if (Z8 == 2) = true then (if (prB p) = true then (if (prB p) = true then (if (prB p) = true then (if (prB p) = true then (if (prB p) = true then (if (prB p) = true then (if (prB p && (Nat.beq 6 6 && Nat.beq [(Z4 (wI (0 - (wI (l.1 * l.1)))) p), (Z4 (wI ((wI (2 * (wI ((wI (2 * l.1)) * l.2.1)))) - (wI ((wI (2 * l.1)) * l.2.1)))) p), (Z4 (wI (0 - (wI (l.2.1 * l.2.1)))) p), (Z4 (wI ((wI ((wI ((-2) * (wI ((wI (2 * l.1)) * l.2.1)))) * a.2)) - (wI ((wI (2 * l.1)) * l.2.2)))) p), (Z4 (wI ((wI ((wI ((-2) * (wI ((wI (2 * l.1)) * l.2.1)))) * a.1)) - (wI ((wI (2 * l.2.1)) * l.2.2)))) p), (Z4 (wI ((wI ((wI ((wI (2 * (wI ((wI (2 * l.1)) * l.2.1)))) * a.1)) * a.2)) - (wI (l.2.2 * l.2.2)))) p)].length 6)) = true then some (((ZO p 6 [(Z4 (wI (0 - (wI (l.1 * l.1)))) p), (Z4 (wI ((wI (2 * (wI ((wI (2 * l.1)) * l.2.1)))) - (wI ((wI (2 * l.1)) * l.2.1)))) p), (Z4 (wI (0 - (wI (l.2.1 * l.2.1)))) p), (Z4 (wI ((wI ((wI ((-2) * (wI ((wI (2 * l.1)) * l.2.1)))) * a.2)) - (wI ((wI (2 * l.1)) * l.2.2)))) p), (Z4 (wI ((wI ((wI ((-2) * (wI ((wI (2 * l.1)) * l.2.1)))) * a.1)) - (wI ((wI (2 * l.2.1)) * l.2.2)))) p), (Z4 (wI ((wI ((wI ((wI (2 * (wI ((wI (2 * l.1)) * l.2.1)))) * a.1)) * a.2)) - (wI (l.2.2 * l.2.2)))) p)]).1), 0) else none) else none) else none) else none) else none) else none) else none) else (if (prB p) = true then (if (prB p) = true then (if (prB p) = true then (if (prB p) = true then (if (prB p) = true then (if (prB p) = true then (if (prB p && (Nat.beq 6 6 && Nat.beq [(Z4 (wI ((wI ((wI (l.1 * l.1)) + (wI (l.2.1 * l.2.1)))) - (wI (l.1 * l.1)))) p), (Z4 (wI (0 - (wI ((wI (2 * l.1)) * l.2.1)))) p), (Z4 (wI ((wI ((wI (l.1 * l.1)) + (wI (l.2.1 * l.2.1)))) - (wI (l.2.1 * l.2.1)))) p), (Z4 (wI ((wI ((wI ((-2) * (wI ((wI (l.1 * l.1)) + (wI (l.2.1 * l.2.1)))))) * a.1)) - (wI ((wI (2 * l.1)) * l.2.2)))) p), (Z4 (wI ((wI ((wI ((-2) * (wI ((wI (l.1 * l.1)) + (wI (l.2.1 * l.2.1)))))) * a.2)) - (wI ((wI (2 * l.2.1)) * l.2.2)))) p), (Z4 (wI ((wI ((wI ((wI (l.1 * l.1)) + (wI (l.2.1 * l.2.1)))) * (wI ((wI (a.1 * a.1)) + (wI (a.2 * a.2)))))) - (wI (l.2.2 * l.2.2)))) p)].length 6)) = true then some (((ZO p 6 [(Z4 (wI ((wI ((wI (l.1 * l.1)) + (wI (l.2.1 * l.2.1)))) - (wI (l.1 * l.1)))) p), (Z4 (wI (0 - (wI ((wI (2 * l.1)) * l.2.1)))) p), (Z4 (wI ((wI ((wI (l.1 * l.1)) + (wI (l.2.1 * l.2.1)))) - (wI (l.2.1 * l.2.1)))) p), (Z4 (wI ((wI ((wI ((-2) * (wI ((wI (l.1 * l.1)) + (wI (l.2.1 * l.2.1)))))) * a.1)) - (wI ((wI (2 * l.1)) * l.2.2)))) p), (Z4 (wI ((wI ((wI ((-2) * (wI ((wI (l.1 * l.1)) + (wI (l.2.1 * l.2.1)))))) * a.2)) - (wI ((wI (2 * l.2.1)) * l.2.2)))) p), (Z4 (wI ((wI ((wI ((wI (l.1 * l.1)) + (wI (l.2.1 * l.2.1)))) * (wI ((wI (a.1 * a.1)) + (wI (a.2 * a.2)))))) - (wI (l.2.2 * l.2.2)))) p)]).1), 0) else none) else none) else none) else none) else none) else none) else none))))) else none) else (if ((Z0D p a l) != 0) = true then some ((0, 0, 0, 0, 0, 0), (Z0D p a l)) else (if (Z8 == 1) = true then (if (prB p) = true then (if (prB p) = true then (if (prB p) = true then (if (prB p) = true then (if (prB p) = true then (if (prB p) = true then (if (prB p && (Nat.beq 6 6 && Nat.beq [(Z4 (wI ((wI ((wI (l.1 * l.1)) - (wI (l.2.1 * l.2.1)))) - (wI (l.1 * l.1)))) p), (Z4 (wI (0 - (wI ((wI (2 * l.1)) * l.2.1)))) p), (Z4 (wI ((wI (0 - (wI ((wI (l.1 * l.1)) - (wI (l.2.1 * l.2.1)))))) - (wI (l.2.1 * l.2.1)))) p), (Z4 (wI ((wI ((wI ((-2) * (wI ((wI (l.1 * l.1)) - (wI (l.2.1 * l.2.1)))))) * a.1)) - (wI ((wI (2 * l.1)) * l.2.2)))) p), (Z4 (wI ((wI ((wI (2 * (wI ((wI (l.1 * l.1)) - (wI (l.2.1 * l.2.1)))))) * a.2)) - (wI ((wI (2 * l.2.1)) * l.2.2)))) p), (Z4 (wI ((wI ((wI ((wI (l.1 * l.1)) - (wI (l.2.1 * l.2.1)))) * (wI ((wI (a.1 * a.1)) - (wI (a.2 * a.2)))))) - (wI (l.2.2 * l.2.2)))) p)].length 6)) = true then some (((ZO p 6 [(Z4 (wI ((wI ((wI (l.1 * l.1)) - (wI (l.2.1 * l.2.1)))) - (wI (l.1 * l.1)))) p), (Z4 (wI (0 - (wI ((wI (2 * l.1)) * l.2.1)))) p), (Z4 (wI ((wI (0 - (wI ((wI (l.1 * l.1)) - (wI (l.2.1 * l.2.1)))))) - (wI (l.2.1 * l.2.1)))) p), (Z4 (wI ((wI ((wI ((-2) * (wI ((wI (l.1 * l.1)) - (wI (l.2.1 * l.2.1)))))) * a.1)) - (wI ((wI (2 * l.1)) * l.2.2)))) p), (Z4 (wI ((wI ((wI (2 * (wI ((wI (l.1 * l.1)) - (wI (l.2.1 * l.2.1)))))) * a.2)) - (wI ((wI (2 * l.2.1)) * l.2.2)))) p), (Z4 (wI ((wI ((wI ((wI (l.1 * l.1)) - (wI (l.2.1 * l.2.1)))) * (wI ((wI (a.1 * a.1)) - (wI (a.2 * a.2)))))) - (wI (l.2.2 * l.2.2)))) p)]).1), 0) else none) else none) else none) else none) else none) else none) else none) else (if (Z8 == 2) = true then (if (prB p) = true then (if (prB p) = true then (if (prB p) = true then (if (prB p) = true then (if (prB p) = true then (if (prB p) = true then (if (prB p && (Nat.beq 6 6 && Nat.beq [(Z4 (wI (0 - (wI (l.1 * l.1)))) p), (Z4 (wI ((wI (2 * (wI ((wI (2 * l.1)) * l.2.1)))) - (wI ((wI (2 * l.1)) * l.2.1)))) p), (Z4 (wI (0 - (wI (l.2.1 * l.2.1)))) p), (Z4 (wI ((wI ((wI ((-2) * (wI ((wI (2 * l.1)) * l.2.1)))) * a.2)) - (wI ((wI (2 * l.1)) * l.2.2)))) p), (Z4 (wI ((wI ((wI ((-2) * (wI ((wI (2 * l.1)) * l.2.1)))) * a.1)) - (wI ((wI (2 * l.2.1)) * l.2.2)))) p), (Z4 (wI ((wI ((wI ((wI (2 * (wI ((wI (2 * l.1)) * l.2.1)))) * a.1)) * a.2)) - (wI (l.2.2 * l.2.2)))) p)].length 6)) = true then some (((ZO p 6 [(Z4 (wI (0 - (wI (l.1 * l.1)))) p), (Z4 (wI ((wI (2 * (wI ((wI (2 * l.1)) * l.2.1)))) - (wI ((wI (2 * l.1)) * l.2.1)))) p), (Z4 (wI (0 - (wI (l.2.1 * l.2.1)))) p), (Z4 (wI ((wI ((wI ((-2) * (wI ((wI (2 * l.1)) * l.2.1)))) * a.2)) - (wI ((wI (2 * l.1)) * l.2.2)))) p), (Z4 (wI ((wI ((wI ((-2) * (wI ((wI (2 * l.1)) * l.2.1)))) * a.1)) - (wI ((wI (2 * l.2.1)) * l.2.2)))) p), (Z4 (wI ((wI ((wI ((wI (2 * (wI ((wI (2 * l.1)) * l.2.1)))) * a.1)) * a.2)) - (wI (l.2.2 * l.2.2)))) p)]).1), 0) else none) else none) else none) else none) else none) else none) else none) else (if (prB p) = true then (if (prB p) = true then (if (prB p) = true then (if (prB p) = true then (if (prB p) = true then (if (prB p) = true then (if (prB p && (Nat.beq 6 6 && Nat.beq [(Z4 (wI ((wI ((wI (l.1 * l.1)) + (wI (l.2.1 * l.2.1)))) - (wI (l.1 * l.1)))) p), (Z4 (wI (0 - (wI ((wI (2 * l.1)) * l.2.1)))) p), (Z4 (wI ((wI ((wI (l.1 * l.1)) + (wI (l.2.1 * l.2.1)))) - (wI (l.2.1 * l.2.1)))) p), (Z4 (wI ((wI ((wI ((-2) * (wI ((wI (l.1 * l.1)) + (wI (l.2.1 * l.2.1)))))) * a.1)) - (wI ((wI (2 * l.1)) * l.2.2)))) p), (Z4 (wI ((wI ((wI ((-2) * (wI ((wI (l.1 * l.1)) + (wI (l.2.1 * l.2.1)))))) * a.2)) - (wI ((wI (2 * l.2.1)) * l.2.2)))) p), (Z4 (wI ((wI ((wI ((wI (l.1 * l.1)) + (wI (l.2.1 * l.2.1)))) * (wI ((wI (a.1 * a.1)) + (wI (a.2 * a.2)))))) - (wI (l.2.2 * l.2.2)))) p)].length 6)) = true then some (((ZO p 6 [(Z4 (wI ((wI ((wI (l.1 * l.1)) + (wI (l.2.1 * l.2.1)))) - (wI (l.1 * l.1)))) p), (Z4 (wI (0 - (wI ((wI (2 * l.1)) * l.2.1)))) p), (Z4 (wI ((wI ((wI (l.1 * l.1)) + (wI (l.2.1 * l.2.1)))) - (wI (l.2.1 * l.2.1)))) p), (Z4 (wI ((wI ((wI ((-2) * (wI ((wI (l.1 * l.1)) + (wI (l.2.1 * l.2.1)))))) * a.1)) - (wI ((wI (2 * l.1)) * l.2.2)))) p), (Z4 (wI ((wI ((wI ((-2) * (wI ((wI (l.1 * l.1)) + (wI (l.2.1 * l.2.1)))))) * a.2)) - (wI ((wI (2 * l.2.1)) * l.2.2)))) p), (Z4 (wI ((wI ((wI ((wI (l.1 * l.1)) + (wI (l.2.1 * l.2.1)))) * (wI ((wI (a.1 * a.1)) + (wI (a.2 * a.2)))))) - (wI (l.2.2 * l.2.2)))) p)]).1), 0) else none) else none) else none) else none) else none) else none) else none))))))
theorem ZjH (p Z8 : Int) (a : P2) (l : P3) : eT Zdt 34 184 Ze [pI p, pI Z8, pA a, pB l] = Z8Q p Z8 a l := by
 kernel_rfl
def Z00 (p Z8 : Int) (a : P2) (l : P3) : (Int × Int × Int × Int × Int × Int) × Int :=
 (if ((Z0D p a l) == 0) = true then (if (!(Z4U Z8)) = true then ((0, 0, 0, 0, 0, 0), 2) else (if ((Z0D p a l) == 0) = true then (if (ZL p Z8 l l) = true then ((0, 0, 0, 0, 0, 0), 5) else (if ((Z0D p a l) != 0) = true then ((0, 0, 0, 0, 0, 0), (Z0D p a l)) else (if (Z8 == 1) = true then (((ZO p 6 [(Z4 (wrap64 ((wrap64 ((wrap64 (l.1 * l.1)) - (wrap64 (l.2.1 * l.2.1)))) - (wrap64 (l.1 * l.1)))) p), (Z4 (wrap64 (0 - (wrap64 ((wrap64 (2 * l.1)) * l.2.1)))) p), (Z4 (wrap64 ((wrap64 (0 - (wrap64 ((wrap64 (l.1 * l.1)) - (wrap64 (l.2.1 * l.2.1)))))) - (wrap64 (l.2.1 * l.2.1)))) p), (Z4 (wrap64 ((wrap64 ((wrap64 ((-2) * (wrap64 ((wrap64 (l.1 * l.1)) - (wrap64 (l.2.1 * l.2.1)))))) * a.1)) - (wrap64 ((wrap64 (2 * l.1)) * l.2.2)))) p), (Z4 (wrap64 ((wrap64 ((wrap64 (2 * (wrap64 ((wrap64 (l.1 * l.1)) - (wrap64 (l.2.1 * l.2.1)))))) * a.2)) - (wrap64 ((wrap64 (2 * l.2.1)) * l.2.2)))) p), (Z4 (wrap64 ((wrap64 ((wrap64 ((wrap64 (l.1 * l.1)) - (wrap64 (l.2.1 * l.2.1)))) * (wrap64 ((wrap64 (a.1 * a.1)) - (wrap64 (a.2 * a.2)))))) - (wrap64 (l.2.2 * l.2.2)))) p)]).1), 0) else (if (Z8 == 2) = true then (((ZO p 6 [(Z4 (wrap64 (0 - (wrap64 (l.1 * l.1)))) p), (Z4 (wrap64 ((wrap64 (2 * (wrap64 ((wrap64 (2 * l.1)) * l.2.1)))) - (wrap64 ((wrap64 (2 * l.1)) * l.2.1)))) p), (Z4 (wrap64 (0 - (wrap64 (l.2.1 * l.2.1)))) p), (Z4 (wrap64 ((wrap64 ((wrap64 ((-2) * (wrap64 ((wrap64 (2 * l.1)) * l.2.1)))) * a.2)) - (wrap64 ((wrap64 (2 * l.1)) * l.2.2)))) p), (Z4 (wrap64 ((wrap64 ((wrap64 ((-2) * (wrap64 ((wrap64 (2 * l.1)) * l.2.1)))) * a.1)) - (wrap64 ((wrap64 (2 * l.2.1)) * l.2.2)))) p), (Z4 (wrap64 ((wrap64 ((wrap64 ((wrap64 (2 * (wrap64 ((wrap64 (2 * l.1)) * l.2.1)))) * a.1)) * a.2)) - (wrap64 (l.2.2 * l.2.2)))) p)]).1), 0) else (((ZO p 6 [(Z4 (wrap64 ((wrap64 ((wrap64 (l.1 * l.1)) + (wrap64 (l.2.1 * l.2.1)))) - (wrap64 (l.1 * l.1)))) p), (Z4 (wrap64 (0 - (wrap64 ((wrap64 (2 * l.1)) * l.2.1)))) p), (Z4 (wrap64 ((wrap64 ((wrap64 (l.1 * l.1)) + (wrap64 (l.2.1 * l.2.1)))) - (wrap64 (l.2.1 * l.2.1)))) p), (Z4 (wrap64 ((wrap64 ((wrap64 ((-2) * (wrap64 ((wrap64 (l.1 * l.1)) + (wrap64 (l.2.1 * l.2.1)))))) * a.1)) - (wrap64 ((wrap64 (2 * l.1)) * l.2.2)))) p), (Z4 (wrap64 ((wrap64 ((wrap64 ((-2) * (wrap64 ((wrap64 (l.1 * l.1)) + (wrap64 (l.2.1 * l.2.1)))))) * a.2)) - (wrap64 ((wrap64 (2 * l.2.1)) * l.2.2)))) p), (Z4 (wrap64 ((wrap64 ((wrap64 ((wrap64 (l.1 * l.1)) + (wrap64 (l.2.1 * l.2.1)))) * (wrap64 ((wrap64 (a.1 * a.1)) + (wrap64 (a.2 * a.2)))))) - (wrap64 (l.2.2 * l.2.2)))) p)]).1), 0))))) else (if ((Z0D p a l) != 0) = true then ((0, 0, 0, 0, 0, 0), (Z0D p a l)) else (if (Z8 == 1) = true then (((ZO p 6 [(Z4 (wrap64 ((wrap64 ((wrap64 (l.1 * l.1)) - (wrap64 (l.2.1 * l.2.1)))) - (wrap64 (l.1 * l.1)))) p), (Z4 (wrap64 (0 - (wrap64 ((wrap64 (2 * l.1)) * l.2.1)))) p), (Z4 (wrap64 ((wrap64 (0 - (wrap64 ((wrap64 (l.1 * l.1)) - (wrap64 (l.2.1 * l.2.1)))))) - (wrap64 (l.2.1 * l.2.1)))) p), (Z4 (wrap64 ((wrap64 ((wrap64 ((-2) * (wrap64 ((wrap64 (l.1 * l.1)) - (wrap64 (l.2.1 * l.2.1)))))) * a.1)) - (wrap64 ((wrap64 (2 * l.1)) * l.2.2)))) p), (Z4 (wrap64 ((wrap64 ((wrap64 (2 * (wrap64 ((wrap64 (l.1 * l.1)) - (wrap64 (l.2.1 * l.2.1)))))) * a.2)) - (wrap64 ((wrap64 (2 * l.2.1)) * l.2.2)))) p), (Z4 (wrap64 ((wrap64 ((wrap64 ((wrap64 (l.1 * l.1)) - (wrap64 (l.2.1 * l.2.1)))) * (wrap64 ((wrap64 (a.1 * a.1)) - (wrap64 (a.2 * a.2)))))) - (wrap64 (l.2.2 * l.2.2)))) p)]).1), 0) else (if (Z8 == 2) = true then (((ZO p 6 [(Z4 (wrap64 (0 - (wrap64 (l.1 * l.1)))) p), (Z4 (wrap64 ((wrap64 (2 * (wrap64 ((wrap64 (2 * l.1)) * l.2.1)))) - (wrap64 ((wrap64 (2 * l.1)) * l.2.1)))) p), (Z4 (wrap64 (0 - (wrap64 (l.2.1 * l.2.1)))) p), (Z4 (wrap64 ((wrap64 ((wrap64 ((-2) * (wrap64 ((wrap64 (2 * l.1)) * l.2.1)))) * a.2)) - (wrap64 ((wrap64 (2 * l.1)) * l.2.2)))) p), (Z4 (wrap64 ((wrap64 ((wrap64 ((-2) * (wrap64 ((wrap64 (2 * l.1)) * l.2.1)))) * a.1)) - (wrap64 ((wrap64 (2 * l.2.1)) * l.2.2)))) p), (Z4 (wrap64 ((wrap64 ((wrap64 ((wrap64 (2 * (wrap64 ((wrap64 (2 * l.1)) * l.2.1)))) * a.1)) * a.2)) - (wrap64 (l.2.2 * l.2.2)))) p)]).1), 0) else (((ZO p 6 [(Z4 (wrap64 ((wrap64 ((wrap64 (l.1 * l.1)) + (wrap64 (l.2.1 * l.2.1)))) - (wrap64 (l.1 * l.1)))) p), (Z4 (wrap64 (0 - (wrap64 ((wrap64 (2 * l.1)) * l.2.1)))) p), (Z4 (wrap64 ((wrap64 ((wrap64 (l.1 * l.1)) + (wrap64 (l.2.1 * l.2.1)))) - (wrap64 (l.2.1 * l.2.1)))) p), (Z4 (wrap64 ((wrap64 ((wrap64 ((-2) * (wrap64 ((wrap64 (l.1 * l.1)) + (wrap64 (l.2.1 * l.2.1)))))) * a.1)) - (wrap64 ((wrap64 (2 * l.1)) * l.2.2)))) p), (Z4 (wrap64 ((wrap64 ((wrap64 ((-2) * (wrap64 ((wrap64 (l.1 * l.1)) + (wrap64 (l.2.1 * l.2.1)))))) * a.2)) - (wrap64 ((wrap64 (2 * l.2.1)) * l.2.2)))) p), (Z4 (wrap64 ((wrap64 ((wrap64 ((wrap64 (l.1 * l.1)) + (wrap64 (l.2.1 * l.2.1)))) * (wrap64 ((wrap64 (a.1 * a.1)) + (wrap64 (a.2 * a.2)))))) - (wrap64 (l.2.2 * l.2.2)))) p)]).1), 0)))))) else (if ((Z0D p a l) == 0) = true then (if (ZL p Z8 l l) = true then ((0, 0, 0, 0, 0, 0), 5) else (if ((Z0D p a l) != 0) = true then ((0, 0, 0, 0, 0, 0), (Z0D p a l)) else (if (Z8 == 1) = true then (((ZO p 6 [(Z4 (wrap64 ((wrap64 ((wrap64 (l.1 * l.1)) - (wrap64 (l.2.1 * l.2.1)))) - (wrap64 (l.1 * l.1)))) p), (Z4 (wrap64 (0 - (wrap64 ((wrap64 (2 * l.1)) * l.2.1)))) p), (Z4 (wrap64 ((wrap64 (0 - (wrap64 ((wrap64 (l.1 * l.1)) - (wrap64 (l.2.1 * l.2.1)))))) - (wrap64 (l.2.1 * l.2.1)))) p), (Z4 (wrap64 ((wrap64 ((wrap64 ((-2) * (wrap64 ((wrap64 (l.1 * l.1)) - (wrap64 (l.2.1 * l.2.1)))))) * a.1)) - (wrap64 ((wrap64 (2 * l.1)) * l.2.2)))) p), (Z4 (wrap64 ((wrap64 ((wrap64 (2 * (wrap64 ((wrap64 (l.1 * l.1)) - (wrap64 (l.2.1 * l.2.1)))))) * a.2)) - (wrap64 ((wrap64 (2 * l.2.1)) * l.2.2)))) p), (Z4 (wrap64 ((wrap64 ((wrap64 ((wrap64 (l.1 * l.1)) - (wrap64 (l.2.1 * l.2.1)))) * (wrap64 ((wrap64 (a.1 * a.1)) - (wrap64 (a.2 * a.2)))))) - (wrap64 (l.2.2 * l.2.2)))) p)]).1), 0) else (if (Z8 == 2) = true then (((ZO p 6 [(Z4 (wrap64 (0 - (wrap64 (l.1 * l.1)))) p), (Z4 (wrap64 ((wrap64 (2 * (wrap64 ((wrap64 (2 * l.1)) * l.2.1)))) - (wrap64 ((wrap64 (2 * l.1)) * l.2.1)))) p), (Z4 (wrap64 (0 - (wrap64 (l.2.1 * l.2.1)))) p), (Z4 (wrap64 ((wrap64 ((wrap64 ((-2) * (wrap64 ((wrap64 (2 * l.1)) * l.2.1)))) * a.2)) - (wrap64 ((wrap64 (2 * l.1)) * l.2.2)))) p), (Z4 (wrap64 ((wrap64 ((wrap64 ((-2) * (wrap64 ((wrap64 (2 * l.1)) * l.2.1)))) * a.1)) - (wrap64 ((wrap64 (2 * l.2.1)) * l.2.2)))) p), (Z4 (wrap64 ((wrap64 ((wrap64 ((wrap64 (2 * (wrap64 ((wrap64 (2 * l.1)) * l.2.1)))) * a.1)) * a.2)) - (wrap64 (l.2.2 * l.2.2)))) p)]).1), 0) else (((ZO p 6 [(Z4 (wrap64 ((wrap64 ((wrap64 (l.1 * l.1)) + (wrap64 (l.2.1 * l.2.1)))) - (wrap64 (l.1 * l.1)))) p), (Z4 (wrap64 (0 - (wrap64 ((wrap64 (2 * l.1)) * l.2.1)))) p), (Z4 (wrap64 ((wrap64 ((wrap64 (l.1 * l.1)) + (wrap64 (l.2.1 * l.2.1)))) - (wrap64 (l.2.1 * l.2.1)))) p), (Z4 (wrap64 ((wrap64 ((wrap64 ((-2) * (wrap64 ((wrap64 (l.1 * l.1)) + (wrap64 (l.2.1 * l.2.1)))))) * a.1)) - (wrap64 ((wrap64 (2 * l.1)) * l.2.2)))) p), (Z4 (wrap64 ((wrap64 ((wrap64 ((-2) * (wrap64 ((wrap64 (l.1 * l.1)) + (wrap64 (l.2.1 * l.2.1)))))) * a.2)) - (wrap64 ((wrap64 (2 * l.2.1)) * l.2.2)))) p), (Z4 (wrap64 ((wrap64 ((wrap64 ((wrap64 (l.1 * l.1)) + (wrap64 (l.2.1 * l.2.1)))) * (wrap64 ((wrap64 (a.1 * a.1)) + (wrap64 (a.2 * a.2)))))) - (wrap64 (l.2.2 * l.2.2)))) p)]).1), 0))))) else (if ((Z0D p a l) != 0) = true then ((0, 0, 0, 0, 0, 0), (Z0D p a l)) else (if (Z8 == 1) = true then (((ZO p 6 [(Z4 (wrap64 ((wrap64 ((wrap64 (l.1 * l.1)) - (wrap64 (l.2.1 * l.2.1)))) - (wrap64 (l.1 * l.1)))) p), (Z4 (wrap64 (0 - (wrap64 ((wrap64 (2 * l.1)) * l.2.1)))) p), (Z4 (wrap64 ((wrap64 (0 - (wrap64 ((wrap64 (l.1 * l.1)) - (wrap64 (l.2.1 * l.2.1)))))) - (wrap64 (l.2.1 * l.2.1)))) p), (Z4 (wrap64 ((wrap64 ((wrap64 ((-2) * (wrap64 ((wrap64 (l.1 * l.1)) - (wrap64 (l.2.1 * l.2.1)))))) * a.1)) - (wrap64 ((wrap64 (2 * l.1)) * l.2.2)))) p), (Z4 (wrap64 ((wrap64 ((wrap64 (2 * (wrap64 ((wrap64 (l.1 * l.1)) - (wrap64 (l.2.1 * l.2.1)))))) * a.2)) - (wrap64 ((wrap64 (2 * l.2.1)) * l.2.2)))) p), (Z4 (wrap64 ((wrap64 ((wrap64 ((wrap64 (l.1 * l.1)) - (wrap64 (l.2.1 * l.2.1)))) * (wrap64 ((wrap64 (a.1 * a.1)) - (wrap64 (a.2 * a.2)))))) - (wrap64 (l.2.2 * l.2.2)))) p)]).1), 0) else (if (Z8 == 2) = true then (((ZO p 6 [(Z4 (wrap64 (0 - (wrap64 (l.1 * l.1)))) p), (Z4 (wrap64 ((wrap64 (2 * (wrap64 ((wrap64 (2 * l.1)) * l.2.1)))) - (wrap64 ((wrap64 (2 * l.1)) * l.2.1)))) p), (Z4 (wrap64 (0 - (wrap64 (l.2.1 * l.2.1)))) p), (Z4 (wrap64 ((wrap64 ((wrap64 ((-2) * (wrap64 ((wrap64 (2 * l.1)) * l.2.1)))) * a.2)) - (wrap64 ((wrap64 (2 * l.1)) * l.2.2)))) p), (Z4 (wrap64 ((wrap64 ((wrap64 ((-2) * (wrap64 ((wrap64 (2 * l.1)) * l.2.1)))) * a.1)) - (wrap64 ((wrap64 (2 * l.2.1)) * l.2.2)))) p), (Z4 (wrap64 ((wrap64 ((wrap64 ((wrap64 (2 * (wrap64 ((wrap64 (2 * l.1)) * l.2.1)))) * a.1)) * a.2)) - (wrap64 (l.2.2 * l.2.2)))) p)]).1), 0) else (((ZO p 6 [(Z4 (wrap64 ((wrap64 ((wrap64 (l.1 * l.1)) + (wrap64 (l.2.1 * l.2.1)))) - (wrap64 (l.1 * l.1)))) p), (Z4 (wrap64 (0 - (wrap64 ((wrap64 (2 * l.1)) * l.2.1)))) p), (Z4 (wrap64 ((wrap64 ((wrap64 (l.1 * l.1)) + (wrap64 (l.2.1 * l.2.1)))) - (wrap64 (l.2.1 * l.2.1)))) p), (Z4 (wrap64 ((wrap64 ((wrap64 ((-2) * (wrap64 ((wrap64 (l.1 * l.1)) + (wrap64 (l.2.1 * l.2.1)))))) * a.1)) - (wrap64 ((wrap64 (2 * l.1)) * l.2.2)))) p), (Z4 (wrap64 ((wrap64 ((wrap64 ((-2) * (wrap64 ((wrap64 (l.1 * l.1)) + (wrap64 (l.2.1 * l.2.1)))))) * a.2)) - (wrap64 ((wrap64 (2 * l.2.1)) * l.2.2)))) p), (Z4 (wrap64 ((wrap64 ((wrap64 ((wrap64 (l.1 * l.1)) + (wrap64 (l.2.1 * l.2.1)))) * (wrap64 ((wrap64 (a.1 * a.1)) + (wrap64 (a.2 * a.2)))))) - (wrap64 (l.2.2 * l.2.2)))) p)]).1), 0))))))
theorem Ziw (p Z8 : Int) (a : P2) (l : P3) : Z8Q p Z8 a l = some (Z00 p Z8 a l) := by
 unfold Z8Q Z00
 (try simp only [Z03])
 repeat' (first | with_reducible rfl | refine Z04 (by first | with_reducible rfl | exact Bool.true_or _ | (have hq : prB p = true := (by (with_reducible first | assumption | exact Zjd ‹_› | exact Zpd ‹_›)); first | exact hq | exact ZqM hq | exact Z8o hq (fun _ => rfl) | exact Z8o hq (fun _ => hq) | exact and3 hq hq hq | exact Z1G hq rfl | exact map3_ok hq) | rfl) ?_ | refine ZS (fun _ => ?_) (fun _ => ?_) | rfl)
def Z8h : RunP
 | [.v (.int .i64 p), .v (.int .i64 Z8), .v (.agg ⟨[.int .i64 a0, .int .i64 a1]⟩), .v (.agg ⟨[.int .i64 l0, .int .i64 l1, .int .i64 l2]⟩)] => some (true, Z9Y (Z00 p Z8 (a0, a1) (l0, l1, l2)))
 | _ => none
theorem Zgb : Sound prog 34 Z8h := by
 refine ZN Zej Zjt (by kernel_rfl) func34 ntmps34 rfl (by kernel_rfl) fun q r E => ?_
 unfold Z8h at E
 split at E
 ·obtain ⟨hp, rfl⟩ := so2 E
  rename_i p Z8 a0 a1 l0 l1 l2
  exact ⟨_, _, rfl, (ZjH p Z8 (a0, a1) (l0, l1, l2)).trans (Ziw p Z8 (a0, a1) (l0, l1, l2))⟩
 ·cases E

def Zf7 : Sums := ⟨tblS [(98, Z69), (44, Z6K), (71, Z9k)], tblM [], false, false⟩
theorem ZkA : ZJ prog Zf7 := ⟨ZD ⟨⟨call98, Z8m⟩, ⟨call44, Z98⟩, ⟨call71, Ze4⟩, ⟨⟩⟩, tM⟩
def Z9A (c0 c1 : Int) (c2 : P2) (c3 : P3) : Option (Bool) :=
 (if (Z0P c0) = true then (if (ZI c1 c2) = true then some (Z0S c1 c3) else some false) else some false)
theorem Zlf (c0 c1 : Int) (c2 : P2) (c3 : P3) : eT Zf7 109 17 Z0o [.p [.int .i64 c0], .p [.int .i64 c1], .p [.int .i64 c2.1, .int .i64 c2.2], .p [.int .i64 c3.1, .int .i64 c3.2.1, .int .i64 c3.2.2]] = Z9A c0 c1 c2 c3 := by
 kernel_rfl
def Z5m (c0 c1 : Int) (c2 : P2) (c3 : P3) : Bool :=
 (if (Z0P c0) = true then (if (ZI c1 c2) = true then (Z0S c1 c3) else false) else false)
theorem Zk3 (c0 c1 : Int) (c2 : P2) (c3 : P3) : Z9A c0 c1 c2 c3 = some (Z5m c0 c1 c2 c3) := by
 unfold Z9A Z5m
 (try simp only [Z03])
 repeat' (first | with_reducible rfl | refine ZS (fun _ => ?_) (fun _ => ?_) | rfl)
def Z8Y : RunP
 | [.p [.int .i64 c0], .p [.int .i64 c1], .p [.int .i64 c20, .int .i64 c21], .p [.int .i64 c30, .int .i64 c31, .int .i64 c32]] => some (true, Z4Q (Z5m c0 c1 (c20, c21) (c30, c31, c32)))
 | _ => none
theorem Zhc : Sound prog 109 Z8Y := by
 refine ZN Z7T ZkA (by kernel_rfl) func109 ntmps109 rfl (by kernel_rfl) fun q r E => ?_
 unfold Z8Y at E
 split at E
 ·obtain ⟨hp, rfl⟩ := so2 E
  rename_i c0 c1 c20 c21 c30 c31 c32
  exact ⟨_, _, rfl, (Zlf c0 c1 (c20, c21) (c30, c31, c32)).trans (Zk3 c0 c1 (c20, c21) (c30, c31, c32))⟩
 ·cases E

def ZkO : Sums := ⟨tblS [(41, Z5o), (109, Z8Y), (99, Z9l), (102, Zcp)], tblM [], false, false⟩
theorem ZpH : ZJ prog ZkO := ⟨ZD ⟨⟨call41, Z5N⟩, ⟨call109, Zhc⟩, ⟨call99, Ze5⟩, ⟨call102, Zhf⟩, ⟨⟩⟩, tM⟩
def Zdh (p Z8 : Int) (a : P2) (l : P3) : Option (P2 × Int) :=
 (if ((true) || !(Zo p)) = true then (if ((Zt p (true) (Z5m Z8 p a l)) != 0) = true then some ((0, 0), (Zt p (true) (Z5m Z8 p a l))) else (if (prB p) = true then (if (Z0T p Z8 l) = true then some ((0, 0), 5) else (if (prB p) = true then some ((Z8c p Z8 a l), 0) else none)) else none)) else none)
theorem Zqa (p Z8 : Int) (a : P2) (l : P3) : eT ZkO 38 28 Zl8 [pI p, pI Z8, pA a, pB l] = Zdh p Z8 a l := by
 kernel_rfl
def Z4R (p Z8 : Int) (a : P2) (l : P3) : P2 × Int :=
 (if ((Zt p (true) (Z5m Z8 p a l)) != 0) = true then ((0, 0), (Zt p (true) (Z5m Z8 p a l))) else (if (Z0T p Z8 l) = true then ((0, 0), 5) else ((Z8c p Z8 a l), 0)))
theorem Zpz (p Z8 : Int) (a : P2) (l : P3) : Zdh p Z8 a l = some (Z4R p Z8 a l) := by
 unfold Zdh Z4R
 (try simp only [Z03])
 repeat' (first | with_reducible rfl | refine Z04 (by first | with_reducible rfl | exact Bool.true_or _ | (have hq : prB p = true := (by (with_reducible first | assumption | exact Zbf ‹_› | exact Zc2 ‹_›)); first | exact hq | exact ZqM hq | exact Z8o hq (fun _ => rfl) | exact Z8o hq (fun _ => hq) | exact and3 hq hq hq | exact Z1G hq rfl | exact map3_ok hq) | rfl) ?_ | refine ZS (fun _ => ?_) (fun _ => ?_) | rfl)
def Zco : RunP
 | [.v (.int .i64 p), .v (.int .i64 Z8), .v (.agg ⟨[.int .i64 a0, .int .i64 a1]⟩), .v (.agg ⟨[.int .i64 l0, .int .i64 l1, .int .i64 l2]⟩)] => some (true, Zq8 (Z4R p Z8 (a0, a1) (l0, l1, l2)))
 | _ => none
theorem Zm0 : Sound prog 38 Zco := by
 refine ZN Zw2 ZpH (by kernel_rfl) func38 ntmps38 rfl (by kernel_rfl) fun q r E => ?_
 unfold Zco at E
 split at E
 ·obtain ⟨hp, rfl⟩ := so2 E
  rename_i p Z8 a0 a1 l0 l1 l2
  exact ⟨_, _, rfl, (Zqa p Z8 (a0, a1) (l0, l1, l2)).trans (Zpz p Z8 (a0, a1) (l0, l1, l2))⟩
 ·cases E

def Zbb : Sums := ⟨tblS [(98, Z69), (82, Z6S)], tblM [], false, false⟩
theorem Zgq : ZJ prog Zbb := ⟨ZD ⟨⟨call98, Z8m⟩, ⟨call82, ZaE⟩, ⟨⟩⟩, tM⟩
def Z7u (c0 c1 : Int) (c2 c3 : P2) : Option (Bool) :=
 (if (Z0P c0) = true then some (Z0c c1 [c2, c3]) else some false)
theorem ZgJ (c0 c1 : Int) (c2 c3 : P2) : eT Zbb 110 14 Z0o [.p [.int .i64 c0], .p [.int .i64 c1], .p [.int .i64 c2.1, .int .i64 c2.2], .p [.int .i64 c3.1, .int .i64 c3.2]] = Z7u c0 c1 c2 c3 := by
 kernel_rfl
def Z3J (c0 c1 : Int) (c2 c3 : P2) : Bool :=
 (if (Z0P c0) = true then (Z0c c1 [c2, c3]) else false)
theorem Zgg (c0 c1 : Int) (c2 c3 : P2) : Z7u c0 c1 c2 c3 = some (Z3J c0 c1 c2 c3) := by
 unfold Z7u Z3J
 (try simp only [Z03])
 repeat' (first | with_reducible rfl | refine ZS (fun _ => ?_) (fun _ => ?_) | rfl)
def Z7c : RunP
 | [.p [.int .i64 c0], .p [.int .i64 c1], .p [.int .i64 c20, .int .i64 c21], .p [.int .i64 c30, .int .i64 c31]] => some (true, Z4Q (Z3J c0 c1 (c20, c21) (c30, c31)))
 | _ => none
theorem Ze2 : Sound prog 110 Z7c := by
 refine ZN Z7T Zgq (by kernel_rfl) func110 ntmps110 rfl (by kernel_rfl) fun q r E => ?_
 unfold Z7c at E
 split at E
 ·obtain ⟨hp, rfl⟩ := so2 E
  rename_i c0 c1 c20 c21 c30 c31
  exact ⟨_, _, rfl, (ZgJ c0 c1 (c20, c21) (c30, c31)).trans (Zgg c0 c1 (c20, c21) (c30, c31))⟩
 ·cases E

def Zf8 : Sums := ⟨tblS [(41, Z5o), (110, Z7c), (101, Z6T)], tblM [], false, false⟩
theorem ZkB : ZJ prog Zf8 := ⟨ZD ⟨⟨call41, Z5N⟩, ⟨call110, Ze2⟩, ⟨call101, ZaF⟩, ⟨⟩⟩, tM⟩
def Z9B (p Z8 : Int) (a b : P2) : Option P2 :=
 (if ((true) || !(Zo p)) = true then (if ((Zt p (true) (Z3J Z8 p a b)) != 0) = true then some (0, (Zt p (true) (Z3J Z8 p a b))) else (if (prB p) = true then some ((Z29 p Z8 a b), 0) else none)) else none)
theorem Zlg (p Z8 : Int) (a b : P2) : eT Zf8 39 22 Zol [pI p, pI Z8, pA a, pA b] = Z9B p Z8 a b := by
 kernel_rfl
def Z1q (p Z8 : Int) (a b : P2) : Int × Int :=
 (if ((Zt p (true) (Z3J Z8 p a b)) != 0) = true then (0, (Zt p (true) (Z3J Z8 p a b))) else ((Z29 p Z8 a b), 0))
theorem Zk4 (p Z8 : Int) (a b : P2) : Z9B p Z8 a b = some (Z1q p Z8 a b) := by
 unfold Z9B Z1q
 (try simp only [Z03])
 repeat' (first | with_reducible rfl | refine Z04 (by first | with_reducible rfl | exact Bool.true_or _ | (have hq : prB p = true := (by (with_reducible first | assumption | exact Zbf ‹_› | exact Zc2 ‹_›)); first | exact hq | exact ZqM hq | exact Z8o hq (fun _ => rfl) | exact Z8o hq (fun _ => hq) | exact and3 hq hq hq | exact Z1G hq rfl | exact map3_ok hq) | rfl) ?_ | refine ZS (fun _ => ?_) (fun _ => ?_) | rfl)
def Z8Z : RunP
 | [.v (.int .i64 p), .v (.int .i64 Z8), .v (.agg ⟨[.int .i64 a0, .int .i64 a1]⟩), .v (.agg ⟨[.int .i64 b0, .int .i64 b1]⟩)] => some (true, ZsB (Z1q p Z8 (a0, a1) (b0, b1)))
 | _ => none
theorem Zhd : Sound prog 39 Z8Z := by
 refine ZN Zx7 ZkB (by kernel_rfl) func39 ntmps39 rfl (by kernel_rfl) fun q r E => ?_
 unfold Z8Z at E
 split at E
 ·obtain ⟨hp, rfl⟩ := so2 E
  rename_i p Z8 a0 a1 b0 b1
  exact ⟨_, _, rfl, (Zlg p Z8 (a0, a1) (b0, b1)).trans (Zk4 p Z8 (a0, a1) (b0, b1))⟩
 ·cases E

def Z5j (p : Int) (l m : P3) : P2 × Bool :=
 (if ((Z4 (wrap64 ((wrap64 (l.1 * m.2.1)) - (wrap64 (l.2.1 * m.1)))) p) == 0) = true then ((0, 0), false) else (((Z4 (wrap64 (((wrap64 ((wrap64 (l.2.1 * m.2.2)) - (wrap64 (m.2.1 * l.2.2)))).tmod p) * (Zn (Z4 (wrap64 ((wrap64 (l.1 * m.2.1)) - (wrap64 (l.2.1 * m.1)))) p) p))) p), (Z4 (wrap64 (((wrap64 ((wrap64 (m.1 * l.2.2)) - (wrap64 (l.1 * m.2.2)))).tmod p) * (Zn (Z4 (wrap64 ((wrap64 (l.1 * m.2.1)) - (wrap64 (l.2.1 * m.1)))) p) p))) p)), true))
end

end Go.Proofs.Ytfclaacaphpoaaa
