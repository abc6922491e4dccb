import Derived.Test.YtcdpfpfbilfpoaaGreatDoorTb
import Derived.Test.YtcdpfpfbilfpoaaGreatDoorProg
set_option linter.unusedSimpArgs false
set_option linter.unusedVariables false
namespace Go.Proofs.YtcdpfpfbilfpoaaGreatDoor
open Go.RowKit Tryz
noncomputable section
def Zc3 : Sums := ⟨tblS [], tblM [], false⟩
theorem ZCT : Ze prog Zc3 := ⟨Za ⟨⟩, tM⟩
def ZA0 (s : ByteArray) (by_ : Int) (l8 : List ByteArray) (m8 : Nat) (j_at i : Int) : Tab := ⟨[.val (.string s), .val (.int .u8 by_), jK, jK, .val (.slice none 0 0), .row 32, vI (j_at), vI (i), ] ++ (jN 26 ++ [jK]), [(32, .row 9 1 m8 (.strs l8))]⟩
def Z7w (P : Program) (fu : Nat) (s : ByteArray) (by_ : Int) (f : Nat) (l8 : List ByteArray) (m8 : Nat) (j_at i : Int) : Option (Nat × List ByteArray) := Z1u (exec P Zc3 35 (fun _ => fu + 100) (Code.sub [1, 1, 1, 0, 1, 0, 0] (ZS P 42))) f (ZA0 s by_ l8 m8 j_at i) (Z0g 0 (kSeq (fun zs9 => exec P Zc3 35 (fun _ => fu + 100) (Code.sub [1, 1, 1, 1] (ZS P 42)) zs9 (finT P 42 Zj9)) (finT P 42 Zj9)))
def Z7l (s : ByteArray) (by_ : Int) (Z1F : (List ByteArray) -> Nat -> Int -> Int -> Option (Nat × List ByteArray)) (l8 : List ByteArray) (m8 : Nat) (j_at i : Int) : Option (Nat × List ByteArray) :=
 (if (decide (i < ((s.size : Nat) : Int))) = true then (if (decide (0 <= i) && decide (i < ((s.size : Nat) : Int))) = true then (if (((s.data.getD i.toNat 0).toNat : Int) == by_) = true then (if (decide (0 <= j_at) && decide (j_at <= i) && decide (i <= ((s.size : Nat) : Int))) = true then (if (Nat.ble 0 1 && Nat.ble (m8 + 1) 2000000 && Nat.beq 1 (1)) = true then Z1F (l8 ++ [s.extract j_at.toNat i.toNat]) (m8 + 1) (wI (i + 1)) (wI (i + 1)) else none) else none) else Z1F l8 m8 j_at (wI (i + 1))) else none) else (if (decide (0 <= j_at) && decide (j_at <= ((s.size : Nat) : Int)) && decide (((s.size : Nat) : Int) <= ((s.size : Nat) : Int))) = true then (if (Nat.ble 0 1 && Nat.ble (m8 + 1) 2000000 && Nat.beq 1 (1)) = true then some (m8 + 1, l8 ++ [s.extract j_at.toNat s.size]) else none) else none))
def Z4B (fu : Nat) (s : ByteArray) (by_ : Int) : Nat -> (List ByteArray) -> Nat -> Int -> Int -> Option (Nat × List ByteArray)
 | 0, _, _, _, _ => none
 | f + 1, l8, m8, j_at, i => Z7l s by_ (Z4B fu s by_ f) l8 m8 j_at i
theorem Zsr (fu : Nat) (s : ByteArray) (by_ : Int) : ∀ (f : Nat) (l8 : List ByteArray) (m8 : Nat) (j_at i : Int), Z7w prog fu s by_ f l8 m8 j_at i = Z4B fu s by_ f l8 m8 j_at i := by
 intro f
 induction f with
 | zero => intros; rfl
 | succ f ih =>
  intro l8 m8 j_at i
  have h1 : Z7w prog fu s by_ (f + 1) l8 m8 j_at i = Z7l s by_ (Z7w prog fu s by_ f) l8 m8 j_at i := by kernel_rfl
  have h2 : Z7w prog fu s by_ f = Z4B fu s by_ f := by funext l8 m8 j_at i; exact ih l8 m8 j_at i
  rw [h1, h2]
  rfl
def Zk8 (s : ByteArray) (by_ : Int) (lo0 : (List ByteArray) -> Nat -> Int -> Int -> Option (Nat × List ByteArray)) : Option (Nat × List ByteArray) :=
 lo0 [] 0 0 0
def Zih (fu : Nat) (s : ByteArray) (by_ : Int) : Option (Nat × List ByteArray) := Zk8 s by_ (Z4B fu s by_ (fu + 100))
theorem ZDv (fu : Nat) (s : ByteArray) (by_ : Int) : eF fu Zc3 42 35 Zj9 [.v (.string s), .v (.int .u8 by_)] = Zih fu s by_ := by
 have h1 : eF fu Zc3 42 35 Zj9 [.v (.string s), .v (.int .u8 by_)] = Zk8 s by_ (Z7w prog fu s by_ (fu + 100)) := by kernel_rfl
 have c0 : Z7w prog fu s by_ (fu + 100) = Z4B fu s by_ (fu + 100) := by funext l8 m8 j_at i; exact Zsr fu s by_ (fu + 100) l8 m8 j_at i
 rw [h1, c0]
 rfl
def Z9h (s : ByteArray) (c : Int) : Bool := Nat.ble s.size 1048576 && (decide (0 <= c) && decide (c < 256))
def Z7 (s : ByteArray) (by_ : Int) : Nat × List ByteArray := ((spL (UInt8.ofNat by_.toNat) (toL s)).length, (spL (UInt8.ofNat by_.toNat) (toL s)).map bs)
theorem Zz0 {b : UInt8} {c : Int} (h0 : 0 <= c) (h1 : c < 256) : (((b.toNat : Nat) : Int) == c) = true ↔ b = UInt8.ofNat c.toNat := by
 rw [beq_iff_eq]
 constructor
 ·intro h
  apply UInt8.toNat_inj.1
  rw [UInt8.toNat_ofNat_of_lt' (by show c.toNat < 256; omega)]
  omega
 ·intro h
  rw [h, UInt8.toNat_ofNat_of_lt' (by show c.toNat < 256; omega)]
  omega
theorem ZBP {s : ByteArray} {by_ : Int} (h0 : 0 <= by_) (h1 : by_ < 256) (hs : s.size <= 1048576) : ∀ (Q D A : List UInt8) (R : List ByteArray) (F : Nat), toL s = A ++ D ++ Q -> UInt8.ofNat by_.toNat ∉ D -> R.length <= A.length -> Q.length < F ->
  Z4B 2000000 s by_ F R R.length (A.length : Int) ((A.length + D.length : Nat) : Int) = some (R.length + (spL (UInt8.ofNat by_.toNat) (D ++ Q)).length, R ++ (spL (UInt8.ofNat by_.toNat) (D ++ Q)).map bs)
 | Q, D, A, R, 0, _, _, _, h => absurd h (Nat.not_lt_zero _)
 | [], D, A, R, F + 1, e, hD, hR, _ => by
  have hsz : s.size = A.length + D.length := by rw [ZX, e]; simp
  have hm : (Nat.ble 0 1 && Nat.ble (R.length + 1) 2000000 && Nat.beq 1 (1)) = true := by simp; omega
  show Z7l s by_ (Z4B 2000000 s by_ F) R R.length (A.length : Int) ((A.length + D.length : Nat) : Int) = _
  unfold Z7l
  rw [if_neg (by rw [hsz]; simp), if_pos (by rw [hsz]; simp; omega), if_pos hm, Int.toNat_natCast, hsz, ZhI e, List.append_nil, ZBO hD]
  rfl
 | b :: Q, D, A, R, F + 1, e, hD, hR, hF => by
  have hsz : s.size = A.length + D.length + (Q.length + 1) := by rw [ZX, e]; simp; omega
  have hb : s.data.getD (A.length + D.length) 0 = b := by
   have := Zgz (s := s) (D := A ++ D) (Q := Q) (c := b) e
   rw [List.length_append] at this
   exact this
  have hm : (Nat.ble 0 1 && Nat.ble (R.length + 1) 2000000 && Nat.beq 1 (1)) = true := by simp; omega
  have hw : wI (((A.length + D.length : Nat) : Int) + 1) = ((A.length + D.length + 1 : Nat) : Int) := Z1O (n := s.size) (by omega) (by omega)
  show Z7l s by_ (Z4B 2000000 s by_ F) R R.length (A.length : Int) ((A.length + D.length : Nat) : Int) = _
  unfold Z7l
  rw [if_pos (by rw [hsz]; simp; omega), if_pos (by rw [hsz]; simp; omega), Int.toNat_natCast, hb, hw]
  by_cases hc : b = UInt8.ofNat by_.toNat
  ·rw [if_pos ((Zz0 h0 h1).2 hc), if_pos (by rw [hsz]; simp; omega), if_pos hm, Int.toNat_natCast, ZhI (Q := b :: Q) e]
   have ih := ZBP h0 h1 hs Q [] (A ++ D ++ [b]) (R ++ [bs D]) F (by rw [e]; simp) (by simp) (by simp; omega) (by simpa using hF)
   simp only [List.length_append, List.length_cons, List.length_nil, Nat.add_zero, List.nil_append] at ih
   rw [show R.length + 1 = R.length + (0 + 1) by omega, show A.length + D.length + 1 = A.length + D.length + (0 + 1) by omega] 
   rw [ih, hc, Zzc Q hD]
   simp
   omega
  ·have ih := ZBP h0 h1 hs Q (D ++ [b]) A R F (by rw [e]; simp) (by simp [hD]; exact fun q => hc q.symm) hR (by simpa using hF)
   rw [if_neg (fun q => hc ((Zz0 h0 h1).1 q))]
   simp only [List.length_append, List.length_cons, List.length_nil, List.append_assoc, List.singleton_append] at ih
   rw [show A.length + D.length + 1 = A.length + (D.length + (0 + 1)) by omega]
   exact ih
theorem ZCk (s : ByteArray) (by_ : Int) (hp : (Z9h s by_) = true) : Zih 2000000 s by_ = some (Z7 s by_) := by
 unfold Z9h at hp
 simp only [Bool.and_eq_true, decide_eq_true_eq] at hp
 obtain ⟨hs, h0, h1⟩ := hp
 have hs := Nat.le_of_ble_eq_true hs
 have h := ZBP h0 h1 hs (toL s) [] [] [] (2000000 + 100) rfl (by simp) (Nat.le_refl _) (by rw [<- ZX]; omega)
 simp only [List.nil_append, List.length_nil, Nat.zero_add, Nat.add_zero] at h
 unfold Zih Zk8 Z7
 exact h
def Z9y : RunP
 | [.v (.string s), .v (.int .u8 by_)] => some (Z9h s by_, ZAp (Z7 s by_))
 | _ => none
theorem ZdU : Sound prog 42 Z9y := by
 refine Zd ZP1 ZCT (by kernel_rfl) func42 ntmps42 rfl (by kernel_rfl) fun q r E => ?_
 unfold Z9y at E
 split at E
 ·obtain ⟨hp, rfl⟩ := so2 E
  rename_i s by_
  exact ⟨_, _, rfl, (ZDv _ s by_).trans (ZCk s by_ hp)⟩
 ·cases E

def Z72 : Sums := ⟨tblS [], tblM [], false⟩
theorem ZzD : Ze prog Z72 := ⟨Za ⟨⟩, tM⟩
def Zxw (s : ByteArray) (j_n i : Int) : Tab := ⟨[.val (.string s), jK, vI (0), vI (j_n), vI (i), .val (.string s), vI (((s.size : Nat) : Int)), vB ((((s.size : Nat) : Int) == 0)), vB (false), .val (.string s), vI (((s.size : Nat) : Int)), vB ((decide (((s.size : Nat) : Int) > 9))), vB ((decide (((s.size : Nat) : Int) > 9))), vB (false), .val (.string s), vI (((s.size : Nat) : Int)), vB ((decide (((s.size : Nat) : Int) > 1))), vB (true), .val (.string s), .val (.int .u8 ((s.data.getD 0 0).toNat : Int)), vB ((((s.data.getD 0 0).toNat : Int) == 48)), vB ((((s.data.getD 0 0).toNat : Int) == 48)), vB ((((s.data.getD 0 0).toNat : Int) == 48)), ] ++ (jN 24 ++ [jK]), []⟩
def Zxx (s : ByteArray) (j_n i : Int) : Tab := ⟨[.val (.string s), jK, vI (0), vI (j_n), vI (i), .val (.string s), vI (((s.size : Nat) : Int)), vB ((((s.size : Nat) : Int) == 0)), vB (false), .val (.string s), vI (((s.size : Nat) : Int)), vB ((decide (((s.size : Nat) : Int) > 9))), vB ((decide (((s.size : Nat) : Int) > 9))), vB (false), .val (.string s), vI (((s.size : Nat) : Int)), vB ((decide (((s.size : Nat) : Int) > 1))), vB (false), .val (undef), .val (undef), .val (undef), vB (false), vB (false), ] ++ (jN 24 ++ [jK]), []⟩
def Z6x (P : Program) (fu : Nat) (s : ByteArray) (f : Nat) (j_n i : Int) : Option (Int) := Z1u (exec P Z72 48 (fun _ => fu + 100) (Code.sub [1, 1, 1, 0, 1, 0, 0] (ZS P 94))) f (Zxw s j_n i) (Z0g 0 (kSeq (fun zs9 => exec P Z72 48 (fun _ => fu + 100) (Code.sub [1, 1, 1, 1] (ZS P 94)) zs9 (finT P 94 Z2f)) (finT P 94 Z2f)))
def Z6k (s : ByteArray) (Z1F : Int -> Int -> Option (Int)) (j_n i : Int) : Option (Int) :=
 (if (decide (i < ((s.size : Nat) : Int))) = true then (if (decide (0 <= i) && decide (i < ((s.size : Nat) : Int))) = true then (if (decide (((s.data.getD i.toNat 0).toNat : Int) < 48)) = true then some (-1) else (if (decide (0 <= i) && decide (i < ((s.size : Nat) : Int))) = true then (if (decide (((s.data.getD i.toNat 0).toNat : Int) > 57)) = true then some (-1) else (if (decide (0 <= i) && decide (i < ((s.size : Nat) : Int))) = true then Z1F (wI ((wI (j_n * 10)) + (wI (IntKind.u8.wrap (((s.data.getD i.toNat 0).toNat : Int) - 48))))) (wI (i + 1)) else none)) else none)) else none) else some j_n)
def Z3N (fu : Nat) (s : ByteArray) : Nat -> Int -> Int -> Option (Int)
 | 0, _, _ => none
 | f + 1, j_n, i => Z6k s (Z3N fu s f) j_n i
theorem Zqq (fu : Nat) (s : ByteArray) : ∀ (f : Nat) (j_n i : Int), Z6x prog fu s f j_n i = Z3N fu s f j_n i := by
 intro f
 induction f with
 | zero => intros; rfl
 | succ f ih =>
  intro j_n i
  have h1 : Z6x prog fu s (f + 1) j_n i = Z6k s (Z6x prog fu s f) j_n i := by kernel_rfl
  have h2 : Z6x prog fu s f = Z3N fu s f := by funext j_n i; exact ih j_n i
  rw [h1, h2]
  rfl
def Z6y (P : Program) (fu : Nat) (s : ByteArray) (f : Nat) (j_n i : Int) : Option (Int) := Z1u (exec P Z72 48 (fun _ => fu + 100) (Code.sub [1, 1, 1, 0, 1, 0, 0] (ZS P 94))) f (Zxx s j_n i) (Z0g 0 (kSeq (fun zs9 => exec P Z72 48 (fun _ => fu + 100) (Code.sub [1, 1, 1, 1] (ZS P 94)) zs9 (finT P 94 Z2f)) (finT P 94 Z2f)))
def Z6l (s : ByteArray) (ZDN : Int -> Int -> Option (Int)) (j_n i : Int) : Option (Int) :=
 (if (decide (i < ((s.size : Nat) : Int))) = true then (if (decide (0 <= i) && decide (i < ((s.size : Nat) : Int))) = true then (if (decide (((s.data.getD i.toNat 0).toNat : Int) < 48)) = true then some (-1) else (if (decide (0 <= i) && decide (i < ((s.size : Nat) : Int))) = true then (if (decide (((s.data.getD i.toNat 0).toNat : Int) > 57)) = true then some (-1) else (if (decide (0 <= i) && decide (i < ((s.size : Nat) : Int))) = true then ZDN (wI ((wI (j_n * 10)) + (wI (IntKind.u8.wrap (((s.data.getD i.toNat 0).toNat : Int) - 48))))) (wI (i + 1)) else none)) else none)) else none) else some j_n)
def Z3O (fu : Nat) (s : ByteArray) : Nat -> Int -> Int -> Option (Int)
 | 0, _, _ => none
 | f + 1, j_n, i => Z6l s (Z3O fu s f) j_n i
theorem Zqr (fu : Nat) (s : ByteArray) : ∀ (f : Nat) (j_n i : Int), Z6y prog fu s f j_n i = Z3O fu s f j_n i := by
 intro f
 induction f with
 | zero => intros; rfl
 | succ f ih =>
  intro j_n i
  have h1 : Z6y prog fu s (f + 1) j_n i = Z6l s (Z6y prog fu s f) j_n i := by kernel_rfl
  have h2 : Z6y prog fu s f = Z3O fu s f := by funext j_n i; exact ih j_n i
  rw [h1, h2]
  rfl
def Ziv (s : ByteArray) (lo0 : Int -> Int -> Option (Int)) (lo1 : Int -> Int -> Option (Int)) : Option (Int) :=
 (if (((s.size : Nat) : Int) == 0) = true then some (-1) else (if (decide (((s.size : Nat) : Int) > 9)) = true then some (-1) else (if (decide (((s.size : Nat) : Int) > 1)) = true then (if (decide (0 <= 0) && decide (0 < ((s.size : Nat) : Int))) = true then (if (((s.data.getD 0 0).toNat : Int) == 48) = true then some (-1) else lo0 0 0) else none) else lo1 0 0)))
def Zgg (fu : Nat) (s : ByteArray) : Option (Int) := Ziv s (Z3N fu s (fu + 100)) (Z3O fu s (fu + 100))
theorem ZAM (fu : Nat) (s : ByteArray) : eF fu Z72 94 48 Z2f [.v (.string s)] = Zgg fu s := by
 have h1 : eF fu Z72 94 48 Z2f [.v (.string s)] = Ziv s (Z6x prog fu s (fu + 100)) (Z6y prog fu s (fu + 100)) := by kernel_rfl
 have c0 : Z6x prog fu s (fu + 100) = Z3N fu s (fu + 100) := by funext j_n i; exact Zqq fu s (fu + 100) j_n i
 have c1 : Z6y prog fu s (fu + 100) = Z3O fu s (fu + 100) := by funext j_n i; exact Zqr fu s (fu + 100) j_n i
 rw [h1, c0, c1]
 rfl
theorem Zli {s : ByteArray} (hs : s.size <= 9) : ∀ (Q D : List UInt8) (a F : Nat), toL s = D ++ Q -> a < 10 ^ D.length -> Q.length < F -> Z3N 1000000 s F (a : Int) (D.length : Int) = (match valF a Q with | some n => some (n : Int) | none => some (-1))
 | Q, D, a, 0, _, _, h => absurd h (Nat.not_lt_zero _)
 | [], D, a, F + 1, e, _, _ => by
  have hsz : s.size = D.length := by rw [ZX, e]; simp
  show Z6k s (Z3N 1000000 s F) (a : Int) (D.length : Int) = _
  unfold Z6k
  rw [if_neg (by rw [hsz]; simp)]
  rfl
 | c :: Q, D, a, F + 1, e, ha, hF => by
  have hsz : s.size = D.length + (Q.length + 1) := by rw [ZX, e]; simp
  have hc := Zgz e
  have hp := pow9 (k := D.length) (by omega)
  have hx : (decide (0 <= (D.length : Int)) && decide ((D.length : Int) < ((s.size : Nat) : Int))) = true := by rw [hsz]; simp; omega
  show Z6k s (Z3N 1000000 s F) (a : Int) (D.length : Int) = _
  unfold Z6k
  rw [if_pos (by rw [hsz]; simp; omega), if_pos hx, Int.toNat_natCast, hc]
  by_cases hd : dgt c = true
  ·obtain ⟨d1, d2⟩ := Z7W.1 hd
   have e1 : wI ((a : Int) * 10) = ((a * 10 : Nat) : Int) := by rw [Zz]; unfold wrap64; omega
   have e2 : wI (((a * 10 : Nat) : Int) + ((c.toNat - 48 : Nat) : Int)) = ((a * 10 + (c.toNat - 48) : Nat) : Int) := by rw [Zz]; unfold wrap64; omega
   have e3 : wI ((D.length : Int) + 1) = (((D ++ [c]).length : Nat) : Int) := by rw [List.length_append]; exact Z1O (n := s.size) (by omega) (by omega)
   rw [if_neg (by simp; omega), if_pos hx, if_neg (by simp; omega), if_pos hx, ZgH hd, e1, e2, e3]
   rw [Zli hs Q (D ++ [c]) (a * 10 + (c.toNat - 48)) F (by rw [e]; simp) (by rw [List.length_append]; exact Zj4 ha (by omega)) (by simpa using hF)]
   rw [valF, if_pos hd]
  ·rw [valF, if_neg hd]
   by_cases h1 : c.toNat < 48
   ·rw [if_pos (by simpa using by omega)]
   ·have h2 : ¬ c.toNat <= 57 := fun h2 => hd (Z7W.2 ⟨by omega, h2⟩)
    rw [if_neg (by simp; omega), if_pos hx, if_pos (by simp; omega)]
theorem Zlj {s : ByteArray} (hs : s.size <= 9) : ∀ (Q D : List UInt8) (a F : Nat), toL s = D ++ Q -> a < 10 ^ D.length -> Q.length < F -> Z3O 1000000 s F (a : Int) (D.length : Int) = (match valF a Q with | some n => some (n : Int) | none => some (-1))
 | Q, D, a, 0, _, _, h => absurd h (Nat.not_lt_zero _)
 | [], D, a, F + 1, e, _, _ => by
  have hsz : s.size = D.length := by rw [ZX, e]; simp
  show Z6l s (Z3O 1000000 s F) (a : Int) (D.length : Int) = _
  unfold Z6l
  rw [if_neg (by rw [hsz]; simp)]
  rfl
 | c :: Q, D, a, F + 1, e, ha, hF => by
  have hsz : s.size = D.length + (Q.length + 1) := by rw [ZX, e]; simp
  have hc := Zgz e
  have hp := pow9 (k := D.length) (by omega)
  have hx : (decide (0 <= (D.length : Int)) && decide ((D.length : Int) < ((s.size : Nat) : Int))) = true := by rw [hsz]; simp; omega
  show Z6l s (Z3O 1000000 s F) (a : Int) (D.length : Int) = _
  unfold Z6l
  rw [if_pos (by rw [hsz]; simp; omega), if_pos hx, Int.toNat_natCast, hc]
  by_cases hd : dgt c = true
  ·obtain ⟨d1, d2⟩ := Z7W.1 hd
   have e1 : wI ((a : Int) * 10) = ((a * 10 : Nat) : Int) := by rw [Zz]; unfold wrap64; omega
   have e2 : wI (((a * 10 : Nat) : Int) + ((c.toNat - 48 : Nat) : Int)) = ((a * 10 + (c.toNat - 48) : Nat) : Int) := by rw [Zz]; unfold wrap64; omega
   have e3 : wI ((D.length : Int) + 1) = (((D ++ [c]).length : Nat) : Int) := by rw [List.length_append]; exact Z1O (n := s.size) (by omega) (by omega)
   rw [if_neg (by simp; omega), if_pos hx, if_neg (by simp; omega), if_pos hx, ZgH hd, e1, e2, e3]
   rw [Zlj hs Q (D ++ [c]) (a * 10 + (c.toNat - 48)) F (by rw [e]; simp) (by rw [List.length_append]; exact Zj4 ha (by omega)) (by simpa using hF)]
   rw [valF, if_pos hd]
  ·rw [valF, if_neg hd]
   by_cases h1 : c.toNat < 48
   ·rw [if_pos (by simpa using by omega)]
   ·have h2 : ¬ c.toNat <= 57 := fun h2 => hd (Z7W.2 ⟨by omega, h2⟩)
    rw [if_neg (by simp; omega), if_pos hx, if_pos (by simp; omega)]
def Z2p (s : ByteArray) : Int := match numL (toL s) with | some n => (n : Int) | none => -1
theorem ZyR (s : ByteArray) : Zgg 1000000 s = some (Z2p s) := by
 unfold Zgg Ziv Z2p numL
 by_cases h0 : (toL s).length = 0
 ·rw [if_pos (by rw [ZX, h0]; rfl), if_pos (Or.inl h0)]
 ·by_cases h9 : 9 < (toL s).length
  ·rw [if_neg (by intro q; have := eq_of_beq q; rw [ZX] at this; omega), if_pos (by rw [ZX]; simp; omega), if_pos (Or.inr (Or.inl h9))]
  ·have hs : s.size <= 9 := by rw [ZX]; omega
   have g0 := Zli hs (toL s) [] 0 (1000000 + 100) rfl (by decide) (by omega)
   have g1 := Zlj hs (toL s) [] 0 (1000000 + 100) rfl (by decide) (by omega)
   rw [if_neg (by intro q; have := eq_of_beq q; rw [ZX] at this; omega), if_neg (by rw [ZX]; simp; omega)]
   by_cases h1 : 1 < (toL s).length
   ·rw [if_pos (by rw [ZX]; simp; omega), if_pos (by rw [ZX]; simp; omega), Zuu]
    by_cases h2 : (toL s).getD 0 0 = 48
    ·rw [if_pos (by rw [h2]; rfl), if_pos (Or.inr (Or.inr ⟨h1, h2⟩))]
    ·rw [if_neg (fun q => h2 ((Zz0 (by decide) (by decide)).1 q)), if_neg (by rintro (q | q | q); exact h0 q; exact h9 q; exact h2 q.2)]
     refine Eq.trans g0 ?_
     cases valF 0 (toL s) <;> rfl
   ·rw [if_neg (by rw [ZX]; simp; omega), if_neg (by rintro (q | q | q); exact h0 q; exact h9 q; exact h1 q.1)]
    refine Eq.trans g1 ?_
    cases valF 0 (toL s) <;> rfl
def ZaT : RunP
 | [.v (.string s)] => some (true, Z7e (Z2p s))
 | _ => none
theorem ZhT : Sound prog 94 ZaT := by
 refine Zd Zdj ZzD (by kernel_rfl) func94 ntmps94 rfl (by kernel_rfl) fun q r E => ?_
 unfold ZaT at E
 split at E
 ·obtain ⟨hp, rfl⟩ := so2 E
  rename_i s
  exact ⟨_, _, rfl, (ZAM _ s).trans (ZyR s)⟩
 ·cases E

def Zc2 : Sums := ⟨tblS [(42, Z9y), (94, ZaT)], tblM [], false⟩
theorem ZCR : Ze prog Zc2 := ⟨Za ⟨⟨call42, ZdU⟩, ⟨call94, ZhT⟩, ⟨⟩⟩, tM⟩
def ZzZ (text : ByteArray) (l8 : List Int) (m8 : Nat) (i : Int) : Tab := ⟨[.val (.string text), jK, .val (.slice none 0 0), .row 28, .row 32, vI (i), .val (.string text), .row 28, ] ++ (jN 15 ++ [jK]), [(28, .row 9 1 ((Z7 text 44).1) (.strs ((Z7 text 44).2))), (32, .row 2 1 m8 (.ints l8))]⟩
def Z7v (P : Program) (fu : Nat) (text : ByteArray) (f : Nat) (l8 : List Int) (m8 : Nat) (i : Int) : Option (Nat × List Int) := Z1u (exec P Zc2 24 (fun _ => fu + 100) (Code.sub [1, 1, 0, 1, 0, 0] (ZS P 153))) f (ZzZ text l8 m8 i) (Z0g 0 (kSeq (fun zs9 => exec P Zc2 24 (fun _ => fu + 100) (Code.sub [1, 1, 1] (ZS P 153)) zs9 (finT P 153 ZgF)) (finT P 153 ZgF)))
def Z7k (text : ByteArray) (Z1F : (List Int) -> Nat -> Int -> Option (Nat × List Int)) (l8 : List Int) (m8 : Nat) (i : Int) : Option (Nat × List Int) :=
 (if (decide (i < (((Z7 text 44).1 : Nat) : Int))) = true then (if (decide (0 <= i) && decide (i < (((Z7 text 44).1 : Nat) : Int))) = true then (if (Nat.ble (i.toNat * 1 + 1) (((Z7 text 44).2).length)) = true then (if (Nat.ble 0 1 && Nat.ble (m8 + 1) 2000000 && Nat.beq 1 (1)) = true then Z1F (l8 ++ [(Z2p (((Z7 text 44).2).getD (i.toNat * 1) ByteArray.empty))]) (m8 + 1) (wI (i + 1)) else none) else none) else none) else some (m8, l8))
def Z4A (fu : Nat) (text : ByteArray) : Nat -> (List Int) -> Nat -> Int -> Option (Nat × List Int)
 | 0, _, _, _ => none
 | f + 1, l8, m8, i => Z7k text (Z4A fu text f) l8 m8 i
theorem Zsq (fu : Nat) (text : ByteArray) : ∀ (f : Nat) (l8 : List Int) (m8 : Nat) (i : Int), Z7v prog fu text f l8 m8 i = Z4A fu text f l8 m8 i := by
 intro f
 induction f with
 | zero => intros; rfl
 | succ f ih =>
  intro l8 m8 i
  have h1 : Z7v prog fu text (f + 1) l8 m8 i = Z7k text (Z7v prog fu text f) l8 m8 i := by kernel_rfl
  have h2 : Z7v prog fu text f = Z4A fu text f := by funext l8 m8 i; exact ih l8 m8 i
  rw [h1, h2]
  rfl
def Zk7 (text : ByteArray) (lo0 : (List Int) -> Nat -> Int -> Option (Nat × List Int)) : Option (Nat × List Int) :=
 (if (Z9h text 44) = true then lo0 [] 0 0 else none)
def Zif (fu : Nat) (text : ByteArray) : Option (Nat × List Int) := Zk7 text (Z4A fu text (fu + 100))
theorem ZDt (fu : Nat) (text : ByteArray) : eF fu Zc2 153 24 ZgF [.v (.string text)] = Zif fu text := by
 have h1 : eF fu Zc2 153 24 ZgF [.v (.string text)] = Zk7 text (Z7v prog fu text (fu + 100)) := by kernel_rfl
 have c0 : Z7v prog fu text (fu + 100) = Z4A fu text (fu + 100) := by funext l8 m8 i; exact Zsq fu text (fu + 100) l8 m8 i
 rw [h1, c0]
 rfl
def numI (l : List UInt8) : Int := match numL l with | some n => (n : Int) | none => -1
theorem ZPg (s : ByteArray) : Z2p s = numI (toL s) := rfl
def Z33 (text : ByteArray) : Nat × List Int := ((spL 44 (toL text)).length, (spL 44 (toL text)).map numI)
theorem ZJc {text : ByteArray} (ht : text.size <= 1048576) : ∀ (Q D : List (List UInt8)) (F : Nat), spL 44 (toL text) = D ++ Q -> Q.length < F -> Z4A 2000000 text F (D.map numI) D.length (D.length : Int) = some (Z33 text)
 | Q, D, 0, _, h => absurd h (Nat.not_lt_zero _)
 | [], D, F + 1, e, _ => by
  have e' : Z7 text 44 = ((spL 44 (toL text)).length, (spL 44 (toL text)).map bs) := rfl
  show Z7k text (Z4A 2000000 text F) (D.map numI) D.length (D.length : Int) = _
  unfold Z7k Z33
  rw [e', e, if_neg (by simp)]
  simp
 | x :: Q, D, F + 1, e, hF => by
  have e' : Z7 text 44 = ((spL 44 (toL text)).length, (spL 44 (toL text)).map bs) := rfl
  have hl := ZnX 44 (toL text)
  have hl2 : (D ++ x :: Q).length <= 1048577 := by rw [<- e]; rw [ZX] at ht; omega
  simp only [List.length_append, List.length_cons] at hl2
  have hg : ((D ++ x :: Q).map bs).getD (D.length * 1) ByteArray.empty = bs x := by
   rw [Nat.mul_one, List.getD_eq_getElem?_getD, List.map_append, List.getElem?_append_right (by simp)]
   simp
  have hk : D.length < (D ++ x :: Q).length := by simp
  show Z7k text (Z4A 2000000 text F) (D.map numI) D.length (D.length : Int) = _
  unfold Z7k
  rw [e', e]
  dsimp only
  rw [if_pos (by simp; omega), if_pos (ZgN hk), if_pos (by rw [Int.toNat_natCast, List.length_map]; exact Nat.ble_eq_true_of_le (by omega)), Int.toNat_natCast, hg, if_pos (ZpL (by omega)), Z1O hk (by simp; omega), ZPg, ZcQ]
  have ih := ZJc ht Q (D ++ [x]) F (by rw [e]; simp) (by simpa using hF)
  rw [List.map_append, List.length_append] at ih
  exact ih
theorem ZCi (text : ByteArray) (hp : (Nat.ble text.size 1048576) = true) : Zif 2000000 text = some (Z33 text) := by
 have ht := Nat.le_of_ble_eq_true hp
 have h := ZJc ht (spL 44 (toL text)) [] (2000000 + 100) rfl (by have := ZnX 44 (toL text); rw [<- ZX] at this; omega)
 unfold Zif Zk7
 rw [if_pos (by unfold Z9h; simp; omega)]
 exact h
def Zha : RunP
 | [.v (.string text)] => some (Nat.ble text.size 1048576, ZAn (Z33 text))
 | _ => none
theorem ZvD : Sound prog 153 Zha := by
 refine Zd ZLk ZCR (by kernel_rfl) func153 ntmps153 rfl (by kernel_rfl) fun q r E => ?_
 unfold Zha at E
 split at E
 ·obtain ⟨hp, rfl⟩ := so2 E
  rename_i text
  exact ⟨_, _, rfl, (ZDt _ text).trans (ZCi text hp)⟩
 ·cases E

def Z5V : Sums := ⟨tblS [], tblM [], false⟩
theorem Zx7 : Ze prog Z5V := ⟨Za ⟨⟩, tM⟩
def Zul (word : ByteArray) (j_n i : Int) : Tab := ⟨[.val (.string word), jK, vI (0), vB (false), vI (j_n), vI (i), .val (.string word), vI (((word.size : Nat) : Int)), vB ((decide (((word.size : Nat) : Int) < 1))), vB (false), .val (.string word), vI (((word.size : Nat) : Int)), vB ((decide (((word.size : Nat) : Int) > 9))), vB ((decide (((word.size : Nat) : Int) > 9))), vB (false), .val (.string word), vI (((word.size : Nat) : Int)), vB ((decide (((word.size : Nat) : Int) > 1))), vB (true), .val (.string word), .val (.int .u8 ((word.data.getD 0 0).toNat : Int)), vB ((((word.data.getD 0 0).toNat : Int) == 48)), vB ((((word.data.getD 0 0).toNat : Int) == 48)), vB ((((word.data.getD 0 0).toNat : Int) == 48)), ] ++ (jN 24 ++ [jK]), []⟩
def Zum (word : ByteArray) (j_n i : Int) : Tab := ⟨[.val (.string word), jK, vI (0), vB (false), vI (j_n), vI (i), .val (.string word), vI (((word.size : Nat) : Int)), vB ((decide (((word.size : Nat) : Int) < 1))), vB (false), .val (.string word), vI (((word.size : Nat) : Int)), vB ((decide (((word.size : Nat) : Int) > 9))), vB ((decide (((word.size : Nat) : Int) > 9))), vB (false), .val (.string word), vI (((word.size : Nat) : Int)), vB ((decide (((word.size : Nat) : Int) > 1))), vB (false), .val (undef), .val (undef), .val (undef), vB (false), vB (false), ] ++ (jN 24 ++ [jK]), []⟩
def Z5I (P : Program) (fu : Nat) (word : ByteArray) (f : Nat) (j_n i : Int) : Option (Int × Bool) := Z1u (exec P Z5V 49 (fun _ => fu + 100) (Code.sub [1, 1, 1, 0, 1, 0, 0] (ZS P 63))) f (Zul word j_n i) (Z0g 0 (kSeq (fun zs9 => exec P Z5V 49 (fun _ => fu + 100) (Code.sub [1, 1, 1, 1] (ZS P 63)) zs9 (finT P 63 ZfI)) (finT P 63 ZfI)))
def Z5A (word : ByteArray) (Z1F : Int -> Int -> Option (Int × Bool)) (j_n i : Int) : Option (Int × Bool) :=
 (if (decide (i < ((word.size : Nat) : Int))) = true then (if (decide (0 <= i) && decide (i < ((word.size : Nat) : Int))) = true then (if (decide (((word.data.getD i.toNat 0).toNat : Int) < 48)) = true then some (0, false) else (if (decide (0 <= i) && decide (i < ((word.size : Nat) : Int))) = true then (if (decide (((word.data.getD i.toNat 0).toNat : Int) > 57)) = true then some (0, false) else (if (decide (0 <= i) && decide (i < ((word.size : Nat) : Int))) = true then Z1F (wI ((wI (10 * j_n)) + (wI (IntKind.u8.wrap (((word.data.getD i.toNat 0).toNat : Int) - 48))))) (wI (i + 1)) else none)) else none)) else none) else some (j_n, true))
def Z37 (fu : Nat) (word : ByteArray) : Nat -> Int -> Int -> Option (Int × Bool)
 | 0, _, _ => none
 | f + 1, j_n, i => Z5A word (Z37 fu word f) j_n i
theorem Zol (fu : Nat) (word : ByteArray) : ∀ (f : Nat) (j_n i : Int), Z5I prog fu word f j_n i = Z37 fu word f j_n i := by
 intro f
 induction f with
 | zero => intros; rfl
 | succ f ih =>
  intro j_n i
  have h1 : Z5I prog fu word (f + 1) j_n i = Z5A word (Z5I prog fu word f) j_n i := by kernel_rfl
  have h2 : Z5I prog fu word f = Z37 fu word f := by funext j_n i; exact ih j_n i
  rw [h1, h2]
  rfl
def Z5J (P : Program) (fu : Nat) (word : ByteArray) (f : Nat) (j_n i : Int) : Option (Int × Bool) := Z1u (exec P Z5V 49 (fun _ => fu + 100) (Code.sub [1, 1, 1, 0, 1, 0, 0] (ZS P 63))) f (Zum word j_n i) (Z0g 0 (kSeq (fun zs9 => exec P Z5V 49 (fun _ => fu + 100) (Code.sub [1, 1, 1, 1] (ZS P 63)) zs9 (finT P 63 ZfI)) (finT P 63 ZfI)))
def Z5B (word : ByteArray) (ZDN : Int -> Int -> Option (Int × Bool)) (j_n i : Int) : Option (Int × Bool) :=
 (if (decide (i < ((word.size : Nat) : Int))) = true then (if (decide (0 <= i) && decide (i < ((word.size : Nat) : Int))) = true then (if (decide (((word.data.getD i.toNat 0).toNat : Int) < 48)) = true then some (0, false) else (if (decide (0 <= i) && decide (i < ((word.size : Nat) : Int))) = true then (if (decide (((word.data.getD i.toNat 0).toNat : Int) > 57)) = true then some (0, false) else (if (decide (0 <= i) && decide (i < ((word.size : Nat) : Int))) = true then ZDN (wI ((wI (10 * j_n)) + (wI (IntKind.u8.wrap (((word.data.getD i.toNat 0).toNat : Int) - 48))))) (wI (i + 1)) else none)) else none)) else none) else some (j_n, true))
def Z38 (fu : Nat) (word : ByteArray) : Nat -> Int -> Int -> Option (Int × Bool)
 | 0, _, _ => none
 | f + 1, j_n, i => Z5B word (Z38 fu word f) j_n i
theorem Zom (fu : Nat) (word : ByteArray) : ∀ (f : Nat) (j_n i : Int), Z5J prog fu word f j_n i = Z38 fu word f j_n i := by
 intro f
 induction f with
 | zero => intros; rfl
 | succ f ih =>
  intro j_n i
  have h1 : Z5J prog fu word (f + 1) j_n i = Z5B word (Z5J prog fu word f) j_n i := by kernel_rfl
  have h2 : Z5J prog fu word f = Z38 fu word f := by funext j_n i; exact ih j_n i
  rw [h1, h2]
  rfl
def Zgn (word : ByteArray) (lo0 : Int -> Int -> Option (Int × Bool)) (lo1 : Int -> Int -> Option (Int × Bool)) : Option (Int × Bool) :=
 (if (decide (((word.size : Nat) : Int) < 1)) = true then some (0, false) else (if (decide (((word.size : Nat) : Int) > 9)) = true then some (0, false) else (if (decide (((word.size : Nat) : Int) > 1)) = true then (if (decide (0 <= 0) && decide (0 < ((word.size : Nat) : Int))) = true then (if (((word.data.getD 0 0).toNat : Int) == 48) = true then some (0, false) else lo0 0 0) else none) else lo1 0 0)))
def ZeS (fu : Nat) (word : ByteArray) : Option (Int × Bool) := Zgn word (Z37 fu word (fu + 100)) (Z38 fu word (fu + 100))
theorem ZxL (fu : Nat) (word : ByteArray) : eF fu Z5V 63 49 ZfI [.v (.string word)] = ZeS fu word := by
 have h1 : eF fu Z5V 63 49 ZfI [.v (.string word)] = Zgn word (Z5I prog fu word (fu + 100)) (Z5J prog fu word (fu + 100)) := by kernel_rfl
 have c0 : Z5I prog fu word (fu + 100) = Z37 fu word (fu + 100) := by funext j_n i; exact Zol fu word (fu + 100) j_n i
 have c1 : Z5J prog fu word (fu + 100) = Z38 fu word (fu + 100) := by funext j_n i; exact Zom fu word (fu + 100) j_n i
 rw [h1, c0, c1]
 rfl
theorem Zjd {word : ByteArray} (hs : word.size <= 9) : ∀ (Q D : List UInt8) (a F : Nat), toL word = D ++ Q -> a < 10 ^ D.length -> Q.length < F -> Z37 1000000 word F (a : Int) (D.length : Int) = (match valF a Q with | some n => some ((n : Int), true) | none => some (0, false))
 | Q, D, a, 0, _, _, h => absurd h (Nat.not_lt_zero _)
 | [], D, a, F + 1, e, _, _ => by
  have hsz : word.size = D.length := by rw [ZX, e]; simp
  show Z5A word (Z37 1000000 word F) (a : Int) (D.length : Int) = _
  unfold Z5A
  rw [if_neg (by rw [hsz]; simp)]
  rfl
 | c :: Q, D, a, F + 1, e, ha, hF => by
  have hsz : word.size = D.length + (Q.length + 1) := by rw [ZX, e]; simp
  have hc := Zgz e
  have hp := pow9 (k := D.length) (by omega)
  have hx : (decide (0 <= (D.length : Int)) && decide ((D.length : Int) < ((word.size : Nat) : Int))) = true := by rw [hsz]; simp; omega
  show Z5A word (Z37 1000000 word F) (a : Int) (D.length : Int) = _
  unfold Z5A
  rw [if_pos (by rw [hsz]; simp; omega), if_pos hx, Int.toNat_natCast, hc]
  by_cases hd : dgt c = true
  ·obtain ⟨d1, d2⟩ := Z7W.1 hd
   have e1 : wI (10 * (a : Int)) = ((a * 10 : Nat) : Int) := by rw [Zz]; unfold wrap64; omega
   have e2 : wI (((a * 10 : Nat) : Int) + ((c.toNat - 48 : Nat) : Int)) = ((a * 10 + (c.toNat - 48) : Nat) : Int) := by rw [Zz]; unfold wrap64; omega
   have e3 : wI ((D.length : Int) + 1) = (((D ++ [c]).length : Nat) : Int) := by rw [List.length_append]; exact Z1O (n := word.size) (by omega) (by omega)
   rw [if_neg (by simp; omega), if_pos hx, if_neg (by simp; omega), if_pos hx, ZgH hd, e1, e2, e3]
   rw [Zjd hs Q (D ++ [c]) (a * 10 + (c.toNat - 48)) F (by rw [e]; simp) (by rw [List.length_append]; exact Zj4 ha (by omega)) (by simpa using hF)]
   rw [valF, if_pos hd]
  ·rw [valF, if_neg hd]
   by_cases h1 : c.toNat < 48
   ·rw [if_pos (by simpa using by omega)]
   ·have h2 : ¬ c.toNat <= 57 := fun h2 => hd (Z7W.2 ⟨by omega, h2⟩)
    rw [if_neg (by simp; omega), if_pos hx, if_pos (by simp; omega)]
theorem Zje {word : ByteArray} (hs : word.size <= 9) : ∀ (Q D : List UInt8) (a F : Nat), toL word = D ++ Q -> a < 10 ^ D.length -> Q.length < F -> Z38 1000000 word F (a : Int) (D.length : Int) = (match valF a Q with | some n => some ((n : Int), true) | none => some (0, false))
 | Q, D, a, 0, _, _, h => absurd h (Nat.not_lt_zero _)
 | [], D, a, F + 1, e, _, _ => by
  have hsz : word.size = D.length := by rw [ZX, e]; simp
  show Z5B word (Z38 1000000 word F) (a : Int) (D.length : Int) = _
  unfold Z5B
  rw [if_neg (by rw [hsz]; simp)]
  rfl
 | c :: Q, D, a, F + 1, e, ha, hF => by
  have hsz : word.size = D.length + (Q.length + 1) := by rw [ZX, e]; simp
  have hc := Zgz e
  have hp := pow9 (k := D.length) (by omega)
  have hx : (decide (0 <= (D.length : Int)) && decide ((D.length : Int) < ((word.size : Nat) : Int))) = true := by rw [hsz]; simp; omega
  show Z5B word (Z38 1000000 word F) (a : Int) (D.length : Int) = _
  unfold Z5B
  rw [if_pos (by rw [hsz]; simp; omega), if_pos hx, Int.toNat_natCast, hc]
  by_cases hd : dgt c = true
  ·obtain ⟨d1, d2⟩ := Z7W.1 hd
   have e1 : wI (10 * (a : Int)) = ((a * 10 : Nat) : Int) := by rw [Zz]; unfold wrap64; omega
   have e2 : wI (((a * 10 : Nat) : Int) + ((c.toNat - 48 : Nat) : Int)) = ((a * 10 + (c.toNat - 48) : Nat) : Int) := by rw [Zz]; unfold wrap64; omega
   have e3 : wI ((D.length : Int) + 1) = (((D ++ [c]).length : Nat) : Int) := by rw [List.length_append]; exact Z1O (n := word.size) (by omega) (by omega)
   rw [if_neg (by simp; omega), if_pos hx, if_neg (by simp; omega), if_pos hx, ZgH hd, e1, e2, e3]
   rw [Zje hs Q (D ++ [c]) (a * 10 + (c.toNat - 48)) F (by rw [e]; simp) (by rw [List.length_append]; exact Zj4 ha (by omega)) (by simpa using hF)]
   rw [valF, if_pos hd]
  ·rw [valF, if_neg hd]
   by_cases h1 : c.toNat < 48
   ·rw [if_pos (by simpa using by omega)]
   ·have h2 : ¬ c.toNat <= 57 := fun h2 => hd (Z7W.2 ⟨by omega, h2⟩)
    rw [if_neg (by simp; omega), if_pos hx, if_pos (by simp; omega)]
def ZH (word : ByteArray) : Int × Bool := match numL (toL word) with | some n => ((n : Int), true) | none => (0, false)
theorem ZvU (word : ByteArray) : ZeS 1000000 word = some (ZH word) := by
 unfold ZeS Zgn ZH numL
 by_cases h0 : (toL word).length = 0
 ·rw [if_pos (by rw [ZX, h0]; rfl), if_pos (Or.inl h0)]
 ·by_cases h9 : 9 < (toL word).length
  ·rw [if_neg (by rw [ZX]; simp; omega), if_pos (by rw [ZX]; simp; omega), if_pos (Or.inr (Or.inl h9))]
  ·have hs : word.size <= 9 := by rw [ZX]; omega
   have g0 := Zjd hs (toL word) [] 0 (1000000 + 100) rfl (by decide) (by omega)
   have g1 := Zje hs (toL word) [] 0 (1000000 + 100) rfl (by decide) (by omega)
   rw [if_neg (by rw [ZX]; simp; omega), if_neg (by rw [ZX]; simp; omega)]
   by_cases h1 : 1 < (toL word).length
   ·rw [if_pos (by rw [ZX]; simp; omega), if_pos (by rw [ZX]; simp; omega), Zuu]
    by_cases h2 : (toL word).getD 0 0 = 48
    ·rw [if_pos (by rw [h2]; rfl), if_pos (Or.inr (Or.inr ⟨h1, h2⟩))]
    ·rw [if_neg (fun q => h2 ((Zz0 (by decide) (by decide)).1 q)), if_neg (by rintro (q | q | q); exact h0 q; exact h9 q; exact h2 q.2)]
     refine Eq.trans g0 ?_
     cases valF 0 (toL word) <;> rfl
   ·rw [if_neg (by rw [ZX]; simp; omega), if_neg (by rintro (q | q | q); exact h0 q; exact h9 q; exact h1 q.1)]
    refine Eq.trans g1 ?_
    cases valF 0 (toL word) <;> rfl
def Za3 : RunP
 | [.v (.string word)] => some (true, ZG7 (ZH word))
 | _ => none
theorem Zhl : Sound prog 63 Za3 := by
 refine Zd ZNN Zx7 (by kernel_rfl) func63 ntmps63 rfl (by kernel_rfl) fun q r E => ?_
 unfold Za3 at E
 split at E
 ·obtain ⟨hp, rfl⟩ := so2 E
  rename_i word
  exact ⟨_, _, rfl, (ZxL _ word).trans (ZvU word)⟩
 ·cases E

def ZaC : Sums := ⟨tblS [(46, Z84)], tblM [], false⟩
theorem ZzA : Ze prog ZaC := ⟨Za ⟨⟨call46, Z9G⟩, ⟨⟩⟩, tM⟩
def Zxv (Z2 : Nat) (listl : List Int) (text : ByteArray) (i : Int) : Tab := ⟨[.row 0, jK, .val (.string (bs [])), .val (.string text), vI (i), ] ++ (jN 17 ++ [jK]), [(0, .ros Z2 (.ints listl))]⟩
def Z6w (P : Program) (fu Z2 : Nat) (listl : List Int) (f : Nat) (text : ByteArray) (i : Int) : Option (ByteArray) := Z1u (exec P ZaC 23 (fun _ => fu + 100) (Code.sub [1, 1, 0, 1, 0, 0] (ZS P 101))) f (Zxv Z2 listl text i) (Z0g 0 (kSeq (fun zs9 => exec P ZaC 23 (fun _ => fu + 100) (Code.sub [1, 1, 1] (ZS P 101)) zs9 (finT P 101 Z2E)) (finT P 101 Z2E)))
def Z6j (Z2 : Nat) (listl : List Int) (Z1F : ByteArray -> Int -> Option (ByteArray)) (text : ByteArray) (i : Int) : Option (ByteArray) :=
 (if (decide (i < ((Z2 : Nat) : Int))) = true then (if (decide (i > 0)) = true then (if (Nat.ble (text.size + (bs [44]).size) 9223372036854775807) = true then (if (decide (0 <= i) && decide (i < ((Z2 : Nat) : Int))) = true then (if (Nat.ble (i.toNat * 1 + 1) listl.length) = true then (if (Z5X (listl.getD (i.toNat * 1) 0)) = true then (if (Nat.ble ((text ++ (bs [44])).size + (Z01 (listl.getD (i.toNat * 1) 0)).size) 9223372036854775807) = true then Z1F ((text ++ (bs [44])) ++ (Z01 (listl.getD (i.toNat * 1) 0))) (wI (i + 1)) else none) else none) else none) else none) else none) else (if (decide (0 <= i) && decide (i < ((Z2 : Nat) : Int))) = true then (if (Nat.ble (i.toNat * 1 + 1) listl.length) = true then (if (Z5X (listl.getD (i.toNat * 1) 0)) = true then (if (Nat.ble (text.size + (Z01 (listl.getD (i.toNat * 1) 0)).size) 9223372036854775807) = true then Z1F (text ++ (Z01 (listl.getD (i.toNat * 1) 0))) (wI (i + 1)) else none) else none) else none) else none)) else some text)
def Z2U (fu Z2 : Nat) (listl : List Int) : Nat -> ByteArray -> Int -> Option (ByteArray)
 | 0, _, _ => none
 | f + 1, text, i => Z6j Z2 listl (Z2U fu Z2 listl f) text i
theorem Zqp (fu Z2 : Nat) (listl : List Int) : ∀ (f : Nat) (text : ByteArray) (i : Int), Z6w prog fu Z2 listl f text i = Z2U fu Z2 listl f text i := by
 intro f
 induction f with
 | zero => intros; rfl
 | succ f ih =>
  intro text i
  have h1 : Z6w prog fu Z2 listl (f + 1) text i = Z6j Z2 listl (Z6w prog fu Z2 listl f) text i := by kernel_rfl
  have h2 : Z6w prog fu Z2 listl f = Z2U fu Z2 listl f := by funext text i; exact ih text i
  rw [h1, h2]
  rfl
def Ziu (Z2 : Nat) (listl : List Int) (lo0 : ByteArray -> Int -> Option (ByteArray)) : Option (ByteArray) :=
 lo0 (bs []) 0
def Zgd (fu Z2 : Nat) (listl : List Int) : Option (ByteArray) := Ziu Z2 listl (Z2U fu Z2 listl (fu + 100))
theorem ZAJ (fu Z2 : Nat) (listl : List Int) : eF fu ZaC 101 23 Z2E [.s Z2 (.ints listl)] = Zgd fu Z2 listl := by
 have h1 : eF fu ZaC 101 23 Z2E [.s Z2 (.ints listl)] = Ziu Z2 listl (Z6w prog fu Z2 listl (fu + 100)) := by kernel_rfl
 have c0 : Z6w prog fu Z2 listl (fu + 100) = Z2U fu Z2 listl (fu + 100) := by funext text i; exact Zqp fu Z2 listl (fu + 100) text i
 rw [h1, c0]
 rfl
theorem ZBi {Z2 : Nat} {listl : List Int} (hp : (nlB Z2 listl) = true) {F : Nat} (hF : Z2 < F) : Z2U 1000000 Z2 listl F (bs []) 0 = some (bs (jn (toL (bs [44])) ((List.range Z2).map fun q => toL ((fun q => Z01 (listl.getD (q * 1) 0)) q)))) := by
 have hp' := hp
 unfold nlB at hp'
 simp only [Bool.and_eq_true] at hp'
 obtain ⟨h1, h2, h3⟩ := hp'
 have hl := (Z7Y h1).1
 have hn : Z2 <= 100000 := Nat.le_of_ble_eq_true h3
 have hd : ∀ k, k < Z2 -> Z5X (listl.getD (k * 1) 0) = true := fun k hk => Z7z h2 (by omega)
 have hi : ∀ k, k < Z2 -> (Z01 (listl.getD (k * 1) 0)).size <= 200 := fun k hk => Nat.le_trans (ZsS (hd k hk)) (by decide)
 refine ZA3 (L := fun f out i => Z2U 1000000 Z2 listl f out i) (item := (fun q => Z01 (listl.getD (q * 1) 0))) (sep := bs [44]) (n := Z2) (M := 200) (by decide) (by decide) hn hF hi (fun f out k hk hz => ?_) (fun f out => ?_)
 ·have hq := hi k hk
  show Z6j Z2 listl (Z2U 1000000 Z2 listl f) out (k : Int) = _
  unfold Z6j
  rw [if_pos (by simpa using hk)]
  by_cases h0 : k = 0
  ·rw [if_neg (by simp; omega), if_pos (ZgN hk), if_pos (by rw [Int.toNat_natCast]; exact Nat.ble_eq_true_of_le (by omega)), Int.toNat_natCast, if_pos (hd k hk), if_pos (ZgB (by omega) (Nat.le_trans hq (by decide))), Z1O hk (by omega), if_pos h0]
  ·rw [if_pos (by simp; omega), if_pos (ZgB (by omega) (by have : (bs [44]).size <= 10 := (by decide); omega)), if_pos (ZgN hk), if_pos (by rw [Int.toNat_natCast]; exact Nat.ble_eq_true_of_le (by omega)), Int.toNat_natCast, if_pos (hd k hk), if_pos (ZgB (by rw [Z1a]; have : (bs [44]).size <= 10 := (by decide); omega) (Nat.le_trans hq (by decide))), Z1O hk (by omega), if_neg h0]
 ·show Z6j Z2 listl (Z2U 1000000 Z2 listl f) out ((Z2 : Nat) : Int) = _
  unfold Z6j
  rw [if_neg (by simp)]
def ZhP (Z2 : Nat) (listl : List Int) : ByteArray := bs (jn [44] ((List.range Z2).map fun q => decL (listl.getD (q * 1) 0).toNat))
theorem ZyO (Z2 : Nat) (listl : List Int) (hp : (nlB Z2 listl) = true) : Zgd 1000000 Z2 listl = some (ZhP Z2 listl) := by
 have hn : Z2 <= 100000 := by
  unfold nlB at hp
  simp only [Bool.and_eq_true] at hp
  exact Nat.le_of_ble_eq_true hp.2.2
 unfold Zgd Ziu
 exact ZBi hp (by omega)
def ZaS : RunP
 | [.s Z2 (.ints listl)] => some (nlB Z2 listl, Z9l (ZhP Z2 listl))
 | _ => none
theorem ZhS : Sound prog 101 ZaS := by
 refine Zd Zkg ZzA (by kernel_rfl) func101 ntmps101 rfl (by kernel_rfl) fun q r E => ?_
 unfold ZaS at E
 split at E
 ·obtain ⟨hp, rfl⟩ := so2 E
  rename_i Z2 listl
  exact ⟨_, _, rfl, (ZAJ _ Z2 listl).trans (ZyO Z2 listl hp)⟩
 ·cases E

def ZrM : Sums := ⟨tblS [(101, ZaS)], tblM [], false⟩
theorem ZCZ : Ze prog ZrM := ⟨Za ⟨⟨call101, ZhS⟩, ⟨⟩⟩, tM⟩
def Zim (a : P2) : Option (ByteArray) :=
 (if (nlB 2 [a.1, a.2]) = true then some (ZhP 2 [a.1, a.2]) else none)
theorem ZDB (a : P2) : eT ZrM 48 9 Z2E [pA a] = Zim a := by
 kernel_rfl
def Z02 (a : P2) : ByteArray := bs (jn [44] [decL a.1.toNat, decL a.2.toNat])
theorem ZCq (a : P2) (hp : (num2 a) = true) : Zim a = some (Z02 a) := by
 unfold Zim
 rw [if_pos (ZPe hp)]
 rfl
def Z7I : RunP
 | [.v (.agg ⟨[.int .i64 a0, .int .i64 a1]⟩)] => some (num2 (a0, a1), Z9l (Z02 (a0, a1)))
 | _ => none
theorem Zaa : Sound prog 48 Z7I := by
 refine Zd Zkg ZCZ (by kernel_rfl) func48 ntmps48 rfl (by kernel_rfl) fun q r E => ?_
 unfold Z7I at E
 split at E
 ·obtain ⟨hp, rfl⟩ := so2 E
  rename_i a0 a1
  exact ⟨_, _, rfl, (ZDB (a0, a1)).trans (ZCq (a0, a1) hp)⟩
 ·cases E

def Zc5 : Sums := ⟨tblS [], tblM [], false⟩
theorem ZD0 : Ze prog Zc5 := ⟨Za ⟨⟩, tM⟩
def ZA2 (Z2 : Nat) (listl : List ByteArray) (out : ByteArray) (i : Int) : Tab := ⟨[.row 0, jK, .val (.string (bs [])), .val (.string out), vI (i), .row 0, vI (((Z2 : Nat) : Int)), vB ((((Z2 : Nat) : Int) == 0)), ] ++ (jN 16 ++ [jK]), [(0, .ros Z2 (.strs listl))]⟩
def Z7y (P : Program) (fu Z2 : Nat) (listl : List ByteArray) (f : Nat) (out : ByteArray) (i : Int) : Option (ByteArray) := Z1u (exec P Zc5 25 (fun _ => fu + 100) (Code.sub [1, 1, 1, 0, 1, 0, 0] (ZS P 179))) f (ZA2 Z2 listl out i) (Z0g 0 (kSeq (fun zs9 => exec P Zc5 25 (fun _ => fu + 100) (Code.sub [1, 1, 1, 1] (ZS P 179)) zs9 (finT P 179 Z2E)) (finT P 179 Z2E)))
def Z7n (Z2 : Nat) (listl : List ByteArray) (Z1F : ByteArray -> Int -> Option (ByteArray)) (out : ByteArray) (i : Int) : Option (ByteArray) :=
 (if (decide (i < ((Z2 : Nat) : Int))) = true then (if (decide (i > 0)) = true then (if (Nat.ble (out.size + (bs [32]).size) 9223372036854775807) = true then (if (decide (0 <= i) && decide (i < ((Z2 : Nat) : Int))) = true then (if (Nat.ble (i.toNat * 1 + 1) listl.length) = true then (if (Nat.ble ((out ++ (bs [32])).size + (listl.getD (i.toNat * 1) ByteArray.empty).size) 9223372036854775807) = true then Z1F ((out ++ (bs [32])) ++ (listl.getD (i.toNat * 1) ByteArray.empty)) (wI (i + 1)) else none) else none) else none) else none) else (if (decide (0 <= i) && decide (i < ((Z2 : Nat) : Int))) = true then (if (Nat.ble (i.toNat * 1 + 1) listl.length) = true then (if (Nat.ble (out.size + (listl.getD (i.toNat * 1) ByteArray.empty).size) 9223372036854775807) = true then Z1F (out ++ (listl.getD (i.toNat * 1) ByteArray.empty)) (wI (i + 1)) else none) else none) else none)) else some out)
def Z3m (fu Z2 : Nat) (listl : List ByteArray) : Nat -> ByteArray -> Int -> Option (ByteArray)
 | 0, _, _ => none
 | f + 1, out, i => Z7n Z2 listl (Z3m fu Z2 listl f) out i
theorem Zst (fu Z2 : Nat) (listl : List ByteArray) : ∀ (f : Nat) (out : ByteArray) (i : Int), Z7y prog fu Z2 listl f out i = Z3m fu Z2 listl f out i := by
 intro f
 induction f with
 | zero => intros; rfl
 | succ f ih =>
  intro out i
  have h1 : Z7y prog fu Z2 listl (f + 1) out i = Z7n Z2 listl (Z7y prog fu Z2 listl f) out i := by kernel_rfl
  have h2 : Z7y prog fu Z2 listl f = Z3m fu Z2 listl f := by funext out i; exact ih out i
  rw [h1, h2]
  rfl
def Zka (Z2 : Nat) (listl : List ByteArray) (lo0 : ByteArray -> Int -> Option (ByteArray)) : Option (ByteArray) :=
 (if (((Z2 : Nat) : Int) == 0) = true then some (bs [110, 111, 110, 101]) else lo0 (bs []) 0)
def Zin (fu Z2 : Nat) (listl : List ByteArray) : Option (ByteArray) := Zka Z2 listl (Z3m fu Z2 listl (fu + 100))
theorem ZDC (fu Z2 : Nat) (listl : List ByteArray) : eF fu Zc5 179 25 Z2E [.s Z2 (.strs listl)] = Zin fu Z2 listl := by
 have h1 : eF fu Zc5 179 25 Z2E [.s Z2 (.strs listl)] = Zka Z2 listl (Z7y prog fu Z2 listl (fu + 100)) := by kernel_rfl
 have c0 : Z7y prog fu Z2 listl (fu + 100) = Z3m fu Z2 listl (fu + 100) := by funext out i; exact Zst fu Z2 listl (fu + 100) out i
 rw [h1, c0]
 rfl
theorem ZDM {Z2 : Nat} {listl : List ByteArray} (hp : (txB Z2 listl) = true) {F : Nat} (hF : Z2 < F) : Z3m 1000000 Z2 listl F (bs []) 0 = some (bs (jn (toL (bs [32])) ((List.range Z2).map fun q => toL ((fun q => listl.getD (q * 1) ByteArray.empty) q)))) := by
 have hp' := hp
 unfold txB lenT at hp'
 simp only [Bool.and_eq_true] at hp'
 obtain ⟨h1, h2, h3⟩ := hp'
 have hl : listl.length = Z2 := Nat.eq_of_beq_eq_true h1
 have hn : Z2 <= 100000 := Nat.le_of_ble_eq_true h3
 have hi : ∀ k, k < Z2 -> (listl.getD (k * 1) ByteArray.empty).size <= 200 := fun k hk => by
  rw [List.getD_eq_getElem?_getD, List.getElem?_eq_getElem (by omega)]
  exact Nat.le_of_ble_eq_true (List.all_eq_true.1 h2 _ (List.getElem_mem _))
 refine ZA3 (L := fun f out i => Z3m 1000000 Z2 listl f out i) (item := (fun q => listl.getD (q * 1) ByteArray.empty)) (sep := bs [32]) (n := Z2) (M := 200) (by decide) (by decide) hn hF hi (fun f out k hk hz => ?_) (fun f out => ?_)
 ·have hq := hi k hk
  show Z7n Z2 listl (Z3m 1000000 Z2 listl f) out (k : Int) = _
  unfold Z7n
  rw [if_pos (by simpa using hk)]
  by_cases h0 : k = 0
  ·rw [if_neg (by simp; omega), if_pos (ZgN hk), if_pos (by rw [Int.toNat_natCast]; exact Nat.ble_eq_true_of_le (by omega)), Int.toNat_natCast, if_pos (ZgB (by omega) (Nat.le_trans hq (by decide))), Z1O hk (by omega), if_pos h0]
  ·rw [if_pos (by simp; omega), if_pos (ZgB (by omega) (by have : (bs [32]).size <= 10 := (by decide); omega)), if_pos (ZgN hk), if_pos (by rw [Int.toNat_natCast]; exact Nat.ble_eq_true_of_le (by omega)), Int.toNat_natCast, if_pos (ZgB (by rw [Z1a]; have : (bs [32]).size <= 10 := (by decide); omega) (Nat.le_trans hq (by decide))), Z1O hk (by omega), if_neg h0]
 ·show Z7n Z2 listl (Z3m 1000000 Z2 listl f) out ((Z2 : Nat) : Int) = _
  unfold Z7n
  rw [if_neg (by simp)]
theorem ZKP {T : Type} (d : T) (l : List T) : (List.range l.length).map (fun q => l.getD (q * 1) d) = l := by
 apply List.ext_getElem (by simp)
 intro i h1 h2
 simp [List.getD_eq_getElem?_getD, h2]
def ZdS (Z2 : Nat) (listl : List ByteArray) : ByteArray := bs (Z6d (listl.map toL))
theorem ZCr (Z2 : Nat) (listl : List ByteArray) (hp : (txB Z2 listl) = true) : Zin 1000000 Z2 listl = some (ZdS Z2 listl) := by
 have h1 := hp
 unfold txB lenT at h1
 simp only [Bool.and_eq_true] at h1
 have hl : listl.length = Z2 := Nat.eq_of_beq_eq_true h1.1
 have hn : Z2 <= 100000 := Nat.le_of_ble_eq_true h1.2.2
 unfold Zin Zka ZdS
 cases listl with
 | nil => rw [if_pos (by rw [<- hl]; rfl)]; rfl
 | cons x r =>
  rw [if_neg (by rw [<- hl]; simp; omega), ZDM hp (by omega)]
  have e := congrArg (List.map toL) (ZKP ByteArray.empty (x :: r))
  rw [hl, List.map_map] at e
  show some (bs (jn [32] _)) = some (bs (jn [32] _))
  rw [<- e]
  rfl
def Z9A : RunP
 | [.s Z2 (.strs listl)] => some (txB Z2 listl, Z9l (ZdS Z2 listl))
 | _ => none
theorem ZdW : Sound prog 179 Z9A := by
 refine Zd Zkg ZD0 (by kernel_rfl) func179 ntmps179 rfl (by kernel_rfl) fun q r E => ?_
 unfold Z9A at E
 split at E
 ·obtain ⟨hp, rfl⟩ := so2 E
  rename_i Z2 listl
  exact ⟨_, _, rfl, (ZDC _ Z2 listl).trans (ZCr Z2 listl hp)⟩
 ·cases E

def ZaD : Sums := ⟨tblS [(48, Z7I), (179, Z9A)], tblM [], false⟩
theorem ZzH : Ze prog ZaD := ⟨Za ⟨⟨call48, Zaa⟩, ⟨call179, ZdW⟩, ⟨⟩⟩, tM⟩
def Zxy (Zf : Nat) (pointsl : List Int) (l5 : List ByteArray) (m5 : Nat) (i : Int) : Tab := ⟨[.row 0, jK, .val (.string (bs [])), .row 20, vI (i), ] ++ (jN 16 ++ [jK]), [(0, .ros Zf (.ints pointsl)), (20, .row 9 1 m5 (.strs l5))]⟩
def Z6z (P : Program) (fu Zf : Nat) (pointsl : List Int) (f : Nat) (l5 : List ByteArray) (m5 : Nat) (i : Int) : Option (ByteArray) := Z1u (exec P ZaD 22 (fun _ => fu + 100) (Code.sub [1, 1, 0, 1, 0, 0] (ZS P 145))) f (Zxy Zf pointsl l5 m5 i) (Z0g 0 (kSeq (fun zs9 => exec P ZaD 22 (fun _ => fu + 100) (Code.sub [1, 1, 1] (ZS P 145)) zs9 (finT P 145 Z2E)) (finT P 145 Z2E)))
def Z6m (Zf : Nat) (pointsl : List Int) (Z1F : (List ByteArray) -> Nat -> Int -> Option (ByteArray)) (l5 : List ByteArray) (m5 : Nat) (i : Int) : Option (ByteArray) :=
 (if (decide (i < ((Zf : Nat) : Int))) = true then (if (decide (0 <= i) && decide (i < ((Zf : Nat) : Int))) = true then (if (Nat.ble (i.toNat * 2 + 2) pointsl.length) = true then (if (num2 (pointsl.getD (i.toNat * 2 + 0) 0, pointsl.getD (i.toNat * 2 + 1) 0)) = true then (if (Nat.ble 0 1 && Nat.ble (m5 + 1) 2000000 && Nat.beq 1 (1)) = true then Z1F (l5 ++ [(Z02 (pointsl.getD (i.toNat * 2 + 0) 0, pointsl.getD (i.toNat * 2 + 1) 0))]) (m5 + 1) (wI (i + 1)) else none) else none) else none) else none) else (if (txB m5 l5) = true then some (ZdS m5 l5) else none))
def Z3Q (fu Zf : Nat) (pointsl : List Int) : Nat -> (List ByteArray) -> Nat -> Int -> Option (ByteArray)
 | 0, _, _, _ => none
 | f + 1, l5, m5, i => Z6m Zf pointsl (Z3Q fu Zf pointsl f) l5 m5 i
theorem Zqs (fu Zf : Nat) (pointsl : List Int) : ∀ (f : Nat) (l5 : List ByteArray) (m5 : Nat) (i : Int), Z6z prog fu Zf pointsl f l5 m5 i = Z3Q fu Zf pointsl f l5 m5 i := by
 intro f
 induction f with
 | zero => intros; rfl
 | succ f ih =>
  intro l5 m5 i
  have h1 : Z6z prog fu Zf pointsl (f + 1) l5 m5 i = Z6m Zf pointsl (Z6z prog fu Zf pointsl f) l5 m5 i := by kernel_rfl
  have h2 : Z6z prog fu Zf pointsl f = Z3Q fu Zf pointsl f := by funext l5 m5 i; exact ih l5 m5 i
  rw [h1, h2]
  rfl
def Ziw (Zf : Nat) (pointsl : List Int) (lo0 : (List ByteArray) -> Nat -> Int -> Option (ByteArray)) : Option (ByteArray) :=
 lo0 [] 0 0
def Zgj (fu Zf : Nat) (pointsl : List Int) : Option (ByteArray) := Ziw Zf pointsl (Z3Q fu Zf pointsl (fu + 100))
theorem ZAQ (fu Zf : Nat) (pointsl : List Int) : eF fu ZaD 145 22 Z2E [.s Zf (.ints pointsl)] = Zgj fu Zf pointsl := by
 have h1 : eF fu ZaD 145 22 Z2E [.s Zf (.ints pointsl)] = Ziw Zf pointsl (Z6z prog fu Zf pointsl (fu + 100)) := by kernel_rfl
 have c0 : Z6z prog fu Zf pointsl (fu + 100) = Z3Q fu Zf pointsl (fu + 100) := by funext l5 m5 i; exact Zqs fu Zf pointsl (fu + 100) l5 m5 i
 rw [h1, c0]
 rfl
theorem Zc9 {Zf : Nat} {pointsl : List Int} (hp : ptsB Zf pointsl = true) : pointsl.length = 2 * Zf /\ Zf <= 100000 /\ ∀ k, k < Zf -> num2 (pointsl.getD (k * 2 + 0) 0, pointsl.getD (k * 2 + 1) 0) = true := by
 unfold ptsB at hp
 simp only [Bool.and_eq_true] at hp
 obtain ⟨h1, h2, h3⟩ := hp
 have hl := (Z7Y h1).1
 have hn := Nat.le_of_ble_eq_true h3
 exact ⟨hl, by omega, fun k hk => Zkr (Z7z h2 (by omega)) (Z7z h2 (by omega))⟩
def Z17 (Zf : Nat) (pointsl : List Int) : ByteArray := bs (Z6d ((List.range Zf).map fun q => toL (Z02 (pointsl.getD (q * 2 + 0) 0, pointsl.getD (q * 2 + 1) 0))))
theorem ZBj {Zf : Nat} {pointsl : List Int} (hp : ptsB Zf pointsl = true) {F : Nat} (hF : Zf < F) : Z3Q 1000000 Zf pointsl F [] 0 0 = some (Z17 Zf pointsl) := by
 obtain ⟨hl, hn, hd⟩ := Zc9 hp
 refine Zjc (item := fun q => Z02 (pointsl.getD (q * 2 + 0) 0, pointsl.getD (q * 2 + 1) 0)) (n := Zf) hF (fun f r k hk hr => ?_) (fun f => ?_)
 ·show Z6m Zf pointsl (Z3Q 1000000 Zf pointsl f) r k (k : Int) = _
  unfold Z6m
  rw [if_pos (by simpa using hk), if_pos (ZgN hk), if_pos (by rw [Int.toNat_natCast]; exact Nat.ble_eq_true_of_le (by omega)), Int.toNat_natCast, if_pos (hd k hk), if_pos (ZpL (by omega)), Z1O hk (by omega)]
 ·show Z6m Zf pointsl (Z3Q 1000000 Zf pointsl f) _ _ ((Zf : Nat) : Int) = _
  unfold Z6m
  rw [if_neg (by simp), if_pos (ZJG (item := fun q => Z02 (pointsl.getD (q * 2 + 0) 0, pointsl.getD (q * 2 + 1) 0)) (by omega) fun q hq => Nat.le_trans (Zdv (hd q hq)) (by decide))]
  show some (bs (Z6d _)) = some (bs (Z6d _))
  rw [List.map_map]
  rfl
theorem ZyV (Zf : Nat) (pointsl : List Int) (hp : (ptsB Zf pointsl) = true) : Zgj 1000000 Zf pointsl = some (Z17 Zf pointsl) := by
 obtain ⟨_, hn, _⟩ := Zc9 hp
 unfold Zgj Ziw
 exact ZBj hp (by omega)
def Z8j : RunP
 | [.s Zf (.ints pointsl)] => some (ptsB Zf pointsl, Z9l (Z17 Zf pointsl))
 | _ => none
theorem ZcO : Sound prog 145 Z8j := by
 refine Zd Zkg ZzH (by kernel_rfl) func145 ntmps145 rfl (by kernel_rfl) fun q r E => ?_
 unfold Z8j at E
 split at E
 ·obtain ⟨hp, rfl⟩ := so2 E
  rename_i Zf pointsl
  exact ⟨_, _, rfl, (ZAQ _ Zf pointsl).trans (ZyV Zf pointsl hp)⟩
 ·cases E

def Zwy : Sums := ⟨tblS [(101, ZaS)], tblM [], false⟩
theorem ZFP : Ze prog Zwy := ⟨Za ⟨⟨call101, ZhS⟩, ⟨⟩⟩, tM⟩
def Zk3 (l : P3) : Option (ByteArray) :=
 (if (nlB 3 [l.1, l.2.1, l.2.2]) = true then some (ZhP 3 [l.1, l.2.1, l.2.2]) else none)
theorem ZGE (l : P3) : eT Zwy 241 11 Z2E [pB l] = Zk3 l := by
 kernel_rfl
def Z2N (l : P3) : ByteArray := bs (jn [44] [decL l.1.toNat, decL l.2.1.toNat, decL l.2.2.toNat])
theorem ZEo (l : P3) (hp : (num3 l) = true) : Zk3 l = some (Z2N l) := by
 unfold Zk3
 rw [if_pos (ZPf hp)]
 rfl
def ZiN : RunP
 | [.v (.agg ⟨[.int .i64 l0, .int .i64 l1, .int .i64 l2]⟩)] => some (num3 (l0, l1, l2), Z9l (Z2N (l0, l1, l2)))
 | _ => none
theorem Zyt : Sound prog 241 ZiN := by
 refine Zd Zkg ZFP (by kernel_rfl) func241 ntmps241 rfl (by kernel_rfl) fun q r E => ?_
 unfold ZiN at E
 split at E
 ·obtain ⟨hp, rfl⟩ := so2 E
  rename_i l0 l1 l2
  exact ⟨_, _, rfl, (ZGE (l0, l1, l2)).trans (ZEo (l0, l1, l2) hp)⟩
 ·cases E

def Zc4 : Sums := ⟨tblS [(241, ZiN), (179, Z9A)], tblM [], false⟩
theorem ZCY : Ze prog Zc4 := ⟨Za ⟨⟨call241, Zyt⟩, ⟨call179, ZdW⟩, ⟨⟩⟩, tM⟩
def ZA1 (ZG : Nat) (linesl : List Int) (l5 : List ByteArray) (m5 : Nat) (i : Int) : Tab := ⟨[.row 0, jK, .val (.string (bs [])), .row 20, vI (i), ] ++ (jN 16 ++ [jK]), [(0, .ros ZG (.ints linesl)), (20, .row 9 1 m5 (.strs l5))]⟩
def Z7x (P : Program) (fu ZG : Nat) (linesl : List Int) (f : Nat) (l5 : List ByteArray) (m5 : Nat) (i : Int) : Option (ByteArray) := Z1u (exec P Zc4 22 (fun _ => fu + 100) (Code.sub [1, 1, 0, 1, 0, 0] (ZS P 202))) f (ZA1 ZG linesl l5 m5 i) (Z0g 0 (kSeq (fun zs9 => exec P Zc4 22 (fun _ => fu + 100) (Code.sub [1, 1, 1] (ZS P 202)) zs9 (finT P 202 Z2E)) (finT P 202 Z2E)))
def Z7m (ZG : Nat) (linesl : List Int) (Z1F : (List ByteArray) -> Nat -> Int -> Option (ByteArray)) (l5 : List ByteArray) (m5 : Nat) (i : Int) : Option (ByteArray) :=
 (if (decide (i < ((ZG : Nat) : Int))) = true then (if (decide (0 <= i) && decide (i < ((ZG : Nat) : Int))) = true then (if (Nat.ble (i.toNat * 3 + 3) linesl.length) = true then (if (num3 (linesl.getD (i.toNat * 3 + 0) 0, linesl.getD (i.toNat * 3 + 1) 0, linesl.getD (i.toNat * 3 + 2) 0)) = true then (if (Nat.ble 0 1 && Nat.ble (m5 + 1) 2000000 && Nat.beq 1 (1)) = true then Z1F (l5 ++ [(Z2N (linesl.getD (i.toNat * 3 + 0) 0, linesl.getD (i.toNat * 3 + 1) 0, linesl.getD (i.toNat * 3 + 2) 0))]) (m5 + 1) (wI (i + 1)) else none) else none) else none) else none) else (if (txB m5 l5) = true then some (ZdS m5 l5) else none))
def Z4D (fu ZG : Nat) (linesl : List Int) : Nat -> (List ByteArray) -> Nat -> Int -> Option (ByteArray)
 | 0, _, _, _ => none
 | f + 1, l5, m5, i => Z7m ZG linesl (Z4D fu ZG linesl f) l5 m5 i
theorem Zss (fu ZG : Nat) (linesl : List Int) : ∀ (f : Nat) (l5 : List ByteArray) (m5 : Nat) (i : Int), Z7x prog fu ZG linesl f l5 m5 i = Z4D fu ZG linesl f l5 m5 i := by
 intro f
 induction f with
 | zero => intros; rfl
 | succ f ih =>
  intro l5 m5 i
  have h1 : Z7x prog fu ZG linesl (f + 1) l5 m5 i = Z7m ZG linesl (Z7x prog fu ZG linesl f) l5 m5 i := by kernel_rfl
  have h2 : Z7x prog fu ZG linesl f = Z4D fu ZG linesl f := by funext l5 m5 i; exact ih l5 m5 i
  rw [h1, h2]
  rfl
def Zk9 (ZG : Nat) (linesl : List Int) (lo0 : (List ByteArray) -> Nat -> Int -> Option (ByteArray)) : Option (ByteArray) :=
 lo0 [] 0 0
def Zil (fu ZG : Nat) (linesl : List Int) : Option (ByteArray) := Zk9 ZG linesl (Z4D fu ZG linesl (fu + 100))
theorem ZDA (fu ZG : Nat) (linesl : List Int) : eF fu Zc4 202 22 Z2E [.s ZG (.ints linesl)] = Zil fu ZG linesl := by
 have h1 : eF fu Zc4 202 22 Z2E [.s ZG (.ints linesl)] = Zk9 ZG linesl (Z7x prog fu ZG linesl (fu + 100)) := by kernel_rfl
 have c0 : Z7x prog fu ZG linesl (fu + 100) = Z4D fu ZG linesl (fu + 100) := by funext l5 m5 i; exact Zss fu ZG linesl (fu + 100) l5 m5 i
 rw [h1, c0]
 rfl
theorem Zdi {ZG : Nat} {linesl : List Int} (hp : lnsB ZG linesl = true) : linesl.length = 3 * ZG /\ ZG <= 100000 /\ ∀ k, k < ZG -> num3 (linesl.getD (k * 3 + 0) 0, linesl.getD (k * 3 + 1) 0, linesl.getD (k * 3 + 2) 0) = true := by
 unfold lnsB at hp
 simp only [Bool.and_eq_true] at hp
 obtain ⟨h1, h2, h3⟩ := hp
 have hl := (Z7Y h1).1
 have hn := Nat.le_of_ble_eq_true h3
 exact ⟨hl, by omega, fun k hk => ZnP (Z7z h2 (by omega)) (Z7z h2 (by omega)) (Z7z h2 (by omega))⟩
def Z55 (ZG : Nat) (linesl : List Int) : ByteArray := bs (Z6d ((List.range ZG).map fun q => toL (Z2N (linesl.getD (q * 3 + 0) 0, linesl.getD (q * 3 + 1) 0, linesl.getD (q * 3 + 2) 0))))
theorem ZDL {ZG : Nat} {linesl : List Int} (hp : lnsB ZG linesl = true) {F : Nat} (hF : ZG < F) : Z4D 1000000 ZG linesl F [] 0 0 = some (Z55 ZG linesl) := by
 obtain ⟨hl, hn, hd⟩ := Zdi hp
 refine Zjc (item := fun q => Z2N (linesl.getD (q * 3 + 0) 0, linesl.getD (q * 3 + 1) 0, linesl.getD (q * 3 + 2) 0)) (n := ZG) hF (fun f r k hk hr => ?_) (fun f => ?_)
 ·show Z7m ZG linesl (Z4D 1000000 ZG linesl f) r k (k : Int) = _
  unfold Z7m
  rw [if_pos (by simpa using hk), if_pos (ZgN hk), if_pos (by rw [Int.toNat_natCast]; exact Nat.ble_eq_true_of_le (by omega)), Int.toNat_natCast, if_pos (hd k hk), if_pos (ZpL (by omega)), Z1O hk (by omega)]
 ·show Z7m ZG linesl (Z4D 1000000 ZG linesl f) _ _ ((ZG : Nat) : Int) = _
  unfold Z7m
  rw [if_neg (by simp), if_pos (ZJG (item := fun q => Z2N (linesl.getD (q * 3 + 0) 0, linesl.getD (q * 3 + 1) 0, linesl.getD (q * 3 + 2) 0)) (by omega) fun q hq => Nat.le_trans (ZnM (hd q hq)) (by decide))]
  show some (bs (Z6d _)) = some (bs (Z6d _))
  rw [List.map_map]
  rfl
theorem ZCp (ZG : Nat) (linesl : List Int) (hp : (lnsB ZG linesl) = true) : Zil 1000000 ZG linesl = some (Z55 ZG linesl) := by
 obtain ⟨_, hn, _⟩ := Zdi hp
 unfold Zil Zk9
 exact ZDL hp (by omega)
def Zhe : RunP
 | [.s ZG (.ints linesl)] => some (lnsB ZG linesl, Z9l (Z55 ZG linesl))
 | _ => none
theorem ZvH : Sound prog 202 Zhe := by
 refine Zd Zkg ZCY (by kernel_rfl) func202 ntmps202 rfl (by kernel_rfl) fun q r E => ?_
 unfold Zhe at E
 split at E
 ·obtain ⟨hp, rfl⟩ := so2 E
  rename_i ZG linesl
  exact ⟨_, _, rfl, (ZDA _ ZG linesl).trans (ZCp ZG linesl hp)⟩
 ·cases E

def Zem : Sums := ⟨tblS [(46, Z84), (179, Z9A)], tblM [], false⟩
theorem ZFQ : Ze prog Zem := ⟨Za ⟨⟨call46, Z9G⟩, ⟨call179, ZdW⟩, ⟨⟩⟩, tM⟩
def ZD6 (ZZ : Nat) (numbersl : List Int) (l5 : List ByteArray) (m5 : Nat) (i : Int) : Tab := ⟨[.row 0, jK, .val (.string (bs [])), .row 20, vI (i), ] ++ (jN 16 ++ [jK]), [(0, .ros ZZ (.ints numbersl)), (20, .row 9 1 m5 (.strs l5))]⟩
def Z8A (P : Program) (fu ZZ : Nat) (numbersl : List Int) (f : Nat) (l5 : List ByteArray) (m5 : Nat) (i : Int) : Option (ByteArray) := Z1u (exec P Zem 22 (fun _ => fu + 100) (Code.sub [1, 1, 0, 1, 0, 0] (ZS P 188))) f (ZD6 ZZ numbersl l5 m5 i) (Z0g 0 (kSeq (fun zs9 => exec P Zem 22 (fun _ => fu + 100) (Code.sub [1, 1, 1] (ZS P 188)) zs9 (finT P 188 Z2E)) (finT P 188 Z2E)))
def Z8u (ZZ : Nat) (numbersl : List Int) (Z1F : (List ByteArray) -> Nat -> Int -> Option (ByteArray)) (l5 : List ByteArray) (m5 : Nat) (i : Int) : Option (ByteArray) :=
 (if (decide (i < ((ZZ : Nat) : Int))) = true then (if (decide (0 <= i) && decide (i < ((ZZ : Nat) : Int))) = true then (if (Nat.ble (i.toNat * 1 + 1) numbersl.length) = true then (if (Z5X (numbersl.getD (i.toNat * 1) 0)) = true then (if (Nat.ble 0 1 && Nat.ble (m5 + 1) 2000000 && Nat.beq 1 (1)) = true then Z1F (l5 ++ [(Z01 (numbersl.getD (i.toNat * 1) 0))]) (m5 + 1) (wI (i + 1)) else none) else none) else none) else none) else (if (txB m5 l5) = true then some (ZdS m5 l5) else none))
def Z5n (fu ZZ : Nat) (numbersl : List Int) : Nat -> (List ByteArray) -> Nat -> Int -> Option (ByteArray)
 | 0, _, _, _ => none
 | f + 1, l5, m5, i => Z8u ZZ numbersl (Z5n fu ZZ numbersl f) l5 m5 i
theorem Zve (fu ZZ : Nat) (numbersl : List Int) : ∀ (f : Nat) (l5 : List ByteArray) (m5 : Nat) (i : Int), Z8A prog fu ZZ numbersl f l5 m5 i = Z5n fu ZZ numbersl f l5 m5 i := by
 intro f
 induction f with
 | zero => intros; rfl
 | succ f ih =>
  intro l5 m5 i
  have h1 : Z8A prog fu ZZ numbersl (f + 1) l5 m5 i = Z8u ZZ numbersl (Z8A prog fu ZZ numbersl f) l5 m5 i := by kernel_rfl
  have h2 : Z8A prog fu ZZ numbersl f = Z5n fu ZZ numbersl f := by funext l5 m5 i; exact ih l5 m5 i
  rw [h1, h2]
  rfl
def Zma (ZZ : Nat) (numbersl : List Int) (lo0 : (List ByteArray) -> Nat -> Int -> Option (ByteArray)) : Option (ByteArray) :=
 lo0 [] 0 0
def Zk4 (fu ZZ : Nat) (numbersl : List Int) : Option (ByteArray) := Zma ZZ numbersl (Z5n fu ZZ numbersl (fu + 100))
theorem ZGF (fu ZZ : Nat) (numbersl : List Int) : eF fu Zem 188 22 Z2E [.s ZZ (.ints numbersl)] = Zk4 fu ZZ numbersl := by
 have h1 : eF fu Zem 188 22 Z2E [.s ZZ (.ints numbersl)] = Zma ZZ numbersl (Z8A prog fu ZZ numbersl (fu + 100)) := by kernel_rfl
 have c0 : Z8A prog fu ZZ numbersl (fu + 100) = Z5n fu ZZ numbersl (fu + 100) := by funext l5 m5 i; exact Zve fu ZZ numbersl (fu + 100) l5 m5 i
 rw [h1, c0]
 rfl
theorem Zf6 {ZZ : Nat} {numbersl : List Int} (hp : numB ZZ numbersl = true) : numbersl.length = 1 * ZZ /\ ZZ <= 100000 /\ ∀ k, k < ZZ -> Z5X (numbersl.getD (k * 1) 0) = true := by
 unfold numB at hp
 simp only [Bool.and_eq_true] at hp
 obtain ⟨h1, h2, h3⟩ := hp
 have hl := (Z7Y h1).1
 have hn := Nat.le_of_ble_eq_true h3
 exact ⟨hl, by omega, fun k hk => Z7D (Z7z h2 (by omega))⟩
def Z2O (ZZ : Nat) (numbersl : List Int) : ByteArray := bs (Z6d ((List.range ZZ).map fun q => toL (Z01 (numbersl.getD (q * 1) 0))))
theorem ZGZ {ZZ : Nat} {numbersl : List Int} (hp : numB ZZ numbersl = true) {F : Nat} (hF : ZZ < F) : Z5n 1000000 ZZ numbersl F [] 0 0 = some (Z2O ZZ numbersl) := by
 obtain ⟨hl, hn, hd⟩ := Zf6 hp
 refine Zjc (item := fun q => Z01 (numbersl.getD (q * 1) 0)) (n := ZZ) hF (fun f r k hk hr => ?_) (fun f => ?_)
 ·show Z8u ZZ numbersl (Z5n 1000000 ZZ numbersl f) r k (k : Int) = _
  unfold Z8u
  rw [if_pos (by simpa using hk), if_pos (ZgN hk), if_pos (by rw [Int.toNat_natCast]; exact Nat.ble_eq_true_of_le (by omega)), Int.toNat_natCast, if_pos (hd k hk), if_pos (ZpL (by omega)), Z1O hk (by omega)]
 ·show Z8u ZZ numbersl (Z5n 1000000 ZZ numbersl f) _ _ ((ZZ : Nat) : Int) = _
  unfold Z8u
  rw [if_neg (by simp), if_pos (ZJG (item := fun q => Z01 (numbersl.getD (q * 1) 0)) (by omega) fun q hq => Nat.le_trans (ZsS (hd q hq)) (by decide))]
  show some (bs (Z6d _)) = some (bs (Z6d _))
  rw [List.map_map]
  rfl
theorem ZEp (ZZ : Nat) (numbersl : List Int) (hp : (numB ZZ numbersl) = true) : Zk4 1000000 ZZ numbersl = some (Z2O ZZ numbersl) := by
 obtain ⟨_, hn, _⟩ := Zf6 hp
 unfold Zk4 Zma
 exact ZGZ hp (by omega)
def ZiO : RunP
 | [.s ZZ (.ints numbersl)] => some (numB ZZ numbersl, Z9l (Z2O ZZ numbersl))
 | _ => none
theorem Zyu : Sound prog 188 ZiO := by
 refine Zd Zkg ZFQ (by kernel_rfl) func188 ntmps188 rfl (by kernel_rfl) fun q r E => ?_
 unfold ZiO at E
 split at E
 ·obtain ⟨hp, rfl⟩ := so2 E
  rename_i ZZ numbersl
  exact ⟨_, _, rfl, (ZGF _ ZZ numbersl).trans (ZEp ZZ numbersl hp)⟩
 ·cases E

end

end Go.Proofs.YtcdpfpfbilfpoaaGreatDoor
