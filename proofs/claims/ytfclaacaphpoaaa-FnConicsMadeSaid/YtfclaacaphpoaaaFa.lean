import Derived.Test.YtfclaacaphpoaaaHz
import Derived.Test.YtfclaacaphpoaaaProg
set_option linter.unusedSimpArgs false
set_option linter.unusedVariables false
namespace Go.Proofs.Ytfclaacaphpoaaa
open Go.RowKit Try
noncomputable section
def ZiE : Sums := ⟨tblS [], tblM [], false, false⟩
theorem ZnU : ZJ prog ZiE := ⟨ZD ⟨⟩, tM⟩
def ZbH (p : Int) : Option (Bool) :=
 (if (p == 3) = true then (if (p == 3) = true then some true else some false) else (if (p == 5) = true then (if (p == 5) = true then some true else some false) else (if (p == 7) = true then (if (p == 7) = true then some true else some false) else (if (p == 11) = true then (if (p == 11) = true then some true else some false) else (if (p == 13) = true then (if (p == 13) = true then some true else some false) else (if (p == 17) = true then (if (p == 17) = true then some true else some false) else (if (p == 19) = true then (if (p == 19) = true then some true else some false) else (if (p == 23) = true then (if (p == 23) = true then some true else some false) else (if (p == 29) = true then (if (p == 29) = true then some true else some false) else (if (p == 31) = true then some true else some false))))))))))
theorem Zou (p : Int) : eT ZiE 106 15 Z0o [pI p] = ZbH p := by
 kernel_rfl
def Zo (p : Int) : Bool :=
 (if (p == 3) = true then (if (p == 3) = true then true else false) else (if (p == 5) = true then (if (p == 5) = true then true else false) else (if (p == 7) = true then (if (p == 7) = true then true else false) else (if (p == 11) = true then (if (p == 11) = true then true else false) else (if (p == 13) = true then (if (p == 13) = true then true else false) else (if (p == 17) = true then (if (p == 17) = true then true else false) else (if (p == 19) = true then (if (p == 19) = true then true else false) else (if (p == 23) = true then (if (p == 23) = true then true else false) else (if (p == 29) = true then (if (p == 29) = true then true else false) else (if (p == 31) = true then true else false))))))))))
theorem ZmP (p : Int) : ZbH p = some (Zo p) := by
 unfold ZbH Zo
 (try simp only [Z03])
 repeat' (first | with_reducible rfl | refine ZS (fun _ => ?_) (fun _ => ?_) | rfl)
def Z8r : RunP
 | [.v (.int .i64 p)] => some (true, Z4Q (Zo p))
 | _ => none
theorem ZcO : Sound prog 106 Z8r := by
 refine ZN Z7T ZnU (by kernel_rfl) func106 ntmps106 rfl (by kernel_rfl) fun q r E => ?_
 unfold Z8r at E
 split at E
 ·obtain ⟨hp, rfl⟩ := so2 E
  rename_i p
  exact ⟨_, _, rfl, (Zou p).trans (ZmP p)⟩
 ·cases E

def Zn8 : Sums := ⟨tblS [(106, Z8r)], tblM [], false, false⟩
theorem Zrp : ZJ prog Zn8 := ⟨ZD ⟨⟨call106, ZcO⟩, ⟨⟩⟩, tM⟩
def Zfp (p : Int) (rightk righth : Bool) : Option (Int) :=
 (if (!(Zo p)) = true then some 1 else (if (rightk) = true then (if (!righth) = true then some 2 else some 0) else none))
theorem ZrC (p : Int) (rightk righth : Bool) : eT Zn8 41 11 Z2T [pI p, .f (Zoi rightk righth)] = Zfp p rightk righth := by
 kernel_rfl
def Zt (p : Int) (rightk righth : Bool) : Int := if Zo p = true then (if righth = true then 0 else 2) else 1
theorem Z9V {p : Int} {k b : Bool} (h : Zt p k b = 0) : Zo p = true /\ b = true := by
 unfold Zt at h
 cases h1 : Zo p <;> cases h2 : b <;> simp [h1, h2] at h ⊢
theorem Zx {p : Int} (h : Zo p = true) : Pr p := by
 unfold Pr; simp [Zo] at h; omega
theorem Zbf {p : Int} {k b : Bool} (h : ¬ (Zt p k b != 0) = true) : prB p = true := Z9R (Zx (Z9V (by simpa using h)).1)
theorem Zc2 {p : Int} {k b : Bool} (h : (Zt p k b == 0) = true) : prB p = true := Zbf (by simpa using h)
theorem Zrd (p : Int) (rightk righth : Bool) (hp : (rightk || !(Zo p)) = true) : Zfp p rightk righth = some (Zt p rightk righth) := by
 unfold Zfp Zt
 cases h : Zo p <;> cases rightk <;> cases righth <;> simp_all
def Z5o : RunP
 | [.v (.int .i64 p), .f rightg] => some ((okV (rightg [])) || !(Zo p), Z7V (Zt p (okV (rightg [])) (ZgC (rightg []))))
 | _ => none
theorem Z5N : Sound prog 41 Z5o := by
 refine Zm1 Zdw Zrp (by kernel_rfl) func41 ntmps41 rfl (by kernel_rfl) ?_
 intro W pvs avs rs hargs hrun
 unfold Z5o at hrun
 split at hrun
 ·simp only [Option.some.injEq, Prod.mk.injEq] at hrun
  obtain ⟨hp, rfl⟩ := hrun
  rename_i p rightg
  have hargs := All2.replace (l1 := [_]) hargs (y := .f (Zoi _ _)) fun b hb => Znj hb (ZtB _)
  exact ⟨_, _, _, hargs, rfl, (ZrC p (okV (rightg [])) (ZgC (rightg []))).trans (Zrd p (okV (rightg [])) (ZgC (rightg [])) hp)⟩
 ·cases hrun

theorem Zx2 {p : Int} {k h : Bool} (e : Zt p k h = 0) : Zo p = true /\ h = true := by
 unfold Zt at e
 cases hf : Zo p
 ·simp [hf] at e
 ·cases h
  ·simp [hf] at e
  ·exact ⟨rfl, rfl⟩
def Zn9 : Sums := ⟨tblS [], tblM [], false, false⟩
theorem Zrq : ZJ prog Zn9 := ⟨ZD ⟨⟩, tM⟩
def Zfq (n_ low high : Int) : Option (Bool) :=
 (if (decide (n_ ≥ low)) = true then some (decide (n_ <= high)) else some false)
theorem ZrD (n_ low high : Int) : eT Zn9 122 15 Z0o [pI n_, pI low, pI high] = Zfq n_ low high := by
 kernel_rfl
def Z0N (n_ low high : Int) : Bool :=
 (if (decide (n_ ≥ low)) = true then decide (n_ <= high) else false)
theorem Zre (n_ low high : Int) : Zfq n_ low high = some (Z0N n_ low high) := by
 unfold Zfq Z0N
 (try simp only [Z03])
 repeat' (first | with_reducible rfl | refine ZS (fun _ => ?_) (fun _ => ?_) | rfl)
def Z5p : RunP
 | [.v (.int .i64 n_), .v (.int .i64 low), .v (.int .i64 high)] => some (true, Z4Q (Z0N n_ low high))
 | _ => none
theorem Z5O : Sound prog 122 Z5p := by
 refine ZN Z7T Zrq (by kernel_rfl) func122 ntmps122 rfl (by kernel_rfl) fun q r E => ?_
 unfold Z5p at E
 split at E
 ·obtain ⟨hp, rfl⟩ := so2 E
  rename_i n_ low high
  exact ⟨_, _, rfl, (ZrD n_ low high).trans (Zre n_ low high)⟩
 ·cases E

def Zgy : Sums := ⟨tblS [], tblM [], false, false⟩
theorem Zml : ZJ prog Zgy := ⟨ZD ⟨⟩, tM⟩
def ZaK (p x : Int) : Option (Bool) :=
 (if (decide (x ≥ 0)) = true then some (decide (x < p)) else some false)
theorem Zmw (p x : Int) : eT Zgy 121 12 Z0o [pI p, pI x] = ZaK p x := by
 kernel_rfl
def Z0Q (p x : Int) : Bool :=
 (if (decide (x ≥ 0)) = true then decide (x < p) else false)
theorem Zmb (p x : Int) : ZaK p x = some (Z0Q p x) := by
 unfold ZaK Z0Q
 (try simp only [Z03])
 repeat' (first | with_reducible rfl | refine ZS (fun _ => ?_) (fun _ => ?_) | rfl)
def Za8 : RunP
 | [.v (.int .i64 p), .v (.int .i64 x)] => some (true, Z4Q (Z0Q p x))
 | _ => none
theorem Zin : Sound prog 121 Za8 := by
 refine ZN Z7T Zml (by kernel_rfl) func121 ntmps121 rfl (by kernel_rfl) fun q r E => ?_
 unfold Za8 at E
 split at E
 ·obtain ⟨hp, rfl⟩ := so2 E
  rename_i p x
  exact ⟨_, _, rfl, (Zmw p x).trans (Zmb p x)⟩
 ·cases E

def Z60 : Sums := ⟨tblS [(121, Za8)], tblM [], false, false⟩
theorem Zjr : ZJ prog Z60 := ⟨ZD ⟨⟨call121, Zin⟩, ⟨⟩⟩, tM⟩
def ZhH (p : Int) (Zi : Nat) (listl : List Int) (t9 : Int) : Tab := ⟨[vI (p), .row 4, jK, jK, vB (false), jK, jK, .row 4, vI (((Zi : Nat) : Int)), vI (t9), jK, jK, jK, jK, jK, jK, jK, jK], [(4, .ros Zi (.ints listl))]⟩
def Z4i (P : Program) (fu : Nat) (p : Int) (Zi : Nat) (listl : List Int) (f : Nat) (t9 : Int) : Option (Bool) := ZH (exec P Z60 18 (fun _ => fu + 100) (Code.sub [1, 0, 1, 0, 0] (Zb P 94))) f (ZhH p Zi listl t9) (Zc 0 (kSeq (fun Zp => exec P Z60 18 (fun _ => fu + 100) (Code.sub [1, 1] (Zb P 94)) Zp (finT P 94 Z0o)) (finT P 94 Z0o)))
def Z48 (p : Int) (Zi : Nat) (listl : List Int) (ZE : Int -> Option (Bool)) (t9 : Int) : Option (Bool) :=
 (if (decide (t9 < ((Zi : Nat) : Int))) = true then (if (decide (0 <= t9) && decide (t9 < ((Zi : Nat) : Int))) = true then (if (Nat.ble (t9.toNat * 1 + 1) listl.length) = true then (if (!(Z0Q p (listl.getD (t9.toNat * 1) 0))) = true then some false else ZE (wI (t9 + 1))) else none) else none) else some true)
def Z2i (fu : Nat) (p : Int) (Zi : Nat) (listl : List Int) : Nat -> Int -> Option (Bool)
 | 0, _ => none
 | f + 1, t9 => Z48 p Zi listl (Z2i fu p Zi listl f) t9
theorem ZeM (fu : Nat) (p : Int) (Zi : Nat) (listl : List Int) : ∀ (f : Nat) (t9 : Int), Z4i prog fu p Zi listl f t9 = Z2i fu p Zi listl f t9 := by
 intro f
 induction f with
 | zero => intros; rfl
 | succ f ih =>
  intro t9
  have h1 : Z4i prog fu p Zi listl (f + 1) t9 = Z48 p Zi listl (Z4i prog fu p Zi listl f) t9 := by kernel_rfl
  have h2 : Z4i prog fu p Zi listl f = Z2i fu p Zi listl f := by funext t9; exact ih t9
  rw [h1, h2]
  rfl
def Z9N (p : Int) (Zi : Nat) (listl : List Int) (lo0 : Int -> Option (Bool)) : Option (Bool) :=
 lo0 0
def Z8O (fu : Nat) (p : Int) (Zi : Nat) (listl : List Int) : Option (Bool) := Z9N p Zi listl (Z2i fu p Zi listl (fu + 100))
theorem ZjF (fu : Nat) (p : Int) (Zi : Nat) (listl : List Int) : eF fu Z60 94 18 Z0o [pI p, .s Zi (.ints listl)] = Z8O fu p Zi listl := by
 have h1 : eF fu Z60 94 18 Z0o [pI p, .s Zi (.ints listl)] = Z9N p Zi listl (Z4i prog fu p Zi listl (fu + 100)) := by kernel_rfl
 have c0 : Z4i prog fu p Zi listl (fu + 100) = Z2i fu p Zi listl (fu + 100) := by funext t9; exact ZeM fu p Zi listl (fu + 100) t9
 rw [h1, c0]
 rfl
def ZR (p : Int) (l : List Int) : Bool := l.all (fun x => Z0Q p x)
theorem Ziu (p : Int) (Zi : Nat) (listl : List Int) (hp : (lenB Zi 1 listl) = true) : Z8O Zi p Zi listl = some (ZR p listl) := by
 obtain ⟨hl, hn⟩ := Z53 hp
 have key : ∀ F, Zi < F -> (Z2i Zi p Zi listl) F 0 = some (if (List.range Zi).all (fun k => (fun x => Z0Q p x) (listl.getD (k * 1) 0)) = true then true else false) := by
  intro F hF
  refine scan hF (fun f k hk => ?_) fun f => ?_
  ·show Z48 p Zi listl ((Z2i Zi p Zi listl) f) (k : Int) = _
   unfold Z48
   rw [if_pos (by simpa using hk), if_pos (by simpa using hk), if_pos (leb (by rw [hl, Int.toNat_natCast]; omega)), Z2o hk (by omega)]
   first | rfl | (rw [Z03]; rfl)
  ·show Z48 p Zi listl ((Z2i Zi p Zi listl) f) ((Zi : Nat) : Int) = _
   unfold Z48
   rw [if_neg (by simp)]
 unfold Z8O Z9N
 rw [key _ (by omega)]
 show _ = some ((listl).all (fun x => Z0Q p x))
 rw [Znb Zi listl (by omega)]
 cases (List.range Zi).all (fun k => (fun x => Z0Q p x) (listl.getD (k * 1) 0)) <;> rfl
def Z4o : RunP
 | [.v (.int .i64 p), .s Zi (.ints listl)] => some (lenB Zi 1 listl, Z4Q (ZR p listl))
 | _ => none
theorem Z5z : Sound prog 94 Z4o := by
 refine ZN Z7T Zjr (by kernel_rfl) func94 ntmps94 rfl (by kernel_rfl) fun q r E => ?_
 unfold Z4o at E
 split at E
 ·obtain ⟨hp, rfl⟩ := so2 E
  rename_i p Zi listl
  exact ⟨_, _, rfl, (ZjF _ p Zi listl).trans (Ziu p Zi listl hp)⟩
 ·cases E

def Z7B : Sums := ⟨tblS [(122, Z5p)], tblM [], false, false⟩
theorem Zmm : ZJ prog Z7B := ⟨ZD ⟨⟨call122, Z5O⟩, ⟨⟩⟩, tM⟩
def ZkU (p d : Int) : Tab := ⟨[vI (p), jK, vB (false), vI (d), vI (p), vB ((Z0N p 3 31)), vB ((!(Z0N p 3 31))), ] ++ (jN 10 ++ [jK]), []⟩
def Z5a (P : Program) (fu : Nat) (p : Int) (f : Nat) (d : Int) : Option (Bool) := ZH (exec P Z7B 18 (fun _ => fu + 100) (Code.sub [1, 1, 0, 1, 0, 0] (Zb P 107))) f (ZkU p d) (Zc 0 (kSeq (fun Zp => exec P Z7B 18 (fun _ => fu + 100) (Code.sub [1, 1, 1] (Zb P 107)) Zp (finT P 107 Z0o)) (finT P 107 Z0o)))
def Zdg (p : Int) (ZE : Int -> Option (Bool)) (d : Int) : Option (Bool) :=
 (if (decide ((wI (d * d)) <= p)) = true then (if (!(d == 0)) = true then (if ((p.tmod d) == 0) = true then some false else ZE (wI (d + 1))) else none) else some true)
def Z5Z (fu : Nat) (p : Int) : Nat -> Int -> Option (Bool)
 | 0, _ => none
 | f + 1, d => Zdg p (Z5Z fu p f) d
theorem ZgY (fu : Nat) (p : Int) : ∀ (f : Nat) (d : Int), Z5a prog fu p f d = Z5Z fu p f d := by
 intro f
 induction f with
 | zero => intros; rfl
 | succ f ih =>
  intro d
  have h1 : Z5a prog fu p (f + 1) d = Zdg p (Z5a prog fu p f) d := by kernel_rfl
  have h2 : Z5a prog fu p f = Z5Z fu p f := by funext d; exact ih d
  rw [h1, h2]
  rfl
def ZbY (p : Int) (lo0 : Int -> Option (Bool)) : Option (Bool) :=
 (if (!(Z0N p 3 31)) = true then some false else lo0 2)
def ZaL (fu : Nat) (p : Int) : Option (Bool) := ZbY p (Z5Z fu p (fu + 100))
theorem Zmx (fu : Nat) (p : Int) : eF fu Z7B 107 18 Z0o [pI p] = ZaL fu p := by
 have h1 : eF fu Z7B 107 18 Z0o [pI p] = ZbY p (Z5a prog fu p (fu + 100)) := by kernel_rfl
 have c0 : Z5a prog fu p (fu + 100) = Z5Z fu p (fu + 100) := by funext d; exact ZgY fu p (fu + 100) d
 rw [h1, c0]
 rfl
def Z0a (p : Int) : Bool := Zo p
theorem Zws {p : Int} (h3 : 3 <= p) (h31 : p <= 31) : p = 3 \/ p = 4 \/ p = 5 \/ p = 6 \/ p = 7 \/ p = 8 \/ p = 9 \/ p = 10 \/ p = 11 \/ p = 12 \/ p = 13 \/ p = 14 \/ p = 15 \/ p = 16 \/ p = 17 \/ p = 18 \/ p = 19 \/ p = 20 \/ p = 21 \/ p = 22 \/ p = 23 \/ p = 24 \/ p = 25 \/ p = 26 \/ p = 27 \/ p = 28 \/ p = 29 \/ p = 30 \/ p = 31 := by omega
theorem Zmc (p : Int) : ZaL 40 p = some (Z0a p) := by
 by_cases hr : 3 <= p /\ p <= 31
 ·obtain ⟨h3, h31⟩ := hr
  obtain rfl | rfl | rfl | rfl | rfl | rfl | rfl | rfl | rfl | rfl | rfl | rfl | rfl | rfl | rfl | rfl | rfl | rfl | rfl | rfl | rfl | rfl | rfl | rfl | rfl | rfl | rfl | rfl | rfl := Zws h3 h31
  all_goals kernel_rfl
 ·have hin : Z0N p 3 31 = false := by simp [Z0N]; omega
  unfold ZaL ZbY
  rw [hin]
  show some false = some (Zo p)
  congr 1
  symm
  simp [Zo]; omega
def Z5g : RunP
 | [.v (.int .i64 p)] => some (true, Z4Q (Z0a p))
 | _ => none
theorem Z6r : Sound prog 107 Z5g := by
 refine ZN Z7T Zmm (by kernel_rfl) func107 ntmps107 rfl (by kernel_rfl) fun q r E => ?_
 unfold Z5g at E
 split at E
 ·obtain ⟨hp, rfl⟩ := so2 E
  rename_i p
  exact ⟨_, _, rfl, (Zmx _ p).trans (Zmc p)⟩
 ·cases E

def Z63 : Sums := ⟨tblS [(107, Z5g), (122, Z5p)], tblM [], false, false⟩
theorem Zjw : ZJ prog Z63 := ⟨ZD ⟨⟨call107, Z6r⟩, ⟨call122, Z5O⟩, ⟨⟩⟩, tM⟩
def ZhK (p : Int) (Zi : Nat) (listl : List Int) (i : Int) : Tab := ⟨[vI (p), .row 4, jK, jK, vI (0), vI (i), vI (p), vB ((Z0a p)), vB ((!(Z0a p))), ] ++ (jN 13 ++ [jK]), [(4, .ros Zi (.ints listl))]⟩
def Z4l (P : Program) (fu : Nat) (p : Int) (Zi : Nat) (listl : List Int) (f : Nat) (i : Int) : Option (Int) := ZH (exec P Z63 23 (fun _ => fu + 100) (Code.sub [1, 1, 0, 1, 0, 0] (Zb P 95))) f (ZhK p Zi listl i) (Zc 0 (kSeq (fun Zp => exec P Z63 23 (fun _ => fu + 100) (Code.sub [1, 1, 1] (Zb P 95)) Zp (finT P 95 Z2T)) (finT P 95 Z2T)))
def Z4a (p : Int) (Zi : Nat) (listl : List Int) (ZE : Int -> Option (Int)) (i : Int) : Option (Int) :=
 (if (decide (i < ((Zi : Nat) : Int))) = true then (if (decide (0 <= i) && decide (i < ((Zi : Nat) : Int))) = true then (if (Nat.ble (i.toNat * 1 + 1) listl.length) = true then (if (!(Z0N (listl.getD (i.toNat * 1) 0) 0 (wI (p - 1)))) = true then some 2 else ZE (wI (i + 1))) else none) else none) else some 0)
def Z2j (fu : Nat) (p : Int) (Zi : Nat) (listl : List Int) : Nat -> Int -> Option (Int)
 | 0, _ => none
 | f + 1, i => Z4a p Zi listl (Z2j fu p Zi listl f) i
theorem ZeP (fu : Nat) (p : Int) (Zi : Nat) (listl : List Int) : ∀ (f : Nat) (i : Int), Z4l prog fu p Zi listl f i = Z2j fu p Zi listl f i := by
 intro f
 induction f with
 | zero => intros; rfl
 | succ f ih =>
  intro i
  have h1 : Z4l prog fu p Zi listl (f + 1) i = Z4a p Zi listl (Z4l prog fu p Zi listl f) i := by kernel_rfl
  have h2 : Z4l prog fu p Zi listl f = Z2j fu p Zi listl f := by funext i; exact ih i
  rw [h1, h2]
  rfl
def Z9Q (p : Int) (Zi : Nat) (listl : List Int) (lo0 : Int -> Option (Int)) : Option (Int) :=
 (if (!(Z0a p)) = true then some 1 else lo0 0)
def Z8T (fu : Nat) (p : Int) (Zi : Nat) (listl : List Int) : Option (Int) := Z9Q p Zi listl (Z2j fu p Zi listl (fu + 100))
theorem ZjK (fu : Nat) (p : Int) (Zi : Nat) (listl : List Int) : eF fu Z63 95 23 Z2T [pI p, .s Zi (.ints listl)] = Z8T fu p Zi listl := by
 have h1 : eF fu Z63 95 23 Z2T [pI p, .s Zi (.ints listl)] = Z9Q p Zi listl (Z4l prog fu p Zi listl (fu + 100)) := by kernel_rfl
 have c0 : Z4l prog fu p Zi listl (fu + 100) = Z2j fu p Zi listl (fu + 100) := by funext i; exact ZeP fu p Zi listl (fu + 100) i
 rw [h1, c0]
 rfl
def Z1k (p : Int) (l : List Int) : Int := if Z0a p = true then (if l.all (fun x => Z0N x 0 (wrap64 (p - 1))) = true then 0 else 2) else 1
theorem ZlF {p : Int} {l : List Int} (h : ¬ (Z1k p l != 0) = true) : prB p = true := by
 refine Z9R (Zx ?_)
 have h : Z1k p l = 0 := by simpa using h
 cases hf : Zo p
 ·simp [Z1k, Z0a, hf] at h
 ·rfl
theorem ZjN {p : Int} {l : List Int} (h : (Z1k p l == 0) = true) : prB p = true := ZlF (by simpa using h)
theorem Ziz (p : Int) (Zi : Nat) (listl : List Int) (hp : (lenB Zi 1 listl) = true) : Z8T Zi p Zi listl = some (Z1k p listl) := by
 obtain ⟨hl, hn⟩ := Z53 hp
 have key : ∀ F, Zi < F -> (Z2j Zi p Zi listl) F 0 = some (if (List.range Zi).all (fun k => (fun x => Z0N x 0 (wrap64 (p - 1))) (listl.getD (k * 1) 0)) = true then 0 else 2) := by
  intro F hF
  refine scan hF (fun f k hk => ?_) fun f => ?_
  ·show Z4a p Zi listl ((Z2j Zi p Zi listl) f) (k : Int) = _
   unfold Z4a
   rw [if_pos (by simpa using hk), if_pos (by simpa using hk), if_pos (leb (by rw [hl, Int.toNat_natCast]; omega)), Z2o hk (by omega)]
   first | rfl | (rw [Z03]; rfl)
  ·show Z4a p Zi listl ((Z2j Zi p Zi listl) f) ((Zi : Nat) : Int) = _
   unfold Z4a
   rw [if_neg (by simp)]
 unfold Z8T Z9Q
 show _ = some (if Z0a p = true then (if (listl).all (fun x => Z0N x 0 (wrap64 (p - 1))) = true then 0 else 2) else 1)
 cases hf : Z0a p
 ·rfl
 ·rw [key _ (by omega), Znb Zi listl (by omega)]
  rfl
def Z8j : RunP
 | [.v (.int .i64 p), .s Zi (.ints listl)] => some (lenB Zi 1 listl, Z7V (Z1k p listl))
 | _ => none
theorem Zgd : Sound prog 95 Z8j := by
 refine ZN Zdw Zjw (by kernel_rfl) func95 ntmps95 rfl (by kernel_rfl) fun q r E => ?_
 unfold Z8j at E
 split at E
 ·obtain ⟨hp, rfl⟩ := so2 E
  rename_i p Zi listl
  exact ⟨_, _, rfl, (ZjK _ p Zi listl).trans (Ziz p Zi listl hp)⟩
 ·cases E

def Zgz : Sums := ⟨tblS [(122, Z5p)], tblM [], false, false⟩
theorem Zmo : ZJ prog Zgz := ⟨ZD ⟨⟨call122, Z5O⟩, ⟨⟩⟩, tM⟩
def ZaN (p : Int) (a : P2) : Option (Bool) :=
 (if (Z0N a.1 0 (wI (p - 1))) = true then some (Z0N a.2 0 (wI (p - 1))) else some false)
theorem Zmz (p : Int) (a : P2) : eT Zgz 119 17 Z0o [pI p, pA a] = ZaN p a := by
 kernel_rfl
def Z3x (p : Int) (a : P2) : Bool :=
 (if (Z0N a.1 0 (wrap64 (p - 1))) = true then (Z0N a.2 0 (wrap64 (p - 1))) else false)
theorem Zme (p : Int) (a : P2) : ZaN p a = some (Z3x p a) := by
 unfold ZaN Z3x
 (try simp only [Z03])
 repeat' (first | with_reducible rfl | refine ZS (fun _ => ?_) (fun _ => ?_) | rfl)
def Zab : RunP
 | [.v (.int .i64 p), .v (.agg ⟨[.int .i64 a0, .int .i64 a1]⟩)] => some (true, Z4Q (Z3x p (a0, a1)))
 | _ => none
theorem Zip : Sound prog 119 Zab := by
 refine ZN Z7T Zmo (by kernel_rfl) func119 ntmps119 rfl (by kernel_rfl) fun q r E => ?_
 unfold Zab at E
 split at E
 ·obtain ⟨hp, rfl⟩ := so2 E
  rename_i p a0 a1
  exact ⟨_, _, rfl, (Zmz p (a0, a1)).trans (Zme p (a0, a1))⟩
 ·cases E

def Z8z : Sums := ⟨tblS [(107, Z5g), (119, Zab)], tblM [], false, false⟩
theorem Zo2 : ZJ prog Z8z := ⟨ZD ⟨⟨call107, Z6r⟩, ⟨call119, Zip⟩, ⟨⟩⟩, tM⟩
def Zms (p : Int) (Z0 : Nat) (pointsl : List Int) (i : Int) : Tab := ⟨[vI (p), .row 4, jK, jK, vI (0), vI (i), vI (p), vB ((Z0a p)), vB ((!(Z0a p))), ] ++ (jN 12 ++ [jK]), [(4, .ros Z0 (.ints pointsl))]⟩
def Z5H (P : Program) (fu : Nat) (p : Int) (Z0 : Nat) (pointsl : List Int) (f : Nat) (i : Int) : Option (Int) := ZH (exec P Z8z 22 (fun _ => fu + 100) (Code.sub [1, 1, 0, 1, 0, 0] (Zb P 87))) f (Zms p Z0 pointsl i) (Zc 0 (kSeq (fun Zp => exec P Z8z 22 (fun _ => fu + 100) (Code.sub [1, 1, 1] (Zb P 87)) Zp (finT P 87 Z2T)) (finT P 87 Z2T)))
def Z5F (p : Int) (Z0 : Nat) (pointsl : List Int) (ZE : Int -> Option (Int)) (i : Int) : Option (Int) :=
 (if (decide (i < ((Z0 : Nat) : Int))) = true then (if (decide (0 <= i) && decide (i < ((Z0 : Nat) : Int))) = true then (if (Nat.ble (i.toNat * 2 + 2) pointsl.length) = true then (if (!(Z3x p (pointsl.getD (i.toNat * 2 + 0) 0, pointsl.getD (i.toNat * 2 + 1) 0))) = true then some 2 else ZE (wI (i + 1))) else none) else none) else some 0)
def Z44 (fu : Nat) (p : Int) (Z0 : Nat) (pointsl : List Int) : Nat -> Int -> Option (Int)
 | 0, _ => none
 | f + 1, i => Z5F p Z0 pointsl (Z44 fu p Z0 pointsl f) i
theorem Zi8 (fu : Nat) (p : Int) (Z0 : Nat) (pointsl : List Int) : ∀ (f : Nat) (i : Int), Z5H prog fu p Z0 pointsl f i = Z44 fu p Z0 pointsl f i := by
 intro f
 induction f with
 | zero => intros; rfl
 | succ f ih =>
  intro i
  have h1 : Z5H prog fu p Z0 pointsl (f + 1) i = Z5F p Z0 pointsl (Z5H prog fu p Z0 pointsl f) i := by kernel_rfl
  have h2 : Z5H prog fu p Z0 pointsl f = Z44 fu p Z0 pointsl f := by funext i; exact ih i
  rw [h1, h2]
  rfl
def Zdn (p : Int) (Z0 : Nat) (pointsl : List Int) (lo0 : Int -> Option (Int)) : Option (Int) :=
 (if (!(Z0a p)) = true then some 1 else lo0 0)
def ZbO (fu : Nat) (p : Int) (Z0 : Nat) (pointsl : List Int) : Option (Int) := Zdn p Z0 pointsl (Z44 fu p Z0 pointsl (fu + 100))
theorem ZoC (fu : Nat) (p : Int) (Z0 : Nat) (pointsl : List Int) : eF fu Z8z 87 22 Z2T [pI p, .s Z0 (.ints pointsl)] = ZbO fu p Z0 pointsl := by
 have h1 : eF fu Z8z 87 22 Z2T [pI p, .s Z0 (.ints pointsl)] = Zdn p Z0 pointsl (Z5H prog fu p Z0 pointsl (fu + 100)) := by kernel_rfl
 have c0 : Z5H prog fu p Z0 pointsl (fu + 100) = Z44 fu p Z0 pointsl (fu + 100) := by funext i; exact Zi8 fu p Z0 pointsl (fu + 100) i
 rw [h1, c0]
 rfl
def ZB (p : Int) (l : List P2) : Int := if Z0a p = true then (if l.all (fun x => Z3x p x) = true then 0 else 2) else 1
theorem ZmX (p : Int) (Z0 : Nat) (pointsl : List Int) (hp : (lenB Z0 2 pointsl) = true) : ZbO Z0 p Z0 pointsl = some (ZB p (Z06 Z0 pointsl)) := by
 obtain ⟨hl, hn⟩ := Z53 hp
 have key : ∀ F, Z0 < F -> (Z44 Z0 p Z0 pointsl) F 0 = some (if (List.range Z0).all (fun k => (fun x => Z3x p x) (pointsl.getD (k * 2) 0, pointsl.getD (k * 2 + 1) 0)) = true then 0 else 2) := by
  intro F hF
  refine scan hF (fun f k hk => ?_) fun f => ?_
  ·show Z5F p Z0 pointsl ((Z44 Z0 p Z0 pointsl) f) (k : Int) = _
   unfold Z5F
   rw [if_pos (by simpa using hk), if_pos (by simpa using hk), if_pos (leb (by rw [hl, Int.toNat_natCast]; omega)), Z2o hk (by omega)]
   first | rfl | (rw [Z03]; rfl)
  ·show Z5F p Z0 pointsl ((Z44 Z0 p Z0 pointsl) f) ((Z0 : Nat) : Int) = _
   unfold Z5F
   rw [if_neg (by simp)]
 unfold ZbO Zdn
 show _ = some (if Z0a p = true then (if ((Z06 Z0 pointsl)).all (fun x => Z3x p x) = true then 0 else 2) else 1)
 cases hf : Z0a p
 ·rfl
 ·rw [key _ (by omega), ZhP Z0 pointsl]
  rfl
def Z6L : RunP
 | [.v (.int .i64 p), .s Z0 (.ints pointsl)] => some (lenB Z0 2 pointsl, Z7V (ZB p (Z06 Z0 pointsl)))
 | _ => none
theorem Z99 : Sound prog 87 Z6L := by
 refine ZN Zdw Zo2 (by kernel_rfl) func87 ntmps87 rfl (by kernel_rfl) fun q r E => ?_
 unfold Z6L at E
 split at E
 ·obtain ⟨hp, rfl⟩ := so2 E
  rename_i p Z0 pointsl
  exact ⟨_, _, rfl, (ZoC _ p Z0 pointsl).trans (ZmX p Z0 pointsl hp)⟩
 ·cases E

def ZkQ : Sums := ⟨tblS [(94, Z4o)], tblM [], false, false⟩
theorem ZpJ : ZJ prog ZkQ := ⟨ZD ⟨⟨call94, Z5z⟩, ⟨⟩⟩, tM⟩
def Zdj (p : Int) (l : P3) : Option (Bool) :=
 (if (!(ZR p [l.1, l.2.1, l.2.2])) = true then some false else (if (l.1 == 1) = true then some true else (if (l.1 == 0) = true then some (l.2.1 == 1) else some false)))
theorem Zqc (p : Int) (l : P3) : eT ZkQ 71 22 Z0o [pI p, pB l] = Zdj p l := by
 kernel_rfl
def Z0S (p : Int) (l : P3) : Bool :=
 (if (!(ZR p [l.1, l.2.1, l.2.2])) = true then false else (if (l.1 == 1) = true then true else (if (l.1 == 0) = true then l.2.1 == 1 else false)))
theorem ZpB (p : Int) (l : P3) : Zdj p l = some (Z0S p l) := by
 unfold Zdj Z0S
 (try simp only [Z03])
 repeat' (first | with_reducible rfl | refine ZS (fun _ => ?_) (fun _ => ?_) | rfl)
def Z9k : RunP
 | [.v (.int .i64 p), .v (.agg ⟨[.int .i64 l0, .int .i64 l1, .int .i64 l2]⟩)] => some (true, Z4Q (Z0S p (l0, l1, l2)))
 | _ => none
theorem Ze4 : Sound prog 71 Z9k := by
 refine ZN Z7T ZpJ (by kernel_rfl) func71 ntmps71 rfl (by kernel_rfl) fun q r E => ?_
 unfold Z9k at E
 split at E
 ·obtain ⟨hp, rfl⟩ := so2 E
  rename_i p l0 l1 l2
  exact ⟨_, _, rfl, (Zqc p (l0, l1, l2)).trans (ZpB p (l0, l1, l2))⟩
 ·cases E

def Zgx : Sums := ⟨tblS [], tblM [], false, false⟩
theorem Zmk : ZJ prog Zgx := ⟨ZD ⟨⟩, tM⟩
def ZaJ (Z8 : Int) : Option (Bool) :=
 (if (decide (Z8 ≥ 0)) = true then some (decide (Z8 <= 2)) else some false)
theorem Zmv (Z8 : Int) : eT Zgx 98 9 Z0o [pI Z8] = ZaJ Z8 := by
 kernel_rfl
def Z0P (Z8 : Int) : Bool :=
 (if (decide (Z8 ≥ 0)) = true then decide (Z8 <= 2) else false)
theorem Zma (Z8 : Int) : ZaJ Z8 = some (Z0P Z8) := by
 unfold ZaJ Z0P
 (try simp only [Z03])
 repeat' (first | with_reducible rfl | refine ZS (fun _ => ?_) (fun _ => ?_) | rfl)
def Z69 : RunP
 | [.v (.int .i64 Z8)] => some (true, Z4Q (Z0P Z8))
 | _ => none
theorem Z8m : Sound prog 98 Z69 := by
 refine ZN Z7T Zmk (by kernel_rfl) func98 ntmps98 rfl (by kernel_rfl) fun q r E => ?_
 unfold Z69 at E
 split at E
 ·obtain ⟨hp, rfl⟩ := so2 E
  rename_i Z8
  exact ⟨_, _, rfl, (Zmv Z8).trans (Zma Z8)⟩
 ·cases E

def ZiG : Sums := ⟨tblS [(94, Z4o)], tblM [], false, false⟩
theorem ZnX : ZJ prog ZiG := ⟨ZD ⟨⟨call94, Z5z⟩, ⟨⟩⟩, tM⟩
def ZbJ (p : Int) (a : P2) : Option (Bool) :=
 some (ZR p [a.1, a.2])
theorem Zox (p : Int) (a : P2) : eT ZiG 44 8 Z0o [pI p, pA a] = ZbJ p a := by
 kernel_rfl
def ZI (p : Int) (a : P2) : Bool :=
 (ZR p [a.1, a.2])
theorem ZmS (p : Int) (a : P2) : ZbJ p a = some (ZI p a) := by
 unfold ZbJ ZI
 (try simp only [Z03])
 repeat' (first | with_reducible rfl | refine ZS (fun _ => ?_) (fun _ => ?_) | rfl)
def Z6K : RunP
 | [.v (.int .i64 p), .v (.agg ⟨[.int .i64 a0, .int .i64 a1]⟩)] => some (true, Z4Q (ZI p (a0, a1)))
 | _ => none
theorem Z98 : Sound prog 44 Z6K := by
 refine ZN Z7T ZnX (by kernel_rfl) func44 ntmps44 rfl (by kernel_rfl) fun q r E => ?_
 unfold Z6K at E
 split at E
 ·obtain ⟨hp, rfl⟩ := so2 E
  rename_i p a0 a1
  exact ⟨_, _, rfl, (Zox p (a0, a1)).trans (ZmS p (a0, a1))⟩
 ·cases E

def Z6E : Sums := ⟨tblS [(44, Z6K)], tblM [], false, false⟩
theorem ZkD : ZJ prog Z6E := ⟨ZD ⟨⟨call44, Z98⟩, ⟨⟩⟩, tM⟩
def Zjz (p : Int) (Zi : Nat) (listl : List Int) (t9 : Int) : Tab := ⟨[vI (p), .row 4, jK, jK, vB (false), jK, jK, .row 4, vI (((Zi : Nat) : Int)), vI (t9), jK, jK, jK, jK, jK, jK, jK, jK], [(4, .ros Zi (.ints listl))]⟩
def Z4I (P : Program) (fu : Nat) (p : Int) (Zi : Nat) (listl : List Int) (f : Nat) (t9 : Int) : Option (Bool) := ZH (exec P Z6E 18 (fun _ => fu + 100) (Code.sub [1, 0, 1, 0, 0] (Zb P 82))) f (Zjz p Zi listl t9) (Zc 0 (kSeq (fun Zp => exec P Z6E 18 (fun _ => fu + 100) (Code.sub [1, 1] (Zb P 82)) Zp (finT P 82 Z0o)) (finT P 82 Z0o)))
def Z4B (p : Int) (Zi : Nat) (listl : List Int) (ZE : Int -> Option (Bool)) (t9 : Int) : Option (Bool) :=
 (if (decide (t9 < ((Zi : Nat) : Int))) = true then (if (decide (0 <= t9) && decide (t9 < ((Zi : Nat) : Int))) = true then (if (Nat.ble (t9.toNat * 2 + 2) listl.length) = true then (if (!(ZI p (listl.getD (t9.toNat * 2 + 0) 0, listl.getD (t9.toNat * 2 + 1) 0))) = true then some false else ZE (wI (t9 + 1))) else none) else none) else some true)
def Z2P (fu : Nat) (p : Int) (Zi : Nat) (listl : List Int) : Nat -> Int -> Option (Bool)
 | 0, _ => none
 | f + 1, t9 => Z4B p Zi listl (Z2P fu p Zi listl f) t9
theorem ZfY (fu : Nat) (p : Int) (Zi : Nat) (listl : List Int) : ∀ (f : Nat) (t9 : Int), Z4I prog fu p Zi listl f t9 = Z2P fu p Zi listl f t9 := by
 intro f
 induction f with
 | zero => intros; rfl
 | succ f ih =>
  intro t9
  have h1 : Z4I prog fu p Zi listl (f + 1) t9 = Z4B p Zi listl (Z4I prog fu p Zi listl f) t9 := by kernel_rfl
  have h2 : Z4I prog fu p Zi listl f = Z2P fu p Zi listl f := by funext t9; exact ih t9
  rw [h1, h2]
  rfl
def ZaQ (p : Int) (Zi : Nat) (listl : List Int) (lo0 : Int -> Option (Bool)) : Option (Bool) :=
 lo0 0
def Z9D (fu : Nat) (p : Int) (Zi : Nat) (listl : List Int) : Option (Bool) := ZaQ p Zi listl (Z2P fu p Zi listl (fu + 100))
theorem Zli (fu : Nat) (p : Int) (Zi : Nat) (listl : List Int) : eF fu Z6E 82 18 Z0o [pI p, .s Zi (.ints listl)] = Z9D fu p Zi listl := by
 have h1 : eF fu Z6E 82 18 Z0o [pI p, .s Zi (.ints listl)] = ZaQ p Zi listl (Z4I prog fu p Zi listl (fu + 100)) := by kernel_rfl
 have c0 : Z4I prog fu p Zi listl (fu + 100) = Z2P fu p Zi listl (fu + 100) := by funext t9; exact ZfY fu p Zi listl (fu + 100) t9
 rw [h1, c0]
 rfl
def Z0c (p : Int) (l : List P2) : Bool := l.all (fun x => ZI p x)
theorem Zk6 (p : Int) (Zi : Nat) (listl : List Int) (hp : (lenB Zi 2 listl) = true) : Z9D Zi p Zi listl = some (Z0c p (Z06 Zi listl)) := by
 obtain ⟨hl, hn⟩ := Z53 hp
 have key : ∀ F, Zi < F -> (Z2P Zi p Zi listl) F 0 = some (if (List.range Zi).all (fun k => (fun x => ZI p x) (listl.getD (k * 2) 0, listl.getD (k * 2 + 1) 0)) = true then true else false) := by
  intro F hF
  refine scan hF (fun f k hk => ?_) fun f => ?_
  ·show Z4B p Zi listl ((Z2P Zi p Zi listl) f) (k : Int) = _
   unfold Z4B
   rw [if_pos (by simpa using hk), if_pos (by simpa using hk), if_pos (leb (by rw [hl, Int.toNat_natCast]; omega)), Z2o hk (by omega)]
   first | rfl | (rw [Z03]; rfl)
  ·show Z4B p Zi listl ((Z2P Zi p Zi listl) f) ((Zi : Nat) : Int) = _
   unfold Z4B
   rw [if_neg (by simp)]
 unfold Z9D ZaQ
 rw [key _ (by omega)]
 show _ = some (((Z06 Zi listl)).all (fun x => ZI p x))
 rw [ZhP Zi listl]
 cases (List.range Zi).all (fun k => (fun x => ZI p x) (listl.getD (k * 2) 0, listl.getD (k * 2 + 1) 0)) <;> rfl
def Z6S : RunP
 | [.v (.int .i64 p), .s Zi (.ints listl)] => some (lenB Zi 2 listl, Z4Q (Z0c p (Z06 Zi listl)))
 | _ => none
theorem ZaE : Sound prog 82 Z6S := by
 refine ZN Z7T ZkD (by kernel_rfl) func82 ntmps82 rfl (by kernel_rfl) fun q r E => ?_
 unfold Z6S at E
 split at E
 ·obtain ⟨hp, rfl⟩ := so2 E
  rename_i p Zi listl
  exact ⟨_, _, rfl, (Zli _ p Zi listl).trans (Zk6 p Zi listl hp)⟩
 ·cases E

def ZiF : Sums := ⟨tblS [(94, Z4o)], tblM [], false, false⟩
theorem ZnW : ZJ prog ZiF := ⟨ZD ⟨⟨call94, Z5z⟩, ⟨⟩⟩, tM⟩
def ZbI (p : Int) (k : Int × Int × Int × Int × Int × Int) : Option (Bool) :=
 (if (!(ZR p [k.1, k.2.1, k.2.2.1, k.2.2.2.1, k.2.2.2.2.1, k.2.2.2.2.2])) = true then some false else (if (k.1 != 0) = true then some (k.1 == 1) else (if (k.2.1 != 0) = true then some (k.2.1 == 1) else (if (k.2.2.1 != 0) = true then some (k.2.2.1 == 1) else some false))))
theorem Zow (p : Int) (k : Int × Int × Int × Int × Int × Int) : eT ZiF 43 22 Z0o [pI p, .v (.agg ⟨[.int .i64 k.1, .int .i64 k.2.1, .int .i64 k.2.2.1, .int .i64 k.2.2.2.1, .int .i64 k.2.2.2.2.1, .int .i64 k.2.2.2.2.2]⟩)] = ZbI p k := by
 kernel_rfl
def Z0Z (p : Int) (k : Int × Int × Int × Int × Int × Int) : Bool :=
 (if (!(ZR p [k.1, k.2.1, k.2.2.1, k.2.2.2.1, k.2.2.2.2.1, k.2.2.2.2.2])) = true then false else (if (k.1 != 0) = true then k.1 == 1 else (if (k.2.1 != 0) = true then k.2.1 == 1 else (if (k.2.2.1 != 0) = true then k.2.2.1 == 1 else false))))
theorem ZmR (p : Int) (k : Int × Int × Int × Int × Int × Int) : ZbI p k = some (Z0Z p k) := by
 unfold ZbI Z0Z
 (try simp only [Z03])
 repeat' (first | with_reducible rfl | refine ZS (fun _ => ?_) (fun _ => ?_) | rfl)
def Z8s : RunP
 | [.v (.int .i64 p), .v (.agg ⟨[.int .i64 k0, .int .i64 k1, .int .i64 k2, .int .i64 k3, .int .i64 k4, .int .i64 k5]⟩)] => some (true, Z4Q (Z0Z p (k0, k1, k2, k3, k4, k5)))
 | _ => none
theorem ZcP : Sound prog 43 Z8s := by
 refine ZN Z7T ZnW (by kernel_rfl) func43 ntmps43 rfl (by kernel_rfl) fun q r E => ?_
 unfold Z8s at E
 split at E
 ·obtain ⟨hp, rfl⟩ := so2 E
  rename_i p k0 k1 k2 k3 k4 k5
  exact ⟨_, _, rfl, (Zow p (k0, k1, k2, k3, k4, k5)).trans (ZmR p (k0, k1, k2, k3, k4, k5))⟩
 ·cases E

def Z8y : Sums := ⟨tblS [], tblM [], false, false⟩
theorem ZnV : ZJ prog Z8y := ⟨ZD ⟨⟩, tM⟩
def Zmr (p a x : Int) : Tab := ⟨[vI (p), vI (a), jK, jK, vI (0), vI (x), ] ++ (jN 11 ++ [jK]), []⟩
def Z5G (P : Program) (fu : Nat) (p a : Int) (f : Nat) (x : Int) : Option (Int) := ZH (exec P Z8y 18 (fun _ => fu + 100) (Code.sub [1, 0, 1, 0, 0] (Zb P 84))) f (Zmr p a x) (Zc 0 (kSeq (fun Zp => exec P Z8y 18 (fun _ => fu + 100) (Code.sub [1, 1] (Zb P 84)) Zp (finT P 84 Z2T)) (finT P 84 Z2T)))
def Z5E (p a : Int) (ZE : Int -> Option (Int)) (x : Int) : Option (Int) :=
 (if (decide (x < p)) = true then (if (!(p == 0)) = true then (if (((wI (a * x)).tmod p) == 1) = true then some x else ZE (wI (x + 1))) else none) else some 0)
def Z4Y (fu : Nat) (p a : Int) : Nat -> Int -> Option (Int)
 | 0, _ => none
 | f + 1, x => Z5E p a (Z4Y fu p a f) x
theorem Zi7 (fu : Nat) (p a : Int) : ∀ (f : Nat) (x : Int), Z5G prog fu p a f x = Z4Y fu p a f x := by
 intro f
 induction f with
 | zero => intros; rfl
 | succ f ih =>
  intro x
  have h1 : Z5G prog fu p a (f + 1) x = Z5E p a (Z5G prog fu p a f) x := by kernel_rfl
  have h2 : Z5G prog fu p a f = Z4Y fu p a f := by funext x; exact ih x
  rw [h1, h2]
  rfl
def ZiB (p a : Int) (lo0 : Int -> Option (Int)) : Option (Int) :=
 lo0 1
def Zgn (fu : Nat) (p a : Int) : Option (Int) := ZiB p a (Z4Y fu p a (fu + 100))
theorem Zov (fu : Nat) (p a : Int) : eF fu Z8y 84 18 Z2T [pI p, pI a] = Zgn fu p a := by
 have h1 : eF fu Z8y 84 18 Z2T [pI p, pI a] = ZiB p a (Z5G prog fu p a (fu + 100)) := by kernel_rfl
 have c0 : Z5G prog fu p a (fu + 100) = Z4Y fu p a (fu + 100) := by funext x; exact Zi7 fu p a (fu + 100) x
 rw [h1, c0]
 rfl
def Zkm (p a : Int) : Nat -> Int -> Int
 | 0, _ => 0
 | k + 1, x => if ((wrap64 (a * x)).tmod p == 1) = true then x else Zkm p a k (x + 1)
def ZA (p a : Int) : Int := Zkm p a (p - 1).toNat 1
theorem ZqB (fu : Nat) (p a : Int) (hp : prB p = true) : ∀ (k f : Nat) (j : Int), 1 <= j -> j <= p -> (p - j).toNat = k -> k < f -> Z4Y fu p a f j = some (Zkm p a k j)
 | k, 0, j, _, _, _, h => absurd h (Nat.not_lt_zero k)
 | 0, f + 1, j, h1, h2, hk, _ => by
  show Z5E p a _ j = _
  unfold Z5E
  rw [if_neg (by simp; omega)]; rfl
 | k + 1, f + 1, j, h1, h2, hk, hf => by
  show Z5E p a (Z4Y fu p a f) j = _
  unfold Z5E
  rw [if_pos (by simp; omega), if_pos (Z6y hp), Z03, Z03]
  show _ = some (if ((wrap64 (a * j)).tmod p == 1) = true then j else Zkm p a k (j + 1))
  refine ZS (fun _ => rfl) fun _ => ?_
  have h31 := (Zih hp).2
  rw [show wrap64 (j + 1) = j + 1 from by unfold wrap64; omega]
  exact ZqB fu p a hp k f (j + 1) (by omega) (by omega) (by omega) (by omega)
theorem ZmQ (p a : Int) (hp : (prB p) = true) : Zgn 40 p a = some (ZA p a) := by
 obtain ⟨h1, h2⟩ := Zih hp
 exact ZqB 40 p a hp _ _ 1 (by omega) (by omega) rfl (by omega)
def Z6J : RunP
 | [.v (.int .i64 p), .v (.int .i64 a)] => some (prB p, Z7V (ZA p a))
 | _ => none
theorem Z97 : Sound prog 84 Z6J := by
 refine ZN Zdw ZnV (by kernel_rfl) func84 ntmps84 rfl (by kernel_rfl) fun q r E => ?_
 unfold Z6J at E
 split at E
 ·obtain ⟨hp, rfl⟩ := so2 E
  rename_i p a
  exact ⟨_, _, rfl, (Zov _ p a).trans (ZmQ p a hp)⟩
 ·cases E

def ZkS : Sums := ⟨tblS [], tblM [], false, false⟩
theorem ZpL : ZJ prog ZkS := ⟨ZD ⟨⟩, tM⟩
def Zdl (x p : Int) : Option (Int) :=
 (if (!(p == 0)) = true then (if (!(p == 0)) = true then some ((wI ((x.tmod p) + p)).tmod p) else none) else none)
theorem Zqe (x p : Int) : eT ZkS 90 12 Z2T [pI x, pI p] = Zdl x p := by
 kernel_rfl
def Z4 (x p : Int) : Int := x % p
theorem ZpD (x p : Int) (hp : (prB p) = true) : Zdl x p = some (Z4 x p) := by
 have h0 := Z6y hp
 unfold Zdl Z4
 simp only [h0, if_true, Z03]
 rw [ZqX hp]
def Z2e : RunP
 | [.v (.int .i64 x), .v (.int .i64 p)] => some (prB p, Z7V (Z4 x p))
 | _ => none
theorem Z2d : Sound prog 90 Z2e := by
 refine ZN Zdw ZpL (by kernel_rfl) func90 ntmps90 rfl (by kernel_rfl) fun q r E => ?_
 unfold Z2e at E
 split at E
 ·obtain ⟨hp, rfl⟩ := so2 E
  rename_i x p
  exact ⟨_, _, rfl, (Zqe x p).trans (ZpD x p hp)⟩
 ·cases E

def Z62 : Sums := ⟨tblS [(90, Z2e)], tblM [], false, false⟩
theorem Zjv : ZJ prog Z62 := ⟨ZD ⟨⟨call90, Z2d⟩, ⟨⟩⟩, tM⟩
def ZhJ (a p : Int) (out base k : Int) : Tab := ⟨[vI (a), vI (p), jK, jK, vI (0), vI (out), vI (base), vI (k), vI (a), vI (p), vI ((Z4 a p)), vI (p), vI ((wI (p - 2))), ] ++ (jN 17 ++ [jK]), []⟩
def Z4k (P : Program) (fu : Nat) (a p : Int) (f : Nat) (out base k : Int) : Option (Int) := ZH (exec P Z62 31 (fun _ => fu + 100) (Code.sub [1, 1, 0, 1, 0, 0] (Zb P 116))) f (ZhJ a p out base k) (Zc 0 (kSeq (fun Zp => exec P Z62 31 (fun _ => fu + 100) (Code.sub [1, 1, 1] (Zb P 116)) Zp (finT P 116 Z2T)) (finT P 116 Z2T)))
def Z6g (a p : Int) (ZE : Int -> Int -> Int -> Option (Int)) (out base k : Int) : Option (Int) :=
 (if (decide (k > 0)) = true then (if ((k.tmod 2) == 1) = true then (if (!(p == 0)) = true then (if (!(p == 0)) = true then ZE ((wI (out * base)).tmod p) ((wI (base * base)).tmod p) (wI (k.tdiv 2)) else none) else none) else (if (!(p == 0)) = true then ZE out ((wI (base * base)).tmod p) (wI (k.tdiv 2)) else none)) else some out)
def Z3a (fu : Nat) (a p : Int) : Nat -> Int -> Int -> Int -> Option (Int)
 | 0, _, _, _ => none
 | f + 1, out, base, k => Z6g a p (Z3a fu a p f) out base k
theorem ZeO (fu : Nat) (a p : Int) : ∀ (f : Nat) (out base k : Int), Z4k prog fu a p f out base k = Z3a fu a p f out base k := by
 intro f
 induction f with
 | zero => intros; rfl
 | succ f ih =>
  intro out base k
  have h1 : Z4k prog fu a p (f + 1) out base k = Z6g a p (Z4k prog fu a p f) out base k := by kernel_rfl
  have h2 : Z4k prog fu a p f = Z3a fu a p f := by funext out base k; exact ih out base k
  rw [h1, h2]
  rfl
def Z9P (a p : Int) (lo0 : Int -> Int -> Int -> Option (Int)) : Option (Int) :=
 (if (prB p) = true then lo0 1 (Z4 a p) (wI (p - 2)) else none)
def Z8S (fu : Nat) (a p : Int) : Option (Int) := Z9P a p (Z3a fu a p (fu + 100))
theorem ZjJ (fu : Nat) (a p : Int) : eF fu Z62 116 31 Z2T [pI a, pI p] = Z8S fu a p := by
 have h1 : eF fu Z62 116 31 Z2T [pI a, pI p] = Z9P a p (Z4k prog fu a p (fu + 100)) := by kernel_rfl
 have c0 : Z4k prog fu a p (fu + 100) = Z3a fu a p (fu + 100) := by funext out base k; exact ZeO fu a p (fu + 100) out base k
 rw [h1, c0]
 rfl
def Zh6 (p : Int) : Nat -> Int -> Int -> Int -> Int
 | 0, _, out, _ => out
 | f + 1, k, out, base => if decide (0 < k) = true then Zh6 p f (k / 2) (if (k % 2 == 1) = true then (wrap64 (out * base)).tmod p else out) ((wrap64 (base * base)).tmod p) else out
def Zn (a p : Int) : Int := Zh6 p 5 (p - 2) 1 (Z4 a p)
theorem Zpj (p : Int) (f : Nat) (k out base : Int) (h : ¬ 0 < k) : Zh6 p f k out base = out := by
 cases f
 ·rfl
 ·show (if decide (0 < k) = true then _ else out) = out
  rw [if_neg (by simpa using h)]
theorem ZlN (fu : Nat) (a p : Int) (hp : prB p = true) : ∀ (f F : Nat) (k out base : Int), k < 2 ^ f -> k <= 31 -> f < F -> Z3a fu a p F out base k = some (Zh6 p f k out base)
 | f, 0, k, _, _, _, _, h => absurd h (Nat.not_lt_zero f)
 | f, F + 1, k, out, base, h1, h31, hF => by
  show Z6g a p (Z3a fu a p F) out base k = _
  unfold Z6g
  by_cases hk : 0 < k
  ·obtain ⟨f, rfl⟩ : ∃ g, f = g + 1 := ⟨f - 1, by rcases f with _ | f <;> omega⟩
   have h0 := Z6y hp
   rw [if_pos (by simp; omega)]
   have e1 : k.tmod 2 = k % 2 := Int.tmod_eq_emod_of_nonneg (by omega)
   have e2 : k.tdiv 2 = k / 2 := Int.tdiv_eq_ediv_of_nonneg (by omega)
   have e3 : wrap64 (k / 2) = k / 2 := by unfold wrap64; omega
   have hh : k / 2 < 2 ^ f := by rw [Int.pow_succ] at h1; omega
   simp only [h0, if_true, Z03, e1, e2, e3]
   show _ = some (if decide (0 < k) = true then Zh6 p f (k / 2) (if (k % 2 == 1) = true then (wrap64 (out * base)).tmod p else out) ((wrap64 (base * base)).tmod p) else out)
   have hk' : decide (0 < k) = true := by simpa using hk
   rw [hk']
   cases h2 : (k % 2 == 1)
   ·exact ZlN fu a p hp f F (k / 2) _ _ hh (by omega) (by omega)
   ·exact ZlN fu a p hp f F (k / 2) _ _ hh (by omega) (by omega)
  ·rw [if_neg (by simp; omega), Zpj p f k out base hk]
theorem Ziy (a p : Int) (hp : (prB p) = true) : Z8S 40 a p = some (Zn a p) := by
 obtain ⟨h1, h2⟩ := Zih hp
 unfold Z8S Z9P
 rw [if_pos hp, Z03, show wrap64 (p - 2) = p - 2 from by unfold wrap64; omega]
 exact ZlN 40 a p hp 5 _ (p - 2) _ _ (by omega) (by omega) (by omega)
def Z5h : RunP
 | [.v (.int .i64 a), .v (.int .i64 p)] => some (prB p, Z7V (Zn a p))
 | _ => none
theorem Z7i : Sound prog 116 Z5h := by
 refine ZN Zdw Zjv (by kernel_rfl) func116 ntmps116 rfl (by kernel_rfl) fun q r E => ?_
 unfold Z5h at E
 split at E
 ·obtain ⟨hp, rfl⟩ := so2 E
  rename_i a p
  exact ⟨_, _, rfl, (ZjJ _ a p).trans (Ziy a p hp)⟩
 ·cases E

def ZpQ : Sums := ⟨tblS [], tblM [], false, false⟩
theorem Ztx : ZJ prog ZpQ := ⟨ZD ⟨⟩, tM⟩
def ZhA (p x : Int) : Option (Int) :=
 (if (!(p == 0)) = true then (if (!(p == 0)) = true then some ((wI ((x.tmod p) + p)).tmod p) else none) else none)
theorem ZtI (p x : Int) : eT ZpQ 85 12 Z2T [pI p, pI x] = ZhA p x := by
 kernel_rfl
def Z1 (p x : Int) : Int := x % p
theorem Zse (p x : Int) (hp : (prB p) = true) : ZhA p x = some (Z1 p x) := by
 have h0 := Z6y hp
 unfold ZhA Z1
 simp only [h0, if_true, Z03]
 rw [ZqX hp]
def Z3V : RunP
 | [.v (.int .i64 p), .v (.int .i64 x)] => some (prB p, Z7V (Z1 p x))
 | _ => none
theorem Z3E : Sound prog 85 Z3V := by
 refine ZN Zdw Ztx (by kernel_rfl) func85 ntmps85 rfl (by kernel_rfl) fun q r E => ?_
 unfold Z3V at E
 split at E
 ·obtain ⟨hp, rfl⟩ := so2 E
  rename_i p x
  exact ⟨_, _, rfl, (ZtI p x).trans (Zse p x hp)⟩
 ·cases E

def ZkP : Sums := ⟨tblS [(84, Z6J), (85, Z3V)], tblM [], false, false⟩
theorem ZpI : ZJ prog ZkP := ⟨ZD ⟨⟨call84, Z97⟩, ⟨call85, Z3E⟩, ⟨⟩⟩, tM⟩
def Zdi (p a b : Int) : Option (Int) :=
 (if (prB p) = true then (if (prB p) = true then some (Z1 p (wI (a * (ZA p b)))) else none) else none)
theorem Zqb (p a b : Int) : eT ZkP 118 14 Z2T [pI p, pI a, pI b] = Zdi p a b := by
 kernel_rfl
def Z5 (p a b : Int) : Int :=
 (Z1 p (wrap64 (a * (ZA p b))))
theorem ZpA (p a b : Int) (hp : (prB p) = true) : Zdi p a b = some (Z5 p a b) := by
 unfold Zdi Z5
 (try simp only [Z03])
 repeat' (first | with_reducible rfl | with_reducible refine Z04 hp ?_ | refine ZS (fun _ => ?_) (fun _ => ?_) | rfl)
def Z9j : RunP
 | [.v (.int .i64 p), .v (.int .i64 a), .v (.int .i64 b)] => some (prB p, Z7V (Z5 p a b))
 | _ => none
theorem Ze3 : Sound prog 118 Z9j := by
 refine ZN Zdw ZpI (by kernel_rfl) func118 ntmps118 rfl (by kernel_rfl) fun q r E => ?_
 unfold Z9j at E
 split at E
 ·obtain ⟨hp, rfl⟩ := so2 E
  rename_i p a b
  exact ⟨_, _, rfl, (Zqb p a b).trans (ZpA p a b hp)⟩
 ·cases E

def Zfa : Sums := ⟨tblS [(85, Z3V), (118, Z9j)], tblM [], false, false⟩
theorem ZkF : ZJ prog Zfa := ⟨ZD ⟨⟨call85, Z3E⟩, ⟨call118, Ze3⟩, ⟨⟩⟩, tM⟩
def Z9F (p : Int) (list : Int × Int × Int × Int × Int × Int) : Option ((Int × Int × Int × Int × Int × Int) × Bool) :=
 (if (prB p) = true then (if (prB p) = true then (if ((Z1 p list.1) == 0) = true then (if (prB p) = true then (if ((Z1 p list.2.1) == 0) = true then (if (prB p) = true then (if ((Z1 p list.2.2.1) == 0) = true then (if (prB p) = true then (if ((Z1 p list.2.2.1) == 0) = true then (if (prB p) = true then (if ((Z1 p list.2.2.1) == 0) = true then (if ((Z1 p list.2.2.1) == 0) = true then some ((0, 0, 0, 0, 0, 0), false) else (if (prB p) = true then (if (prB p) = true then (if (prB p) = true then (if (prB p) = true then (if (prB p) = true then (if (prB p) = true then some (((Z5 p (Z1 p list.1) (Z1 p list.2.2.1)), (Z5 p (Z1 p list.2.1) (Z1 p list.2.2.1)), (Z5 p (Z1 p list.2.2.1) (Z1 p list.2.2.1)), (Z5 p (Z1 p list.2.2.2.1) (Z1 p list.2.2.1)), (Z5 p (Z1 p list.2.2.2.2.1) (Z1 p list.2.2.1)), (Z5 p (Z1 p list.2.2.2.2.2) (Z1 p list.2.2.1))), true) else none) else none) else none) else none) else none) else none)) else (if ((Z1 p list.2.2.1) == 0) = true then some ((0, 0, 0, 0, 0, 0), false) else (if (prB p) = true then (if (prB p) = true then (if (prB p) = true then (if (prB p) = true then (if (prB p) = true then (if (prB p) = true then some (((Z5 p (Z1 p list.1) (Z1 p list.2.2.1)), (Z5 p (Z1 p list.2.1) (Z1 p list.2.2.1)), (Z5 p (Z1 p list.2.2.1) (Z1 p list.2.2.1)), (Z5 p (Z1 p list.2.2.2.1) (Z1 p list.2.2.1)), (Z5 p (Z1 p list.2.2.2.2.1) (Z1 p list.2.2.1)), (Z5 p (Z1 p list.2.2.2.2.2) (Z1 p list.2.2.1))), true) else none) else none) else none) else none) else none) else none))) else none) else (if (prB p) = true then (if ((Z1 p list.2.2.1) == 0) = true then (if ((Z1 p list.2.2.1) == 0) = true then some ((0, 0, 0, 0, 0, 0), false) else (if (prB p) = true then (if (prB p) = true then (if (prB p) = true then (if (prB p) = true then (if (prB p) = true then (if (prB p) = true then some (((Z5 p (Z1 p list.1) (Z1 p list.2.2.1)), (Z5 p (Z1 p list.2.1) (Z1 p list.2.2.1)), (Z5 p (Z1 p list.2.2.1) (Z1 p list.2.2.1)), (Z5 p (Z1 p list.2.2.2.1) (Z1 p list.2.2.1)), (Z5 p (Z1 p list.2.2.2.2.1) (Z1 p list.2.2.1)), (Z5 p (Z1 p list.2.2.2.2.2) (Z1 p list.2.2.1))), true) else none) else none) else none) else none) else none) else none)) else (if ((Z1 p list.2.2.1) == 0) = true then some ((0, 0, 0, 0, 0, 0), false) else (if (prB p) = true then (if (prB p) = true then (if (prB p) = true then (if (prB p) = true then (if (prB p) = true then (if (prB p) = true then some (((Z5 p (Z1 p list.1) (Z1 p list.2.2.1)), (Z5 p (Z1 p list.2.1) (Z1 p list.2.2.1)), (Z5 p (Z1 p list.2.2.1) (Z1 p list.2.2.1)), (Z5 p (Z1 p list.2.2.2.1) (Z1 p list.2.2.1)), (Z5 p (Z1 p list.2.2.2.2.1) (Z1 p list.2.2.1)), (Z5 p (Z1 p list.2.2.2.2.2) (Z1 p list.2.2.1))), true) else none) else none) else none) else none) else none) else none))) else none)) else none) else (if (prB p) = true then (if ((Z1 p list.2.2.1) == 0) = true then (if (prB p) = true then (if ((Z1 p list.2.2.1) == 0) = true then (if ((Z1 p list.2.2.1) == 0) = true then some ((0, 0, 0, 0, 0, 0), false) else (if (prB p) = true then (if (prB p) = true then (if (prB p) = true then (if (prB p) = true then (if (prB p) = true then (if (prB p) = true then some (((Z5 p (Z1 p list.1) (Z1 p list.2.2.1)), (Z5 p (Z1 p list.2.1) (Z1 p list.2.2.1)), (Z5 p (Z1 p list.2.2.1) (Z1 p list.2.2.1)), (Z5 p (Z1 p list.2.2.2.1) (Z1 p list.2.2.1)), (Z5 p (Z1 p list.2.2.2.2.1) (Z1 p list.2.2.1)), (Z5 p (Z1 p list.2.2.2.2.2) (Z1 p list.2.2.1))), true) else none) else none) else none) else none) else none) else none)) else (if ((Z1 p list.2.2.1) == 0) = true then some ((0, 0, 0, 0, 0, 0), false) else (if (prB p) = true then (if (prB p) = true then (if (prB p) = true then (if (prB p) = true then (if (prB p) = true then (if (prB p) = true then some (((Z5 p (Z1 p list.1) (Z1 p list.2.2.1)), (Z5 p (Z1 p list.2.1) (Z1 p list.2.2.1)), (Z5 p (Z1 p list.2.2.1) (Z1 p list.2.2.1)), (Z5 p (Z1 p list.2.2.2.1) (Z1 p list.2.2.1)), (Z5 p (Z1 p list.2.2.2.2.1) (Z1 p list.2.2.1)), (Z5 p (Z1 p list.2.2.2.2.2) (Z1 p list.2.2.1))), true) else none) else none) else none) else none) else none) else none))) else none) else (if (prB p) = true then (if ((Z1 p list.2.2.1) == 0) = true then (if ((Z1 p list.2.2.1) == 0) = true then some ((0, 0, 0, 0, 0, 0), false) else (if (prB p) = true then (if (prB p) = true then (if (prB p) = true then (if (prB p) = true then (if (prB p) = true then (if (prB p) = true then some (((Z5 p (Z1 p list.1) (Z1 p list.2.2.1)), (Z5 p (Z1 p list.2.1) (Z1 p list.2.2.1)), (Z5 p (Z1 p list.2.2.1) (Z1 p list.2.2.1)), (Z5 p (Z1 p list.2.2.2.1) (Z1 p list.2.2.1)), (Z5 p (Z1 p list.2.2.2.2.1) (Z1 p list.2.2.1)), (Z5 p (Z1 p list.2.2.2.2.2) (Z1 p list.2.2.1))), true) else none) else none) else none) else none) else none) else none)) else (if ((Z1 p list.2.2.1) == 0) = true then some ((0, 0, 0, 0, 0, 0), false) else (if (prB p) = true then (if (prB p) = true then (if (prB p) = true then (if (prB p) = true then (if (prB p) = true then (if (prB p) = true then some (((Z5 p (Z1 p list.1) (Z1 p list.2.2.1)), (Z5 p (Z1 p list.2.1) (Z1 p list.2.2.1)), (Z5 p (Z1 p list.2.2.1) (Z1 p list.2.2.1)), (Z5 p (Z1 p list.2.2.2.1) (Z1 p list.2.2.1)), (Z5 p (Z1 p list.2.2.2.2.1) (Z1 p list.2.2.1)), (Z5 p (Z1 p list.2.2.2.2.2) (Z1 p list.2.2.1))), true) else none) else none) else none) else none) else none) else none))) else none)) else none)) else none) else (if (prB p) = true then (if ((Z1 p list.2.1) == 0) = true then (if (prB p) = true then (if ((Z1 p list.2.1) == 0) = true then (if (prB p) = true then (if ((Z1 p list.2.1) == 0) = true then (if ((Z1 p list.2.1) == 0) = true then some ((0, 0, 0, 0, 0, 0), false) else (if (prB p) = true then (if (prB p) = true then (if (prB p) = true then (if (prB p) = true then (if (prB p) = true then (if (prB p) = true then some (((Z5 p (Z1 p list.1) (Z1 p list.2.1)), (Z5 p (Z1 p list.2.1) (Z1 p list.2.1)), (Z5 p (Z1 p list.2.2.1) (Z1 p list.2.1)), (Z5 p (Z1 p list.2.2.2.1) (Z1 p list.2.1)), (Z5 p (Z1 p list.2.2.2.2.1) (Z1 p list.2.1)), (Z5 p (Z1 p list.2.2.2.2.2) (Z1 p list.2.1))), true) else none) else none) else none) else none) else none) else none)) else (if ((Z1 p list.2.1) == 0) = true then some ((0, 0, 0, 0, 0, 0), false) else (if (prB p) = true then (if (prB p) = true then (if (prB p) = true then (if (prB p) = true then (if (prB p) = true then (if (prB p) = true then some (((Z5 p (Z1 p list.1) (Z1 p list.2.1)), (Z5 p (Z1 p list.2.1) (Z1 p list.2.1)), (Z5 p (Z1 p list.2.2.1) (Z1 p list.2.1)), (Z5 p (Z1 p list.2.2.2.1) (Z1 p list.2.1)), (Z5 p (Z1 p list.2.2.2.2.1) (Z1 p list.2.1)), (Z5 p (Z1 p list.2.2.2.2.2) (Z1 p list.2.1))), true) else none) else none) else none) else none) else none) else none))) else none) else (if (prB p) = true then (if ((Z1 p list.2.1) == 0) = true then (if ((Z1 p list.2.1) == 0) = true then some ((0, 0, 0, 0, 0, 0), false) else (if (prB p) = true then (if (prB p) = true then (if (prB p) = true then (if (prB p) = true then (if (prB p) = true then (if (prB p) = true then some (((Z5 p (Z1 p list.1) (Z1 p list.2.1)), (Z5 p (Z1 p list.2.1) (Z1 p list.2.1)), (Z5 p (Z1 p list.2.2.1) (Z1 p list.2.1)), (Z5 p (Z1 p list.2.2.2.1) (Z1 p list.2.1)), (Z5 p (Z1 p list.2.2.2.2.1) (Z1 p list.2.1)), (Z5 p (Z1 p list.2.2.2.2.2) (Z1 p list.2.1))), true) else none) else none) else none) else none) else none) else none)) else (if ((Z1 p list.2.1) == 0) = true then some ((0, 0, 0, 0, 0, 0), false) else (if (prB p) = true then (if (prB p) = true then (if (prB p) = true then (if (prB p) = true then (if (prB p) = true then (if (prB p) = true then some (((Z5 p (Z1 p list.1) (Z1 p list.2.1)), (Z5 p (Z1 p list.2.1) (Z1 p list.2.1)), (Z5 p (Z1 p list.2.2.1) (Z1 p list.2.1)), (Z5 p (Z1 p list.2.2.2.1) (Z1 p list.2.1)), (Z5 p (Z1 p list.2.2.2.2.1) (Z1 p list.2.1)), (Z5 p (Z1 p list.2.2.2.2.2) (Z1 p list.2.1))), true) else none) else none) else none) else none) else none) else none))) else none)) else none) else (if (prB p) = true then (if ((Z1 p list.2.1) == 0) = true then (if (prB p) = true then (if ((Z1 p list.2.1) == 0) = true then (if ((Z1 p list.2.1) == 0) = true then some ((0, 0, 0, 0, 0, 0), false) else (if (prB p) = true then (if (prB p) = true then (if (prB p) = true then (if (prB p) = true then (if (prB p) = true then (if (prB p) = true then some (((Z5 p (Z1 p list.1) (Z1 p list.2.1)), (Z5 p (Z1 p list.2.1) (Z1 p list.2.1)), (Z5 p (Z1 p list.2.2.1) (Z1 p list.2.1)), (Z5 p (Z1 p list.2.2.2.1) (Z1 p list.2.1)), (Z5 p (Z1 p list.2.2.2.2.1) (Z1 p list.2.1)), (Z5 p (Z1 p list.2.2.2.2.2) (Z1 p list.2.1))), true) else none) else none) else none) else none) else none) else none)) else (if ((Z1 p list.2.1) == 0) = true then some ((0, 0, 0, 0, 0, 0), false) else (if (prB p) = true then (if (prB p) = true then (if (prB p) = true then (if (prB p) = true then (if (prB p) = true then (if (prB p) = true then some (((Z5 p (Z1 p list.1) (Z1 p list.2.1)), (Z5 p (Z1 p list.2.1) (Z1 p list.2.1)), (Z5 p (Z1 p list.2.2.1) (Z1 p list.2.1)), (Z5 p (Z1 p list.2.2.2.1) (Z1 p list.2.1)), (Z5 p (Z1 p list.2.2.2.2.1) (Z1 p list.2.1)), (Z5 p (Z1 p list.2.2.2.2.2) (Z1 p list.2.1))), true) else none) else none) else none) else none) else none) else none))) else none) else (if (prB p) = true then (if ((Z1 p list.2.1) == 0) = true then (if ((Z1 p list.2.1) == 0) = true then some ((0, 0, 0, 0, 0, 0), false) else (if (prB p) = true then (if (prB p) = true then (if (prB p) = true then (if (prB p) = true then (if (prB p) = true then (if (prB p) = true then some (((Z5 p (Z1 p list.1) (Z1 p list.2.1)), (Z5 p (Z1 p list.2.1) (Z1 p list.2.1)), (Z5 p (Z1 p list.2.2.1) (Z1 p list.2.1)), (Z5 p (Z1 p list.2.2.2.1) (Z1 p list.2.1)), (Z5 p (Z1 p list.2.2.2.2.1) (Z1 p list.2.1)), (Z5 p (Z1 p list.2.2.2.2.2) (Z1 p list.2.1))), true) else none) else none) else none) else none) else none) else none)) else (if ((Z1 p list.2.1) == 0) = true then some ((0, 0, 0, 0, 0, 0), false) else (if (prB p) = true then (if (prB p) = true then (if (prB p) = true then (if (prB p) = true then (if (prB p) = true then (if (prB p) = true then some (((Z5 p (Z1 p list.1) (Z1 p list.2.1)), (Z5 p (Z1 p list.2.1) (Z1 p list.2.1)), (Z5 p (Z1 p list.2.2.1) (Z1 p list.2.1)), (Z5 p (Z1 p list.2.2.2.1) (Z1 p list.2.1)), (Z5 p (Z1 p list.2.2.2.2.1) (Z1 p list.2.1)), (Z5 p (Z1 p list.2.2.2.2.2) (Z1 p list.2.1))), true) else none) else none) else none) else none) else none) else none))) else none)) else none)) else none)) else none) else (if (prB p) = true then (if ((Z1 p list.1) == 0) = true then (if (prB p) = true then (if ((Z1 p list.2.2.1) == 0) = true then (if (prB p) = true then (if ((Z1 p list.2.2.1) == 0) = true then (if (prB p) = true then (if ((Z1 p list.2.2.1) == 0) = true then (if ((Z1 p list.2.2.1) == 0) = true then some ((0, 0, 0, 0, 0, 0), false) else (if (prB p) = true then (if (prB p) = true then (if (prB p) = true then (if (prB p) = true then (if (prB p) = true then (if (prB p) = true then some (((Z5 p (Z1 p list.1) (Z1 p list.2.2.1)), (Z5 p (Z1 p list.2.1) (Z1 p list.2.2.1)), (Z5 p (Z1 p list.2.2.1) (Z1 p list.2.2.1)), (Z5 p (Z1 p list.2.2.2.1) (Z1 p list.2.2.1)), (Z5 p (Z1 p list.2.2.2.2.1) (Z1 p list.2.2.1)), (Z5 p (Z1 p list.2.2.2.2.2) (Z1 p list.2.2.1))), true) else none) else none) else none) else none) else none) else none)) else (if ((Z1 p list.2.2.1) == 0) = true then some ((0, 0, 0, 0, 0, 0), false) else (if (prB p) = true then (if (prB p) = true then (if (prB p) = true then (if (prB p) = true then (if (prB p) = true then (if (prB p) = true then some (((Z5 p (Z1 p list.1) (Z1 p list.2.2.1)), (Z5 p (Z1 p list.2.1) (Z1 p list.2.2.1)), (Z5 p (Z1 p list.2.2.1) (Z1 p list.2.2.1)), (Z5 p (Z1 p list.2.2.2.1) (Z1 p list.2.2.1)), (Z5 p (Z1 p list.2.2.2.2.1) (Z1 p list.2.2.1)), (Z5 p (Z1 p list.2.2.2.2.2) (Z1 p list.2.2.1))), true) else none) else none) else none) else none) else none) else none))) else none) else (if (prB p) = true then (if ((Z1 p list.2.2.1) == 0) = true then (if ((Z1 p list.2.2.1) == 0) = true then some ((0, 0, 0, 0, 0, 0), false) else (if (prB p) = true then (if (prB p) = true then (if (prB p) = true then (if (prB p) = true then (if (prB p) = true then (if (prB p) = true then some (((Z5 p (Z1 p list.1) (Z1 p list.2.2.1)), (Z5 p (Z1 p list.2.1) (Z1 p list.2.2.1)), (Z5 p (Z1 p list.2.2.1) (Z1 p list.2.2.1)), (Z5 p (Z1 p list.2.2.2.1) (Z1 p list.2.2.1)), (Z5 p (Z1 p list.2.2.2.2.1) (Z1 p list.2.2.1)), (Z5 p (Z1 p list.2.2.2.2.2) (Z1 p list.2.2.1))), true) else none) else none) else none) else none) else none) else none)) else (if ((Z1 p list.2.2.1) == 0) = true then some ((0, 0, 0, 0, 0, 0), false) else (if (prB p) = true then (if (prB p) = true then (if (prB p) = true then (if (prB p) = true then (if (prB p) = true then (if (prB p) = true then some (((Z5 p (Z1 p list.1) (Z1 p list.2.2.1)), (Z5 p (Z1 p list.2.1) (Z1 p list.2.2.1)), (Z5 p (Z1 p list.2.2.1) (Z1 p list.2.2.1)), (Z5 p (Z1 p list.2.2.2.1) (Z1 p list.2.2.1)), (Z5 p (Z1 p list.2.2.2.2.1) (Z1 p list.2.2.1)), (Z5 p (Z1 p list.2.2.2.2.2) (Z1 p list.2.2.1))), true) else none) else none) else none) else none) else none) else none))) else none)) else none) else (if (prB p) = true then (if ((Z1 p list.2.2.1) == 0) = true then (if (prB p) = true then (if ((Z1 p list.2.2.1) == 0) = true then (if ((Z1 p list.2.2.1) == 0) = true then some ((0, 0, 0, 0, 0, 0), false) else (if (prB p) = true then (if (prB p) = true then (if (prB p) = true then (if (prB p) = true then (if (prB p) = true then (if (prB p) = true then some (((Z5 p (Z1 p list.1) (Z1 p list.2.2.1)), (Z5 p (Z1 p list.2.1) (Z1 p list.2.2.1)), (Z5 p (Z1 p list.2.2.1) (Z1 p list.2.2.1)), (Z5 p (Z1 p list.2.2.2.1) (Z1 p list.2.2.1)), (Z5 p (Z1 p list.2.2.2.2.1) (Z1 p list.2.2.1)), (Z5 p (Z1 p list.2.2.2.2.2) (Z1 p list.2.2.1))), true) else none) else none) else none) else none) else none) else none)) else (if ((Z1 p list.2.2.1) == 0) = true then some ((0, 0, 0, 0, 0, 0), false) else (if (prB p) = true then (if (prB p) = true then (if (prB p) = true then (if (prB p) = true then (if (prB p) = true then (if (prB p) = true then some (((Z5 p (Z1 p list.1) (Z1 p list.2.2.1)), (Z5 p (Z1 p list.2.1) (Z1 p list.2.2.1)), (Z5 p (Z1 p list.2.2.1) (Z1 p list.2.2.1)), (Z5 p (Z1 p list.2.2.2.1) (Z1 p list.2.2.1)), (Z5 p (Z1 p list.2.2.2.2.1) (Z1 p list.2.2.1)), (Z5 p (Z1 p list.2.2.2.2.2) (Z1 p list.2.2.1))), true) else none) else none) else none) else none) else none) else none))) else none) else (if (prB p) = true then (if ((Z1 p list.2.2.1) == 0) = true then (if ((Z1 p list.2.2.1) == 0) = true then some ((0, 0, 0, 0, 0, 0), false) else (if (prB p) = true then (if (prB p) = true then (if (prB p) = true then (if (prB p) = true then (if (prB p) = true then (if (prB p) = true then some (((Z5 p (Z1 p list.1) (Z1 p list.2.2.1)), (Z5 p (Z1 p list.2.1) (Z1 p list.2.2.1)), (Z5 p (Z1 p list.2.2.1) (Z1 p list.2.2.1)), (Z5 p (Z1 p list.2.2.2.1) (Z1 p list.2.2.1)), (Z5 p (Z1 p list.2.2.2.2.1) (Z1 p list.2.2.1)), (Z5 p (Z1 p list.2.2.2.2.2) (Z1 p list.2.2.1))), true) else none) else none) else none) else none) else none) else none)) else (if ((Z1 p list.2.2.1) == 0) = true then some ((0, 0, 0, 0, 0, 0), false) else (if (prB p) = true then (if (prB p) = true then (if (prB p) = true then (if (prB p) = true then (if (prB p) = true then (if (prB p) = true then some (((Z5 p (Z1 p list.1) (Z1 p list.2.2.1)), (Z5 p (Z1 p list.2.1) (Z1 p list.2.2.1)), (Z5 p (Z1 p list.2.2.1) (Z1 p list.2.2.1)), (Z5 p (Z1 p list.2.2.2.1) (Z1 p list.2.2.1)), (Z5 p (Z1 p list.2.2.2.2.1) (Z1 p list.2.2.1)), (Z5 p (Z1 p list.2.2.2.2.2) (Z1 p list.2.2.1))), true) else none) else none) else none) else none) else none) else none))) else none)) else none)) else none) else (if (prB p) = true then (if ((Z1 p list.1) == 0) = true then (if (prB p) = true then (if ((Z1 p list.1) == 0) = true then (if (prB p) = true then (if ((Z1 p list.1) == 0) = true then (if ((Z1 p list.1) == 0) = true then some ((0, 0, 0, 0, 0, 0), false) else (if (prB p) = true then (if (prB p) = true then (if (prB p) = true then (if (prB p) = true then (if (prB p) = true then (if (prB p) = true then some (((Z5 p (Z1 p list.1) (Z1 p list.1)), (Z5 p (Z1 p list.2.1) (Z1 p list.1)), (Z5 p (Z1 p list.2.2.1) (Z1 p list.1)), (Z5 p (Z1 p list.2.2.2.1) (Z1 p list.1)), (Z5 p (Z1 p list.2.2.2.2.1) (Z1 p list.1)), (Z5 p (Z1 p list.2.2.2.2.2) (Z1 p list.1))), true) else none) else none) else none) else none) else none) else none)) else (if ((Z1 p list.1) == 0) = true then some ((0, 0, 0, 0, 0, 0), false) else (if (prB p) = true then (if (prB p) = true then (if (prB p) = true then (if (prB p) = true then (if (prB p) = true then (if (prB p) = true then some (((Z5 p (Z1 p list.1) (Z1 p list.1)), (Z5 p (Z1 p list.2.1) (Z1 p list.1)), (Z5 p (Z1 p list.2.2.1) (Z1 p list.1)), (Z5 p (Z1 p list.2.2.2.1) (Z1 p list.1)), (Z5 p (Z1 p list.2.2.2.2.1) (Z1 p list.1)), (Z5 p (Z1 p list.2.2.2.2.2) (Z1 p list.1))), true) else none) else none) else none) else none) else none) else none))) else none) else (if (prB p) = true then (if ((Z1 p list.1) == 0) = true then (if ((Z1 p list.1) == 0) = true then some ((0, 0, 0, 0, 0, 0), false) else (if (prB p) = true then (if (prB p) = true then (if (prB p) = true then (if (prB p) = true then (if (prB p) = true then (if (prB p) = true then some (((Z5 p (Z1 p list.1) (Z1 p list.1)), (Z5 p (Z1 p list.2.1) (Z1 p list.1)), (Z5 p (Z1 p list.2.2.1) (Z1 p list.1)), (Z5 p (Z1 p list.2.2.2.1) (Z1 p list.1)), (Z5 p (Z1 p list.2.2.2.2.1) (Z1 p list.1)), (Z5 p (Z1 p list.2.2.2.2.2) (Z1 p list.1))), true) else none) else none) else none) else none) else none) else none)) else (if ((Z1 p list.1) == 0) = true then some ((0, 0, 0, 0, 0, 0), false) else (if (prB p) = true then (if (prB p) = true then (if (prB p) = true then (if (prB p) = true then (if (prB p) = true then (if (prB p) = true then some (((Z5 p (Z1 p list.1) (Z1 p list.1)), (Z5 p (Z1 p list.2.1) (Z1 p list.1)), (Z5 p (Z1 p list.2.2.1) (Z1 p list.1)), (Z5 p (Z1 p list.2.2.2.1) (Z1 p list.1)), (Z5 p (Z1 p list.2.2.2.2.1) (Z1 p list.1)), (Z5 p (Z1 p list.2.2.2.2.2) (Z1 p list.1))), true) else none) else none) else none) else none) else none) else none))) else none)) else none) else (if (prB p) = true then (if ((Z1 p list.1) == 0) = true then (if (prB p) = true then (if ((Z1 p list.1) == 0) = true then (if ((Z1 p list.1) == 0) = true then some ((0, 0, 0, 0, 0, 0), false) else (if (prB p) = true then (if (prB p) = true then (if (prB p) = true then (if (prB p) = true then (if (prB p) = true then (if (prB p) = true then some (((Z5 p (Z1 p list.1) (Z1 p list.1)), (Z5 p (Z1 p list.2.1) (Z1 p list.1)), (Z5 p (Z1 p list.2.2.1) (Z1 p list.1)), (Z5 p (Z1 p list.2.2.2.1) (Z1 p list.1)), (Z5 p (Z1 p list.2.2.2.2.1) (Z1 p list.1)), (Z5 p (Z1 p list.2.2.2.2.2) (Z1 p list.1))), true) else none) else none) else none) else none) else none) else none)) else (if ((Z1 p list.1) == 0) = true then some ((0, 0, 0, 0, 0, 0), false) else (if (prB p) = true then (if (prB p) = true then (if (prB p) = true then (if (prB p) = true then (if (prB p) = true then (if (prB p) = true then some (((Z5 p (Z1 p list.1) (Z1 p list.1)), (Z5 p (Z1 p list.2.1) (Z1 p list.1)), (Z5 p (Z1 p list.2.2.1) (Z1 p list.1)), (Z5 p (Z1 p list.2.2.2.1) (Z1 p list.1)), (Z5 p (Z1 p list.2.2.2.2.1) (Z1 p list.1)), (Z5 p (Z1 p list.2.2.2.2.2) (Z1 p list.1))), true) else none) else none) else none) else none) else none) else none))) else none) else (if (prB p) = true then (if ((Z1 p list.1) == 0) = true then (if ((Z1 p list.1) == 0) = true then some ((0, 0, 0, 0, 0, 0), false) else (if (prB p) = true then (if (prB p) = true then (if (prB p) = true then (if (prB p) = true then (if (prB p) = true then (if (prB p) = true then some (((Z5 p (Z1 p list.1) (Z1 p list.1)), (Z5 p (Z1 p list.2.1) (Z1 p list.1)), (Z5 p (Z1 p list.2.2.1) (Z1 p list.1)), (Z5 p (Z1 p list.2.2.2.1) (Z1 p list.1)), (Z5 p (Z1 p list.2.2.2.2.1) (Z1 p list.1)), (Z5 p (Z1 p list.2.2.2.2.2) (Z1 p list.1))), true) else none) else none) else none) else none) else none) else none)) else (if ((Z1 p list.1) == 0) = true then some ((0, 0, 0, 0, 0, 0), false) else (if (prB p) = true then (if (prB p) = true then (if (prB p) = true then (if (prB p) = true then (if (prB p) = true then (if (prB p) = true then some (((Z5 p (Z1 p list.1) (Z1 p list.1)), (Z5 p (Z1 p list.2.1) (Z1 p list.1)), (Z5 p (Z1 p list.2.2.1) (Z1 p list.1)), (Z5 p (Z1 p list.2.2.2.1) (Z1 p list.1)), (Z5 p (Z1 p list.2.2.2.2.1) (Z1 p list.1)), (Z5 p (Z1 p list.2.2.2.2.2) (Z1 p list.1))), true) else none) else none) else none) else none) else none) else none))) else none)) else none)) else none)) else none)) else none) else none)
theorem Zlk (p : Int) (list : Int × Int × Int × Int × Int × Int) : eT Zfa 86 48 Z9X [pI p, .v (.agg ⟨[.int .i64 list.1, .int .i64 list.2.1, .int .i64 list.2.2.1, .int .i64 list.2.2.2.1, .int .i64 list.2.2.2.2.1, .int .i64 list.2.2.2.2.2]⟩)] = Z9F p list := by
 kernel_rfl
def Z02 (p : Int) (list : Int × Int × Int × Int × Int × Int) : (Int × Int × Int × Int × Int × Int) × Bool :=
 (if ((Z1 p list.1) == 0) = true then (if ((Z1 p list.2.1) == 0) = true then (if ((Z1 p list.2.2.1) == 0) = true then (if ((Z1 p list.2.2.1) == 0) = true then (if ((Z1 p list.2.2.1) == 0) = true then (if ((Z1 p list.2.2.1) == 0) = true then ((0, 0, 0, 0, 0, 0), false) else (((Z5 p (Z1 p list.1) (Z1 p list.2.2.1)), (Z5 p (Z1 p list.2.1) (Z1 p list.2.2.1)), (Z5 p (Z1 p list.2.2.1) (Z1 p list.2.2.1)), (Z5 p (Z1 p list.2.2.2.1) (Z1 p list.2.2.1)), (Z5 p (Z1 p list.2.2.2.2.1) (Z1 p list.2.2.1)), (Z5 p (Z1 p list.2.2.2.2.2) (Z1 p list.2.2.1))), true)) else (if ((Z1 p list.2.2.1) == 0) = true then ((0, 0, 0, 0, 0, 0), false) else (((Z5 p (Z1 p list.1) (Z1 p list.2.2.1)), (Z5 p (Z1 p list.2.1) (Z1 p list.2.2.1)), (Z5 p (Z1 p list.2.2.1) (Z1 p list.2.2.1)), (Z5 p (Z1 p list.2.2.2.1) (Z1 p list.2.2.1)), (Z5 p (Z1 p list.2.2.2.2.1) (Z1 p list.2.2.1)), (Z5 p (Z1 p list.2.2.2.2.2) (Z1 p list.2.2.1))), true))) else (if ((Z1 p list.2.2.1) == 0) = true then (if ((Z1 p list.2.2.1) == 0) = true then ((0, 0, 0, 0, 0, 0), false) else (((Z5 p (Z1 p list.1) (Z1 p list.2.2.1)), (Z5 p (Z1 p list.2.1) (Z1 p list.2.2.1)), (Z5 p (Z1 p list.2.2.1) (Z1 p list.2.2.1)), (Z5 p (Z1 p list.2.2.2.1) (Z1 p list.2.2.1)), (Z5 p (Z1 p list.2.2.2.2.1) (Z1 p list.2.2.1)), (Z5 p (Z1 p list.2.2.2.2.2) (Z1 p list.2.2.1))), true)) else (if ((Z1 p list.2.2.1) == 0) = true then ((0, 0, 0, 0, 0, 0), false) else (((Z5 p (Z1 p list.1) (Z1 p list.2.2.1)), (Z5 p (Z1 p list.2.1) (Z1 p list.2.2.1)), (Z5 p (Z1 p list.2.2.1) (Z1 p list.2.2.1)), (Z5 p (Z1 p list.2.2.2.1) (Z1 p list.2.2.1)), (Z5 p (Z1 p list.2.2.2.2.1) (Z1 p list.2.2.1)), (Z5 p (Z1 p list.2.2.2.2.2) (Z1 p list.2.2.1))), true)))) else (if ((Z1 p list.2.2.1) == 0) = true then (if ((Z1 p list.2.2.1) == 0) = true then (if ((Z1 p list.2.2.1) == 0) = true then ((0, 0, 0, 0, 0, 0), false) else (((Z5 p (Z1 p list.1) (Z1 p list.2.2.1)), (Z5 p (Z1 p list.2.1) (Z1 p list.2.2.1)), (Z5 p (Z1 p list.2.2.1) (Z1 p list.2.2.1)), (Z5 p (Z1 p list.2.2.2.1) (Z1 p list.2.2.1)), (Z5 p (Z1 p list.2.2.2.2.1) (Z1 p list.2.2.1)), (Z5 p (Z1 p list.2.2.2.2.2) (Z1 p list.2.2.1))), true)) else (if ((Z1 p list.2.2.1) == 0) = true then ((0, 0, 0, 0, 0, 0), false) else (((Z5 p (Z1 p list.1) (Z1 p list.2.2.1)), (Z5 p (Z1 p list.2.1) (Z1 p list.2.2.1)), (Z5 p (Z1 p list.2.2.1) (Z1 p list.2.2.1)), (Z5 p (Z1 p list.2.2.2.1) (Z1 p list.2.2.1)), (Z5 p (Z1 p list.2.2.2.2.1) (Z1 p list.2.2.1)), (Z5 p (Z1 p list.2.2.2.2.2) (Z1 p list.2.2.1))), true))) else (if ((Z1 p list.2.2.1) == 0) = true then (if ((Z1 p list.2.2.1) == 0) = true then ((0, 0, 0, 0, 0, 0), false) else (((Z5 p (Z1 p list.1) (Z1 p list.2.2.1)), (Z5 p (Z1 p list.2.1) (Z1 p list.2.2.1)), (Z5 p (Z1 p list.2.2.1) (Z1 p list.2.2.1)), (Z5 p (Z1 p list.2.2.2.1) (Z1 p list.2.2.1)), (Z5 p (Z1 p list.2.2.2.2.1) (Z1 p list.2.2.1)), (Z5 p (Z1 p list.2.2.2.2.2) (Z1 p list.2.2.1))), true)) else (if ((Z1 p list.2.2.1) == 0) = true then ((0, 0, 0, 0, 0, 0), false) else (((Z5 p (Z1 p list.1) (Z1 p list.2.2.1)), (Z5 p (Z1 p list.2.1) (Z1 p list.2.2.1)), (Z5 p (Z1 p list.2.2.1) (Z1 p list.2.2.1)), (Z5 p (Z1 p list.2.2.2.1) (Z1 p list.2.2.1)), (Z5 p (Z1 p list.2.2.2.2.1) (Z1 p list.2.2.1)), (Z5 p (Z1 p list.2.2.2.2.2) (Z1 p list.2.2.1))), true))))) else (if ((Z1 p list.2.1) == 0) = true then (if ((Z1 p list.2.1) == 0) = true then (if ((Z1 p list.2.1) == 0) = true then (if ((Z1 p list.2.1) == 0) = true then ((0, 0, 0, 0, 0, 0), false) else (((Z5 p (Z1 p list.1) (Z1 p list.2.1)), (Z5 p (Z1 p list.2.1) (Z1 p list.2.1)), (Z5 p (Z1 p list.2.2.1) (Z1 p list.2.1)), (Z5 p (Z1 p list.2.2.2.1) (Z1 p list.2.1)), (Z5 p (Z1 p list.2.2.2.2.1) (Z1 p list.2.1)), (Z5 p (Z1 p list.2.2.2.2.2) (Z1 p list.2.1))), true)) else (if ((Z1 p list.2.1) == 0) = true then ((0, 0, 0, 0, 0, 0), false) else (((Z5 p (Z1 p list.1) (Z1 p list.2.1)), (Z5 p (Z1 p list.2.1) (Z1 p list.2.1)), (Z5 p (Z1 p list.2.2.1) (Z1 p list.2.1)), (Z5 p (Z1 p list.2.2.2.1) (Z1 p list.2.1)), (Z5 p (Z1 p list.2.2.2.2.1) (Z1 p list.2.1)), (Z5 p (Z1 p list.2.2.2.2.2) (Z1 p list.2.1))), true))) else (if ((Z1 p list.2.1) == 0) = true then (if ((Z1 p list.2.1) == 0) = true then ((0, 0, 0, 0, 0, 0), false) else (((Z5 p (Z1 p list.1) (Z1 p list.2.1)), (Z5 p (Z1 p list.2.1) (Z1 p list.2.1)), (Z5 p (Z1 p list.2.2.1) (Z1 p list.2.1)), (Z5 p (Z1 p list.2.2.2.1) (Z1 p list.2.1)), (Z5 p (Z1 p list.2.2.2.2.1) (Z1 p list.2.1)), (Z5 p (Z1 p list.2.2.2.2.2) (Z1 p list.2.1))), true)) else (if ((Z1 p list.2.1) == 0) = true then ((0, 0, 0, 0, 0, 0), false) else (((Z5 p (Z1 p list.1) (Z1 p list.2.1)), (Z5 p (Z1 p list.2.1) (Z1 p list.2.1)), (Z5 p (Z1 p list.2.2.1) (Z1 p list.2.1)), (Z5 p (Z1 p list.2.2.2.1) (Z1 p list.2.1)), (Z5 p (Z1 p list.2.2.2.2.1) (Z1 p list.2.1)), (Z5 p (Z1 p list.2.2.2.2.2) (Z1 p list.2.1))), true)))) else (if ((Z1 p list.2.1) == 0) = true then (if ((Z1 p list.2.1) == 0) = true then (if ((Z1 p list.2.1) == 0) = true then ((0, 0, 0, 0, 0, 0), false) else (((Z5 p (Z1 p list.1) (Z1 p list.2.1)), (Z5 p (Z1 p list.2.1) (Z1 p list.2.1)), (Z5 p (Z1 p list.2.2.1) (Z1 p list.2.1)), (Z5 p (Z1 p list.2.2.2.1) (Z1 p list.2.1)), (Z5 p (Z1 p list.2.2.2.2.1) (Z1 p list.2.1)), (Z5 p (Z1 p list.2.2.2.2.2) (Z1 p list.2.1))), true)) else (if ((Z1 p list.2.1) == 0) = true then ((0, 0, 0, 0, 0, 0), false) else (((Z5 p (Z1 p list.1) (Z1 p list.2.1)), (Z5 p (Z1 p list.2.1) (Z1 p list.2.1)), (Z5 p (Z1 p list.2.2.1) (Z1 p list.2.1)), (Z5 p (Z1 p list.2.2.2.1) (Z1 p list.2.1)), (Z5 p (Z1 p list.2.2.2.2.1) (Z1 p list.2.1)), (Z5 p (Z1 p list.2.2.2.2.2) (Z1 p list.2.1))), true))) else (if ((Z1 p list.2.1) == 0) = true then (if ((Z1 p list.2.1) == 0) = true then ((0, 0, 0, 0, 0, 0), false) else (((Z5 p (Z1 p list.1) (Z1 p list.2.1)), (Z5 p (Z1 p list.2.1) (Z1 p list.2.1)), (Z5 p (Z1 p list.2.2.1) (Z1 p list.2.1)), (Z5 p (Z1 p list.2.2.2.1) (Z1 p list.2.1)), (Z5 p (Z1 p list.2.2.2.2.1) (Z1 p list.2.1)), (Z5 p (Z1 p list.2.2.2.2.2) (Z1 p list.2.1))), true)) else (if ((Z1 p list.2.1) == 0) = true then ((0, 0, 0, 0, 0, 0), false) else (((Z5 p (Z1 p list.1) (Z1 p list.2.1)), (Z5 p (Z1 p list.2.1) (Z1 p list.2.1)), (Z5 p (Z1 p list.2.2.1) (Z1 p list.2.1)), (Z5 p (Z1 p list.2.2.2.1) (Z1 p list.2.1)), (Z5 p (Z1 p list.2.2.2.2.1) (Z1 p list.2.1)), (Z5 p (Z1 p list.2.2.2.2.2) (Z1 p list.2.1))), true)))))) else (if ((Z1 p list.1) == 0) = true then (if ((Z1 p list.2.2.1) == 0) = true then (if ((Z1 p list.2.2.1) == 0) = true then (if ((Z1 p list.2.2.1) == 0) = true then (if ((Z1 p list.2.2.1) == 0) = true then ((0, 0, 0, 0, 0, 0), false) else (((Z5 p (Z1 p list.1) (Z1 p list.2.2.1)), (Z5 p (Z1 p list.2.1) (Z1 p list.2.2.1)), (Z5 p (Z1 p list.2.2.1) (Z1 p list.2.2.1)), (Z5 p (Z1 p list.2.2.2.1) (Z1 p list.2.2.1)), (Z5 p (Z1 p list.2.2.2.2.1) (Z1 p list.2.2.1)), (Z5 p (Z1 p list.2.2.2.2.2) (Z1 p list.2.2.1))), true)) else (if ((Z1 p list.2.2.1) == 0) = true then ((0, 0, 0, 0, 0, 0), false) else (((Z5 p (Z1 p list.1) (Z1 p list.2.2.1)), (Z5 p (Z1 p list.2.1) (Z1 p list.2.2.1)), (Z5 p (Z1 p list.2.2.1) (Z1 p list.2.2.1)), (Z5 p (Z1 p list.2.2.2.1) (Z1 p list.2.2.1)), (Z5 p (Z1 p list.2.2.2.2.1) (Z1 p list.2.2.1)), (Z5 p (Z1 p list.2.2.2.2.2) (Z1 p list.2.2.1))), true))) else (if ((Z1 p list.2.2.1) == 0) = true then (if ((Z1 p list.2.2.1) == 0) = true then ((0, 0, 0, 0, 0, 0), false) else (((Z5 p (Z1 p list.1) (Z1 p list.2.2.1)), (Z5 p (Z1 p list.2.1) (Z1 p list.2.2.1)), (Z5 p (Z1 p list.2.2.1) (Z1 p list.2.2.1)), (Z5 p (Z1 p list.2.2.2.1) (Z1 p list.2.2.1)), (Z5 p (Z1 p list.2.2.2.2.1) (Z1 p list.2.2.1)), (Z5 p (Z1 p list.2.2.2.2.2) (Z1 p list.2.2.1))), true)) else (if ((Z1 p list.2.2.1) == 0) = true then ((0, 0, 0, 0, 0, 0), false) else (((Z5 p (Z1 p list.1) (Z1 p list.2.2.1)), (Z5 p (Z1 p list.2.1) (Z1 p list.2.2.1)), (Z5 p (Z1 p list.2.2.1) (Z1 p list.2.2.1)), (Z5 p (Z1 p list.2.2.2.1) (Z1 p list.2.2.1)), (Z5 p (Z1 p list.2.2.2.2.1) (Z1 p list.2.2.1)), (Z5 p (Z1 p list.2.2.2.2.2) (Z1 p list.2.2.1))), true)))) else (if ((Z1 p list.2.2.1) == 0) = true then (if ((Z1 p list.2.2.1) == 0) = true then (if ((Z1 p list.2.2.1) == 0) = true then ((0, 0, 0, 0, 0, 0), false) else (((Z5 p (Z1 p list.1) (Z1 p list.2.2.1)), (Z5 p (Z1 p list.2.1) (Z1 p list.2.2.1)), (Z5 p (Z1 p list.2.2.1) (Z1 p list.2.2.1)), (Z5 p (Z1 p list.2.2.2.1) (Z1 p list.2.2.1)), (Z5 p (Z1 p list.2.2.2.2.1) (Z1 p list.2.2.1)), (Z5 p (Z1 p list.2.2.2.2.2) (Z1 p list.2.2.1))), true)) else (if ((Z1 p list.2.2.1) == 0) = true then ((0, 0, 0, 0, 0, 0), false) else (((Z5 p (Z1 p list.1) (Z1 p list.2.2.1)), (Z5 p (Z1 p list.2.1) (Z1 p list.2.2.1)), (Z5 p (Z1 p list.2.2.1) (Z1 p list.2.2.1)), (Z5 p (Z1 p list.2.2.2.1) (Z1 p list.2.2.1)), (Z5 p (Z1 p list.2.2.2.2.1) (Z1 p list.2.2.1)), (Z5 p (Z1 p list.2.2.2.2.2) (Z1 p list.2.2.1))), true))) else (if ((Z1 p list.2.2.1) == 0) = true then (if ((Z1 p list.2.2.1) == 0) = true then ((0, 0, 0, 0, 0, 0), false) else (((Z5 p (Z1 p list.1) (Z1 p list.2.2.1)), (Z5 p (Z1 p list.2.1) (Z1 p list.2.2.1)), (Z5 p (Z1 p list.2.2.1) (Z1 p list.2.2.1)), (Z5 p (Z1 p list.2.2.2.1) (Z1 p list.2.2.1)), (Z5 p (Z1 p list.2.2.2.2.1) (Z1 p list.2.2.1)), (Z5 p (Z1 p list.2.2.2.2.2) (Z1 p list.2.2.1))), true)) else (if ((Z1 p list.2.2.1) == 0) = true then ((0, 0, 0, 0, 0, 0), false) else (((Z5 p (Z1 p list.1) (Z1 p list.2.2.1)), (Z5 p (Z1 p list.2.1) (Z1 p list.2.2.1)), (Z5 p (Z1 p list.2.2.1) (Z1 p list.2.2.1)), (Z5 p (Z1 p list.2.2.2.1) (Z1 p list.2.2.1)), (Z5 p (Z1 p list.2.2.2.2.1) (Z1 p list.2.2.1)), (Z5 p (Z1 p list.2.2.2.2.2) (Z1 p list.2.2.1))), true))))) else (if ((Z1 p list.1) == 0) = true then (if ((Z1 p list.1) == 0) = true then (if ((Z1 p list.1) == 0) = true then (if ((Z1 p list.1) == 0) = true then ((0, 0, 0, 0, 0, 0), false) else (((Z5 p (Z1 p list.1) (Z1 p list.1)), (Z5 p (Z1 p list.2.1) (Z1 p list.1)), (Z5 p (Z1 p list.2.2.1) (Z1 p list.1)), (Z5 p (Z1 p list.2.2.2.1) (Z1 p list.1)), (Z5 p (Z1 p list.2.2.2.2.1) (Z1 p list.1)), (Z5 p (Z1 p list.2.2.2.2.2) (Z1 p list.1))), true)) else (if ((Z1 p list.1) == 0) = true then ((0, 0, 0, 0, 0, 0), false) else (((Z5 p (Z1 p list.1) (Z1 p list.1)), (Z5 p (Z1 p list.2.1) (Z1 p list.1)), (Z5 p (Z1 p list.2.2.1) (Z1 p list.1)), (Z5 p (Z1 p list.2.2.2.1) (Z1 p list.1)), (Z5 p (Z1 p list.2.2.2.2.1) (Z1 p list.1)), (Z5 p (Z1 p list.2.2.2.2.2) (Z1 p list.1))), true))) else (if ((Z1 p list.1) == 0) = true then (if ((Z1 p list.1) == 0) = true then ((0, 0, 0, 0, 0, 0), false) else (((Z5 p (Z1 p list.1) (Z1 p list.1)), (Z5 p (Z1 p list.2.1) (Z1 p list.1)), (Z5 p (Z1 p list.2.2.1) (Z1 p list.1)), (Z5 p (Z1 p list.2.2.2.1) (Z1 p list.1)), (Z5 p (Z1 p list.2.2.2.2.1) (Z1 p list.1)), (Z5 p (Z1 p list.2.2.2.2.2) (Z1 p list.1))), true)) else (if ((Z1 p list.1) == 0) = true then ((0, 0, 0, 0, 0, 0), false) else (((Z5 p (Z1 p list.1) (Z1 p list.1)), (Z5 p (Z1 p list.2.1) (Z1 p list.1)), (Z5 p (Z1 p list.2.2.1) (Z1 p list.1)), (Z5 p (Z1 p list.2.2.2.1) (Z1 p list.1)), (Z5 p (Z1 p list.2.2.2.2.1) (Z1 p list.1)), (Z5 p (Z1 p list.2.2.2.2.2) (Z1 p list.1))), true)))) else (if ((Z1 p list.1) == 0) = true then (if ((Z1 p list.1) == 0) = true then (if ((Z1 p list.1) == 0) = true then ((0, 0, 0, 0, 0, 0), false) else (((Z5 p (Z1 p list.1) (Z1 p list.1)), (Z5 p (Z1 p list.2.1) (Z1 p list.1)), (Z5 p (Z1 p list.2.2.1) (Z1 p list.1)), (Z5 p (Z1 p list.2.2.2.1) (Z1 p list.1)), (Z5 p (Z1 p list.2.2.2.2.1) (Z1 p list.1)), (Z5 p (Z1 p list.2.2.2.2.2) (Z1 p list.1))), true)) else (if ((Z1 p list.1) == 0) = true then ((0, 0, 0, 0, 0, 0), false) else (((Z5 p (Z1 p list.1) (Z1 p list.1)), (Z5 p (Z1 p list.2.1) (Z1 p list.1)), (Z5 p (Z1 p list.2.2.1) (Z1 p list.1)), (Z5 p (Z1 p list.2.2.2.1) (Z1 p list.1)), (Z5 p (Z1 p list.2.2.2.2.1) (Z1 p list.1)), (Z5 p (Z1 p list.2.2.2.2.2) (Z1 p list.1))), true))) else (if ((Z1 p list.1) == 0) = true then (if ((Z1 p list.1) == 0) = true then ((0, 0, 0, 0, 0, 0), false) else (((Z5 p (Z1 p list.1) (Z1 p list.1)), (Z5 p (Z1 p list.2.1) (Z1 p list.1)), (Z5 p (Z1 p list.2.2.1) (Z1 p list.1)), (Z5 p (Z1 p list.2.2.2.1) (Z1 p list.1)), (Z5 p (Z1 p list.2.2.2.2.1) (Z1 p list.1)), (Z5 p (Z1 p list.2.2.2.2.2) (Z1 p list.1))), true)) else (if ((Z1 p list.1) == 0) = true then ((0, 0, 0, 0, 0, 0), false) else (((Z5 p (Z1 p list.1) (Z1 p list.1)), (Z5 p (Z1 p list.2.1) (Z1 p list.1)), (Z5 p (Z1 p list.2.2.1) (Z1 p list.1)), (Z5 p (Z1 p list.2.2.2.1) (Z1 p list.1)), (Z5 p (Z1 p list.2.2.2.2.1) (Z1 p list.1)), (Z5 p (Z1 p list.2.2.2.2.2) (Z1 p list.1))), true)))))))
theorem Zk8 (p : Int) (list : Int × Int × Int × Int × Int × Int) (hp : (prB p) = true) : Z9F p list = some (Z02 p list) := by
 unfold Z9F Z02
 (try simp only [Z03])
 repeat' (first | with_reducible rfl | with_reducible refine Z04 hp ?_ | refine ZS (fun _ => ?_) (fun _ => ?_) | rfl)
def Z5D : RunP
 | [.v (.int .i64 p), .v (.agg ⟨[.int .i64 list0, .int .i64 list1, .int .i64 list2, .int .i64 list3, .int .i64 list4, .int .i64 list5]⟩)] => some (prB p, Zla (Z02 p (list0, list1, list2, list3, list4, list5)))
 | _ => none
theorem Z7S : Sound prog 86 Z5D := by
 refine ZN Zsx ZkF (by kernel_rfl) func86 ntmps86 rfl (by kernel_rfl) fun q r E => ?_
 unfold Z5D at E
 split at E
 ·obtain ⟨hp, rfl⟩ := so2 E
  rename_i p list0 list1 list2 list3 list4 list5
  exact ⟨_, _, rfl, (Zlk p (list0, list1, list2, list3, list4, list5)).trans (Zk8 p (list0, list1, list2, list3, list4, list5) hp)⟩
 ·cases E

def Z8C : Sums := ⟨tblS [(90, Z2e), (116, Z5h)], tblM [], false, false⟩
theorem Zob : ZJ prog Z8C := ⟨ZD ⟨⟨call90, Z2d⟩, ⟨call116, Z7i⟩, ⟨⟩⟩, tM⟩
def Zmu (p : Int) (Zi : Nat) (listl : List Int) (first i : Int) : Tab := ⟨[vI (p), .row 4, jK, jK, .ptr 16 0, vB (false), vI (first), .ptr 28 0, vI (i), jK, jK, .val (.agg ⟨[.int .i64 0, .int .i64 0, .int .i64 0, .int .i64 0, .int .i64 0, .int .i64 0]⟩), ] ++ (jN 36 ++ [jK]), [(4, .ros Zi (.ints listl)), (16, .box 25 [vI (0), vI (0), vI (0), vI (0), vI (0), vI (0)]), (28, .box 25 [vI (0), vI (0), vI (0), vI (0), vI (0), vI (0)])]⟩
def Z5J (P : Program) (fu : Nat) (p : Int) (Zi : Nat) (listl : List Int) (f : Nat) (first i : Int) : Option ((Int × Int × Int × Int × Int × Int) × Bool) := ZH (exec P Z8C 49 (Z9 fu [3]) (Code.sub [1, 1, 0, 1, 0, 0] (Zb P 91))) f (Zmu p Zi listl first i) (Zc 0 (kSeq (fun Zp => exec P Z8C 49 (Z9 fu [3]) (Code.sub [1, 1, 1] (Zb P 91)) Zp (finT P 91 Z9X)) (finT P 91 Z9X)))
def Z2q (p : Int) (Zi : Nat) (listl : List Int) (ZE : Int -> Int -> Option ((Int × Int × Int × Int × Int × Int) × Bool)) (first i : Int) : Option ((Int × Int × Int × Int × Int × Int) × Bool) :=
 (if (decide (i < 3)) = true then (if (first == 0) = true then (if (decide (0 <= i) && decide (i < ((Zi : Nat) : Int))) = true then (if (Nat.ble (i.toNat * 1 + 1) listl.length) = true then (if (prB p) = true then ZE (Z4 (listl.getD (i.toNat * 1) 0) p) (wI (i + 1)) else none) else none) else none) else (if (first == 0) = true then some ((0, 0, 0, 0, 0, 0), false) else (if (prB p) = true then (if (decide (0 <= 0) && decide (0 < ((Zi : Nat) : Int))) = true then (if (Nat.ble (1) listl.length) = true then (if (!(p == 0)) = true then (if (prB p) = true then (if (decide (0 <= 1) && decide (1 < ((Zi : Nat) : Int))) = true then (if (Nat.ble (2) listl.length) = true then (if (!(p == 0)) = true then (if (prB p) = true then (if (decide (0 <= 2) && decide (2 < ((Zi : Nat) : Int))) = true then (if (Nat.ble (3) listl.length) = true then (if (!(p == 0)) = true then (if (prB p) = true then (if (decide (0 <= 3) && decide (3 < ((Zi : Nat) : Int))) = true then (if (Nat.ble (4) listl.length) = true then (if (!(p == 0)) = true then (if (prB p) = true then (if (decide (0 <= 4) && decide (4 < ((Zi : Nat) : Int))) = true then (if (Nat.ble (5) listl.length) = true then (if (!(p == 0)) = true then (if (prB p) = true then (if (decide (0 <= 5) && decide (5 < ((Zi : Nat) : Int))) = true then (if (Nat.ble (6) listl.length) = true then (if (!(p == 0)) = true then (if (prB p) = true then some (((Z4 (wI (((listl.getD 0 0).tmod p) * (Zn first p))) p), (Z4 (wI (((listl.getD 1 0).tmod p) * (Zn first p))) p), (Z4 (wI (((listl.getD 2 0).tmod p) * (Zn first p))) p), (Z4 (wI (((listl.getD 3 0).tmod p) * (Zn first p))) p), (Z4 (wI (((listl.getD 4 0).tmod p) * (Zn first p))) p), (Z4 (wI (((listl.getD 5 0).tmod p) * (Zn first p))) p)), true) else none) else none) else none) else none) else none) else none) else none) else none) else none) else none) else none) else none) else none) else none) else none) else none) else none) else none) else none) else none) else none) else none) else none) else none) else none))) else (if (first == 0) = true then some ((0, 0, 0, 0, 0, 0), false) else (if (prB p) = true then (if (decide (0 <= 0) && decide (0 < ((Zi : Nat) : Int))) = true then (if (Nat.ble (1) listl.length) = true then (if (!(p == 0)) = true then (if (prB p) = true then (if (decide (0 <= 1) && decide (1 < ((Zi : Nat) : Int))) = true then (if (Nat.ble (2) listl.length) = true then (if (!(p == 0)) = true then (if (prB p) = true then (if (decide (0 <= 2) && decide (2 < ((Zi : Nat) : Int))) = true then (if (Nat.ble (3) listl.length) = true then (if (!(p == 0)) = true then (if (prB p) = true then (if (decide (0 <= 3) && decide (3 < ((Zi : Nat) : Int))) = true then (if (Nat.ble (4) listl.length) = true then (if (!(p == 0)) = true then (if (prB p) = true then (if (decide (0 <= 4) && decide (4 < ((Zi : Nat) : Int))) = true then (if (Nat.ble (5) listl.length) = true then (if (!(p == 0)) = true then (if (prB p) = true then (if (decide (0 <= 5) && decide (5 < ((Zi : Nat) : Int))) = true then (if (Nat.ble (6) listl.length) = true then (if (!(p == 0)) = true then (if (prB p) = true then some (((Z4 (wI (((listl.getD 0 0).tmod p) * (Zn first p))) p), (Z4 (wI (((listl.getD 1 0).tmod p) * (Zn first p))) p), (Z4 (wI (((listl.getD 2 0).tmod p) * (Zn first p))) p), (Z4 (wI (((listl.getD 3 0).tmod p) * (Zn first p))) p), (Z4 (wI (((listl.getD 4 0).tmod p) * (Zn first p))) p), (Z4 (wI (((listl.getD 5 0).tmod p) * (Zn first p))) p)), true) else none) else none) else none) else none) else none) else none) else none) else none) else none) else none) else none) else none) else none) else none) else none) else none) else none) else none) else none) else none) else none) else none) else none) else none) else none)))
def Z1p (fu : Nat) (p : Int) (Zi : Nat) (listl : List Int) : Nat -> Int -> Int -> Option ((Int × Int × Int × Int × Int × Int) × Bool)
 | 0, _, _ => none
 | f + 1, first, i => Z2q p Zi listl (Z1p fu p Zi listl f) first i
theorem Zia (fu : Nat) (p : Int) (Zi : Nat) (listl : List Int) : ∀ (f : Nat) (first i : Int), Z5J prog fu p Zi listl f first i = Z1p fu p Zi listl f first i := by
 intro f
 induction f with
 | zero => intros; rfl
 | succ f ih =>
  intro first i
  have h1 : Z5J prog fu p Zi listl (f + 1) first i = Z2q p Zi listl (Z5J prog fu p Zi listl f) first i := by kernel_rfl
  have h2 : Z5J prog fu p Zi listl f = Z1p fu p Zi listl f := by funext first i; exact ih first i
  rw [h1, h2]
  rfl
def Zdp (p : Int) (Zi : Nat) (listl : List Int) (lo0 : Int -> Int -> Option ((Int × Int × Int × Int × Int × Int) × Bool)) : Option ((Int × Int × Int × Int × Int × Int) × Bool) :=
 lo0 0 0
def ZbW (fu : Nat) (p : Int) (Zi : Nat) (listl : List Int) : Option ((Int × Int × Int × Int × Int × Int) × Bool) := Zdp p Zi listl (Z1p fu p Zi listl fu)
theorem ZoL (fu : Nat) (p : Int) (Zi : Nat) (listl : List Int) : Z7W prog Z8C 91 49 (Z9 fu [3]) Z9X [.v (.int .i64 p), .s Zi (.ints listl)] = ZbW fu p Zi listl := by
 have h1 : Z7W prog Z8C 91 49 (Z9 fu [3]) Z9X [.v (.int .i64 p), .s Zi (.ints listl)] = Zdp p Zi listl (Z5J prog fu p Zi listl fu) := by kernel_rfl
 have c0 : Z5J prog fu p Zi listl fu = Z1p fu p Zi listl fu := by funext first i; exact Zia fu p Zi listl fu first i
 rw [h1, c0]
 rfl
def Z8W (p first : Int) (l : List Int) : P6 × Bool := if (first == 0) = true then ((0, 0, 0, 0, 0, 0), false) else ((Z4 (wrap64 ((l.getD 0 0).tmod p * Zn first p)) p, Z4 (wrap64 ((l.getD 1 0).tmod p * Zn first p)) p, Z4 (wrap64 ((l.getD 2 0).tmod p * Zn first p)) p, Z4 (wrap64 ((l.getD 3 0).tmod p * Zn first p)) p, Z4 (wrap64 ((l.getD 4 0).tmod p * Zn first p)) p, Z4 (wrap64 ((l.getD 5 0).tmod p * Zn first p)) p), true)
def Zbq (p : Int) (l : List Int) : Int := if (Z4 (l.getD 0 0) p == 0) = true then (if (Z4 (l.getD 1 0) p == 0) = true then Z4 (l.getD 2 0) p else Z4 (l.getD 1 0) p) else Z4 (l.getD 0 0) p
def ZO (p : Int) (n : Nat) (l : List Int) : P6 × Bool := Z8W p (Zbq p l) l
theorem ZlI {p : Int} (hp : prB p = true) {a b c d e f : Int} (fu F : Nat) (x : Int) (h : x ≠ 0) (i : Int) : Z1p fu p 6 [a, b, c, d, e, f] (F + 1) x i = some (Z8W p x [a, b, c, d, e, f]) := by
 show Z2q p 6 [a, b, c, d, e, f] _ x i = _
 have hx : ¬ (x == 0) = true := by simpa using h
 have h0 := Z6y hp
 have hm : Z8W p x [a, b, c, d, e, f] = ((Z4 (wrap64 (a.tmod p * Zn x p)) p, Z4 (wrap64 (b.tmod p * Zn x p)) p, Z4 (wrap64 (c.tmod p * Zn x p)) p, Z4 (wrap64 (d.tmod p * Zn x p)) p, Z4 (wrap64 (e.tmod p * Zn x p)) p, Z4 (wrap64 (f.tmod p * Zn x p)) p), true) := by
  unfold Z8W
  rw [if_neg hx]
  rfl
 rw [hm]
 unfold Z2q
 by_cases hi : decide (i < 3) = true
 ·rw [if_pos hi]
  repeat rw [if_neg hx]
  repeat' (refine Z04 (by first | exact hp | exact h0 | rfl) ?_)
  simp only [Z03]
  rfl
 ·rw [if_neg hi]
  repeat rw [if_neg hx]
  repeat' (refine Z04 (by first | exact hp | exact h0 | rfl) ?_)
  simp only [Z03]
  rfl
theorem ZtY {p : Int} {a b c d e f : Int} (fu F : Nat) : Z1p fu p 6 [a, b, c, d, e, f] (F + 1) 0 3 = some (Z8W p 0 [a, b, c, d, e, f]) := rfl
theorem Zvn {p : Int} (hp : prB p = true) {a b c d e f : Int} (fu F : Nat) : Z1p fu p 6 [a, b, c, d, e, f] (F + 1) 0 0 = Z1p fu p 6 [a, b, c, d, e, f] F (Z4 a p) 1 := by
 show Z2q p 6 [a, b, c, d, e, f] _ 0 0 = _
 have e : wI (0 + 1) = 1 := by rw [Z03]; unfold wrap64; omega
 unfold Z2q
 rw [hp, e]; rfl
theorem ZqK {p : Int} (hp : prB p = true) {a b c d e f : Int} (fu F : Nat) : Z1p fu p 6 [a, b, c, d, e, f] (F + 1) 0 1 = Z1p fu p 6 [a, b, c, d, e, f] F (Z4 b p) 2 := by
 show Z2q p 6 [a, b, c, d, e, f] _ 0 1 = _
 have e : wI (1 + 1) = 2 := by rw [Z03]; unfold wrap64; omega
 unfold Z2q
 rw [hp, e]; rfl
theorem Zvo {p : Int} (hp : prB p = true) {a b c d e f : Int} (fu F : Nat) : Z1p fu p 6 [a, b, c, d, e, f] (F + 1) 0 2 = Z1p fu p 6 [a, b, c, d, e, f] F (Z4 c p) 3 := by
 show Z2q p 6 [a, b, c, d, e, f] _ 0 2 = _
 have e : wI (2 + 1) = 3 := by rw [Z03]; unfold wrap64; omega
 unfold Z2q
 rw [hp, e]; rfl
theorem Zvm {p : Int} (hp : prB p = true) {a b c d e f : Int} (fu F : Nat) : Z1p fu p 6 [a, b, c, d, e, f] (F + 3) (Z4 a p) 1 = some (Z8W p (Zbq p [a, b, c, d, e, f]) [a, b, c, d, e, f]) := by
 unfold Zbq
 by_cases ha : Z4 a p = 0
 ·by_cases hb : Z4 b p = 0
  ·rw [ha, ZqK hp, hb, Zvo hp]
   have e : (if (Z4 ([a, b, c, d, e, f].getD 0 0) p == 0) = true then (if (Z4 ([a, b, c, d, e, f].getD 1 0) p == 0) = true then Z4 ([a, b, c, d, e, f].getD 2 0) p else Z4 ([a, b, c, d, e, f].getD 1 0) p) else Z4 ([a, b, c, d, e, f].getD 0 0) p) = Z4 c p := by
    show (if (Z4 a p == 0) = true then (if (Z4 b p == 0) = true then Z4 c p else Z4 b p) else Z4 a p) = _
    simp [ha, hb]
   rw [e]
   by_cases hc : Z4 c p = 0
   ·rw [hc, ZtY]
   ·rw [ZlI hp _ _ _ hc]
  ·have e : (if (Z4 ([a, b, c, d, e, f].getD 0 0) p == 0) = true then (if (Z4 ([a, b, c, d, e, f].getD 1 0) p == 0) = true then Z4 ([a, b, c, d, e, f].getD 2 0) p else Z4 ([a, b, c, d, e, f].getD 1 0) p) else Z4 ([a, b, c, d, e, f].getD 0 0) p) = Z4 b p := by
    show (if (Z4 a p == 0) = true then (if (Z4 b p == 0) = true then Z4 c p else Z4 b p) else Z4 a p) = _
    simp [ha, hb]
   rw [e, ha, ZqK hp, ZlI hp _ _ _ hb]
 ·have e : (if (Z4 ([a, b, c, d, e, f].getD 0 0) p == 0) = true then (if (Z4 ([a, b, c, d, e, f].getD 1 0) p == 0) = true then Z4 ([a, b, c, d, e, f].getD 2 0) p else Z4 ([a, b, c, d, e, f].getD 1 0) p) else Z4 ([a, b, c, d, e, f].getD 0 0) p) = Z4 a p := by
   show (if (Z4 a p == 0) = true then (if (Z4 b p == 0) = true then Z4 c p else Z4 b p) else Z4 a p) = _
   simp [ha]
  rw [e, ZlI hp _ _ _ ha]
theorem Zn6 (p : Int) (Zi : Nat) (listl : List Int) (hp : (prB p && (Nat.beq Zi 6 && Nat.beq listl.length 6)) = true) : ZbW 1000000 p Zi listl = some (ZO p Zi listl) := by
 simp only [Bool.and_eq_true] at hp
 obtain ⟨hp, hn, hl⟩ := hp
 obtain rfl : Zi = 6 := Nat.eq_of_beq_eq_true hn
 obtain ⟨a, b, c, d, e, f, rfl⟩ := Zvg (Nat.eq_of_beq_eq_true hl)
 unfold ZbW Zdp
 rw [show (1000000 : Nat) = 999996 + 3 + 1 from rfl, Zvn hp]
 exact Zvm hp _ 999996
def Z5M : RunP
 | [.v (.int .i64 p), .s Zi (.ints listl)] => some (prB p && (Nat.beq Zi 6 && Nat.beq listl.length 6), Zla (ZO p Zi listl))
 | _ => none
theorem Z72 : Sound prog 91 Z5M := by
 refine ZN Zsx Zob (by kernel_rfl) func91 ntmps91 rfl (by kernel_rfl) fun q r E => ?_
 unfold Z5M at E
 split at E
 ·obtain ⟨hp, rfl⟩ := so2 E
  rename_i p Zi listl
  exact ⟨_, _, rfl, (ZoL _ p Zi listl).trans (Zn6 p Zi listl hp)⟩
 ·cases E

def Zsm : Sums := ⟨tblS [], tblM [], false, false⟩
theorem Zui : ZJ prog Zsm := ⟨ZD ⟨⟩, tM⟩
def Zkw (p : Int) (a : P2) : Option (Int × Int × Int × Int × Int × Int) :=
 (if (!(p == 0)) = true then (if (!(p == 0)) = true then (if (!(p == 0)) = true then some ((wI (a.1 * a.1)).tmod p, (wI (a.1 * a.2)).tmod p, (wI (a.2 * a.2)).tmod p, a.1, a.2, 1) else none) else none) else none)
theorem ZuK (p : Int) (a : P2) : eT Zsm 83 29 Zry [pI p, pA a] = Zkw p a := by
 kernel_rfl
def Z4s (p : Int) (a : P2) : Int × Int × Int × Int × Int × Int :=
 ((wrap64 (a.1 * a.1)).tmod p, (wrap64 (a.1 * a.2)).tmod p, (wrap64 (a.2 * a.2)).tmod p, a.1, a.2, 1)
theorem Zue (p : Int) (a : P2) (hp : (prB p) = true) : Zkw p a = some (Z4s p a) := by
 have h0 := Z6y hp
 unfold Zkw Z4s
 (try simp only [Z03])
 repeat' (first | with_reducible rfl | with_reducible refine Z04 h0 ?_ | refine ZS (fun _ => ?_) (fun _ => ?_) | rfl)
def Zet : RunP
 | [.v (.int .i64 p), .v (.agg ⟨[.int .i64 a0, .int .i64 a1]⟩)] => some (prB p, ZuH (Z4s p (a0, a1)))
 | _ => none
theorem Zjk : Sound prog 83 Zet := by
 refine ZN Zxy Zui (by kernel_rfl) func83 ntmps83 rfl (by kernel_rfl) fun q r E => ?_
 unfold Zet at E
 split at E
 ·obtain ⟨hp, rfl⟩ := so2 E
  rename_i p a0 a1
  exact ⟨_, _, rfl, (ZuK p (a0, a1)).trans (Zue p (a0, a1) hp)⟩
 ·cases E

def ZgA : Sums := ⟨tblS [(90, Z2e)], tblM [], false, false⟩
theorem Zmq : ZJ prog ZgA := ⟨ZD ⟨⟨call90, Z2d⟩, ⟨⟩⟩, tM⟩
def ZaO (p : Int) (k : Int × Int × Int × Int × Int × Int) (a : P2) : Option (Int) :=
 (if (prB p) = true then some (Z4 (wI ((wI ((wI ((wI ((wI ((wI ((wI (k.1 * a.1)) * a.1)) + (wI ((wI (k.2.1 * a.1)) * a.2)))) + (wI ((wI (k.2.2.1 * a.2)) * a.2)))) + (wI (k.2.2.2.1 * a.1)))) + (wI (k.2.2.2.2.1 * a.2)))) + k.2.2.2.2.2)) p) else none)
theorem ZmB (p : Int) (k : Int × Int × Int × Int × Int × Int) (a : P2) : eT ZgA 50 48 Z2T [pI p, .v (.agg ⟨[.int .i64 k.1, .int .i64 k.2.1, .int .i64 k.2.2.1, .int .i64 k.2.2.2.1, .int .i64 k.2.2.2.2.1, .int .i64 k.2.2.2.2.2]⟩), pA a] = ZaO p k a := by
 kernel_rfl
def Z0h (p : Int) (k : Int × Int × Int × Int × Int × Int) (a : P2) : Int :=
 (Z4 (wrap64 ((wrap64 ((wrap64 ((wrap64 ((wrap64 ((wrap64 ((wrap64 (k.1 * a.1)) * a.1)) + (wrap64 ((wrap64 (k.2.1 * a.1)) * a.2)))) + (wrap64 ((wrap64 (k.2.2.1 * a.2)) * a.2)))) + (wrap64 (k.2.2.2.1 * a.1)))) + (wrap64 (k.2.2.2.2.1 * a.2)))) + k.2.2.2.2.2)) p)
theorem Zmg (p : Int) (k : Int × Int × Int × Int × Int × Int) (a : P2) (hp : (prB p) = true) : ZaO p k a = some (Z0h p k a) := by
 unfold ZaO Z0h
 (try simp only [Z03])
 repeat' (first | with_reducible rfl | with_reducible refine Z04 hp ?_ | refine ZS (fun _ => ?_) (fun _ => ?_) | rfl)
def Zad : RunP
 | [.v (.int .i64 p), .v (.agg ⟨[.int .i64 k0, .int .i64 k1, .int .i64 k2, .int .i64 k3, .int .i64 k4, .int .i64 k5]⟩), .v (.agg ⟨[.int .i64 a0, .int .i64 a1]⟩)] => some (prB p, Z7V (Z0h p (k0, k1, k2, k3, k4, k5) (a0, a1)))
 | _ => none
theorem Zir : Sound prog 50 Zad := by
 refine ZN Zdw Zmq (by kernel_rfl) func50 ntmps50 rfl (by kernel_rfl) fun q r E => ?_
 unfold Zad at E
 split at E
 ·obtain ⟨hp, rfl⟩ := so2 E
  rename_i p k0 k1 k2 k3 k4 k5 a0 a1
  exact ⟨_, _, rfl, (ZmB p (k0, k1, k2, k3, k4, k5) (a0, a1)).trans (Zmg p (k0, k1, k2, k3, k4, k5) (a0, a1) hp)⟩
 ·cases E

def Z1b : Sums := ⟨tblS [(50, Zad)], tblM [], false, false⟩
theorem ZkM : ZJ prog Z1b := ⟨ZD ⟨⟨call50, Zir⟩, ⟨⟩⟩, tM⟩
def Z4G (p : Int) (k : Int × Int × Int × Int × Int × Int) (l9 : List Int) (m9 : Nat) (x : Int) : Tab := ⟨[vI (p), .val (.agg ⟨[.int .i64 k.1, .int .i64 k.2.1, .int .i64 k.2.2.1, .int .i64 k.2.2.2.1, .int .i64 k.2.2.2.2.1, .int .i64 k.2.2.2.2.2]⟩), jK, .ptr 12 0, .val (.slice none 0 0), .row 36, vI (x), ] ++ (jN 25 ++ [jK]), [(12, .box 25 [vI (k.1), vI (k.2.1), vI (k.2.2.1), vI (k.2.2.2.1), vI (k.2.2.2.2.1), vI (k.2.2.2.2.2)]), (36, .row 27 2 m9 (.ints l9))]⟩
def ZjC (p : Int) (k : Int × Int × Int × Int × Int × Int) (l9 : List Int) (m9 : Nat) (x : Int) (l9' : List Int) (m9' : Nat) (y : Int) : Tab := ⟨[vI (p), .val (.agg ⟨[.int .i64 k.1, .int .i64 k.2.1, .int .i64 k.2.2.1, .int .i64 k.2.2.2.1, .int .i64 k.2.2.2.2.1, .int .i64 k.2.2.2.2.2]⟩), jK, .ptr 12 0, .val (.slice none 0 0), .row 36, vI (x), vI (y), jK, jK, vI (x), vI (p), vB ((decide (x < p))), ] ++ (jN 19 ++ [jK]), [(12, .box 25 [vI (k.1), vI (k.2.1), vI (k.2.2.1), vI (k.2.2.2.1), vI (k.2.2.2.2.1), vI (k.2.2.2.2.2)]), (36, .row 27 2 m9' (.ints l9'))]⟩
def Z4L (P : Program) (fu : Nat) (p : Int) (k : Int × Int × Int × Int × Int × Int) (l9 : List Int) (m9 : Nat) (x : Int) (rc2 : Tab -> Option (Nat × List Int)) (f : Nat) (l9' : List Int) (m9' : Nat) (y : Int) : Option (Nat × List Int) := ZH (exec P Z1b 33 (Z9 fu []) (Code.sub [1, 1, 0, 1, 0, 0, 1, 0, 0, 1, 0, 0] (Zb P 64))) f (ZjC p k l9 m9 x l9' m9' y) (Zc 2 (Zc 1 (kSeq (fun Zp => exec P Z1b 33 (Z9 fu []) (Code.sub [1, 1, 0, 1, 0, 0, 1, 1] (Zb P 64)) Zp (Zz rc2 (Z4G p k l9 m9 x) (Zc 0 (kSeq (fun Zp => exec P Z1b 33 (Z9 fu []) (Code.sub [1, 1, 1] (Zb P 64)) Zp (finT P 64 Z0p)) (finT P 64 Z0p))))) (Zz rc2 (Z4G p k l9 m9 x) (Zc 0 (kSeq (fun Zp => exec P Z1b 33 (Z9 fu []) (Code.sub [1, 1, 1] (Zb P 64)) Zp (finT P 64 Z0p)) (finT P 64 Z0p)))))))
def Z4E (p : Int) (k : Int × Int × Int × Int × Int × Int) (l9 : List Int) (m9 : Nat) (x : Int) (Z7a : (List Int) -> Nat -> Int -> Option (Nat × List Int)) (Zu6 : (List Int) -> Nat -> Int -> Option (Nat × List Int)) (l9' : List Int) (m9' : Nat) (y : Int) : Option (Nat × List Int) :=
 (if (decide (y < p)) = true then (if (prB p) = true then (if ((Z0h p k (x, y)) == 0) = true then (if (Nat.ble 0 1 && Nat.ble (m9' + 1) 2000000 && Nat.beq 2 (2)) = true then Zu6 (l9' ++ [x, y]) (m9' + 1) (wI (y + 1)) else none) else Zu6 l9' m9' (wI (y + 1))) else none) else Z7a l9' m9' (wI (x + 1)))
def Z1s (fu : Nat) (p : Int) (k : Int × Int × Int × Int × Int × Int) (l9 : List Int) (m9 : Nat) (x : Int) (Z7a : (List Int) -> Nat -> Int -> Option (Nat × List Int)) : Nat -> (List Int) -> Nat -> Int -> Option (Nat × List Int)
 | 0, _, _, _ => none
 | f + 1, l9', m9', y => Z4E p k l9 m9 x Z7a (Z1s fu p k l9 m9 x Z7a f) l9' m9' y
theorem Zg2 (fu : Nat) (p : Int) (k : Int × Int × Int × Int × Int × Int) (l9 : List Int) (m9 : Nat) (x : Int) (rc2 : Tab -> Option (Nat × List Int)) : ∀ (f : Nat) (l9' : List Int) (m9' : Nat) (y : Int), Z4L prog fu p k l9 m9 x rc2 f l9' m9' y = Z1s fu p k l9 m9 x (fun l9 m9 x => rc2 (Z4G p k l9 m9 x)) f l9' m9' y := by
 intro f
 induction f with
 | zero => intros; rfl
 | succ f ih =>
  intro l9' m9' y
  have h1 : Z4L prog fu p k l9 m9 x rc2 (f + 1) l9' m9' y = Z4E p k l9 m9 x (fun l9 m9 x => rc2 (Z4G p k l9 m9 x)) (Z4L prog fu p k l9 m9 x rc2 f) l9' m9' y := by kernel_rfl
  have h2 : Z4L prog fu p k l9 m9 x rc2 f = Z1s fu p k l9 m9 x (fun l9 m9 x => rc2 (Z4G p k l9 m9 x)) f := by funext l9' m9' y; exact ih l9' m9' y
  rw [h1, h2]
  rfl
def Z3U (P : Program) (fu : Nat) (p : Int) (k : Int × Int × Int × Int × Int × Int) (f : Nat) (l9 : List Int) (m9 : Nat) (x : Int) : Option (Nat × List Int) := ZH (exec P Z1b 33 (Z9 fu []) (Code.sub [1, 1, 0, 1, 0, 0] (Zb P 64))) f (Z4G p k l9 m9 x) (Zc 0 (kSeq (fun Zp => exec P Z1b 33 (Z9 fu []) (Code.sub [1, 1, 1] (Zb P 64)) Zp (finT P 64 Z0p)) (finT P 64 Z0p)))
def Z4D (p : Int) (k : Int × Int × Int × Int × Int × Int) (lo3 : (List Int) -> Nat -> Int -> Option (Nat × List Int)) (Z7a : (List Int) -> Nat -> Int -> Option (Nat × List Int)) (l9 : List Int) (m9 : Nat) (x : Int) : Option (Nat × List Int) :=
 (if (decide (x < p)) = true then lo3 l9 m9 0 else some (m9, l9))
def Z1m (fu : Nat) (p : Int) (k : Int × Int × Int × Int × Int × Int) : Nat -> (List Int) -> Nat -> Int -> Option (Nat × List Int)
 | 0, _, _, _ => none
 | f + 1, l9, m9, x => Z4D p k (Z1s fu p k l9 m9 x (Z1m fu p k f) fu) (Z1m fu p k f) l9 m9 x
theorem Zg1 (fu : Nat) (p : Int) (k : Int × Int × Int × Int × Int × Int) : ∀ (f : Nat) (l9 : List Int) (m9 : Nat) (x : Int), Z3U prog fu p k f l9 m9 x = Z1m fu p k f l9 m9 x := by
 intro f
 induction f with
 | zero => intros; rfl
 | succ f ih =>
  intro l9 m9 x
  have h1 : Z3U prog fu p k (f + 1) l9 m9 x = Z4D p k (Z4L prog fu p k l9 m9 x (fun t => ZH (exec prog Z1b 33 (Z9 fu []) (Code.sub [1, 1, 0, 1, 0, 0] (Zb prog 64))) f t (Zc 0 (kSeq (fun Zp => exec prog Z1b 33 (Z9 fu []) (Code.sub [1, 1, 1] (Zb prog 64)) Zp (finT prog 64 Z0p)) (finT prog 64 Z0p)))) fu) (Z3U prog fu p k f) l9 m9 x := by kernel_rfl
  have h2 : Z3U prog fu p k f = Z1m fu p k f := by funext l9 m9 x; exact ih l9 m9 x
  have c3 : (Z4L prog fu p k l9 m9 x (fun t => ZH (exec prog Z1b 33 (Z9 fu []) (Code.sub [1, 1, 0, 1, 0, 0] (Zb prog 64))) f t (Zc 0 (kSeq (fun Zp => exec prog Z1b 33 (Z9 fu []) (Code.sub [1, 1, 1] (Zb prog 64)) Zp (finT prog 64 Z0p)) (finT prog 64 Z0p)))) fu) = Z1s fu p k l9 m9 x (Z3U prog fu p k f) fu := by funext l9' m9' y; exact Zg2 fu p k l9 m9 x (fun t => ZH (exec prog Z1b 33 (Z9 fu []) (Code.sub [1, 1, 0, 1, 0, 0] (Zb prog 64))) f t (Zc 0 (kSeq (fun Zp => exec prog Z1b 33 (Z9 fu []) (Code.sub [1, 1, 1] (Zb prog 64)) Zp (finT prog 64 Z0p)) (finT prog 64 Z0p)))) fu l9' m9' y
  rw [h1, c3, h2]
  rfl
def ZaT (p : Int) (k : Int × Int × Int × Int × Int × Int) (lo2 : (List Int) -> Nat -> Int -> Option (Nat × List Int)) : Option (Nat × List Int) :=
 lo2 [] 0 0
def Z9M (fu : Nat) (p : Int) (k : Int × Int × Int × Int × Int × Int) : Option (Nat × List Int) := ZaT p k (Z1m fu p k fu)
theorem Zlr (fu : Nat) (p : Int) (k : Int × Int × Int × Int × Int × Int) : Z7W prog Z1b 64 33 (Z9 fu []) Z0p [.v (.int .i64 p), .v (.agg ⟨[.int .i64 k.1, .int .i64 k.2.1, .int .i64 k.2.2.1, .int .i64 k.2.2.2.1, .int .i64 k.2.2.2.2.1, .int .i64 k.2.2.2.2.2]⟩)] = Z9M fu p k := by
 have h1 : Z7W prog Z1b 64 33 (Z9 fu []) Z0p [.v (.int .i64 p), .v (.agg ⟨[.int .i64 k.1, .int .i64 k.2.1, .int .i64 k.2.2.1, .int .i64 k.2.2.2.1, .int .i64 k.2.2.2.2.1, .int .i64 k.2.2.2.2.2]⟩)] = ZaT p k (Z3U prog fu p k fu) := by kernel_rfl
 have c2 : Z3U prog fu p k fu = Z1m fu p k fu := by funext l9 m9 x; exact Zg1 fu p k fu l9 m9 x
 rw [h1, c2]
 rfl
def Z5r (p : Int) (k_ : P6) : Nat × List Int := (((pts p).filter fun zz => (Z0h p k_ zz == 0)).length, Z0Y ((pts p).filter fun zz => (Z0h p k_ zz == 0)))
theorem ZjR {p : Int} (hp : prB p = true) (k_ : P6) (fu : Nat) (l11 : List Int) (m11 : Nat) (x : Int) (Z7a : List Int -> Nat -> Int -> Option (Nat × List Int)) {F m : Nat} {l : List Int} (hF : p.toNat < F) (hm : m <= 100000) :
  Z1s fu p k_ l11 m11 x Z7a F l m 0 = Z7a (l ++ Z0Y ((List.range p.toNat).flatMap (fun y : Nat => if (Z0h p k_ (x, (y : Int)) == 0) = true then [((x : Int), (y : Int))] else []))) (m + ((List.range p.toNat).flatMap (fun y : Nat => if (Z0h p k_ (x, (y : Int)) == 0) = true then [((x : Int), (y : Int))] else [])).length) (wI (x + 1)) := by
 obtain ⟨h1, h0, hpn⟩ := Z7J hp
 exact gather (flat := Z0Y) Zbk rfl (L := fun f l m i => Z1s fu p k_ l11 m11 x Z7a f l m i) (n := p.toNat) (b := 1) (M := 100000) ((fun y : Nat => if (Z0h p k_ (x, (y : Int)) == 0) = true then [((x : Int), (y : Int))] else [])) (K := (Z7a (l ++ Z0Y ((List.range p.toNat).flatMap (fun y : Nat => if (Z0h p k_ (x, (y : Int)) == 0) = true then [((x : Int), (y : Int))] else []))) (m + ((List.range p.toNat).flatMap (fun y : Nat => if (Z0h p k_ (x, (y : Int)) == 0) = true then [((x : Int), (y : Int))] else [])).length) (wI (x + 1)))) (l := l) (m := m) (F := F) (by intro k hk; first | (split <;> simp) | simp_all)
  (fun f k l m hk hm => by
   show Z4E p k_ l11 m11 x Z7a (Z1s fu p k_ l11 m11 x Z7a f) l m (k : Int) = _
   unfold Z4E
   have x0 : prB p = true := hp
   simp only [cndp hk, x0, if_true, Z2o hk (by omega), show (Nat.ble 0 1 && Nat.ble (m + 1) 2000000 && Nat.beq 2 2) = true from by simp; omega]
   generalize ((Z0h p k_ (x, (k : Int)) == 0)) = c0
   cases c0 <;> first
    | rfl
    | (
      simp only [Bool.false_eq_true, Bool.false_and, Bool.and_false, Bool.true_and, if_false, if_true]
      rw [show Z0Y [] = [] from rfl, List.append_nil]
      rfl))
  (fun f hm => by
   show Z4E p k_ l11 m11 x Z7a (Z1s fu p k_ l11 m11 x Z7a f) (l ++ Z0Y ((List.range p.toNat).flatMap ((fun y : Nat => if (Z0h p k_ (x, (y : Int)) == 0) = true then [((x : Int), (y : Int))] else [])))) (m + ((List.range p.toNat).flatMap ((fun y : Nat => if (Z0h p k_ (x, (y : Int)) == 0) = true then [((x : Int), (y : Int))] else []))).length) ((p.toNat : Nat) : Int) = _
   unfold Z4E
   rw [if_neg (by simp; omega)]) hF hm
theorem ZjP {p : Int} (hp : prB p = true) (k_ : P6) {F : Nat} (hF : p.toNat < F) : Z1m 1000000 p k_ F [] 0 0 = (some (((pts p).filter fun zz => (Z0h p k_ zz == 0)).length, Z0Y ((pts p).filter fun zz => (Z0h p k_ zz == 0)))) := by
 obtain ⟨h1, h0, hpn⟩ := Z7J hp
 exact gather (flat := Z0Y) Zbk rfl (L := fun f l m i => Z1m 1000000 p k_ f l m i) (n := p.toNat) (b := 31) (M := 0) ((fun x : Nat => (List.range p.toNat).flatMap (fun y : Nat => if (Z0h p k_ ((x : Int), (y : Int)) == 0) = true then [(((x : Int) : Int), (y : Int))] else []))) (K := (some (((pts p).filter fun zz => (Z0h p k_ zz == 0)).length, Z0Y ((pts p).filter fun zz => (Z0h p k_ zz == 0))))) (l := []) (m := 0) (F := F) (by intro k hk; refine Nat.le_trans (Z66 (b := 1) fun j _ => ?_) (by omega); first | (split <;> simp) | simp)
  (fun f k l m hk hm => by
   show Z4D p k_ (Z1s 1000000 p k_ l m (k : Int) (Z1m 1000000 p k_ f) 1000000) (Z1m 1000000 p k_ f) l m (k : Int) = _
   unfold Z4D
   rw [if_pos (cndp hk), ZjR hp _ _ _ _ _ _ (by omega) (by omega), Z2o hk (by omega)])
  (fun f hm => by
   show Z4D p k_ (Z1s 1000000 p k_ ([] ++ Z0Y ((List.range p.toNat).flatMap ((fun x : Nat => (List.range p.toNat).flatMap (fun y : Nat => if (Z0h p k_ ((x : Int), (y : Int)) == 0) = true then [(((x : Int) : Int), (y : Int))] else []))))) (0 + ((List.range p.toNat).flatMap ((fun x : Nat => (List.range p.toNat).flatMap (fun y : Nat => if (Z0h p k_ ((x : Int), (y : Int)) == 0) = true then [(((x : Int) : Int), (y : Int))] else [])))).length) ((p.toNat : Nat) : Int) (Z1m 1000000 p k_ f) 1000000) (Z1m 1000000 p k_ f) ([] ++ Z0Y ((List.range p.toNat).flatMap ((fun x : Nat => (List.range p.toNat).flatMap (fun y : Nat => if (Z0h p k_ ((x : Int), (y : Int)) == 0) = true then [(((x : Int) : Int), (y : Int))] else []))))) (0 + ((List.range p.toNat).flatMap ((fun x : Nat => (List.range p.toNat).flatMap (fun y : Nat => if (Z0h p k_ ((x : Int), (y : Int)) == 0) = true then [(((x : Int) : Int), (y : Int))] else [])))).length) ((p.toNat : Nat) : Int) = _
   unfold Z4D
   have hkp : ((List.range p.toNat).flatMap (fun x : Nat => (List.range p.toNat).flatMap (fun y : Nat => if (Z0h p k_ ((x : Int), (y : Int)) == 0) = true then [(((x : Int) : Int), (y : Int))] else []))) = (pts p).filter (fun zz => (Z0h p k_ zz == 0)) := Zqx p.toNat (fun zz => (Z0h p k_ zz == 0))
   rw [if_neg (by simp; omega), hkp]
   simp) hF (Nat.le_refl _)

theorem Zkf (p : Int) (k : Int × Int × Int × Int × Int × Int) (hp : (prB p) = true) : Z9M 1000000 p k = some (Z5r p k) := by
 unfold Z9M ZaT
 have h1 := (Z7J hp).1
 exact ZjP hp _ (by omega)
def Z6W : RunP
 | [.v (.int .i64 p), .v (.agg ⟨[.int .i64 k0, .int .i64 k1, .int .i64 k2, .int .i64 k3, .int .i64 k4, .int .i64 k5]⟩)] => some (prB p, Zek (Z5r p (k0, k1, k2, k3, k4, k5)))
 | _ => none
theorem ZaI : Sound prog 64 Z6W := by
 refine ZN Zl7 ZkM (by kernel_rfl) func64 ntmps64 rfl (by kernel_rfl) fun q r E => ?_
 unfold Z6W at E
 split at E
 ·obtain ⟨hp, rfl⟩ := so2 E
  rename_i p k0 k1 k2 k3 k4 k5
  exact ⟨_, _, rfl, (Zlr _ p (k0, k1, k2, k3, k4, k5)).trans (Zkf p (k0, k1, k2, k3, k4, k5) hp)⟩
 ·cases E

end

end Go.Proofs.Ytfclaacaphpoaaa
