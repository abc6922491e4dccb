import Derived.Test.YtcdpfpfbilfpoaaGreatDoorHz
import Derived.Test.YtcdpfpfbilfpoaaGreatDoorProg
set_option linter.unusedSimpArgs false
set_option linter.unusedVariables false
namespace Go.Proofs.YtcdpfpfbilfpoaaGreatDoor
open Go.RowKit Tryz
noncomputable section
def S_i_IsField : Sums := ⟨tblS [], tblM [], false⟩
theorem SO_i_IsField : SumsOK prog S_i_IsField := ⟨tblS_ok ⟨⟩, tM⟩
def Fo_i_IsField (p : Int) : Option (Bool) :=
 (if (p == 3) = true then (if (p == 3) = true then some true else some false) else (if (p == 5) = true then (if (p == 5) = true then some true else some false) else (if (p == 7) = true then (if (p == 7) = true then some true else some false) else (if (p == 11) = true then (if (p == 11) = true then some true else some false) else (if (p == 13) = true then (if (p == 13) = true then some true else some false) else (if (p == 17) = true then (if (p == 17) = true then some true else some false) else (if (p == 19) = true then (if (p == 19) = true then some true else some false) else (if (p == 23) = true then (if (p == 23) = true then some true else some false) else (if (p == 29) = true then (if (p == 29) = true then some true else some false) else (if (p == 31) = true then some true else some false))))))))))
theorem eq_i_IsField (p : Int) : eT S_i_IsField 35 15 dec_b [pI p] = Fo_i_IsField p := by
 kernel_rfl
def i_IsField (p : Int) : Bool :=
 (if (p == 3) = true then (if (p == 3) = true then true else false) else (if (p == 5) = true then (if (p == 5) = true then true else false) else (if (p == 7) = true then (if (p == 7) = true then true else false) else (if (p == 11) = true then (if (p == 11) = true then true else false) else (if (p == 13) = true then (if (p == 13) = true then true else false) else (if (p == 17) = true then (if (p == 17) = true then true else false) else (if (p == 19) = true then (if (p == 19) = true then true else false) else (if (p == 23) = true then (if (p == 23) = true then true else false) else (if (p == 29) = true then (if (p == 29) = true then true else false) else (if (p == 31) = true then true else false))))))))))
theorem tot_i_IsField (p : Int) : Fo_i_IsField p = some (i_IsField p) := by
 unfold Fo_i_IsField i_IsField
 (try simp only [wI_eq])
 repeat' (first | with_reducible rfl | refine ite_opt (fun _ => ?_) (fun _ => ?_) | rfl)
def run_i_IsField : RunP
 | [.v (.int .i64 p)] => some (true, enc_b (i_IsField p))
 | _ => none
theorem sound_i_IsField : Sound prog 35 run_i_IsField := by
 refine sound_1 de_b SO_i_IsField (by kernel_rfl) func35 ntmps35 rfl (by kernel_rfl) fun q r E => ?_
 unfold run_i_IsField at E
 split at E
 ·obtain ⟨hp, rfl⟩ := so2 E
  rename_i p
  exact ⟨_, _, rfl, (eq_i_IsField p).trans (tot_i_IsField p)⟩
 ·cases E

def S_i_asked : Sums := ⟨tblS [(35, run_i_IsField)], tblM [], false⟩
theorem SO_i_asked : SumsOK prog S_i_asked := ⟨tblS_ok ⟨⟨call35, sound_i_IsField⟩, ⟨⟩⟩, tM⟩
def Fo_i_asked (p : Int) (rightk righth : Bool) : Option (Int) :=
 (if (!(i_IsField p)) = true then some 1 else (if (rightk) = true then (if (!righth) = true then some 2 else some 0) else none))
theorem eq_i_asked (p : Int) (rightk righth : Bool) : eT S_i_asked 106 11 dec_i [pI p, .f (clo__b rightk righth)] = Fo_i_asked p rightk righth := by
 kernel_rfl
def i_asked (p : Int) (rightk righth : Bool) : Int := if i_IsField p = true then (if righth = true then 0 else 2) else 1
theorem asked_zero {p : Int} {k b : Bool} (h : i_asked p k b = 0) : i_IsField p = true ∧ b = true := by
 unfold i_asked at h
 cases h1 : i_IsField p <;> cases h2 : b <;> simp [h1, h2] at h ⊢
theorem i_IsField_ok {p : Int} (h : i_IsField p = true) : Pr p := by
 unfold Pr; simp [i_IsField] at h; omega
theorem asked_prB {p : Int} {k b : Bool} (h : ¬ (i_asked p k b != 0) = true) : prB p = true := Pr_prB (i_IsField_ok (asked_zero (by simpa using h)).1)
theorem asked_prB0 {p : Int} {k b : Bool} (h : (i_asked p k b == 0) = true) : prB p = true := asked_prB (by simpa using h)
theorem field_prB {p : Int} (h : i_IsField p = true) : prB p = true := Pr_prB (i_IsField_ok h)
theorem field_prB0 {p : Int} (h : ¬ (!(i_IsField p)) = true) : prB p = true := field_prB (by simpa using h)
theorem tot_i_asked (p : Int) (rightk righth : Bool) (hp : (rightk || !(i_IsField p)) = true) : Fo_i_asked p rightk righth = some (i_asked p rightk righth) := by
 unfold Fo_i_asked i_asked
 cases h : i_IsField p <;> cases rightk <;> cases righth <;> simp_all
def run_i_asked : RunP
 | [.v (.int .i64 p), .f rightg] => some ((okV (rightg [])) || !(i_IsField p), enc_i (i_asked p (okV (rightg [])) (boolV (rightg []))))
 | _ => none
theorem sound_i_asked : Sound prog 106 run_i_asked := by
 refine sound_of de_i SO_i_asked (by kernel_rfl) func106 ntmps106 rfl (by kernel_rfl) ?_
 intro W pvs avs rs hargs hrun
 unfold run_i_asked at hrun
 split at hrun
 ·simp only [Option.some.injEq, Prod.mk.injEq] at hrun
  obtain ⟨hp, rfl⟩ := hrun
  rename_i p rightg
  have hargs := All2.replace (l1 := [_]) hargs (y := .f (clo__b _ _)) fun b hb => fn_weaken hb (clo__b_ok _)
  exact ⟨_, _, _, hargs, rfl, (eq_i_asked p (okV (rightg [])) (boolV (rightg []))).trans (tot_i_asked p (okV (rightg [])) (boolV (rightg [])) hp)⟩
 ·cases hrun

def S_s_l01In : Sums := ⟨tblS [], tblM [], false⟩
theorem SO_s_l01In : SumsOK prog S_s_l01In := ⟨tblS_ok ⟨⟩, tM⟩
def Fo_s_l01In (n_ low high : Int) : Option (Bool) :=
 (if (decide (n_ ≥ low)) = true then some (decide (n_ ≤ high)) else some false)
theorem eq_s_l01In (n_ low high : Int) : eT S_s_l01In 160 15 dec_b [pI n_, pI low, pI high] = Fo_s_l01In n_ low high := by
 kernel_rfl
def s_l01In (n_ low high : Int) : Bool :=
 (if (decide (n_ ≥ low)) = true then decide (n_ ≤ high) else false)
theorem tot_s_l01In (n_ low high : Int) : Fo_s_l01In n_ low high = some (s_l01In n_ low high) := by
 unfold Fo_s_l01In s_l01In
 (try simp only [wI_eq])
 repeat' (first | with_reducible rfl | refine ite_opt (fun _ => ?_) (fun _ => ?_) | rfl)
def run_s_l01In : RunP
 | [.v (.int .i64 n_), .v (.int .i64 low), .v (.int .i64 high)] => some (true, enc_b (s_l01In n_ low high))
 | _ => none
theorem sound_s_l01In : Sound prog 160 run_s_l01In := by
 refine sound_1 de_b SO_s_l01In (by kernel_rfl) func160 ntmps160 rfl (by kernel_rfl) fun q r E => ?_
 unfold run_s_l01In at E
 split at E
 ·obtain ⟨hp, rfl⟩ := so2 E
  rename_i n_ low high
  exact ⟨_, _, rfl, (eq_s_l01In n_ low high).trans (tot_s_l01In n_ low high)⟩
 ·cases E

def S_i_isNumber : Sums := ⟨tblS [], tblM [], false⟩
theorem SO_i_isNumber : SumsOK prog S_i_isNumber := ⟨tblS_ok ⟨⟩, tM⟩
def Fo_i_isNumber (p x : Int) : Option (Bool) :=
 (if (decide (x ≥ 0)) = true then some (decide (x < p)) else some false)
theorem eq_i_isNumber (p x : Int) : eT S_i_isNumber 120 12 dec_b [pI p, pI x] = Fo_i_isNumber p x := by
 kernel_rfl
def i_isNumber (p x : Int) : Bool :=
 (if (decide (x ≥ 0)) = true then decide (x < p) else false)
theorem tot_i_isNumber (p x : Int) : Fo_i_isNumber p x = some (i_isNumber p x) := by
 unfold Fo_i_isNumber i_isNumber
 (try simp only [wI_eq])
 repeat' (first | with_reducible rfl | refine ite_opt (fun _ => ?_) (fun _ => ?_) | rfl)
def run_i_isNumber : RunP
 | [.v (.int .i64 p), .v (.int .i64 x)] => some (true, enc_b (i_isNumber p x))
 | _ => none
theorem sound_i_isNumber : Sound prog 120 run_i_isNumber := by
 refine sound_1 de_b SO_i_isNumber (by kernel_rfl) func120 ntmps120 rfl (by kernel_rfl) fun q r E => ?_
 unfold run_i_isNumber at E
 split at E
 ·obtain ⟨hp, rfl⟩ := so2 E
  rename_i p x
  exact ⟨_, _, rfl, (eq_i_isNumber p x).trans (tot_i_isNumber p x)⟩
 ·cases E

def S_i_areNumbers : Sums := ⟨tblS [(120, run_i_isNumber)], tblM [], false⟩
theorem SO_i_areNumbers : SumsOK prog S_i_areNumbers := ⟨tblS_ok ⟨⟨call120, sound_i_isNumber⟩, ⟨⟩⟩, tM⟩
def T_i_areNumbers_0 (p : Int) (listn : Nat) (listl : List Int) (t9 : Int) : Tab := ⟨[.val (.int .i64 p), .row 4, .junk, .junk, .val (.bool false), .junk, .junk, .row 4, .val (.int .i64 ((listn : Nat) : Int)), .val (.int .i64 t9), .junk, .junk, .junk, .junk, .junk, .junk, .junk, .junk], [(4, .ros listn (.ints listl))]⟩
def X_i_areNumbers_0 (P : Program) (fu : Nat) (p : Int) (listn : Nat) (listl : List Int) (f : Nat) (t9 : Int) : Option (Bool) := loopK (exec P S_i_areNumbers 18 (fun _ => fu + 100) (Code.sub [1, 0, 1, 0, 0] (bodyF P 158))) f (T_i_areNumbers_0 p listn listl t9) (kBlock 0 (kSeq (fun zs9 => exec P S_i_areNumbers 18 (fun _ => fu + 100) (Code.sub [1, 1] (bodyF P 158)) zs9 (finT P 158 dec_b)) (finT P 158 dec_b)))
def B_i_areNumbers_0 (p : Int) (listn : Nat) (listl : List Int) (rec0 : Int → Option (Bool)) (t9 : Int) : Option (Bool) :=
 (if (decide (t9 < ((listn : Nat) : Int))) = true then (if (decide (0 ≤ t9) && decide (t9 < ((listn : Nat) : Int))) = true then (if (Nat.ble (t9.toNat * 1 + 1) listl.length) = true then (if (!(i_isNumber p (listl.getD (t9.toNat * 1) 0))) = true then some false else rec0 (wI (t9 + 1))) else none) else none) else some true)
def L_i_areNumbers_0 (fu : Nat) (p : Int) (listn : Nat) (listl : List Int) : Nat → Int → Option (Bool)
 | 0, _ => none
 | f + 1, t9 => B_i_areNumbers_0 p listn listl (L_i_areNumbers_0 fu p listn listl f) t9
theorem loop_i_areNumbers_0 (fu : Nat) (p : Int) (listn : Nat) (listl : List Int) : ∀ (f : Nat) (t9 : Int), X_i_areNumbers_0 prog fu p listn listl f t9 = L_i_areNumbers_0 fu p listn listl f t9 := by
 intro f
 induction f with
 | zero => intros; rfl
 | succ f ih =>
  intro t9
  have h1 : X_i_areNumbers_0 prog fu p listn listl (f + 1) t9 = B_i_areNumbers_0 p listn listl (X_i_areNumbers_0 prog fu p listn listl f) t9 := by kernel_rfl
  have h2 : X_i_areNumbers_0 prog fu p listn listl f = L_i_areNumbers_0 fu p listn listl f := by funext t9; exact ih t9
  rw [h1, h2]
  rfl
def G_i_areNumbers (p : Int) (listn : Nat) (listl : List Int) (lo0 : Int → Option (Bool)) : Option (Bool) :=
 lo0 0
def Fo_i_areNumbers (fu : Nat) (p : Int) (listn : Nat) (listl : List Int) : Option (Bool) := G_i_areNumbers p listn listl (L_i_areNumbers_0 fu p listn listl (fu + 100))
theorem eq_i_areNumbers (fu : Nat) (p : Int) (listn : Nat) (listl : List Int) : eF fu S_i_areNumbers 158 18 dec_b [pI p, .s listn (.ints listl)] = Fo_i_areNumbers fu p listn listl := by
 have h1 : eF fu S_i_areNumbers 158 18 dec_b [pI p, .s listn (.ints listl)] = G_i_areNumbers p listn listl (X_i_areNumbers_0 prog fu p listn listl (fu + 100)) := by kernel_rfl
 have c0 : X_i_areNumbers_0 prog fu p listn listl (fu + 100) = L_i_areNumbers_0 fu p listn listl (fu + 100) := by funext t9; exact loop_i_areNumbers_0 fu p listn listl (fu + 100) t9
 rw [h1, c0]
 rfl
def i_areNumbers (p : Int) (l : List Int) : Bool := l.all (fun x => i_isNumber p x)
theorem tot_i_areNumbers (p : Int) (listn : Nat) (listl : List Int) (hp : (lenB listn 1 listl) = true) : Fo_i_areNumbers listn p listn listl = some (i_areNumbers p listl) := by
 obtain ⟨hl, hn⟩ := lenB_ok hp
 have key : ∀ F, listn < F → (L_i_areNumbers_0 listn p listn listl) F 0 = some (if (List.range listn).all (fun k => (fun x => i_isNumber p x) (listl.getD (k * 1) 0)) = true then true else false) := by
  intro F hF
  refine scan hF (fun f k hk => ?_) fun f => ?_
  ·show B_i_areNumbers_0 p listn listl ((L_i_areNumbers_0 listn p listn listl) f) (k : Int) = _
   unfold B_i_areNumbers_0
   rw [if_pos (by simpa using hk), if_pos (by simpa using hk), if_pos (leb (by rw [hl, Int.toNat_natCast]; omega)), wrap_add1 hk (by omega)]
   first | rfl | (rw [wI_eq]; rfl)
  ·show B_i_areNumbers_0 p listn listl ((L_i_areNumbers_0 listn p listn listl) f) ((listn : Nat) : Int) = _
   unfold B_i_areNumbers_0
   rw [if_neg (by simp)]
 unfold Fo_i_areNumbers G_i_areNumbers
 rw [key _ (by omega)]
 show _ = some ((listl).all (fun x => i_isNumber p x))
 rw [all_rows1 listn listl (by omega)]
 cases (List.range listn).all (fun k => (fun x => i_isNumber p x) (listl.getD (k * 1) 0)) <;> rfl
def run_i_areNumbers : RunP
 | [.v (.int .i64 p), .s listn (.ints listl)] => some (lenB listn 1 listl, enc_b (i_areNumbers p listl))
 | _ => none
theorem sound_i_areNumbers : Sound prog 158 run_i_areNumbers := by
 refine sound_1 de_b SO_i_areNumbers (by kernel_rfl) func158 ntmps158 rfl (by kernel_rfl) fun q r E => ?_
 unfold run_i_areNumbers at E
 split at E
 ·obtain ⟨hp, rfl⟩ := so2 E
  rename_i p listn listl
  exact ⟨_, _, rfl, (eq_i_areNumbers _ p listn listl).trans (tot_i_areNumbers p listn listl hp)⟩
 ·cases E

def S_s_l01Field : Sums := ⟨tblS [(160, run_s_l01In)], tblM [], false⟩
theorem SO_s_l01Field : SumsOK prog S_s_l01Field := ⟨tblS_ok ⟨⟨call160, sound_s_l01In⟩, ⟨⟩⟩, tM⟩
def T_s_l01Field_0 (p d : Int) : Tab := ⟨[.val (.int .i64 p), .junk, .val (.bool false), .val (.int .i64 d), .val (.int .i64 p), .val (.bool (s_l01In p 3 31)), .val (.bool (!(s_l01In p 3 31))), .junk, .junk, .junk, .junk, .junk, .junk, .junk, .junk, .junk, .junk, .junk], []⟩
def X_s_l01Field_0 (P : Program) (fu : Nat) (p : Int) (f : Nat) (d : Int) : Option (Bool) := loopK (exec P S_s_l01Field 18 (fun _ => fu + 100) (Code.sub [1, 1, 0, 1, 0, 0] (bodyF P 154))) f (T_s_l01Field_0 p d) (kBlock 0 (kSeq (fun zs9 => exec P S_s_l01Field 18 (fun _ => fu + 100) (Code.sub [1, 1, 1] (bodyF P 154)) zs9 (finT P 154 dec_b)) (finT P 154 dec_b)))
def B_s_l01Field_0 (p : Int) (rec0 : Int → Option (Bool)) (d : Int) : Option (Bool) :=
 (if (decide ((wI (d * d)) ≤ p)) = true then (if (!(d == 0)) = true then (if ((p.tmod d) == 0) = true then some false else rec0 (wI (d + 1))) else none) else some true)
def L_s_l01Field_0 (fu : Nat) (p : Int) : Nat → Int → Option (Bool)
 | 0, _ => none
 | f + 1, d => B_s_l01Field_0 p (L_s_l01Field_0 fu p f) d
theorem loop_s_l01Field_0 (fu : Nat) (p : Int) : ∀ (f : Nat) (d : Int), X_s_l01Field_0 prog fu p f d = L_s_l01Field_0 fu p f d := by
 intro f
 induction f with
 | zero => intros; rfl
 | succ f ih =>
  intro d
  have h1 : X_s_l01Field_0 prog fu p (f + 1) d = B_s_l01Field_0 p (X_s_l01Field_0 prog fu p f) d := by kernel_rfl
  have h2 : X_s_l01Field_0 prog fu p f = L_s_l01Field_0 fu p f := by funext d; exact ih d
  rw [h1, h2]
  rfl
def G_s_l01Field (p : Int) (lo0 : Int → Option (Bool)) : Option (Bool) :=
 (if (!(s_l01In p 3 31)) = true then some false else lo0 2)
def Fo_s_l01Field (fu : Nat) (p : Int) : Option (Bool) := G_s_l01Field p (L_s_l01Field_0 fu p (fu + 100))
theorem eq_s_l01Field (fu : Nat) (p : Int) : eF fu S_s_l01Field 154 18 dec_b [pI p] = Fo_s_l01Field fu p := by
 have h1 : eF fu S_s_l01Field 154 18 dec_b [pI p] = G_s_l01Field p (X_s_l01Field_0 prog fu p (fu + 100)) := by kernel_rfl
 have c0 : X_s_l01Field_0 prog fu p (fu + 100) = L_s_l01Field_0 fu p (fu + 100) := by funext d; exact loop_s_l01Field_0 fu p (fu + 100) d
 rw [h1, c0]
 rfl
def s_l01Field (p : Int) : Bool := i_IsField p
theorem range29 {p : Int} (h3 : 3 ≤ p) (h31 : p ≤ 31) : p = 3 ∨ p = 4 ∨ p = 5 ∨ p = 6 ∨ p = 7 ∨ p = 8 ∨ p = 9 ∨ p = 10 ∨ p = 11 ∨ p = 12 ∨ p = 13 ∨ p = 14 ∨ p = 15 ∨ p = 16 ∨ p = 17 ∨ p = 18 ∨ p = 19 ∨ p = 20 ∨ p = 21 ∨ p = 22 ∨ p = 23 ∨ p = 24 ∨ p = 25 ∨ p = 26 ∨ p = 27 ∨ p = 28 ∨ p = 29 ∨ p = 30 ∨ p = 31 := by omega
theorem tot_s_l01Field (p : Int) : Fo_s_l01Field 40 p = some (s_l01Field p) := by
 by_cases hr : 3 ≤ p ∧ p ≤ 31
 ·obtain ⟨h3, h31⟩ := hr
  obtain rfl | rfl | rfl | rfl | rfl | rfl | rfl | rfl | rfl | rfl | rfl | rfl | rfl | rfl | rfl | rfl | rfl | rfl | rfl | rfl | rfl | rfl | rfl | rfl | rfl | rfl | rfl | rfl | rfl := range29 h3 h31
  all_goals kernel_rfl
 ·have hin : s_l01In p 3 31 = false := by simp [s_l01In]; omega
  unfold Fo_s_l01Field G_s_l01Field
  rw [hin]
  show some false = some (i_IsField p)
  congr 1
  symm
  simp [i_IsField]; omega
def run_s_l01Field : RunP
 | [.v (.int .i64 p)] => some (true, enc_b (s_l01Field p))
 | _ => none
theorem sound_s_l01Field : Sound prog 154 run_s_l01Field := by
 refine sound_1 de_b SO_s_l01Field (by kernel_rfl) func154 ntmps154 rfl (by kernel_rfl) fun q r E => ?_
 unfold run_s_l01Field at E
 split at E
 ·obtain ⟨hp, rfl⟩ := so2 E
  rename_i p
  exact ⟨_, _, rfl, (eq_s_l01Field _ p).trans (tot_s_l01Field p)⟩
 ·cases E

theorem sfield_prB0 {p : Int} (h : ¬ (!(s_l01Field p)) = true) : prB p = true := field_prB0 h
def S_s_l01Numbers : Sums := ⟨tblS [(154, run_s_l01Field), (160, run_s_l01In)], tblM [], false⟩
theorem SO_s_l01Numbers : SumsOK prog S_s_l01Numbers := ⟨tblS_ok ⟨⟨call154, sound_s_l01Field⟩, ⟨call160, sound_s_l01In⟩, ⟨⟩⟩, tM⟩
def T_s_l01Numbers_0 (p : Int) (listn : Nat) (listl : List Int) (i : Int) : Tab := ⟨[.val (.int .i64 p), .row 4, .junk, .junk, .val (.int .i64 0), .val (.int .i64 i), .val (.int .i64 p), .val (.bool (s_l01Field p)), .val (.bool (!(s_l01Field p))), .junk, .junk, .junk, .junk, .junk, .junk, .junk, .junk, .junk, .junk, .junk, .junk, .junk, .junk], [(4, .ros listn (.ints listl))]⟩
def X_s_l01Numbers_0 (P : Program) (fu : Nat) (p : Int) (listn : Nat) (listl : List Int) (f : Nat) (i : Int) : Option (Int) := loopK (exec P S_s_l01Numbers 23 (fun _ => fu + 100) (Code.sub [1, 1, 0, 1, 0, 0] (bodyF P 152))) f (T_s_l01Numbers_0 p listn listl i) (kBlock 0 (kSeq (fun zs9 => exec P S_s_l01Numbers 23 (fun _ => fu + 100) (Code.sub [1, 1, 1] (bodyF P 152)) zs9 (finT P 152 dec_i)) (finT P 152 dec_i)))
def B_s_l01Numbers_0 (p : Int) (listn : Nat) (listl : List Int) (rec0 : Int → Option (Int)) (i : Int) : Option (Int) :=
 (if (decide (i < ((listn : Nat) : Int))) = true then (if (decide (0 ≤ i) && decide (i < ((listn : Nat) : Int))) = true then (if (Nat.ble (i.toNat * 1 + 1) listl.length) = true then (if (!(s_l01In (listl.getD (i.toNat * 1) 0) 0 (wI (p - 1)))) = true then some 2 else rec0 (wI (i + 1))) else none) else none) else some 0)
def L_s_l01Numbers_0 (fu : Nat) (p : Int) (listn : Nat) (listl : List Int) : Nat → Int → Option (Int)
 | 0, _ => none
 | f + 1, i => B_s_l01Numbers_0 p listn listl (L_s_l01Numbers_0 fu p listn listl f) i
theorem loop_s_l01Numbers_0 (fu : Nat) (p : Int) (listn : Nat) (listl : List Int) : ∀ (f : Nat) (i : Int), X_s_l01Numbers_0 prog fu p listn listl f i = L_s_l01Numbers_0 fu p listn listl f i := by
 intro f
 induction f with
 | zero => intros; rfl
 | succ f ih =>
  intro i
  have h1 : X_s_l01Numbers_0 prog fu p listn listl (f + 1) i = B_s_l01Numbers_0 p listn listl (X_s_l01Numbers_0 prog fu p listn listl f) i := by kernel_rfl
  have h2 : X_s_l01Numbers_0 prog fu p listn listl f = L_s_l01Numbers_0 fu p listn listl f := by funext i; exact ih i
  rw [h1, h2]
  rfl
def G_s_l01Numbers (p : Int) (listn : Nat) (listl : List Int) (lo0 : Int → Option (Int)) : Option (Int) :=
 (if (!(s_l01Field p)) = true then some 1 else lo0 0)
def Fo_s_l01Numbers (fu : Nat) (p : Int) (listn : Nat) (listl : List Int) : Option (Int) := G_s_l01Numbers p listn listl (L_s_l01Numbers_0 fu p listn listl (fu + 100))
theorem eq_s_l01Numbers (fu : Nat) (p : Int) (listn : Nat) (listl : List Int) : eF fu S_s_l01Numbers 152 23 dec_i [pI p, .s listn (.ints listl)] = Fo_s_l01Numbers fu p listn listl := by
 have h1 : eF fu S_s_l01Numbers 152 23 dec_i [pI p, .s listn (.ints listl)] = G_s_l01Numbers p listn listl (X_s_l01Numbers_0 prog fu p listn listl (fu + 100)) := by kernel_rfl
 have c0 : X_s_l01Numbers_0 prog fu p listn listl (fu + 100) = L_s_l01Numbers_0 fu p listn listl (fu + 100) := by funext i; exact loop_s_l01Numbers_0 fu p listn listl (fu + 100) i
 rw [h1, c0]
 rfl
def s_l01Numbers (p : Int) (l : List Int) : Int := if s_l01Field p = true then (if l.all (fun x => s_l01In x 0 (wrap64 (p - 1))) = true then 0 else 2) else 1
theorem l01Numbers_prB {p : Int} {l : List Int} (h : ¬ (s_l01Numbers p l != 0) = true) : prB p = true := by
 refine Pr_prB (i_IsField_ok ?_)
 have h : s_l01Numbers p l = 0 := by simpa using h
 cases hf : i_IsField p
 ·simp [s_l01Numbers, s_l01Field, hf] at h
 ·rfl
theorem l01Numbers_prB0 {p : Int} {l : List Int} (h : (s_l01Numbers p l == 0) = true) : prB p = true := l01Numbers_prB (by simpa using h)
theorem tot_s_l01Numbers (p : Int) (listn : Nat) (listl : List Int) (hp : (lenB listn 1 listl) = true) : Fo_s_l01Numbers listn p listn listl = some (s_l01Numbers p listl) := by
 obtain ⟨hl, hn⟩ := lenB_ok hp
 have key : ∀ F, listn < F → (L_s_l01Numbers_0 listn p listn listl) F 0 = some (if (List.range listn).all (fun k => (fun x => s_l01In x 0 (wrap64 (p - 1))) (listl.getD (k * 1) 0)) = true then 0 else 2) := by
  intro F hF
  refine scan hF (fun f k hk => ?_) fun f => ?_
  ·show B_s_l01Numbers_0 p listn listl ((L_s_l01Numbers_0 listn p listn listl) f) (k : Int) = _
   unfold B_s_l01Numbers_0
   rw [if_pos (by simpa using hk), if_pos (by simpa using hk), if_pos (leb (by rw [hl, Int.toNat_natCast]; omega)), wrap_add1 hk (by omega)]
   first | rfl | (rw [wI_eq]; rfl)
  ·show B_s_l01Numbers_0 p listn listl ((L_s_l01Numbers_0 listn p listn listl) f) ((listn : Nat) : Int) = _
   unfold B_s_l01Numbers_0
   rw [if_neg (by simp)]
 unfold Fo_s_l01Numbers G_s_l01Numbers
 show _ = some (if s_l01Field p = true then (if (listl).all (fun x => s_l01In x 0 (wrap64 (p - 1))) = true then 0 else 2) else 1)
 cases hf : s_l01Field p
 ·rfl
 ·rw [key _ (by omega), all_rows1 listn listl (by omega)]
  rfl
def run_s_l01Numbers : RunP
 | [.v (.int .i64 p), .s listn (.ints listl)] => some (lenB listn 1 listl, enc_i (s_l01Numbers p listl))
 | _ => none
theorem sound_s_l01Numbers : Sound prog 152 run_s_l01Numbers := by
 refine sound_1 de_i SO_s_l01Numbers (by kernel_rfl) func152 ntmps152 rfl (by kernel_rfl) fun q r E => ?_
 unfold run_s_l01Numbers at E
 split at E
 ·obtain ⟨hp, rfl⟩ := so2 E
  rename_i p listn listl
  exact ⟨_, _, rfl, (eq_s_l01Numbers _ p listn listl).trans (tot_s_l01Numbers p listn listl hp)⟩
 ·cases E

def S_s_l01Point : Sums := ⟨tblS [(160, run_s_l01In)], tblM [], false⟩
theorem SO_s_l01Point : SumsOK prog S_s_l01Point := ⟨tblS_ok ⟨⟨call160, sound_s_l01In⟩, ⟨⟩⟩, tM⟩
def Fo_s_l01Point (p : Int) (a : P2) : Option (Bool) :=
 (if (s_l01In a.1 0 (wI (p - 1))) = true then some (s_l01In a.2 0 (wI (p - 1))) else some false)
theorem eq_s_l01Point (p : Int) (a : P2) : eT S_s_l01Point 159 17 dec_b [pI p, pA a] = Fo_s_l01Point p a := by
 kernel_rfl
def s_l01Point (p : Int) (a : P2) : Bool :=
 (if (s_l01In a.1 0 (wrap64 (p - 1))) = true then (s_l01In a.2 0 (wrap64 (p - 1))) else false)
theorem tot_s_l01Point (p : Int) (a : P2) : Fo_s_l01Point p a = some (s_l01Point p a) := by
 unfold Fo_s_l01Point s_l01Point
 (try simp only [wI_eq])
 repeat' (first | with_reducible rfl | refine ite_opt (fun _ => ?_) (fun _ => ?_) | rfl)
def run_s_l01Point : RunP
 | [.v (.int .i64 p), .v (.agg ⟨[.int .i64 a0, .int .i64 a1]⟩)] => some (true, enc_b (s_l01Point p (a0, a1)))
 | _ => none
theorem sound_s_l01Point : Sound prog 159 run_s_l01Point := by
 refine sound_1 de_b SO_s_l01Point (by kernel_rfl) func159 ntmps159 rfl (by kernel_rfl) fun q r E => ?_
 unfold run_s_l01Point at E
 split at E
 ·obtain ⟨hp, rfl⟩ := so2 E
  rename_i p a0 a1
  exact ⟨_, _, rfl, (eq_s_l01Point p (a0, a1)).trans (tot_s_l01Point p (a0, a1))⟩
 ·cases E

def S_s_l01Code : Sums := ⟨tblS [(154, run_s_l01Field), (159, run_s_l01Point)], tblM [], false⟩
theorem SO_s_l01Code : SumsOK prog S_s_l01Code := ⟨tblS_ok ⟨⟨call154, sound_s_l01Field⟩, ⟨call159, sound_s_l01Point⟩, ⟨⟩⟩, tM⟩
def T_s_l01Code_0 (p : Int) (pointsn : Nat) (pointsl : List Int) (i : Int) : Tab := ⟨[.val (.int .i64 p), .row 4, .junk, .junk, .val (.int .i64 0), .val (.int .i64 i), .val (.int .i64 p), .val (.bool (s_l01Field p)), .val (.bool (!(s_l01Field p))), .junk, .junk, .junk, .junk, .junk, .junk, .junk, .junk, .junk, .junk, .junk, .junk, .junk], [(4, .ros pointsn (.ints pointsl))]⟩
def X_s_l01Code_0 (P : Program) (fu : Nat) (p : Int) (pointsn : Nat) (pointsl : List Int) (f : Nat) (i : Int) : Option (Int) := loopK (exec P S_s_l01Code 22 (fun _ => fu + 100) (Code.sub [1, 1, 0, 1, 0, 0] (bodyF P 97))) f (T_s_l01Code_0 p pointsn pointsl i) (kBlock 0 (kSeq (fun zs9 => exec P S_s_l01Code 22 (fun _ => fu + 100) (Code.sub [1, 1, 1] (bodyF P 97)) zs9 (finT P 97 dec_i)) (finT P 97 dec_i)))
def B_s_l01Code_0 (p : Int) (pointsn : Nat) (pointsl : List Int) (rec0 : Int → Option (Int)) (i : Int) : Option (Int) :=
 (if (decide (i < ((pointsn : Nat) : Int))) = true then (if (decide (0 ≤ i) && decide (i < ((pointsn : Nat) : Int))) = true then (if (Nat.ble (i.toNat * 2 + 2) pointsl.length) = true then (if (!(s_l01Point p (pointsl.getD (i.toNat * 2 + 0) 0, pointsl.getD (i.toNat * 2 + 1) 0))) = true then some 2 else rec0 (wI (i + 1))) else none) else none) else some 0)
def L_s_l01Code_0 (fu : Nat) (p : Int) (pointsn : Nat) (pointsl : List Int) : Nat → Int → Option (Int)
 | 0, _ => none
 | f + 1, i => B_s_l01Code_0 p pointsn pointsl (L_s_l01Code_0 fu p pointsn pointsl f) i
theorem loop_s_l01Code_0 (fu : Nat) (p : Int) (pointsn : Nat) (pointsl : List Int) : ∀ (f : Nat) (i : Int), X_s_l01Code_0 prog fu p pointsn pointsl f i = L_s_l01Code_0 fu p pointsn pointsl f i := by
 intro f
 induction f with
 | zero => intros; rfl
 | succ f ih =>
  intro i
  have h1 : X_s_l01Code_0 prog fu p pointsn pointsl (f + 1) i = B_s_l01Code_0 p pointsn pointsl (X_s_l01Code_0 prog fu p pointsn pointsl f) i := by kernel_rfl
  have h2 : X_s_l01Code_0 prog fu p pointsn pointsl f = L_s_l01Code_0 fu p pointsn pointsl f := by funext i; exact ih i
  rw [h1, h2]
  rfl
def G_s_l01Code (p : Int) (pointsn : Nat) (pointsl : List Int) (lo0 : Int → Option (Int)) : Option (Int) :=
 (if (!(s_l01Field p)) = true then some 1 else lo0 0)
def Fo_s_l01Code (fu : Nat) (p : Int) (pointsn : Nat) (pointsl : List Int) : Option (Int) := G_s_l01Code p pointsn pointsl (L_s_l01Code_0 fu p pointsn pointsl (fu + 100))
theorem eq_s_l01Code (fu : Nat) (p : Int) (pointsn : Nat) (pointsl : List Int) : eF fu S_s_l01Code 97 22 dec_i [pI p, .s pointsn (.ints pointsl)] = Fo_s_l01Code fu p pointsn pointsl := by
 have h1 : eF fu S_s_l01Code 97 22 dec_i [pI p, .s pointsn (.ints pointsl)] = G_s_l01Code p pointsn pointsl (X_s_l01Code_0 prog fu p pointsn pointsl (fu + 100)) := by kernel_rfl
 have c0 : X_s_l01Code_0 prog fu p pointsn pointsl (fu + 100) = L_s_l01Code_0 fu p pointsn pointsl (fu + 100) := by funext i; exact loop_s_l01Code_0 fu p pointsn pointsl (fu + 100) i
 rw [h1, c0]
 rfl
def s_l01Code (p : Int) (l : List P2) : Int := if s_l01Field p = true then (if l.all (fun x => s_l01Point p x) = true then 0 else 2) else 1
theorem l01Code_prB {p : Int} {l : List P2} (h : ¬ (s_l01Code p l != 0) = true) : prB p = true := by
 refine Pr_prB (i_IsField_ok ?_)
 have h : s_l01Code p l = 0 := by simpa using h
 cases hf : i_IsField p
 ·simp [s_l01Code, s_l01Field, hf] at h
 ·rfl
theorem l01Code_prB0 {p : Int} {l : List P2} (h : (s_l01Code p l == 0) = true) : prB p = true := l01Code_prB (by simpa using h)
theorem tot_s_l01Code (p : Int) (pointsn : Nat) (pointsl : List Int) (hp : (lenB pointsn 2 pointsl) = true) : Fo_s_l01Code pointsn p pointsn pointsl = some (s_l01Code p (rows2 pointsn pointsl)) := by
 obtain ⟨hl, hn⟩ := lenB_ok hp
 have key : ∀ F, pointsn < F → (L_s_l01Code_0 pointsn p pointsn pointsl) F 0 = some (if (List.range pointsn).all (fun k => (fun x => s_l01Point p x) (pointsl.getD (k * 2) 0, pointsl.getD (k * 2 + 1) 0)) = true then 0 else 2) := by
  intro F hF
  refine scan hF (fun f k hk => ?_) fun f => ?_
  ·show B_s_l01Code_0 p pointsn pointsl ((L_s_l01Code_0 pointsn p pointsn pointsl) f) (k : Int) = _
   unfold B_s_l01Code_0
   rw [if_pos (by simpa using hk), if_pos (by simpa using hk), if_pos (leb (by rw [hl, Int.toNat_natCast]; omega)), wrap_add1 hk (by omega)]
   first | rfl | (rw [wI_eq]; rfl)
  ·show B_s_l01Code_0 p pointsn pointsl ((L_s_l01Code_0 pointsn p pointsn pointsl) f) ((pointsn : Nat) : Int) = _
   unfold B_s_l01Code_0
   rw [if_neg (by simp)]
 unfold Fo_s_l01Code G_s_l01Code
 show _ = some (if s_l01Field p = true then (if ((rows2 pointsn pointsl)).all (fun x => s_l01Point p x) = true then 0 else 2) else 1)
 cases hf : s_l01Field p
 ·rfl
 ·rw [key _ (by omega), all_rows2 pointsn pointsl]
  rfl
def run_s_l01Code : RunP
 | [.v (.int .i64 p), .s pointsn (.ints pointsl)] => some (lenB pointsn 2 pointsl, enc_i (s_l01Code p (rows2 pointsn pointsl)))
 | _ => none
theorem sound_s_l01Code : Sound prog 97 run_s_l01Code := by
 refine sound_1 de_i SO_s_l01Code (by kernel_rfl) func97 ntmps97 rfl (by kernel_rfl) fun q r E => ?_
 unfold run_s_l01Code at E
 split at E
 ·obtain ⟨hp, rfl⟩ := so2 E
  rename_i p pointsn pointsl
  exact ⟨_, _, rfl, (eq_s_l01Code _ p pointsn pointsl).trans (tot_s_l01Code p pointsn pointsl hp)⟩
 ·cases E

def S_s_l01Line : Sums := ⟨tblS [(160, run_s_l01In)], tblM [], false⟩
theorem SO_s_l01Line : SumsOK prog S_s_l01Line := ⟨tblS_ok ⟨⟨call160, sound_s_l01In⟩, ⟨⟩⟩, tM⟩
def Fo_s_l01Line (p : Int) (l : P3) : Option (Bool) :=
 (if (s_l01In l.1 0 (wI (p - 1))) = true then (if (s_l01In l.2.1 0 (wI (p - 1))) = true then (if (s_l01In l.2.2 0 (wI (p - 1))) = true then (if (l.1 == 1) = true then some true else (if (l.1 == 0) = true then some (l.2.1 == 1) else some false)) else some false) else some false) else some false)
theorem eq_s_l01Line (p : Int) (l : P3) : eT S_s_l01Line 252 39 dec_b [pI p, pB l] = Fo_s_l01Line p l := by
 kernel_rfl
def s_l01Line (p : Int) (l : P3) : Bool :=
 (if (s_l01In l.1 0 (wrap64 (p - 1))) = true then (if (s_l01In l.2.1 0 (wrap64 (p - 1))) = true then (if (s_l01In l.2.2 0 (wrap64 (p - 1))) = true then (if (l.1 == 1) = true then true else (if (l.1 == 0) = true then l.2.1 == 1 else false)) else false) else false) else false)
theorem tot_s_l01Line (p : Int) (l : P3) : Fo_s_l01Line p l = some (s_l01Line p l) := by
 unfold Fo_s_l01Line s_l01Line
 (try simp only [wI_eq])
 repeat' (first | with_reducible rfl | refine ite_opt (fun _ => ?_) (fun _ => ?_) | rfl)
def run_s_l01Line : RunP
 | [.v (.int .i64 p), .v (.agg ⟨[.int .i64 l0, .int .i64 l1, .int .i64 l2]⟩)] => some (true, enc_b (s_l01Line p (l0, l1, l2)))
 | _ => none
theorem sound_s_l01Line : Sound prog 252 run_s_l01Line := by
 refine sound_1 de_b SO_s_l01Line (by kernel_rfl) func252 ntmps252 rfl (by kernel_rfl) fun q r E => ?_
 unfold run_s_l01Line at E
 split at E
 ·obtain ⟨hp, rfl⟩ := so2 E
  rename_i p l0 l1 l2
  exact ⟨_, _, rfl, (eq_s_l01Line p (l0, l1, l2)).trans (tot_s_l01Line p (l0, l1, l2))⟩
 ·cases E

def S_s_l01Lines : Sums := ⟨tblS [(154, run_s_l01Field), (252, run_s_l01Line)], tblM [], false⟩
theorem SO_s_l01Lines : SumsOK prog S_s_l01Lines := ⟨tblS_ok ⟨⟨call154, sound_s_l01Field⟩, ⟨call252, sound_s_l01Line⟩, ⟨⟩⟩, tM⟩
def T_s_l01Lines_0 (p : Int) (linesn : Nat) (linesl : List Int) (i : Int) : Tab := ⟨[.val (.int .i64 p), .row 4, .junk, .junk, .val (.int .i64 0), .val (.int .i64 i), .val (.int .i64 p), .val (.bool (s_l01Field p)), .val (.bool (!(s_l01Field p))), .junk, .junk, .junk, .junk, .junk, .junk, .junk, .junk, .junk, .junk, .junk, .junk, .junk], [(4, .ros linesn (.ints linesl))]⟩
def X_s_l01Lines_0 (P : Program) (fu : Nat) (p : Int) (linesn : Nat) (linesl : List Int) (f : Nat) (i : Int) : Option (Int) := loopK (exec P S_s_l01Lines 22 (fun _ => fu + 100) (Code.sub [1, 1, 0, 1, 0, 0] (bodyF P 223))) f (T_s_l01Lines_0 p linesn linesl i) (kBlock 0 (kSeq (fun zs9 => exec P S_s_l01Lines 22 (fun _ => fu + 100) (Code.sub [1, 1, 1] (bodyF P 223)) zs9 (finT P 223 dec_i)) (finT P 223 dec_i)))
def B_s_l01Lines_0 (p : Int) (linesn : Nat) (linesl : List Int) (rec0 : Int → Option (Int)) (i : Int) : Option (Int) :=
 (if (decide (i < ((linesn : Nat) : Int))) = true then (if (decide (0 ≤ i) && decide (i < ((linesn : Nat) : Int))) = true then (if (Nat.ble (i.toNat * 3 + 3) linesl.length) = true then (if (!(s_l01Line p (linesl.getD (i.toNat * 3 + 0) 0, linesl.getD (i.toNat * 3 + 1) 0, linesl.getD (i.toNat * 3 + 2) 0))) = true then some 2 else rec0 (wI (i + 1))) else none) else none) else some 0)
def L_s_l01Lines_0 (fu : Nat) (p : Int) (linesn : Nat) (linesl : List Int) : Nat → Int → Option (Int)
 | 0, _ => none
 | f + 1, i => B_s_l01Lines_0 p linesn linesl (L_s_l01Lines_0 fu p linesn linesl f) i
theorem loop_s_l01Lines_0 (fu : Nat) (p : Int) (linesn : Nat) (linesl : List Int) : ∀ (f : Nat) (i : Int), X_s_l01Lines_0 prog fu p linesn linesl f i = L_s_l01Lines_0 fu p linesn linesl f i := by
 intro f
 induction f with
 | zero => intros; rfl
 | succ f ih =>
  intro i
  have h1 : X_s_l01Lines_0 prog fu p linesn linesl (f + 1) i = B_s_l01Lines_0 p linesn linesl (X_s_l01Lines_0 prog fu p linesn linesl f) i := by kernel_rfl
  have h2 : X_s_l01Lines_0 prog fu p linesn linesl f = L_s_l01Lines_0 fu p linesn linesl f := by funext i; exact ih i
  rw [h1, h2]
  rfl
def G_s_l01Lines (p : Int) (linesn : Nat) (linesl : List Int) (lo0 : Int → Option (Int)) : Option (Int) :=
 (if (!(s_l01Field p)) = true then some 1 else lo0 0)
def Fo_s_l01Lines (fu : Nat) (p : Int) (linesn : Nat) (linesl : List Int) : Option (Int) := G_s_l01Lines p linesn linesl (L_s_l01Lines_0 fu p linesn linesl (fu + 100))
theorem eq_s_l01Lines (fu : Nat) (p : Int) (linesn : Nat) (linesl : List Int) : eF fu S_s_l01Lines 223 22 dec_i [pI p, .s linesn (.ints linesl)] = Fo_s_l01Lines fu p linesn linesl := by
 have h1 : eF fu S_s_l01Lines 223 22 dec_i [pI p, .s linesn (.ints linesl)] = G_s_l01Lines p linesn linesl (X_s_l01Lines_0 prog fu p linesn linesl (fu + 100)) := by kernel_rfl
 have c0 : X_s_l01Lines_0 prog fu p linesn linesl (fu + 100) = L_s_l01Lines_0 fu p linesn linesl (fu + 100) := by funext i; exact loop_s_l01Lines_0 fu p linesn linesl (fu + 100) i
 rw [h1, c0]
 rfl
def s_l01Lines (p : Int) (l : List P3) : Int := if s_l01Field p = true then (if l.all (fun x => s_l01Line p x) = true then 0 else 2) else 1
theorem tot_s_l01Lines (p : Int) (linesn : Nat) (linesl : List Int) (hp : (lenB linesn 3 linesl) = true) : Fo_s_l01Lines linesn p linesn linesl = some (s_l01Lines p (rows3 linesn linesl)) := by
 obtain ⟨hl, hn⟩ := lenB_ok hp
 have key : ∀ F, linesn < F → (L_s_l01Lines_0 linesn p linesn linesl) F 0 = some (if (List.range linesn).all (fun k => (fun x => s_l01Line p x) (linesl.getD (k * 3) 0, linesl.getD (k * 3 + 1) 0, linesl.getD (k * 3 + 2) 0)) = true then 0 else 2) := by
  intro F hF
  refine scan hF (fun f k hk => ?_) fun f => ?_
  ·show B_s_l01Lines_0 p linesn linesl ((L_s_l01Lines_0 linesn p linesn linesl) f) (k : Int) = _
   unfold B_s_l01Lines_0
   rw [if_pos (by simpa using hk), if_pos (by simpa using hk), if_pos (leb (by rw [hl, Int.toNat_natCast]; omega)), wrap_add1 hk (by omega)]
   first | rfl | (rw [wI_eq]; rfl)
  ·show B_s_l01Lines_0 p linesn linesl ((L_s_l01Lines_0 linesn p linesn linesl) f) ((linesn : Nat) : Int) = _
   unfold B_s_l01Lines_0
   rw [if_neg (by simp)]
 unfold Fo_s_l01Lines G_s_l01Lines
 show _ = some (if s_l01Field p = true then (if ((rows3 linesn linesl)).all (fun x => s_l01Line p x) = true then 0 else 2) else 1)
 cases hf : s_l01Field p
 ·rfl
 ·rw [key _ (by omega), all_rows3 linesn linesl]
  rfl
def run_s_l01Lines : RunP
 | [.v (.int .i64 p), .s linesn (.ints linesl)] => some (lenB linesn 3 linesl, enc_i (s_l01Lines p (rows3 linesn linesl)))
 | _ => none
theorem sound_s_l01Lines : Sound prog 223 run_s_l01Lines := by
 refine sound_1 de_i SO_s_l01Lines (by kernel_rfl) func223 ntmps223 rfl (by kernel_rfl) fun q r E => ?_
 unfold run_s_l01Lines at E
 split at E
 ·obtain ⟨hp, rfl⟩ := so2 E
  rename_i p linesn linesl
  exact ⟨_, _, rfl, (eq_s_l01Lines _ p linesn linesl).trans (tot_s_l01Lines p linesn linesl hp)⟩
 ·cases E

def S_i_isLine : Sums := ⟨tblS [(158, run_i_areNumbers)], tblM [], false⟩
theorem SO_i_isLine : SumsOK prog S_i_isLine := ⟨tblS_ok ⟨⟨call158, sound_i_areNumbers⟩, ⟨⟩⟩, tM⟩
def Fo_i_isLine (p : Int) (l : P3) : Option (Bool) :=
 (if (!(i_areNumbers p [l.1, l.2.1, l.2.2])) = true then some false else (if (l.1 == 1) = true then some true else (if (l.1 == 0) = true then some (l.2.1 == 1) else some false)))
theorem eq_i_isLine (p : Int) (l : P3) : eT S_i_isLine 112 22 dec_b [pI p, pB l] = Fo_i_isLine p l := by
 kernel_rfl
def i_isLine (p : Int) (l : P3) : Bool :=
 (if (!(i_areNumbers p [l.1, l.2.1, l.2.2])) = true then false else (if (l.1 == 1) = true then true else (if (l.1 == 0) = true then l.2.1 == 1 else false)))
theorem tot_i_isLine (p : Int) (l : P3) : Fo_i_isLine p l = some (i_isLine p l) := by
 unfold Fo_i_isLine i_isLine
 (try simp only [wI_eq])
 repeat' (first | with_reducible rfl | refine ite_opt (fun _ => ?_) (fun _ => ?_) | rfl)
def run_i_isLine : RunP
 | [.v (.int .i64 p), .v (.agg ⟨[.int .i64 l0, .int .i64 l1, .int .i64 l2]⟩)] => some (true, enc_b (i_isLine p (l0, l1, l2)))
 | _ => none
theorem sound_i_isLine : Sound prog 112 run_i_isLine := by
 refine sound_1 de_b SO_i_isLine (by kernel_rfl) func112 ntmps112 rfl (by kernel_rfl) fun q r E => ?_
 unfold run_i_isLine at E
 split at E
 ·obtain ⟨hp, rfl⟩ := so2 E
  rename_i p l0 l1 l2
  exact ⟨_, _, rfl, (eq_i_isLine p (l0, l1, l2)).trans (tot_i_isLine p (l0, l1, l2))⟩
 ·cases E

def S_i_isColour : Sums := ⟨tblS [], tblM [], false⟩
theorem SO_i_isColour : SumsOK prog S_i_isColour := ⟨tblS_ok ⟨⟩, tM⟩
def Fo_i_isColour (colour : Int) : Option (Bool) :=
 (if (decide (colour ≥ 0)) = true then some (decide (colour ≤ 2)) else some false)
theorem eq_i_isColour (colour : Int) : eT S_i_isColour 36 9 dec_b [pI colour] = Fo_i_isColour colour := by
 kernel_rfl
def i_isColour (colour : Int) : Bool :=
 (if (decide (colour ≥ 0)) = true then decide (colour ≤ 2) else false)
theorem tot_i_isColour (colour : Int) : Fo_i_isColour colour = some (i_isColour colour) := by
 unfold Fo_i_isColour i_isColour
 (try simp only [wI_eq])
 repeat' (first | with_reducible rfl | refine ite_opt (fun _ => ?_) (fun _ => ?_) | rfl)
def run_i_isColour : RunP
 | [.v (.int .i64 colour)] => some (true, enc_b (i_isColour colour))
 | _ => none
theorem sound_i_isColour : Sound prog 36 run_i_isColour := by
 refine sound_1 de_b SO_i_isColour (by kernel_rfl) func36 ntmps36 rfl (by kernel_rfl) fun q r E => ?_
 unfold run_i_isColour at E
 split at E
 ·obtain ⟨hp, rfl⟩ := so2 E
  rename_i colour
  exact ⟨_, _, rfl, (eq_i_isColour colour).trans (tot_i_isColour colour)⟩
 ·cases E

def S_i_isPoint : Sums := ⟨tblS [(158, run_i_areNumbers)], tblM [], false⟩
theorem SO_i_isPoint : SumsOK prog S_i_isPoint := ⟨tblS_ok ⟨⟨call158, sound_i_areNumbers⟩, ⟨⟩⟩, tM⟩
def Fo_i_isPoint (p : Int) (a : P2) : Option (Bool) :=
 some (i_areNumbers p [a.1, a.2])
theorem eq_i_isPoint (p : Int) (a : P2) : eT S_i_isPoint 96 8 dec_b [pI p, pA a] = Fo_i_isPoint p a := by
 kernel_rfl
def i_isPoint (p : Int) (a : P2) : Bool :=
 (i_areNumbers p [a.1, a.2])
theorem tot_i_isPoint (p : Int) (a : P2) : Fo_i_isPoint p a = some (i_isPoint p a) := by
 unfold Fo_i_isPoint i_isPoint
 (try simp only [wI_eq])
 repeat' (first | with_reducible rfl | refine ite_opt (fun _ => ?_) (fun _ => ?_) | rfl)
def run_i_isPoint : RunP
 | [.v (.int .i64 p), .v (.agg ⟨[.int .i64 a0, .int .i64 a1]⟩)] => some (true, enc_b (i_isPoint p (a0, a1)))
 | _ => none
theorem sound_i_isPoint : Sound prog 96 run_i_isPoint := by
 refine sound_1 de_b SO_i_isPoint (by kernel_rfl) func96 ntmps96 rfl (by kernel_rfl) fun q r E => ?_
 unfold run_i_isPoint at E
 split at E
 ·obtain ⟨hp, rfl⟩ := so2 E
  rename_i p a0 a1
  exact ⟨_, _, rfl, (eq_i_isPoint p (a0, a1)).trans (tot_i_isPoint p (a0, a1))⟩
 ·cases E

def S_i_arePoints : Sums := ⟨tblS [(96, run_i_isPoint)], tblM [], false⟩
theorem SO_i_arePoints : SumsOK prog S_i_arePoints := ⟨tblS_ok ⟨⟨call96, sound_i_isPoint⟩, ⟨⟩⟩, tM⟩
def T_i_arePoints_0 (p : Int) (listn : Nat) (listl : List Int) (t9 : Int) : Tab := ⟨[.val (.int .i64 p), .row 4, .junk, .junk, .val (.bool false), .junk, .junk, .row 4, .val (.int .i64 ((listn : Nat) : Int)), .val (.int .i64 t9), .junk, .junk, .junk, .junk, .junk, .junk, .junk, .junk], [(4, .ros listn (.ints listl))]⟩
def X_i_arePoints_0 (P : Program) (fu : Nat) (p : Int) (listn : Nat) (listl : List Int) (f : Nat) (t9 : Int) : Option (Bool) := loopK (exec P S_i_arePoints 18 (fun _ => fu + 100) (Code.sub [1, 0, 1, 0, 0] (bodyF P 37))) f (T_i_arePoints_0 p listn listl t9) (kBlock 0 (kSeq (fun zs9 => exec P S_i_arePoints 18 (fun _ => fu + 100) (Code.sub [1, 1] (bodyF P 37)) zs9 (finT P 37 dec_b)) (finT P 37 dec_b)))
def B_i_arePoints_0 (p : Int) (listn : Nat) (listl : List Int) (rec0 : Int → Option (Bool)) (t9 : Int) : Option (Bool) :=
 (if (decide (t9 < ((listn : Nat) : Int))) = true then (if (decide (0 ≤ t9) && decide (t9 < ((listn : Nat) : Int))) = true then (if (Nat.ble (t9.toNat * 2 + 2) listl.length) = true then (if (!(i_isPoint p (listl.getD (t9.toNat * 2 + 0) 0, listl.getD (t9.toNat * 2 + 1) 0))) = true then some false else rec0 (wI (t9 + 1))) else none) else none) else some true)
def L_i_arePoints_0 (fu : Nat) (p : Int) (listn : Nat) (listl : List Int) : Nat → Int → Option (Bool)
 | 0, _ => none
 | f + 1, t9 => B_i_arePoints_0 p listn listl (L_i_arePoints_0 fu p listn listl f) t9
theorem loop_i_arePoints_0 (fu : Nat) (p : Int) (listn : Nat) (listl : List Int) : ∀ (f : Nat) (t9 : Int), X_i_arePoints_0 prog fu p listn listl f t9 = L_i_arePoints_0 fu p listn listl f t9 := by
 intro f
 induction f with
 | zero => intros; rfl
 | succ f ih =>
  intro t9
  have h1 : X_i_arePoints_0 prog fu p listn listl (f + 1) t9 = B_i_arePoints_0 p listn listl (X_i_arePoints_0 prog fu p listn listl f) t9 := by kernel_rfl
  have h2 : X_i_arePoints_0 prog fu p listn listl f = L_i_arePoints_0 fu p listn listl f := by funext t9; exact ih t9
  rw [h1, h2]
  rfl
def G_i_arePoints (p : Int) (listn : Nat) (listl : List Int) (lo0 : Int → Option (Bool)) : Option (Bool) :=
 lo0 0
def Fo_i_arePoints (fu : Nat) (p : Int) (listn : Nat) (listl : List Int) : Option (Bool) := G_i_arePoints p listn listl (L_i_arePoints_0 fu p listn listl (fu + 100))
theorem eq_i_arePoints (fu : Nat) (p : Int) (listn : Nat) (listl : List Int) : eF fu S_i_arePoints 37 18 dec_b [pI p, .s listn (.ints listl)] = Fo_i_arePoints fu p listn listl := by
 have h1 : eF fu S_i_arePoints 37 18 dec_b [pI p, .s listn (.ints listl)] = G_i_arePoints p listn listl (X_i_arePoints_0 prog fu p listn listl (fu + 100)) := by kernel_rfl
 have c0 : X_i_arePoints_0 prog fu p listn listl (fu + 100) = L_i_arePoints_0 fu p listn listl (fu + 100) := by funext t9; exact loop_i_arePoints_0 fu p listn listl (fu + 100) t9
 rw [h1, c0]
 rfl
def i_arePoints (p : Int) (l : List P2) : Bool := l.all (fun x => i_isPoint p x)
theorem tot_i_arePoints (p : Int) (listn : Nat) (listl : List Int) (hp : (lenB listn 2 listl) = true) : Fo_i_arePoints listn p listn listl = some (i_arePoints p (rows2 listn listl)) := by
 obtain ⟨hl, hn⟩ := lenB_ok hp
 have key : ∀ F, listn < F → (L_i_arePoints_0 listn p listn listl) F 0 = some (if (List.range listn).all (fun k => (fun x => i_isPoint p x) (listl.getD (k * 2) 0, listl.getD (k * 2 + 1) 0)) = true then true else false) := by
  intro F hF
  refine scan hF (fun f k hk => ?_) fun f => ?_
  ·show B_i_arePoints_0 p listn listl ((L_i_arePoints_0 listn p listn listl) f) (k : Int) = _
   unfold B_i_arePoints_0
   rw [if_pos (by simpa using hk), if_pos (by simpa using hk), if_pos (leb (by rw [hl, Int.toNat_natCast]; omega)), wrap_add1 hk (by omega)]
   first | rfl | (rw [wI_eq]; rfl)
  ·show B_i_arePoints_0 p listn listl ((L_i_arePoints_0 listn p listn listl) f) ((listn : Nat) : Int) = _
   unfold B_i_arePoints_0
   rw [if_neg (by simp)]
 unfold Fo_i_arePoints G_i_arePoints
 rw [key _ (by omega)]
 show _ = some (((rows2 listn listl)).all (fun x => i_isPoint p x))
 rw [all_rows2 listn listl]
 cases (List.range listn).all (fun k => (fun x => i_isPoint p x) (listl.getD (k * 2) 0, listl.getD (k * 2 + 1) 0)) <;> rfl
def run_i_arePoints : RunP
 | [.v (.int .i64 p), .s listn (.ints listl)] => some (lenB listn 2 listl, enc_b (i_arePoints p (rows2 listn listl)))
 | _ => none
theorem sound_i_arePoints : Sound prog 37 run_i_arePoints := by
 refine sound_1 de_b SO_i_arePoints (by kernel_rfl) func37 ntmps37 rfl (by kernel_rfl) fun q r E => ?_
 unfold run_i_arePoints at E
 split at E
 ·obtain ⟨hp, rfl⟩ := so2 E
  rename_i p listn listl
  exact ⟨_, _, rfl, (eq_i_arePoints _ p listn listl).trans (tot_i_arePoints p listn listl hp)⟩
 ·cases E

def S_i_rest : Sums := ⟨tblS [], tblM [], false⟩
theorem SO_i_rest : SumsOK prog S_i_rest := ⟨tblS_ok ⟨⟩, tM⟩
def Fo_i_rest (p x : Int) : Option (Int) :=
 (if (!(p == 0)) = true then (if (!(p == 0)) = true then some ((wI ((x.tmod p) + p)).tmod p) else none) else none)
theorem eq_i_rest (p x : Int) : eT S_i_rest 173 12 dec_i [pI p, pI x] = Fo_i_rest p x := by
 kernel_rfl
def i_rest (p x : Int) : Int := x % p
theorem tot_i_rest (p x : Int) (hp : (prB p) = true) : Fo_i_rest p x = some (i_rest p x) := by
 have h0 := prB_ne hp
 unfold Fo_i_rest i_rest
 simp only [h0, if_true, wI_eq]
 rw [rest_raw hp]
def run_i_rest : RunP
 | [.v (.int .i64 p), .v (.int .i64 x)] => some (prB p, enc_i (i_rest p x))
 | _ => none
theorem sound_i_rest : Sound prog 173 run_i_rest := by
 refine sound_1 de_i SO_i_rest (by kernel_rfl) func173 ntmps173 rfl (by kernel_rfl) fun q r E => ?_
 unfold run_i_rest at E
 split at E
 ·obtain ⟨hp, rfl⟩ := so2 E
  rename_i p x
  exact ⟨_, _, rfl, (eq_i_rest p x).trans (tot_i_rest p x hp)⟩
 ·cases E

def S_i_inverse : Sums := ⟨tblS [], tblM [], false⟩
theorem SO_i_inverse : SumsOK prog S_i_inverse := ⟨tblS_ok ⟨⟩, tM⟩
def T_i_inverse_0 (p a x : Int) : Tab := ⟨[.val (.int .i64 p), .val (.int .i64 a), .junk, .junk, .val (.int .i64 0), .val (.int .i64 x), .junk, .junk, .junk, .junk, .junk, .junk, .junk, .junk, .junk, .junk, .junk, .junk], []⟩
def X_i_inverse_0 (P : Program) (fu : Nat) (p a : Int) (f : Nat) (x : Int) : Option (Int) := loopK (exec P S_i_inverse 18 (fun _ => fu + 100) (Code.sub [1, 0, 1, 0, 0] (bodyF P 166))) f (T_i_inverse_0 p a x) (kBlock 0 (kSeq (fun zs9 => exec P S_i_inverse 18 (fun _ => fu + 100) (Code.sub [1, 1] (bodyF P 166)) zs9 (finT P 166 dec_i)) (finT P 166 dec_i)))
def B_i_inverse_0 (p a : Int) (rec0 : Int → Option (Int)) (x : Int) : Option (Int) :=
 (if (decide (x < p)) = true then (if (!(p == 0)) = true then (if (((wI (a * x)).tmod p) == 1) = true then some x else rec0 (wI (x + 1))) else none) else some 0)
def L_i_inverse_0 (fu : Nat) (p a : Int) : Nat → Int → Option (Int)
 | 0, _ => none
 | f + 1, x => B_i_inverse_0 p a (L_i_inverse_0 fu p a f) x
theorem loop_i_inverse_0 (fu : Nat) (p a : Int) : ∀ (f : Nat) (x : Int), X_i_inverse_0 prog fu p a f x = L_i_inverse_0 fu p a f x := by
 intro f
 induction f with
 | zero => intros; rfl
 | succ f ih =>
  intro x
  have h1 : X_i_inverse_0 prog fu p a (f + 1) x = B_i_inverse_0 p a (X_i_inverse_0 prog fu p a f) x := by kernel_rfl
  have h2 : X_i_inverse_0 prog fu p a f = L_i_inverse_0 fu p a f := by funext x; exact ih x
  rw [h1, h2]
  rfl
def G_i_inverse (p a : Int) (lo0 : Int → Option (Int)) : Option (Int) :=
 lo0 1
def Fo_i_inverse (fu : Nat) (p a : Int) : Option (Int) := G_i_inverse p a (L_i_inverse_0 fu p a (fu + 100))
theorem eq_i_inverse (fu : Nat) (p a : Int) : eF fu S_i_inverse 166 18 dec_i [pI p, pI a] = Fo_i_inverse fu p a := by
 have h1 : eF fu S_i_inverse 166 18 dec_i [pI p, pI a] = G_i_inverse p a (X_i_inverse_0 prog fu p a (fu + 100)) := by kernel_rfl
 have c0 : X_i_inverse_0 prog fu p a (fu + 100) = L_i_inverse_0 fu p a (fu + 100) := by funext x; exact loop_i_inverse_0 fu p a (fu + 100) x
 rw [h1, c0]
 rfl
def invLoop (p a : Int) : Nat → Int → Int
 | 0, _ => 0
 | k + 1, x => if ((wrap64 (a * x)).tmod p == 1) = true then x else invLoop p a k (x + 1)
def i_inverse (p a : Int) : Int := invLoop p a (p - 1).toNat 1
theorem inv_walk (fu : Nat) (p a : Int) (hp : prB p = true) : ∀ (k f : Nat) (j : Int), 1 ≤ j → j ≤ p → (p - j).toNat = k → k < f → L_i_inverse_0 fu p a f j = some (invLoop p a k j)
 | k, 0, j, _, _, _, h => absurd h (Nat.not_lt_zero k)
 | 0, f + 1, j, h1, h2, hk, _ => by
  show B_i_inverse_0 p a _ j = _
  unfold B_i_inverse_0
  rw [if_neg (by simp; omega)]; rfl
 | k + 1, f + 1, j, h1, h2, hk, hf => by
  show B_i_inverse_0 p a (L_i_inverse_0 fu p a f) j = _
  unfold B_i_inverse_0
  rw [if_pos (by simp; omega), if_pos (prB_ne hp), wI_eq, wI_eq]
  show _ = some (if ((wrap64 (a * j)).tmod p == 1) = true then j else invLoop p a k (j + 1))
  refine ite_opt (fun _ => rfl) fun _ => ?_
  have h31 := (prB_Pr hp).2
  rw [show wrap64 (j + 1) = j + 1 from by unfold wrap64; omega]
  exact inv_walk fu p a hp k f (j + 1) (by omega) (by omega) (by omega) (by omega)
theorem tot_i_inverse (p a : Int) (hp : (prB p) = true) : Fo_i_inverse 40 p a = some (i_inverse p a) := by
 obtain ⟨h1, h2⟩ := prB_Pr hp
 exact inv_walk 40 p a hp _ _ 1 (by omega) (by omega) rfl (by omega)
def run_i_inverse : RunP
 | [.v (.int .i64 p), .v (.int .i64 a)] => some (prB p, enc_i (i_inverse p a))
 | _ => none
theorem sound_i_inverse : Sound prog 166 run_i_inverse := by
 refine sound_1 de_i SO_i_inverse (by kernel_rfl) func166 ntmps166 rfl (by kernel_rfl) fun q r E => ?_
 unfold run_i_inverse at E
 split at E
 ·obtain ⟨hp, rfl⟩ := so2 E
  rename_i p a
  exact ⟨_, _, rfl, (eq_i_inverse _ p a).trans (tot_i_inverse p a hp)⟩
 ·cases E

def S_i_divide : Sums := ⟨tblS [(166, run_i_inverse), (173, run_i_rest)], tblM [], false⟩
theorem SO_i_divide : SumsOK prog S_i_divide := ⟨tblS_ok ⟨⟨call166, sound_i_inverse⟩, ⟨call173, sound_i_rest⟩, ⟨⟩⟩, tM⟩
def Fo_i_divide (p a b : Int) : Option (Int) :=
 (if (prB p) = true then (if (prB p) = true then some (i_rest p (wI (a * (i_inverse p b)))) else none) else none)
theorem eq_i_divide (p a b : Int) : eT S_i_divide 137 14 dec_i [pI p, pI a, pI b] = Fo_i_divide p a b := by
 kernel_rfl
def i_divide (p a b : Int) : Int :=
 (i_rest p (wrap64 (a * (i_inverse p b))))
theorem tot_i_divide (p a b : Int) (hp : (prB p) = true) : Fo_i_divide p a b = some (i_divide p a b) := by
 try have h0 := prB_ne hp
 unfold Fo_i_divide i_divide
 (try simp only [wI_eq])
 repeat' (first | with_reducible rfl | with_reducible refine chk_opt hp ?_ | with_reducible refine chk_opt h0 ?_ | refine chk_opt (and_all hp fun _ => hp) ?_ | refine chk_opt (and_all hp fun _ => rfl) ?_ | refine ite_opt (fun _ => ?_) (fun _ => ?_) | rfl)
def run_i_divide : RunP
 | [.v (.int .i64 p), .v (.int .i64 a), .v (.int .i64 b)] => some (prB p, enc_i (i_divide p a b))
 | _ => none
theorem sound_i_divide : Sound prog 137 run_i_divide := by
 refine sound_1 de_i SO_i_divide (by kernel_rfl) func137 ntmps137 rfl (by kernel_rfl) fun q r E => ?_
 unfold run_i_divide at E
 split at E
 ·obtain ⟨hp, rfl⟩ := so2 E
  rename_i p a b
  exact ⟨_, _, rfl, (eq_i_divide p a b).trans (tot_i_divide p a b hp)⟩
 ·cases E

def S_i_makeLine : Sums := ⟨tblS [(173, run_i_rest), (137, run_i_divide)], tblM [], false⟩
theorem SO_i_makeLine : SumsOK prog S_i_makeLine := ⟨tblS_ok ⟨⟨call173, sound_i_rest⟩, ⟨call137, sound_i_divide⟩, ⟨⟩⟩, tM⟩
def Fo_i_makeLine (p a : Int) (b c : Int) : Option (Int × Int × Int) :=
 (if (prB p) = true then (if (prB p) = true then (if (prB p) = true then (if ((i_rest p a) == 0) = true then (if (prB p) = true then (if (prB p) = true then (if (prB p) = true then some ((i_divide p (i_rest p a) (i_rest p b)), (i_divide p (i_rest p b) (i_rest p b)), (i_divide p (i_rest p c) (i_rest p b))) else none) else none) else none) else (if (prB p) = true then (if (prB p) = true then (if (prB p) = true then some ((i_divide p (i_rest p a) (i_rest p a)), (i_divide p (i_rest p b) (i_rest p a)), (i_divide p (i_rest p c) (i_rest p a))) else none) else none) else none)) else none) else none) else none)
theorem eq_i_makeLine (p a : Int) (b c : Int) : eT S_i_makeLine 215 36 dec_a3 [pI p, pI a, pI b, pI c] = Fo_i_makeLine p a b c := by
 kernel_rfl
def i_makeLine (p a : Int) (b c : Int) : Int × Int × Int :=
 (if ((i_rest p a) == 0) = true then ((i_divide p (i_rest p a) (i_rest p b)), (i_divide p (i_rest p b) (i_rest p b)), (i_divide p (i_rest p c) (i_rest p b))) else ((i_divide p (i_rest p a) (i_rest p a)), (i_divide p (i_rest p b) (i_rest p a)), (i_divide p (i_rest p c) (i_rest p a))))
theorem tot_i_makeLine (p a : Int) (b c : Int) (hp : (prB p) = true) : Fo_i_makeLine p a b c = some (i_makeLine p a b c) := by
 try have h0 := prB_ne hp
 unfold Fo_i_makeLine i_makeLine
 (try simp only [wI_eq])
 repeat' (first | with_reducible rfl | with_reducible refine chk_opt hp ?_ | with_reducible refine chk_opt h0 ?_ | refine chk_opt (and_all hp fun _ => hp) ?_ | refine chk_opt (and_all hp fun _ => rfl) ?_ | refine ite_opt (fun _ => ?_) (fun _ => ?_) | rfl)
def run_i_makeLine : RunP
 | [.v (.int .i64 p), .v (.int .i64 a), .v (.int .i64 b), .v (.int .i64 c)] => some (prB p, enc_a3 (i_makeLine p a b c))
 | _ => none
theorem sound_i_makeLine : Sound prog 215 run_i_makeLine := by
 refine sound_1 de_a3 SO_i_makeLine (by kernel_rfl) func215 ntmps215 rfl (by kernel_rfl) fun q r E => ?_
 unfold run_i_makeLine at E
 split at E
 ·obtain ⟨hp, rfl⟩ := so2 E
  rename_i p a b c
  exact ⟨_, _, rfl, (eq_i_makeLine p a b c).trans (tot_i_makeLine p a b c hp)⟩
 ·cases E

def S_s_l01Mod : Sums := ⟨tblS [], tblM [], false⟩
theorem SO_s_l01Mod : SumsOK prog S_s_l01Mod := ⟨tblS_ok ⟨⟩, tM⟩
def Fo_s_l01Mod (x p : Int) : Option (Int) :=
 (if (!(p == 0)) = true then (if (!(p == 0)) = true then some ((wI ((x.tmod p) + p)).tmod p) else none) else none)
theorem eq_s_l01Mod (x p : Int) : eT S_s_l01Mod 242 12 dec_i [pI x, pI p] = Fo_s_l01Mod x p := by
 kernel_rfl
def s_l01Mod (x p : Int) : Int := x % p
theorem tot_s_l01Mod (x p : Int) (hp : (prB p) = true) : Fo_s_l01Mod x p = some (s_l01Mod x p) := by
 have h0 := prB_ne hp
 unfold Fo_s_l01Mod s_l01Mod
 simp only [h0, if_true, wI_eq]
 rw [rest_raw hp]
def run_s_l01Mod : RunP
 | [.v (.int .i64 x), .v (.int .i64 p)] => some (prB p, enc_i (s_l01Mod x p))
 | _ => none
theorem sound_s_l01Mod : Sound prog 242 run_s_l01Mod := by
 refine sound_1 de_i SO_s_l01Mod (by kernel_rfl) func242 ntmps242 rfl (by kernel_rfl) fun q r E => ?_
 unfold run_s_l01Mod at E
 split at E
 ·obtain ⟨hp, rfl⟩ := so2 E
  rename_i x p
  exact ⟨_, _, rfl, (eq_s_l01Mod x p).trans (tot_s_l01Mod x p hp)⟩
 ·cases E

def S_s_l01Inverse : Sums := ⟨tblS [(242, run_s_l01Mod)], tblM [], false⟩
theorem SO_s_l01Inverse : SumsOK prog S_s_l01Inverse := ⟨tblS_ok ⟨⟨call242, sound_s_l01Mod⟩, ⟨⟩⟩, tM⟩
def T_s_l01Inverse_0 (a p : Int) (out base k : Int) : Tab := ⟨[.val (.int .i64 a), .val (.int .i64 p), .junk, .junk, .val (.int .i64 0), .val (.int .i64 out), .val (.int .i64 base), .val (.int .i64 k), .val (.int .i64 a), .val (.int .i64 p), .val (.int .i64 (s_l01Mod a p)), .val (.int .i64 p), .val (.int .i64 (wI (p - 2))), .junk, .junk, .junk, .junk, .junk, .junk, .junk, .junk, .junk, .junk, .junk, .junk, .junk, .junk, .junk, .junk, .junk, .junk], []⟩
def X_s_l01Inverse_0 (P : Program) (fu : Nat) (a p : Int) (f : Nat) (out base k : Int) : Option (Int) := loopK (exec P S_s_l01Inverse 31 (fun _ => fu + 100) (Code.sub [1, 1, 0, 1, 0, 0] (bodyF P 233))) f (T_s_l01Inverse_0 a p out base k) (kBlock 0 (kSeq (fun zs9 => exec P S_s_l01Inverse 31 (fun _ => fu + 100) (Code.sub [1, 1, 1] (bodyF P 233)) zs9 (finT P 233 dec_i)) (finT P 233 dec_i)))
def B_s_l01Inverse_0 (a p : Int) (rec0 : Int → Int → Int → Option (Int)) (out base k : Int) : Option (Int) :=
 (if (decide (k > 0)) = true then (if ((k.tmod 2) == 1) = true then (if (!(p == 0)) = true then (if (!(p == 0)) = true then rec0 ((wI (out * base)).tmod p) ((wI (base * base)).tmod p) (wI (k.tdiv 2)) else none) else none) else (if (!(p == 0)) = true then rec0 out ((wI (base * base)).tmod p) (wI (k.tdiv 2)) else none)) else some out)
def L_s_l01Inverse_0 (fu : Nat) (a p : Int) : Nat → Int → Int → Int → Option (Int)
 | 0, _, _, _ => none
 | f + 1, out, base, k => B_s_l01Inverse_0 a p (L_s_l01Inverse_0 fu a p f) out base k
theorem loop_s_l01Inverse_0 (fu : Nat) (a p : Int) : ∀ (f : Nat) (out base k : Int), X_s_l01Inverse_0 prog fu a p f out base k = L_s_l01Inverse_0 fu a p f out base k := by
 intro f
 induction f with
 | zero => intros; rfl
 | succ f ih =>
  intro out base k
  have h1 : X_s_l01Inverse_0 prog fu a p (f + 1) out base k = B_s_l01Inverse_0 a p (X_s_l01Inverse_0 prog fu a p f) out base k := by kernel_rfl
  have h2 : X_s_l01Inverse_0 prog fu a p f = L_s_l01Inverse_0 fu a p f := by funext out base k; exact ih out base k
  rw [h1, h2]
  rfl
def G_s_l01Inverse (a p : Int) (lo0 : Int → Int → Int → Option (Int)) : Option (Int) :=
 (if (prB p) = true then lo0 1 (s_l01Mod a p) (wI (p - 2)) else none)
def Fo_s_l01Inverse (fu : Nat) (a p : Int) : Option (Int) := G_s_l01Inverse a p (L_s_l01Inverse_0 fu a p (fu + 100))
theorem eq_s_l01Inverse (fu : Nat) (a p : Int) : eF fu S_s_l01Inverse 233 31 dec_i [pI a, pI p] = Fo_s_l01Inverse fu a p := by
 have h1 : eF fu S_s_l01Inverse 233 31 dec_i [pI a, pI p] = G_s_l01Inverse a p (X_s_l01Inverse_0 prog fu a p (fu + 100)) := by kernel_rfl
 have c0 : X_s_l01Inverse_0 prog fu a p (fu + 100) = L_s_l01Inverse_0 fu a p (fu + 100) := by funext out base k; exact loop_s_l01Inverse_0 fu a p (fu + 100) out base k
 rw [h1, c0]
 rfl
def powLoop (p : Int) : Nat → Int → Int → Int → Int
 | 0, _, out, _ => out
 | f + 1, k, out, base => if decide (0 < k) = true then powLoop p f (k / 2) (if (k % 2 == 1) = true then (wrap64 (out * base)).tmod p else out) ((wrap64 (base * base)).tmod p) else out
def s_l01Inverse (a p : Int) : Int := powLoop p 5 (p - 2) 1 (s_l01Mod a p)
theorem powLoop_zero (p : Int) (f : Nat) (k out base : Int) (h : ¬ 0 < k) : powLoop p f k out base = out := by
 cases f
 ·rfl
 ·show (if decide (0 < k) = true then _ else out) = out
  rw [if_neg (by simpa using h)]
theorem pow_walk (fu : Nat) (a p : Int) (hp : prB p = true) : ∀ (f F : Nat) (k out base : Int), k < 2 ^ f → k ≤ 31 → f < F → L_s_l01Inverse_0 fu a p F out base k = some (powLoop p f k out base)
 | f, 0, k, _, _, _, _, h => absurd h (Nat.not_lt_zero f)
 | f, F + 1, k, out, base, h1, h31, hF => by
  show B_s_l01Inverse_0 a p (L_s_l01Inverse_0 fu a p F) out base k = _
  unfold B_s_l01Inverse_0
  by_cases hk : 0 < k
  ·obtain ⟨f, rfl⟩ : ∃ g, f = g + 1 := ⟨f - 1, by rcases f with _ | f <;> omega⟩
   have h0 := prB_ne hp
   rw [if_pos (by simp; omega)]
   have e1 : k.tmod 2 = k % 2 := Int.tmod_eq_emod_of_nonneg (by omega)
   have e2 : k.tdiv 2 = k / 2 := Int.tdiv_eq_ediv_of_nonneg (by omega)
   have e3 : wrap64 (k / 2) = k / 2 := by unfold wrap64; omega
   have hh : k / 2 < 2 ^ f := by rw [Int.pow_succ] at h1; omega
   simp only [h0, if_true, wI_eq, e1, e2, e3]
   show _ = some (if decide (0 < k) = true then powLoop p f (k / 2) (if (k % 2 == 1) = true then (wrap64 (out * base)).tmod p else out) ((wrap64 (base * base)).tmod p) else out)
   have hk' : decide (0 < k) = true := by simpa using hk
   rw [hk']
   cases h2 : (k % 2 == 1)
   ·exact pow_walk fu a p hp f F (k / 2) _ _ hh (by omega) (by omega)
   ·exact pow_walk fu a p hp f F (k / 2) _ _ hh (by omega) (by omega)
  ·rw [if_neg (by simp; omega), powLoop_zero p f k out base hk]
theorem tot_s_l01Inverse (a p : Int) (hp : (prB p) = true) : Fo_s_l01Inverse 40 a p = some (s_l01Inverse a p) := by
 obtain ⟨h1, h2⟩ := prB_Pr hp
 unfold Fo_s_l01Inverse G_s_l01Inverse
 rw [if_pos hp, wI_eq, show wrap64 (p - 2) = p - 2 from by unfold wrap64; omega]
 exact pow_walk 40 a p hp 5 _ (p - 2) _ _ (by omega) (by omega) (by omega)
def run_s_l01Inverse : RunP
 | [.v (.int .i64 a), .v (.int .i64 p)] => some (prB p, enc_i (s_l01Inverse a p))
 | _ => none
theorem sound_s_l01Inverse : Sound prog 233 run_s_l01Inverse := by
 refine sound_1 de_i SO_s_l01Inverse (by kernel_rfl) func233 ntmps233 rfl (by kernel_rfl) fun q r E => ?_
 unfold run_s_l01Inverse at E
 split at E
 ·obtain ⟨hp, rfl⟩ := so2 E
  rename_i a p
  exact ⟨_, _, rfl, (eq_s_l01Inverse _ a p).trans (tot_s_l01Inverse a p hp)⟩
 ·cases E

def S_s_l01Normal : Sums := ⟨tblS [(242, run_s_l01Mod), (233, run_s_l01Inverse)], tblM [], false⟩
theorem SO_s_l01Normal : SumsOK prog S_s_l01Normal := ⟨tblS_ok ⟨⟨call242, sound_s_l01Mod⟩, ⟨call233, sound_s_l01Inverse⟩, ⟨⟩⟩, tM⟩
def Fo_s_l01Normal (p a : Int) (b c : Int) : Option (Int × Int × Int) :=
 (if (prB p) = true then (if ((s_l01Mod a p) == 0) = true then (if (prB p) = true then (if (prB p) = true then (if (prB p) = true then (if (prB p) = true then (if (prB p) = true then some ((s_l01Mod (wI (a * (s_l01Inverse (s_l01Mod b p) p))) p), (s_l01Mod (wI (b * (s_l01Inverse (s_l01Mod b p) p))) p), (s_l01Mod (wI (c * (s_l01Inverse (s_l01Mod b p) p))) p)) else none) else none) else none) else none) else none) else (if (prB p) = true then (if (prB p) = true then (if (prB p) = true then (if (prB p) = true then some ((s_l01Mod (wI (a * (s_l01Inverse (s_l01Mod a p) p))) p), (s_l01Mod (wI (b * (s_l01Inverse (s_l01Mod a p) p))) p), (s_l01Mod (wI (c * (s_l01Inverse (s_l01Mod a p) p))) p)) else none) else none) else none) else none)) else none)
theorem eq_s_l01Normal (p a : Int) (b c : Int) : eT S_s_l01Normal 222 38 dec_a3 [pI p, pI a, pI b, pI c] = Fo_s_l01Normal p a b c := by
 kernel_rfl
def s_l01Normal (p a : Int) (b c : Int) : Int × Int × Int :=
 (if ((s_l01Mod a p) == 0) = true then ((s_l01Mod (wrap64 (a * (s_l01Inverse (s_l01Mod b p) p))) p), (s_l01Mod (wrap64 (b * (s_l01Inverse (s_l01Mod b p) p))) p), (s_l01Mod (wrap64 (c * (s_l01Inverse (s_l01Mod b p) p))) p)) else ((s_l01Mod (wrap64 (a * (s_l01Inverse (s_l01Mod a p) p))) p), (s_l01Mod (wrap64 (b * (s_l01Inverse (s_l01Mod a p) p))) p), (s_l01Mod (wrap64 (c * (s_l01Inverse (s_l01Mod a p) p))) p)))
theorem tot_s_l01Normal (p a : Int) (b c : Int) (hp : (prB p) = true) : Fo_s_l01Normal p a b c = some (s_l01Normal p a b c) := by
 try have h0 := prB_ne hp
 unfold Fo_s_l01Normal s_l01Normal
 (try simp only [wI_eq])
 repeat' (first | with_reducible rfl | with_reducible refine chk_opt hp ?_ | with_reducible refine chk_opt h0 ?_ | refine chk_opt (and_all hp fun _ => hp) ?_ | refine chk_opt (and_all hp fun _ => rfl) ?_ | refine ite_opt (fun _ => ?_) (fun _ => ?_) | rfl)
def run_s_l01Normal : RunP
 | [.v (.int .i64 p), .v (.int .i64 a), .v (.int .i64 b), .v (.int .i64 c)] => some (prB p, enc_a3 (s_l01Normal p a b c))
 | _ => none
theorem sound_s_l01Normal : Sound prog 222 run_s_l01Normal := by
 refine sound_1 de_a3 SO_s_l01Normal (by kernel_rfl) func222 ntmps222 rfl (by kernel_rfl) fun q r E => ?_
 unfold run_s_l01Normal at E
 split at E
 ·obtain ⟨hp, rfl⟩ := so2 E
  rename_i p a b c
  exact ⟨_, _, rfl, (eq_s_l01Normal p a b c).trans (tot_s_l01Normal p a b c hp)⟩
 ·cases E

def S_i_product : Sums := ⟨tblS [(173, run_i_rest)], tblM [], false⟩
theorem SO_i_product : SumsOK prog S_i_product := ⟨tblS_ok ⟨⟨call173, sound_i_rest⟩, ⟨⟩⟩, tM⟩
def Fo_i_product (p colour : Int) (a b : P2) : Option (Int) :=
 (if (colour == 0) = true then (if (prB p) = true then some (i_rest p (wI ((wI (a.1 * b.1)) + (wI (a.2 * b.2))))) else none) else (if (colour == 1) = true then (if (prB p) = true then some (i_rest p (wI ((wI (a.1 * b.1)) - (wI (a.2 * b.2))))) else none) else (if (prB p) = true then some (i_rest p (wI ((wI (a.1 * b.2)) + (wI (a.2 * b.1))))) else none)))
theorem eq_i_product (p colour : Int) (a b : P2) : eT S_i_product 129 53 dec_i [pI p, pI colour, pA a, pA b] = Fo_i_product p colour a b := by
 kernel_rfl
def i_product (p colour : Int) (a b : P2) : Int :=
 (if (colour == 0) = true then (i_rest p (wrap64 ((wrap64 (a.1 * b.1)) + (wrap64 (a.2 * b.2))))) else (if (colour == 1) = true then (i_rest p (wrap64 ((wrap64 (a.1 * b.1)) - (wrap64 (a.2 * b.2))))) else (i_rest p (wrap64 ((wrap64 (a.1 * b.2)) + (wrap64 (a.2 * b.1)))))))
theorem tot_i_product (p colour : Int) (a b : P2) (hp : (prB p) = true) : Fo_i_product p colour a b = some (i_product p colour a b) := by
 try have h0 := prB_ne hp
 unfold Fo_i_product i_product
 (try simp only [wI_eq])
 repeat' (first | with_reducible rfl | with_reducible refine chk_opt hp ?_ | with_reducible refine chk_opt h0 ?_ | refine chk_opt (and_all hp fun _ => hp) ?_ | refine chk_opt (and_all hp fun _ => rfl) ?_ | refine ite_opt (fun _ => ?_) (fun _ => ?_) | rfl)
def run_i_product : RunP
 | [.v (.int .i64 p), .v (.int .i64 colour), .v (.agg ⟨[.int .i64 a0, .int .i64 a1]⟩), .v (.agg ⟨[.int .i64 b0, .int .i64 b1]⟩)] => some (prB p, enc_i (i_product p colour (a0, a1) (b0, b1)))
 | _ => none
theorem sound_i_product : Sound prog 129 run_i_product := by
 refine sound_1 de_i SO_i_product (by kernel_rfl) func129 ntmps129 rfl (by kernel_rfl) fun q r E => ?_
 unfold run_i_product at E
 split at E
 ·obtain ⟨hp, rfl⟩ := so2 E
  rename_i p colour a0 a1 b0 b1
  exact ⟨_, _, rfl, (eq_i_product p colour (a0, a1) (b0, b1)).trans (tot_i_product p colour (a0, a1) (b0, b1) hp)⟩
 ·cases E

def S_s_l02Product : Sums := ⟨tblS [(242, run_s_l01Mod)], tblM [], false⟩
theorem SO_s_l02Product : SumsOK prog S_s_l02Product := ⟨tblS_ok ⟨⟨call242, sound_s_l01Mod⟩, ⟨⟩⟩, tM⟩
def Fo_s_l02Product (p colour : Int) (a b : P2) : Option (Int) :=
 (if (colour == 0) = true then (if (prB p) = true then some (s_l01Mod (wI ((wI (a.1 * b.1)) + (wI (a.2 * b.2)))) p) else none) else (if (colour == 1) = true then (if (prB p) = true then some (s_l01Mod (wI ((wI (a.1 * b.1)) - (wI (a.2 * b.2)))) p) else none) else (if (prB p) = true then some (s_l01Mod (wI ((wI (a.1 * b.2)) + (wI (a.2 * b.1)))) p) else none)))
theorem eq_s_l02Product (p colour : Int) (a b : P2) : eT S_s_l02Product 224 53 dec_i [pI p, pI colour, pA a, pA b] = Fo_s_l02Product p colour a b := by
 kernel_rfl
def s_l02Product (p colour : Int) (a b : P2) : Int :=
 (if (colour == 0) = true then (s_l01Mod (wrap64 ((wrap64 (a.1 * b.1)) + (wrap64 (a.2 * b.2)))) p) else (if (colour == 1) = true then (s_l01Mod (wrap64 ((wrap64 (a.1 * b.1)) - (wrap64 (a.2 * b.2)))) p) else (s_l01Mod (wrap64 ((wrap64 (a.1 * b.2)) + (wrap64 (a.2 * b.1)))) p)))
theorem tot_s_l02Product (p colour : Int) (a b : P2) (hp : (prB p) = true) : Fo_s_l02Product p colour a b = some (s_l02Product p colour a b) := by
 try have h0 := prB_ne hp
 unfold Fo_s_l02Product s_l02Product
 (try simp only [wI_eq])
 repeat' (first | with_reducible rfl | with_reducible refine chk_opt hp ?_ | with_reducible refine chk_opt h0 ?_ | refine chk_opt (and_all hp fun _ => hp) ?_ | refine chk_opt (and_all hp fun _ => rfl) ?_ | refine ite_opt (fun _ => ?_) (fun _ => ?_) | rfl)
def run_s_l02Product : RunP
 | [.v (.int .i64 p), .v (.int .i64 colour), .v (.agg ⟨[.int .i64 a0, .int .i64 a1]⟩), .v (.agg ⟨[.int .i64 b0, .int .i64 b1]⟩)] => some (prB p, enc_i (s_l02Product p colour (a0, a1) (b0, b1)))
 | _ => none
theorem sound_s_l02Product : Sound prog 224 run_s_l02Product := by
 refine sound_1 de_i SO_s_l02Product (by kernel_rfl) func224 ntmps224 rfl (by kernel_rfl) fun q r E => ?_
 unfold run_s_l02Product at E
 split at E
 ·obtain ⟨hp, rfl⟩ := so2 E
  rename_i p colour a0 a1 b0 b1
  exact ⟨_, _, rfl, (eq_s_l02Product p colour (a0, a1) (b0, b1)).trans (tot_s_l02Product p colour (a0, a1) (b0, b1) hp)⟩
 ·cases E

def S_i_less : Sums := ⟨tblS [(173, run_i_rest)], tblM [], false⟩
theorem SO_i_less : SumsOK prog S_i_less := ⟨tblS_ok ⟨⟨call173, sound_i_rest⟩, ⟨⟩⟩, tM⟩
def Fo_i_less (p : Int) (a b : P2) : Option (Int × Int) :=
 (if (prB p) = true then (if (prB p) = true then some ((i_rest p (wI (a.1 - b.1))), (i_rest p (wI (a.2 - b.2)))) else none) else none)
theorem eq_i_less (p : Int) (a b : P2) : eT S_i_less 128 22 dec_a2 [pI p, pA a, pA b] = Fo_i_less p a b := by
 kernel_rfl
def i_less (p : Int) (a b : P2) : Int × Int :=
 ((i_rest p (wrap64 (a.1 - b.1))), (i_rest p (wrap64 (a.2 - b.2))))
theorem tot_i_less (p : Int) (a b : P2) (hp : (prB p) = true) : Fo_i_less p a b = some (i_less p a b) := by
 try have h0 := prB_ne hp
 unfold Fo_i_less i_less
 (try simp only [wI_eq])
 repeat' (first | with_reducible rfl | with_reducible refine chk_opt hp ?_ | with_reducible refine chk_opt h0 ?_ | refine chk_opt (and_all hp fun _ => hp) ?_ | refine chk_opt (and_all hp fun _ => rfl) ?_ | refine ite_opt (fun _ => ?_) (fun _ => ?_) | rfl)
def run_i_less : RunP
 | [.v (.int .i64 p), .v (.agg ⟨[.int .i64 a0, .int .i64 a1]⟩), .v (.agg ⟨[.int .i64 b0, .int .i64 b1]⟩)] => some (prB p, enc_a2 (i_less p (a0, a1) (b0, b1)))
 | _ => none
theorem sound_i_less : Sound prog 128 run_i_less := by
 refine sound_1 de_a2 SO_i_less (by kernel_rfl) func128 ntmps128 rfl (by kernel_rfl) fun q r E => ?_
 unfold run_i_less at E
 split at E
 ·obtain ⟨hp, rfl⟩ := so2 E
  rename_i p a0 a1 b0 b1
  exact ⟨_, _, rfl, (eq_i_less p (a0, a1) (b0, b1)).trans (tot_i_less p (a0, a1) (b0, b1) hp)⟩
 ·cases E

def S_s_l01Minus : Sums := ⟨tblS [(242, run_s_l01Mod)], tblM [], false⟩
theorem SO_s_l01Minus : SumsOK prog S_s_l01Minus := ⟨tblS_ok ⟨⟨call242, sound_s_l01Mod⟩, ⟨⟩⟩, tM⟩
def Fo_s_l01Minus (p : Int) (a b : P2) : Option (Int × Int) :=
 (if (prB p) = true then (if (prB p) = true then some ((s_l01Mod (wI (a.1 - b.1)) p), (s_l01Mod (wI (a.2 - b.2)) p)) else none) else none)
theorem eq_s_l01Minus (p : Int) (a b : P2) : eT S_s_l01Minus 205 22 dec_a2 [pI p, pA a, pA b] = Fo_s_l01Minus p a b := by
 kernel_rfl
def s_l01Minus (p : Int) (a b : P2) : Int × Int :=
 ((s_l01Mod (wrap64 (a.1 - b.1)) p), (s_l01Mod (wrap64 (a.2 - b.2)) p))
theorem tot_s_l01Minus (p : Int) (a b : P2) (hp : (prB p) = true) : Fo_s_l01Minus p a b = some (s_l01Minus p a b) := by
 try have h0 := prB_ne hp
 unfold Fo_s_l01Minus s_l01Minus
 (try simp only [wI_eq])
 repeat' (first | with_reducible rfl | with_reducible refine chk_opt hp ?_ | with_reducible refine chk_opt h0 ?_ | refine chk_opt (and_all hp fun _ => hp) ?_ | refine chk_opt (and_all hp fun _ => rfl) ?_ | refine ite_opt (fun _ => ?_) (fun _ => ?_) | rfl)
def run_s_l01Minus : RunP
 | [.v (.int .i64 p), .v (.agg ⟨[.int .i64 a0, .int .i64 a1]⟩), .v (.agg ⟨[.int .i64 b0, .int .i64 b1]⟩)] => some (prB p, enc_a2 (s_l01Minus p (a0, a1) (b0, b1)))
 | _ => none
theorem sound_s_l01Minus : Sound prog 205 run_s_l01Minus := by
 refine sound_1 de_a2 SO_s_l01Minus (by kernel_rfl) func205 ntmps205 rfl (by kernel_rfl) fun q r E => ?_
 unfold run_s_l01Minus at E
 split at E
 ·obtain ⟨hp, rfl⟩ := so2 E
  rename_i p a0 a1 b0 b1
  exact ⟨_, _, rfl, (eq_s_l01Minus p (a0, a1) (b0, b1)).trans (tot_s_l01Minus p (a0, a1) (b0, b1) hp)⟩
 ·cases E

def S_i_quadrance : Sums := ⟨tblS [(128, run_i_less), (129, run_i_product)], tblM [], false⟩
theorem SO_i_quadrance : SumsOK prog S_i_quadrance := ⟨tblS_ok ⟨⟨call128, sound_i_less⟩, ⟨call129, sound_i_product⟩, ⟨⟩⟩, tM⟩
def Fo_i_quadrance (p colour : Int) (a b : P2) : Option (Int) :=
 (if (prB p) = true then (if (prB p) = true then some (i_product p colour (i_less p a b) (i_less p a b)) else none) else none)
theorem eq_i_quadrance (p colour : Int) (a b : P2) : eT S_i_quadrance 72 19 dec_i [pI p, pI colour, pA a, pA b] = Fo_i_quadrance p colour a b := by
 kernel_rfl
def i_quadrance (p colour : Int) (a b : P2) : Int :=
 (i_product p colour (i_less p a b) (i_less p a b))
theorem tot_i_quadrance (p colour : Int) (a b : P2) (hp : (prB p) = true) : Fo_i_quadrance p colour a b = some (i_quadrance p colour a b) := by
 try have h0 := prB_ne hp
 unfold Fo_i_quadrance i_quadrance
 (try simp only [wI_eq])
 repeat' (first | with_reducible rfl | with_reducible refine chk_opt hp ?_ | with_reducible refine chk_opt h0 ?_ | refine chk_opt (and_all hp fun _ => hp) ?_ | refine chk_opt (and_all hp fun _ => rfl) ?_ | refine ite_opt (fun _ => ?_) (fun _ => ?_) | rfl)
def run_i_quadrance : RunP
 | [.v (.int .i64 p), .v (.int .i64 colour), .v (.agg ⟨[.int .i64 a0, .int .i64 a1]⟩), .v (.agg ⟨[.int .i64 b0, .int .i64 b1]⟩)] => some (prB p, enc_i (i_quadrance p colour (a0, a1) (b0, b1)))
 | _ => none
theorem sound_i_quadrance : Sound prog 72 run_i_quadrance := by
 refine sound_1 de_i SO_i_quadrance (by kernel_rfl) func72 ntmps72 rfl (by kernel_rfl) fun q r E => ?_
 unfold run_i_quadrance at E
 split at E
 ·obtain ⟨hp, rfl⟩ := so2 E
  rename_i p colour a0 a1 b0 b1
  exact ⟨_, _, rfl, (eq_i_quadrance p colour (a0, a1) (b0, b1)).trans (tot_i_quadrance p colour (a0, a1) (b0, b1) hp)⟩
 ·cases E

def S_s_l02Quadrance : Sums := ⟨tblS [(205, run_s_l01Minus), (224, run_s_l02Product)], tblM [], false⟩
theorem SO_s_l02Quadrance : SumsOK prog S_s_l02Quadrance := ⟨tblS_ok ⟨⟨call205, sound_s_l01Minus⟩, ⟨call224, sound_s_l02Product⟩, ⟨⟩⟩, tM⟩
def Fo_s_l02Quadrance (p colour : Int) (a b : P2) : Option (Int) :=
 (if (prB p) = true then (if (prB p) = true then some (s_l02Product p colour (s_l01Minus p b a) (s_l01Minus p b a)) else none) else none)
theorem eq_s_l02Quadrance (p colour : Int) (a b : P2) : eT S_s_l02Quadrance 190 19 dec_i [pI p, pI colour, pA a, pA b] = Fo_s_l02Quadrance p colour a b := by
 kernel_rfl
def s_l02Quadrance (p colour : Int) (a b : P2) : Int :=
 (s_l02Product p colour (s_l01Minus p b a) (s_l01Minus p b a))
theorem tot_s_l02Quadrance (p colour : Int) (a b : P2) (hp : (prB p) = true) : Fo_s_l02Quadrance p colour a b = some (s_l02Quadrance p colour a b) := by
 try have h0 := prB_ne hp
 unfold Fo_s_l02Quadrance s_l02Quadrance
 (try simp only [wI_eq])
 repeat' (first | with_reducible rfl | with_reducible refine chk_opt hp ?_ | with_reducible refine chk_opt h0 ?_ | refine chk_opt (and_all hp fun _ => hp) ?_ | refine chk_opt (and_all hp fun _ => rfl) ?_ | refine ite_opt (fun _ => ?_) (fun _ => ?_) | rfl)
def run_s_l02Quadrance : RunP
 | [.v (.int .i64 p), .v (.int .i64 colour), .v (.agg ⟨[.int .i64 a0, .int .i64 a1]⟩), .v (.agg ⟨[.int .i64 b0, .int .i64 b1]⟩)] => some (prB p, enc_i (s_l02Quadrance p colour (a0, a1) (b0, b1)))
 | _ => none
theorem sound_s_l02Quadrance : Sound prog 190 run_s_l02Quadrance := by
 refine sound_1 de_i SO_s_l02Quadrance (by kernel_rfl) func190 ntmps190 rfl (by kernel_rfl) fun q r E => ?_
 unfold run_s_l02Quadrance at E
 split at E
 ·obtain ⟨hp, rfl⟩ := so2 E
  rename_i p colour a0 a1 b0 b1
  exact ⟨_, _, rfl, (eq_s_l02Quadrance p colour (a0, a1) (b0, b1)).trans (tot_s_l02Quadrance p colour (a0, a1) (b0, b1) hp)⟩
 ·cases E

def S_s_l02Direction : Sums := ⟨tblS [(242, run_s_l01Mod)], tblM [], false⟩
theorem SO_s_l02Direction : SumsOK prog S_s_l02Direction := ⟨tblS_ok ⟨⟨call242, sound_s_l01Mod⟩, ⟨⟩⟩, tM⟩
def Fo_s_l02Direction (p : Int) (l : P3) : Option (Int × Int) :=
 (if (prB p) = true then some ((s_l01Mod (wI (0 - l.2.1)) p), l.1) else none)
theorem eq_s_l02Direction (p : Int) (l : P3) : eT S_s_l02Direction 225 13 dec_a2 [pI p, pB l] = Fo_s_l02Direction p l := by
 kernel_rfl
def s_l02Direction (p : Int) (l : P3) : Int × Int :=
 ((s_l01Mod (wrap64 (0 - l.2.1)) p), l.1)
theorem tot_s_l02Direction (p : Int) (l : P3) (hp : (prB p) = true) : Fo_s_l02Direction p l = some (s_l02Direction p l) := by
 try have h0 := prB_ne hp
 unfold Fo_s_l02Direction s_l02Direction
 (try simp only [wI_eq])
 repeat' (first | with_reducible rfl | with_reducible refine chk_opt hp ?_ | with_reducible refine chk_opt h0 ?_ | refine chk_opt (and_all hp fun _ => hp) ?_ | refine chk_opt (and_all hp fun _ => rfl) ?_ | refine ite_opt (fun _ => ?_) (fun _ => ?_) | rfl)
def run_s_l02Direction : RunP
 | [.v (.int .i64 p), .v (.agg ⟨[.int .i64 l0, .int .i64 l1, .int .i64 l2]⟩)] => some (prB p, enc_a2 (s_l02Direction p (l0, l1, l2)))
 | _ => none
theorem sound_s_l02Direction : Sound prog 225 run_s_l02Direction := by
 refine sound_1 de_a2 SO_s_l02Direction (by kernel_rfl) func225 ntmps225 rfl (by kernel_rfl) fun q r E => ?_
 unfold run_s_l02Direction at E
 split at E
 ·obtain ⟨hp, rfl⟩ := so2 E
  rename_i p l0 l1 l2
  exact ⟨_, _, rfl, (eq_s_l02Direction p (l0, l1, l2)).trans (tot_s_l02Direction p (l0, l1, l2) hp)⟩
 ·cases E

def S_i_way : Sums := ⟨tblS [(173, run_i_rest)], tblM [], false⟩
theorem SO_i_way : SumsOK prog S_i_way := ⟨tblS_ok ⟨⟨call173, sound_i_rest⟩, ⟨⟩⟩, tM⟩
def Fo_i_way (p : Int) (l : P3) : Option (Int × Int) :=
 (if (prB p) = true then some ((i_rest p (wI (0 - l.2.1))), l.1) else none)
theorem eq_i_way (p : Int) (l : P3) : eT S_i_way 216 13 dec_a2 [pI p, pB l] = Fo_i_way p l := by
 kernel_rfl
def i_way (p : Int) (l : P3) : Int × Int :=
 ((i_rest p (wrap64 (0 - l.2.1))), l.1)
theorem tot_i_way (p : Int) (l : P3) (hp : (prB p) = true) : Fo_i_way p l = some (i_way p l) := by
 try have h0 := prB_ne hp
 unfold Fo_i_way i_way
 (try simp only [wI_eq])
 repeat' (first | with_reducible rfl | with_reducible refine chk_opt hp ?_ | with_reducible refine chk_opt h0 ?_ | refine chk_opt (and_all hp fun _ => hp) ?_ | refine chk_opt (and_all hp fun _ => rfl) ?_ | refine ite_opt (fun _ => ?_) (fun _ => ?_) | rfl)
def run_i_way : RunP
 | [.v (.int .i64 p), .v (.agg ⟨[.int .i64 l0, .int .i64 l1, .int .i64 l2]⟩)] => some (prB p, enc_a2 (i_way p (l0, l1, l2)))
 | _ => none
theorem sound_i_way : Sound prog 216 run_i_way := by
 refine sound_1 de_a2 SO_i_way (by kernel_rfl) func216 ntmps216 rfl (by kernel_rfl) fun q r E => ?_
 unfold run_i_way at E
 split at E
 ·obtain ⟨hp, rfl⟩ := so2 E
  rename_i p l0 l1 l2
  exact ⟨_, _, rfl, (eq_i_way p (l0, l1, l2)).trans (tot_i_way p (l0, l1, l2) hp)⟩
 ·cases E

def S_s_l01Plus : Sums := ⟨tblS [(242, run_s_l01Mod)], tblM [], false⟩
theorem SO_s_l01Plus : SumsOK prog S_s_l01Plus := ⟨tblS_ok ⟨⟨call242, sound_s_l01Mod⟩, ⟨⟩⟩, tM⟩
def Fo_s_l01Plus (p : Int) (a b : P2) : Option (Int × Int) :=
 (if (prB p) = true then (if (prB p) = true then some ((s_l01Mod (wI (a.1 + b.1)) p), (s_l01Mod (wI (a.2 + b.2)) p)) else none) else none)
theorem eq_s_l01Plus (p : Int) (a b : P2) : eT S_s_l01Plus 203 22 dec_a2 [pI p, pA a, pA b] = Fo_s_l01Plus p a b := by
 kernel_rfl
def s_l01Plus (p : Int) (a b : P2) : Int × Int :=
 ((s_l01Mod (wrap64 (a.1 + b.1)) p), (s_l01Mod (wrap64 (a.2 + b.2)) p))
theorem tot_s_l01Plus (p : Int) (a b : P2) (hp : (prB p) = true) : Fo_s_l01Plus p a b = some (s_l01Plus p a b) := by
 try have h0 := prB_ne hp
 unfold Fo_s_l01Plus s_l01Plus
 (try simp only [wI_eq])
 repeat' (first | with_reducible rfl | with_reducible refine chk_opt hp ?_ | with_reducible refine chk_opt h0 ?_ | refine chk_opt (and_all hp fun _ => hp) ?_ | refine chk_opt (and_all hp fun _ => rfl) ?_ | refine ite_opt (fun _ => ?_) (fun _ => ?_) | rfl)
def run_s_l01Plus : RunP
 | [.v (.int .i64 p), .v (.agg ⟨[.int .i64 a0, .int .i64 a1]⟩), .v (.agg ⟨[.int .i64 b0, .int .i64 b1]⟩)] => some (prB p, enc_a2 (s_l01Plus p (a0, a1) (b0, b1)))
 | _ => none
theorem sound_s_l01Plus : Sound prog 203 run_s_l01Plus := by
 refine sound_1 de_a2 SO_s_l01Plus (by kernel_rfl) func203 ntmps203 rfl (by kernel_rfl) fun q r E => ?_
 unfold run_s_l01Plus at E
 split at E
 ·obtain ⟨hp, rfl⟩ := so2 E
  rename_i p a0 a1 b0 b1
  exact ⟨_, _, rfl, (eq_s_l01Plus p (a0, a1) (b0, b1)).trans (tot_s_l01Plus p (a0, a1) (b0, b1) hp)⟩
 ·cases E

def S_i_combination : Sums := ⟨tblS [(173, run_i_rest)], tblM [], false⟩
theorem SO_i_combination : SumsOK prog S_i_combination := ⟨tblS_ok ⟨⟨call173, sound_i_rest⟩, ⟨⟩⟩, tM⟩
def Fo_i_combination (p : Int) (a b : P2) (t : Int) : Option (Int × Int) :=
 (if (prB p) = true then (if (prB p) = true then some ((i_rest p (wI (a.1 + (wI (t * (wI (b.1 - a.1))))))), (i_rest p (wI (a.2 + (wI (t * (wI (b.2 - a.2)))))))) else none) else none)
theorem eq_i_combination (p : Int) (a b : P2) (t : Int) : eT S_i_combination 121 34 dec_a2 [pI p, pA a, pA b, pI t] = Fo_i_combination p a b t := by
 kernel_rfl
def i_combination (p : Int) (a b : P2) (t : Int) : Int × Int :=
 ((i_rest p (wrap64 (a.1 + (wrap64 (t * (wrap64 (b.1 - a.1))))))), (i_rest p (wrap64 (a.2 + (wrap64 (t * (wrap64 (b.2 - a.2))))))))
theorem tot_i_combination (p : Int) (a b : P2) (t : Int) (hp : (prB p) = true) : Fo_i_combination p a b t = some (i_combination p a b t) := by
 try have h0 := prB_ne hp
 unfold Fo_i_combination i_combination
 (try simp only [wI_eq])
 repeat' (first | with_reducible rfl | with_reducible refine chk_opt hp ?_ | with_reducible refine chk_opt h0 ?_ | refine chk_opt (and_all hp fun _ => hp) ?_ | refine chk_opt (and_all hp fun _ => rfl) ?_ | refine ite_opt (fun _ => ?_) (fun _ => ?_) | rfl)
def run_i_combination : RunP
 | [.v (.int .i64 p), .v (.agg ⟨[.int .i64 a0, .int .i64 a1]⟩), .v (.agg ⟨[.int .i64 b0, .int .i64 b1]⟩), .v (.int .i64 t)] => some (prB p, enc_a2 (i_combination p (a0, a1) (b0, b1) t))
 | _ => none
theorem sound_i_combination : Sound prog 121 run_i_combination := by
 refine sound_1 de_a2 SO_i_combination (by kernel_rfl) func121 ntmps121 rfl (by kernel_rfl) fun q r E => ?_
 unfold run_i_combination at E
 split at E
 ·obtain ⟨hp, rfl⟩ := so2 E
  rename_i p a0 a1 b0 b1 t
  exact ⟨_, _, rfl, (eq_i_combination p (a0, a1) (b0, b1) t).trans (tot_i_combination p (a0, a1) (b0, b1) t hp)⟩
 ·cases E

def S_i_midpoint : Sums := ⟨tblS [(166, run_i_inverse), (121, run_i_combination)], tblM [], false⟩
theorem SO_i_midpoint : SumsOK prog S_i_midpoint := ⟨tblS_ok ⟨⟨call166, sound_i_inverse⟩, ⟨call121, sound_i_combination⟩, ⟨⟩⟩, tM⟩
def Fo_i_midpoint (p : Int) (a b : P2) : Option (Int × Int) :=
 (if (prB p) = true then (if (prB p) = true then some (i_combination p a b (i_inverse p 2)) else none) else none)
theorem eq_i_midpoint (p : Int) (a b : P2) : eT S_i_midpoint 108 13 dec_a2 [pI p, pA a, pA b] = Fo_i_midpoint p a b := by
 kernel_rfl
def i_midpoint (p : Int) (a b : P2) : Int × Int :=
 (i_combination p a b (i_inverse p 2))
theorem tot_i_midpoint (p : Int) (a b : P2) (hp : (prB p) = true) : Fo_i_midpoint p a b = some (i_midpoint p a b) := by
 try have h0 := prB_ne hp
 unfold Fo_i_midpoint i_midpoint
 (try simp only [wI_eq])
 repeat' (first | with_reducible rfl | with_reducible refine chk_opt hp ?_ | with_reducible refine chk_opt h0 ?_ | refine chk_opt (and_all hp fun _ => hp) ?_ | refine chk_opt (and_all hp fun _ => rfl) ?_ | refine ite_opt (fun _ => ?_) (fun _ => ?_) | rfl)
def run_i_midpoint : RunP
 | [.v (.int .i64 p), .v (.agg ⟨[.int .i64 a0, .int .i64 a1]⟩), .v (.agg ⟨[.int .i64 b0, .int .i64 b1]⟩)] => some (prB p, enc_a2 (i_midpoint p (a0, a1) (b0, b1)))
 | _ => none
theorem sound_i_midpoint : Sound prog 108 run_i_midpoint := by
 refine sound_1 de_a2 SO_i_midpoint (by kernel_rfl) func108 ntmps108 rfl (by kernel_rfl) fun q r E => ?_
 unfold run_i_midpoint at E
 split at E
 ·obtain ⟨hp, rfl⟩ := so2 E
  rename_i p a0 a1 b0 b1
  exact ⟨_, _, rfl, (eq_i_midpoint p (a0, a1) (b0, b1)).trans (tot_i_midpoint p (a0, a1) (b0, b1) hp)⟩
 ·cases E

def S_s_l01Times : Sums := ⟨tblS [(242, run_s_l01Mod)], tblM [], false⟩
theorem SO_s_l01Times : SumsOK prog S_s_l01Times := ⟨tblS_ok ⟨⟨call242, sound_s_l01Mod⟩, ⟨⟩⟩, tM⟩
def Fo_s_l01Times (p t : Int) (a : P2) : Option (Int × Int) :=
 (if (prB p) = true then (if (prB p) = true then some ((s_l01Mod (wI (t * a.1)) p), (s_l01Mod (wI (t * a.2)) p)) else none) else none)
theorem eq_s_l01Times (p t : Int) (a : P2) : eT S_s_l01Times 204 20 dec_a2 [pI p, pI t, pA a] = Fo_s_l01Times p t a := by
 kernel_rfl
def s_l01Times (p t : Int) (a : P2) : Int × Int :=
 ((s_l01Mod (wrap64 (t * a.1)) p), (s_l01Mod (wrap64 (t * a.2)) p))
theorem tot_s_l01Times (p t : Int) (a : P2) (hp : (prB p) = true) : Fo_s_l01Times p t a = some (s_l01Times p t a) := by
 try have h0 := prB_ne hp
 unfold Fo_s_l01Times s_l01Times
 (try simp only [wI_eq])
 repeat' (first | with_reducible rfl | with_reducible refine chk_opt hp ?_ | with_reducible refine chk_opt h0 ?_ | refine chk_opt (and_all hp fun _ => hp) ?_ | refine chk_opt (and_all hp fun _ => rfl) ?_ | refine ite_opt (fun _ => ?_) (fun _ => ?_) | rfl)
def run_s_l01Times : RunP
 | [.v (.int .i64 p), .v (.int .i64 t), .v (.agg ⟨[.int .i64 a0, .int .i64 a1]⟩)] => some (prB p, enc_a2 (s_l01Times p t (a0, a1)))
 | _ => none
theorem sound_s_l01Times : Sound prog 204 run_s_l01Times := by
 refine sound_1 de_a2 SO_s_l01Times (by kernel_rfl) func204 ntmps204 rfl (by kernel_rfl) fun q r E => ?_
 unfold run_s_l01Times at E
 split at E
 ·obtain ⟨hp, rfl⟩ := so2 E
  rename_i p t a0 a1
  exact ⟨_, _, rfl, (eq_s_l01Times p t (a0, a1)).trans (tot_s_l01Times p t (a0, a1) hp)⟩
 ·cases E

def S_s_l01Middle : Sums := ⟨tblS [(203, run_s_l01Plus), (204, run_s_l01Times)], tblM [], false⟩
theorem SO_s_l01Middle : SumsOK prog S_s_l01Middle := ⟨tblS_ok ⟨⟨call203, sound_s_l01Plus⟩, ⟨call204, sound_s_l01Times⟩, ⟨⟩⟩, tM⟩
def Fo_s_l01Middle (p : Int) (a b : P2) : Option (Int × Int) :=
 (if (prB p) = true then (if (prB p) = true then some (s_l01Times p (wI ((wI (p + 1)).tdiv 2)) (s_l01Plus p a b)) else none) else none)
theorem eq_s_l01Middle (p : Int) (a b : P2) : eT S_s_l01Middle 180 16 dec_a2 [pI p, pA a, pA b] = Fo_s_l01Middle p a b := by
 kernel_rfl
def s_l01Middle (p : Int) (a b : P2) : Int × Int :=
 (s_l01Times p (wrap64 ((wrap64 (p + 1)).tdiv 2)) (s_l01Plus p a b))
theorem tot_s_l01Middle (p : Int) (a b : P2) (hp : (prB p) = true) : Fo_s_l01Middle p a b = some (s_l01Middle p a b) := by
 try have h0 := prB_ne hp
 unfold Fo_s_l01Middle s_l01Middle
 (try simp only [wI_eq])
 repeat' (first | with_reducible rfl | with_reducible refine chk_opt hp ?_ | with_reducible refine chk_opt h0 ?_ | refine chk_opt (and_all hp fun _ => hp) ?_ | refine chk_opt (and_all hp fun _ => rfl) ?_ | refine ite_opt (fun _ => ?_) (fun _ => ?_) | rfl)
def run_s_l01Middle : RunP
 | [.v (.int .i64 p), .v (.agg ⟨[.int .i64 a0, .int .i64 a1]⟩), .v (.agg ⟨[.int .i64 b0, .int .i64 b1]⟩)] => some (prB p, enc_a2 (s_l01Middle p (a0, a1) (b0, b1)))
 | _ => none
theorem sound_s_l01Middle : Sound prog 180 run_s_l01Middle := by
 refine sound_1 de_a2 SO_s_l01Middle (by kernel_rfl) func180 ntmps180 rfl (by kernel_rfl) fun q r E => ?_
 unfold run_s_l01Middle at E
 split at E
 ·obtain ⟨hp, rfl⟩ := so2 E
  rename_i p a0 a1 b0 b1
  exact ⟨_, _, rfl, (eq_s_l01Middle p (a0, a1) (b0, b1)).trans (tot_s_l01Middle p (a0, a1) (b0, b1) hp)⟩
 ·cases E

def S_i_through : Sums := ⟨tblS [(215, run_i_makeLine)], tblM [], false⟩
theorem SO_i_through : SumsOK prog S_i_through := ⟨tblS_ok ⟨⟨call215, sound_i_makeLine⟩, ⟨⟩⟩, tM⟩
def Fo_i_through (p : Int) (a way : P2) : Option (Int × Int × Int) :=
 (if (prB p) = true then some (i_makeLine p way.2 (wI (0 - way.1)) (wI (0 - (wI ((wI (way.2 * a.1)) + (wI ((wI (0 - way.1)) * a.2))))))) else none)
theorem eq_i_through (p : Int) (a way : P2) : eT S_i_through 167 28 dec_a3 [pI p, pA a, pA way] = Fo_i_through p a way := by
 kernel_rfl
def i_through (p : Int) (a way : P2) : Int × Int × Int :=
 (i_makeLine p way.2 (wrap64 (0 - way.1)) (wrap64 (0 - (wrap64 ((wrap64 (way.2 * a.1)) + (wrap64 ((wrap64 (0 - way.1)) * a.2)))))))
theorem tot_i_through (p : Int) (a way : P2) (hp : (prB p) = true) : Fo_i_through p a way = some (i_through p a way) := by
 try have h0 := prB_ne hp
 unfold Fo_i_through i_through
 (try simp only [wI_eq])
 repeat' (first | with_reducible rfl | with_reducible refine chk_opt hp ?_ | with_reducible refine chk_opt h0 ?_ | refine chk_opt (and_all hp fun _ => hp) ?_ | refine chk_opt (and_all hp fun _ => rfl) ?_ | refine ite_opt (fun _ => ?_) (fun _ => ?_) | rfl)
def run_i_through : RunP
 | [.v (.int .i64 p), .v (.agg ⟨[.int .i64 a0, .int .i64 a1]⟩), .v (.agg ⟨[.int .i64 way0, .int .i64 way1]⟩)] => some (prB p, enc_a3 (i_through p (a0, a1) (way0, way1)))
 | _ => none
theorem sound_i_through : Sound prog 167 run_i_through := by
 refine sound_1 de_a3 SO_i_through (by kernel_rfl) func167 ntmps167 rfl (by kernel_rfl) fun q r E => ?_
 unfold run_i_through at E
 split at E
 ·obtain ⟨hp, rfl⟩ := so2 E
  rename_i p a0 a1 way0 way1
  exact ⟨_, _, rfl, (eq_i_through p (a0, a1) (way0, way1)).trans (tot_i_through p (a0, a1) (way0, way1) hp)⟩
 ·cases E

def S_i_lineThrough : Sums := ⟨tblS [(128, run_i_less), (167, run_i_through)], tblM [], false⟩
theorem SO_i_lineThrough : SumsOK prog S_i_lineThrough := ⟨tblS_ok ⟨⟨call128, sound_i_less⟩, ⟨call167, sound_i_through⟩, ⟨⟩⟩, tM⟩
def Fo_i_lineThrough (p : Int) (a b : P2) : Option (Int × Int × Int) :=
 (if (prB p) = true then (if (prB p) = true then some (i_through p a (i_less p b a)) else none) else none)
theorem eq_i_lineThrough (p : Int) (a b : P2) : eT S_i_lineThrough 110 14 dec_a3 [pI p, pA a, pA b] = Fo_i_lineThrough p a b := by
 kernel_rfl
def i_lineThrough (p : Int) (a b : P2) : Int × Int × Int :=
 (i_through p a (i_less p b a))
theorem tot_i_lineThrough (p : Int) (a b : P2) (hp : (prB p) = true) : Fo_i_lineThrough p a b = some (i_lineThrough p a b) := by
 try have h0 := prB_ne hp
 unfold Fo_i_lineThrough i_lineThrough
 (try simp only [wI_eq])
 repeat' (first | with_reducible rfl | with_reducible refine chk_opt hp ?_ | with_reducible refine chk_opt h0 ?_ | refine chk_opt (and_all hp fun _ => hp) ?_ | refine chk_opt (and_all hp fun _ => rfl) ?_ | refine ite_opt (fun _ => ?_) (fun _ => ?_) | rfl)
def run_i_lineThrough : RunP
 | [.v (.int .i64 p), .v (.agg ⟨[.int .i64 a0, .int .i64 a1]⟩), .v (.agg ⟨[.int .i64 b0, .int .i64 b1]⟩)] => some (prB p, enc_a3 (i_lineThrough p (a0, a1) (b0, b1)))
 | _ => none
theorem sound_i_lineThrough : Sound prog 110 run_i_lineThrough := by
 refine sound_1 de_a3 SO_i_lineThrough (by kernel_rfl) func110 ntmps110 rfl (by kernel_rfl) fun q r E => ?_
 unfold run_i_lineThrough at E
 split at E
 ·obtain ⟨hp, rfl⟩ := so2 E
  rename_i p a0 a1 b0 b1
  exact ⟨_, _, rfl, (eq_i_lineThrough p (a0, a1) (b0, b1)).trans (tot_i_lineThrough p (a0, a1) (b0, b1) hp)⟩
 ·cases E

def S_s_l01Through : Sums := ⟨tblS [(222, run_s_l01Normal)], tblM [], false⟩
theorem SO_s_l01Through : SumsOK prog S_s_l01Through := ⟨tblS_ok ⟨⟨call222, sound_s_l01Normal⟩, ⟨⟩⟩, tM⟩
def Fo_s_l01Through (p : Int) (a b : P2) : Option (Int × Int × Int) :=
 (if (prB p) = true then some (s_l01Normal p (wI (a.2 - b.2)) (wI (b.1 - a.1)) (wI ((wI (a.1 * b.2)) - (wI (b.1 * a.2))))) else none)
theorem eq_s_l01Through (p : Int) (a b : P2) : eT S_s_l01Through 181 30 dec_a3 [pI p, pA a, pA b] = Fo_s_l01Through p a b := by
 kernel_rfl
def s_l01Through (p : Int) (a b : P2) : Int × Int × Int :=
 (s_l01Normal p (wrap64 (a.2 - b.2)) (wrap64 (b.1 - a.1)) (wrap64 ((wrap64 (a.1 * b.2)) - (wrap64 (b.1 * a.2)))))
theorem tot_s_l01Through (p : Int) (a b : P2) (hp : (prB p) = true) : Fo_s_l01Through p a b = some (s_l01Through p a b) := by
 try have h0 := prB_ne hp
 unfold Fo_s_l01Through s_l01Through
 (try simp only [wI_eq])
 repeat' (first | with_reducible rfl | with_reducible refine chk_opt hp ?_ | with_reducible refine chk_opt h0 ?_ | refine chk_opt (and_all hp fun _ => hp) ?_ | refine chk_opt (and_all hp fun _ => rfl) ?_ | refine ite_opt (fun _ => ?_) (fun _ => ?_) | rfl)
def run_s_l01Through : RunP
 | [.v (.int .i64 p), .v (.agg ⟨[.int .i64 a0, .int .i64 a1]⟩), .v (.agg ⟨[.int .i64 b0, .int .i64 b1]⟩)] => some (prB p, enc_a3 (s_l01Through p (a0, a1) (b0, b1)))
 | _ => none
theorem sound_s_l01Through : Sound prog 181 run_s_l01Through := by
 refine sound_1 de_a3 SO_s_l01Through (by kernel_rfl) func181 ntmps181 rfl (by kernel_rfl) fun q r E => ?_
 unfold run_s_l01Through at E
 split at E
 ·obtain ⟨hp, rfl⟩ := so2 E
  rename_i p a0 a1 b0 b1
  exact ⟨_, _, rfl, (eq_s_l01Through p (a0, a1) (b0, b1)).trans (tot_s_l01Through p (a0, a1) (b0, b1) hp)⟩
 ·cases E

def S_i_arePerpendicular : Sums := ⟨tblS [(216, run_i_way), (129, run_i_product)], tblM [], false⟩
theorem SO_i_arePerpendicular : SumsOK prog S_i_arePerpendicular := ⟨tblS_ok ⟨⟨call216, sound_i_way⟩, ⟨call129, sound_i_product⟩, ⟨⟩⟩, tM⟩
def Fo_i_arePerpendicular (p colour : Int) (l m : P3) : Option (Bool) :=
 (if (prB p) = true then (if (prB p) = true then (if (prB p) = true then some ((i_product p colour (i_way p l) (i_way p m)) == 0) else none) else none) else none)
theorem eq_i_arePerpendicular (p colour : Int) (l m : P3) : eT S_i_arePerpendicular 168 19 dec_b [pI p, pI colour, pB l, pB m] = Fo_i_arePerpendicular p colour l m := by
 kernel_rfl
def i_arePerpendicular (p colour : Int) (l m : P3) : Bool :=
 (i_product p colour (i_way p l) (i_way p m)) == 0
theorem tot_i_arePerpendicular (p colour : Int) (l m : P3) (hp : (prB p) = true) : Fo_i_arePerpendicular p colour l m = some (i_arePerpendicular p colour l m) := by
 try have h0 := prB_ne hp
 unfold Fo_i_arePerpendicular i_arePerpendicular
 (try simp only [wI_eq])
 repeat' (first | with_reducible rfl | with_reducible refine chk_opt hp ?_ | with_reducible refine chk_opt h0 ?_ | refine chk_opt (and_all hp fun _ => hp) ?_ | refine chk_opt (and_all hp fun _ => rfl) ?_ | refine ite_opt (fun _ => ?_) (fun _ => ?_) | rfl)
def run_i_arePerpendicular : RunP
 | [.v (.int .i64 p), .v (.int .i64 colour), .v (.agg ⟨[.int .i64 l0, .int .i64 l1, .int .i64 l2]⟩), .v (.agg ⟨[.int .i64 m0, .int .i64 m1, .int .i64 m2]⟩)] => some (prB p, enc_b (i_arePerpendicular p colour (l0, l1, l2) (m0, m1, m2)))
 | _ => none
theorem sound_i_arePerpendicular : Sound prog 168 run_i_arePerpendicular := by
 refine sound_1 de_b SO_i_arePerpendicular (by kernel_rfl) func168 ntmps168 rfl (by kernel_rfl) fun q r E => ?_
 unfold run_i_arePerpendicular at E
 split at E
 ·obtain ⟨hp, rfl⟩ := so2 E
  rename_i p colour l0 l1 l2 m0 m1 m2
  exact ⟨_, _, rfl, (eq_i_arePerpendicular p colour (l0, l1, l2) (m0, m1, m2)).trans (tot_i_arePerpendicular p colour (l0, l1, l2) (m0, m1, m2) hp)⟩
 ·cases E

def S_i_isNull : Sums := ⟨tblS [(168, run_i_arePerpendicular)], tblM [], false⟩
theorem SO_i_isNull : SumsOK prog S_i_isNull := ⟨tblS_ok ⟨⟨call168, sound_i_arePerpendicular⟩, ⟨⟩⟩, tM⟩
def Fo_i_isNull (p colour : Int) (l : P3) : Option (Bool) :=
 (if (prB p) = true then some (i_arePerpendicular p colour l l) else none)
theorem eq_i_isNull (p colour : Int) (l : P3) : eT S_i_isNull 113 12 dec_b [pI p, pI colour, pB l] = Fo_i_isNull p colour l := by
 kernel_rfl
def i_isNull (p colour : Int) (l : P3) : Bool :=
 (i_arePerpendicular p colour l l)
theorem tot_i_isNull (p colour : Int) (l : P3) (hp : (prB p) = true) : Fo_i_isNull p colour l = some (i_isNull p colour l) := by
 try have h0 := prB_ne hp
 unfold Fo_i_isNull i_isNull
 (try simp only [wI_eq])
 repeat' (first | with_reducible rfl | with_reducible refine chk_opt hp ?_ | with_reducible refine chk_opt h0 ?_ | refine chk_opt (and_all hp fun _ => hp) ?_ | refine chk_opt (and_all hp fun _ => rfl) ?_ | refine ite_opt (fun _ => ?_) (fun _ => ?_) | rfl)
def run_i_isNull : RunP
 | [.v (.int .i64 p), .v (.int .i64 colour), .v (.agg ⟨[.int .i64 l0, .int .i64 l1, .int .i64 l2]⟩)] => some (prB p, enc_b (i_isNull p colour (l0, l1, l2)))
 | _ => none
theorem sound_i_isNull : Sound prog 113 run_i_isNull := by
 refine sound_1 de_b SO_i_isNull (by kernel_rfl) func113 ntmps113 rfl (by kernel_rfl) fun q r E => ?_
 unfold run_i_isNull at E
 split at E
 ·obtain ⟨hp, rfl⟩ := so2 E
  rename_i p colour l0 l1 l2
  exact ⟨_, _, rfl, (eq_i_isNull p colour (l0, l1, l2)).trans (tot_i_isNull p colour (l0, l1, l2) hp)⟩
 ·cases E

def S_i_linesThrough : Sums := ⟨tblS [(173, run_i_rest)], tblM [], false⟩
theorem SO_i_linesThrough : SumsOK prog S_i_linesThrough := ⟨tblS_ok ⟨⟨call173, sound_i_rest⟩, ⟨⟩⟩, tM⟩
def T_i_linesThrough_0 (p : Int) (a : P2) (l13 : List Int) (m13 : Nat) (b : Int) : Tab := ⟨[.val (.int .i64 p), .val (.agg ⟨[.int .i64 a.1, .int .i64 a.2]⟩), .junk, .ptr 12 0, .val (.slice none 0 0), .row 52, .val (.int .i64 b), .val (.int .i64 p), .ptr 12 1, .val (.int .i64 a.2), .val (.int .i64 (wI (0 - a.2))), .val (.int .i64 (i_rest p (wI (0 - a.2)))), .val (.agg ⟨[.int .i64 0, .int .i64 1, .int .i64 (i_rest p (wI (0 - a.2)))]⟩), .junk, .junk, .junk, .junk, .junk, .junk, .junk, .junk, .junk, .junk, .junk, .junk, .junk, .junk, .junk, .junk, .junk, .junk, .junk, .junk, .junk, .junk], [(12, .box 25 [.val (.int .i64 a.1), .val (.int .i64 a.2)]), (52, .row 90 3 m13 (.ints l13))]⟩
def X_i_linesThrough_0 (P : Program) (fu : Nat) (p : Int) (a : P2) (f : Nat) (l13 : List Int) (m13 : Nat) (b : Int) : Option (Nat × List Int) := loopK (exec P S_i_linesThrough 35 (fun _ => fu + 100) (Code.sub [1, 1, 0, 1, 0, 0] (bodyF P 176))) f (T_i_linesThrough_0 p a l13 m13 b) (kBlock 0 (kSeq (fun zs9 => exec P S_i_linesThrough 35 (fun _ => fu + 100) (Code.sub [1, 1, 1] (bodyF P 176)) zs9 (finT P 176 dec_l90_3)) (finT P 176 dec_l90_3)))
def B_i_linesThrough_0 (p : Int) (a : P2) (rec0 : (List Int) → Nat → Int → Option (Nat × List Int)) (l13 : List Int) (m13 : Nat) (b : Int) : Option (Nat × List Int) :=
 (if (decide (b < p)) = true then (if (prB p) = true then (if (Nat.ble 0 1 && Nat.ble (m13 + 1) 2000000 && Nat.beq 3 (3)) = true then rec0 (l13 ++ [1, b, (i_rest p (wI ((wI (0 - a.1)) - (wI (b * a.2)))))]) (m13 + 1) (wI (b + 1)) else none) else none) else some (m13, l13))
def L_i_linesThrough_0 (fu : Nat) (p : Int) (a : P2) : Nat → (List Int) → Nat → Int → Option (Nat × List Int)
 | 0, _, _, _ => none
 | f + 1, l13, m13, b => B_i_linesThrough_0 p a (L_i_linesThrough_0 fu p a f) l13 m13 b
theorem loop_i_linesThrough_0 (fu : Nat) (p : Int) (a : P2) : ∀ (f : Nat) (l13 : List Int) (m13 : Nat) (b : Int), X_i_linesThrough_0 prog fu p a f l13 m13 b = L_i_linesThrough_0 fu p a f l13 m13 b := by
 intro f
 induction f with
 | zero => intros; rfl
 | succ f ih =>
  intro l13 m13 b
  have h1 : X_i_linesThrough_0 prog fu p a (f + 1) l13 m13 b = B_i_linesThrough_0 p a (X_i_linesThrough_0 prog fu p a f) l13 m13 b := by kernel_rfl
  have h2 : X_i_linesThrough_0 prog fu p a f = L_i_linesThrough_0 fu p a f := by funext l13 m13 b; exact ih l13 m13 b
  rw [h1, h2]
  rfl
def G_i_linesThrough (p : Int) (a : P2) (lo0 : (List Int) → Nat → Int → Option (Nat × List Int)) : Option (Nat × List Int) :=
 (if (prB p) = true then lo0 [0, 1, (i_rest p (wI (0 - a.2)))] 1 0 else none)
def Fo_i_linesThrough (fu : Nat) (p : Int) (a : P2) : Option (Nat × List Int) := G_i_linesThrough p a (L_i_linesThrough_0 fu p a (fu + 100))
theorem eq_i_linesThrough (fu : Nat) (p : Int) (a : P2) : eF fu S_i_linesThrough 176 35 dec_l90_3 [pI p, pA a] = Fo_i_linesThrough fu p a := by
 have h1 : eF fu S_i_linesThrough 176 35 dec_l90_3 [pI p, pA a] = G_i_linesThrough p a (X_i_linesThrough_0 prog fu p a (fu + 100)) := by kernel_rfl
 have c0 : X_i_linesThrough_0 prog fu p a (fu + 100) = L_i_linesThrough_0 fu p a (fu + 100) := by funext l13 m13 b; exact loop_i_linesThrough_0 fu p a (fu + 100) l13 m13 b
 rw [h1, c0]
 rfl
def linesT (p : Int) (a : P2) : List P3 := ((0, 1, i_rest p (wrap64 (0 - a.2))) :: ((List.range p.toNat).map fun b : Nat => ((1 : Int), (b : Int), i_rest p (wrap64 (wrap64 (0 - a.1) - wrap64 ((b : Int) * a.2))))))
def i_linesThrough (p : Int) (a : P2) : Nat × List Int := ((linesT p a).length, flat3 (linesT p a))
theorem linesT_len {p : Int} (hp : prB p = true) (a : P2) : (linesT p a).length ≤ 993 := by
 have h1 := (prB_nat hp).1
 unfold linesT
 simp; omega

theorem tot_i_linesThrough (p : Int) (a : P2) (hp : (prB p) = true) : Fo_i_linesThrough 1000000 p a = some (i_linesThrough p a) := by
 obtain ⟨h1, h0, hpn⟩ := prB_nat hp
 unfold Fo_i_linesThrough G_i_linesThrough
 rw [if_pos hp]
 refine (gather (flat := flat3) flat3_app rfl (L := fun f l m i => L_i_linesThrough_0 1000000 p a f l m i) (n := p.toNat) (b := 1) (M := 1) (fun b : Nat => [((1 : Int), (b : Int), i_rest p (wrap64 (wrap64 (0 - a.1) - wrap64 ((b : Int) * a.2))))]) (K := (some (i_linesThrough p a))) (l := [0, 1, i_rest p (wI (0 - a.2))]) (m := 1) (F := (1000000 + 100)) (by intro k hk; first | (split <;> simp) | simp_all)
  (fun f k l m hk hm => by
   show B_i_linesThrough_0 p a (L_i_linesThrough_0 1000000 p a f) l m (k : Int) = _
   unfold B_i_linesThrough_0
   simp only [cndp hk, hp, if_true, wI_eq]
   rw [if_pos (by simp; omega), show wrap64 ((k : Int) + 1) = ((k + 1 : Nat) : Int) from by rw [← wI_eq]; exact wrap_add1 hk (by omega)]
   rfl)
  (fun f hm => by
   show B_i_linesThrough_0 p a (L_i_linesThrough_0 1000000 p a f) ([0, 1, i_rest p (wI (0 - a.2))] ++ flat3 ((List.range p.toNat).flatMap (fun b : Nat => [((1 : Int), (b : Int), i_rest p (wrap64 (wrap64 (0 - a.1) - wrap64 ((b : Int) * a.2))))]))) (1 + ((List.range p.toNat).flatMap (fun b : Nat => [((1 : Int), (b : Int), i_rest p (wrap64 (wrap64 (0 - a.1) - wrap64 ((b : Int) * a.2))))])).length) ((p.toNat : Nat) : Int) = _
   unfold B_i_linesThrough_0
   rw [if_neg (by simp; omega), flatMap_one]
   refine congrArg some (Prod.ext ?_ ?_)
   ·simp [i_linesThrough, linesT]; omega
   ·simp only [wI_eq]
    rfl) (by omega) (Nat.le_refl _)).trans ?_
 rfl
def run_i_linesThrough : RunP
 | [.v (.int .i64 p), .v (.agg ⟨[.int .i64 a0, .int .i64 a1]⟩)] => some (prB p, enc_l90_3 (i_linesThrough p (a0, a1)))
 | _ => none
theorem sound_i_linesThrough : Sound prog 176 run_i_linesThrough := by
 refine sound_1 de_l90_3 SO_i_linesThrough (by kernel_rfl) func176 ntmps176 rfl (by kernel_rfl) fun q r E => ?_
 unfold run_i_linesThrough at E
 split at E
 ·obtain ⟨hp, rfl⟩ := so2 E
  rename_i p a0 a1
  exact ⟨_, _, rfl, (eq_i_linesThrough _ p (a0, a1)).trans (tot_i_linesThrough p (a0, a1) hp)⟩
 ·cases E

def S_i_perpendicular : Sums := ⟨tblS [(176, run_i_linesThrough), (168, run_i_arePerpendicular)], tblM [], false⟩
theorem SO_i_perpendicular : SumsOK prog S_i_perpendicular := ⟨tblS_ok ⟨⟨call176, sound_i_linesThrough⟩, ⟨call168, sound_i_arePerpendicular⟩, ⟨⟩⟩, tM⟩
def T_i_perpendicular_0 (p colour : Int) (l : P3) (a : P2) (t15 : Int) : Tab := ⟨[.val (.int .i64 p), .val (.int .i64 colour), .val (.agg ⟨[.int .i64 l.1, .int .i64 l.2.1, .int .i64 l.2.2]⟩), .val (.agg ⟨[.int .i64 a.1, .int .i64 a.2]⟩), .junk, .junk, .ptr 24 0, .ptr 28 0, .ptr 32 0, .junk, .junk, .val (.int .i64 p), .val (.agg ⟨[.int .i64 a.1, .int .i64 a.2]⟩), .row 52, .val (.int .i64 (((i_linesThrough p a).1 : Nat) : Int)), .val (.int .i64 t15), .junk, .junk, .junk, .junk, .junk, .junk, .junk, .junk, .junk, .junk, .junk], [(24, .box 90 [.val (.int .i64 l.1), .val (.int .i64 l.2.1), .val (.int .i64 l.2.2)]), (28, .box 25 [.val (.int .i64 a.1), .val (.int .i64 a.2)]), (32, .box 90 [.val (.int .i64 0), .val (.int .i64 0), .val (.int .i64 0)]), (52, .row 90 3 ((i_linesThrough p a).1) (.ints ((i_linesThrough p a).2)))]⟩
def X_i_perpendicular_0 (P : Program) (fu : Nat) (p colour : Int) (l : P3) (a : P2) (f : Nat) (t15 : Int) : Option (Int × Int × Int) := loopK (exec P S_i_perpendicular 27 (fun _ => fu + 100) (Code.sub [1, 0, 1, 0, 0] (bodyF P 170))) f (T_i_perpendicular_0 p colour l a t15) (kBlock 0 (kSeq (fun zs9 => exec P S_i_perpendicular 27 (fun _ => fu + 100) (Code.sub [1, 1] (bodyF P 170)) zs9 (finT P 170 dec_a3)) (finT P 170 dec_a3)))
def B_i_perpendicular_0 (p colour : Int) (l : P3) (a : P2) (rec0 : Int → Option (Int × Int × Int)) (t15 : Int) : Option (Int × Int × Int) :=
 (if (decide (t15 < (((i_linesThrough p a).1 : Nat) : Int))) = true then (if (decide (0 ≤ t15) && decide (t15 < (((i_linesThrough p a).1 : Nat) : Int))) = true then (if (Nat.ble (t15.toNat * 3 + 3) (((i_linesThrough p a).2).length)) = true then (if (prB p) = true then (if (i_arePerpendicular p colour l (((i_linesThrough p a).2).getD (t15.toNat * 3 + 0) 0, ((i_linesThrough p a).2).getD (t15.toNat * 3 + 1) 0, ((i_linesThrough p a).2).getD (t15.toNat * 3 + 2) 0)) = true then some (((i_linesThrough p a).2).getD (t15.toNat * 3 + 0) 0, ((i_linesThrough p a).2).getD (t15.toNat * 3 + 1) 0, ((i_linesThrough p a).2).getD (t15.toNat * 3 + 2) 0) else rec0 (wI (t15 + 1))) else none) else none) else none) else some (0, 0, 0))
def L_i_perpendicular_0 (fu : Nat) (p colour : Int) (l : P3) (a : P2) : Nat → Int → Option (Int × Int × Int)
 | 0, _ => none
 | f + 1, t15 => B_i_perpendicular_0 p colour l a (L_i_perpendicular_0 fu p colour l a f) t15
theorem loop_i_perpendicular_0 (fu : Nat) (p colour : Int) (l : P3) (a : P2) : ∀ (f : Nat) (t15 : Int), X_i_perpendicular_0 prog fu p colour l a f t15 = L_i_perpendicular_0 fu p colour l a f t15 := by
 intro f
 induction f with
 | zero => intros; rfl
 | succ f ih =>
  intro t15
  have h1 : X_i_perpendicular_0 prog fu p colour l a (f + 1) t15 = B_i_perpendicular_0 p colour l a (X_i_perpendicular_0 prog fu p colour l a f) t15 := by kernel_rfl
  have h2 : X_i_perpendicular_0 prog fu p colour l a f = L_i_perpendicular_0 fu p colour l a f := by funext t15; exact ih t15
  rw [h1, h2]
  rfl
def G_i_perpendicular (p colour : Int) (l : P3) (a : P2) (lo0 : Int → Option (Int × Int × Int)) : Option (Int × Int × Int) :=
 (if (prB p) = true then lo0 0 else none)
def Fo_i_perpendicular (fu : Nat) (p colour : Int) (l : P3) (a : P2) : Option (Int × Int × Int) := G_i_perpendicular p colour l a (L_i_perpendicular_0 fu p colour l a (fu + 100))
theorem eq_i_perpendicular (fu : Nat) (p colour : Int) (l : P3) (a : P2) : eF fu S_i_perpendicular 170 27 dec_a3 [pI p, pI colour, pB l, pA a] = Fo_i_perpendicular fu p colour l a := by
 have h1 : eF fu S_i_perpendicular 170 27 dec_a3 [pI p, pI colour, pB l, pA a] = G_i_perpendicular p colour l a (X_i_perpendicular_0 prog fu p colour l a (fu + 100)) := by kernel_rfl
 have c0 : X_i_perpendicular_0 prog fu p colour l a (fu + 100) = L_i_perpendicular_0 fu p colour l a (fu + 100) := by funext t15; exact loop_i_perpendicular_0 fu p colour l a (fu + 100) t15
 rw [h1, c0]
 rfl
def i_perpendicular (p colour : Int) (l : P3) (a : P2) : P3 := (((linesT p a).findSome? fun zz => if i_arePerpendicular p colour l zz = true then some zz else none)).getD (0, 0, 0)
theorem lo0_i_perpendicular (p colour : Int) (l : P3) (a : P2) (hp : prB p = true) {F : Nat} (hF : 993 < F) : L_i_perpendicular_0 1000000 p colour l a F 0 = some ((((linesT p a).findSome? fun zz => if i_arePerpendicular p colour l zz = true then some (zz) else none)).getD (0, 0, 0)) := by
 have hlen : (linesT p a).length ≤ 993 := linesT_len hp a
 have h := seek (L := fun f i => L_i_perpendicular_0 1000000 p colour l a f i) (n := (linesT p a).length) (F := F) (q := fun k => if i_arePerpendicular p colour l (R3 (flat3 (linesT p a)) k) = true then some ((R3 (flat3 (linesT p a)) k)) else none) (e := (0, 0, 0)) (by omega)
  (fun f k hk => by
   show B_i_perpendicular_0 p colour l a (L_i_perpendicular_0 1000000 p colour l a f) (k : Int) = _
   unfold B_i_perpendicular_0
   have e0 : decide (0 ≤ (k : Int)) = true := by simp
   have e1 := cnd hk
   have e3 : (k : Int).toNat = k := Int.toNat_natCast k
   have e4 := row3_ok (flat3_len _) hk
   rw [show i_linesThrough p a = ((linesT p a).length, flat3 (linesT p a)) from rfl]
   simp only [e0, e1, e3, e4, hp, Bool.and_true, Bool.true_and, if_true, wrap_add1 hk (by omega)]
   have hr : ((flat3 (linesT p a)).getD (k * 3 + 0) 0, (flat3 (linesT p a)).getD (k * 3 + 1) 0, (flat3 (linesT p a)).getD (k * 3 + 2) 0) = R3 (flat3 (linesT p a)) k := rfl
   try simp only [hr]
   generalize (i_arePerpendicular p colour l (R3 (flat3 (linesT p a)) k)) = c0
   cases c0 <;> rfl)
  (fun f => by
   show B_i_perpendicular_0 p colour l a (L_i_perpendicular_0 1000000 p colour l a f) (((linesT p a).length : Nat) : Int) = _
   unfold B_i_perpendicular_0
   rw [show i_linesThrough p a = ((linesT p a).length, flat3 (linesT p a)) from rfl]
   rw [if_neg (by simp)])
 have h2 := find_row (linesT p a) (0, 0, 0) (fun zz => if i_arePerpendicular p colour l zz = true then some (zz) else none)
 rw [← h2]
 simp only [← R3_flat]
 exact h

theorem tot_i_perpendicular (p colour : Int) (l : P3) (a : P2) (hp : (prB p) = true) : Fo_i_perpendicular 1000000 p colour l a = some (i_perpendicular p colour l a) := by
 unfold Fo_i_perpendicular G_i_perpendicular
 rw [if_pos hp]
 exact lo0_i_perpendicular p colour l a hp (by omega)
def run_i_perpendicular : RunP
 | [.v (.int .i64 p), .v (.int .i64 colour), .v (.agg ⟨[.int .i64 l0, .int .i64 l1, .int .i64 l2]⟩), .v (.agg ⟨[.int .i64 a0, .int .i64 a1]⟩)] => some (prB p, enc_a3 (i_perpendicular p colour (l0, l1, l2) (a0, a1)))
 | _ => none
theorem sound_i_perpendicular : Sound prog 170 run_i_perpendicular := by
 refine sound_1 de_a3 SO_i_perpendicular (by kernel_rfl) func170 ntmps170 rfl (by kernel_rfl) fun q r E => ?_
 unfold run_i_perpendicular at E
 split at E
 ·obtain ⟨hp, rfl⟩ := so2 E
  rename_i p colour l0 l1 l2 a0 a1
  exact ⟨_, _, rfl, (eq_i_perpendicular _ p colour (l0, l1, l2) (a0, a1)).trans (tot_i_perpendicular p colour (l0, l1, l2) (a0, a1) hp)⟩
 ·cases E

def S_i_meet : Sums := ⟨tblS [(173, run_i_rest), (137, run_i_divide)], tblM [], false⟩
theorem SO_i_meet : SumsOK prog S_i_meet := ⟨tblS_ok ⟨⟨call173, sound_i_rest⟩, ⟨call137, sound_i_divide⟩, ⟨⟩⟩, tM⟩
def Fo_i_meet (p : Int) (l m : P3) : Option (Int × Int) :=
 (if (prB p) = true then (if (prB p) = true then (if (prB p) = true then (if (prB p) = true then (if (prB p) = true then some ((i_divide p (i_rest p (wI ((wI (l.2.1 * m.2.2)) - (wI (l.2.2 * m.2.1))))) (i_rest p (wI ((wI (l.1 * m.2.1)) - (wI (l.2.1 * m.1)))))), (i_divide p (i_rest p (wI ((wI (l.2.2 * m.1)) - (wI (l.1 * m.2.2))))) (i_rest p (wI ((wI (l.1 * m.2.1)) - (wI (l.2.1 * m.1))))))) else none) else none) else none) else none) else none)
theorem eq_i_meet (p : Int) (l m : P3) : eT S_i_meet 169 54 dec_a2 [pI p, pB l, pB m] = Fo_i_meet p l m := by
 kernel_rfl
def i_meet (p : Int) (l m : P3) : Int × Int :=
 ((i_divide p (i_rest p (wrap64 ((wrap64 (l.2.1 * m.2.2)) - (wrap64 (l.2.2 * m.2.1))))) (i_rest p (wrap64 ((wrap64 (l.1 * m.2.1)) - (wrap64 (l.2.1 * m.1)))))), (i_divide p (i_rest p (wrap64 ((wrap64 (l.2.2 * m.1)) - (wrap64 (l.1 * m.2.2))))) (i_rest p (wrap64 ((wrap64 (l.1 * m.2.1)) - (wrap64 (l.2.1 * m.1)))))))
theorem tot_i_meet (p : Int) (l m : P3) (hp : (prB p) = true) : Fo_i_meet p l m = some (i_meet p l m) := by
 try have h0 := prB_ne hp
 unfold Fo_i_meet i_meet
 (try simp only [wI_eq])
 repeat' (first | with_reducible rfl | with_reducible refine chk_opt hp ?_ | with_reducible refine chk_opt h0 ?_ | refine chk_opt (and_all hp fun _ => hp) ?_ | refine chk_opt (and_all hp fun _ => rfl) ?_ | refine ite_opt (fun _ => ?_) (fun _ => ?_) | rfl)
def run_i_meet : RunP
 | [.v (.int .i64 p), .v (.agg ⟨[.int .i64 l0, .int .i64 l1, .int .i64 l2]⟩), .v (.agg ⟨[.int .i64 m0, .int .i64 m1, .int .i64 m2]⟩)] => some (prB p, enc_a2 (i_meet p (l0, l1, l2) (m0, m1, m2)))
 | _ => none
theorem sound_i_meet : Sound prog 169 run_i_meet := by
 refine sound_1 de_a2 SO_i_meet (by kernel_rfl) func169 ntmps169 rfl (by kernel_rfl) fun q r E => ?_
 unfold run_i_meet at E
 split at E
 ·obtain ⟨hp, rfl⟩ := so2 E
  rename_i p l0 l1 l2 m0 m1 m2
  exact ⟨_, _, rfl, (eq_i_meet p (l0, l1, l2) (m0, m1, m2)).trans (tot_i_meet p (l0, l1, l2) (m0, m1, m2) hp)⟩
 ·cases E

def S_i_foot : Sums := ⟨tblS [(170, run_i_perpendicular), (169, run_i_meet)], tblM [], false⟩
theorem SO_i_foot : SumsOK prog S_i_foot := ⟨tblS_ok ⟨⟨call170, sound_i_perpendicular⟩, ⟨call169, sound_i_meet⟩, ⟨⟩⟩, tM⟩
def Fo_i_foot (p colour : Int) (a : P2) (l : P3) : Option (Int × Int) :=
 (if (prB p) = true then (if (prB p) = true then some (i_meet p l (i_perpendicular p colour l a)) else none) else none)
theorem eq_i_foot (p colour : Int) (a : P2) (l : P3) : eT S_i_foot 114 17 dec_a2 [pI p, pI colour, pA a, pB l] = Fo_i_foot p colour a l := by
 kernel_rfl
def i_foot (p colour : Int) (a : P2) (l : P3) : Int × Int :=
 (i_meet p l (i_perpendicular p colour l a))
theorem tot_i_foot (p colour : Int) (a : P2) (l : P3) (hp : (prB p) = true) : Fo_i_foot p colour a l = some (i_foot p colour a l) := by
 try have h0 := prB_ne hp
 unfold Fo_i_foot i_foot
 (try simp only [wI_eq])
 repeat' (first | with_reducible rfl | with_reducible refine chk_opt hp ?_ | with_reducible refine chk_opt h0 ?_ | refine chk_opt (and_all hp fun _ => hp) ?_ | refine chk_opt (and_all hp fun _ => rfl) ?_ | refine ite_opt (fun _ => ?_) (fun _ => ?_) | rfl)
def run_i_foot : RunP
 | [.v (.int .i64 p), .v (.int .i64 colour), .v (.agg ⟨[.int .i64 a0, .int .i64 a1]⟩), .v (.agg ⟨[.int .i64 l0, .int .i64 l1, .int .i64 l2]⟩)] => some (prB p, enc_a2 (i_foot p colour (a0, a1) (l0, l1, l2)))
 | _ => none
theorem sound_i_foot : Sound prog 114 run_i_foot := by
 refine sound_1 de_a2 SO_i_foot (by kernel_rfl) func114 ntmps114 rfl (by kernel_rfl) fun q r E => ?_
 unfold run_i_foot at E
 split at E
 ·obtain ⟨hp, rfl⟩ := so2 E
  rename_i p colour a0 a1 l0 l1 l2
  exact ⟨_, _, rfl, (eq_i_foot p colour (a0, a1) (l0, l1, l2)).trans (tot_i_foot p colour (a0, a1) (l0, l1, l2) hp)⟩
 ·cases E

def S_s_l02Colour : Sums := ⟨tblS [(160, run_s_l01In)], tblM [], false⟩
theorem SO_s_l02Colour : SumsOK prog S_s_l02Colour := ⟨tblS_ok ⟨⟨call160, sound_s_l01In⟩, ⟨⟩⟩, tM⟩
def Fo_s_l02Colour (colour : Int) : Option (Bool) :=
 some (s_l01In colour 0 2)
theorem eq_s_l02Colour (colour : Int) : eT S_s_l02Colour 98 5 dec_b [pI colour] = Fo_s_l02Colour colour := by
 kernel_rfl
def s_l02Colour (colour : Int) : Bool :=
 (s_l01In colour 0 2)
theorem tot_s_l02Colour (colour : Int) : Fo_s_l02Colour colour = some (s_l02Colour colour) := by
 unfold Fo_s_l02Colour s_l02Colour
 (try simp only [wI_eq])
 repeat' (first | with_reducible rfl | refine ite_opt (fun _ => ?_) (fun _ => ?_) | rfl)
def run_s_l02Colour : RunP
 | [.v (.int .i64 colour)] => some (true, enc_b (s_l02Colour colour))
 | _ => none
theorem sound_s_l02Colour : Sound prog 98 run_s_l02Colour := by
 refine sound_1 de_b SO_s_l02Colour (by kernel_rfl) func98 ntmps98 rfl (by kernel_rfl) fun q r E => ?_
 unfold run_s_l02Colour at E
 split at E
 ·obtain ⟨hp, rfl⟩ := so2 E
  rename_i colour
  exact ⟨_, _, rfl, (eq_s_l02Colour colour).trans (tot_s_l02Colour colour)⟩
 ·cases E

def S_s_l02Through : Sums := ⟨tblS [(242, run_s_l01Mod), (222, run_s_l01Normal)], tblM [], false⟩
theorem SO_s_l02Through : SumsOK prog S_s_l02Through := ⟨tblS_ok ⟨⟨call242, sound_s_l01Mod⟩, ⟨call222, sound_s_l01Normal⟩, ⟨⟩⟩, tM⟩
def Fo_s_l02Through (p colour : Int) (d a : P2) : Option (Int × Int × Int) :=
 (if (colour == 1) = true then (if (prB p) = true then (if (prB p) = true then (if (prB p) = true then some (s_l01Normal p d.1 (s_l01Mod (wI (0 - d.2)) p) (s_l01Mod (wI (0 - (wI ((wI (d.1 * a.1)) + (wI ((s_l01Mod (wI (0 - d.2)) p) * a.2)))))) p)) else none) else none) else none) else (if (colour == 2) = true then (if (prB p) = true then (if (prB p) = true then some (s_l01Normal p d.2 d.1 (s_l01Mod (wI (0 - (wI ((wI (d.2 * a.1)) + (wI (d.1 * a.2)))))) p)) else none) else none) else (if (prB p) = true then (if (prB p) = true then some (s_l01Normal p d.1 d.2 (s_l01Mod (wI (0 - (wI ((wI (d.1 * a.1)) + (wI (d.2 * a.2)))))) p)) else none) else none)))
theorem eq_s_l02Through (p colour : Int) (d a : P2) : eT S_s_l02Through 227 44 dec_a3 [pI p, pI colour, pA d, pA a] = Fo_s_l02Through p colour d a := by
 kernel_rfl
def s_l02Through (p colour : Int) (d a : P2) : Int × Int × Int :=
 (if (colour == 1) = true then (s_l01Normal p d.1 (s_l01Mod (wrap64 (0 - d.2)) p) (s_l01Mod (wrap64 (0 - (wrap64 ((wrap64 (d.1 * a.1)) + (wrap64 ((s_l01Mod (wrap64 (0 - d.2)) p) * a.2)))))) p)) else (if (colour == 2) = true then (s_l01Normal p d.2 d.1 (s_l01Mod (wrap64 (0 - (wrap64 ((wrap64 (d.2 * a.1)) + (wrap64 (d.1 * a.2)))))) p)) else (s_l01Normal p d.1 d.2 (s_l01Mod (wrap64 (0 - (wrap64 ((wrap64 (d.1 * a.1)) + (wrap64 (d.2 * a.2)))))) p))))
theorem tot_s_l02Through (p colour : Int) (d a : P2) (hp : (prB p) = true) : Fo_s_l02Through p colour d a = some (s_l02Through p colour d a) := by
 try have h0 := prB_ne hp
 unfold Fo_s_l02Through s_l02Through
 (try simp only [wI_eq])
 repeat' (first | with_reducible rfl | with_reducible refine chk_opt hp ?_ | with_reducible refine chk_opt h0 ?_ | refine chk_opt (and_all hp fun _ => hp) ?_ | refine chk_opt (and_all hp fun _ => rfl) ?_ | refine ite_opt (fun _ => ?_) (fun _ => ?_) | rfl)
def run_s_l02Through : RunP
 | [.v (.int .i64 p), .v (.int .i64 colour), .v (.agg ⟨[.int .i64 d0, .int .i64 d1]⟩), .v (.agg ⟨[.int .i64 a0, .int .i64 a1]⟩)] => some (prB p, enc_a3 (s_l02Through p colour (d0, d1) (a0, a1)))
 | _ => none
theorem sound_s_l02Through : Sound prog 227 run_s_l02Through := by
 refine sound_1 de_a3 SO_s_l02Through (by kernel_rfl) func227 ntmps227 rfl (by kernel_rfl) fun q r E => ?_
 unfold run_s_l02Through at E
 split at E
 ·obtain ⟨hp, rfl⟩ := so2 E
  rename_i p colour d0 d1 a0 a1
  exact ⟨_, _, rfl, (eq_s_l02Through p colour (d0, d1) (a0, a1)).trans (tot_s_l02Through p colour (d0, d1) (a0, a1) hp)⟩
 ·cases E

def S_s_l01Meet : Sums := ⟨tblS [(242, run_s_l01Mod), (233, run_s_l01Inverse)], tblM [], false⟩
theorem SO_s_l01Meet : SumsOK prog S_s_l01Meet := ⟨tblS_ok ⟨⟨call242, sound_s_l01Mod⟩, ⟨call233, sound_s_l01Inverse⟩, ⟨⟩⟩, tM⟩
def Fo_s_l01Meet (p : Int) (l m : P3) : Option ((Int × Int) × Bool) :=
 (if (prB p) = true then (if ((s_l01Mod (wI ((wI (l.1 * m.2.1)) - (wI (l.2.1 * m.1)))) p) == 0) = true then some ((0, 0), false) else (if (prB p) = true then (if (!(p == 0)) = true then (if (prB p) = true then (if (!(p == 0)) = true then (if (prB p) = true then some (((s_l01Mod (wI (((wI ((wI (l.2.1 * m.2.2)) - (wI (m.2.1 * l.2.2)))).tmod p) * (s_l01Inverse (s_l01Mod (wI ((wI (l.1 * m.2.1)) - (wI (l.2.1 * m.1)))) p) p))) p), (s_l01Mod (wI (((wI ((wI (m.1 * l.2.2)) - (wI (l.1 * m.2.2)))).tmod p) * (s_l01Inverse (s_l01Mod (wI ((wI (l.1 * m.2.1)) - (wI (l.2.1 * m.1)))) p) p))) p)), true) else none) else none) else none) else none) else none)) else none)
theorem eq_s_l01Meet (p : Int) (l m : P3) : eT S_s_l01Meet 226 64 dec_a2_b [pI p, pB l, pB m] = Fo_s_l01Meet p l m := by
 kernel_rfl
def s_l01Meet (p : Int) (l m : P3) : (Int × Int) × Bool :=
 (if ((s_l01Mod (wrap64 ((wrap64 (l.1 * m.2.1)) - (wrap64 (l.2.1 * m.1)))) p) == 0) = true then ((0, 0), false) else (((s_l01Mod (wrap64 (((wrap64 ((wrap64 (l.2.1 * m.2.2)) - (wrap64 (m.2.1 * l.2.2)))).tmod p) * (s_l01Inverse (s_l01Mod (wrap64 ((wrap64 (l.1 * m.2.1)) - (wrap64 (l.2.1 * m.1)))) p) p))) p), (s_l01Mod (wrap64 (((wrap64 ((wrap64 (m.1 * l.2.2)) - (wrap64 (l.1 * m.2.2)))).tmod p) * (s_l01Inverse (s_l01Mod (wrap64 ((wrap64 (l.1 * m.2.1)) - (wrap64 (l.2.1 * m.1)))) p) p))) p)), true))
theorem tot_s_l01Meet (p : Int) (l m : P3) (hp : (prB p) = true) : Fo_s_l01Meet p l m = some (s_l01Meet p l m) := by
 try have h0 := prB_ne hp
 unfold Fo_s_l01Meet s_l01Meet
 (try simp only [wI_eq])
 repeat' (first | with_reducible rfl | with_reducible refine chk_opt hp ?_ | with_reducible refine chk_opt h0 ?_ | refine chk_opt (and_all hp fun _ => hp) ?_ | refine chk_opt (and_all hp fun _ => rfl) ?_ | refine ite_opt (fun _ => ?_) (fun _ => ?_) | rfl)
def run_s_l01Meet : RunP
 | [.v (.int .i64 p), .v (.agg ⟨[.int .i64 l0, .int .i64 l1, .int .i64 l2]⟩), .v (.agg ⟨[.int .i64 m0, .int .i64 m1, .int .i64 m2]⟩)] => some (prB p, enc_a2_b (s_l01Meet p (l0, l1, l2) (m0, m1, m2)))
 | _ => none
theorem sound_s_l01Meet : Sound prog 226 run_s_l01Meet := by
 refine sound_1 de_a2_b SO_s_l01Meet (by kernel_rfl) func226 ntmps226 rfl (by kernel_rfl) fun q r E => ?_
 unfold run_s_l01Meet at E
 split at E
 ·obtain ⟨hp, rfl⟩ := so2 E
  rename_i p l0 l1 l2 m0 m1 m2
  exact ⟨_, _, rfl, (eq_s_l01Meet p (l0, l1, l2) (m0, m1, m2)).trans (tot_s_l01Meet p (l0, l1, l2) (m0, m1, m2) hp)⟩
 ·cases E

def S_s_l02Foot : Sums := ⟨tblS [(225, run_s_l02Direction), (227, run_s_l02Through), (226, run_s_l01Meet)], tblM [], false⟩
theorem SO_s_l02Foot : SumsOK prog S_s_l02Foot := ⟨tblS_ok ⟨⟨call225, sound_s_l02Direction⟩, ⟨call227, sound_s_l02Through⟩, ⟨call226, sound_s_l01Meet⟩, ⟨⟩⟩, tM⟩
def Fo_s_l02Foot (p colour : Int) (a : P2) (l : P3) : Option ((Int × Int) × Bool) :=
 (if (prB p) = true then (if (prB p) = true then (if (prB p) = true then some (((s_l01Meet p l (s_l02Through p colour (s_l02Direction p l) a)).1), (s_l01Meet p l (s_l02Through p colour (s_l02Direction p l) a)).2) else none) else none) else none)
theorem eq_s_l02Foot (p colour : Int) (a : P2) (l : P3) : eT S_s_l02Foot 184 22 dec_a2_b [pI p, pI colour, pA a, pB l] = Fo_s_l02Foot p colour a l := by
 kernel_rfl
def s_l02Foot (p colour : Int) (a : P2) (l : P3) : (Int × Int) × Bool :=
 (((s_l01Meet p l (s_l02Through p colour (s_l02Direction p l) a)).1), (s_l01Meet p l (s_l02Through p colour (s_l02Direction p l) a)).2)
theorem tot_s_l02Foot (p colour : Int) (a : P2) (l : P3) (hp : (prB p) = true) : Fo_s_l02Foot p colour a l = some (s_l02Foot p colour a l) := by
 try have h0 := prB_ne hp
 unfold Fo_s_l02Foot s_l02Foot
 (try simp only [wI_eq])
 repeat' (first | with_reducible rfl | with_reducible refine chk_opt hp ?_ | with_reducible refine chk_opt h0 ?_ | refine chk_opt (and_all hp fun _ => hp) ?_ | refine chk_opt (and_all hp fun _ => rfl) ?_ | refine ite_opt (fun _ => ?_) (fun _ => ?_) | rfl)
def run_s_l02Foot : RunP
 | [.v (.int .i64 p), .v (.int .i64 colour), .v (.agg ⟨[.int .i64 a0, .int .i64 a1]⟩), .v (.agg ⟨[.int .i64 l0, .int .i64 l1, .int .i64 l2]⟩)] => some (prB p, enc_a2_b (s_l02Foot p colour (a0, a1) (l0, l1, l2)))
 | _ => none
theorem sound_s_l02Foot : Sound prog 184 run_s_l02Foot := by
 refine sound_1 de_a2_b SO_s_l02Foot (by kernel_rfl) func184 ntmps184 rfl (by kernel_rfl) fun q r E => ?_
 unfold run_s_l02Foot at E
 split at E
 ·obtain ⟨hp, rfl⟩ := so2 E
  rename_i p colour a0 a1 l0 l1 l2
  exact ⟨_, _, rfl, (eq_s_l02Foot p colour (a0, a1) (l0, l1, l2)).trans (tot_s_l02Foot p colour (a0, a1) (l0, l1, l2) hp)⟩
 ·cases E

def S_i_pointsAt_c1 : Sums := ⟨tblS [(72, run_i_quadrance)], tblM [], false⟩
theorem SO_i_pointsAt_c1 : SumsOK prog S_i_pointsAt_c1 := ⟨tblS_ok ⟨⟨call72, sound_i_quadrance⟩, ⟨⟩⟩, tM⟩
def Fo_i_pointsAt_c1 (b : P2) (c0 c1 : Int) (c2 : P2) (c3 : Int) : Option (Bool) :=
 (if (prB c0) = true then some ((i_quadrance c0 c1 c2 b) == c3) else none)
theorem eq_i_pointsAt_c1 (b : P2) (c0 c1 : Int) (c2 : P2) (c3 : Int) : eT S_i_pointsAt_c1 175 14 dec_b [pA b, .p [.int .i64 c0], .p [.int .i64 c1], .p [.int .i64 c2.1, .int .i64 c2.2], .p [.int .i64 c3]] = Fo_i_pointsAt_c1 b c0 c1 c2 c3 := by
 kernel_rfl
def i_pointsAt_c1 (b : P2) (c0 c1 : Int) (c2 : P2) (c3 : Int) : Bool :=
 (i_quadrance c0 c1 c2 b) == c3
theorem tot_i_pointsAt_c1 (b : P2) (c0 c1 : Int) (c2 : P2) (c3 : Int) (hp : (prB c0) = true) : Fo_i_pointsAt_c1 b c0 c1 c2 c3 = some (i_pointsAt_c1 b c0 c1 c2 c3) := by
 try have h0 := prB_ne hp
 unfold Fo_i_pointsAt_c1 i_pointsAt_c1
 (try simp only [wI_eq])
 repeat' (first | with_reducible rfl | with_reducible refine chk_opt hp ?_ | with_reducible refine chk_opt h0 ?_ | refine chk_opt (and_all hp fun _ => hp) ?_ | refine chk_opt (and_all hp fun _ => rfl) ?_ | refine ite_opt (fun _ => ?_) (fun _ => ?_) | rfl)
def run_i_pointsAt_c1 : RunP
 | [.v (.agg ⟨[.int .i64 b0, .int .i64 b1]⟩), .p [.int .i64 c0], .p [.int .i64 c1], .p [.int .i64 c20, .int .i64 c21], .p [.int .i64 c3]] => some (prB c0, enc_b (i_pointsAt_c1 (b0, b1) c0 c1 (c20, c21) c3))
 | _ => none
theorem sound_i_pointsAt_c1 : Sound prog 175 run_i_pointsAt_c1 := by
 refine sound_1 de_b SO_i_pointsAt_c1 (by kernel_rfl) func175 ntmps175 rfl (by kernel_rfl) fun q r E => ?_
 unfold run_i_pointsAt_c1 at E
 split at E
 ·obtain ⟨hp, rfl⟩ := so2 E
  rename_i b0 b1 c0 c1 c20 c21 c3
  exact ⟨_, _, rfl, (eq_i_pointsAt_c1 (b0, b1) c0 c1 (c20, c21) c3).trans (tot_i_pointsAt_c1 (b0, b1) c0 c1 (c20, c21) c3 hp)⟩
 ·cases E

def S_i_allPoints : Sums := ⟨tblS [], tblM [], false⟩
theorem SO_i_allPoints : SumsOK prog S_i_allPoints := ⟨tblS_ok ⟨⟩, tM⟩
def T_i_allPoints_2 (p : Int) (l6 : List Int) (m6 : Nat) (x : Int) : Tab := ⟨[.val (.int .i64 p), .junk, .val (.slice none 0 0), .row 24, .val (.int .i64 x), .junk, .junk, .junk, .junk, .junk, .junk, .junk, .junk, .junk, .junk, .junk, .junk, .junk, .junk, .junk, .junk, .junk, .junk, .junk], [(24, .row 25 2 m6 (.ints l6))]⟩
def T_i_allPoints_3 (p : Int) (l6 : List Int) (m6 : Nat) (x : Int) (l6' : List Int) (m6' : Nat) (y : Int) : Tab := ⟨[.val (.int .i64 p), .junk, .val (.slice none 0 0), .row 24, .val (.int .i64 x), .val (.int .i64 y), .junk, .val (.int .i64 x), .val (.int .i64 p), .val (.bool (decide (x < p))), .junk, .junk, .junk, .junk, .junk, .junk, .junk, .junk, .junk, .junk, .junk, .junk, .junk, .junk], [(24, .row 25 2 m6' (.ints l6'))]⟩
def X_i_allPoints_3 (P : Program) (fu : Nat) (p : Int) (l6 : List Int) (m6 : Nat) (x : Int) (rc2 : Tab → Option (Nat × List Int)) (f : Nat) (l6' : List Int) (m6' : Nat) (y : Int) : Option (Nat × List Int) := loopK (exec P S_i_allPoints 24 (fun _ => fu + 100) (Code.sub [1, 1, 0, 1, 0, 0, 1, 0, 0, 1, 0, 0] (bodyF P 172))) f (T_i_allPoints_3 p l6 m6 x l6' m6' y) (kBlock 2 (kBlock 1 (kSeq (fun zs9 => exec P S_i_allPoints 24 (fun _ => fu + 100) (Code.sub [1, 1, 0, 1, 0, 0, 1, 1] (bodyF P 172)) zs9 (kLoop rc2 (T_i_allPoints_2 p l6 m6 x) (kBlock 0 (kSeq (fun zs9 => exec P S_i_allPoints 24 (fun _ => fu + 100) (Code.sub [1, 1, 1] (bodyF P 172)) zs9 (finT P 172 dec_l25_2)) (finT P 172 dec_l25_2))))) (kLoop rc2 (T_i_allPoints_2 p l6 m6 x) (kBlock 0 (kSeq (fun zs9 => exec P S_i_allPoints 24 (fun _ => fu + 100) (Code.sub [1, 1, 1] (bodyF P 172)) zs9 (finT P 172 dec_l25_2)) (finT P 172 dec_l25_2)))))))
def B_i_allPoints_3 (p : Int) (l6 : List Int) (m6 : Nat) (x : Int) (rec2 : (List Int) → Nat → Int → Option (Nat × List Int)) (rec3 : (List Int) → Nat → Int → Option (Nat × List Int)) (l6' : List Int) (m6' : Nat) (y : Int) : Option (Nat × List Int) :=
 (if (decide (y < p)) = true then (if (Nat.ble 0 1 && Nat.ble (m6' + 1) 2000000 && Nat.beq 2 (2)) = true then rec3 (l6' ++ [x, y]) (m6' + 1) (wI (y + 1)) else none) else rec2 l6' m6' (wI (x + 1)))
def L_i_allPoints_3 (fu : Nat) (p : Int) (l6 : List Int) (m6 : Nat) (x : Int) (rec2 : (List Int) → Nat → Int → Option (Nat × List Int)) : Nat → (List Int) → Nat → Int → Option (Nat × List Int)
 | 0, _, _, _ => none
 | f + 1, l6', m6', y => B_i_allPoints_3 p l6 m6 x rec2 (L_i_allPoints_3 fu p l6 m6 x rec2 f) l6' m6' y
theorem loop_i_allPoints_3 (fu : Nat) (p : Int) (l6 : List Int) (m6 : Nat) (x : Int) (rc2 : Tab → Option (Nat × List Int)) : ∀ (f : Nat) (l6' : List Int) (m6' : Nat) (y : Int), X_i_allPoints_3 prog fu p l6 m6 x rc2 f l6' m6' y = L_i_allPoints_3 fu p l6 m6 x (fun l6 m6 x => rc2 (T_i_allPoints_2 p l6 m6 x)) f l6' m6' y := by
 intro f
 induction f with
 | zero => intros; rfl
 | succ f ih =>
  intro l6' m6' y
  have h1 : X_i_allPoints_3 prog fu p l6 m6 x rc2 (f + 1) l6' m6' y = B_i_allPoints_3 p l6 m6 x (fun l6 m6 x => rc2 (T_i_allPoints_2 p l6 m6 x)) (X_i_allPoints_3 prog fu p l6 m6 x rc2 f) l6' m6' y := by kernel_rfl
  have h2 : X_i_allPoints_3 prog fu p l6 m6 x rc2 f = L_i_allPoints_3 fu p l6 m6 x (fun l6 m6 x => rc2 (T_i_allPoints_2 p l6 m6 x)) f := by funext l6' m6' y; exact ih l6' m6' y
  rw [h1, h2]
  rfl
def X_i_allPoints_2 (P : Program) (fu : Nat) (p : Int) (f : Nat) (l6 : List Int) (m6 : Nat) (x : Int) : Option (Nat × List Int) := loopK (exec P S_i_allPoints 24 (fun _ => fu + 100) (Code.sub [1, 1, 0, 1, 0, 0] (bodyF P 172))) f (T_i_allPoints_2 p l6 m6 x) (kBlock 0 (kSeq (fun zs9 => exec P S_i_allPoints 24 (fun _ => fu + 100) (Code.sub [1, 1, 1] (bodyF P 172)) zs9 (finT P 172 dec_l25_2)) (finT P 172 dec_l25_2)))
def B_i_allPoints_2 (p : Int) (lo3 : (List Int) → Nat → Int → Option (Nat × List Int)) (rec2 : (List Int) → Nat → Int → Option (Nat × List Int)) (l6 : List Int) (m6 : Nat) (x : Int) : Option (Nat × List Int) :=
 (if (decide (x < p)) = true then lo3 l6 m6 0 else some (m6, l6))
def L_i_allPoints_2 (fu : Nat) (p : Int) : Nat → (List Int) → Nat → Int → Option (Nat × List Int)
 | 0, _, _, _ => none
 | f + 1, l6, m6, x => B_i_allPoints_2 p (L_i_allPoints_3 fu p l6 m6 x (L_i_allPoints_2 fu p f) (fu + 100)) (L_i_allPoints_2 fu p f) l6 m6 x
theorem loop_i_allPoints_2 (fu : Nat) (p : Int) : ∀ (f : Nat) (l6 : List Int) (m6 : Nat) (x : Int), X_i_allPoints_2 prog fu p f l6 m6 x = L_i_allPoints_2 fu p f l6 m6 x := by
 intro f
 induction f with
 | zero => intros; rfl
 | succ f ih =>
  intro l6 m6 x
  have h1 : X_i_allPoints_2 prog fu p (f + 1) l6 m6 x = B_i_allPoints_2 p (X_i_allPoints_3 prog fu p l6 m6 x (fun t => loopK (exec prog S_i_allPoints 24 (fun _ => fu + 100) (Code.sub [1, 1, 0, 1, 0, 0] (bodyF prog 172))) f t (kBlock 0 (kSeq (fun zs9 => exec prog S_i_allPoints 24 (fun _ => fu + 100) (Code.sub [1, 1, 1] (bodyF prog 172)) zs9 (finT prog 172 dec_l25_2)) (finT prog 172 dec_l25_2)))) (fu + 100)) (X_i_allPoints_2 prog fu p f) l6 m6 x := by kernel_rfl
  have h2 : X_i_allPoints_2 prog fu p f = L_i_allPoints_2 fu p f := by funext l6 m6 x; exact ih l6 m6 x
  have c3 : (X_i_allPoints_3 prog fu p l6 m6 x (fun t => loopK (exec prog S_i_allPoints 24 (fun _ => fu + 100) (Code.sub [1, 1, 0, 1, 0, 0] (bodyF prog 172))) f t (kBlock 0 (kSeq (fun zs9 => exec prog S_i_allPoints 24 (fun _ => fu + 100) (Code.sub [1, 1, 1] (bodyF prog 172)) zs9 (finT prog 172 dec_l25_2)) (finT prog 172 dec_l25_2)))) (fu + 100)) = L_i_allPoints_3 fu p l6 m6 x (X_i_allPoints_2 prog fu p f) (fu + 100) := by funext l6' m6' y; exact loop_i_allPoints_3 fu p l6 m6 x (fun t => loopK (exec prog S_i_allPoints 24 (fun _ => fu + 100) (Code.sub [1, 1, 0, 1, 0, 0] (bodyF prog 172))) f t (kBlock 0 (kSeq (fun zs9 => exec prog S_i_allPoints 24 (fun _ => fu + 100) (Code.sub [1, 1, 1] (bodyF prog 172)) zs9 (finT prog 172 dec_l25_2)) (finT prog 172 dec_l25_2)))) (fu + 100) l6' m6' y
  rw [h1, c3, h2]
  rfl
def G_i_allPoints (p : Int) (lo2 : (List Int) → Nat → Int → Option (Nat × List Int)) : Option (Nat × List Int) :=
 lo2 [] 0 0
def Fo_i_allPoints (fu : Nat) (p : Int) : Option (Nat × List Int) := G_i_allPoints p (L_i_allPoints_2 fu p (fu + 100))
theorem eq_i_allPoints (fu : Nat) (p : Int) : eF fu S_i_allPoints 172 24 dec_l25_2 [pI p] = Fo_i_allPoints fu p := by
 have h1 : eF fu S_i_allPoints 172 24 dec_l25_2 [pI p] = G_i_allPoints p (X_i_allPoints_2 prog fu p (fu + 100)) := by kernel_rfl
 have c2 : X_i_allPoints_2 prog fu p (fu + 100) = L_i_allPoints_2 fu p (fu + 100) := by funext l6 m6 x; exact loop_i_allPoints_2 fu p (fu + 100) l6 m6 x
 rw [h1, c2]
 rfl
def i_allPoints (p : Int) : Nat × List Int := ((pts p).length, flat2 (pts p))
theorem lo3_i_allPoints {p : Int} (hp : prB p = true) (fu : Nat) (l6 : List Int) (m6 : Nat) (x : Int) (rec2 : List Int → Nat → Int → Option (Nat × List Int)) {F m : Nat} {l : List Int} (hF : p.toNat < F) (hm : m ≤ 100000) :
  L_i_allPoints_3 fu p l6 m6 x rec2 F l m 0 = rec2 (l ++ flat2 ((List.range p.toNat).flatMap (fun y : Nat => [((x : Int), (y : Int))]))) (m + ((List.range p.toNat).flatMap (fun y : Nat => [((x : Int), (y : Int))])).length) (wI (x + 1)) := by
 obtain ⟨h1, h0, hpn⟩ := prB_nat hp
 exact gather (flat := flat2) flat2_app rfl (L := fun f l m i => L_i_allPoints_3 fu p l6 m6 x rec2 f l m i) (n := p.toNat) (b := 1) (M := 100000) ((fun y : Nat => [((x : Int), (y : Int))])) (K := (rec2 (l ++ flat2 ((List.range p.toNat).flatMap (fun y : Nat => [((x : Int), (y : Int))]))) (m + ((List.range p.toNat).flatMap (fun y : Nat => [((x : Int), (y : Int))])).length) (wI (x + 1)))) (l := l) (m := m) (F := F) (by intro k hk; first | (split <;> simp) | simp_all)
  (fun f k l m hk hm => by
   show B_i_allPoints_3 p l6 m6 x rec2 (L_i_allPoints_3 fu p l6 m6 x rec2 f) l m (k : Int) = _
   unfold B_i_allPoints_3
   rw [if_pos (cndp hk), if_pos (by simp; omega), wrap_add1 hk (by omega)]
   rfl)
  (fun f hm => by
   show B_i_allPoints_3 p l6 m6 x rec2 (L_i_allPoints_3 fu p l6 m6 x rec2 f) (l ++ flat2 ((List.range p.toNat).flatMap ((fun y : Nat => [((x : Int), (y : Int))])))) (m + ((List.range p.toNat).flatMap ((fun y : Nat => [((x : Int), (y : Int))]))).length) ((p.toNat : Nat) : Int) = _
   unfold B_i_allPoints_3
   rw [if_neg (by simp; omega)]) hF hm
theorem lo2_i_allPoints {p : Int} (hp : prB p = true) {F : Nat} (hF : p.toNat < F) : L_i_allPoints_2 1000000 p F [] 0 0 = (some (((pts p)).length, flat2 ((pts p)))) := by
 obtain ⟨h1, h0, hpn⟩ := prB_nat hp
 exact gather (flat := flat2) flat2_app rfl (L := fun f l m i => L_i_allPoints_2 1000000 p f l m i) (n := p.toNat) (b := 31) (M := 0) ((fun x : Nat => (List.range p.toNat).flatMap (fun y : Nat => [(((x : Int) : Int), (y : Int))]))) (K := (some (((pts p)).length, flat2 ((pts p))))) (l := []) (m := 0) (F := F) (by intro k hk; refine Nat.le_trans (len_flatMap_le (b := 1) fun j _ => ?_) (by omega); first | (split <;> simp) | simp)
  (fun f k l m hk hm => by
   show B_i_allPoints_2 p (L_i_allPoints_3 1000000 p l m (k : Int) (L_i_allPoints_2 1000000 p f) (1000000 + 100)) (L_i_allPoints_2 1000000 p f) l m (k : Int) = _
   unfold B_i_allPoints_2
   rw [if_pos (cndp hk), lo3_i_allPoints hp _ _ _ _ _ (by omega) (by omega), wrap_add1 hk (by omega)])
  (fun f hm => by
   show B_i_allPoints_2 p (L_i_allPoints_3 1000000 p ([] ++ flat2 ((List.range p.toNat).flatMap ((fun x : Nat => (List.range p.toNat).flatMap (fun y : Nat => [(((x : Int) : Int), (y : Int))]))))) (0 + ((List.range p.toNat).flatMap ((fun x : Nat => (List.range p.toNat).flatMap (fun y : Nat => [(((x : Int) : Int), (y : Int))])))).length) ((p.toNat : Nat) : Int) (L_i_allPoints_2 1000000 p f) (1000000 + 100)) (L_i_allPoints_2 1000000 p f) ([] ++ flat2 ((List.range p.toNat).flatMap ((fun x : Nat => (List.range p.toNat).flatMap (fun y : Nat => [(((x : Int) : Int), (y : Int))]))))) (0 + ((List.range p.toNat).flatMap ((fun x : Nat => (List.range p.toNat).flatMap (fun y : Nat => [(((x : Int) : Int), (y : Int))])))).length) ((p.toNat : Nat) : Int) = _
   unfold B_i_allPoints_2
   have hkp : ((List.range p.toNat).flatMap (fun x : Nat => (List.range p.toNat).flatMap (fun y : Nat => [(((x : Int) : Int), (y : Int))]))) = (pts p) := by unfold pts; congr 1; funext x; exact flatMap_one _ _
   rw [if_neg (by simp; omega), hkp]
   simp) hF (Nat.le_refl _)

theorem tot_i_allPoints (p : Int) (hp : (prB p) = true) : Fo_i_allPoints 1000000 p = some (i_allPoints p) := by
 unfold Fo_i_allPoints G_i_allPoints
 have h1 := (prB_nat hp).1
 exact lo2_i_allPoints hp (by omega)
def run_i_allPoints : RunP
 | [.v (.int .i64 p)] => some (prB p, enc_l25_2 (i_allPoints p))
 | _ => none
theorem sound_i_allPoints : Sound prog 172 run_i_allPoints := by
 refine sound_1 de_l25_2 SO_i_allPoints (by kernel_rfl) func172 ntmps172 rfl (by kernel_rfl) fun q r E => ?_
 unfold run_i_allPoints at E
 split at E
 ·obtain ⟨hp, rfl⟩ := so2 E
  rename_i p
  exact ⟨_, _, rfl, (eq_i_allPoints _ p).trans (tot_i_allPoints p hp)⟩
 ·cases E

def S_i_pointsWith : Sums := ⟨tblS [(172, run_i_allPoints)], tblM [], false⟩
theorem SO_i_pointsWith : SumsOK prog S_i_pointsWith := ⟨tblS_ok ⟨⟨call172, sound_i_allPoints⟩, ⟨⟩⟩, tM⟩
def T_i_pointsWith_0 (p : Int) (holdsk : (Int × Int) → Bool) (holdsh : (Int × Int) → Bool) (l8 : List Int) (m8 : Nat) (t12 : Int) : Tab := ⟨[.val (.int .i64 p), .fn (clo_a2_b holdsk holdsh), .junk, .junk, .val (.slice none 0 0), .row 32, .junk, .junk, .junk, .val (.int .i64 p), .row 40, .val (.int .i64 (((i_allPoints p).1 : Nat) : Int)), .val (.int .i64 t12), .junk, .junk, .junk, .junk, .junk, .junk, .junk, .junk, .junk, .junk, .junk, .junk], [(32, .row 25 2 m8 (.ints l8)), (40, .row 25 2 ((i_allPoints p).1) (.ints ((i_allPoints p).2)))]⟩
def X_i_pointsWith_0 (P : Program) (fu : Nat) (p : Int) (holdsk : (Int × Int) → Bool) (holdsh : (Int × Int) → Bool) (f : Nat) (l8 : List Int) (m8 : Nat) (t12 : Int) : Option (Nat × List Int) := loopK (exec P S_i_pointsWith 25 (fun _ => fu + 100) (Code.sub [1, 1, 0, 1, 0, 0] (bodyF P 174))) f (T_i_pointsWith_0 p holdsk holdsh l8 m8 t12) (kBlock 0 (kSeq (fun zs9 => exec P S_i_pointsWith 25 (fun _ => fu + 100) (Code.sub [1, 1, 1] (bodyF P 174)) zs9 (finT P 174 dec_l25_2)) (finT P 174 dec_l25_2)))
def B_i_pointsWith_0 (p : Int) (holdsk : (Int × Int) → Bool) (holdsh : (Int × Int) → Bool) (rec0 : (List Int) → Nat → Int → Option (Nat × List Int)) (l8 : List Int) (m8 : Nat) (t12 : Int) : Option (Nat × List Int) :=
 (if (decide (t12 < (((i_allPoints p).1 : Nat) : Int))) = true then (if (decide (0 ≤ t12) && decide (t12 < (((i_allPoints p).1 : Nat) : Int))) = true then (if (Nat.ble (t12.toNat * 2 + 2) (((i_allPoints p).2).length)) = true then (if (holdsk (((i_allPoints p).2).getD (t12.toNat * 2 + 0) 0, ((i_allPoints p).2).getD (t12.toNat * 2 + 1) 0)) = true then (if (holdsh (((i_allPoints p).2).getD (t12.toNat * 2 + 0) 0, ((i_allPoints p).2).getD (t12.toNat * 2 + 1) 0)) = true then (if (Nat.ble 0 1 && Nat.ble (m8 + 1) 2000000 && Nat.beq 2 (2)) = true then rec0 (l8 ++ [((i_allPoints p).2).getD (t12.toNat * 2 + 0) 0, ((i_allPoints p).2).getD (t12.toNat * 2 + 1) 0]) (m8 + 1) (wI (t12 + 1)) else none) else rec0 l8 m8 (wI (t12 + 1))) else none) else none) else none) else some (m8, l8))
def L_i_pointsWith_0 (fu : Nat) (p : Int) (holdsk : (Int × Int) → Bool) (holdsh : (Int × Int) → Bool) : Nat → (List Int) → Nat → Int → Option (Nat × List Int)
 | 0, _, _, _ => none
 | f + 1, l8, m8, t12 => B_i_pointsWith_0 p holdsk holdsh (L_i_pointsWith_0 fu p holdsk holdsh f) l8 m8 t12
theorem loop_i_pointsWith_0 (fu : Nat) (p : Int) (holdsk : (Int × Int) → Bool) (holdsh : (Int × Int) → Bool) : ∀ (f : Nat) (l8 : List Int) (m8 : Nat) (t12 : Int), X_i_pointsWith_0 prog fu p holdsk holdsh f l8 m8 t12 = L_i_pointsWith_0 fu p holdsk holdsh f l8 m8 t12 := by
 intro f
 induction f with
 | zero => intros; rfl
 | succ f ih =>
  intro l8 m8 t12
  have h1 : X_i_pointsWith_0 prog fu p holdsk holdsh (f + 1) l8 m8 t12 = B_i_pointsWith_0 p holdsk holdsh (X_i_pointsWith_0 prog fu p holdsk holdsh f) l8 m8 t12 := by kernel_rfl
  have h2 : X_i_pointsWith_0 prog fu p holdsk holdsh f = L_i_pointsWith_0 fu p holdsk holdsh f := by funext l8 m8 t12; exact ih l8 m8 t12
  rw [h1, h2]
  rfl
def G_i_pointsWith (p : Int) (holdsk : (Int × Int) → Bool) (holdsh : (Int × Int) → Bool) (lo0 : (List Int) → Nat → Int → Option (Nat × List Int)) : Option (Nat × List Int) :=
 (if (prB p) = true then lo0 [] 0 0 else none)
def Fo_i_pointsWith (fu : Nat) (p : Int) (holdsk : (Int × Int) → Bool) (holdsh : (Int × Int) → Bool) : Option (Nat × List Int) := G_i_pointsWith p holdsk holdsh (L_i_pointsWith_0 fu p holdsk holdsh (fu + 100))
theorem eq_i_pointsWith (fu : Nat) (p : Int) (holdsk : (Int × Int) → Bool) (holdsh : (Int × Int) → Bool) : eF fu S_i_pointsWith 174 25 dec_l25_2 [pI p, .f (clo_a2_b holdsk holdsh)] = Fo_i_pointsWith fu p holdsk holdsh := by
 have h1 : eF fu S_i_pointsWith 174 25 dec_l25_2 [pI p, .f (clo_a2_b holdsk holdsh)] = G_i_pointsWith p holdsk holdsh (X_i_pointsWith_0 prog fu p holdsk holdsh (fu + 100)) := by kernel_rfl
 have c0 : X_i_pointsWith_0 prog fu p holdsk holdsh (fu + 100) = L_i_pointsWith_0 fu p holdsk holdsh (fu + 100) := by funext l8 m8 t12; exact loop_i_pointsWith_0 fu p holdsk holdsh (fu + 100) l8 m8 t12
 rw [h1, c0]
 rfl
def i_pointsWith (p : Int) (holdsk holdsh : P2 → Bool) : Nat × List Int := (((pts p).filter holdsh).length, flat2 ((pts p).filter holdsh))
theorem lo0_i_pointsWith (p : Int) (holdsk holdsh : P2 → Bool) (hp : prB p = true) (hall : ∀ k, k < (pts p).length → holdsk (R2 (flat2 (pts p)) k) = true) {F : Nat} (hF : 993 < F) : L_i_pointsWith_0 1000000 p holdsk holdsh F [] 0 0 = some (((pts p).filter fun zz => holdsh zz).length, flat2 ((pts p).filter fun zz => holdsh zz)) := by
 have hlen : (pts p).length ≤ 961 := pts_len hp
 exact gather (flat := flat2) flat2_app rfl (L := fun f l m i => L_i_pointsWith_0 1000000 p holdsk holdsh f l m i) (n := (pts p).length) (b := 1) (M := 0) (fun k => if (holdsh (R2 (flat2 (pts p)) k)) = true then [R2 (flat2 (pts p)) k] else []) (K := (some (((pts p).filter fun zz => holdsh zz).length, flat2 ((pts p).filter fun zz => holdsh zz)))) (l := []) (m := 0) (F := F) (by intro k hk; first | (split <;> simp) | simp_all)
  (fun f k l m hk hm => by
   show B_i_pointsWith_0 p holdsk holdsh (L_i_pointsWith_0 1000000 p holdsk holdsh f) l m (k : Int) = _
   unfold B_i_pointsWith_0
   have x0 : holdsk ((flat2 (pts p)).getD (k * 2 + 0) 0, (flat2 (pts p)).getD (k * 2 + 1) 0) = true := hall k hk
   have e0 : decide (0 ≤ (k : Int)) = true := by simp
   have e1 := cnd hk
   have e3 : (k : Int).toNat = k := Int.toNat_natCast k
   have e4 := row2_ok (flat2_len _) hk
   have e5 : Nat.ble 1 1 = true := rfl
   have e6 : Nat.ble (m + 1) 2000000 = true := leb (by omega)
   rw [show i_allPoints p = ((pts p).length, flat2 (pts p)) from rfl]
   simp only [e0, e1, e3, e4, e5, e6, beq22, x0, Bool.and_true, Bool.true_and, if_true, wrap_add1 hk (by omega)]
   have hq0 : ((holdsh ((flat2 (pts p)).getD (k * 2 + 0) 0, (flat2 (pts p)).getD (k * 2 + 1) 0))) = ((holdsh (R2 (flat2 (pts p)) k))) := rfl
   try rw [hq0]
   generalize ((holdsh (R2 (flat2 (pts p)) k))) = c0
   cases c0 <;> first
    | rfl
    | (
      simp only [Bool.false_eq_true, Bool.false_and, Bool.and_false, Bool.true_and, if_false, if_true]
      rw [show flat2 [] = [] from rfl, List.append_nil]
      rfl))
  (fun f hm => by
   show B_i_pointsWith_0 p holdsk holdsh (L_i_pointsWith_0 1000000 p holdsk holdsh f) ([] ++ flat2 ((List.range (pts p).length).flatMap (fun k => if (holdsh (R2 (flat2 (pts p)) k)) = true then [R2 (flat2 (pts p)) k] else []))) (0 + ((List.range (pts p).length).flatMap (fun k => if (holdsh (R2 (flat2 (pts p)) k)) = true then [R2 (flat2 (pts p)) k] else [])).length) (((pts p).length : Nat) : Int) = _
   unfold B_i_pointsWith_0
   have hkp : ((List.range ((pts p).length)).flatMap fun k => if (holdsh (R2 (flat2 (pts p)) k)) = true then [R2 (flat2 (pts p)) k] else []) = (rows2 ((pts p).length) (flat2 (pts p))).filter (fun zz => (holdsh zz)) := keep2 ((pts p).length) (flat2 (pts p)) (fun zz => (holdsh zz))
   rw [show i_allPoints p = ((pts p).length, flat2 (pts p)) from rfl]
   rw [if_neg (by simp), hkp, rows2_flat2]
   simp) (by omega) (Nat.le_refl _)

theorem tot_i_pointsWith (p : Int) (holdsk : (Int × Int) → Bool) (holdsh : (Int × Int) → Bool) (hp : (prB p && (pts p).all holdsk) = true) : Fo_i_pointsWith 1000000 p holdsk holdsh = some (i_pointsWith p holdsk holdsh) := by
 simp only [Bool.and_eq_true] at hp
 obtain ⟨hp, hall⟩ := hp
 unfold Fo_i_pointsWith G_i_pointsWith
 rw [if_pos hp]
 refine lo0_i_pointsWith p holdsk holdsh hp ?_ (by omega)
 intro k hk
 rw [R2_flat, List.getD_eq_getElem?_getD, List.getElem?_eq_getElem hk]
 exact List.all_eq_true.1 hall _ (List.getElem_mem hk)
def run_i_pointsWith : RunP
 | [.v (.int .i64 p), .f holdsg] => some (prB p && (pts p).all (fun a0 => okV (holdsg [.agg ⟨[.int .i64 a0.1, .int .i64 a0.2]⟩])), enc_l25_2 (i_pointsWith p (fun a0 => okV (holdsg [.agg ⟨[.int .i64 a0.1, .int .i64 a0.2]⟩])) (fun a0 => boolV (holdsg [.agg ⟨[.int .i64 a0.1, .int .i64 a0.2]⟩]))))
 | _ => none
theorem sound_i_pointsWith : Sound prog 174 run_i_pointsWith := by
 refine sound_of de_l25_2 SO_i_pointsWith (by kernel_rfl) func174 ntmps174 rfl (by kernel_rfl) ?_
 intro W pvs avs rs hargs hrun
 unfold run_i_pointsWith at hrun
 split at hrun
 ·simp only [Option.some.injEq, Prod.mk.injEq] at hrun
  obtain ⟨hp, rfl⟩ := hrun
  rename_i p holdsg
  have hargs := All2.replace (l1 := [_]) hargs (y := .f (clo_a2_b _ _)) fun b hb => fn_weaken hb (clo_a2_b_ok _)
  exact ⟨_, _, _, hargs, rfl, (eq_i_pointsWith _ p (fun a0 => okV (holdsg [.agg ⟨[.int .i64 a0.1, .int .i64 a0.2]⟩])) (fun a0 => boolV (holdsg [.agg ⟨[.int .i64 a0.1, .int .i64 a0.2]⟩]))).trans (tot_i_pointsWith p (fun a0 => okV (holdsg [.agg ⟨[.int .i64 a0.1, .int .i64 a0.2]⟩])) (fun a0 => boolV (holdsg [.agg ⟨[.int .i64 a0.1, .int .i64 a0.2]⟩])) hp)⟩
 ·cases hrun

def S_i_pointsAt : Sums := ⟨tblS [(174, run_i_pointsWith), (175, run_i_pointsAt_c1)], tblM [], false⟩
theorem SO_i_pointsAt : SumsOK prog S_i_pointsAt := ⟨tblS_ok ⟨⟨call174, sound_i_pointsWith⟩, ⟨call175, sound_i_pointsAt_c1⟩, ⟨⟩⟩, tM⟩
def Fo_i_pointsAt (p colour : Int) (a : P2) (q : Int) : Option (Nat × List Int) :=
 (if (prB p && (pts p).all (fun a0 => prB p)) = true then some ((i_pointsWith p (fun a0 => prB p) (fun a0 => i_pointsAt_c1 a0 p colour a q)).1, (i_pointsWith p (fun a0 => prB p) (fun a0 => i_pointsAt_c1 a0 p colour a q)).2) else none)
theorem eq_i_pointsAt (p colour : Int) (a : P2) (q : Int) : eT S_i_pointsAt 123 12 dec_l25_2 [pI p, pI colour, pA a, pI q] = Fo_i_pointsAt p colour a q := by
 kernel_rfl
def i_pointsAt (p colour : Int) (a : P2) (q : Int) : Nat × List Int :=
 ((i_pointsWith p (fun a0 => prB p) (fun a0 => i_pointsAt_c1 a0 p colour a q)).1, (i_pointsWith p (fun a0 => prB p) (fun a0 => i_pointsAt_c1 a0 p colour a q)).2)
theorem tot_i_pointsAt (p colour : Int) (a : P2) (q : Int) (hp : (prB p) = true) : Fo_i_pointsAt p colour a q = some (i_pointsAt p colour a q) := by
 try have h0 := prB_ne hp
 unfold Fo_i_pointsAt i_pointsAt
 (try simp only [wI_eq])
 repeat' (first | with_reducible rfl | with_reducible refine chk_opt hp ?_ | with_reducible refine chk_opt h0 ?_ | refine chk_opt (and_all hp fun _ => hp) ?_ | refine chk_opt (and_all hp fun _ => rfl) ?_ | refine ite_opt (fun _ => ?_) (fun _ => ?_) | rfl)
def run_i_pointsAt : RunP
 | [.v (.int .i64 p), .v (.int .i64 colour), .v (.agg ⟨[.int .i64 a0, .int .i64 a1]⟩), .v (.int .i64 q)] => some (prB p, enc_l25_2 (i_pointsAt p colour (a0, a1) q))
 | _ => none
theorem sound_i_pointsAt : Sound prog 123 run_i_pointsAt := by
 refine sound_1 de_l25_2 SO_i_pointsAt (by kernel_rfl) func123 ntmps123 rfl (by kernel_rfl) fun q r E => ?_
 unfold run_i_pointsAt at E
 split at E
 ·obtain ⟨hp, rfl⟩ := so2 E
  rename_i p colour a0 a1 q
  exact ⟨_, _, rfl, (eq_i_pointsAt p colour (a0, a1) q).trans (tot_i_pointsAt p colour (a0, a1) q hp)⟩
 ·cases E

def S_s_l02Code : Sums := ⟨tblS [(97, run_s_l01Code), (98, run_s_l02Colour)], tblM [], false⟩
theorem SO_s_l02Code : SumsOK prog S_s_l02Code := ⟨tblS_ok ⟨⟨call97, sound_s_l01Code⟩, ⟨call98, sound_s_l02Colour⟩, ⟨⟩⟩, tM⟩
def Fo_s_l02Code (p colour : Int) (pointsn : Nat) (pointsl : List Int) : Option (Int) :=
 (if (lenB pointsn 2 pointsl) = true then (if ((s_l01Code p (rows2 pointsn pointsl)) == 0) = true then (if (!(s_l02Colour colour)) = true then some 2 else some (s_l01Code p (rows2 pointsn pointsl))) else some (s_l01Code p (rows2 pointsn pointsl))) else none)
theorem eq_s_l02Code (p colour : Int) (pointsn : Nat) (pointsl : List Int) : eT S_s_l02Code 38 19 dec_i [pI p, pI colour, .s pointsn (.ints pointsl)] = Fo_s_l02Code p colour pointsn pointsl := by
 kernel_rfl
def s_l02Code (p colour : Int) (pointsn : Nat) (pointsl : List Int) : Int :=
 (if ((s_l01Code p (rows2 pointsn pointsl)) == 0) = true then (if (!(s_l02Colour colour)) = true then 2 else (s_l01Code p (rows2 pointsn pointsl))) else (s_l01Code p (rows2 pointsn pointsl)))
theorem tot_s_l02Code (p colour : Int) (pointsn : Nat) (pointsl : List Int) (hp : (lenB pointsn 2 pointsl) = true) : Fo_s_l02Code p colour pointsn pointsl = some (s_l02Code p colour pointsn pointsl) := by
 try have h0 := prB_ne hp
 unfold Fo_s_l02Code s_l02Code
 (try simp only [wI_eq])
 repeat' (first | with_reducible rfl | with_reducible refine chk_opt hp ?_ | with_reducible refine chk_opt h0 ?_ | refine chk_opt (and_all hp fun _ => hp) ?_ | refine chk_opt (and_all hp fun _ => rfl) ?_ | refine ite_opt (fun _ => ?_) (fun _ => ?_) | rfl)
def run_s_l02Code : RunP
 | [.v (.int .i64 p), .v (.int .i64 colour), .s pointsn (.ints pointsl)] => some (lenB pointsn 2 pointsl, enc_i (s_l02Code p colour pointsn pointsl))
 | _ => none
theorem sound_s_l02Code : Sound prog 38 run_s_l02Code := by
 refine sound_1 de_i SO_s_l02Code (by kernel_rfl) func38 ntmps38 rfl (by kernel_rfl) fun q r E => ?_
 unfold run_s_l02Code at E
 split at E
 ·obtain ⟨hp, rfl⟩ := so2 E
  rename_i p colour pointsn pointsl
  exact ⟨_, _, rfl, (eq_s_l02Code p colour pointsn pointsl).trans (tot_s_l02Code p colour pointsn pointsl hp)⟩
 ·cases E

theorem l02Code_prB {p c : Int} {n : Nat} {l : List Int} (h : ¬ (s_l02Code p c n l != 0) = true) : prB p = true := by
 refine Pr_prB (i_IsField_ok ?_)
 have h : s_l02Code p c n l = 0 := by simpa using h
 cases hf : i_IsField p
 ·simp [s_l02Code, s_l01Code, s_l01Field, hf] at h
 ·rfl
theorem l02Code_prB0 {p c : Int} {n : Nat} {l : List Int} (h : (s_l02Code p c n l == 0) = true) : prB p = true := l02Code_prB (by simpa using h)
def S_s_l02At : Sums := ⟨tblS [(190, run_s_l02Quadrance)], tblM [], false⟩
theorem SO_s_l02At : SumsOK prog S_s_l02At := ⟨tblS_ok ⟨⟨call190, sound_s_l02Quadrance⟩, ⟨⟩⟩, tM⟩
def T_s_l02At_2 (p colour : Int) (a : P2) (q : Int) (l13 : List Int) (m13 : Nat) (x : Int) : Tab := ⟨[.val (.int .i64 p), .val (.int .i64 colour), .val (.agg ⟨[.int .i64 a.1, .int .i64 a.2]⟩), .val (.int .i64 q), .junk, .junk, .ptr 24 0, .junk, .val (.slice none 0 0), .row 52, .val (.int .i64 x), .junk, .junk, .junk, .junk, .junk, .junk, .junk, .junk, .junk, .junk, .junk, .junk, .junk, .junk, .junk, .junk, .junk, .junk, .junk, .junk, .junk, .junk, .junk, .junk, .junk, .junk, .junk, .junk], [(24, .box 25 [.val (.int .i64 a.1), .val (.int .i64 a.2)]), (52, .row 25 2 m13 (.ints l13))]⟩
def T_s_l02At_3 (p colour : Int) (a : P2) (q : Int) (l13 : List Int) (m13 : Nat) (x : Int) (l13' : List Int) (m13' : Nat) (y : Int) : Tab := ⟨[.val (.int .i64 p), .val (.int .i64 colour), .val (.agg ⟨[.int .i64 a.1, .int .i64 a.2]⟩), .val (.int .i64 q), .junk, .junk, .ptr 24 0, .junk, .val (.slice none 0 0), .row 52, .val (.int .i64 x), .val (.int .i64 y), .junk, .junk, .val (.int .i64 x), .val (.int .i64 p), .val (.bool (decide (x < p))), .junk, .junk, .junk, .junk, .junk, .junk, .junk, .junk, .junk, .junk, .junk, .junk, .junk, .junk, .junk, .junk, .junk, .junk, .junk, .junk, .junk, .junk], [(24, .box 25 [.val (.int .i64 a.1), .val (.int .i64 a.2)]), (52, .row 25 2 m13' (.ints l13'))]⟩
def X_s_l02At_3 (P : Program) (fu : Nat) (p colour : Int) (a : P2) (q : Int) (l13 : List Int) (m13 : Nat) (x : Int) (rc2 : Tab → Option (Nat × List Int)) (f : Nat) (l13' : List Int) (m13' : Nat) (y : Int) : Option (Nat × List Int) := loopK (exec P S_s_l02At 39 (fuelOf fu []) (Code.sub [1, 1, 0, 1, 0, 0, 1, 0, 0, 1, 0, 0] (bodyF P 206))) f (T_s_l02At_3 p colour a q l13 m13 x l13' m13' y) (kBlock 2 (kBlock 1 (kSeq (fun zs9 => exec P S_s_l02At 39 (fuelOf fu []) (Code.sub [1, 1, 0, 1, 0, 0, 1, 1] (bodyF P 206)) zs9 (kLoop rc2 (T_s_l02At_2 p colour a q l13 m13 x) (kBlock 0 (kSeq (fun zs9 => exec P S_s_l02At 39 (fuelOf fu []) (Code.sub [1, 1, 1] (bodyF P 206)) zs9 (finT P 206 dec_l25_2)) (finT P 206 dec_l25_2))))) (kLoop rc2 (T_s_l02At_2 p colour a q l13 m13 x) (kBlock 0 (kSeq (fun zs9 => exec P S_s_l02At 39 (fuelOf fu []) (Code.sub [1, 1, 1] (bodyF P 206)) zs9 (finT P 206 dec_l25_2)) (finT P 206 dec_l25_2)))))))
def B_s_l02At_3 (p colour : Int) (a : P2) (q : Int) (l13 : List Int) (m13 : Nat) (x : Int) (rec2 : (List Int) → Nat → Int → Option (Nat × List Int)) (rec3 : (List Int) → Nat → Int → Option (Nat × List Int)) (l13' : List Int) (m13' : Nat) (y : Int) : Option (Nat × List Int) :=
 (if (decide (y < p)) = true then (if (prB p) = true then (if ((s_l02Quadrance p colour a (x, y)) == q) = true then (if (Nat.ble 0 1 && Nat.ble (m13' + 1) 2000000 && Nat.beq 2 (2)) = true then rec3 (l13' ++ [x, y]) (m13' + 1) (wI (y + 1)) else none) else rec3 l13' m13' (wI (y + 1))) else none) else rec2 l13' m13' (wI (x + 1)))
def L_s_l02At_3 (fu : Nat) (p colour : Int) (a : P2) (q : Int) (l13 : List Int) (m13 : Nat) (x : Int) (rec2 : (List Int) → Nat → Int → Option (Nat × List Int)) : Nat → (List Int) → Nat → Int → Option (Nat × List Int)
 | 0, _, _, _ => none
 | f + 1, l13', m13', y => B_s_l02At_3 p colour a q l13 m13 x rec2 (L_s_l02At_3 fu p colour a q l13 m13 x rec2 f) l13' m13' y
theorem loop_s_l02At_3 (fu : Nat) (p colour : Int) (a : P2) (q : Int) (l13 : List Int) (m13 : Nat) (x : Int) (rc2 : Tab → Option (Nat × List Int)) : ∀ (f : Nat) (l13' : List Int) (m13' : Nat) (y : Int), X_s_l02At_3 prog fu p colour a q l13 m13 x rc2 f l13' m13' y = L_s_l02At_3 fu p colour a q l13 m13 x (fun l13 m13 x => rc2 (T_s_l02At_2 p colour a q l13 m13 x)) f l13' m13' y := by
 intro f
 induction f with
 | zero => intros; rfl
 | succ f ih =>
  intro l13' m13' y
  have h1 : X_s_l02At_3 prog fu p colour a q l13 m13 x rc2 (f + 1) l13' m13' y = B_s_l02At_3 p colour a q l13 m13 x (fun l13 m13 x => rc2 (T_s_l02At_2 p colour a q l13 m13 x)) (X_s_l02At_3 prog fu p colour a q l13 m13 x rc2 f) l13' m13' y := by kernel_rfl
  have h2 : X_s_l02At_3 prog fu p colour a q l13 m13 x rc2 f = L_s_l02At_3 fu p colour a q l13 m13 x (fun l13 m13 x => rc2 (T_s_l02At_2 p colour a q l13 m13 x)) f := by funext l13' m13' y; exact ih l13' m13' y
  rw [h1, h2]
  rfl
def X_s_l02At_2 (P : Program) (fu : Nat) (p colour : Int) (a : P2) (q : Int) (f : Nat) (l13 : List Int) (m13 : Nat) (x : Int) : Option (Nat × List Int) := loopK (exec P S_s_l02At 39 (fuelOf fu []) (Code.sub [1, 1, 0, 1, 0, 0] (bodyF P 206))) f (T_s_l02At_2 p colour a q l13 m13 x) (kBlock 0 (kSeq (fun zs9 => exec P S_s_l02At 39 (fuelOf fu []) (Code.sub [1, 1, 1] (bodyF P 206)) zs9 (finT P 206 dec_l25_2)) (finT P 206 dec_l25_2)))
def B_s_l02At_2 (p colour : Int) (a : P2) (q : Int) (lo3 : (List Int) → Nat → Int → Option (Nat × List Int)) (rec2 : (List Int) → Nat → Int → Option (Nat × List Int)) (l13 : List Int) (m13 : Nat) (x : Int) : Option (Nat × List Int) :=
 (if (decide (x < p)) = true then lo3 l13 m13 0 else some (m13, l13))
def L_s_l02At_2 (fu : Nat) (p colour : Int) (a : P2) (q : Int) : Nat → (List Int) → Nat → Int → Option (Nat × List Int)
 | 0, _, _, _ => none
 | f + 1, l13, m13, x => B_s_l02At_2 p colour a q (L_s_l02At_3 fu p colour a q l13 m13 x (L_s_l02At_2 fu p colour a q f) fu) (L_s_l02At_2 fu p colour a q f) l13 m13 x
theorem loop_s_l02At_2 (fu : Nat) (p colour : Int) (a : P2) (q : Int) : ∀ (f : Nat) (l13 : List Int) (m13 : Nat) (x : Int), X_s_l02At_2 prog fu p colour a q f l13 m13 x = L_s_l02At_2 fu p colour a q f l13 m13 x := by
 intro f
 induction f with
 | zero => intros; rfl
 | succ f ih =>
  intro l13 m13 x
  have h1 : X_s_l02At_2 prog fu p colour a q (f + 1) l13 m13 x = B_s_l02At_2 p colour a q (X_s_l02At_3 prog fu p colour a q l13 m13 x (fun t => loopK (exec prog S_s_l02At 39 (fuelOf fu []) (Code.sub [1, 1, 0, 1, 0, 0] (bodyF prog 206))) f t (kBlock 0 (kSeq (fun zs9 => exec prog S_s_l02At 39 (fuelOf fu []) (Code.sub [1, 1, 1] (bodyF prog 206)) zs9 (finT prog 206 dec_l25_2)) (finT prog 206 dec_l25_2)))) fu) (X_s_l02At_2 prog fu p colour a q f) l13 m13 x := by kernel_rfl
  have h2 : X_s_l02At_2 prog fu p colour a q f = L_s_l02At_2 fu p colour a q f := by funext l13 m13 x; exact ih l13 m13 x
  have c3 : (X_s_l02At_3 prog fu p colour a q l13 m13 x (fun t => loopK (exec prog S_s_l02At 39 (fuelOf fu []) (Code.sub [1, 1, 0, 1, 0, 0] (bodyF prog 206))) f t (kBlock 0 (kSeq (fun zs9 => exec prog S_s_l02At 39 (fuelOf fu []) (Code.sub [1, 1, 1] (bodyF prog 206)) zs9 (finT prog 206 dec_l25_2)) (finT prog 206 dec_l25_2)))) fu) = L_s_l02At_3 fu p colour a q l13 m13 x (X_s_l02At_2 prog fu p colour a q f) fu := by funext l13' m13' y; exact loop_s_l02At_3 fu p colour a q l13 m13 x (fun t => loopK (exec prog S_s_l02At 39 (fuelOf fu []) (Code.sub [1, 1, 0, 1, 0, 0] (bodyF prog 206))) f t (kBlock 0 (kSeq (fun zs9 => exec prog S_s_l02At 39 (fuelOf fu []) (Code.sub [1, 1, 1] (bodyF prog 206)) zs9 (finT prog 206 dec_l25_2)) (finT prog 206 dec_l25_2)))) fu l13' m13' y
  rw [h1, c3, h2]
  rfl
def G_s_l02At (p colour : Int) (a : P2) (q : Int) (lo2 : (List Int) → Nat → Int → Option (Nat × List Int)) : Option (Nat × List Int) :=
 lo2 [] 0 0
def Fo_s_l02At (fu : Nat) (p colour : Int) (a : P2) (q : Int) : Option (Nat × List Int) := G_s_l02At p colour a q (L_s_l02At_2 fu p colour a q fu)
theorem eq_s_l02At (fu : Nat) (p colour : Int) (a : P2) (q : Int) : execT prog S_s_l02At 206 39 (fuelOf fu []) dec_l25_2 [.v (.int .i64 p), .v (.int .i64 colour), .v (.agg ⟨[.int .i64 a.1, .int .i64 a.2]⟩), .v (.int .i64 q)] = Fo_s_l02At fu p colour a q := by
 have h1 : execT prog S_s_l02At 206 39 (fuelOf fu []) dec_l25_2 [.v (.int .i64 p), .v (.int .i64 colour), .v (.agg ⟨[.int .i64 a.1, .int .i64 a.2]⟩), .v (.int .i64 q)] = G_s_l02At p colour a q (X_s_l02At_2 prog fu p colour a q fu) := by kernel_rfl
 have c2 : X_s_l02At_2 prog fu p colour a q fu = L_s_l02At_2 fu p colour a q fu := by funext l13 m13 x; exact loop_s_l02At_2 fu p colour a q fu l13 m13 x
 rw [h1, c2]
 rfl
def s_l02At (p colour : Int) (a : P2) (q : Int) : Nat × List Int := (((pts p).filter fun zz => (s_l02Quadrance p colour a zz == q)).length, flat2 ((pts p).filter fun zz => (s_l02Quadrance p colour a zz == q)))
theorem lo3_s_l02At {p : Int} (hp : prB p = true) (colour : Int) (a : P2) (q : Int) (fu : Nat) (l13 : List Int) (m13 : Nat) (x : Int) (rec2 : List Int → Nat → Int → Option (Nat × List Int)) {F m : Nat} {l : List Int} (hF : p.toNat < F) (hm : m ≤ 100000) :
  L_s_l02At_3 fu p colour a q l13 m13 x rec2 F l m 0 = rec2 (l ++ flat2 ((List.range p.toNat).flatMap (fun y : Nat => if (s_l02Quadrance p colour a (x, (y : Int)) == q) = true then [((x : Int), (y : Int))] else []))) (m + ((List.range p.toNat).flatMap (fun y : Nat => if (s_l02Quadrance p colour a (x, (y : Int)) == q) = true then [((x : Int), (y : Int))] else [])).length) (wI (x + 1)) := by
 obtain ⟨h1, h0, hpn⟩ := prB_nat hp
 exact gather (flat := flat2) flat2_app rfl (L := fun f l m i => L_s_l02At_3 fu p colour a q l13 m13 x rec2 f l m i) (n := p.toNat) (b := 1) (M := 100000) ((fun y : Nat => if (s_l02Quadrance p colour a (x, (y : Int)) == q) = true then [((x : Int), (y : Int))] else [])) (K := (rec2 (l ++ flat2 ((List.range p.toNat).flatMap (fun y : Nat => if (s_l02Quadrance p colour a (x, (y : Int)) == q) = true then [((x : Int), (y : Int))] else []))) (m + ((List.range p.toNat).flatMap (fun y : Nat => if (s_l02Quadrance p colour a (x, (y : Int)) == q) = true then [((x : Int), (y : Int))] else [])).length) (wI (x + 1)))) (l := l) (m := m) (F := F) (by intro k hk; first | (split <;> simp) | simp_all)
  (fun f k l m hk hm => by
   show B_s_l02At_3 p colour a q l13 m13 x rec2 (L_s_l02At_3 fu p colour a q l13 m13 x rec2 f) l m (k : Int) = _
   unfold B_s_l02At_3
   have x0 : prB p = true := hp
   simp only [cndp hk, x0, if_true, wrap_add1 hk (by omega), show (Nat.ble 0 1 && Nat.ble (m + 1) 2000000 && Nat.beq 2 2) = true from by simp; omega]
   generalize ((s_l02Quadrance p colour a (x, (k : Int)) == q)) = c0
   cases c0 <;> first
    | rfl
    | (
      simp only [Bool.false_eq_true, Bool.false_and, Bool.and_false, Bool.true_and, if_false, if_true]
      rw [show flat2 [] = [] from rfl, List.append_nil]
      rfl))
  (fun f hm => by
   show B_s_l02At_3 p colour a q l13 m13 x rec2 (L_s_l02At_3 fu p colour a q l13 m13 x rec2 f) (l ++ flat2 ((List.range p.toNat).flatMap ((fun y : Nat => if (s_l02Quadrance p colour a (x, (y : Int)) == q) = true then [((x : Int), (y : Int))] else [])))) (m + ((List.range p.toNat).flatMap ((fun y : Nat => if (s_l02Quadrance p colour a (x, (y : Int)) == q) = true then [((x : Int), (y : Int))] else []))).length) ((p.toNat : Nat) : Int) = _
   unfold B_s_l02At_3
   rw [if_neg (by simp; omega)]) hF hm
theorem lo2_s_l02At {p : Int} (hp : prB p = true) (colour : Int) (a : P2) (q : Int) {F : Nat} (hF : p.toNat < F) : L_s_l02At_2 1000000 p colour a q F [] 0 0 = (some (((pts p).filter fun zz => (s_l02Quadrance p colour a zz == q)).length, flat2 ((pts p).filter fun zz => (s_l02Quadrance p colour a zz == q)))) := by
 obtain ⟨h1, h0, hpn⟩ := prB_nat hp
 exact gather (flat := flat2) flat2_app rfl (L := fun f l m i => L_s_l02At_2 1000000 p colour a q f l m i) (n := p.toNat) (b := 31) (M := 0) ((fun x : Nat => (List.range p.toNat).flatMap (fun y : Nat => if (s_l02Quadrance p colour a ((x : Int), (y : Int)) == q) = true then [(((x : Int) : Int), (y : Int))] else []))) (K := (some (((pts p).filter fun zz => (s_l02Quadrance p colour a zz == q)).length, flat2 ((pts p).filter fun zz => (s_l02Quadrance p colour a zz == q))))) (l := []) (m := 0) (F := F) (by intro k hk; refine Nat.le_trans (len_flatMap_le (b := 1) fun j _ => ?_) (by omega); first | (split <;> simp) | simp)
  (fun f k l m hk hm => by
   show B_s_l02At_2 p colour a q (L_s_l02At_3 1000000 p colour a q l m (k : Int) (L_s_l02At_2 1000000 p colour a q f) 1000000) (L_s_l02At_2 1000000 p colour a q f) l m (k : Int) = _
   unfold B_s_l02At_2
   rw [if_pos (cndp hk), lo3_s_l02At hp _ _ _ _ _ _ _ _ (by omega) (by omega), wrap_add1 hk (by omega)])
  (fun f hm => by
   show B_s_l02At_2 p colour a q (L_s_l02At_3 1000000 p colour a q ([] ++ flat2 ((List.range p.toNat).flatMap ((fun x : Nat => (List.range p.toNat).flatMap (fun y : Nat => if (s_l02Quadrance p colour a ((x : Int), (y : Int)) == q) = true then [(((x : Int) : Int), (y : Int))] else []))))) (0 + ((List.range p.toNat).flatMap ((fun x : Nat => (List.range p.toNat).flatMap (fun y : Nat => if (s_l02Quadrance p colour a ((x : Int), (y : Int)) == q) = true then [(((x : Int) : Int), (y : Int))] else [])))).length) ((p.toNat : Nat) : Int) (L_s_l02At_2 1000000 p colour a q f) 1000000) (L_s_l02At_2 1000000 p colour a q f) ([] ++ flat2 ((List.range p.toNat).flatMap ((fun x : Nat => (List.range p.toNat).flatMap (fun y : Nat => if (s_l02Quadrance p colour a ((x : Int), (y : Int)) == q) = true then [(((x : Int) : Int), (y : Int))] else []))))) (0 + ((List.range p.toNat).flatMap ((fun x : Nat => (List.range p.toNat).flatMap (fun y : Nat => if (s_l02Quadrance p colour a ((x : Int), (y : Int)) == q) = true then [(((x : Int) : Int), (y : Int))] else [])))).length) ((p.toNat : Nat) : Int) = _
   unfold B_s_l02At_2
   have hkp : ((List.range p.toNat).flatMap (fun x : Nat => (List.range p.toNat).flatMap (fun y : Nat => if (s_l02Quadrance p colour a ((x : Int), (y : Int)) == q) = true then [(((x : Int) : Int), (y : Int))] else []))) = (pts p).filter (fun zz => (s_l02Quadrance p colour a zz == q)) := grid_filter p.toNat (fun zz => (s_l02Quadrance p colour a zz == q))
   rw [if_neg (by simp; omega), hkp]
   simp) hF (Nat.le_refl _)

theorem tot_s_l02At (p colour : Int) (a : P2) (q : Int) (hp : (prB p) = true) : Fo_s_l02At 1000000 p colour a q = some (s_l02At p colour a q) := by
 unfold Fo_s_l02At G_s_l02At
 have h1 := (prB_nat hp).1
 exact lo2_s_l02At hp _ _ _ (by omega)
def run_s_l02At : RunP
 | [.v (.int .i64 p), .v (.int .i64 colour), .v (.agg ⟨[.int .i64 a0, .int .i64 a1]⟩), .v (.int .i64 q)] => some (prB p, enc_l25_2 (s_l02At p colour (a0, a1) q))
 | _ => none
theorem sound_s_l02At : Sound prog 206 run_s_l02At := by
 refine sound_1 de_l25_2 SO_s_l02At (by kernel_rfl) func206 ntmps206 rfl (by kernel_rfl) fun q r E => ?_
 unfold run_s_l02At at E
 split at E
 ·obtain ⟨hp, rfl⟩ := so2 E
  rename_i p colour a0 a1 q
  exact ⟨_, _, rfl, (eq_s_l02At _ p colour (a0, a1) q).trans (tot_s_l02At p colour (a0, a1) q hp)⟩
 ·cases E

def S_i_area : Sums := ⟨tblS [(128, run_i_less), (173, run_i_rest)], tblM [], false⟩
theorem SO_i_area : SumsOK prog S_i_area := ⟨tblS_ok ⟨⟨call128, sound_i_less⟩, ⟨call173, sound_i_rest⟩, ⟨⟩⟩, tM⟩
def Fo_i_area (p : Int) (a b c : P2) : Option (Int) :=
 (if (prB p) = true then (if (prB p) = true then (if (prB p) = true then some (i_rest p (wI ((wI (((i_less p b a).1) * ((i_less p c a).2))) - (wI (((i_less p b a).2) * ((i_less p c a).1)))))) else none) else none) else none)
theorem eq_i_area (p : Int) (a b c : P2) : eT S_i_area 126 32 dec_i [pI p, pA a, pA b, pA c] = Fo_i_area p a b c := by
 kernel_rfl
def i_area (p : Int) (a b c : P2) : Int :=
 (i_rest p (wrap64 ((wrap64 (((i_less p b a).1) * ((i_less p c a).2))) - (wrap64 (((i_less p b a).2) * ((i_less p c a).1))))))
theorem tot_i_area (p : Int) (a b c : P2) (hp : (prB p) = true) : Fo_i_area p a b c = some (i_area p a b c) := by
 try have h0 := prB_ne hp
 unfold Fo_i_area i_area
 (try simp only [wI_eq])
 repeat' (first | with_reducible rfl | with_reducible refine chk_opt hp ?_ | with_reducible refine chk_opt h0 ?_ | refine chk_opt (and_all hp fun _ => hp) ?_ | refine chk_opt (and_all hp fun _ => rfl) ?_ | refine ite_opt (fun _ => ?_) (fun _ => ?_) | rfl)
def run_i_area : RunP
 | [.v (.int .i64 p), .v (.agg ⟨[.int .i64 a0, .int .i64 a1]⟩), .v (.agg ⟨[.int .i64 b0, .int .i64 b1]⟩), .v (.agg ⟨[.int .i64 c0, .int .i64 c1]⟩)] => some (prB p, enc_i (i_area p (a0, a1) (b0, b1) (c0, c1)))
 | _ => none
theorem sound_i_area : Sound prog 126 run_i_area := by
 refine sound_1 de_i SO_i_area (by kernel_rfl) func126 ntmps126 rfl (by kernel_rfl) fun q r E => ?_
 unfold run_i_area at E
 split at E
 ·obtain ⟨hp, rfl⟩ := so2 E
  rename_i p a0 a1 b0 b1 c0 c1
  exact ⟨_, _, rfl, (eq_i_area p (a0, a1) (b0, b1) (c0, c1)).trans (tot_i_area p (a0, a1) (b0, b1) (c0, c1) hp)⟩
 ·cases E

def S_s_l01Area : Sums := ⟨tblS [(242, run_s_l01Mod)], tblM [], false⟩
theorem SO_s_l01Area : SumsOK prog S_s_l01Area := ⟨tblS_ok ⟨⟨call242, sound_s_l01Mod⟩, ⟨⟩⟩, tM⟩
def Fo_s_l01Area (p : Int) (a b c : P2) : Option (Int) :=
 (if (prB p) = true then some (s_l01Mod (wI ((wI ((wI (b.1 - a.1)) * (wI (c.2 - a.2)))) - (wI ((wI (b.2 - a.2)) * (wI (c.1 - a.1)))))) p) else none)
theorem eq_s_l01Area (p : Int) (a b c : P2) : eT S_s_l01Area 228 34 dec_i [pI p, pA a, pA b, pA c] = Fo_s_l01Area p a b c := by
 kernel_rfl
def s_l01Area (p : Int) (a b c : P2) : Int :=
 (s_l01Mod (wrap64 ((wrap64 ((wrap64 (b.1 - a.1)) * (wrap64 (c.2 - a.2)))) - (wrap64 ((wrap64 (b.2 - a.2)) * (wrap64 (c.1 - a.1)))))) p)
theorem tot_s_l01Area (p : Int) (a b c : P2) (hp : (prB p) = true) : Fo_s_l01Area p a b c = some (s_l01Area p a b c) := by
 try have h0 := prB_ne hp
 unfold Fo_s_l01Area s_l01Area
 (try simp only [wI_eq])
 repeat' (first | with_reducible rfl | with_reducible refine chk_opt hp ?_ | with_reducible refine chk_opt h0 ?_ | refine chk_opt (and_all hp fun _ => hp) ?_ | refine chk_opt (and_all hp fun _ => rfl) ?_ | refine ite_opt (fun _ => ?_) (fun _ => ?_) | rfl)
def run_s_l01Area : RunP
 | [.v (.int .i64 p), .v (.agg ⟨[.int .i64 a0, .int .i64 a1]⟩), .v (.agg ⟨[.int .i64 b0, .int .i64 b1]⟩), .v (.agg ⟨[.int .i64 c0, .int .i64 c1]⟩)] => some (prB p, enc_i (s_l01Area p (a0, a1) (b0, b1) (c0, c1)))
 | _ => none
theorem sound_s_l01Area : Sound prog 228 run_s_l01Area := by
 refine sound_1 de_i SO_s_l01Area (by kernel_rfl) func228 ntmps228 rfl (by kernel_rfl) fun q r E => ?_
 unfold run_s_l01Area at E
 split at E
 ·obtain ⟨hp, rfl⟩ := so2 E
  rename_i p a0 a1 b0 b1 c0 c1
  exact ⟨_, _, rfl, (eq_s_l01Area p (a0, a1) (b0, b1) (c0, c1)).trans (tot_s_l01Area p (a0, a1) (b0, b1) (c0, c1) hp)⟩
 ·cases E

def S_i_triangle_c1 : Sums := ⟨tblS [(36, run_i_isColour), (37, run_i_arePoints)], tblM [], false⟩
theorem SO_i_triangle_c1 : SumsOK prog S_i_triangle_c1 := ⟨tblS_ok ⟨⟨call36, sound_i_isColour⟩, ⟨call37, sound_i_arePoints⟩, ⟨⟩⟩, tM⟩
def Fo_i_triangle_c1 (c0 c1 : Int) (c2 c3 c4 : P2) : Option (Bool) :=
 (if (i_isColour c0) = true then some (i_arePoints c1 [c2, c3, c4]) else some false)
theorem eq_i_triangle_c1 (c0 c1 : Int) (c2 c3 c4 : P2) : eT S_i_triangle_c1 171 16 dec_b [.p [.int .i64 c0], .p [.int .i64 c1], .p [.int .i64 c2.1, .int .i64 c2.2], .p [.int .i64 c3.1, .int .i64 c3.2], .p [.int .i64 c4.1, .int .i64 c4.2]] = Fo_i_triangle_c1 c0 c1 c2 c3 c4 := by
 kernel_rfl
def i_triangle_c1 (c0 c1 : Int) (c2 c3 c4 : P2) : Bool :=
 (if (i_isColour c0) = true then (i_arePoints c1 [c2, c3, c4]) else false)
theorem tot_i_triangle_c1 (c0 c1 : Int) (c2 c3 c4 : P2) : Fo_i_triangle_c1 c0 c1 c2 c3 c4 = some (i_triangle_c1 c0 c1 c2 c3 c4) := by
 unfold Fo_i_triangle_c1 i_triangle_c1
 (try simp only [wI_eq])
 repeat' (first | with_reducible rfl | refine ite_opt (fun _ => ?_) (fun _ => ?_) | rfl)
def run_i_triangle_c1 : RunP
 | [.p [.int .i64 c0], .p [.int .i64 c1], .p [.int .i64 c20, .int .i64 c21], .p [.int .i64 c30, .int .i64 c31], .p [.int .i64 c40, .int .i64 c41]] => some (true, enc_b (i_triangle_c1 c0 c1 (c20, c21) (c30, c31) (c40, c41)))
 | _ => none
theorem sound_i_triangle_c1 : Sound prog 171 run_i_triangle_c1 := by
 refine sound_1 de_b SO_i_triangle_c1 (by kernel_rfl) func171 ntmps171 rfl (by kernel_rfl) fun q r E => ?_
 unfold run_i_triangle_c1 at E
 split at E
 ·obtain ⟨hp, rfl⟩ := so2 E
  rename_i c0 c1 c20 c21 c30 c31 c40 c41
  exact ⟨_, _, rfl, (eq_i_triangle_c1 c0 c1 (c20, c21) (c30, c31) (c40, c41)).trans (tot_i_triangle_c1 c0 c1 (c20, c21) (c30, c31) (c40, c41))⟩
 ·cases E

def S_i_triangle : Sums := ⟨tblS [(106, run_i_asked), (171, run_i_triangle_c1), (126, run_i_area)], tblM [], false⟩
theorem SO_i_triangle : SumsOK prog S_i_triangle := ⟨tblS_ok ⟨⟨call106, sound_i_asked⟩, ⟨call171, sound_i_triangle_c1⟩, ⟨call126, sound_i_area⟩, ⟨⟩⟩, tM⟩
def Fo_i_triangle (p colour : Int) (a b c : P2) : Option (Int) :=
 (if ((true) || !(i_IsField p)) = true then (if ((i_asked p (true) (i_triangle_c1 colour p a b c)) == 0) = true then (if (prB p) = true then (if ((i_area p a b c) == 0) = true then some 5 else some (i_asked p (true) (i_triangle_c1 colour p a b c))) else none) else some (i_asked p (true) (i_triangle_c1 colour p a b c))) else none)
theorem eq_i_triangle (p colour : Int) (a b c : P2) : eT S_i_triangle 115 26 dec_i [pI p, pI colour, pA a, pA b, pA c] = Fo_i_triangle p colour a b c := by
 kernel_rfl
def i_triangle (p colour : Int) (a b c : P2) : Int :=
 (if ((i_asked p (true) (i_triangle_c1 colour p a b c)) == 0) = true then (if ((i_area p a b c) == 0) = true then 5 else (i_asked p (true) (i_triangle_c1 colour p a b c))) else (i_asked p (true) (i_triangle_c1 colour p a b c)))
theorem tot_i_triangle (p colour : Int) (a b c : P2) : Fo_i_triangle p colour a b c = some (i_triangle p colour a b c) := by
 unfold Fo_i_triangle i_triangle
 (try simp only [wI_eq])
 repeat' (first | with_reducible rfl | refine chk_opt (by first | with_reducible rfl | exact Bool.true_or _ | (have hq : prB p = true := (by (first | (with_reducible assumption) | (with_reducible exact asked_prB ‹_›) | (with_reducible exact asked_prB0 ‹_›))); first | exact hq | exact mk_ok hq | exact and_all hq (fun _ => rfl) | exact and_all hq (fun _ => hq) | exact and3 hq hq hq | exact and_two hq rfl | exact map3_ok hq) | rfl) ?_ | refine ite_opt (fun _ => ?_) (fun _ => ?_) | rfl)
def run_i_triangle : RunP
 | [.v (.int .i64 p), .v (.int .i64 colour), .v (.agg ⟨[.int .i64 a0, .int .i64 a1]⟩), .v (.agg ⟨[.int .i64 b0, .int .i64 b1]⟩), .v (.agg ⟨[.int .i64 c0, .int .i64 c1]⟩)] => some (true, enc_i (i_triangle p colour (a0, a1) (b0, b1) (c0, c1)))
 | _ => none
theorem sound_i_triangle : Sound prog 115 run_i_triangle := by
 refine sound_1 de_i SO_i_triangle (by kernel_rfl) func115 ntmps115 rfl (by kernel_rfl) fun q r E => ?_
 unfold run_i_triangle at E
 split at E
 ·obtain ⟨hp, rfl⟩ := so2 E
  rename_i p colour a0 a1 b0 b1 c0 c1
  exact ⟨_, _, rfl, (eq_i_triangle p colour (a0, a1) (b0, b1) (c0, c1)).trans (tot_i_triangle p colour (a0, a1) (b0, b1) (c0, c1))⟩
 ·cases E

theorem triangle_prB {p k : Int} {a b c : P2} (h : ¬ (i_triangle p k a b c != 0) = true) : prB p = true := by
 refine Pr_prB (i_IsField_ok ?_)
 have h : i_triangle p k a b c = 0 := by simpa using h
 cases hf : i_IsField p
 ·simp [i_triangle, i_asked, s_l01Field, hf] at h
 ·rfl
theorem triangle_prB0 {p k : Int} {a b c : P2} (h : (i_triangle p k a b c == 0) = true) : prB p = true := triangle_prB (by simpa using h)
def S_i_circumcentre : Sums := ⟨tblS [(172, run_i_allPoints), (72, run_i_quadrance)], tblM [], false⟩
theorem SO_i_circumcentre : SumsOK prog S_i_circumcentre := ⟨tblS_ok ⟨⟨call172, sound_i_allPoints⟩, ⟨call72, sound_i_quadrance⟩, ⟨⟩⟩, tM⟩
def T_i_circumcentre_0 (p colour : Int) (a b c : P2) (t17 : Int) : Tab := ⟨[.val (.int .i64 p), .val (.int .i64 colour), .val (.agg ⟨[.int .i64 a.1, .int .i64 a.2]⟩), .val (.agg ⟨[.int .i64 b.1, .int .i64 b.2]⟩), .val (.agg ⟨[.int .i64 c.1, .int .i64 c.2]⟩), .junk, .junk, .ptr 28 0, .ptr 32 0, .ptr 36 0, .ptr 40 0, .junk, .junk, .junk, .val (.int .i64 p), .row 60, .val (.int .i64 (((i_allPoints p).1 : Nat) : Int)), .val (.int .i64 t17), .junk, .junk, .junk, .junk, .junk, .junk, .junk, .junk, .junk, .junk, .junk, .junk, .junk, .junk, .junk, .junk, .junk, .junk, .junk, .junk, .junk, .junk, .junk, .junk, .junk, .junk, .junk], [(28, .box 25 [.val (.int .i64 a.1), .val (.int .i64 a.2)]), (32, .box 25 [.val (.int .i64 b.1), .val (.int .i64 b.2)]), (36, .box 25 [.val (.int .i64 c.1), .val (.int .i64 c.2)]), (40, .box 25 [.val (.int .i64 0), .val (.int .i64 0)]), (60, .row 25 2 ((i_allPoints p).1) (.ints ((i_allPoints p).2)))]⟩
def X_i_circumcentre_0 (P : Program) (fu : Nat) (p colour : Int) (a b c : P2) (f : Nat) (t17 : Int) : Option (Int × Int) := loopK (exec P S_i_circumcentre 45 (fun _ => fu + 100) (Code.sub [1, 0, 1, 0, 0] (bodyF P 116))) f (T_i_circumcentre_0 p colour a b c t17) (kBlock 0 (kSeq (fun zs9 => exec P S_i_circumcentre 45 (fun _ => fu + 100) (Code.sub [1, 1] (bodyF P 116)) zs9 (finT P 116 dec_a2)) (finT P 116 dec_a2)))
def B_i_circumcentre_0 (p colour : Int) (a b c : P2) (rec0 : Int → Option (Int × Int)) (t17 : Int) : Option (Int × Int) :=
 (if (decide (t17 < (((i_allPoints p).1 : Nat) : Int))) = true then (if (decide (0 ≤ t17) && decide (t17 < (((i_allPoints p).1 : Nat) : Int))) = true then (if (Nat.ble (t17.toNat * 2 + 2) (((i_allPoints p).2).length)) = true then (if (prB p) = true then (if (prB p) = true then (if ((i_quadrance p colour (((i_allPoints p).2).getD (t17.toNat * 2 + 0) 0, ((i_allPoints p).2).getD (t17.toNat * 2 + 1) 0) a) == (i_quadrance p colour (((i_allPoints p).2).getD (t17.toNat * 2 + 0) 0, ((i_allPoints p).2).getD (t17.toNat * 2 + 1) 0) b)) = true then (if (prB p) = true then (if ((i_quadrance p colour (((i_allPoints p).2).getD (t17.toNat * 2 + 0) 0, ((i_allPoints p).2).getD (t17.toNat * 2 + 1) 0) a) == (i_quadrance p colour (((i_allPoints p).2).getD (t17.toNat * 2 + 0) 0, ((i_allPoints p).2).getD (t17.toNat * 2 + 1) 0) c)) = true then some (((i_allPoints p).2).getD (t17.toNat * 2 + 0) 0, ((i_allPoints p).2).getD (t17.toNat * 2 + 1) 0) else rec0 (wI (t17 + 1))) else none) else rec0 (wI (t17 + 1))) else none) else none) else none) else none) else some (0, 0))
def L_i_circumcentre_0 (fu : Nat) (p colour : Int) (a b c : P2) : Nat → Int → Option (Int × Int)
 | 0, _ => none
 | f + 1, t17 => B_i_circumcentre_0 p colour a b c (L_i_circumcentre_0 fu p colour a b c f) t17
theorem loop_i_circumcentre_0 (fu : Nat) (p colour : Int) (a b c : P2) : ∀ (f : Nat) (t17 : Int), X_i_circumcentre_0 prog fu p colour a b c f t17 = L_i_circumcentre_0 fu p colour a b c f t17 := by
 intro f
 induction f with
 | zero => intros; rfl
 | succ f ih =>
  intro t17
  have h1 : X_i_circumcentre_0 prog fu p colour a b c (f + 1) t17 = B_i_circumcentre_0 p colour a b c (X_i_circumcentre_0 prog fu p colour a b c f) t17 := by kernel_rfl
  have h2 : X_i_circumcentre_0 prog fu p colour a b c f = L_i_circumcentre_0 fu p colour a b c f := by funext t17; exact ih t17
  rw [h1, h2]
  rfl
def G_i_circumcentre (p colour : Int) (a b c : P2) (lo0 : Int → Option (Int × Int)) : Option (Int × Int) :=
 (if (prB p) = true then lo0 0 else none)
def Fo_i_circumcentre (fu : Nat) (p colour : Int) (a b c : P2) : Option (Int × Int) := G_i_circumcentre p colour a b c (L_i_circumcentre_0 fu p colour a b c (fu + 100))
theorem eq_i_circumcentre (fu : Nat) (p colour : Int) (a b c : P2) : eF fu S_i_circumcentre 116 45 dec_a2 [pI p, pI colour, pA a, pA b, pA c] = Fo_i_circumcentre fu p colour a b c := by
 have h1 : eF fu S_i_circumcentre 116 45 dec_a2 [pI p, pI colour, pA a, pA b, pA c] = G_i_circumcentre p colour a b c (X_i_circumcentre_0 prog fu p colour a b c (fu + 100)) := by kernel_rfl
 have c0 : X_i_circumcentre_0 prog fu p colour a b c (fu + 100) = L_i_circumcentre_0 fu p colour a b c (fu + 100) := by funext t17; exact loop_i_circumcentre_0 fu p colour a b c (fu + 100) t17
 rw [h1, c0]
 rfl
def i_circumcentre (p colour : Int) (a b c : P2) : P2 := (((pts p).findSome? fun zz => if (i_quadrance p colour zz a == i_quadrance p colour zz b && i_quadrance p colour zz a == i_quadrance p colour zz c) = true then some zz else none)).getD (0, 0)
theorem lo0_i_circumcentre (p colour : Int) (a b c : P2) (hp : prB p = true) {F : Nat} (hF : 993 < F) : L_i_circumcentre_0 1000000 p colour a b c F 0 = some ((((pts p).findSome? fun zz => if ((i_quadrance p colour zz a == i_quadrance p colour zz b) && (i_quadrance p colour zz a == i_quadrance p colour zz c)) = true then some (zz) else none)).getD (0, 0)) := by
 have hlen : (pts p).length ≤ 993 := Nat.le_trans (pts_len hp) (by omega)
 have h := seek (L := fun f i => L_i_circumcentre_0 1000000 p colour a b c f i) (n := (pts p).length) (F := F) (q := fun k => if ((i_quadrance p colour (R2 (flat2 (pts p)) k) a == i_quadrance p colour (R2 (flat2 (pts p)) k) b) && (i_quadrance p colour (R2 (flat2 (pts p)) k) a == i_quadrance p colour (R2 (flat2 (pts p)) k) c)) = true then some ((R2 (flat2 (pts p)) k)) else none) (e := (0, 0)) (by omega)
  (fun f k hk => by
   show B_i_circumcentre_0 p colour a b c (L_i_circumcentre_0 1000000 p colour a b c f) (k : Int) = _
   unfold B_i_circumcentre_0
   have e0 : decide (0 ≤ (k : Int)) = true := by simp
   have e1 := cnd hk
   have e3 : (k : Int).toNat = k := Int.toNat_natCast k
   have e4 := row2_ok (flat2_len _) hk
   rw [show i_allPoints p = ((pts p).length, flat2 (pts p)) from rfl]
   simp only [e0, e1, e3, e4, hp, Bool.and_true, Bool.true_and, if_true, wrap_add1 hk (by omega)]
   have hr : ((flat2 (pts p)).getD (k * 2 + 0) 0, (flat2 (pts p)).getD (k * 2 + 1) 0) = R2 (flat2 (pts p)) k := rfl
   try simp only [hr]
   generalize ((i_quadrance p colour (R2 (flat2 (pts p)) k) a == i_quadrance p colour (R2 (flat2 (pts p)) k) b)) = c0
   generalize ((i_quadrance p colour (R2 (flat2 (pts p)) k) a == i_quadrance p colour (R2 (flat2 (pts p)) k) c)) = c1
   cases c0 <;> cases c1 <;> rfl)
  (fun f => by
   show B_i_circumcentre_0 p colour a b c (L_i_circumcentre_0 1000000 p colour a b c f) (((pts p).length : Nat) : Int) = _
   unfold B_i_circumcentre_0
   rw [show i_allPoints p = ((pts p).length, flat2 (pts p)) from rfl]
   rw [if_neg (by simp)])
 have h2 := find_row (pts p) (0, 0) (fun zz => if ((i_quadrance p colour zz a == i_quadrance p colour zz b) && (i_quadrance p colour zz a == i_quadrance p colour zz c)) = true then some (zz) else none)
 rw [← h2]
 simp only [← R2_flat]
 exact h

theorem tot_i_circumcentre (p colour : Int) (a b c : P2) (hp : (prB p) = true) : Fo_i_circumcentre 1000000 p colour a b c = some (i_circumcentre p colour a b c) := by
 unfold Fo_i_circumcentre G_i_circumcentre
 rw [if_pos hp]
 exact lo0_i_circumcentre p colour a b c hp (by omega)
def run_i_circumcentre : RunP
 | [.v (.int .i64 p), .v (.int .i64 colour), .v (.agg ⟨[.int .i64 a0, .int .i64 a1]⟩), .v (.agg ⟨[.int .i64 b0, .int .i64 b1]⟩), .v (.agg ⟨[.int .i64 c0, .int .i64 c1]⟩)] => some (prB p, enc_a2 (i_circumcentre p colour (a0, a1) (b0, b1) (c0, c1)))
 | _ => none
theorem sound_i_circumcentre : Sound prog 116 run_i_circumcentre := by
 refine sound_1 de_a2 SO_i_circumcentre (by kernel_rfl) func116 ntmps116 rfl (by kernel_rfl) fun q r E => ?_
 unfold run_i_circumcentre at E
 split at E
 ·obtain ⟨hp, rfl⟩ := so2 E
  rename_i p colour a0 a1 b0 b1 c0 c1
  exact ⟨_, _, rfl, (eq_i_circumcentre _ p colour (a0, a1) (b0, b1) (c0, c1)).trans (tot_i_circumcentre p colour (a0, a1) (b0, b1) (c0, c1) hp)⟩
 ·cases E

def S_s_l04Code : Sums := ⟨tblS [(38, run_s_l02Code), (228, run_s_l01Area)], tblM [], false⟩
theorem SO_s_l04Code : SumsOK prog S_s_l04Code := ⟨tblS_ok ⟨⟨call38, sound_s_l02Code⟩, ⟨call228, sound_s_l01Area⟩, ⟨⟩⟩, tM⟩
def Fo_s_l04Code (p colour : Int) (a b c : P2) : Option (Int) :=
 (if ((s_l02Code p colour 3 [a.1, a.2, b.1, b.2, c.1, c.2]) == 0) = true then (if (prB p) = true then (if ((s_l01Area p a b c) == 0) = true then some 5 else some (s_l02Code p colour 3 [a.1, a.2, b.1, b.2, c.1, c.2])) else none) else some (s_l02Code p colour 3 [a.1, a.2, b.1, b.2, c.1, c.2]))
theorem eq_s_l04Code (p colour : Int) (a b c : P2) : eT S_s_l04Code 185 30 dec_i [pI p, pI colour, pA a, pA b, pA c] = Fo_s_l04Code p colour a b c := by
 kernel_rfl
def s_l04Code (p colour : Int) (a b c : P2) : Int :=
 (if ((s_l02Code p colour 3 [a.1, a.2, b.1, b.2, c.1, c.2]) == 0) = true then (if ((s_l01Area p a b c) == 0) = true then 5 else (s_l02Code p colour 3 [a.1, a.2, b.1, b.2, c.1, c.2])) else (s_l02Code p colour 3 [a.1, a.2, b.1, b.2, c.1, c.2]))
theorem tot_s_l04Code (p colour : Int) (a b c : P2) : Fo_s_l04Code p colour a b c = some (s_l04Code p colour a b c) := by
 unfold Fo_s_l04Code s_l04Code
 (try simp only [wI_eq])
 repeat' (first | with_reducible rfl | refine chk_opt (by (first | (with_reducible assumption) | (with_reducible exact l02Code_prB ‹_›) | (with_reducible exact l02Code_prB0 ‹_›))) ?_ | refine ite_opt (fun _ => ?_) (fun _ => ?_) | rfl)
def run_s_l04Code : RunP
 | [.v (.int .i64 p), .v (.int .i64 colour), .v (.agg ⟨[.int .i64 a0, .int .i64 a1]⟩), .v (.agg ⟨[.int .i64 b0, .int .i64 b1]⟩), .v (.agg ⟨[.int .i64 c0, .int .i64 c1]⟩)] => some (true, enc_i (s_l04Code p colour (a0, a1) (b0, b1) (c0, c1)))
 | _ => none
theorem sound_s_l04Code : Sound prog 185 run_s_l04Code := by
 refine sound_1 de_i SO_s_l04Code (by kernel_rfl) func185 ntmps185 rfl (by kernel_rfl) fun q r E => ?_
 unfold run_s_l04Code at E
 split at E
 ·obtain ⟨hp, rfl⟩ := so2 E
  rename_i p colour a0 a1 b0 b1 c0 c1
  exact ⟨_, _, rfl, (eq_s_l04Code p colour (a0, a1) (b0, b1) (c0, c1)).trans (tot_s_l04Code p colour (a0, a1) (b0, b1) (c0, c1))⟩
 ·cases E

theorem l04Code_prB {p k : Int} {a b c : P2} (h : ¬ (s_l04Code p k a b c != 0) = true) : prB p = true := by
 refine Pr_prB (i_IsField_ok ?_)
 have h : s_l04Code p k a b c = 0 := by simpa using h
 cases hf : i_IsField p
 ·simp [s_l04Code, s_l02Code, s_l01Code, s_l01Field, hf] at h
 ·rfl
theorem l04Code_prB0 {p k : Int} {a b c : P2} (h : (s_l04Code p k a b c == 0) = true) : prB p = true := l04Code_prB (by simpa using h)
def S_s_l04Circumcentre : Sums := ⟨tblS [(205, run_s_l01Minus), (180, run_s_l01Middle), (227, run_s_l02Through), (226, run_s_l01Meet)], tblM [], false⟩
theorem SO_s_l04Circumcentre : SumsOK prog S_s_l04Circumcentre := ⟨tblS_ok ⟨⟨call205, sound_s_l01Minus⟩, ⟨call180, sound_s_l01Middle⟩, ⟨call227, sound_s_l02Through⟩, ⟨call226, sound_s_l01Meet⟩, ⟨⟩⟩, tM⟩
def Fo_s_l04Circumcentre (p colour : Int) (a b c : P2) : Option (Int × Int) :=
 (if (prB p) = true then (if (prB p) = true then (if (prB p) = true then (if (prB p) = true then (if (prB p) = true then (if (prB p) = true then (if (prB p) = true then some ((s_l01Meet p (s_l02Through p colour (s_l01Minus p a b) (s_l01Middle p a b)) (s_l02Through p colour (s_l01Minus p a c) (s_l01Middle p a c))).1) else none) else none) else none) else none) else none) else none) else none)
theorem eq_s_l04Circumcentre (p colour : Int) (a b c : P2) : eT S_s_l04Circumcentre 186 45 dec_a2 [pI p, pI colour, pA a, pA b, pA c] = Fo_s_l04Circumcentre p colour a b c := by
 kernel_rfl
def s_l04Circumcentre (p colour : Int) (a b c : P2) : Int × Int :=
 ((s_l01Meet p (s_l02Through p colour (s_l01Minus p a b) (s_l01Middle p a b)) (s_l02Through p colour (s_l01Minus p a c) (s_l01Middle p a c))).1)
theorem tot_s_l04Circumcentre (p colour : Int) (a b c : P2) (hp : (prB p) = true) : Fo_s_l04Circumcentre p colour a b c = some (s_l04Circumcentre p colour a b c) := by
 try have h0 := prB_ne hp
 unfold Fo_s_l04Circumcentre s_l04Circumcentre
 (try simp only [wI_eq])
 repeat' (first | with_reducible rfl | with_reducible refine chk_opt hp ?_ | with_reducible refine chk_opt h0 ?_ | refine chk_opt (and_all hp fun _ => hp) ?_ | refine chk_opt (and_all hp fun _ => rfl) ?_ | refine ite_opt (fun _ => ?_) (fun _ => ?_) | rfl)
def run_s_l04Circumcentre : RunP
 | [.v (.int .i64 p), .v (.int .i64 colour), .v (.agg ⟨[.int .i64 a0, .int .i64 a1]⟩), .v (.agg ⟨[.int .i64 b0, .int .i64 b1]⟩), .v (.agg ⟨[.int .i64 c0, .int .i64 c1]⟩)] => some (prB p, enc_a2 (s_l04Circumcentre p colour (a0, a1) (b0, b1) (c0, c1)))
 | _ => none
theorem sound_s_l04Circumcentre : Sound prog 186 run_s_l04Circumcentre := by
 refine sound_1 de_a2 SO_s_l04Circumcentre (by kernel_rfl) func186 ntmps186 rfl (by kernel_rfl) fun q r E => ?_
 unfold run_s_l04Circumcentre at E
 split at E
 ·obtain ⟨hp, rfl⟩ := so2 E
  rename_i p colour a0 a1 b0 b1 c0 c1
  exact ⟨_, _, rfl, (eq_s_l04Circumcentre p colour (a0, a1) (b0, b1) (c0, c1)).trans (tot_s_l04Circumcentre p colour (a0, a1) (b0, b1) (c0, c1) hp)⟩
 ·cases E

def S_i_altitude : Sums := ⟨tblS [(110, run_i_lineThrough), (170, run_i_perpendicular)], tblM [], false⟩
theorem SO_i_altitude : SumsOK prog S_i_altitude := ⟨tblS_ok ⟨⟨call110, sound_i_lineThrough⟩, ⟨call170, sound_i_perpendicular⟩, ⟨⟩⟩, tM⟩
def Fo_i_altitude (p colour : Int) (a b c : P2) : Option (Int × Int × Int) :=
 (if (prB p) = true then (if (prB p) = true then some (i_perpendicular p colour (i_lineThrough p b c) a) else none) else none)
theorem eq_i_altitude (p colour : Int) (a b c : P2) : eT S_i_altitude 138 19 dec_a3 [pI p, pI colour, pA a, pA b, pA c] = Fo_i_altitude p colour a b c := by
 kernel_rfl
def i_altitude (p colour : Int) (a b c : P2) : Int × Int × Int :=
 (i_perpendicular p colour (i_lineThrough p b c) a)
theorem tot_i_altitude (p colour : Int) (a b c : P2) (hp : (prB p) = true) : Fo_i_altitude p colour a b c = some (i_altitude p colour a b c) := by
 try have h0 := prB_ne hp
 unfold Fo_i_altitude i_altitude
 (try simp only [wI_eq])
 repeat' (first | with_reducible rfl | with_reducible refine chk_opt hp ?_ | with_reducible refine chk_opt h0 ?_ | refine chk_opt (and_all hp fun _ => hp) ?_ | refine chk_opt (and_all hp fun _ => rfl) ?_ | refine ite_opt (fun _ => ?_) (fun _ => ?_) | rfl)
def run_i_altitude : RunP
 | [.v (.int .i64 p), .v (.int .i64 colour), .v (.agg ⟨[.int .i64 a0, .int .i64 a1]⟩), .v (.agg ⟨[.int .i64 b0, .int .i64 b1]⟩), .v (.agg ⟨[.int .i64 c0, .int .i64 c1]⟩)] => some (prB p, enc_a3 (i_altitude p colour (a0, a1) (b0, b1) (c0, c1)))
 | _ => none
theorem sound_i_altitude : Sound prog 138 run_i_altitude := by
 refine sound_1 de_a3 SO_i_altitude (by kernel_rfl) func138 ntmps138 rfl (by kernel_rfl) fun q r E => ?_
 unfold run_i_altitude at E
 split at E
 ·obtain ⟨hp, rfl⟩ := so2 E
  rename_i p colour a0 a1 b0 b1 c0 c1
  exact ⟨_, _, rfl, (eq_i_altitude p colour (a0, a1) (b0, b1) (c0, c1)).trans (tot_i_altitude p colour (a0, a1) (b0, b1) (c0, c1) hp)⟩
 ·cases E

def S_i_orthocentre : Sums := ⟨tblS [(138, run_i_altitude), (169, run_i_meet)], tblM [], false⟩
theorem SO_i_orthocentre : SumsOK prog S_i_orthocentre := ⟨tblS_ok ⟨⟨call138, sound_i_altitude⟩, ⟨call169, sound_i_meet⟩, ⟨⟩⟩, tM⟩
def Fo_i_orthocentre (p colour : Int) (a b c : P2) : Option (Int × Int) :=
 (if (prB p) = true then (if (prB p) = true then (if (prB p) = true then some (i_meet p (i_altitude p colour a b c) (i_altitude p colour b a c)) else none) else none) else none)
theorem eq_i_orthocentre (p colour : Int) (a b c : P2) : eT S_i_orthocentre 117 25 dec_a2 [pI p, pI colour, pA a, pA b, pA c] = Fo_i_orthocentre p colour a b c := by
 kernel_rfl
def i_orthocentre (p colour : Int) (a b c : P2) : Int × Int :=
 (i_meet p (i_altitude p colour a b c) (i_altitude p colour b a c))
theorem tot_i_orthocentre (p colour : Int) (a b c : P2) (hp : (prB p) = true) : Fo_i_orthocentre p colour a b c = some (i_orthocentre p colour a b c) := by
 try have h0 := prB_ne hp
 unfold Fo_i_orthocentre i_orthocentre
 (try simp only [wI_eq])
 repeat' (first | with_reducible rfl | with_reducible refine chk_opt hp ?_ | with_reducible refine chk_opt h0 ?_ | refine chk_opt (and_all hp fun _ => hp) ?_ | refine chk_opt (and_all hp fun _ => rfl) ?_ | refine ite_opt (fun _ => ?_) (fun _ => ?_) | rfl)
def run_i_orthocentre : RunP
 | [.v (.int .i64 p), .v (.int .i64 colour), .v (.agg ⟨[.int .i64 a0, .int .i64 a1]⟩), .v (.agg ⟨[.int .i64 b0, .int .i64 b1]⟩), .v (.agg ⟨[.int .i64 c0, .int .i64 c1]⟩)] => some (prB p, enc_a2 (i_orthocentre p colour (a0, a1) (b0, b1) (c0, c1)))
 | _ => none
theorem sound_i_orthocentre : Sound prog 117 run_i_orthocentre := by
 refine sound_1 de_a2 SO_i_orthocentre (by kernel_rfl) func117 ntmps117 rfl (by kernel_rfl) fun q r E => ?_
 unfold run_i_orthocentre at E
 split at E
 ·obtain ⟨hp, rfl⟩ := so2 E
  rename_i p colour a0 a1 b0 b1 c0 c1
  exact ⟨_, _, rfl, (eq_i_orthocentre p colour (a0, a1) (b0, b1) (c0, c1)).trans (tot_i_orthocentre p colour (a0, a1) (b0, b1) (c0, c1) hp)⟩
 ·cases E

def S_s_l04Altitude : Sums := ⟨tblS [(205, run_s_l01Minus), (227, run_s_l02Through)], tblM [], false⟩
theorem SO_s_l04Altitude : SumsOK prog S_s_l04Altitude := ⟨tblS_ok ⟨⟨call205, sound_s_l01Minus⟩, ⟨call227, sound_s_l02Through⟩, ⟨⟩⟩, tM⟩
def Fo_s_l04Altitude (p colour : Int) (a b c : P2) : Option (Int × Int × Int) :=
 (if (prB p) = true then (if (prB p) = true then some (s_l02Through p colour (s_l01Minus p b c) a) else none) else none)
theorem eq_s_l04Altitude (p colour : Int) (a b c : P2) : eT S_s_l04Altitude 229 19 dec_a3 [pI p, pI colour, pA a, pA b, pA c] = Fo_s_l04Altitude p colour a b c := by
 kernel_rfl
def s_l04Altitude (p colour : Int) (a b c : P2) : Int × Int × Int :=
 (s_l02Through p colour (s_l01Minus p b c) a)
theorem tot_s_l04Altitude (p colour : Int) (a b c : P2) (hp : (prB p) = true) : Fo_s_l04Altitude p colour a b c = some (s_l04Altitude p colour a b c) := by
 try have h0 := prB_ne hp
 unfold Fo_s_l04Altitude s_l04Altitude
 (try simp only [wI_eq])
 repeat' (first | with_reducible rfl | with_reducible refine chk_opt hp ?_ | with_reducible refine chk_opt h0 ?_ | refine chk_opt (and_all hp fun _ => hp) ?_ | refine chk_opt (and_all hp fun _ => rfl) ?_ | refine ite_opt (fun _ => ?_) (fun _ => ?_) | rfl)
def run_s_l04Altitude : RunP
 | [.v (.int .i64 p), .v (.int .i64 colour), .v (.agg ⟨[.int .i64 a0, .int .i64 a1]⟩), .v (.agg ⟨[.int .i64 b0, .int .i64 b1]⟩), .v (.agg ⟨[.int .i64 c0, .int .i64 c1]⟩)] => some (prB p, enc_a3 (s_l04Altitude p colour (a0, a1) (b0, b1) (c0, c1)))
 | _ => none
theorem sound_s_l04Altitude : Sound prog 229 run_s_l04Altitude := by
 refine sound_1 de_a3 SO_s_l04Altitude (by kernel_rfl) func229 ntmps229 rfl (by kernel_rfl) fun q r E => ?_
 unfold run_s_l04Altitude at E
 split at E
 ·obtain ⟨hp, rfl⟩ := so2 E
  rename_i p colour a0 a1 b0 b1 c0 c1
  exact ⟨_, _, rfl, (eq_s_l04Altitude p colour (a0, a1) (b0, b1) (c0, c1)).trans (tot_s_l04Altitude p colour (a0, a1) (b0, b1) (c0, c1) hp)⟩
 ·cases E

def S_s_l04Orthocentre : Sums := ⟨tblS [(229, run_s_l04Altitude), (226, run_s_l01Meet)], tblM [], false⟩
theorem SO_s_l04Orthocentre : SumsOK prog S_s_l04Orthocentre := ⟨tblS_ok ⟨⟨call229, sound_s_l04Altitude⟩, ⟨call226, sound_s_l01Meet⟩, ⟨⟩⟩, tM⟩
def Fo_s_l04Orthocentre (p colour : Int) (a b c : P2) : Option (Int × Int) :=
 (if (prB p) = true then (if (prB p) = true then (if (prB p) = true then some ((s_l01Meet p (s_l04Altitude p colour a b c) (s_l04Altitude p colour b a c)).1) else none) else none) else none)
theorem eq_s_l04Orthocentre (p colour : Int) (a b c : P2) : eT S_s_l04Orthocentre 187 31 dec_a2 [pI p, pI colour, pA a, pA b, pA c] = Fo_s_l04Orthocentre p colour a b c := by
 kernel_rfl
def s_l04Orthocentre (p colour : Int) (a b c : P2) : Int × Int :=
 ((s_l01Meet p (s_l04Altitude p colour a b c) (s_l04Altitude p colour b a c)).1)
theorem tot_s_l04Orthocentre (p colour : Int) (a b c : P2) (hp : (prB p) = true) : Fo_s_l04Orthocentre p colour a b c = some (s_l04Orthocentre p colour a b c) := by
 try have h0 := prB_ne hp
 unfold Fo_s_l04Orthocentre s_l04Orthocentre
 (try simp only [wI_eq])
 repeat' (first | with_reducible rfl | with_reducible refine chk_opt hp ?_ | with_reducible refine chk_opt h0 ?_ | refine chk_opt (and_all hp fun _ => hp) ?_ | refine chk_opt (and_all hp fun _ => rfl) ?_ | refine ite_opt (fun _ => ?_) (fun _ => ?_) | rfl)
def run_s_l04Orthocentre : RunP
 | [.v (.int .i64 p), .v (.int .i64 colour), .v (.agg ⟨[.int .i64 a0, .int .i64 a1]⟩), .v (.agg ⟨[.int .i64 b0, .int .i64 b1]⟩), .v (.agg ⟨[.int .i64 c0, .int .i64 c1]⟩)] => some (prB p, enc_a2 (s_l04Orthocentre p colour (a0, a1) (b0, b1) (c0, c1)))
 | _ => none
theorem sound_s_l04Orthocentre : Sound prog 187 run_s_l04Orthocentre := by
 refine sound_1 de_a2 SO_s_l04Orthocentre (by kernel_rfl) func187 ntmps187 rfl (by kernel_rfl) fun q r E => ?_
 unfold run_s_l04Orthocentre at E
 split at E
 ·obtain ⟨hp, rfl⟩ := so2 E
  rename_i p colour a0 a1 b0 b1 c0 c1
  exact ⟨_, _, rfl, (eq_s_l04Orthocentre p colour (a0, a1) (b0, b1) (c0, c1)).trans (tot_s_l04Orthocentre p colour (a0, a1) (b0, b1) (c0, c1) hp)⟩
 ·cases E

end

end Go.Proofs.YtcdpfpfbilfpoaaGreatDoor
