import Derived.Test.YtjpckmpeahinkaaDk
import Derived.Test.YtjpckmpeahinkaaProg
set_option linter.unusedSimpArgs false
set_option linter.unusedVariables false
namespace Go.Proofs.Ytjpckmpeahinkaa
open Go.RowKit
def dec_b : List TR → Option (Bool)
  | [.v (.bool x0)] => some x0
  | _ => none
def enc_b : Bool → List TR
  | x0 => [.v (.bool x0)]
theorem de_b (rs : List TR) (x : Bool) (h : dec_b rs = some x) : rs = enc_b x := by
  unfold dec_b at h
  split at h
  · simp only [Option.some.injEq] at h
    subst h
    rfl
  · cases h
def S_i_isNumber : Sums := ⟨tblS [], tblM []⟩
theorem SO_i_isNumber : SumsOK Try.prog S_i_isNumber := ⟨tblS_ok True.intro, tblM_ok True.intro⟩
def Fo_i_isNumber (p : Int) (x : Int) : Option (Bool) :=
  (if (decide (x ≥ 0)) = true then some (decide (x < p)) else some false)
theorem eq_i_isNumber (p : Int) (x : Int) : execT Try.prog S_i_isNumber 109 12 1000000 dec_b [.v (.int .i64 p), .v (.int .i64 x)] = Fo_i_isNumber p x := by
  kernel_rfl
def i_isNumber (p : Int) (x : Int) : Bool :=
  (if (decide (x ≥ 0)) = true then decide (x < p) else false)
theorem tot_i_isNumber (p : Int) (x : Int) : Fo_i_isNumber p x = some (i_isNumber p x) := by
  unfold Fo_i_isNumber i_isNumber
  (try simp only [wI_eq])
  repeat' (first | with_reducible rfl | refine ite_opt (fun _ => ?_) (fun _ => ?_) | rfl)
def run_i_isNumber : List PV → Option (Bool × List TR)
  | [.v (.int .i64 p), .v (.int .i64 x)] => some (true, enc_b (i_isNumber p x))
  | _ => none
theorem sound_i_isNumber : Sound Try.prog 109 run_i_isNumber := by
  refine sound_of de_b SO_i_isNumber (by kernel_rfl) Try.func109 Try.ntmps109 rfl (by kernel_rfl) ?_
  intro W pvs avs rs hargs hrun
  unfold run_i_isNumber at hrun
  split at hrun
  · simp only [Option.some.injEq, Prod.mk.injEq] at hrun
    obtain ⟨hp, rfl⟩ := hrun
    rename_i p x
    exact ⟨_, _, _, hargs, rfl, (eq_i_isNumber p x).trans (tot_i_isNumber p x)⟩
  · cases hrun

def S_i_areNumbers : Sums := ⟨tblS [(109, run_i_isNumber)], tblM []⟩
theorem SO_i_areNumbers : SumsOK Try.prog S_i_areNumbers := ⟨tblS_ok ⟨⟨Try.call109, sound_i_isNumber⟩, True.intro⟩, tblM_ok True.intro⟩
def T_i_areNumbers_0 (p : Int) (listn : Nat) (listl : List Int) (t9 : Int) : Tab := ⟨[.val (.int .i64 p), .row 4, .junk, .junk, .val (.bool false), .junk, .junk, .row 4, .val (.int .i64 ((listn : Nat) : Int)), .val (.int .i64 t9), .junk, .junk, .junk, .junk, .junk, .junk, .junk, .junk], [(4, .ros listn (.ints listl))]⟩
def X_i_areNumbers_0 (P : Program) (fu : Nat) (p : Int) (listn : Nat) (listl : List Int) (f : Nat) (t9 : Int) : Option (Bool) := loopK (exec P S_i_areNumbers 18 fu (Code.sub [1, 0, 1, 0, 0] (bodyF P 64))) f (T_i_areNumbers_0 p listn listl t9) (kBlock 0 (kSeq (fun s => exec P S_i_areNumbers 18 fu (Code.sub [1, 1] (bodyF P 64)) s (finT P 64 dec_b)) (finT P 64 dec_b)))
def B_i_areNumbers_0 (p : Int) (listn : Nat) (listl : List Int) (rec0 : Int → Option (Bool)) (t9 : Int) : Option (Bool) :=
  (if (decide (t9 < ((listn : Nat) : Int))) = true then (if (decide (0 ≤ t9) && decide (t9 < ((listn : Nat) : Int))) = true then (if (Nat.ble (t9.toNat * 1 + 1) listl.length) = true then (if (!(i_isNumber p (listl.getD (t9.toNat * 1) 0))) = true then some false else rec0 (wI (t9 + 1))) else none) else none) else some true)
def L_i_areNumbers_0 (fu : Nat) (p : Int) (listn : Nat) (listl : List Int) : Nat → Int → Option (Bool)
  | 0, _ => none
  | f + 1, t9 => B_i_areNumbers_0 p listn listl (L_i_areNumbers_0 fu p listn listl f) t9
theorem loop_i_areNumbers_0 (fu : Nat) (p : Int) (listn : Nat) (listl : List Int) : ∀ (f : Nat) (t9 : Int), X_i_areNumbers_0 Try.prog fu p listn listl f t9 = L_i_areNumbers_0 fu p listn listl f t9 := by
  intro f
  induction f with
  | zero => intros; rfl
  | succ f ih =>
    intro t9
    have h1 : X_i_areNumbers_0 Try.prog fu p listn listl (f + 1) t9 = B_i_areNumbers_0 p listn listl (X_i_areNumbers_0 Try.prog fu p listn listl f) t9 := by kernel_rfl
    have h2 : X_i_areNumbers_0 Try.prog fu p listn listl f = L_i_areNumbers_0 fu p listn listl f := by funext t9; exact ih t9
    rw [h1, h2]
    rfl
def G_i_areNumbers (p : Int) (listn : Nat) (listl : List Int) (lo0 : Int → Option (Bool)) : Option (Bool) :=
  lo0 0
def Fo_i_areNumbers (fu : Nat) (p : Int) (listn : Nat) (listl : List Int) : Option (Bool) := G_i_areNumbers p listn listl (L_i_areNumbers_0 fu p listn listl (fu + 100))
theorem eqg_i_areNumbers (fu : Nat) (p : Int) (listn : Nat) (listl : List Int) : execT Try.prog S_i_areNumbers 64 18 fu dec_b [.v (.int .i64 p), .s listn (.ints listl)] = G_i_areNumbers p listn listl (L_i_areNumbers_0 fu p listn listl (fu + 100)) := by
  have h1 : execT Try.prog S_i_areNumbers 64 18 fu dec_b [.v (.int .i64 p), .s listn (.ints listl)] = G_i_areNumbers p listn listl (X_i_areNumbers_0 Try.prog fu p listn listl (fu + 100)) := by kernel_rfl
  have c0 : X_i_areNumbers_0 Try.prog fu p listn listl (fu + 100) = L_i_areNumbers_0 fu p listn listl (fu + 100) := by funext t9; exact loop_i_areNumbers_0 fu p listn listl (fu + 100) t9
  rw [h1, c0]
theorem eq_i_areNumbers (fu : Nat) (p : Int) (listn : Nat) (listl : List Int) : execT Try.prog S_i_areNumbers 64 18 fu dec_b [.v (.int .i64 p), .s listn (.ints listl)] = Fo_i_areNumbers fu p listn listl := eqg_i_areNumbers fu p listn listl
def i_areNumbers (p : Int) (l : List Int) : Bool := l.all (fun x => i_isNumber p x)
theorem tot_i_areNumbers (p : Int) (listn : Nat) (listl : List Int) (hp : (lenB listn 1 listl) = true) : Fo_i_areNumbers listn p listn listl = some (i_areNumbers p listl) := by
  obtain ⟨hl, hn⟩ := lenB_ok hp
  have key : ∀ F, listn < F → (L_i_areNumbers_0 listn p listn listl) F 0 = some (if (List.range listn).all (fun k => (fun x => i_isNumber p x) (listl.getD (k * 1) 0)) = true then true else false) := by
    intro F hF
    refine scan hF (fun f k hk => ?_) fun f => ?_
    · show B_i_areNumbers_0 p listn listl ((L_i_areNumbers_0 listn p listn listl) f) (k : Int) = _
      unfold B_i_areNumbers_0
      rw [if_pos (by simpa using hk), if_pos (by simpa using hk), if_pos (leb (by rw [hl, Int.toNat_natCast]; omega)), wrap_add1 hk (by omega)]
      first | rfl | (rw [wI_eq]; rfl)
    · show B_i_areNumbers_0 p listn listl ((L_i_areNumbers_0 listn p listn listl) f) ((listn : Nat) : Int) = _
      unfold B_i_areNumbers_0
      rw [if_neg (by simp)]
  unfold Fo_i_areNumbers G_i_areNumbers
  rw [key _ (by omega)]
  show _ = some ((listl).all (fun x => i_isNumber p x))
  rw [all_rows1 listn listl (by omega)]
  cases (List.range listn).all (fun k => (fun x => i_isNumber p x) (listl.getD (k * 1) 0)) <;> rfl
def run_i_areNumbers : List PV → Option (Bool × List TR)
  | [.v (.int .i64 p), .s listn (.ints listl)] => some (lenB listn 1 listl, enc_b (i_areNumbers p listl))
  | _ => none
theorem sound_i_areNumbers : Sound Try.prog 64 run_i_areNumbers := by
  refine sound_of de_b SO_i_areNumbers (by kernel_rfl) Try.func64 Try.ntmps64 rfl (by kernel_rfl) ?_
  intro W pvs avs rs hargs hrun
  unfold run_i_areNumbers at hrun
  split at hrun
  · simp only [Option.some.injEq, Prod.mk.injEq] at hrun
    obtain ⟨hp, rfl⟩ := hrun
    rename_i p listn listl
    exact ⟨_, _, _, hargs, rfl, (eq_i_areNumbers _ p listn listl).trans (tot_i_areNumbers p listn listl hp)⟩
  · cases hrun

def S_i_isConic : Sums := ⟨tblS [(64, run_i_areNumbers)], tblM []⟩
theorem SO_i_isConic : SumsOK Try.prog S_i_isConic := ⟨tblS_ok ⟨⟨Try.call64, sound_i_areNumbers⟩, True.intro⟩, tblM_ok True.intro⟩
def Fo_i_isConic (p : Int) (k : Int × Int × Int × Int × Int × Int) : Option (Bool) :=
  (if (!(i_areNumbers p [k.1, k.2.1, k.2.2.1, k.2.2.2.1, k.2.2.2.2.1, k.2.2.2.2.2])) = true then some false else (if (k.1 != 0) = true then some (k.1 == 1) else (if (k.2.1 != 0) = true then some (k.2.1 == 1) else (if (k.2.2.1 != 0) = true then some (k.2.2.1 == 1) else some false))))
theorem eq_i_isConic (p : Int) (k : Int × Int × Int × Int × Int × Int) : execT Try.prog S_i_isConic 52 22 1000000 dec_b [.v (.int .i64 p), .v (.agg ⟨[.int .i64 k.1, .int .i64 k.2.1, .int .i64 k.2.2.1, .int .i64 k.2.2.2.1, .int .i64 k.2.2.2.2.1, .int .i64 k.2.2.2.2.2]⟩)] = Fo_i_isConic p k := by
  kernel_rfl
def i_isConic (p : Int) (k : Int × Int × Int × Int × Int × Int) : Bool :=
  (if (!(i_areNumbers p [k.1, k.2.1, k.2.2.1, k.2.2.2.1, k.2.2.2.2.1, k.2.2.2.2.2])) = true then false else (if (k.1 != 0) = true then k.1 == 1 else (if (k.2.1 != 0) = true then k.2.1 == 1 else (if (k.2.2.1 != 0) = true then k.2.2.1 == 1 else false))))
theorem tot_i_isConic (p : Int) (k : Int × Int × Int × Int × Int × Int) : Fo_i_isConic p k = some (i_isConic p k) := by
  unfold Fo_i_isConic i_isConic
  (try simp only [wI_eq])
  repeat' (first | with_reducible rfl | refine ite_opt (fun _ => ?_) (fun _ => ?_) | rfl)
def run_i_isConic : List PV → Option (Bool × List TR)
  | [.v (.int .i64 p), .v (.agg ⟨[.int .i64 k0, .int .i64 k1, .int .i64 k2, .int .i64 k3, .int .i64 k4, .int .i64 k5]⟩)] => some (true, enc_b (i_isConic p (k0, k1, k2, k3, k4, k5)))
  | _ => none
theorem sound_i_isConic : Sound Try.prog 52 run_i_isConic := by
  refine sound_of de_b SO_i_isConic (by kernel_rfl) Try.func52 Try.ntmps52 rfl (by kernel_rfl) ?_
  intro W pvs avs rs hargs hrun
  unfold run_i_isConic at hrun
  split at hrun
  · simp only [Option.some.injEq, Prod.mk.injEq] at hrun
    obtain ⟨hp, rfl⟩ := hrun
    rename_i p k0 k1 k2 k3 k4 k5
    exact ⟨_, _, _, hargs, rfl, (eq_i_isConic p (k0, k1, k2, k3, k4, k5)).trans (tot_i_isConic p (k0, k1, k2, k3, k4, k5))⟩
  · cases hrun

def S_s_l01In : Sums := ⟨tblS [], tblM []⟩
theorem SO_s_l01In : SumsOK Try.prog S_s_l01In := ⟨tblS_ok True.intro, tblM_ok True.intro⟩
def Fo_s_l01In (n_ : Int) (low : Int) (high : Int) : Option (Bool) :=
  (if (decide (n_ ≥ low)) = true then some (decide (n_ ≤ high)) else some false)
theorem eq_s_l01In (n_ : Int) (low : Int) (high : Int) : execT Try.prog S_s_l01In 104 15 1000000 dec_b [.v (.int .i64 n_), .v (.int .i64 low), .v (.int .i64 high)] = Fo_s_l01In n_ low high := by
  kernel_rfl
def s_l01In (n_ : Int) (low : Int) (high : Int) : Bool :=
  (if (decide (n_ ≥ low)) = true then decide (n_ ≤ high) else false)
theorem tot_s_l01In (n_ : Int) (low : Int) (high : Int) : Fo_s_l01In n_ low high = some (s_l01In n_ low high) := by
  unfold Fo_s_l01In s_l01In
  (try simp only [wI_eq])
  repeat' (first | with_reducible rfl | refine ite_opt (fun _ => ?_) (fun _ => ?_) | rfl)
def run_s_l01In : List PV → Option (Bool × List TR)
  | [.v (.int .i64 n_), .v (.int .i64 low), .v (.int .i64 high)] => some (true, enc_b (s_l01In n_ low high))
  | _ => none
theorem sound_s_l01In : Sound Try.prog 104 run_s_l01In := by
  refine sound_of de_b SO_s_l01In (by kernel_rfl) Try.func104 Try.ntmps104 rfl (by kernel_rfl) ?_
  intro W pvs avs rs hargs hrun
  unfold run_s_l01In at hrun
  split at hrun
  · simp only [Option.some.injEq, Prod.mk.injEq] at hrun
    obtain ⟨hp, rfl⟩ := hrun
    rename_i n_ low high
    exact ⟨_, _, _, hargs, rfl, (eq_s_l01In n_ low high).trans (tot_s_l01In n_ low high)⟩
  · cases hrun

def S_i_IsField : Sums := ⟨tblS [], tblM []⟩
theorem SO_i_IsField : SumsOK Try.prog S_i_IsField := ⟨tblS_ok True.intro, tblM_ok True.intro⟩
def Fo_i_IsField (p : Int) : Option (Bool) :=
  (if (p == 3) = true then (if (p == 3) = true then some true else some false) else (if (p == 5) = true then (if (p == 5) = true then some true else some false) else (if (p == 7) = true then (if (p == 7) = true then some true else some false) else (if (p == 11) = true then (if (p == 11) = true then some true else some false) else (if (p == 13) = true then (if (p == 13) = true then some true else some false) else (if (p == 17) = true then (if (p == 17) = true then some true else some false) else (if (p == 19) = true then (if (p == 19) = true then some true else some false) else (if (p == 23) = true then (if (p == 23) = true then some true else some false) else (if (p == 29) = true then (if (p == 29) = true then some true else some false) else (if (p == 31) = true then some true else some false))))))))))
theorem eq_i_IsField (p : Int) : execT Try.prog S_i_IsField 51 15 1000000 dec_b [.v (.int .i64 p)] = Fo_i_IsField p := by
  kernel_rfl
def i_IsField (p : Int) : Bool :=
  (if (p == 3) = true then (if (p == 3) = true then true else false) else (if (p == 5) = true then (if (p == 5) = true then true else false) else (if (p == 7) = true then (if (p == 7) = true then true else false) else (if (p == 11) = true then (if (p == 11) = true then true else false) else (if (p == 13) = true then (if (p == 13) = true then true else false) else (if (p == 17) = true then (if (p == 17) = true then true else false) else (if (p == 19) = true then (if (p == 19) = true then true else false) else (if (p == 23) = true then (if (p == 23) = true then true else false) else (if (p == 29) = true then (if (p == 29) = true then true else false) else (if (p == 31) = true then true else false))))))))))
theorem tot_i_IsField (p : Int) : Fo_i_IsField p = some (i_IsField p) := by
  unfold Fo_i_IsField i_IsField
  (try simp only [wI_eq])
  repeat' (first | with_reducible rfl | refine ite_opt (fun _ => ?_) (fun _ => ?_) | rfl)
def run_i_IsField : List PV → Option (Bool × List TR)
  | [.v (.int .i64 p)] => some (true, enc_b (i_IsField p))
  | _ => none
theorem sound_i_IsField : Sound Try.prog 51 run_i_IsField := by
  refine sound_of de_b SO_i_IsField (by kernel_rfl) Try.func51 Try.ntmps51 rfl (by kernel_rfl) ?_
  intro W pvs avs rs hargs hrun
  unfold run_i_IsField at hrun
  split at hrun
  · simp only [Option.some.injEq, Prod.mk.injEq] at hrun
    obtain ⟨hp, rfl⟩ := hrun
    rename_i p
    exact ⟨_, _, _, hargs, rfl, (eq_i_IsField p).trans (tot_i_IsField p)⟩
  · cases hrun

def S_s_l01Field : Sums := ⟨tblS [(104, run_s_l01In)], tblM []⟩
theorem SO_s_l01Field : SumsOK Try.prog S_s_l01Field := ⟨tblS_ok ⟨⟨Try.call104, sound_s_l01In⟩, True.intro⟩, tblM_ok True.intro⟩
def T_s_l01Field_0 (p : Int) (d : Int) : Tab := ⟨[.val (.int .i64 p), .junk, .val (.bool false), .val (.int .i64 d), .val (.int .i64 p), .val (.bool (s_l01In p 3 31)), .val (.bool (!(s_l01In p 3 31))), .junk, .junk, .junk, .junk, .junk, .junk, .junk, .junk, .junk, .junk, .junk], []⟩
def X_s_l01Field_0 (P : Program) (fu : Nat) (p : Int) (f : Nat) (d : Int) : Option (Bool) := loopK (exec P S_s_l01Field 18 fu (Code.sub [1, 1, 0, 1, 0, 0] (bodyF P 49))) f (T_s_l01Field_0 p d) (kBlock 0 (kSeq (fun s => exec P S_s_l01Field 18 fu (Code.sub [1, 1, 1] (bodyF P 49)) s (finT P 49 dec_b)) (finT P 49 dec_b)))
def B_s_l01Field_0 (p : Int) (rec0 : Int → Option (Bool)) (d : Int) : Option (Bool) :=
  (if (decide ((wI (d * d)) ≤ p)) = true then (if (!(d == 0)) = true then (if ((p.tmod d) == 0) = true then some false else rec0 (wI (d + 1))) else none) else some true)
def L_s_l01Field_0 (fu : Nat) (p : Int) : Nat → Int → Option (Bool)
  | 0, _ => none
  | f + 1, d => B_s_l01Field_0 p (L_s_l01Field_0 fu p f) d
theorem loop_s_l01Field_0 (fu : Nat) (p : Int) : ∀ (f : Nat) (d : Int), X_s_l01Field_0 Try.prog fu p f d = L_s_l01Field_0 fu p f d := by
  intro f
  induction f with
  | zero => intros; rfl
  | succ f ih =>
    intro d
    have h1 : X_s_l01Field_0 Try.prog fu p (f + 1) d = B_s_l01Field_0 p (X_s_l01Field_0 Try.prog fu p f) d := by kernel_rfl
    have h2 : X_s_l01Field_0 Try.prog fu p f = L_s_l01Field_0 fu p f := by funext d; exact ih d
    rw [h1, h2]
    rfl
def G_s_l01Field (p : Int) (lo0 : Int → Option (Bool)) : Option (Bool) :=
  (if (!(s_l01In p 3 31)) = true then some false else lo0 2)
def Fo_s_l01Field (fu : Nat) (p : Int) : Option (Bool) := G_s_l01Field p (L_s_l01Field_0 fu p (fu + 100))
theorem eqg_s_l01Field (fu : Nat) (p : Int) : execT Try.prog S_s_l01Field 49 18 fu dec_b [.v (.int .i64 p)] = G_s_l01Field p (L_s_l01Field_0 fu p (fu + 100)) := by
  have h1 : execT Try.prog S_s_l01Field 49 18 fu dec_b [.v (.int .i64 p)] = G_s_l01Field p (X_s_l01Field_0 Try.prog fu p (fu + 100)) := by kernel_rfl
  have c0 : X_s_l01Field_0 Try.prog fu p (fu + 100) = L_s_l01Field_0 fu p (fu + 100) := by funext d; exact loop_s_l01Field_0 fu p (fu + 100) d
  rw [h1, c0]
theorem eq_s_l01Field (fu : Nat) (p : Int) : execT Try.prog S_s_l01Field 49 18 fu dec_b [.v (.int .i64 p)] = Fo_s_l01Field fu p := eqg_s_l01Field fu p
def s_l01Field (p : Int) : Bool := i_IsField p
theorem range29 {p : Int} (h3 : 3 ≤ p) (h31 : p ≤ 31) : p = 3 ∨ p = 4 ∨ p = 5 ∨ p = 6 ∨ p = 7 ∨ p = 8 ∨ p = 9 ∨ p = 10 ∨ p = 11 ∨ p = 12 ∨ p = 13 ∨ p = 14 ∨ p = 15 ∨ p = 16 ∨ p = 17 ∨ p = 18 ∨ p = 19 ∨ p = 20 ∨ p = 21 ∨ p = 22 ∨ p = 23 ∨ p = 24 ∨ p = 25 ∨ p = 26 ∨ p = 27 ∨ p = 28 ∨ p = 29 ∨ p = 30 ∨ p = 31 := by omega
theorem tot_s_l01Field (p : Int) : Fo_s_l01Field 40 p = some (s_l01Field p) := by
  by_cases hr : 3 ≤ p ∧ p ≤ 31
  · obtain ⟨h3, h31⟩ := hr
    obtain rfl | rfl | rfl | rfl | rfl | rfl | rfl | rfl | rfl | rfl | rfl | rfl | rfl | rfl | rfl | rfl | rfl | rfl | rfl | rfl | rfl | rfl | rfl | rfl | rfl | rfl | rfl | rfl | rfl := range29 h3 h31
    all_goals kernel_rfl
  · have hin : s_l01In p 3 31 = false := by simp [s_l01In]; omega
    unfold Fo_s_l01Field G_s_l01Field
    rw [hin]
    show some false = some (i_IsField p)
    congr 1
    symm
    simp [i_IsField]; omega
def run_s_l01Field : List PV → Option (Bool × List TR)
  | [.v (.int .i64 p)] => some (true, enc_b (s_l01Field p))
  | _ => none
theorem sound_s_l01Field : Sound Try.prog 49 run_s_l01Field := by
  refine sound_of de_b SO_s_l01Field (by kernel_rfl) Try.func49 Try.ntmps49 rfl (by kernel_rfl) ?_
  intro W pvs avs rs hargs hrun
  unfold run_s_l01Field at hrun
  split at hrun
  · simp only [Option.some.injEq, Prod.mk.injEq] at hrun
    obtain ⟨hp, rfl⟩ := hrun
    rename_i p
    exact ⟨_, _, _, hargs, rfl, (eq_s_l01Field _ p).trans (tot_s_l01Field p)⟩
  · cases hrun

def S_s_l08Is : Sums := ⟨tblS [(104, run_s_l01In)], tblM []⟩
theorem SO_s_l08Is : SumsOK Try.prog S_s_l08Is := ⟨tblS_ok ⟨⟨Try.call104, sound_s_l01In⟩, True.intro⟩, tblM_ok True.intro⟩
def Fo_s_l08Is (p : Int) (k : Int × Int × Int × Int × Int × Int) : Option (Bool) :=
  (if (!(s_l01In k.1 0 (wI (p - 1)))) = true then some false else (if (!(s_l01In k.2.1 0 (wI (p - 1)))) = true then some false else (if (!(s_l01In k.2.2.1 0 (wI (p - 1)))) = true then some false else (if (!(s_l01In k.2.2.2.1 0 (wI (p - 1)))) = true then some false else (if (!(s_l01In k.2.2.2.2.1 0 (wI (p - 1)))) = true then some false else (if (!(s_l01In k.2.2.2.2.2 0 (wI (p - 1)))) = true then some false else (if (k.1 != 0) = true then some (k.1 == 1) else (if (k.2.1 != 0) = true then some (k.2.1 == 1) else (if (k.2.2.1 != 0) = true then some (k.2.2.1 == 1) else some false)))))))))
theorem eq_s_l08Is (p : Int) (k : Int × Int × Int × Int × Int × Int) : execT Try.prog S_s_l08Is 50 30 1000000 dec_b [.v (.int .i64 p), .v (.agg ⟨[.int .i64 k.1, .int .i64 k.2.1, .int .i64 k.2.2.1, .int .i64 k.2.2.2.1, .int .i64 k.2.2.2.2.1, .int .i64 k.2.2.2.2.2]⟩)] = Fo_s_l08Is p k := by
  kernel_rfl
def s_l08Is (p : Int) (k : Int × Int × Int × Int × Int × Int) : Bool :=
  (if (!(s_l01In k.1 0 (wrap64 (p - 1)))) = true then false else (if (!(s_l01In k.2.1 0 (wrap64 (p - 1)))) = true then false else (if (!(s_l01In k.2.2.1 0 (wrap64 (p - 1)))) = true then false else (if (!(s_l01In k.2.2.2.1 0 (wrap64 (p - 1)))) = true then false else (if (!(s_l01In k.2.2.2.2.1 0 (wrap64 (p - 1)))) = true then false else (if (!(s_l01In k.2.2.2.2.2 0 (wrap64 (p - 1)))) = true then false else (if (k.1 != 0) = true then k.1 == 1 else (if (k.2.1 != 0) = true then k.2.1 == 1 else (if (k.2.2.1 != 0) = true then k.2.2.1 == 1 else false)))))))))
theorem tot_s_l08Is (p : Int) (k : Int × Int × Int × Int × Int × Int) : Fo_s_l08Is p k = some (s_l08Is p k) := by
  unfold Fo_s_l08Is s_l08Is
  (try simp only [wI_eq])
  repeat' (first | with_reducible rfl | refine ite_opt (fun _ => ?_) (fun _ => ?_) | rfl)
def run_s_l08Is : List PV → Option (Bool × List TR)
  | [.v (.int .i64 p), .v (.agg ⟨[.int .i64 k0, .int .i64 k1, .int .i64 k2, .int .i64 k3, .int .i64 k4, .int .i64 k5]⟩)] => some (true, enc_b (s_l08Is p (k0, k1, k2, k3, k4, k5)))
  | _ => none
theorem sound_s_l08Is : Sound Try.prog 50 run_s_l08Is := by
  refine sound_of de_b SO_s_l08Is (by kernel_rfl) Try.func50 Try.ntmps50 rfl (by kernel_rfl) ?_
  intro W pvs avs rs hargs hrun
  unfold run_s_l08Is at hrun
  split at hrun
  · simp only [Option.some.injEq, Prod.mk.injEq] at hrun
    obtain ⟨hp, rfl⟩ := hrun
    rename_i p k0 k1 k2 k3 k4 k5
    exact ⟨_, _, _, hargs, rfl, (eq_s_l08Is p (k0, k1, k2, k3, k4, k5)).trans (tot_s_l08Is p (k0, k1, k2, k3, k4, k5))⟩
  · cases hrun

def dec_i : List TR → Option (Int)
  | [.v (.int .i64 x0)] => some x0
  | _ => none
def enc_i : Int → List TR
  | x0 => [.v (.int .i64 x0)]
theorem de_i (rs : List TR) (x : Int) (h : dec_i rs = some x) : rs = enc_i x := by
  unfold dec_i at h
  split at h
  · simp only [Option.some.injEq] at h
    subst h
    rfl
  · cases h
def clo__b (k : Bool) (h : Bool) : List Value → Option (Bool × Value)
  | [] => some (k, .bool (h))
  | _ => none
theorem clo__b_ok (g : List Value → Option (Bool × Value)) : ∀ args r, clo__b (okV (g [])) (boolV (g [])) args = some (true, r) → g args = some (true, r) := by
  intro args r h
  unfold clo__b at h
  split at h
  · simp only [Option.some.injEq, Prod.mk.injEq] at h
    obtain ⟨h1, rfl⟩ := h
    exact okV_some h1
  · cases h
def S_i_asked : Sums := ⟨tblS [(51, run_i_IsField)], tblM []⟩
theorem SO_i_asked : SumsOK Try.prog S_i_asked := ⟨tblS_ok ⟨⟨Try.call51, sound_i_IsField⟩, True.intro⟩, tblM_ok True.intro⟩
def Fo_i_asked (p : Int) (rightk : Bool) (righth : Bool) : Option (Int) :=
  (if (!(i_IsField p)) = true then some 1 else (if (rightk) = true then (if (!righth) = true then some 2 else some 0) else none))
theorem eq_i_asked (p : Int) (rightk : Bool) (righth : Bool) : execT Try.prog S_i_asked 55 11 1000000 dec_i [.v (.int .i64 p), .f (clo__b rightk righth)] = Fo_i_asked p rightk righth := by
  kernel_rfl
def i_asked (p : Int) (rightk righth : Bool) : Int := if i_IsField p = true then (if righth = true then 0 else 2) else 1
theorem asked_zero {p : Int} {k b : Bool} (h : i_asked p k b = 0) : i_IsField p = true ∧ b = true := by
  unfold i_asked at h
  cases h1 : i_IsField p <;> cases h2 : b <;> simp [h1, h2] at h ⊢
theorem i_IsField_ok {p : Int} (h : i_IsField p = true) : Pr p := by
  unfold Pr; simp [i_IsField] at h; omega
theorem asked_prB {p : Int} {k b : Bool} (h : ¬ (i_asked p k b != 0) = true) : prB p = true := Pr_prB (i_IsField_ok (asked_zero (by simpa using h)).1)
theorem asked_prB0 {p : Int} {k b : Bool} (h : (i_asked p k b == 0) = true) : prB p = true := asked_prB (by simpa using h)
theorem field_prB {p : Int} (h : i_IsField p = true) : prB p = true := Pr_prB (i_IsField_ok h)
theorem field_prB0 {p : Int} (h : ¬ (!(i_IsField p)) = true) : prB p = true := field_prB (by simpa using h)
theorem tot_i_asked (p : Int) (rightk : Bool) (righth : Bool) (hp : (rightk || !(i_IsField p)) = true) : Fo_i_asked p rightk righth = some (i_asked p rightk righth) := by
  unfold Fo_i_asked i_asked
  cases h : i_IsField p <;> cases rightk <;> cases righth <;> simp_all
def run_i_asked : List PV → Option (Bool × List TR)
  | [.v (.int .i64 p), .f rightg] => some ((okV (rightg [])) || !(i_IsField p), enc_i (i_asked p (okV (rightg [])) (boolV (rightg []))))
  | _ => none
theorem sound_i_asked : Sound Try.prog 55 run_i_asked := by
  refine sound_of de_i SO_i_asked (by kernel_rfl) Try.func55 Try.ntmps55 rfl (by kernel_rfl) ?_
  intro W pvs avs rs hargs hrun
  unfold run_i_asked at hrun
  split at hrun
  · simp only [Option.some.injEq, Prod.mk.injEq] at hrun
    obtain ⟨hp, rfl⟩ := hrun
    rename_i p rightg
    have hargs := All2.replace (l1 := [_]) hargs (y := .f (clo__b _ _)) fun b hb => fn_weaken hb (clo__b_ok _)
    exact ⟨_, _, _, hargs, rfl, (eq_i_asked p (okV (rightg [])) (boolV (rightg []))).trans (tot_i_asked p (okV (rightg [])) (boolV (rightg [])) hp)⟩
  · cases hrun

def S_s_l08Code : Sums := ⟨tblS [(49, run_s_l01Field), (50, run_s_l08Is)], tblM []⟩
theorem SO_s_l08Code : SumsOK Try.prog S_s_l08Code := ⟨tblS_ok ⟨⟨Try.call49, sound_s_l01Field⟩, ⟨Try.call50, sound_s_l08Is⟩, True.intro⟩, tblM_ok True.intro⟩
def Fo_s_l08Code (p : Int) (k : Int × Int × Int × Int × Int × Int) : Option (Int) :=
  (if (!(s_l01Field p)) = true then some 1 else (if (!(s_l08Is p k)) = true then some 2 else some 0))
theorem eq_s_l08Code (p : Int) (k : Int × Int × Int × Int × Int × Int) : execT Try.prog S_s_l08Code 53 14 1000000 dec_i [.v (.int .i64 p), .v (.agg ⟨[.int .i64 k.1, .int .i64 k.2.1, .int .i64 k.2.2.1, .int .i64 k.2.2.2.1, .int .i64 k.2.2.2.2.1, .int .i64 k.2.2.2.2.2]⟩)] = Fo_s_l08Code p k := by
  kernel_rfl
def s_l08Code (p : Int) (k : Int × Int × Int × Int × Int × Int) : Int :=
  (if (!(s_l01Field p)) = true then 1 else (if (!(s_l08Is p k)) = true then 2 else 0))
theorem tot_s_l08Code (p : Int) (k : Int × Int × Int × Int × Int × Int) : Fo_s_l08Code p k = some (s_l08Code p k) := by
  unfold Fo_s_l08Code s_l08Code
  (try simp only [wI_eq])
  repeat' (first | with_reducible rfl | refine ite_opt (fun _ => ?_) (fun _ => ?_) | rfl)
def run_s_l08Code : List PV → Option (Bool × List TR)
  | [.v (.int .i64 p), .v (.agg ⟨[.int .i64 k0, .int .i64 k1, .int .i64 k2, .int .i64 k3, .int .i64 k4, .int .i64 k5]⟩)] => some (true, enc_i (s_l08Code p (k0, k1, k2, k3, k4, k5)))
  | _ => none
theorem sound_s_l08Code : Sound Try.prog 53 run_s_l08Code := by
  refine sound_of de_i SO_s_l08Code (by kernel_rfl) Try.func53 Try.ntmps53 rfl (by kernel_rfl) ?_
  intro W pvs avs rs hargs hrun
  unfold run_s_l08Code at hrun
  split at hrun
  · simp only [Option.some.injEq, Prod.mk.injEq] at hrun
    obtain ⟨hp, rfl⟩ := hrun
    rename_i p k0 k1 k2 k3 k4 k5
    exact ⟨_, _, _, hargs, rfl, (eq_s_l08Code p (k0, k1, k2, k3, k4, k5)).trans (tot_s_l08Code p (k0, k1, k2, k3, k4, k5))⟩
  · cases hrun

theorem l08Code_prB {p : Int} {k : P6} (h : ¬ (s_l08Code p k != 0) = true) : prB p = true := by
  refine Pr_prB (i_IsField_ok ?_)
  have h : s_l08Code p k = 0 := by simpa using h
  cases hf : i_IsField p
  · simp [s_l08Code, s_l01Field, hf] at h
  · rfl
theorem l08Code_prB0 {p : Int} {k : P6} (h : (s_l08Code p k == 0) = true) : prB p = true := l08Code_prB (by simpa using h)
def S_s_l01Numbers : Sums := ⟨tblS [(49, run_s_l01Field), (104, run_s_l01In)], tblM []⟩
theorem SO_s_l01Numbers : SumsOK Try.prog S_s_l01Numbers := ⟨tblS_ok ⟨⟨Try.call49, sound_s_l01Field⟩, ⟨Try.call104, sound_s_l01In⟩, True.intro⟩, tblM_ok True.intro⟩
def T_s_l01Numbers_0 (p : Int) (listn : Nat) (listl : List Int) (i : Int) : Tab := ⟨[.val (.int .i64 p), .row 4, .junk, .junk, .val (.int .i64 0), .val (.int .i64 i), .val (.int .i64 p), .val (.bool (s_l01Field p)), .val (.bool (!(s_l01Field p))), .junk, .junk, .junk, .junk, .junk, .junk, .junk, .junk, .junk, .junk, .junk, .junk, .junk, .junk], [(4, .ros listn (.ints listl))]⟩
def X_s_l01Numbers_0 (P : Program) (fu : Nat) (p : Int) (listn : Nat) (listl : List Int) (f : Nat) (i : Int) : Option (Int) := loopK (exec P S_s_l01Numbers 23 fu (Code.sub [1, 1, 0, 1, 0, 0] (bodyF P 61))) f (T_s_l01Numbers_0 p listn listl i) (kBlock 0 (kSeq (fun s => exec P S_s_l01Numbers 23 fu (Code.sub [1, 1, 1] (bodyF P 61)) s (finT P 61 dec_i)) (finT P 61 dec_i)))
def B_s_l01Numbers_0 (p : Int) (listn : Nat) (listl : List Int) (rec0 : Int → Option (Int)) (i : Int) : Option (Int) :=
  (if (decide (i < ((listn : Nat) : Int))) = true then (if (decide (0 ≤ i) && decide (i < ((listn : Nat) : Int))) = true then (if (Nat.ble (i.toNat * 1 + 1) listl.length) = true then (if (!(s_l01In (listl.getD (i.toNat * 1) 0) 0 (wI (p - 1)))) = true then some 2 else rec0 (wI (i + 1))) else none) else none) else some 0)
def L_s_l01Numbers_0 (fu : Nat) (p : Int) (listn : Nat) (listl : List Int) : Nat → Int → Option (Int)
  | 0, _ => none
  | f + 1, i => B_s_l01Numbers_0 p listn listl (L_s_l01Numbers_0 fu p listn listl f) i
theorem loop_s_l01Numbers_0 (fu : Nat) (p : Int) (listn : Nat) (listl : List Int) : ∀ (f : Nat) (i : Int), X_s_l01Numbers_0 Try.prog fu p listn listl f i = L_s_l01Numbers_0 fu p listn listl f i := by
  intro f
  induction f with
  | zero => intros; rfl
  | succ f ih =>
    intro i
    have h1 : X_s_l01Numbers_0 Try.prog fu p listn listl (f + 1) i = B_s_l01Numbers_0 p listn listl (X_s_l01Numbers_0 Try.prog fu p listn listl f) i := by kernel_rfl
    have h2 : X_s_l01Numbers_0 Try.prog fu p listn listl f = L_s_l01Numbers_0 fu p listn listl f := by funext i; exact ih i
    rw [h1, h2]
    rfl
def G_s_l01Numbers (p : Int) (listn : Nat) (listl : List Int) (lo0 : Int → Option (Int)) : Option (Int) :=
  (if (!(s_l01Field p)) = true then some 1 else lo0 0)
def Fo_s_l01Numbers (fu : Nat) (p : Int) (listn : Nat) (listl : List Int) : Option (Int) := G_s_l01Numbers p listn listl (L_s_l01Numbers_0 fu p listn listl (fu + 100))
theorem eqg_s_l01Numbers (fu : Nat) (p : Int) (listn : Nat) (listl : List Int) : execT Try.prog S_s_l01Numbers 61 23 fu dec_i [.v (.int .i64 p), .s listn (.ints listl)] = G_s_l01Numbers p listn listl (L_s_l01Numbers_0 fu p listn listl (fu + 100)) := by
  have h1 : execT Try.prog S_s_l01Numbers 61 23 fu dec_i [.v (.int .i64 p), .s listn (.ints listl)] = G_s_l01Numbers p listn listl (X_s_l01Numbers_0 Try.prog fu p listn listl (fu + 100)) := by kernel_rfl
  have c0 : X_s_l01Numbers_0 Try.prog fu p listn listl (fu + 100) = L_s_l01Numbers_0 fu p listn listl (fu + 100) := by funext i; exact loop_s_l01Numbers_0 fu p listn listl (fu + 100) i
  rw [h1, c0]
theorem eq_s_l01Numbers (fu : Nat) (p : Int) (listn : Nat) (listl : List Int) : execT Try.prog S_s_l01Numbers 61 23 fu dec_i [.v (.int .i64 p), .s listn (.ints listl)] = Fo_s_l01Numbers fu p listn listl := eqg_s_l01Numbers fu p listn listl
def s_l01Numbers (p : Int) (l : List Int) : Int := if s_l01Field p = true then (if l.all (fun x => s_l01In x 0 (wrap64 (p - 1))) = true then 0 else 2) else 1
theorem l01Numbers_prB {p : Int} {l : List Int} (h : ¬ (s_l01Numbers p l != 0) = true) : prB p = true := by
  refine Pr_prB (i_IsField_ok ?_)
  have h : s_l01Numbers p l = 0 := by simpa using h
  cases hf : i_IsField p
  · simp [s_l01Numbers, s_l01Field, hf] at h
  · rfl
theorem l01Numbers_prB0 {p : Int} {l : List Int} (h : (s_l01Numbers p l == 0) = true) : prB p = true := l01Numbers_prB (by simpa using h)
theorem tot_s_l01Numbers (p : Int) (listn : Nat) (listl : List Int) (hp : (lenB listn 1 listl) = true) : Fo_s_l01Numbers listn p listn listl = some (s_l01Numbers p listl) := by
  obtain ⟨hl, hn⟩ := lenB_ok hp
  have key : ∀ F, listn < F → (L_s_l01Numbers_0 listn p listn listl) F 0 = some (if (List.range listn).all (fun k => (fun x => s_l01In x 0 (wrap64 (p - 1))) (listl.getD (k * 1) 0)) = true then 0 else 2) := by
    intro F hF
    refine scan hF (fun f k hk => ?_) fun f => ?_
    · show B_s_l01Numbers_0 p listn listl ((L_s_l01Numbers_0 listn p listn listl) f) (k : Int) = _
      unfold B_s_l01Numbers_0
      rw [if_pos (by simpa using hk), if_pos (by simpa using hk), if_pos (leb (by rw [hl, Int.toNat_natCast]; omega)), wrap_add1 hk (by omega)]
      first | rfl | (rw [wI_eq]; rfl)
    · show B_s_l01Numbers_0 p listn listl ((L_s_l01Numbers_0 listn p listn listl) f) ((listn : Nat) : Int) = _
      unfold B_s_l01Numbers_0
      rw [if_neg (by simp)]
  unfold Fo_s_l01Numbers G_s_l01Numbers
  show _ = some (if s_l01Field p = true then (if (listl).all (fun x => s_l01In x 0 (wrap64 (p - 1))) = true then 0 else 2) else 1)
  cases hf : s_l01Field p
  · rfl
  · rw [key _ (by omega), all_rows1 listn listl (by omega)]
    rfl
def run_s_l01Numbers : List PV → Option (Bool × List TR)
  | [.v (.int .i64 p), .s listn (.ints listl)] => some (lenB listn 1 listl, enc_i (s_l01Numbers p listl))
  | _ => none
theorem sound_s_l01Numbers : Sound Try.prog 61 run_s_l01Numbers := by
  refine sound_of de_i SO_s_l01Numbers (by kernel_rfl) Try.func61 Try.ntmps61 rfl (by kernel_rfl) ?_
  intro W pvs avs rs hargs hrun
  unfold run_s_l01Numbers at hrun
  split at hrun
  · simp only [Option.some.injEq, Prod.mk.injEq] at hrun
    obtain ⟨hp, rfl⟩ := hrun
    rename_i p listn listl
    exact ⟨_, _, _, hargs, rfl, (eq_s_l01Numbers _ p listn listl).trans (tot_s_l01Numbers p listn listl hp)⟩
  · cases hrun

def S_s_l01Point : Sums := ⟨tblS [(104, run_s_l01In)], tblM []⟩
theorem SO_s_l01Point : SumsOK Try.prog S_s_l01Point := ⟨tblS_ok ⟨⟨Try.call104, sound_s_l01In⟩, True.intro⟩, tblM_ok True.intro⟩
def Fo_s_l01Point (p : Int) (a : Int × Int) : Option (Bool) :=
  (if (s_l01In a.1 0 (wI (p - 1))) = true then some (s_l01In a.2 0 (wI (p - 1))) else some false)
theorem eq_s_l01Point (p : Int) (a : Int × Int) : execT Try.prog S_s_l01Point 120 17 1000000 dec_b [.v (.int .i64 p), .v (.agg ⟨[.int .i64 a.1, .int .i64 a.2]⟩)] = Fo_s_l01Point p a := by
  kernel_rfl
def s_l01Point (p : Int) (a : Int × Int) : Bool :=
  (if (s_l01In a.1 0 (wrap64 (p - 1))) = true then (s_l01In a.2 0 (wrap64 (p - 1))) else false)
theorem tot_s_l01Point (p : Int) (a : Int × Int) : Fo_s_l01Point p a = some (s_l01Point p a) := by
  unfold Fo_s_l01Point s_l01Point
  (try simp only [wI_eq])
  repeat' (first | with_reducible rfl | refine ite_opt (fun _ => ?_) (fun _ => ?_) | rfl)
def run_s_l01Point : List PV → Option (Bool × List TR)
  | [.v (.int .i64 p), .v (.agg ⟨[.int .i64 a0, .int .i64 a1]⟩)] => some (true, enc_b (s_l01Point p (a0, a1)))
  | _ => none
theorem sound_s_l01Point : Sound Try.prog 120 run_s_l01Point := by
  refine sound_of de_b SO_s_l01Point (by kernel_rfl) Try.func120 Try.ntmps120 rfl (by kernel_rfl) ?_
  intro W pvs avs rs hargs hrun
  unfold run_s_l01Point at hrun
  split at hrun
  · simp only [Option.some.injEq, Prod.mk.injEq] at hrun
    obtain ⟨hp, rfl⟩ := hrun
    rename_i p a0 a1
    exact ⟨_, _, _, hargs, rfl, (eq_s_l01Point p (a0, a1)).trans (tot_s_l01Point p (a0, a1))⟩
  · cases hrun

def S_s_l01Code : Sums := ⟨tblS [(49, run_s_l01Field), (120, run_s_l01Point)], tblM []⟩
theorem SO_s_l01Code : SumsOK Try.prog S_s_l01Code := ⟨tblS_ok ⟨⟨Try.call49, sound_s_l01Field⟩, ⟨Try.call120, sound_s_l01Point⟩, True.intro⟩, tblM_ok True.intro⟩
def T_s_l01Code_0 (p : Int) (pointsn : Nat) (pointsl : List Int) (i : Int) : Tab := ⟨[.val (.int .i64 p), .row 4, .junk, .junk, .val (.int .i64 0), .val (.int .i64 i), .val (.int .i64 p), .val (.bool (s_l01Field p)), .val (.bool (!(s_l01Field p))), .junk, .junk, .junk, .junk, .junk, .junk, .junk, .junk, .junk, .junk, .junk, .junk, .junk], [(4, .ros pointsn (.ints pointsl))]⟩
def X_s_l01Code_0 (P : Program) (fu : Nat) (p : Int) (pointsn : Nat) (pointsl : List Int) (f : Nat) (i : Int) : Option (Int) := loopK (exec P S_s_l01Code 22 fu (Code.sub [1, 1, 0, 1, 0, 0] (bodyF P 98))) f (T_s_l01Code_0 p pointsn pointsl i) (kBlock 0 (kSeq (fun s => exec P S_s_l01Code 22 fu (Code.sub [1, 1, 1] (bodyF P 98)) s (finT P 98 dec_i)) (finT P 98 dec_i)))
def B_s_l01Code_0 (p : Int) (pointsn : Nat) (pointsl : List Int) (rec0 : Int → Option (Int)) (i : Int) : Option (Int) :=
  (if (decide (i < ((pointsn : Nat) : Int))) = true then (if (decide (0 ≤ i) && decide (i < ((pointsn : Nat) : Int))) = true then (if (Nat.ble (i.toNat * 2 + 2) pointsl.length) = true then (if (!(s_l01Point p (pointsl.getD (i.toNat * 2 + 0) 0, pointsl.getD (i.toNat * 2 + 1) 0))) = true then some 2 else rec0 (wI (i + 1))) else none) else none) else some 0)
def L_s_l01Code_0 (fu : Nat) (p : Int) (pointsn : Nat) (pointsl : List Int) : Nat → Int → Option (Int)
  | 0, _ => none
  | f + 1, i => B_s_l01Code_0 p pointsn pointsl (L_s_l01Code_0 fu p pointsn pointsl f) i
theorem loop_s_l01Code_0 (fu : Nat) (p : Int) (pointsn : Nat) (pointsl : List Int) : ∀ (f : Nat) (i : Int), X_s_l01Code_0 Try.prog fu p pointsn pointsl f i = L_s_l01Code_0 fu p pointsn pointsl f i := by
  intro f
  induction f with
  | zero => intros; rfl
  | succ f ih =>
    intro i
    have h1 : X_s_l01Code_0 Try.prog fu p pointsn pointsl (f + 1) i = B_s_l01Code_0 p pointsn pointsl (X_s_l01Code_0 Try.prog fu p pointsn pointsl f) i := by kernel_rfl
    have h2 : X_s_l01Code_0 Try.prog fu p pointsn pointsl f = L_s_l01Code_0 fu p pointsn pointsl f := by funext i; exact ih i
    rw [h1, h2]
    rfl
def G_s_l01Code (p : Int) (pointsn : Nat) (pointsl : List Int) (lo0 : Int → Option (Int)) : Option (Int) :=
  (if (!(s_l01Field p)) = true then some 1 else lo0 0)
def Fo_s_l01Code (fu : Nat) (p : Int) (pointsn : Nat) (pointsl : List Int) : Option (Int) := G_s_l01Code p pointsn pointsl (L_s_l01Code_0 fu p pointsn pointsl (fu + 100))
theorem eqg_s_l01Code (fu : Nat) (p : Int) (pointsn : Nat) (pointsl : List Int) : execT Try.prog S_s_l01Code 98 22 fu dec_i [.v (.int .i64 p), .s pointsn (.ints pointsl)] = G_s_l01Code p pointsn pointsl (L_s_l01Code_0 fu p pointsn pointsl (fu + 100)) := by
  have h1 : execT Try.prog S_s_l01Code 98 22 fu dec_i [.v (.int .i64 p), .s pointsn (.ints pointsl)] = G_s_l01Code p pointsn pointsl (X_s_l01Code_0 Try.prog fu p pointsn pointsl (fu + 100)) := by kernel_rfl
  have c0 : X_s_l01Code_0 Try.prog fu p pointsn pointsl (fu + 100) = L_s_l01Code_0 fu p pointsn pointsl (fu + 100) := by funext i; exact loop_s_l01Code_0 fu p pointsn pointsl (fu + 100) i
  rw [h1, c0]
theorem eq_s_l01Code (fu : Nat) (p : Int) (pointsn : Nat) (pointsl : List Int) : execT Try.prog S_s_l01Code 98 22 fu dec_i [.v (.int .i64 p), .s pointsn (.ints pointsl)] = Fo_s_l01Code fu p pointsn pointsl := eqg_s_l01Code fu p pointsn pointsl
def s_l01Code (p : Int) (l : List P2) : Int := if s_l01Field p = true then (if l.all (fun x => s_l01Point p x) = true then 0 else 2) else 1
theorem l01Code_prB {p : Int} {l : List P2} (h : ¬ (s_l01Code p l != 0) = true) : prB p = true := by
  refine Pr_prB (i_IsField_ok ?_)
  have h : s_l01Code p l = 0 := by simpa using h
  cases hf : i_IsField p
  · simp [s_l01Code, s_l01Field, hf] at h
  · rfl
theorem l01Code_prB0 {p : Int} {l : List P2} (h : (s_l01Code p l == 0) = true) : prB p = true := l01Code_prB (by simpa using h)
theorem tot_s_l01Code (p : Int) (pointsn : Nat) (pointsl : List Int) (hp : (lenB pointsn 2 pointsl) = true) : Fo_s_l01Code pointsn p pointsn pointsl = some (s_l01Code p (rows2 pointsn pointsl)) := by
  obtain ⟨hl, hn⟩ := lenB_ok hp
  have key : ∀ F, pointsn < F → (L_s_l01Code_0 pointsn p pointsn pointsl) F 0 = some (if (List.range pointsn).all (fun k => (fun x => s_l01Point p x) (pointsl.getD (k * 2) 0, pointsl.getD (k * 2 + 1) 0)) = true then 0 else 2) := by
    intro F hF
    refine scan hF (fun f k hk => ?_) fun f => ?_
    · show B_s_l01Code_0 p pointsn pointsl ((L_s_l01Code_0 pointsn p pointsn pointsl) f) (k : Int) = _
      unfold B_s_l01Code_0
      rw [if_pos (by simpa using hk), if_pos (by simpa using hk), if_pos (leb (by rw [hl, Int.toNat_natCast]; omega)), wrap_add1 hk (by omega)]
      first | rfl | (rw [wI_eq]; rfl)
    · show B_s_l01Code_0 p pointsn pointsl ((L_s_l01Code_0 pointsn p pointsn pointsl) f) ((pointsn : Nat) : Int) = _
      unfold B_s_l01Code_0
      rw [if_neg (by simp)]
  unfold Fo_s_l01Code G_s_l01Code
  show _ = some (if s_l01Field p = true then (if ((rows2 pointsn pointsl)).all (fun x => s_l01Point p x) = true then 0 else 2) else 1)
  cases hf : s_l01Field p
  · rfl
  · rw [key _ (by omega), all_rows2 pointsn pointsl]
    rfl
def run_s_l01Code : List PV → Option (Bool × List TR)
  | [.v (.int .i64 p), .s pointsn (.ints pointsl)] => some (lenB pointsn 2 pointsl, enc_i (s_l01Code p (rows2 pointsn pointsl)))
  | _ => none
theorem sound_s_l01Code : Sound Try.prog 98 run_s_l01Code := by
  refine sound_of de_i SO_s_l01Code (by kernel_rfl) Try.func98 Try.ntmps98 rfl (by kernel_rfl) ?_
  intro W pvs avs rs hargs hrun
  unfold run_s_l01Code at hrun
  split at hrun
  · simp only [Option.some.injEq, Prod.mk.injEq] at hrun
    obtain ⟨hp, rfl⟩ := hrun
    rename_i p pointsn pointsl
    exact ⟨_, _, _, hargs, rfl, (eq_s_l01Code _ p pointsn pointsl).trans (tot_s_l01Code p pointsn pointsl hp)⟩
  · cases hrun

def S_s_l08Given : Sums := ⟨tblS [(53, run_s_l08Code), (98, run_s_l01Code)], tblM []⟩
theorem SO_s_l08Given : SumsOK Try.prog S_s_l08Given := ⟨tblS_ok ⟨⟨Try.call53, sound_s_l08Code⟩, ⟨Try.call98, sound_s_l01Code⟩, True.intro⟩, tblM_ok True.intro⟩
def Fo_s_l08Given (p : Int) (k : Int × Int × Int × Int × Int × Int) (a : Int × Int) : Option (Int) :=
  (if ((s_l08Code p k) == 0) = true then some (s_l01Code p [a]) else some (s_l08Code p k))
theorem eq_s_l08Given (p : Int) (k : Int × Int × Int × Int × Int × Int) (a : Int × Int) : execT Try.prog S_s_l08Given 71 18 1000000 dec_i [.v (.int .i64 p), .v (.agg ⟨[.int .i64 k.1, .int .i64 k.2.1, .int .i64 k.2.2.1, .int .i64 k.2.2.2.1, .int .i64 k.2.2.2.2.1, .int .i64 k.2.2.2.2.2]⟩), .v (.agg ⟨[.int .i64 a.1, .int .i64 a.2]⟩)] = Fo_s_l08Given p k a := by
  kernel_rfl
def s_l08Given (p : Int) (k : Int × Int × Int × Int × Int × Int) (a : Int × Int) : Int :=
  (if ((s_l08Code p k) == 0) = true then (s_l01Code p [a]) else (s_l08Code p k))
theorem tot_s_l08Given (p : Int) (k : Int × Int × Int × Int × Int × Int) (a : Int × Int) : Fo_s_l08Given p k a = some (s_l08Given p k a) := by
  unfold Fo_s_l08Given s_l08Given
  (try simp only [wI_eq])
  repeat' (first | with_reducible rfl | refine ite_opt (fun _ => ?_) (fun _ => ?_) | rfl)
def run_s_l08Given : List PV → Option (Bool × List TR)
  | [.v (.int .i64 p), .v (.agg ⟨[.int .i64 k0, .int .i64 k1, .int .i64 k2, .int .i64 k3, .int .i64 k4, .int .i64 k5]⟩), .v (.agg ⟨[.int .i64 a0, .int .i64 a1]⟩)] => some (true, enc_i (s_l08Given p (k0, k1, k2, k3, k4, k5) (a0, a1)))
  | _ => none
theorem sound_s_l08Given : Sound Try.prog 71 run_s_l08Given := by
  refine sound_of de_i SO_s_l08Given (by kernel_rfl) Try.func71 Try.ntmps71 rfl (by kernel_rfl) ?_
  intro W pvs avs rs hargs hrun
  unfold run_s_l08Given at hrun
  split at hrun
  · simp only [Option.some.injEq, Prod.mk.injEq] at hrun
    obtain ⟨hp, rfl⟩ := hrun
    rename_i p k0 k1 k2 k3 k4 k5 a0 a1
    exact ⟨_, _, _, hargs, rfl, (eq_s_l08Given p (k0, k1, k2, k3, k4, k5) (a0, a1)).trans (tot_s_l08Given p (k0, k1, k2, k3, k4, k5) (a0, a1))⟩
  · cases hrun

theorem l08Given_prB {p : Int} {k : P6} {a : P2} (h : ¬ (s_l08Given p k a != 0) = true) : prB p = true := by
  refine Pr_prB (i_IsField_ok ?_)
  have h : s_l08Given p k a = 0 := by simpa using h
  cases hf : i_IsField p
  · simp [s_l08Given, s_l08Code, s_l01Field, hf] at h
  · rfl
theorem l08Given_prB0 {p : Int} {k : P6} {a : P2} (h : (s_l08Given p k a == 0) = true) : prB p = true := l08Given_prB (by simpa using h)
def S_s_l01Mod : Sums := ⟨tblS [], tblM []⟩
theorem SO_s_l01Mod : SumsOK Try.prog S_s_l01Mod := ⟨tblS_ok True.intro, tblM_ok True.intro⟩
def Fo_s_l01Mod (x : Int) (p : Int) : Option (Int) :=
  (if (!(p == 0)) = true then (if (!(p == 0)) = true then some ((wI ((x.tmod p) + p)).tmod p) else none) else none)
theorem eq_s_l01Mod (x : Int) (p : Int) : execT Try.prog S_s_l01Mod 89 12 1000000 dec_i [.v (.int .i64 x), .v (.int .i64 p)] = Fo_s_l01Mod x p := by
  kernel_rfl
def s_l01Mod (x p : Int) : Int := x % p
theorem tot_s_l01Mod (x : Int) (p : Int) (hp : (prB p) = true) : Fo_s_l01Mod x p = some (s_l01Mod x p) := by
  have h0 := prB_ne hp
  unfold Fo_s_l01Mod s_l01Mod
  simp only [h0, if_true, wI_eq]
  rw [rest_raw hp]
def run_s_l01Mod : List PV → Option (Bool × List TR)
  | [.v (.int .i64 x), .v (.int .i64 p)] => some (prB p, enc_i (s_l01Mod x p))
  | _ => none
theorem sound_s_l01Mod : Sound Try.prog 89 run_s_l01Mod := by
  refine sound_of de_i SO_s_l01Mod (by kernel_rfl) Try.func89 Try.ntmps89 rfl (by kernel_rfl) ?_
  intro W pvs avs rs hargs hrun
  unfold run_s_l01Mod at hrun
  split at hrun
  · simp only [Option.some.injEq, Prod.mk.injEq] at hrun
    obtain ⟨hp, rfl⟩ := hrun
    rename_i x p
    exact ⟨_, _, _, hargs, rfl, (eq_s_l01Mod x p).trans (tot_s_l01Mod x p hp)⟩
  · cases hrun

def S_s_l01Inverse : Sums := ⟨tblS [(89, run_s_l01Mod)], tblM []⟩
theorem SO_s_l01Inverse : SumsOK Try.prog S_s_l01Inverse := ⟨tblS_ok ⟨⟨Try.call89, sound_s_l01Mod⟩, True.intro⟩, tblM_ok True.intro⟩
def T_s_l01Inverse_0 (a : Int) (p : Int) (out : Int) (base : Int) (k : Int) : Tab := ⟨[.val (.int .i64 a), .val (.int .i64 p), .junk, .junk, .val (.int .i64 0), .val (.int .i64 out), .val (.int .i64 base), .val (.int .i64 k), .val (.int .i64 a), .val (.int .i64 p), .val (.int .i64 (s_l01Mod a p)), .val (.int .i64 p), .val (.int .i64 (wI (p - 2))), .junk, .junk, .junk, .junk, .junk, .junk, .junk, .junk, .junk, .junk, .junk, .junk, .junk, .junk, .junk, .junk, .junk, .junk], []⟩
def X_s_l01Inverse_0 (P : Program) (fu : Nat) (a : Int) (p : Int) (f : Nat) (out : Int) (base : Int) (k : Int) : Option (Int) := loopK (exec P S_s_l01Inverse 31 fu (Code.sub [1, 1, 0, 1, 0, 0] (bodyF P 108))) f (T_s_l01Inverse_0 a p out base k) (kBlock 0 (kSeq (fun s => exec P S_s_l01Inverse 31 fu (Code.sub [1, 1, 1] (bodyF P 108)) s (finT P 108 dec_i)) (finT P 108 dec_i)))
def B_s_l01Inverse_0 (a : Int) (p : Int) (rec0 : Int → Int → Int → Option (Int)) (out : Int) (base : Int) (k : Int) : Option (Int) :=
  (if (decide (k > 0)) = true then (if ((k.tmod 2) == 1) = true then (if (!(p == 0)) = true then (if (!(p == 0)) = true then rec0 ((wI (out * base)).tmod p) ((wI (base * base)).tmod p) (wI (k.tdiv 2)) else none) else none) else (if (!(p == 0)) = true then rec0 out ((wI (base * base)).tmod p) (wI (k.tdiv 2)) else none)) else some out)
def L_s_l01Inverse_0 (fu : Nat) (a : Int) (p : Int) : Nat → Int → Int → Int → Option (Int)
  | 0, _, _, _ => none
  | f + 1, out, base, k => B_s_l01Inverse_0 a p (L_s_l01Inverse_0 fu a p f) out base k
theorem loop_s_l01Inverse_0 (fu : Nat) (a : Int) (p : Int) : ∀ (f : Nat) (out : Int) (base : Int) (k : Int), X_s_l01Inverse_0 Try.prog fu a p f out base k = L_s_l01Inverse_0 fu a p f out base k := by
  intro f
  induction f with
  | zero => intros; rfl
  | succ f ih =>
    intro out base k
    have h1 : X_s_l01Inverse_0 Try.prog fu a p (f + 1) out base k = B_s_l01Inverse_0 a p (X_s_l01Inverse_0 Try.prog fu a p f) out base k := by kernel_rfl
    have h2 : X_s_l01Inverse_0 Try.prog fu a p f = L_s_l01Inverse_0 fu a p f := by funext out base k; exact ih out base k
    rw [h1, h2]
    rfl
def G_s_l01Inverse (a : Int) (p : Int) (lo0 : Int → Int → Int → Option (Int)) : Option (Int) :=
  (if (prB p) = true then lo0 1 (s_l01Mod a p) (wI (p - 2)) else none)
def Fo_s_l01Inverse (fu : Nat) (a : Int) (p : Int) : Option (Int) := G_s_l01Inverse a p (L_s_l01Inverse_0 fu a p (fu + 100))
theorem eqg_s_l01Inverse (fu : Nat) (a : Int) (p : Int) : execT Try.prog S_s_l01Inverse 108 31 fu dec_i [.v (.int .i64 a), .v (.int .i64 p)] = G_s_l01Inverse a p (L_s_l01Inverse_0 fu a p (fu + 100)) := by
  have h1 : execT Try.prog S_s_l01Inverse 108 31 fu dec_i [.v (.int .i64 a), .v (.int .i64 p)] = G_s_l01Inverse a p (X_s_l01Inverse_0 Try.prog fu a p (fu + 100)) := by kernel_rfl
  have c0 : X_s_l01Inverse_0 Try.prog fu a p (fu + 100) = L_s_l01Inverse_0 fu a p (fu + 100) := by funext out base k; exact loop_s_l01Inverse_0 fu a p (fu + 100) out base k
  rw [h1, c0]
theorem eq_s_l01Inverse (fu : Nat) (a : Int) (p : Int) : execT Try.prog S_s_l01Inverse 108 31 fu dec_i [.v (.int .i64 a), .v (.int .i64 p)] = Fo_s_l01Inverse fu a p := eqg_s_l01Inverse fu a p
def powLoop (p : Int) : Nat → Int → Int → Int → Int
  | 0, _, out, _ => out
  | f + 1, k, out, base => if decide (0 < k) = true then powLoop p f (k / 2) (if (k % 2 == 1) = true then (wrap64 (out * base)).tmod p else out) ((wrap64 (base * base)).tmod p) else out
def s_l01Inverse (a p : Int) : Int := powLoop p 5 (p - 2) 1 (s_l01Mod a p)
theorem powLoop_zero (p : Int) (f : Nat) (k out base : Int) (h : ¬ 0 < k) : powLoop p f k out base = out := by
  cases f
  · rfl
  · show (if decide (0 < k) = true then _ else out) = out
    rw [if_neg (by simpa using h)]
theorem pow_walk (fu : Nat) (a p : Int) (hp : prB p = true) : ∀ (f F : Nat) (k out base : Int), k < 2 ^ f → k ≤ 31 → f < F → L_s_l01Inverse_0 fu a p F out base k = some (powLoop p f k out base)
  | f, 0, k, _, _, _, _, h => absurd h (Nat.not_lt_zero f)
  | f, F + 1, k, out, base, h1, h31, hF => by
    show B_s_l01Inverse_0 a p (L_s_l01Inverse_0 fu a p F) out base k = _
    unfold B_s_l01Inverse_0
    by_cases hk : 0 < k
    · obtain ⟨f, rfl⟩ : ∃ g, f = g + 1 := ⟨f - 1, by rcases f with _ | f <;> omega⟩
      have h0 := prB_ne hp
      rw [if_pos (by simp; omega)]
      have e1 : k.tmod 2 = k % 2 := Int.tmod_eq_emod_of_nonneg (by omega)
      have e2 : k.tdiv 2 = k / 2 := Int.tdiv_eq_ediv_of_nonneg (by omega)
      have e3 : wrap64 (k / 2) = k / 2 := by unfold wrap64; omega
      have hh : k / 2 < 2 ^ f := by rw [Int.pow_succ] at h1; omega
      simp only [h0, if_true, wI_eq, e1, e2, e3]
      show _ = some (if decide (0 < k) = true then powLoop p f (k / 2) (if (k % 2 == 1) = true then (wrap64 (out * base)).tmod p else out) ((wrap64 (base * base)).tmod p) else out)
      have hk' : decide (0 < k) = true := by simpa using hk
      rw [hk']
      cases h2 : (k % 2 == 1)
      · exact pow_walk fu a p hp f F (k / 2) _ _ hh (by omega) (by omega)
      · exact pow_walk fu a p hp f F (k / 2) _ _ hh (by omega) (by omega)
    · rw [if_neg (by simp; omega), powLoop_zero p f k out base hk]
theorem tot_s_l01Inverse (a : Int) (p : Int) (hp : (prB p) = true) : Fo_s_l01Inverse 40 a p = some (s_l01Inverse a p) := by
  obtain ⟨h1, h2⟩ := prB_Pr hp
  unfold Fo_s_l01Inverse G_s_l01Inverse
  rw [if_pos hp, wI_eq, show wrap64 (p - 2) = p - 2 from by unfold wrap64; omega]
  exact pow_walk 40 a p hp 5 _ (p - 2) _ _ (by omega) (by omega) (by omega)
def run_s_l01Inverse : List PV → Option (Bool × List TR)
  | [.v (.int .i64 a), .v (.int .i64 p)] => some (prB p, enc_i (s_l01Inverse a p))
  | _ => none
theorem sound_s_l01Inverse : Sound Try.prog 108 run_s_l01Inverse := by
  refine sound_of de_i SO_s_l01Inverse (by kernel_rfl) Try.func108 Try.ntmps108 rfl (by kernel_rfl) ?_
  intro W pvs avs rs hargs hrun
  unfold run_s_l01Inverse at hrun
  split at hrun
  · simp only [Option.some.injEq, Prod.mk.injEq] at hrun
    obtain ⟨hp, rfl⟩ := hrun
    rename_i a p
    exact ⟨_, _, _, hargs, rfl, (eq_s_l01Inverse _ a p).trans (tot_s_l01Inverse a p hp)⟩
  · cases hrun

def dec_a3 : List TR → Option (Int × Int × Int)
  | [.v (.agg ⟨[.int .i64 x0_0, .int .i64 x0_1, .int .i64 x0_2]⟩)] => some (x0_0, x0_1, x0_2)
  | _ => none
def enc_a3 : Int × Int × Int → List TR
  | (x0_0, x0_1, x0_2) => [.v (.agg ⟨[.int .i64 x0_0, .int .i64 x0_1, .int .i64 x0_2]⟩)]
theorem de_a3 (rs : List TR) (x : Int × Int × Int) (h : dec_a3 rs = some x) : rs = enc_a3 x := by
  unfold dec_a3 at h
  split at h
  · simp only [Option.some.injEq] at h
    subst h
    rfl
  · cases h
def S_s_l01Normal : Sums := ⟨tblS [(89, run_s_l01Mod), (108, run_s_l01Inverse)], tblM []⟩
theorem SO_s_l01Normal : SumsOK Try.prog S_s_l01Normal := ⟨tblS_ok ⟨⟨Try.call89, sound_s_l01Mod⟩, ⟨Try.call108, sound_s_l01Inverse⟩, True.intro⟩, tblM_ok True.intro⟩
def Fo_s_l01Normal (p : Int) (a : Int) (b : Int) (c : Int) : Option (Int × Int × Int) :=
  (if (prB p) = true then (if ((s_l01Mod a p) == 0) = true then (if (prB p) = true then (if (prB p) = true then (if (prB p) = true then (if (prB p) = true then (if (prB p) = true then some ((s_l01Mod (wI (a * (s_l01Inverse (s_l01Mod b p) p))) p), (s_l01Mod (wI (b * (s_l01Inverse (s_l01Mod b p) p))) p), (s_l01Mod (wI (c * (s_l01Inverse (s_l01Mod b p) p))) p)) else none) else none) else none) else none) else none) else (if (prB p) = true then (if (prB p) = true then (if (prB p) = true then (if (prB p) = true then some ((s_l01Mod (wI (a * (s_l01Inverse (s_l01Mod a p) p))) p), (s_l01Mod (wI (b * (s_l01Inverse (s_l01Mod a p) p))) p), (s_l01Mod (wI (c * (s_l01Inverse (s_l01Mod a p) p))) p)) else none) else none) else none) else none)) else none)
theorem eq_s_l01Normal (p : Int) (a : Int) (b : Int) (c : Int) : execT Try.prog S_s_l01Normal 77 38 1000000 dec_a3 [.v (.int .i64 p), .v (.int .i64 a), .v (.int .i64 b), .v (.int .i64 c)] = Fo_s_l01Normal p a b c := by
  kernel_rfl
def s_l01Normal (p : Int) (a : Int) (b : Int) (c : Int) : Int × Int × Int :=
  (if ((s_l01Mod a p) == 0) = true then ((s_l01Mod (wrap64 (a * (s_l01Inverse (s_l01Mod b p) p))) p), (s_l01Mod (wrap64 (b * (s_l01Inverse (s_l01Mod b p) p))) p), (s_l01Mod (wrap64 (c * (s_l01Inverse (s_l01Mod b p) p))) p)) else ((s_l01Mod (wrap64 (a * (s_l01Inverse (s_l01Mod a p) p))) p), (s_l01Mod (wrap64 (b * (s_l01Inverse (s_l01Mod a p) p))) p), (s_l01Mod (wrap64 (c * (s_l01Inverse (s_l01Mod a p) p))) p)))
theorem tot_s_l01Normal (p : Int) (a : Int) (b : Int) (c : Int) (hp : (prB p) = true) : Fo_s_l01Normal p a b c = some (s_l01Normal p a b c) := by
  have h0 := prB_ne hp
  unfold Fo_s_l01Normal s_l01Normal
  (try simp only [wI_eq])
  repeat' (first | with_reducible rfl | with_reducible refine chk_opt hp ?_ | with_reducible refine chk_opt h0 ?_ | refine ite_opt (fun _ => ?_) (fun _ => ?_) | rfl)
def run_s_l01Normal : List PV → Option (Bool × List TR)
  | [.v (.int .i64 p), .v (.int .i64 a), .v (.int .i64 b), .v (.int .i64 c)] => some (prB p, enc_a3 (s_l01Normal p a b c))
  | _ => none
theorem sound_s_l01Normal : Sound Try.prog 77 run_s_l01Normal := by
  refine sound_of de_a3 SO_s_l01Normal (by kernel_rfl) Try.func77 Try.ntmps77 rfl (by kernel_rfl) ?_
  intro W pvs avs rs hargs hrun
  unfold run_s_l01Normal at hrun
  split at hrun
  · simp only [Option.some.injEq, Prod.mk.injEq] at hrun
    obtain ⟨hp, rfl⟩ := hrun
    rename_i p a b c
    exact ⟨_, _, _, hargs, rfl, (eq_s_l01Normal p a b c).trans (tot_s_l01Normal p a b c hp)⟩
  · cases hrun

def dec_a3_b : List TR → Option ((Int × Int × Int) × Bool)
  | [.v (.agg ⟨[.int .i64 x0_0, .int .i64 x0_1, .int .i64 x0_2]⟩), .v (.bool x1)] => some ((x0_0, x0_1, x0_2), x1)
  | _ => none
def enc_a3_b : (Int × Int × Int) × Bool → List TR
  | ((x0_0, x0_1, x0_2), x1) => [.v (.agg ⟨[.int .i64 x0_0, .int .i64 x0_1, .int .i64 x0_2]⟩), .v (.bool x1)]
theorem de_a3_b (rs : List TR) (x : (Int × Int × Int) × Bool) (h : dec_a3_b rs = some x) : rs = enc_a3_b x := by
  unfold dec_a3_b at h
  split at h
  · simp only [Option.some.injEq] at h
    subst h
    rfl
  · cases h
def S_s_l08Polar : Sums := ⟨tblS [(77, run_s_l01Normal)], tblM []⟩
theorem SO_s_l08Polar : SumsOK Try.prog S_s_l08Polar := ⟨tblS_ok ⟨⟨Try.call77, sound_s_l01Normal⟩, True.intro⟩, tblM_ok True.intro⟩
def Fo_s_l08Polar (p : Int) (k : Int × Int × Int × Int × Int × Int) (a : Int × Int) : Option ((Int × Int × Int) × Bool) :=
  (if (!(p == 0)) = true then (if (((wI ((wI ((wI ((wI (2 * k.1)) * a.1)) + (wI (k.2.1 * a.2)))) + k.2.2.2.1)).tmod p) == 0) = true then (if (!(p == 0)) = true then (if (((wI ((wI ((wI (k.2.1 * a.1)) + (wI ((wI (2 * k.2.2.1)) * a.2)))) + k.2.2.2.2.1)).tmod p) == 0) = true then some ((0, 0, 0), false) else (if (!(p == 0)) = true then (if (!(p == 0)) = true then (if (!(p == 0)) = true then (if (prB p) = true then some ((s_l01Normal p ((wI ((wI ((wI ((wI (2 * k.1)) * a.1)) + (wI (k.2.1 * a.2)))) + k.2.2.2.1)).tmod p) ((wI ((wI ((wI (k.2.1 * a.1)) + (wI ((wI (2 * k.2.2.1)) * a.2)))) + k.2.2.2.2.1)).tmod p) ((wI ((wI ((wI (k.2.2.2.1 * a.1)) + (wI (k.2.2.2.2.1 * a.2)))) + (wI (2 * k.2.2.2.2.2)))).tmod p)), true) else none) else none) else none) else none)) else none) else (if (!(p == 0)) = true then (if (!(p == 0)) = true then (if (!(p == 0)) = true then (if (prB p) = true then some ((s_l01Normal p ((wI ((wI ((wI ((wI (2 * k.1)) * a.1)) + (wI (k.2.1 * a.2)))) + k.2.2.2.1)).tmod p) ((wI ((wI ((wI (k.2.1 * a.1)) + (wI ((wI (2 * k.2.2.1)) * a.2)))) + k.2.2.2.2.1)).tmod p) ((wI ((wI ((wI (k.2.2.2.1 * a.1)) + (wI (k.2.2.2.2.1 * a.2)))) + (wI (2 * k.2.2.2.2.2)))).tmod p)), true) else none) else none) else none) else none)) else none)
theorem eq_s_l08Polar (p : Int) (k : Int × Int × Int × Int × Int × Int) (a : Int × Int) : execT Try.prog S_s_l08Polar 72 78 1000000 dec_a3_b [.v (.int .i64 p), .v (.agg ⟨[.int .i64 k.1, .int .i64 k.2.1, .int .i64 k.2.2.1, .int .i64 k.2.2.2.1, .int .i64 k.2.2.2.2.1, .int .i64 k.2.2.2.2.2]⟩), .v (.agg ⟨[.int .i64 a.1, .int .i64 a.2]⟩)] = Fo_s_l08Polar p k a := by
  kernel_rfl
def s_l08Polar (p : Int) (k : Int × Int × Int × Int × Int × Int) (a : Int × Int) : (Int × Int × Int) × Bool :=
  (if (((wrap64 ((wrap64 ((wrap64 ((wrap64 (2 * k.1)) * a.1)) + (wrap64 (k.2.1 * a.2)))) + k.2.2.2.1)).tmod p) == 0) = true then (if (((wrap64 ((wrap64 ((wrap64 (k.2.1 * a.1)) + (wrap64 ((wrap64 (2 * k.2.2.1)) * a.2)))) + k.2.2.2.2.1)).tmod p) == 0) = true then ((0, 0, 0), false) else ((s_l01Normal p ((wrap64 ((wrap64 ((wrap64 ((wrap64 (2 * k.1)) * a.1)) + (wrap64 (k.2.1 * a.2)))) + k.2.2.2.1)).tmod p) ((wrap64 ((wrap64 ((wrap64 (k.2.1 * a.1)) + (wrap64 ((wrap64 (2 * k.2.2.1)) * a.2)))) + k.2.2.2.2.1)).tmod p) ((wrap64 ((wrap64 ((wrap64 (k.2.2.2.1 * a.1)) + (wrap64 (k.2.2.2.2.1 * a.2)))) + (wrap64 (2 * k.2.2.2.2.2)))).tmod p)), true)) else ((s_l01Normal p ((wrap64 ((wrap64 ((wrap64 ((wrap64 (2 * k.1)) * a.1)) + (wrap64 (k.2.1 * a.2)))) + k.2.2.2.1)).tmod p) ((wrap64 ((wrap64 ((wrap64 (k.2.1 * a.1)) + (wrap64 ((wrap64 (2 * k.2.2.1)) * a.2)))) + k.2.2.2.2.1)).tmod p) ((wrap64 ((wrap64 ((wrap64 (k.2.2.2.1 * a.1)) + (wrap64 (k.2.2.2.2.1 * a.2)))) + (wrap64 (2 * k.2.2.2.2.2)))).tmod p)), true))
theorem tot_s_l08Polar (p : Int) (k : Int × Int × Int × Int × Int × Int) (a : Int × Int) (hp : (prB p) = true) : Fo_s_l08Polar p k a = some (s_l08Polar p k a) := by
  have h0 := prB_ne hp
  unfold Fo_s_l08Polar s_l08Polar
  (try simp only [wI_eq])
  repeat' (first | with_reducible rfl | with_reducible refine chk_opt hp ?_ | with_reducible refine chk_opt h0 ?_ | refine ite_opt (fun _ => ?_) (fun _ => ?_) | rfl)
def run_s_l08Polar : List PV → Option (Bool × List TR)
  | [.v (.int .i64 p), .v (.agg ⟨[.int .i64 k0, .int .i64 k1, .int .i64 k2, .int .i64 k3, .int .i64 k4, .int .i64 k5]⟩), .v (.agg ⟨[.int .i64 a0, .int .i64 a1]⟩)] => some (prB p, enc_a3_b (s_l08Polar p (k0, k1, k2, k3, k4, k5) (a0, a1)))
  | _ => none
theorem sound_s_l08Polar : Sound Try.prog 72 run_s_l08Polar := by
  refine sound_of de_a3_b SO_s_l08Polar (by kernel_rfl) Try.func72 Try.ntmps72 rfl (by kernel_rfl) ?_
  intro W pvs avs rs hargs hrun
  unfold run_s_l08Polar at hrun
  split at hrun
  · simp only [Option.some.injEq, Prod.mk.injEq] at hrun
    obtain ⟨hp, rfl⟩ := hrun
    rename_i p k0 k1 k2 k3 k4 k5 a0 a1
    exact ⟨_, _, _, hargs, rfl, (eq_s_l08Polar p (k0, k1, k2, k3, k4, k5) (a0, a1)).trans (tot_s_l08Polar p (k0, k1, k2, k3, k4, k5) (a0, a1) hp)⟩
  · cases hrun

def S_i_rest : Sums := ⟨tblS [], tblM []⟩
theorem SO_i_rest : SumsOK Try.prog S_i_rest := ⟨tblS_ok True.intro, tblM_ok True.intro⟩
def Fo_i_rest (p : Int) (x : Int) : Option (Int) :=
  (if (!(p == 0)) = true then (if (!(p == 0)) = true then some ((wI ((x.tmod p) + p)).tmod p) else none) else none)
theorem eq_i_rest (p : Int) (x : Int) : execT Try.prog S_i_rest 94 12 1000000 dec_i [.v (.int .i64 p), .v (.int .i64 x)] = Fo_i_rest p x := by
  kernel_rfl
def i_rest (p x : Int) : Int := x % p
theorem tot_i_rest (p : Int) (x : Int) (hp : (prB p) = true) : Fo_i_rest p x = some (i_rest p x) := by
  have h0 := prB_ne hp
  unfold Fo_i_rest i_rest
  simp only [h0, if_true, wI_eq]
  rw [rest_raw hp]
def run_i_rest : List PV → Option (Bool × List TR)
  | [.v (.int .i64 p), .v (.int .i64 x)] => some (prB p, enc_i (i_rest p x))
  | _ => none
theorem sound_i_rest : Sound Try.prog 94 run_i_rest := by
  refine sound_of de_i SO_i_rest (by kernel_rfl) Try.func94 Try.ntmps94 rfl (by kernel_rfl) ?_
  intro W pvs avs rs hargs hrun
  unfold run_i_rest at hrun
  split at hrun
  · simp only [Option.some.injEq, Prod.mk.injEq] at hrun
    obtain ⟨hp, rfl⟩ := hrun
    rename_i p x
    exact ⟨_, _, _, hargs, rfl, (eq_i_rest p x).trans (tot_i_rest p x hp)⟩
  · cases hrun

def S_i_polar : Sums := ⟨tblS [(94, run_i_rest)], tblM []⟩
theorem SO_i_polar : SumsOK Try.prog S_i_polar := ⟨tblS_ok ⟨⟨Try.call94, sound_i_rest⟩, True.intro⟩, tblM_ok True.intro⟩
def Fo_i_polar (p : Int) (k : Int × Int × Int × Int × Int × Int) (a : Int × Int) : Option (Int × Int × Int) :=
  (if (prB p) = true then (if (prB p) = true then (if (prB p) = true then some ((i_rest p (wI ((wI ((wI ((wI (2 * k.1)) * a.1)) + (wI (k.2.1 * a.2)))) + k.2.2.2.1))), (i_rest p (wI ((wI ((wI (k.2.1 * a.1)) + (wI ((wI (2 * k.2.2.1)) * a.2)))) + k.2.2.2.2.1))), (i_rest p (wI ((wI ((wI (k.2.2.2.1 * a.1)) + (wI (k.2.2.2.2.1 * a.2)))) + (wI (2 * k.2.2.2.2.2)))))) else none) else none) else none)
theorem eq_i_polar (p : Int) (k : Int × Int × Int × Int × Int × Int) (a : Int × Int) : execT Try.prog S_i_polar 80 59 1000000 dec_a3 [.v (.int .i64 p), .v (.agg ⟨[.int .i64 k.1, .int .i64 k.2.1, .int .i64 k.2.2.1, .int .i64 k.2.2.2.1, .int .i64 k.2.2.2.2.1, .int .i64 k.2.2.2.2.2]⟩), .v (.agg ⟨[.int .i64 a.1, .int .i64 a.2]⟩)] = Fo_i_polar p k a := by
  kernel_rfl
def i_polar (p : Int) (k : Int × Int × Int × Int × Int × Int) (a : Int × Int) : Int × Int × Int :=
  ((i_rest p (wrap64 ((wrap64 ((wrap64 ((wrap64 (2 * k.1)) * a.1)) + (wrap64 (k.2.1 * a.2)))) + k.2.2.2.1))), (i_rest p (wrap64 ((wrap64 ((wrap64 (k.2.1 * a.1)) + (wrap64 ((wrap64 (2 * k.2.2.1)) * a.2)))) + k.2.2.2.2.1))), (i_rest p (wrap64 ((wrap64 ((wrap64 (k.2.2.2.1 * a.1)) + (wrap64 (k.2.2.2.2.1 * a.2)))) + (wrap64 (2 * k.2.2.2.2.2))))))
theorem tot_i_polar (p : Int) (k : Int × Int × Int × Int × Int × Int) (a : Int × Int) (hp : (prB p) = true) : Fo_i_polar p k a = some (i_polar p k a) := by
  have h0 := prB_ne hp
  unfold Fo_i_polar i_polar
  (try simp only [wI_eq])
  repeat' (first | with_reducible rfl | with_reducible refine chk_opt hp ?_ | with_reducible refine chk_opt h0 ?_ | refine ite_opt (fun _ => ?_) (fun _ => ?_) | rfl)
def run_i_polar : List PV → Option (Bool × List TR)
  | [.v (.int .i64 p), .v (.agg ⟨[.int .i64 k0, .int .i64 k1, .int .i64 k2, .int .i64 k3, .int .i64 k4, .int .i64 k5]⟩), .v (.agg ⟨[.int .i64 a0, .int .i64 a1]⟩)] => some (prB p, enc_a3 (i_polar p (k0, k1, k2, k3, k4, k5) (a0, a1)))
  | _ => none
theorem sound_i_polar : Sound Try.prog 80 run_i_polar := by
  refine sound_of de_a3 SO_i_polar (by kernel_rfl) Try.func80 Try.ntmps80 rfl (by kernel_rfl) ?_
  intro W pvs avs rs hargs hrun
  unfold run_i_polar at hrun
  split at hrun
  · simp only [Option.some.injEq, Prod.mk.injEq] at hrun
    obtain ⟨hp, rfl⟩ := hrun
    rename_i p k0 k1 k2 k3 k4 k5 a0 a1
    exact ⟨_, _, _, hargs, rfl, (eq_i_polar p (k0, k1, k2, k3, k4, k5) (a0, a1)).trans (tot_i_polar p (k0, k1, k2, k3, k4, k5) (a0, a1) hp)⟩
  · cases hrun

def S_i_inverse : Sums := ⟨tblS [], tblM []⟩
theorem SO_i_inverse : SumsOK Try.prog S_i_inverse := ⟨tblS_ok True.intro, tblM_ok True.intro⟩
def T_i_inverse_0 (p : Int) (a : Int) (x : Int) : Tab := ⟨[.val (.int .i64 p), .val (.int .i64 a), .junk, .junk, .val (.int .i64 0), .val (.int .i64 x), .junk, .junk, .junk, .junk, .junk, .junk, .junk, .junk, .junk, .junk, .junk, .junk], []⟩
def X_i_inverse_0 (P : Program) (fu : Nat) (p : Int) (a : Int) (f : Nat) (x : Int) : Option (Int) := loopK (exec P S_i_inverse 18 fu (Code.sub [1, 0, 1, 0, 0] (bodyF P 97))) f (T_i_inverse_0 p a x) (kBlock 0 (kSeq (fun s => exec P S_i_inverse 18 fu (Code.sub [1, 1] (bodyF P 97)) s (finT P 97 dec_i)) (finT P 97 dec_i)))
def B_i_inverse_0 (p : Int) (a : Int) (rec0 : Int → Option (Int)) (x : Int) : Option (Int) :=
  (if (decide (x < p)) = true then (if (!(p == 0)) = true then (if (((wI (a * x)).tmod p) == 1) = true then some x else rec0 (wI (x + 1))) else none) else some 0)
def L_i_inverse_0 (fu : Nat) (p : Int) (a : Int) : Nat → Int → Option (Int)
  | 0, _ => none
  | f + 1, x => B_i_inverse_0 p a (L_i_inverse_0 fu p a f) x
theorem loop_i_inverse_0 (fu : Nat) (p : Int) (a : Int) : ∀ (f : Nat) (x : Int), X_i_inverse_0 Try.prog fu p a f x = L_i_inverse_0 fu p a f x := by
  intro f
  induction f with
  | zero => intros; rfl
  | succ f ih =>
    intro x
    have h1 : X_i_inverse_0 Try.prog fu p a (f + 1) x = B_i_inverse_0 p a (X_i_inverse_0 Try.prog fu p a f) x := by kernel_rfl
    have h2 : X_i_inverse_0 Try.prog fu p a f = L_i_inverse_0 fu p a f := by funext x; exact ih x
    rw [h1, h2]
    rfl
def G_i_inverse (p : Int) (a : Int) (lo0 : Int → Option (Int)) : Option (Int) :=
  lo0 1
def Fo_i_inverse (fu : Nat) (p : Int) (a : Int) : Option (Int) := G_i_inverse p a (L_i_inverse_0 fu p a (fu + 100))
theorem eqg_i_inverse (fu : Nat) (p : Int) (a : Int) : execT Try.prog S_i_inverse 97 18 fu dec_i [.v (.int .i64 p), .v (.int .i64 a)] = G_i_inverse p a (L_i_inverse_0 fu p a (fu + 100)) := by
  have h1 : execT Try.prog S_i_inverse 97 18 fu dec_i [.v (.int .i64 p), .v (.int .i64 a)] = G_i_inverse p a (X_i_inverse_0 Try.prog fu p a (fu + 100)) := by kernel_rfl
  have c0 : X_i_inverse_0 Try.prog fu p a (fu + 100) = L_i_inverse_0 fu p a (fu + 100) := by funext x; exact loop_i_inverse_0 fu p a (fu + 100) x
  rw [h1, c0]
theorem eq_i_inverse (fu : Nat) (p : Int) (a : Int) : execT Try.prog S_i_inverse 97 18 fu dec_i [.v (.int .i64 p), .v (.int .i64 a)] = Fo_i_inverse fu p a := eqg_i_inverse fu p a
def invLoop (p a : Int) : Nat → Int → Int
  | 0, _ => 0
  | k + 1, x => if ((wrap64 (a * x)).tmod p == 1) = true then x else invLoop p a k (x + 1)
def i_inverse (p a : Int) : Int := invLoop p a (p - 1).toNat 1
theorem inv_walk (fu : Nat) (p a : Int) (hp : prB p = true) : ∀ (k f : Nat) (j : Int), 1 ≤ j → j ≤ p → (p - j).toNat = k → k < f → L_i_inverse_0 fu p a f j = some (invLoop p a k j)
  | k, 0, j, _, _, _, h => absurd h (Nat.not_lt_zero k)
  | 0, f + 1, j, h1, h2, hk, _ => by
    show B_i_inverse_0 p a _ j = _
    unfold B_i_inverse_0
    rw [if_neg (by simp; omega)]; rfl
  | k + 1, f + 1, j, h1, h2, hk, hf => by
    show B_i_inverse_0 p a (L_i_inverse_0 fu p a f) j = _
    unfold B_i_inverse_0
    rw [if_pos (by simp; omega), if_pos (prB_ne hp), wI_eq, wI_eq]
    show _ = some (if ((wrap64 (a * j)).tmod p == 1) = true then j else invLoop p a k (j + 1))
    refine ite_opt (fun _ => rfl) fun _ => ?_
    have h31 := (prB_Pr hp).2
    rw [show wrap64 (j + 1) = j + 1 from by unfold wrap64; omega]
    exact inv_walk fu p a hp k f (j + 1) (by omega) (by omega) (by omega) (by omega)
theorem tot_i_inverse (p : Int) (a : Int) (hp : (prB p) = true) : Fo_i_inverse 40 p a = some (i_inverse p a) := by
  obtain ⟨h1, h2⟩ := prB_Pr hp
  exact inv_walk 40 p a hp _ _ 1 (by omega) (by omega) rfl (by omega)
def run_i_inverse : List PV → Option (Bool × List TR)
  | [.v (.int .i64 p), .v (.int .i64 a)] => some (prB p, enc_i (i_inverse p a))
  | _ => none
theorem sound_i_inverse : Sound Try.prog 97 run_i_inverse := by
  refine sound_of de_i SO_i_inverse (by kernel_rfl) Try.func97 Try.ntmps97 rfl (by kernel_rfl) ?_
  intro W pvs avs rs hargs hrun
  unfold run_i_inverse at hrun
  split at hrun
  · simp only [Option.some.injEq, Prod.mk.injEq] at hrun
    obtain ⟨hp, rfl⟩ := hrun
    rename_i p a
    exact ⟨_, _, _, hargs, rfl, (eq_i_inverse _ p a).trans (tot_i_inverse p a hp)⟩
  · cases hrun

def S_i_divide : Sums := ⟨tblS [(97, run_i_inverse), (94, run_i_rest)], tblM []⟩
theorem SO_i_divide : SumsOK Try.prog S_i_divide := ⟨tblS_ok ⟨⟨Try.call97, sound_i_inverse⟩, ⟨Try.call94, sound_i_rest⟩, True.intro⟩, tblM_ok True.intro⟩
def Fo_i_divide (p : Int) (a : Int) (b : Int) : Option (Int) :=
  (if (prB p) = true then (if (prB p) = true then some (i_rest p (wI (a * (i_inverse p b)))) else none) else none)
theorem eq_i_divide (p : Int) (a : Int) (b : Int) : execT Try.prog S_i_divide 110 14 1000000 dec_i [.v (.int .i64 p), .v (.int .i64 a), .v (.int .i64 b)] = Fo_i_divide p a b := by
  kernel_rfl
def i_divide (p : Int) (a : Int) (b : Int) : Int :=
  (i_rest p (wrap64 (a * (i_inverse p b))))
theorem tot_i_divide (p : Int) (a : Int) (b : Int) (hp : (prB p) = true) : Fo_i_divide p a b = some (i_divide p a b) := by
  have h0 := prB_ne hp
  unfold Fo_i_divide i_divide
  (try simp only [wI_eq])
  repeat' (first | with_reducible rfl | with_reducible refine chk_opt hp ?_ | with_reducible refine chk_opt h0 ?_ | refine ite_opt (fun _ => ?_) (fun _ => ?_) | rfl)
def run_i_divide : List PV → Option (Bool × List TR)
  | [.v (.int .i64 p), .v (.int .i64 a), .v (.int .i64 b)] => some (prB p, enc_i (i_divide p a b))
  | _ => none
theorem sound_i_divide : Sound Try.prog 110 run_i_divide := by
  refine sound_of de_i SO_i_divide (by kernel_rfl) Try.func110 Try.ntmps110 rfl (by kernel_rfl) ?_
  intro W pvs avs rs hargs hrun
  unfold run_i_divide at hrun
  split at hrun
  · simp only [Option.some.injEq, Prod.mk.injEq] at hrun
    obtain ⟨hp, rfl⟩ := hrun
    rename_i p a b
    exact ⟨_, _, _, hargs, rfl, (eq_i_divide p a b).trans (tot_i_divide p a b hp)⟩
  · cases hrun

def S_i_makeLine : Sums := ⟨tblS [(94, run_i_rest), (110, run_i_divide)], tblM []⟩
theorem SO_i_makeLine : SumsOK Try.prog S_i_makeLine := ⟨tblS_ok ⟨⟨Try.call94, sound_i_rest⟩, ⟨Try.call110, sound_i_divide⟩, True.intro⟩, tblM_ok True.intro⟩
def Fo_i_makeLine (p : Int) (a : Int) (b : Int) (c : Int) : Option (Int × Int × Int) :=
  (if (prB p) = true then (if (prB p) = true then (if (prB p) = true then (if ((i_rest p a) == 0) = true then (if (prB p) = true then (if (prB p) = true then (if (prB p) = true then some ((i_divide p (i_rest p a) (i_rest p b)), (i_divide p (i_rest p b) (i_rest p b)), (i_divide p (i_rest p c) (i_rest p b))) else none) else none) else none) else (if (prB p) = true then (if (prB p) = true then (if (prB p) = true then some ((i_divide p (i_rest p a) (i_rest p a)), (i_divide p (i_rest p b) (i_rest p a)), (i_divide p (i_rest p c) (i_rest p a))) else none) else none) else none)) else none) else none) else none)
theorem eq_i_makeLine (p : Int) (a : Int) (b : Int) (c : Int) : execT Try.prog S_i_makeLine 111 36 1000000 dec_a3 [.v (.int .i64 p), .v (.int .i64 a), .v (.int .i64 b), .v (.int .i64 c)] = Fo_i_makeLine p a b c := by
  kernel_rfl
def i_makeLine (p : Int) (a : Int) (b : Int) (c : Int) : Int × Int × Int :=
  (if ((i_rest p a) == 0) = true then ((i_divide p (i_rest p a) (i_rest p b)), (i_divide p (i_rest p b) (i_rest p b)), (i_divide p (i_rest p c) (i_rest p b))) else ((i_divide p (i_rest p a) (i_rest p a)), (i_divide p (i_rest p b) (i_rest p a)), (i_divide p (i_rest p c) (i_rest p a))))
theorem tot_i_makeLine (p : Int) (a : Int) (b : Int) (c : Int) (hp : (prB p) = true) : Fo_i_makeLine p a b c = some (i_makeLine p a b c) := by
  have h0 := prB_ne hp
  unfold Fo_i_makeLine i_makeLine
  (try simp only [wI_eq])
  repeat' (first | with_reducible rfl | with_reducible refine chk_opt hp ?_ | with_reducible refine chk_opt h0 ?_ | refine ite_opt (fun _ => ?_) (fun _ => ?_) | rfl)
def run_i_makeLine : List PV → Option (Bool × List TR)
  | [.v (.int .i64 p), .v (.int .i64 a), .v (.int .i64 b), .v (.int .i64 c)] => some (prB p, enc_a3 (i_makeLine p a b c))
  | _ => none
theorem sound_i_makeLine : Sound Try.prog 111 run_i_makeLine := by
  refine sound_of de_a3 SO_i_makeLine (by kernel_rfl) Try.func111 Try.ntmps111 rfl (by kernel_rfl) ?_
  intro W pvs avs rs hargs hrun
  unfold run_i_makeLine at hrun
  split at hrun
  · simp only [Option.some.injEq, Prod.mk.injEq] at hrun
    obtain ⟨hp, rfl⟩ := hrun
    rename_i p a b c
    exact ⟨_, _, _, hargs, rfl, (eq_i_makeLine p a b c).trans (tot_i_makeLine p a b c hp)⟩
  · cases hrun

def S_i_polarLine : Sums := ⟨tblS [(80, run_i_polar), (111, run_i_makeLine)], tblM []⟩
theorem SO_i_polarLine : SumsOK Try.prog S_i_polarLine := ⟨tblS_ok ⟨⟨Try.call80, sound_i_polar⟩, ⟨Try.call111, sound_i_makeLine⟩, True.intro⟩, tblM_ok True.intro⟩
def Fo_i_polarLine (p : Int) (k : Int × Int × Int × Int × Int × Int) (a : Int × Int) : Option ((Int × Int × Int) × Bool) :=
  (if (prB p) = true then (if (((i_polar p k a).1) == 0) = true then (if (((i_polar p k a).2.1) == 0) = true then some ((0, 0, 0), false) else (if (prB p) = true then some ((i_makeLine p ((i_polar p k a).1) ((i_polar p k a).2.1) ((i_polar p k a).2.2)), true) else none)) else (if (prB p) = true then some ((i_makeLine p ((i_polar p k a).1) ((i_polar p k a).2.1) ((i_polar p k a).2.2)), true) else none)) else none)
theorem eq_i_polarLine (p : Int) (k : Int × Int × Int × Int × Int × Int) (a : Int × Int) : execT Try.prog S_i_polarLine 75 30 1000000 dec_a3_b [.v (.int .i64 p), .v (.agg ⟨[.int .i64 k.1, .int .i64 k.2.1, .int .i64 k.2.2.1, .int .i64 k.2.2.2.1, .int .i64 k.2.2.2.2.1, .int .i64 k.2.2.2.2.2]⟩), .v (.agg ⟨[.int .i64 a.1, .int .i64 a.2]⟩)] = Fo_i_polarLine p k a := by
  kernel_rfl
def i_polarLine (p : Int) (k : Int × Int × Int × Int × Int × Int) (a : Int × Int) : (Int × Int × Int) × Bool :=
  (if (((i_polar p k a).1) == 0) = true then (if (((i_polar p k a).2.1) == 0) = true then ((0, 0, 0), false) else ((i_makeLine p ((i_polar p k a).1) ((i_polar p k a).2.1) ((i_polar p k a).2.2)), true)) else ((i_makeLine p ((i_polar p k a).1) ((i_polar p k a).2.1) ((i_polar p k a).2.2)), true))
theorem tot_i_polarLine (p : Int) (k : Int × Int × Int × Int × Int × Int) (a : Int × Int) (hp : (prB p) = true) : Fo_i_polarLine p k a = some (i_polarLine p k a) := by
  have h0 := prB_ne hp
  unfold Fo_i_polarLine i_polarLine
  (try simp only [wI_eq])
  repeat' (first | with_reducible rfl | with_reducible refine chk_opt hp ?_ | with_reducible refine chk_opt h0 ?_ | refine ite_opt (fun _ => ?_) (fun _ => ?_) | rfl)
def run_i_polarLine : List PV → Option (Bool × List TR)
  | [.v (.int .i64 p), .v (.agg ⟨[.int .i64 k0, .int .i64 k1, .int .i64 k2, .int .i64 k3, .int .i64 k4, .int .i64 k5]⟩), .v (.agg ⟨[.int .i64 a0, .int .i64 a1]⟩)] => some (prB p, enc_a3_b (i_polarLine p (k0, k1, k2, k3, k4, k5) (a0, a1)))
  | _ => none
theorem sound_i_polarLine : Sound Try.prog 75 run_i_polarLine := by
  refine sound_of de_a3_b SO_i_polarLine (by kernel_rfl) Try.func75 Try.ntmps75 rfl (by kernel_rfl) ?_
  intro W pvs avs rs hargs hrun
  unfold run_i_polarLine at hrun
  split at hrun
  · simp only [Option.some.injEq, Prod.mk.injEq] at hrun
    obtain ⟨hp, rfl⟩ := hrun
    rename_i p k0 k1 k2 k3 k4 k5 a0 a1
    exact ⟨_, _, _, hargs, rfl, (eq_i_polarLine p (k0, k1, k2, k3, k4, k5) (a0, a1)).trans (tot_i_polarLine p (k0, k1, k2, k3, k4, k5) (a0, a1) hp)⟩
  · cases hrun

def S_i_threeBy : Sums := ⟨tblS [(94, run_i_rest)], tblM []⟩
theorem SO_i_threeBy : SumsOK Try.prog S_i_threeBy := ⟨tblS_ok ⟨⟨Try.call94, sound_i_rest⟩, True.intro⟩, tblM_ok True.intro⟩
def Fo_i_threeBy (p : Int) (a : Int × Int × Int) (b : Int × Int × Int) (c : Int × Int × Int) : Option (Int) :=
  (if (prB p) = true then (if (prB p) = true then (if (prB p) = true then (if (prB p) = true then some (i_rest p (wI ((wI ((wI (a.1 * (i_rest p (wI ((wI (b.2.1 * c.2.2)) - (wI (b.2.2 * c.2.1))))))) + (wI (a.2.1 * (i_rest p (wI ((wI (b.2.2 * c.1)) - (wI (b.1 * c.2.2))))))))) + (wI (a.2.2 * (i_rest p (wI ((wI (b.1 * c.2.1)) - (wI (b.2.1 * c.1)))))))))) else none) else none) else none) else none)
theorem eq_i_threeBy (p : Int) (a : Int × Int × Int) (b : Int × Int × Int) (c : Int × Int × Int) : execT Try.prog S_i_threeBy 105 67 1000000 dec_i [.v (.int .i64 p), .v (.agg ⟨[.int .i64 a.1, .int .i64 a.2.1, .int .i64 a.2.2]⟩), .v (.agg ⟨[.int .i64 b.1, .int .i64 b.2.1, .int .i64 b.2.2]⟩), .v (.agg ⟨[.int .i64 c.1, .int .i64 c.2.1, .int .i64 c.2.2]⟩)] = Fo_i_threeBy p a b c := by
  kernel_rfl
def i_threeBy (p : Int) (a : Int × Int × Int) (b : Int × Int × Int) (c : Int × Int × Int) : Int :=
  (i_rest p (wrap64 ((wrap64 ((wrap64 (a.1 * (i_rest p (wrap64 ((wrap64 (b.2.1 * c.2.2)) - (wrap64 (b.2.2 * c.2.1))))))) + (wrap64 (a.2.1 * (i_rest p (wrap64 ((wrap64 (b.2.2 * c.1)) - (wrap64 (b.1 * c.2.2))))))))) + (wrap64 (a.2.2 * (i_rest p (wrap64 ((wrap64 (b.1 * c.2.1)) - (wrap64 (b.2.1 * c.1))))))))))
theorem tot_i_threeBy (p : Int) (a : Int × Int × Int) (b : Int × Int × Int) (c : Int × Int × Int) (hp : (prB p) = true) : Fo_i_threeBy p a b c = some (i_threeBy p a b c) := by
  have h0 := prB_ne hp
  unfold Fo_i_threeBy i_threeBy
  (try simp only [wI_eq])
  repeat' (first | with_reducible rfl | with_reducible refine chk_opt hp ?_ | with_reducible refine chk_opt h0 ?_ | refine ite_opt (fun _ => ?_) (fun _ => ?_) | rfl)
def run_i_threeBy : List PV → Option (Bool × List TR)
  | [.v (.int .i64 p), .v (.agg ⟨[.int .i64 a0, .int .i64 a1, .int .i64 a2]⟩), .v (.agg ⟨[.int .i64 b0, .int .i64 b1, .int .i64 b2]⟩), .v (.agg ⟨[.int .i64 c0, .int .i64 c1, .int .i64 c2]⟩)] => some (prB p, enc_i (i_threeBy p (a0, a1, a2) (b0, b1, b2) (c0, c1, c2)))
  | _ => none
theorem sound_i_threeBy : Sound Try.prog 105 run_i_threeBy := by
  refine sound_of de_i SO_i_threeBy (by kernel_rfl) Try.func105 Try.ntmps105 rfl (by kernel_rfl) ?_
  intro W pvs avs rs hargs hrun
  unfold run_i_threeBy at hrun
  split at hrun
  · simp only [Option.some.injEq, Prod.mk.injEq] at hrun
    obtain ⟨hp, rfl⟩ := hrun
    rename_i p a0 a1 a2 b0 b1 b2 c0 c1 c2
    exact ⟨_, _, _, hargs, rfl, (eq_i_threeBy p (a0, a1, a2) (b0, b1, b2) (c0, c1, c2)).trans (tot_i_threeBy p (a0, a1, a2) (b0, b1, b2) (c0, c1, c2) hp)⟩
  · cases hrun

def S_i_determinant : Sums := ⟨tblS [(105, run_i_threeBy)], tblM []⟩
theorem SO_i_determinant : SumsOK Try.prog S_i_determinant := ⟨tblS_ok ⟨⟨Try.call105, sound_i_threeBy⟩, True.intro⟩, tblM_ok True.intro⟩
def Fo_i_determinant (p : Int) (k : Int × Int × Int × Int × Int × Int) : Option (Int) :=
  (if (prB p) = true then some (i_threeBy p (wI (2 * k.1), k.2.1, k.2.2.2.1) (k.2.1, wI (2 * k.2.2.1), k.2.2.2.2.1) (k.2.2.2.1, k.2.2.2.2.1, wI (2 * k.2.2.2.2.2))) else none)
theorem eq_i_determinant (p : Int) (k : Int × Int × Int × Int × Int × Int) : execT Try.prog S_i_determinant 57 31 1000000 dec_i [.v (.int .i64 p), .v (.agg ⟨[.int .i64 k.1, .int .i64 k.2.1, .int .i64 k.2.2.1, .int .i64 k.2.2.2.1, .int .i64 k.2.2.2.2.1, .int .i64 k.2.2.2.2.2]⟩)] = Fo_i_determinant p k := by
  kernel_rfl
def i_determinant (p : Int) (k : Int × Int × Int × Int × Int × Int) : Int :=
  (i_threeBy p (wrap64 (2 * k.1), k.2.1, k.2.2.2.1) (k.2.1, wrap64 (2 * k.2.2.1), k.2.2.2.2.1) (k.2.2.2.1, k.2.2.2.2.1, wrap64 (2 * k.2.2.2.2.2)))
theorem tot_i_determinant (p : Int) (k : Int × Int × Int × Int × Int × Int) (hp : (prB p) = true) : Fo_i_determinant p k = some (i_determinant p k) := by
  have h0 := prB_ne hp
  unfold Fo_i_determinant i_determinant
  (try simp only [wI_eq])
  repeat' (first | with_reducible rfl | with_reducible refine chk_opt hp ?_ | with_reducible refine chk_opt h0 ?_ | refine ite_opt (fun _ => ?_) (fun _ => ?_) | rfl)
def run_i_determinant : List PV → Option (Bool × List TR)
  | [.v (.int .i64 p), .v (.agg ⟨[.int .i64 k0, .int .i64 k1, .int .i64 k2, .int .i64 k3, .int .i64 k4, .int .i64 k5]⟩)] => some (prB p, enc_i (i_determinant p (k0, k1, k2, k3, k4, k5)))
  | _ => none
theorem sound_i_determinant : Sound Try.prog 57 run_i_determinant := by
  refine sound_of de_i SO_i_determinant (by kernel_rfl) Try.func57 Try.ntmps57 rfl (by kernel_rfl) ?_
  intro W pvs avs rs hargs hrun
  unfold run_i_determinant at hrun
  split at hrun
  · simp only [Option.some.injEq, Prod.mk.injEq] at hrun
    obtain ⟨hp, rfl⟩ := hrun
    rename_i p k0 k1 k2 k3 k4 k5
    exact ⟨_, _, _, hargs, rfl, (eq_i_determinant p (k0, k1, k2, k3, k4, k5)).trans (tot_i_determinant p (k0, k1, k2, k3, k4, k5) hp)⟩
  · cases hrun

def S_s_l08Determinant : Sums := ⟨tblS [(89, run_s_l01Mod)], tblM []⟩
theorem SO_s_l08Determinant : SumsOK Try.prog S_s_l08Determinant := ⟨tblS_ok ⟨⟨Try.call89, sound_s_l01Mod⟩, True.intro⟩, tblM_ok True.intro⟩
def Fo_s_l08Determinant (p : Int) (k : Int × Int × Int × Int × Int × Int) : Option (Int) :=
  (if (prB p) = true then some (s_l01Mod (wI ((wI ((wI ((wI (2 * k.1)) * (wI ((wI ((wI (2 * k.2.2.1)) * (wI (2 * k.2.2.2.2.2)))) - (wI (k.2.2.2.2.1 * k.2.2.2.2.1)))))) - (wI (k.2.1 * (wI ((wI (k.2.1 * (wI (2 * k.2.2.2.2.2)))) - (wI (k.2.2.2.2.1 * k.2.2.2.1)))))))) + (wI (k.2.2.2.1 * (wI ((wI (k.2.1 * k.2.2.2.2.1)) - (wI ((wI (2 * k.2.2.1)) * k.2.2.2.1)))))))) p) else none)
theorem eq_s_l08Determinant (p : Int) (k : Int × Int × Int × Int × Int × Int) : execT Try.prog S_s_l08Determinant 54 57 1000000 dec_i [.v (.int .i64 p), .v (.agg ⟨[.int .i64 k.1, .int .i64 k.2.1, .int .i64 k.2.2.1, .int .i64 k.2.2.2.1, .int .i64 k.2.2.2.2.1, .int .i64 k.2.2.2.2.2]⟩)] = Fo_s_l08Determinant p k := by
  kernel_rfl
def s_l08Determinant (p : Int) (k : Int × Int × Int × Int × Int × Int) : Int :=
  (s_l01Mod (wrap64 ((wrap64 ((wrap64 ((wrap64 (2 * k.1)) * (wrap64 ((wrap64 ((wrap64 (2 * k.2.2.1)) * (wrap64 (2 * k.2.2.2.2.2)))) - (wrap64 (k.2.2.2.2.1 * k.2.2.2.2.1)))))) - (wrap64 (k.2.1 * (wrap64 ((wrap64 (k.2.1 * (wrap64 (2 * k.2.2.2.2.2)))) - (wrap64 (k.2.2.2.2.1 * k.2.2.2.1)))))))) + (wrap64 (k.2.2.2.1 * (wrap64 ((wrap64 (k.2.1 * k.2.2.2.2.1)) - (wrap64 ((wrap64 (2 * k.2.2.1)) * k.2.2.2.1)))))))) p)
theorem tot_s_l08Determinant (p : Int) (k : Int × Int × Int × Int × Int × Int) (hp : (prB p) = true) : Fo_s_l08Determinant p k = some (s_l08Determinant p k) := by
  have h0 := prB_ne hp
  unfold Fo_s_l08Determinant s_l08Determinant
  (try simp only [wI_eq])
  repeat' (first | with_reducible rfl | with_reducible refine chk_opt hp ?_ | with_reducible refine chk_opt h0 ?_ | refine ite_opt (fun _ => ?_) (fun _ => ?_) | rfl)
def run_s_l08Determinant : List PV → Option (Bool × List TR)
  | [.v (.int .i64 p), .v (.agg ⟨[.int .i64 k0, .int .i64 k1, .int .i64 k2, .int .i64 k3, .int .i64 k4, .int .i64 k5]⟩)] => some (prB p, enc_i (s_l08Determinant p (k0, k1, k2, k3, k4, k5)))
  | _ => none
theorem sound_s_l08Determinant : Sound Try.prog 54 run_s_l08Determinant := by
  refine sound_of de_i SO_s_l08Determinant (by kernel_rfl) Try.func54 Try.ntmps54 rfl (by kernel_rfl) ?_
  intro W pvs avs rs hargs hrun
  unfold run_s_l08Determinant at hrun
  split at hrun
  · simp only [Option.some.injEq, Prod.mk.injEq] at hrun
    obtain ⟨hp, rfl⟩ := hrun
    rename_i p k0 k1 k2 k3 k4 k5
    exact ⟨_, _, _, hargs, rfl, (eq_s_l08Determinant p (k0, k1, k2, k3, k4, k5)).trans (tot_s_l08Determinant p (k0, k1, k2, k3, k4, k5) hp)⟩
  · cases hrun

def S_s_l08Value : Sums := ⟨tblS [(89, run_s_l01Mod)], tblM []⟩
theorem SO_s_l08Value : SumsOK Try.prog S_s_l08Value := ⟨tblS_ok ⟨⟨Try.call89, sound_s_l01Mod⟩, True.intro⟩, tblM_ok True.intro⟩
def Fo_s_l08Value (p : Int) (k : Int × Int × Int × Int × Int × Int) (a : Int × Int) : Option (Int) :=
  (if (prB p) = true then some (s_l01Mod (wI ((wI ((wI ((wI ((wI ((wI ((wI (k.1 * a.1)) * a.1)) + (wI ((wI (k.2.1 * a.1)) * a.2)))) + (wI ((wI (k.2.2.1 * a.2)) * a.2)))) + (wI (k.2.2.2.1 * a.1)))) + (wI (k.2.2.2.2.1 * a.2)))) + k.2.2.2.2.2)) p) else none)
theorem eq_s_l08Value (p : Int) (k : Int × Int × Int × Int × Int × Int) (a : Int × Int) : execT Try.prog S_s_l08Value 81 48 1000000 dec_i [.v (.int .i64 p), .v (.agg ⟨[.int .i64 k.1, .int .i64 k.2.1, .int .i64 k.2.2.1, .int .i64 k.2.2.2.1, .int .i64 k.2.2.2.2.1, .int .i64 k.2.2.2.2.2]⟩), .v (.agg ⟨[.int .i64 a.1, .int .i64 a.2]⟩)] = Fo_s_l08Value p k a := by
  kernel_rfl
def s_l08Value (p : Int) (k : Int × Int × Int × Int × Int × Int) (a : Int × Int) : Int :=
  (s_l01Mod (wrap64 ((wrap64 ((wrap64 ((wrap64 ((wrap64 ((wrap64 ((wrap64 (k.1 * a.1)) * a.1)) + (wrap64 ((wrap64 (k.2.1 * a.1)) * a.2)))) + (wrap64 ((wrap64 (k.2.2.1 * a.2)) * a.2)))) + (wrap64 (k.2.2.2.1 * a.1)))) + (wrap64 (k.2.2.2.2.1 * a.2)))) + k.2.2.2.2.2)) p)
theorem tot_s_l08Value (p : Int) (k : Int × Int × Int × Int × Int × Int) (a : Int × Int) (hp : (prB p) = true) : Fo_s_l08Value p k a = some (s_l08Value p k a) := by
  have h0 := prB_ne hp
  unfold Fo_s_l08Value s_l08Value
  (try simp only [wI_eq])
  repeat' (first | with_reducible rfl | with_reducible refine chk_opt hp ?_ | with_reducible refine chk_opt h0 ?_ | refine ite_opt (fun _ => ?_) (fun _ => ?_) | rfl)
def run_s_l08Value : List PV → Option (Bool × List TR)
  | [.v (.int .i64 p), .v (.agg ⟨[.int .i64 k0, .int .i64 k1, .int .i64 k2, .int .i64 k3, .int .i64 k4, .int .i64 k5]⟩), .v (.agg ⟨[.int .i64 a0, .int .i64 a1]⟩)] => some (prB p, enc_i (s_l08Value p (k0, k1, k2, k3, k4, k5) (a0, a1)))
  | _ => none
theorem sound_s_l08Value : Sound Try.prog 81 run_s_l08Value := by
  refine sound_of de_i SO_s_l08Value (by kernel_rfl) Try.func81 Try.ntmps81 rfl (by kernel_rfl) ?_
  intro W pvs avs rs hargs hrun
  unfold run_s_l08Value at hrun
  split at hrun
  · simp only [Option.some.injEq, Prod.mk.injEq] at hrun
    obtain ⟨hp, rfl⟩ := hrun
    rename_i p k0 k1 k2 k3 k4 k5 a0 a1
    exact ⟨_, _, _, hargs, rfl, (eq_s_l08Value p (k0, k1, k2, k3, k4, k5) (a0, a1)).trans (tot_s_l08Value p (k0, k1, k2, k3, k4, k5) (a0, a1) hp)⟩
  · cases hrun

def dec_a6 : List TR → Option (Int × Int × Int × Int × Int × Int)
  | [.v (.agg ⟨[.int .i64 x0_0, .int .i64 x0_1, .int .i64 x0_2, .int .i64 x0_3, .int .i64 x0_4, .int .i64 x0_5]⟩)] => some (x0_0, x0_1, x0_2, x0_3, x0_4, x0_5)
  | _ => none
def enc_a6 : Int × Int × Int × Int × Int × Int → List TR
  | (x0_0, x0_1, x0_2, x0_3, x0_4, x0_5) => [.v (.agg ⟨[.int .i64 x0_0, .int .i64 x0_1, .int .i64 x0_2, .int .i64 x0_3, .int .i64 x0_4, .int .i64 x0_5]⟩)]
theorem de_a6 (rs : List TR) (x : Int × Int × Int × Int × Int × Int) (h : dec_a6 rs = some x) : rs = enc_a6 x := by
  unfold dec_a6 at h
  split at h
  · simp only [Option.some.injEq] at h
    subst h
    rfl
  · cases h
def S_i_row : Sums := ⟨tblS [], tblM []⟩
theorem SO_i_row : SumsOK Try.prog S_i_row := ⟨tblS_ok True.intro, tblM_ok True.intro⟩
def Fo_i_row (p : Int) (a : Int × Int) : Option (Int × Int × Int × Int × Int × Int) :=
  (if (!(p == 0)) = true then (if (!(p == 0)) = true then (if (!(p == 0)) = true then some ((wI (a.1 * a.1)).tmod p, (wI (a.1 * a.2)).tmod p, (wI (a.2 * a.2)).tmod p, a.1, a.2, 1) else none) else none) else none)
theorem eq_i_row (p : Int) (a : Int × Int) : execT Try.prog S_i_row 103 29 1000000 dec_a6 [.v (.int .i64 p), .v (.agg ⟨[.int .i64 a.1, .int .i64 a.2]⟩)] = Fo_i_row p a := by
  kernel_rfl
def i_row (p : Int) (a : Int × Int) : Int × Int × Int × Int × Int × Int :=
  ((wrap64 (a.1 * a.1)).tmod p, (wrap64 (a.1 * a.2)).tmod p, (wrap64 (a.2 * a.2)).tmod p, a.1, a.2, 1)
theorem tot_i_row (p : Int) (a : Int × Int) (hp : (prB p) = true) : Fo_i_row p a = some (i_row p a) := by
  have h0 := prB_ne hp
  unfold Fo_i_row i_row
  (try simp only [wI_eq])
  repeat' (first | with_reducible rfl | with_reducible refine chk_opt hp ?_ | with_reducible refine chk_opt h0 ?_ | refine ite_opt (fun _ => ?_) (fun _ => ?_) | rfl)
def run_i_row : List PV → Option (Bool × List TR)
  | [.v (.int .i64 p), .v (.agg ⟨[.int .i64 a0, .int .i64 a1]⟩)] => some (prB p, enc_a6 (i_row p (a0, a1)))
  | _ => none
theorem sound_i_row : Sound Try.prog 103 run_i_row := by
  refine sound_of de_a6 SO_i_row (by kernel_rfl) Try.func103 Try.ntmps103 rfl (by kernel_rfl) ?_
  intro W pvs avs rs hargs hrun
  unfold run_i_row at hrun
  split at hrun
  · simp only [Option.some.injEq, Prod.mk.injEq] at hrun
    obtain ⟨hp, rfl⟩ := hrun
    rename_i p a0 a1
    exact ⟨_, _, _, hargs, rfl, (eq_i_row p (a0, a1)).trans (tot_i_row p (a0, a1) hp)⟩
  · cases hrun

def S_i_isOnConic : Sums := ⟨tblS [(103, run_i_row)], tblM []⟩
theorem SO_i_isOnConic : SumsOK Try.prog S_i_isOnConic := ⟨tblS_ok ⟨⟨Try.call103, sound_i_row⟩, True.intro⟩, tblM_ok True.intro⟩
def Fo_i_isOnConic (p : Int) (a : Int × Int) (k : Int × Int × Int × Int × Int × Int) : Option (Bool) :=
  (if (prB p) = true then (if (!(p == 0)) = true then some (((wI ((wI ((wI ((wI ((wI ((wI (0 + (wI (((i_row p a).1) * k.1)))) + (wI (((i_row p a).2.1) * k.2.1)))) + (wI (((i_row p a).2.2.1) * k.2.2.1)))) + (wI (((i_row p a).2.2.2.1) * k.2.2.2.1)))) + (wI (((i_row p a).2.2.2.2.1) * k.2.2.2.2.1)))) + (wI (((i_row p a).2.2.2.2.2) * k.2.2.2.2.2)))).tmod p) == 0) else none) else none)
theorem eq_i_isOnConic (p : Int) (a : Int × Int) (k : Int × Int × Int × Int × Int × Int) : execT Try.prog S_i_isOnConic 70 29 1000000 dec_b [.v (.int .i64 p), .v (.agg ⟨[.int .i64 a.1, .int .i64 a.2]⟩), .v (.agg ⟨[.int .i64 k.1, .int .i64 k.2.1, .int .i64 k.2.2.1, .int .i64 k.2.2.2.1, .int .i64 k.2.2.2.2.1, .int .i64 k.2.2.2.2.2]⟩)] = Fo_i_isOnConic p a k := by
  kernel_rfl
def i_isOnConic (p : Int) (a : Int × Int) (k : Int × Int × Int × Int × Int × Int) : Bool :=
  ((wrap64 ((wrap64 ((wrap64 ((wrap64 ((wrap64 ((wrap64 (0 + (wrap64 (((i_row p a).1) * k.1)))) + (wrap64 (((i_row p a).2.1) * k.2.1)))) + (wrap64 (((i_row p a).2.2.1) * k.2.2.1)))) + (wrap64 (((i_row p a).2.2.2.1) * k.2.2.2.1)))) + (wrap64 (((i_row p a).2.2.2.2.1) * k.2.2.2.2.1)))) + (wrap64 (((i_row p a).2.2.2.2.2) * k.2.2.2.2.2)))).tmod p) == 0
theorem tot_i_isOnConic (p : Int) (a : Int × Int) (k : Int × Int × Int × Int × Int × Int) (hp : (prB p) = true) : Fo_i_isOnConic p a k = some (i_isOnConic p a k) := by
  have h0 := prB_ne hp
  unfold Fo_i_isOnConic i_isOnConic
  (try simp only [wI_eq])
  repeat' (first | with_reducible rfl | with_reducible refine chk_opt hp ?_ | with_reducible refine chk_opt h0 ?_ | refine ite_opt (fun _ => ?_) (fun _ => ?_) | rfl)
def run_i_isOnConic : List PV → Option (Bool × List TR)
  | [.v (.int .i64 p), .v (.agg ⟨[.int .i64 a0, .int .i64 a1]⟩), .v (.agg ⟨[.int .i64 k0, .int .i64 k1, .int .i64 k2, .int .i64 k3, .int .i64 k4, .int .i64 k5]⟩)] => some (prB p, enc_b (i_isOnConic p (a0, a1) (k0, k1, k2, k3, k4, k5)))
  | _ => none
theorem sound_i_isOnConic : Sound Try.prog 70 run_i_isOnConic := by
  refine sound_of de_b SO_i_isOnConic (by kernel_rfl) Try.func70 Try.ntmps70 rfl (by kernel_rfl) ?_
  intro W pvs avs rs hargs hrun
  unfold run_i_isOnConic at hrun
  split at hrun
  · simp only [Option.some.injEq, Prod.mk.injEq] at hrun
    obtain ⟨hp, rfl⟩ := hrun
    rename_i p a0 a1 k0 k1 k2 k3 k4 k5
    exact ⟨_, _, _, hargs, rfl, (eq_i_isOnConic p (a0, a1) (k0, k1, k2, k3, k4, k5)).trans (tot_i_isOnConic p (a0, a1) (k0, k1, k2, k3, k4, k5) hp)⟩
  · cases hrun

def S_i_isPoint : Sums := ⟨tblS [(64, run_i_areNumbers)], tblM []⟩
theorem SO_i_isPoint : SumsOK Try.prog S_i_isPoint := ⟨tblS_ok ⟨⟨Try.call64, sound_i_areNumbers⟩, True.intro⟩, tblM_ok True.intro⟩
def Fo_i_isPoint (p : Int) (a : Int × Int) : Option (Bool) :=
  some (i_areNumbers p [a.1, a.2])
theorem eq_i_isPoint (p : Int) (a : Int × Int) : execT Try.prog S_i_isPoint 74 8 1000000 dec_b [.v (.int .i64 p), .v (.agg ⟨[.int .i64 a.1, .int .i64 a.2]⟩)] = Fo_i_isPoint p a := by
  kernel_rfl
def i_isPoint (p : Int) (a : Int × Int) : Bool :=
  (i_areNumbers p [a.1, a.2])
theorem tot_i_isPoint (p : Int) (a : Int × Int) : Fo_i_isPoint p a = some (i_isPoint p a) := by
  unfold Fo_i_isPoint i_isPoint
  (try simp only [wI_eq])
  repeat' (first | with_reducible rfl | refine ite_opt (fun _ => ?_) (fun _ => ?_) | rfl)
def run_i_isPoint : List PV → Option (Bool × List TR)
  | [.v (.int .i64 p), .v (.agg ⟨[.int .i64 a0, .int .i64 a1]⟩)] => some (true, enc_b (i_isPoint p (a0, a1)))
  | _ => none
theorem sound_i_isPoint : Sound Try.prog 74 run_i_isPoint := by
  refine sound_of de_b SO_i_isPoint (by kernel_rfl) Try.func74 Try.ntmps74 rfl (by kernel_rfl) ?_
  intro W pvs avs rs hargs hrun
  unfold run_i_isPoint at hrun
  split at hrun
  · simp only [Option.some.injEq, Prod.mk.injEq] at hrun
    obtain ⟨hp, rfl⟩ := hrun
    rename_i p a0 a1
    exact ⟨_, _, _, hargs, rfl, (eq_i_isPoint p (a0, a1)).trans (tot_i_isPoint p (a0, a1))⟩
  · cases hrun

def S_l_toConic : Sums := ⟨tblS [], tblM []⟩
theorem SO_l_toConic : SumsOK Try.prog S_l_toConic := ⟨tblS_ok True.intro, tblM_ok True.intro⟩
def Fo_l_toConic (a : Int × Int × Int × Int × Int × Int) : Option (Int × Int × Int × Int × Int × Int) :=
  some a
theorem eq_l_toConic (a : Int × Int × Int × Int × Int × Int) : execT Try.prog S_l_toConic 15 15 1000000 dec_a6 [.v (.agg ⟨[.int .i64 a.1, .int .i64 a.2.1, .int .i64 a.2.2.1, .int .i64 a.2.2.2.1, .int .i64 a.2.2.2.2.1, .int .i64 a.2.2.2.2.2]⟩)] = Fo_l_toConic a := by
  kernel_rfl
def l_toConic (a : Int × Int × Int × Int × Int × Int) : Int × Int × Int × Int × Int × Int :=
  a
theorem tot_l_toConic (a : Int × Int × Int × Int × Int × Int) : Fo_l_toConic a = some (l_toConic a) := by
  unfold Fo_l_toConic l_toConic
  (try simp only [wI_eq])
  repeat' (first | with_reducible rfl | refine ite_opt (fun _ => ?_) (fun _ => ?_) | rfl)
def run_l_toConic : List PV → Option (Bool × List TR)
  | [.v (.agg ⟨[.int .i64 a0, .int .i64 a1, .int .i64 a2, .int .i64 a3, .int .i64 a4, .int .i64 a5]⟩)] => some (true, enc_a6 (l_toConic (a0, a1, a2, a3, a4, a5)))
  | _ => none
theorem sound_l_toConic : Sound Try.prog 15 run_l_toConic := by
  refine sound_of de_a6 SO_l_toConic (by kernel_rfl) Try.func15 Try.ntmps15 rfl (by kernel_rfl) ?_
  intro W pvs avs rs hargs hrun
  unfold run_l_toConic at hrun
  split at hrun
  · simp only [Option.some.injEq, Prod.mk.injEq] at hrun
    obtain ⟨hp, rfl⟩ := hrun
    rename_i a0 a1 a2 a3 a4 a5
    exact ⟨_, _, _, hargs, rfl, (eq_l_toConic (a0, a1, a2, a3, a4, a5)).trans (tot_l_toConic (a0, a1, a2, a3, a4, a5))⟩
  · cases hrun

def dec_a2 : List TR → Option (Int × Int)
  | [.v (.agg ⟨[.int .i64 x0_0, .int .i64 x0_1]⟩)] => some (x0_0, x0_1)
  | _ => none
def enc_a2 : Int × Int → List TR
  | (x0_0, x0_1) => [.v (.agg ⟨[.int .i64 x0_0, .int .i64 x0_1]⟩)]
theorem de_a2 (rs : List TR) (x : Int × Int) (h : dec_a2 rs = some x) : rs = enc_a2 x := by
  unfold dec_a2 at h
  split at h
  · simp only [Option.some.injEq] at h
    subst h
    rfl
  · cases h
def S_l_toPoint : Sums := ⟨tblS [], tblM []⟩
theorem SO_l_toPoint : SumsOK Try.prog S_l_toPoint := ⟨tblS_ok True.intro, tblM_ok True.intro⟩
def Fo_l_toPoint (a : Int × Int) : Option (Int × Int) :=
  some a
theorem eq_l_toPoint (a : Int × Int) : execT Try.prog S_l_toPoint 32 15 1000000 dec_a2 [.v (.agg ⟨[.int .i64 a.1, .int .i64 a.2]⟩)] = Fo_l_toPoint a := by
  kernel_rfl
def l_toPoint (a : Int × Int) : Int × Int :=
  a
theorem tot_l_toPoint (a : Int × Int) : Fo_l_toPoint a = some (l_toPoint a) := by
  unfold Fo_l_toPoint l_toPoint
  (try simp only [wI_eq])
  repeat' (first | with_reducible rfl | refine ite_opt (fun _ => ?_) (fun _ => ?_) | rfl)
def run_l_toPoint : List PV → Option (Bool × List TR)
  | [.v (.agg ⟨[.int .i64 a0, .int .i64 a1]⟩)] => some (true, enc_a2 (l_toPoint (a0, a1)))
  | _ => none
theorem sound_l_toPoint : Sound Try.prog 32 run_l_toPoint := by
  refine sound_of de_a2 SO_l_toPoint (by kernel_rfl) Try.func32 Try.ntmps32 rfl (by kernel_rfl) ?_
  intro W pvs avs rs hargs hrun
  unfold run_l_toPoint at hrun
  split at hrun
  · simp only [Option.some.injEq, Prod.mk.injEq] at hrun
    obtain ⟨hp, rfl⟩ := hrun
    rename_i a0 a1
    exact ⟨_, _, _, hargs, rfl, (eq_l_toPoint (a0, a1)).trans (tot_l_toPoint (a0, a1))⟩
  · cases hrun

def S_l_toLine : Sums := ⟨tblS [], tblM []⟩
theorem SO_l_toLine : SumsOK Try.prog S_l_toLine := ⟨tblS_ok True.intro, tblM_ok True.intro⟩
def Fo_l_toLine (a : Int × Int × Int) : Option (Int × Int × Int) :=
  some a
theorem eq_l_toLine (a : Int × Int × Int) : execT Try.prog S_l_toLine 41 15 1000000 dec_a3 [.v (.agg ⟨[.int .i64 a.1, .int .i64 a.2.1, .int .i64 a.2.2]⟩)] = Fo_l_toLine a := by
  kernel_rfl
def l_toLine (a : Int × Int × Int) : Int × Int × Int :=
  a
theorem tot_l_toLine (a : Int × Int × Int) : Fo_l_toLine a = some (l_toLine a) := by
  unfold Fo_l_toLine l_toLine
  (try simp only [wI_eq])
  repeat' (first | with_reducible rfl | refine ite_opt (fun _ => ?_) (fun _ => ?_) | rfl)
def run_l_toLine : List PV → Option (Bool × List TR)
  | [.v (.agg ⟨[.int .i64 a0, .int .i64 a1, .int .i64 a2]⟩)] => some (true, enc_a3 (l_toLine (a0, a1, a2)))
  | _ => none
theorem sound_l_toLine : Sound Try.prog 41 run_l_toLine := by
  refine sound_of de_a3 SO_l_toLine (by kernel_rfl) Try.func41 Try.ntmps41 rfl (by kernel_rfl) ?_
  intro W pvs avs rs hargs hrun
  unfold run_l_toLine at hrun
  split at hrun
  · simp only [Option.some.injEq, Prod.mk.injEq] at hrun
    obtain ⟨hp, rfl⟩ := hrun
    rename_i a0 a1 a2
    exact ⟨_, _, _, hargs, rfl, (eq_l_toLine (a0, a1, a2)).trans (tot_l_toLine (a0, a1, a2))⟩
  · cases hrun

def S_l_eqLine : Sums := ⟨tblS [], tblM []⟩
theorem SO_l_eqLine : SumsOK Try.prog S_l_eqLine := ⟨tblS_ok True.intro, tblM_ok True.intro⟩
def Fo_l_eqLine (a : Int × Int × Int) (b : Int × Int × Int) : Option (Bool) :=
  (if (a.1 != b.1) = true then some false else (if (a.2.1 != b.2.1) = true then some false else (if (a.2.2 != b.2.2) = true then some false else some true)))
theorem eq_l_eqLine (a : Int × Int × Int) (b : Int × Int × Int) : execT Try.prog S_l_eqLine 34 17 1000000 dec_b [.v (.agg ⟨[.int .i64 a.1, .int .i64 a.2.1, .int .i64 a.2.2]⟩), .v (.agg ⟨[.int .i64 b.1, .int .i64 b.2.1, .int .i64 b.2.2]⟩)] = Fo_l_eqLine a b := by
  kernel_rfl
def l_eqLine (a : Int × Int × Int) (b : Int × Int × Int) : Bool :=
  (if (a.1 != b.1) = true then false else (if (a.2.1 != b.2.1) = true then false else (if (a.2.2 != b.2.2) = true then false else true)))
theorem tot_l_eqLine (a : Int × Int × Int) (b : Int × Int × Int) : Fo_l_eqLine a b = some (l_eqLine a b) := by
  unfold Fo_l_eqLine l_eqLine
  (try simp only [wI_eq])
  repeat' (first | with_reducible rfl | refine ite_opt (fun _ => ?_) (fun _ => ?_) | rfl)
def run_l_eqLine : List PV → Option (Bool × List TR)
  | [.v (.agg ⟨[.int .i64 a0, .int .i64 a1, .int .i64 a2]⟩), .v (.agg ⟨[.int .i64 b0, .int .i64 b1, .int .i64 b2]⟩)] => some (true, enc_b (l_eqLine (a0, a1, a2) (b0, b1, b2)))
  | _ => none
theorem sound_l_eqLine : Sound Try.prog 34 run_l_eqLine := by
  refine sound_of de_b SO_l_eqLine (by kernel_rfl) Try.func34 Try.ntmps34 rfl (by kernel_rfl) ?_
  intro W pvs avs rs hargs hrun
  unfold run_l_eqLine at hrun
  split at hrun
  · simp only [Option.some.injEq, Prod.mk.injEq] at hrun
    obtain ⟨hp, rfl⟩ := hrun
    rename_i a0 a1 a2 b0 b1 b2
    exact ⟨_, _, _, hargs, rfl, (eq_l_eqLine (a0, a1, a2) (b0, b1, b2)).trans (tot_l_eqLine (a0, a1, a2) (b0, b1, b2))⟩
  · cases hrun

def S_l_eqPoint : Sums := ⟨tblS [], tblM []⟩
theorem SO_l_eqPoint : SumsOK Try.prog S_l_eqPoint := ⟨tblS_ok True.intro, tblM_ok True.intro⟩
def Fo_l_eqPoint (a : Int × Int) (b : Int × Int) : Option (Bool) :=
  (if (a.1 != b.1) = true then some false else (if (a.2 != b.2) = true then some false else some true))
theorem eq_l_eqPoint (a : Int × Int) (b : Int × Int) : execT Try.prog S_l_eqPoint 37 17 1000000 dec_b [.v (.agg ⟨[.int .i64 a.1, .int .i64 a.2]⟩), .v (.agg ⟨[.int .i64 b.1, .int .i64 b.2]⟩)] = Fo_l_eqPoint a b := by
  kernel_rfl
def l_eqPoint (a : Int × Int) (b : Int × Int) : Bool :=
  (if (a.1 != b.1) = true then false else (if (a.2 != b.2) = true then false else true))
theorem tot_l_eqPoint (a : Int × Int) (b : Int × Int) : Fo_l_eqPoint a b = some (l_eqPoint a b) := by
  unfold Fo_l_eqPoint l_eqPoint
  (try simp only [wI_eq])
  repeat' (first | with_reducible rfl | refine ite_opt (fun _ => ?_) (fun _ => ?_) | rfl)
def run_l_eqPoint : List PV → Option (Bool × List TR)
  | [.v (.agg ⟨[.int .i64 a0, .int .i64 a1]⟩), .v (.agg ⟨[.int .i64 b0, .int .i64 b1]⟩)] => some (true, enc_b (l_eqPoint (a0, a1) (b0, b1)))
  | _ => none
theorem sound_l_eqPoint : Sound Try.prog 37 run_l_eqPoint := by
  refine sound_of de_b SO_l_eqPoint (by kernel_rfl) Try.func37 Try.ntmps37 rfl (by kernel_rfl) ?_
  intro W pvs avs rs hargs hrun
  unfold run_l_eqPoint at hrun
  split at hrun
  · simp only [Option.some.injEq, Prod.mk.injEq] at hrun
    obtain ⟨hp, rfl⟩ := hrun
    rename_i a0 a1 b0 b1
    exact ⟨_, _, _, hargs, rfl, (eq_l_eqPoint (a0, a1) (b0, b1)).trans (tot_l_eqPoint (a0, a1) (b0, b1))⟩
  · cases hrun


end Go.Proofs.Ytjpckmpeahinkaa
