import Derived.Test.YtjpckmpeahinkaaDl
import Derived.Test.YtjpckmpeahinkaaProg
set_option linter.unusedSimpArgs false
set_option linter.unusedVariables false
namespace Go.Proofs.Ytjpckmpeahinkaa
open Go.RowKit
def dec_b : List TR → Option (Bool)
  | [.v (.bool x0)] => some x0
  | _ => none
def enc_b : Bool → List TR
  | x0 => [.v (.bool x0)]
theorem de_b (rs : List TR) (x : Bool) (h : dec_b rs = some x) : rs = enc_b x := by
  unfold dec_b at h
  split at h
  · simp only [Option.some.injEq] at h
    subst h
    rfl
  · cases h
def S_i_isNumber : Sums := ⟨tblS [], tblM []⟩
theorem SO_i_isNumber : SumsOK Try.prog S_i_isNumber := ⟨tblS_ok True.intro, tblM_ok True.intro⟩
def Fo_i_isNumber (p : Int) (x : Int) : Option (Bool) :=
  (if (decide (x ≥ 0)) = true then some (decide (x < p)) else some false)
theorem eq_i_isNumber (p : Int) (x : Int) : execT Try.prog S_i_isNumber 109 12 (fun _ => 1000000) dec_b [.v (.int .i64 p), .v (.int .i64 x)] = Fo_i_isNumber p x := by
  kernel_rfl
def i_isNumber (p : Int) (x : Int) : Bool :=
  (if (decide (x ≥ 0)) = true then decide (x < p) else false)
theorem tot_i_isNumber (p : Int) (x : Int) : Fo_i_isNumber p x = some (i_isNumber p x) := by
  unfold Fo_i_isNumber i_isNumber
  (try simp only [wI_eq])
  repeat' (first | with_reducible rfl | refine ite_opt (fun _ => ?_) (fun _ => ?_) | rfl)
def run_i_isNumber : List PV → Option (Bool × List TR)
  | [.v (.int .i64 p), .v (.int .i64 x)] => some (true, enc_b (i_isNumber p x))
  | _ => none
theorem sound_i_isNumber : Sound Try.prog 109 run_i_isNumber := by
  refine sound_of de_b SO_i_isNumber (by kernel_rfl) Try.func109 Try.ntmps109 rfl (by kernel_rfl) ?_
  intro W pvs avs rs hargs hrun
  unfold run_i_isNumber at hrun
  split at hrun
  · simp only [Option.some.injEq, Prod.mk.injEq] at hrun
    obtain ⟨hp, rfl⟩ := hrun
    rename_i p x
    exact ⟨_, _, _, hargs, rfl, (eq_i_isNumber p x).trans (tot_i_isNumber p x)⟩
  · cases hrun

def S_i_areNumbers : Sums := ⟨tblS [(109, run_i_isNumber)], tblM []⟩
theorem SO_i_areNumbers : SumsOK Try.prog S_i_areNumbers := ⟨tblS_ok ⟨⟨Try.call109, sound_i_isNumber⟩, True.intro⟩, tblM_ok True.intro⟩
def T_i_areNumbers_0 (p : Int) (listn : Nat) (listl : List Int) (t9 : Int) : Tab := ⟨[.val (.int .i64 p), .row 4, .junk, .junk, .val (.bool false), .junk, .junk, .row 4, .val (.int .i64 ((listn : Nat) : Int)), .val (.int .i64 t9), .junk, .junk, .junk, .junk, .junk, .junk, .junk, .junk], [(4, .ros listn (.ints listl))]⟩
def X_i_areNumbers_0 (P : Program) (fu : Nat) (p : Int) (listn : Nat) (listl : List Int) (f : Nat) (t9 : Int) : Option (Bool) := loopK (exec P S_i_areNumbers 18 (fun _ => fu + 100) (Code.sub [1, 0, 1, 0, 0] (bodyF P 64))) f (T_i_areNumbers_0 p listn listl t9) (kBlock 0 (kSeq (fun s => exec P S_i_areNumbers 18 (fun _ => fu + 100) (Code.sub [1, 1] (bodyF P 64)) s (finT P 64 dec_b)) (finT P 64 dec_b)))
def B_i_areNumbers_0 (p : Int) (listn : Nat) (listl : List Int) (rec0 : Int → Option (Bool)) (t9 : Int) : Option (Bool) :=
  (if (decide (t9 < ((listn : Nat) : Int))) = true then (if (decide (0 ≤ t9) && decide (t9 < ((listn : Nat) : Int))) = true then (if (Nat.ble (t9.toNat * 1 + 1) listl.length) = true then (if (!(i_isNumber p (listl.getD (t9.toNat * 1) 0))) = true then some false else rec0 (wI (t9 + 1))) else none) else none) else some true)
def L_i_areNumbers_0 (fu : Nat) (p : Int) (listn : Nat) (listl : List Int) : Nat → Int → Option (Bool)
  | 0, _ => none
  | f + 1, t9 => B_i_areNumbers_0 p listn listl (L_i_areNumbers_0 fu p listn listl f) t9
theorem loop_i_areNumbers_0 (fu : Nat) (p : Int) (listn : Nat) (listl : List Int) : ∀ (f : Nat) (t9 : Int), X_i_areNumbers_0 Try.prog fu p listn listl f t9 = L_i_areNumbers_0 fu p listn listl f t9 := by
  intro f
  induction f with
  | zero => intros; rfl
  | succ f ih =>
    intro t9
    have h1 : X_i_areNumbers_0 Try.prog fu p listn listl (f + 1) t9 = B_i_areNumbers_0 p listn listl (X_i_areNumbers_0 Try.prog fu p listn listl f) t9 := by kernel_rfl
    have h2 : X_i_areNumbers_0 Try.prog fu p listn listl f = L_i_areNumbers_0 fu p listn listl f := by funext t9; exact ih t9
    rw [h1, h2]
    rfl
def G_i_areNumbers (p : Int) (listn : Nat) (listl : List Int) (lo0 : Int → Option (Bool)) : Option (Bool) :=
  lo0 0
def Fo_i_areNumbers (fu : Nat) (p : Int) (listn : Nat) (listl : List Int) : Option (Bool) := G_i_areNumbers p listn listl (L_i_areNumbers_0 fu p listn listl (fu + 100))
theorem eqg_i_areNumbers (fu : Nat) (p : Int) (listn : Nat) (listl : List Int) : execT Try.prog S_i_areNumbers 64 18 (fun _ => fu + 100) dec_b [.v (.int .i64 p), .s listn (.ints listl)] = G_i_areNumbers p listn listl (L_i_areNumbers_0 fu p listn listl (fu + 100)) := by
  have h1 : execT Try.prog S_i_areNumbers 64 18 (fun _ => fu + 100) dec_b [.v (.int .i64 p), .s listn (.ints listl)] = G_i_areNumbers p listn listl (X_i_areNumbers_0 Try.prog fu p listn listl (fu + 100)) := by kernel_rfl
  have c0 : X_i_areNumbers_0 Try.prog fu p listn listl (fu + 100) = L_i_areNumbers_0 fu p listn listl (fu + 100) := by funext t9; exact loop_i_areNumbers_0 fu p listn listl (fu + 100) t9
  rw [h1, c0]
theorem eq_i_areNumbers (fu : Nat) (p : Int) (listn : Nat) (listl : List Int) : execT Try.prog S_i_areNumbers 64 18 (fun _ => fu + 100) dec_b [.v (.int .i64 p), .s listn (.ints listl)] = Fo_i_areNumbers fu p listn listl := eqg_i_areNumbers fu p listn listl
def i_areNumbers (p : Int) (l : List Int) : Bool := l.all (fun x => i_isNumber p x)
theorem tot_i_areNumbers (p : Int) (listn : Nat) (listl : List Int) (hp : (lenB listn 1 listl) = true) : Fo_i_areNumbers listn p listn listl = some (i_areNumbers p listl) := by
  obtain ⟨hl, hn⟩ := lenB_ok hp
  have key : ∀ F, listn < F → (L_i_areNumbers_0 listn p listn listl) F 0 = some (if (List.range listn).all (fun k => (fun x => i_isNumber p x) (listl.getD (k * 1) 0)) = true then true else false) := by
    intro F hF
    refine scan hF (fun f k hk => ?_) fun f => ?_
    · show B_i_areNumbers_0 p listn listl ((L_i_areNumbers_0 listn p listn listl) f) (k : Int) = _
      unfold B_i_areNumbers_0
      rw [if_pos (by simpa using hk), if_pos (by simpa using hk), if_pos (leb (by rw [hl, Int.toNat_natCast]; omega)), wrap_add1 hk (by omega)]
      first | rfl | (rw [wI_eq]; rfl)
    · show B_i_areNumbers_0 p listn listl ((L_i_areNumbers_0 listn p listn listl) f) ((listn : Nat) : Int) = _
      unfold B_i_areNumbers_0
      rw [if_neg (by simp)]
  unfold Fo_i_areNumbers G_i_areNumbers
  rw [key _ (by omega)]
  show _ = some ((listl).all (fun x => i_isNumber p x))
  rw [all_rows1 listn listl (by omega)]
  cases (List.range listn).all (fun k => (fun x => i_isNumber p x) (listl.getD (k * 1) 0)) <;> rfl
def run_i_areNumbers : List PV → Option (Bool × List TR)
  | [.v (.int .i64 p), .s listn (.ints listl)] => some (lenB listn 1 listl, enc_b (i_areNumbers p listl))
  | _ => none
theorem sound_i_areNumbers : Sound Try.prog 64 run_i_areNumbers := by
  refine sound_of de_b SO_i_areNumbers (by kernel_rfl) Try.func64 Try.ntmps64 rfl (by kernel_rfl) ?_
  intro W pvs avs rs hargs hrun
  unfold run_i_areNumbers at hrun
  split at hrun
  · simp only [Option.some.injEq, Prod.mk.injEq] at hrun
    obtain ⟨hp, rfl⟩ := hrun
    rename_i p listn listl
    exact ⟨_, _, _, hargs, rfl, (eq_i_areNumbers _ p listn listl).trans (tot_i_areNumbers p listn listl hp)⟩
  · cases hrun

def S_i_isConic : Sums := ⟨tblS [(64, run_i_areNumbers)], tblM []⟩
theorem SO_i_isConic : SumsOK Try.prog S_i_isConic := ⟨tblS_ok ⟨⟨Try.call64, sound_i_areNumbers⟩, True.intro⟩, tblM_ok True.intro⟩
def Fo_i_isConic (p : Int) (k : Int × Int × Int × Int × Int × Int) : Option (Bool) :=
  (if (!(i_areNumbers p [k.1, k.2.1, k.2.2.1, k.2.2.2.1, k.2.2.2.2.1, k.2.2.2.2.2])) = true then some false else (if (k.1 != 0) = true then some (k.1 == 1) else (if (k.2.1 != 0) = true then some (k.2.1 == 1) else (if (k.2.2.1 != 0) = true then some (k.2.2.1 == 1) else some false))))
theorem eq_i_isConic (p : Int) (k : Int × Int × Int × Int × Int × Int) : execT Try.prog S_i_isConic 52 22 (fun _ => 1000000) dec_b [.v (.int .i64 p), .v (.agg ⟨[.int .i64 k.1, .int .i64 k.2.1, .int .i64 k.2.2.1, .int .i64 k.2.2.2.1, .int .i64 k.2.2.2.2.1, .int .i64 k.2.2.2.2.2]⟩)] = Fo_i_isConic p k := by
  kernel_rfl
def i_isConic (p : Int) (k : Int × Int × Int × Int × Int × Int) : Bool :=
  (if (!(i_areNumbers p [k.1, k.2.1, k.2.2.1, k.2.2.2.1, k.2.2.2.2.1, k.2.2.2.2.2])) = true then false else (if (k.1 != 0) = true then k.1 == 1 else (if (k.2.1 != 0) = true then k.2.1 == 1 else (if (k.2.2.1 != 0) = true then k.2.2.1 == 1 else false))))
theorem tot_i_isConic (p : Int) (k : Int × Int × Int × Int × Int × Int) : Fo_i_isConic p k = some (i_isConic p k) := by
  unfold Fo_i_isConic i_isConic
  (try simp only [wI_eq])
  repeat' (first | with_reducible rfl | refine ite_opt (fun _ => ?_) (fun _ => ?_) | rfl)
def run_i_isConic : List PV → Option (Bool × List TR)
  | [.v (.int .i64 p), .v (.agg ⟨[.int .i64 k0, .int .i64 k1, .int .i64 k2, .int .i64 k3, .int .i64 k4, .int .i64 k5]⟩)] => some (true, enc_b (i_isConic p (k0, k1, k2, k3, k4, k5)))
  | _ => none
theorem sound_i_isConic : Sound Try.prog 52 run_i_isConic := by
  refine sound_of de_b SO_i_isConic (by kernel_rfl) Try.func52 Try.ntmps52 rfl (by kernel_rfl) ?_
  intro W pvs avs rs hargs hrun
  unfold run_i_isConic at hrun
  split at hrun
  · simp only [Option.some.injEq, Prod.mk.injEq] at hrun
    obtain ⟨hp, rfl⟩ := hrun
    rename_i p k0 k1 k2 k3 k4 k5
    exact ⟨_, _, _, hargs, rfl, (eq_i_isConic p (k0, k1, k2, k3, k4, k5)).trans (tot_i_isConic p (k0, k1, k2, k3, k4, k5))⟩
  · cases hrun

def S_s_l01In : Sums := ⟨tblS [], tblM []⟩
theorem SO_s_l01In : SumsOK Try.prog S_s_l01In := ⟨tblS_ok True.intro, tblM_ok True.intro⟩
def Fo_s_l01In (n_ : Int) (low : Int) (high : Int) : Option (Bool) :=
  (if (decide (n_ ≥ low)) = true then some (decide (n_ ≤ high)) else some false)
theorem eq_s_l01In (n_ : Int) (low : Int) (high : Int) : execT Try.prog S_s_l01In 104 15 (fun _ => 1000000) dec_b [.v (.int .i64 n_), .v (.int .i64 low), .v (.int .i64 high)] = Fo_s_l01In n_ low high := by
  kernel_rfl
def s_l01In (n_ : Int) (low : Int) (high : Int) : Bool :=
  (if (decide (n_ ≥ low)) = true then decide (n_ ≤ high) else false)
theorem tot_s_l01In (n_ : Int) (low : Int) (high : Int) : Fo_s_l01In n_ low high = some (s_l01In n_ low high) := by
  unfold Fo_s_l01In s_l01In
  (try simp only [wI_eq])
  repeat' (first | with_reducible rfl | refine ite_opt (fun _ => ?_) (fun _ => ?_) | rfl)
def run_s_l01In : List PV → Option (Bool × List TR)
  | [.v (.int .i64 n_), .v (.int .i64 low), .v (.int .i64 high)] => some (true, enc_b (s_l01In n_ low high))
  | _ => none
theorem sound_s_l01In : Sound Try.prog 104 run_s_l01In := by
  refine sound_of de_b SO_s_l01In (by kernel_rfl) Try.func104 Try.ntmps104 rfl (by kernel_rfl) ?_
  intro W pvs avs rs hargs hrun
  unfold run_s_l01In at hrun
  split at hrun
  · simp only [Option.some.injEq, Prod.mk.injEq] at hrun
    obtain ⟨hp, rfl⟩ := hrun
    rename_i n_ low high
    exact ⟨_, _, _, hargs, rfl, (eq_s_l01In n_ low high).trans (tot_s_l01In n_ low high)⟩
  · cases hrun

def S_i_IsField : Sums := ⟨tblS [], tblM []⟩
theorem SO_i_IsField : SumsOK Try.prog S_i_IsField := ⟨tblS_ok True.intro, tblM_ok True.intro⟩
def Fo_i_IsField (p : Int) : Option (Bool) :=
  (if (p == 3) = true then (if (p == 3) = true then some true else some false) else (if (p == 5) = true then (if (p == 5) = true then some true else some false) else (if (p == 7) = true then (if (p == 7) = true then some true else some false) else (if (p == 11) = true then (if (p == 11) = true then some true else some false) else (if (p == 13) = true then (if (p == 13) = true then some true else some false) else (if (p == 17) = true then (if (p == 17) = true then some true else some false) else (if (p == 19) = true then (if (p == 19) = true then some true else some false) else (if (p == 23) = true then (if (p == 23) = true then some true else some false) else (if (p == 29) = true then (if (p == 29) = true then some true else some false) else (if (p == 31) = true then some true else some false))))))))))
theorem eq_i_IsField (p : Int) : execT Try.prog S_i_IsField 51 15 (fun _ => 1000000) dec_b [.v (.int .i64 p)] = Fo_i_IsField p := by
  kernel_rfl
def i_IsField (p : Int) : Bool :=
  (if (p == 3) = true then (if (p == 3) = true then true else false) else (if (p == 5) = true then (if (p == 5) = true then true else false) else (if (p == 7) = true then (if (p == 7) = true then true else false) else (if (p == 11) = true then (if (p == 11) = true then true else false) else (if (p == 13) = true then (if (p == 13) = true then true else false) else (if (p == 17) = true then (if (p == 17) = true then true else false) else (if (p == 19) = true then (if (p == 19) = true then true else false) else (if (p == 23) = true then (if (p == 23) = true then true else false) else (if (p == 29) = true then (if (p == 29) = true then true else false) else (if (p == 31) = true then true else false))))))))))
theorem tot_i_IsField (p : Int) : Fo_i_IsField p = some (i_IsField p) := by
  unfold Fo_i_IsField i_IsField
  (try simp only [wI_eq])
  repeat' (first | with_reducible rfl | refine ite_opt (fun _ => ?_) (fun _ => ?_) | rfl)
def run_i_IsField : List PV → Option (Bool × List TR)
  | [.v (.int .i64 p)] => some (true, enc_b (i_IsField p))
  | _ => none
theorem sound_i_IsField : Sound Try.prog 51 run_i_IsField := by
  refine sound_of de_b SO_i_IsField (by kernel_rfl) Try.func51 Try.ntmps51 rfl (by kernel_rfl) ?_
  intro W pvs avs rs hargs hrun
  unfold run_i_IsField at hrun
  split at hrun
  · simp only [Option.some.injEq, Prod.mk.injEq] at hrun
    obtain ⟨hp, rfl⟩ := hrun
    rename_i p
    exact ⟨_, _, _, hargs, rfl, (eq_i_IsField p).trans (tot_i_IsField p)⟩
  · cases hrun

def dec_i : List TR → Option (Int)
  | [.v (.int .i64 x0)] => some x0
  | _ => none
def enc_i : Int → List TR
  | x0 => [.v (.int .i64 x0)]
theorem de_i (rs : List TR) (x : Int) (h : dec_i rs = some x) : rs = enc_i x := by
  unfold dec_i at h
  split at h
  · simp only [Option.some.injEq] at h
    subst h
    rfl
  · cases h
def clo__b (k : Bool) (h : Bool) : List Value → Option (Bool × Value)
  | [] => some (k, .bool (h))
  | _ => none
theorem clo__b_ok (g : List Value → Option (Bool × Value)) : ∀ args r, clo__b (okV (g [])) (boolV (g [])) args = some (true, r) → g args = some (true, r) := by
  intro args r h
  unfold clo__b at h
  split at h
  · simp only [Option.some.injEq, Prod.mk.injEq] at h
    obtain ⟨h1, rfl⟩ := h
    exact okV_some h1
  · cases h
def S_i_asked : Sums := ⟨tblS [(51, run_i_IsField)], tblM []⟩
theorem SO_i_asked : SumsOK Try.prog S_i_asked := ⟨tblS_ok ⟨⟨Try.call51, sound_i_IsField⟩, True.intro⟩, tblM_ok True.intro⟩
def Fo_i_asked (p : Int) (rightk : Bool) (righth : Bool) : Option (Int) :=
  (if (!(i_IsField p)) = true then some 1 else (if (rightk) = true then (if (!righth) = true then some 2 else some 0) else none))
theorem eq_i_asked (p : Int) (rightk : Bool) (righth : Bool) : execT Try.prog S_i_asked 55 11 (fun _ => 1000000) dec_i [.v (.int .i64 p), .f (clo__b rightk righth)] = Fo_i_asked p rightk righth := by
  kernel_rfl
def i_asked (p : Int) (rightk righth : Bool) : Int := if i_IsField p = true then (if righth = true then 0 else 2) else 1
theorem asked_zero {p : Int} {k b : Bool} (h : i_asked p k b = 0) : i_IsField p = true ∧ b = true := by
  unfold i_asked at h
  cases h1 : i_IsField p <;> cases h2 : b <;> simp [h1, h2] at h ⊢
theorem i_IsField_ok {p : Int} (h : i_IsField p = true) : Pr p := by
  unfold Pr; simp [i_IsField] at h; omega
theorem asked_prB {p : Int} {k b : Bool} (h : ¬ (i_asked p k b != 0) = true) : prB p = true := Pr_prB (i_IsField_ok (asked_zero (by simpa using h)).1)
theorem asked_prB0 {p : Int} {k b : Bool} (h : (i_asked p k b == 0) = true) : prB p = true := asked_prB (by simpa using h)
theorem field_prB {p : Int} (h : i_IsField p = true) : prB p = true := Pr_prB (i_IsField_ok h)
theorem field_prB0 {p : Int} (h : ¬ (!(i_IsField p)) = true) : prB p = true := field_prB (by simpa using h)
theorem tot_i_asked (p : Int) (rightk : Bool) (righth : Bool) (hp : (rightk || !(i_IsField p)) = true) : Fo_i_asked p rightk righth = some (i_asked p rightk righth) := by
  unfold Fo_i_asked i_asked
  cases h : i_IsField p <;> cases rightk <;> cases righth <;> simp_all
def run_i_asked : List PV → Option (Bool × List TR)
  | [.v (.int .i64 p), .f rightg] => some ((okV (rightg [])) || !(i_IsField p), enc_i (i_asked p (okV (rightg [])) (boolV (rightg []))))
  | _ => none
theorem sound_i_asked : Sound Try.prog 55 run_i_asked := by
  refine sound_of de_i SO_i_asked (by kernel_rfl) Try.func55 Try.ntmps55 rfl (by kernel_rfl) ?_
  intro W pvs avs rs hargs hrun
  unfold run_i_asked at hrun
  split at hrun
  · simp only [Option.some.injEq, Prod.mk.injEq] at hrun
    obtain ⟨hp, rfl⟩ := hrun
    rename_i p rightg
    have hargs := All2.replace (l1 := [_]) hargs (y := .f (clo__b _ _)) fun b hb => fn_weaken hb (clo__b_ok _)
    exact ⟨_, _, _, hargs, rfl, (eq_i_asked p (okV (rightg [])) (boolV (rightg []))).trans (tot_i_asked p (okV (rightg [])) (boolV (rightg [])) hp)⟩
  · cases hrun

def S_s_l01Field : Sums := ⟨tblS [(104, run_s_l01In)], tblM []⟩
theorem SO_s_l01Field : SumsOK Try.prog S_s_l01Field := ⟨tblS_ok ⟨⟨Try.call104, sound_s_l01In⟩, True.intro⟩, tblM_ok True.intro⟩
def T_s_l01Field_0 (p : Int) (d : Int) : Tab := ⟨[.val (.int .i64 p), .junk, .val (.bool false), .val (.int .i64 d), .val (.int .i64 p), .val (.bool (s_l01In p 3 31)), .val (.bool (!(s_l01In p 3 31))), .junk, .junk, .junk, .junk, .junk, .junk, .junk, .junk, .junk, .junk, .junk], []⟩
def X_s_l01Field_0 (P : Program) (fu : Nat) (p : Int) (f : Nat) (d : Int) : Option (Bool) := loopK (exec P S_s_l01Field 18 (fun _ => fu + 100) (Code.sub [1, 1, 0, 1, 0, 0] (bodyF P 49))) f (T_s_l01Field_0 p d) (kBlock 0 (kSeq (fun s => exec P S_s_l01Field 18 (fun _ => fu + 100) (Code.sub [1, 1, 1] (bodyF P 49)) s (finT P 49 dec_b)) (finT P 49 dec_b)))
def B_s_l01Field_0 (p : Int) (rec0 : Int → Option (Bool)) (d : Int) : Option (Bool) :=
  (if (decide ((wI (d * d)) ≤ p)) = true then (if (!(d == 0)) = true then (if ((p.tmod d) == 0) = true then some false else rec0 (wI (d + 1))) else none) else some true)
def L_s_l01Field_0 (fu : Nat) (p : Int) : Nat → Int → Option (Bool)
  | 0, _ => none
  | f + 1, d => B_s_l01Field_0 p (L_s_l01Field_0 fu p f) d
theorem loop_s_l01Field_0 (fu : Nat) (p : Int) : ∀ (f : Nat) (d : Int), X_s_l01Field_0 Try.prog fu p f d = L_s_l01Field_0 fu p f d := by
  intro f
  induction f with
  | zero => intros; rfl
  | succ f ih =>
    intro d
    have h1 : X_s_l01Field_0 Try.prog fu p (f + 1) d = B_s_l01Field_0 p (X_s_l01Field_0 Try.prog fu p f) d := by kernel_rfl
    have h2 : X_s_l01Field_0 Try.prog fu p f = L_s_l01Field_0 fu p f := by funext d; exact ih d
    rw [h1, h2]
    rfl
def G_s_l01Field (p : Int) (lo0 : Int → Option (Bool)) : Option (Bool) :=
  (if (!(s_l01In p 3 31)) = true then some false else lo0 2)
def Fo_s_l01Field (fu : Nat) (p : Int) : Option (Bool) := G_s_l01Field p (L_s_l01Field_0 fu p (fu + 100))
theorem eqg_s_l01Field (fu : Nat) (p : Int) : execT Try.prog S_s_l01Field 49 18 (fun _ => fu + 100) dec_b [.v (.int .i64 p)] = G_s_l01Field p (L_s_l01Field_0 fu p (fu + 100)) := by
  have h1 : execT Try.prog S_s_l01Field 49 18 (fun _ => fu + 100) dec_b [.v (.int .i64 p)] = G_s_l01Field p (X_s_l01Field_0 Try.prog fu p (fu + 100)) := by kernel_rfl
  have c0 : X_s_l01Field_0 Try.prog fu p (fu + 100) = L_s_l01Field_0 fu p (fu + 100) := by funext d; exact loop_s_l01Field_0 fu p (fu + 100) d
  rw [h1, c0]
theorem eq_s_l01Field (fu : Nat) (p : Int) : execT Try.prog S_s_l01Field 49 18 (fun _ => fu + 100) dec_b [.v (.int .i64 p)] = Fo_s_l01Field fu p := eqg_s_l01Field fu p
def s_l01Field (p : Int) : Bool := i_IsField p
theorem range29 {p : Int} (h3 : 3 ≤ p) (h31 : p ≤ 31) : p = 3 ∨ p = 4 ∨ p = 5 ∨ p = 6 ∨ p = 7 ∨ p = 8 ∨ p = 9 ∨ p = 10 ∨ p = 11 ∨ p = 12 ∨ p = 13 ∨ p = 14 ∨ p = 15 ∨ p = 16 ∨ p = 17 ∨ p = 18 ∨ p = 19 ∨ p = 20 ∨ p = 21 ∨ p = 22 ∨ p = 23 ∨ p = 24 ∨ p = 25 ∨ p = 26 ∨ p = 27 ∨ p = 28 ∨ p = 29 ∨ p = 30 ∨ p = 31 := by omega
theorem tot_s_l01Field (p : Int) : Fo_s_l01Field 40 p = some (s_l01Field p) := by
  by_cases hr : 3 ≤ p ∧ p ≤ 31
  · obtain ⟨h3, h31⟩ := hr
    obtain rfl | rfl | rfl | rfl | rfl | rfl | rfl | rfl | rfl | rfl | rfl | rfl | rfl | rfl | rfl | rfl | rfl | rfl | rfl | rfl | rfl | rfl | rfl | rfl | rfl | rfl | rfl | rfl | rfl := range29 h3 h31
    all_goals kernel_rfl
  · have hin : s_l01In p 3 31 = false := by simp [s_l01In]; omega
    unfold Fo_s_l01Field G_s_l01Field
    rw [hin]
    show some false = some (i_IsField p)
    congr 1
    symm
    simp [i_IsField]; omega
def run_s_l01Field : List PV → Option (Bool × List TR)
  | [.v (.int .i64 p)] => some (true, enc_b (s_l01Field p))
  | _ => none
theorem sound_s_l01Field : Sound Try.prog 49 run_s_l01Field := by
  refine sound_of de_b SO_s_l01Field (by kernel_rfl) Try.func49 Try.ntmps49 rfl (by kernel_rfl) ?_
  intro W pvs avs rs hargs hrun
  unfold run_s_l01Field at hrun
  split at hrun
  · simp only [Option.some.injEq, Prod.mk.injEq] at hrun
    obtain ⟨hp, rfl⟩ := hrun
    rename_i p
    exact ⟨_, _, _, hargs, rfl, (eq_s_l01Field _ p).trans (tot_s_l01Field p)⟩
  · cases hrun

theorem sfield_prB0 {p : Int} (h : ¬ (!(s_l01Field p)) = true) : prB p = true := field_prB0 h
def S_s_l08Is : Sums := ⟨tblS [(104, run_s_l01In)], tblM []⟩
theorem SO_s_l08Is : SumsOK Try.prog S_s_l08Is := ⟨tblS_ok ⟨⟨Try.call104, sound_s_l01In⟩, True.intro⟩, tblM_ok True.intro⟩
def Fo_s_l08Is (p : Int) (k : Int × Int × Int × Int × Int × Int) : Option (Bool) :=
  (if (!(s_l01In k.1 0 (wI (p - 1)))) = true then some false else (if (!(s_l01In k.2.1 0 (wI (p - 1)))) = true then some false else (if (!(s_l01In k.2.2.1 0 (wI (p - 1)))) = true then some false else (if (!(s_l01In k.2.2.2.1 0 (wI (p - 1)))) = true then some false else (if (!(s_l01In k.2.2.2.2.1 0 (wI (p - 1)))) = true then some false else (if (!(s_l01In k.2.2.2.2.2 0 (wI (p - 1)))) = true then some false else (if (k.1 != 0) = true then some (k.1 == 1) else (if (k.2.1 != 0) = true then some (k.2.1 == 1) else (if (k.2.2.1 != 0) = true then some (k.2.2.1 == 1) else some false)))))))))
theorem eq_s_l08Is (p : Int) (k : Int × Int × Int × Int × Int × Int) : execT Try.prog S_s_l08Is 50 30 (fun _ => 1000000) dec_b [.v (.int .i64 p), .v (.agg ⟨[.int .i64 k.1, .int .i64 k.2.1, .int .i64 k.2.2.1, .int .i64 k.2.2.2.1, .int .i64 k.2.2.2.2.1, .int .i64 k.2.2.2.2.2]⟩)] = Fo_s_l08Is p k := by
  kernel_rfl
def s_l08Is (p : Int) (k : Int × Int × Int × Int × Int × Int) : Bool :=
  (if (!(s_l01In k.1 0 (wrap64 (p - 1)))) = true then false else (if (!(s_l01In k.2.1 0 (wrap64 (p - 1)))) = true then false else (if (!(s_l01In k.2.2.1 0 (wrap64 (p - 1)))) = true then false else (if (!(s_l01In k.2.2.2.1 0 (wrap64 (p - 1)))) = true then false else (if (!(s_l01In k.2.2.2.2.1 0 (wrap64 (p - 1)))) = true then false else (if (!(s_l01In k.2.2.2.2.2 0 (wrap64 (p - 1)))) = true then false else (if (k.1 != 0) = true then k.1 == 1 else (if (k.2.1 != 0) = true then k.2.1 == 1 else (if (k.2.2.1 != 0) = true then k.2.2.1 == 1 else false)))))))))
theorem tot_s_l08Is (p : Int) (k : Int × Int × Int × Int × Int × Int) : Fo_s_l08Is p k = some (s_l08Is p k) := by
  unfold Fo_s_l08Is s_l08Is
  (try simp only [wI_eq])
  repeat' (first | with_reducible rfl | refine ite_opt (fun _ => ?_) (fun _ => ?_) | rfl)
def run_s_l08Is : List PV → Option (Bool × List TR)
  | [.v (.int .i64 p), .v (.agg ⟨[.int .i64 k0, .int .i64 k1, .int .i64 k2, .int .i64 k3, .int .i64 k4, .int .i64 k5]⟩)] => some (true, enc_b (s_l08Is p (k0, k1, k2, k3, k4, k5)))
  | _ => none
theorem sound_s_l08Is : Sound Try.prog 50 run_s_l08Is := by
  refine sound_of de_b SO_s_l08Is (by kernel_rfl) Try.func50 Try.ntmps50 rfl (by kernel_rfl) ?_
  intro W pvs avs rs hargs hrun
  unfold run_s_l08Is at hrun
  split at hrun
  · simp only [Option.some.injEq, Prod.mk.injEq] at hrun
    obtain ⟨hp, rfl⟩ := hrun
    rename_i p k0 k1 k2 k3 k4 k5
    exact ⟨_, _, _, hargs, rfl, (eq_s_l08Is p (k0, k1, k2, k3, k4, k5)).trans (tot_s_l08Is p (k0, k1, k2, k3, k4, k5))⟩
  · cases hrun

def S_s_l08Code : Sums := ⟨tblS [(49, run_s_l01Field), (50, run_s_l08Is)], tblM []⟩
theorem SO_s_l08Code : SumsOK Try.prog S_s_l08Code := ⟨tblS_ok ⟨⟨Try.call49, sound_s_l01Field⟩, ⟨Try.call50, sound_s_l08Is⟩, True.intro⟩, tblM_ok True.intro⟩
def Fo_s_l08Code (p : Int) (k : Int × Int × Int × Int × Int × Int) : Option (Int) :=
  (if (!(s_l01Field p)) = true then some 1 else (if (!(s_l08Is p k)) = true then some 2 else some 0))
theorem eq_s_l08Code (p : Int) (k : Int × Int × Int × Int × Int × Int) : execT Try.prog S_s_l08Code 53 14 (fun _ => 1000000) dec_i [.v (.int .i64 p), .v (.agg ⟨[.int .i64 k.1, .int .i64 k.2.1, .int .i64 k.2.2.1, .int .i64 k.2.2.2.1, .int .i64 k.2.2.2.2.1, .int .i64 k.2.2.2.2.2]⟩)] = Fo_s_l08Code p k := by
  kernel_rfl
def s_l08Code (p : Int) (k : Int × Int × Int × Int × Int × Int) : Int :=
  (if (!(s_l01Field p)) = true then 1 else (if (!(s_l08Is p k)) = true then 2 else 0))
theorem tot_s_l08Code (p : Int) (k : Int × Int × Int × Int × Int × Int) : Fo_s_l08Code p k = some (s_l08Code p k) := by
  unfold Fo_s_l08Code s_l08Code
  (try simp only [wI_eq])
  repeat' (first | with_reducible rfl | refine ite_opt (fun _ => ?_) (fun _ => ?_) | rfl)
def run_s_l08Code : List PV → Option (Bool × List TR)
  | [.v (.int .i64 p), .v (.agg ⟨[.int .i64 k0, .int .i64 k1, .int .i64 k2, .int .i64 k3, .int .i64 k4, .int .i64 k5]⟩)] => some (true, enc_i (s_l08Code p (k0, k1, k2, k3, k4, k5)))
  | _ => none
theorem sound_s_l08Code : Sound Try.prog 53 run_s_l08Code := by
  refine sound_of de_i SO_s_l08Code (by kernel_rfl) Try.func53 Try.ntmps53 rfl (by kernel_rfl) ?_
  intro W pvs avs rs hargs hrun
  unfold run_s_l08Code at hrun
  split at hrun
  · simp only [Option.some.injEq, Prod.mk.injEq] at hrun
    obtain ⟨hp, rfl⟩ := hrun
    rename_i p k0 k1 k2 k3 k4 k5
    exact ⟨_, _, _, hargs, rfl, (eq_s_l08Code p (k0, k1, k2, k3, k4, k5)).trans (tot_s_l08Code p (k0, k1, k2, k3, k4, k5))⟩
  · cases hrun

theorem l08Code_prB {p : Int} {k : P6} (h : ¬ (s_l08Code p k != 0) = true) : prB p = true := by
  refine Pr_prB (i_IsField_ok ?_)
  have h : s_l08Code p k = 0 := by simpa using h
  cases hf : i_IsField p
  · simp [s_l08Code, s_l01Field, hf] at h
  · rfl
theorem l08Code_prB0 {p : Int} {k : P6} (h : (s_l08Code p k == 0) = true) : prB p = true := l08Code_prB (by simpa using h)
def S_s_l01Numbers : Sums := ⟨tblS [(49, run_s_l01Field), (104, run_s_l01In)], tblM []⟩
theorem SO_s_l01Numbers : SumsOK Try.prog S_s_l01Numbers := ⟨tblS_ok ⟨⟨Try.call49, sound_s_l01Field⟩, ⟨Try.call104, sound_s_l01In⟩, True.intro⟩, tblM_ok True.intro⟩
def T_s_l01Numbers_0 (p : Int) (listn : Nat) (listl : List Int) (i : Int) : Tab := ⟨[.val (.int .i64 p), .row 4, .junk, .junk, .val (.int .i64 0), .val (.int .i64 i), .val (.int .i64 p), .val (.bool (s_l01Field p)), .val (.bool (!(s_l01Field p))), .junk, .junk, .junk, .junk, .junk, .junk, .junk, .junk, .junk, .junk, .junk, .junk, .junk, .junk], [(4, .ros listn (.ints listl))]⟩
def X_s_l01Numbers_0 (P : Program) (fu : Nat) (p : Int) (listn : Nat) (listl : List Int) (f : Nat) (i : Int) : Option (Int) := loopK (exec P S_s_l01Numbers 23 (fun _ => fu + 100) (Code.sub [1, 1, 0, 1, 0, 0] (bodyF P 61))) f (T_s_l01Numbers_0 p listn listl i) (kBlock 0 (kSeq (fun s => exec P S_s_l01Numbers 23 (fun _ => fu + 100) (Code.sub [1, 1, 1] (bodyF P 61)) s (finT P 61 dec_i)) (finT P 61 dec_i)))
def B_s_l01Numbers_0 (p : Int) (listn : Nat) (listl : List Int) (rec0 : Int → Option (Int)) (i : Int) : Option (Int) :=
  (if (decide (i < ((listn : Nat) : Int))) = true then (if (decide (0 ≤ i) && decide (i < ((listn : Nat) : Int))) = true then (if (Nat.ble (i.toNat * 1 + 1) listl.length) = true then (if (!(s_l01In (listl.getD (i.toNat * 1) 0) 0 (wI (p - 1)))) = true then some 2 else rec0 (wI (i + 1))) else none) else none) else some 0)
def L_s_l01Numbers_0 (fu : Nat) (p : Int) (listn : Nat) (listl : List Int) : Nat → Int → Option (Int)
  | 0, _ => none
  | f + 1, i => B_s_l01Numbers_0 p listn listl (L_s_l01Numbers_0 fu p listn listl f) i
theorem loop_s_l01Numbers_0 (fu : Nat) (p : Int) (listn : Nat) (listl : List Int) : ∀ (f : Nat) (i : Int), X_s_l01Numbers_0 Try.prog fu p listn listl f i = L_s_l01Numbers_0 fu p listn listl f i := by
  intro f
  induction f with
  | zero => intros; rfl
  | succ f ih =>
    intro i
    have h1 : X_s_l01Numbers_0 Try.prog fu p listn listl (f + 1) i = B_s_l01Numbers_0 p listn listl (X_s_l01Numbers_0 Try.prog fu p listn listl f) i := by kernel_rfl
    have h2 : X_s_l01Numbers_0 Try.prog fu p listn listl f = L_s_l01Numbers_0 fu p listn listl f := by funext i; exact ih i
    rw [h1, h2]
    rfl
def G_s_l01Numbers (p : Int) (listn : Nat) (listl : List Int) (lo0 : Int → Option (Int)) : Option (Int) :=
  (if (!(s_l01Field p)) = true then some 1 else lo0 0)
def Fo_s_l01Numbers (fu : Nat) (p : Int) (listn : Nat) (listl : List Int) : Option (Int) := G_s_l01Numbers p listn listl (L_s_l01Numbers_0 fu p listn listl (fu + 100))
theorem eqg_s_l01Numbers (fu : Nat) (p : Int) (listn : Nat) (listl : List Int) : execT Try.prog S_s_l01Numbers 61 23 (fun _ => fu + 100) dec_i [.v (.int .i64 p), .s listn (.ints listl)] = G_s_l01Numbers p listn listl (L_s_l01Numbers_0 fu p listn listl (fu + 100)) := by
  have h1 : execT Try.prog S_s_l01Numbers 61 23 (fun _ => fu + 100) dec_i [.v (.int .i64 p), .s listn (.ints listl)] = G_s_l01Numbers p listn listl (X_s_l01Numbers_0 Try.prog fu p listn listl (fu + 100)) := by kernel_rfl
  have c0 : X_s_l01Numbers_0 Try.prog fu p listn listl (fu + 100) = L_s_l01Numbers_0 fu p listn listl (fu + 100) := by funext i; exact loop_s_l01Numbers_0 fu p listn listl (fu + 100) i
  rw [h1, c0]
theorem eq_s_l01Numbers (fu : Nat) (p : Int) (listn : Nat) (listl : List Int) : execT Try.prog S_s_l01Numbers 61 23 (fun _ => fu + 100) dec_i [.v (.int .i64 p), .s listn (.ints listl)] = Fo_s_l01Numbers fu p listn listl := eqg_s_l01Numbers fu p listn listl
def s_l01Numbers (p : Int) (l : List Int) : Int := if s_l01Field p = true then (if l.all (fun x => s_l01In x 0 (wrap64 (p - 1))) = true then 0 else 2) else 1
theorem l01Numbers_prB {p : Int} {l : List Int} (h : ¬ (s_l01Numbers p l != 0) = true) : prB p = true := by
  refine Pr_prB (i_IsField_ok ?_)
  have h : s_l01Numbers p l = 0 := by simpa using h
  cases hf : i_IsField p
  · simp [s_l01Numbers, s_l01Field, hf] at h
  · rfl
theorem l01Numbers_prB0 {p : Int} {l : List Int} (h : (s_l01Numbers p l == 0) = true) : prB p = true := l01Numbers_prB (by simpa using h)
theorem tot_s_l01Numbers (p : Int) (listn : Nat) (listl : List Int) (hp : (lenB listn 1 listl) = true) : Fo_s_l01Numbers listn p listn listl = some (s_l01Numbers p listl) := by
  obtain ⟨hl, hn⟩ := lenB_ok hp
  have key : ∀ F, listn < F → (L_s_l01Numbers_0 listn p listn listl) F 0 = some (if (List.range listn).all (fun k => (fun x => s_l01In x 0 (wrap64 (p - 1))) (listl.getD (k * 1) 0)) = true then 0 else 2) := by
    intro F hF
    refine scan hF (fun f k hk => ?_) fun f => ?_
    · show B_s_l01Numbers_0 p listn listl ((L_s_l01Numbers_0 listn p listn listl) f) (k : Int) = _
      unfold B_s_l01Numbers_0
      rw [if_pos (by simpa using hk), if_pos (by simpa using hk), if_pos (leb (by rw [hl, Int.toNat_natCast]; omega)), wrap_add1 hk (by omega)]
      first | rfl | (rw [wI_eq]; rfl)
    · show B_s_l01Numbers_0 p listn listl ((L_s_l01Numbers_0 listn p listn listl) f) ((listn : Nat) : Int) = _
      unfold B_s_l01Numbers_0
      rw [if_neg (by simp)]
  unfold Fo_s_l01Numbers G_s_l01Numbers
  show _ = some (if s_l01Field p = true then (if (listl).all (fun x => s_l01In x 0 (wrap64 (p - 1))) = true then 0 else 2) else 1)
  cases hf : s_l01Field p
  · rfl
  · rw [key _ (by omega), all_rows1 listn listl (by omega)]
    rfl
def run_s_l01Numbers : List PV → Option (Bool × List TR)
  | [.v (.int .i64 p), .s listn (.ints listl)] => some (lenB listn 1 listl, enc_i (s_l01Numbers p listl))
  | _ => none
theorem sound_s_l01Numbers : Sound Try.prog 61 run_s_l01Numbers := by
  refine sound_of de_i SO_s_l01Numbers (by kernel_rfl) Try.func61 Try.ntmps61 rfl (by kernel_rfl) ?_
  intro W pvs avs rs hargs hrun
  unfold run_s_l01Numbers at hrun
  split at hrun
  · simp only [Option.some.injEq, Prod.mk.injEq] at hrun
    obtain ⟨hp, rfl⟩ := hrun
    rename_i p listn listl
    exact ⟨_, _, _, hargs, rfl, (eq_s_l01Numbers _ p listn listl).trans (tot_s_l01Numbers p listn listl hp)⟩
  · cases hrun

def S_s_l01Point : Sums := ⟨tblS [(104, run_s_l01In)], tblM []⟩
theorem SO_s_l01Point : SumsOK Try.prog S_s_l01Point := ⟨tblS_ok ⟨⟨Try.call104, sound_s_l01In⟩, True.intro⟩, tblM_ok True.intro⟩
def Fo_s_l01Point (p : Int) (a : Int × Int) : Option (Bool) :=
  (if (s_l01In a.1 0 (wI (p - 1))) = true then some (s_l01In a.2 0 (wI (p - 1))) else some false)
theorem eq_s_l01Point (p : Int) (a : Int × Int) : execT Try.prog S_s_l01Point 120 17 (fun _ => 1000000) dec_b [.v (.int .i64 p), .v (.agg ⟨[.int .i64 a.1, .int .i64 a.2]⟩)] = Fo_s_l01Point p a := by
  kernel_rfl
def s_l01Point (p : Int) (a : Int × Int) : Bool :=
  (if (s_l01In a.1 0 (wrap64 (p - 1))) = true then (s_l01In a.2 0 (wrap64 (p - 1))) else false)
theorem tot_s_l01Point (p : Int) (a : Int × Int) : Fo_s_l01Point p a = some (s_l01Point p a) := by
  unfold Fo_s_l01Point s_l01Point
  (try simp only [wI_eq])
  repeat' (first | with_reducible rfl | refine ite_opt (fun _ => ?_) (fun _ => ?_) | rfl)
def run_s_l01Point : List PV → Option (Bool × List TR)
  | [.v (.int .i64 p), .v (.agg ⟨[.int .i64 a0, .int .i64 a1]⟩)] => some (true, enc_b (s_l01Point p (a0, a1)))
  | _ => none
theorem sound_s_l01Point : Sound Try.prog 120 run_s_l01Point := by
  refine sound_of de_b SO_s_l01Point (by kernel_rfl) Try.func120 Try.ntmps120 rfl (by kernel_rfl) ?_
  intro W pvs avs rs hargs hrun
  unfold run_s_l01Point at hrun
  split at hrun
  · simp only [Option.some.injEq, Prod.mk.injEq] at hrun
    obtain ⟨hp, rfl⟩ := hrun
    rename_i p a0 a1
    exact ⟨_, _, _, hargs, rfl, (eq_s_l01Point p (a0, a1)).trans (tot_s_l01Point p (a0, a1))⟩
  · cases hrun

def S_s_l01Code : Sums := ⟨tblS [(49, run_s_l01Field), (120, run_s_l01Point)], tblM []⟩
theorem SO_s_l01Code : SumsOK Try.prog S_s_l01Code := ⟨tblS_ok ⟨⟨Try.call49, sound_s_l01Field⟩, ⟨Try.call120, sound_s_l01Point⟩, True.intro⟩, tblM_ok True.intro⟩
def T_s_l01Code_0 (p : Int) (pointsn : Nat) (pointsl : List Int) (i : Int) : Tab := ⟨[.val (.int .i64 p), .row 4, .junk, .junk, .val (.int .i64 0), .val (.int .i64 i), .val (.int .i64 p), .val (.bool (s_l01Field p)), .val (.bool (!(s_l01Field p))), .junk, .junk, .junk, .junk, .junk, .junk, .junk, .junk, .junk, .junk, .junk, .junk, .junk], [(4, .ros pointsn (.ints pointsl))]⟩
def X_s_l01Code_0 (P : Program) (fu : Nat) (p : Int) (pointsn : Nat) (pointsl : List Int) (f : Nat) (i : Int) : Option (Int) := loopK (exec P S_s_l01Code 22 (fun _ => fu + 100) (Code.sub [1, 1, 0, 1, 0, 0] (bodyF P 98))) f (T_s_l01Code_0 p pointsn pointsl i) (kBlock 0 (kSeq (fun s => exec P S_s_l01Code 22 (fun _ => fu + 100) (Code.sub [1, 1, 1] (bodyF P 98)) s (finT P 98 dec_i)) (finT P 98 dec_i)))
def B_s_l01Code_0 (p : Int) (pointsn : Nat) (pointsl : List Int) (rec0 : Int → Option (Int)) (i : Int) : Option (Int) :=
  (if (decide (i < ((pointsn : Nat) : Int))) = true then (if (decide (0 ≤ i) && decide (i < ((pointsn : Nat) : Int))) = true then (if (Nat.ble (i.toNat * 2 + 2) pointsl.length) = true then (if (!(s_l01Point p (pointsl.getD (i.toNat * 2 + 0) 0, pointsl.getD (i.toNat * 2 + 1) 0))) = true then some 2 else rec0 (wI (i + 1))) else none) else none) else some 0)
def L_s_l01Code_0 (fu : Nat) (p : Int) (pointsn : Nat) (pointsl : List Int) : Nat → Int → Option (Int)
  | 0, _ => none
  | f + 1, i => B_s_l01Code_0 p pointsn pointsl (L_s_l01Code_0 fu p pointsn pointsl f) i
theorem loop_s_l01Code_0 (fu : Nat) (p : Int) (pointsn : Nat) (pointsl : List Int) : ∀ (f : Nat) (i : Int), X_s_l01Code_0 Try.prog fu p pointsn pointsl f i = L_s_l01Code_0 fu p pointsn pointsl f i := by
  intro f
  induction f with
  | zero => intros; rfl
  | succ f ih =>
    intro i
    have h1 : X_s_l01Code_0 Try.prog fu p pointsn pointsl (f + 1) i = B_s_l01Code_0 p pointsn pointsl (X_s_l01Code_0 Try.prog fu p pointsn pointsl f) i := by kernel_rfl
    have h2 : X_s_l01Code_0 Try.prog fu p pointsn pointsl f = L_s_l01Code_0 fu p pointsn pointsl f := by funext i; exact ih i
    rw [h1, h2]
    rfl
def G_s_l01Code (p : Int) (pointsn : Nat) (pointsl : List Int) (lo0 : Int → Option (Int)) : Option (Int) :=
  (if (!(s_l01Field p)) = true then some 1 else lo0 0)
def Fo_s_l01Code (fu : Nat) (p : Int) (pointsn : Nat) (pointsl : List Int) : Option (Int) := G_s_l01Code p pointsn pointsl (L_s_l01Code_0 fu p pointsn pointsl (fu + 100))
theorem eqg_s_l01Code (fu : Nat) (p : Int) (pointsn : Nat) (pointsl : List Int) : execT Try.prog S_s_l01Code 98 22 (fun _ => fu + 100) dec_i [.v (.int .i64 p), .s pointsn (.ints pointsl)] = G_s_l01Code p pointsn pointsl (L_s_l01Code_0 fu p pointsn pointsl (fu + 100)) := by
  have h1 : execT Try.prog S_s_l01Code 98 22 (fun _ => fu + 100) dec_i [.v (.int .i64 p), .s pointsn (.ints pointsl)] = G_s_l01Code p pointsn pointsl (X_s_l01Code_0 Try.prog fu p pointsn pointsl (fu + 100)) := by kernel_rfl
  have c0 : X_s_l01Code_0 Try.prog fu p pointsn pointsl (fu + 100) = L_s_l01Code_0 fu p pointsn pointsl (fu + 100) := by funext i; exact loop_s_l01Code_0 fu p pointsn pointsl (fu + 100) i
  rw [h1, c0]
theorem eq_s_l01Code (fu : Nat) (p : Int) (pointsn : Nat) (pointsl : List Int) : execT Try.prog S_s_l01Code 98 22 (fun _ => fu + 100) dec_i [.v (.int .i64 p), .s pointsn (.ints pointsl)] = Fo_s_l01Code fu p pointsn pointsl := eqg_s_l01Code fu p pointsn pointsl
def s_l01Code (p : Int) (l : List P2) : Int := if s_l01Field p = true then (if l.all (fun x => s_l01Point p x) = true then 0 else 2) else 1
theorem l01Code_prB {p : Int} {l : List P2} (h : ¬ (s_l01Code p l != 0) = true) : prB p = true := by
  refine Pr_prB (i_IsField_ok ?_)
  have h : s_l01Code p l = 0 := by simpa using h
  cases hf : i_IsField p
  · simp [s_l01Code, s_l01Field, hf] at h
  · rfl
theorem l01Code_prB0 {p : Int} {l : List P2} (h : (s_l01Code p l == 0) = true) : prB p = true := l01Code_prB (by simpa using h)
theorem tot_s_l01Code (p : Int) (pointsn : Nat) (pointsl : List Int) (hp : (lenB pointsn 2 pointsl) = true) : Fo_s_l01Code pointsn p pointsn pointsl = some (s_l01Code p (rows2 pointsn pointsl)) := by
  obtain ⟨hl, hn⟩ := lenB_ok hp
  have key : ∀ F, pointsn < F → (L_s_l01Code_0 pointsn p pointsn pointsl) F 0 = some (if (List.range pointsn).all (fun k => (fun x => s_l01Point p x) (pointsl.getD (k * 2) 0, pointsl.getD (k * 2 + 1) 0)) = true then 0 else 2) := by
    intro F hF
    refine scan hF (fun f k hk => ?_) fun f => ?_
    · show B_s_l01Code_0 p pointsn pointsl ((L_s_l01Code_0 pointsn p pointsn pointsl) f) (k : Int) = _
      unfold B_s_l01Code_0
      rw [if_pos (by simpa using hk), if_pos (by simpa using hk), if_pos (leb (by rw [hl, Int.toNat_natCast]; omega)), wrap_add1 hk (by omega)]
      first | rfl | (rw [wI_eq]; rfl)
    · show B_s_l01Code_0 p pointsn pointsl ((L_s_l01Code_0 pointsn p pointsn pointsl) f) ((pointsn : Nat) : Int) = _
      unfold B_s_l01Code_0
      rw [if_neg (by simp)]
  unfold Fo_s_l01Code G_s_l01Code
  show _ = some (if s_l01Field p = true then (if ((rows2 pointsn pointsl)).all (fun x => s_l01Point p x) = true then 0 else 2) else 1)
  cases hf : s_l01Field p
  · rfl
  · rw [key _ (by omega), all_rows2 pointsn pointsl]
    rfl
def run_s_l01Code : List PV → Option (Bool × List TR)
  | [.v (.int .i64 p), .s pointsn (.ints pointsl)] => some (lenB pointsn 2 pointsl, enc_i (s_l01Code p (rows2 pointsn pointsl)))
  | _ => none
theorem sound_s_l01Code : Sound Try.prog 98 run_s_l01Code := by
  refine sound_of de_i SO_s_l01Code (by kernel_rfl) Try.func98 Try.ntmps98 rfl (by kernel_rfl) ?_
  intro W pvs avs rs hargs hrun
  unfold run_s_l01Code at hrun
  split at hrun
  · simp only [Option.some.injEq, Prod.mk.injEq] at hrun
    obtain ⟨hp, rfl⟩ := hrun
    rename_i p pointsn pointsl
    exact ⟨_, _, _, hargs, rfl, (eq_s_l01Code _ p pointsn pointsl).trans (tot_s_l01Code p pointsn pointsl hp)⟩
  · cases hrun

def S_s_l08Given : Sums := ⟨tblS [(53, run_s_l08Code), (98, run_s_l01Code)], tblM []⟩
theorem SO_s_l08Given : SumsOK Try.prog S_s_l08Given := ⟨tblS_ok ⟨⟨Try.call53, sound_s_l08Code⟩, ⟨Try.call98, sound_s_l01Code⟩, True.intro⟩, tblM_ok True.intro⟩
def Fo_s_l08Given (p : Int) (k : Int × Int × Int × Int × Int × Int) (a : Int × Int) : Option (Int) :=
  (if ((s_l08Code p k) == 0) = true then some (s_l01Code p [a]) else some (s_l08Code p k))
theorem eq_s_l08Given (p : Int) (k : Int × Int × Int × Int × Int × Int) (a : Int × Int) : execT Try.prog S_s_l08Given 71 18 (fun _ => 1000000) dec_i [.v (.int .i64 p), .v (.agg ⟨[.int .i64 k.1, .int .i64 k.2.1, .int .i64 k.2.2.1, .int .i64 k.2.2.2.1, .int .i64 k.2.2.2.2.1, .int .i64 k.2.2.2.2.2]⟩), .v (.agg ⟨[.int .i64 a.1, .int .i64 a.2]⟩)] = Fo_s_l08Given p k a := by
  kernel_rfl
def s_l08Given (p : Int) (k : Int × Int × Int × Int × Int × Int) (a : Int × Int) : Int :=
  (if ((s_l08Code p k) == 0) = true then (s_l01Code p [a]) else (s_l08Code p k))
theorem tot_s_l08Given (p : Int) (k : Int × Int × Int × Int × Int × Int) (a : Int × Int) : Fo_s_l08Given p k a = some (s_l08Given p k a) := by
  unfold Fo_s_l08Given s_l08Given
  (try simp only [wI_eq])
  repeat' (first | with_reducible rfl | refine ite_opt (fun _ => ?_) (fun _ => ?_) | rfl)
def run_s_l08Given : List PV → Option (Bool × List TR)
  | [.v (.int .i64 p), .v (.agg ⟨[.int .i64 k0, .int .i64 k1, .int .i64 k2, .int .i64 k3, .int .i64 k4, .int .i64 k5]⟩), .v (.agg ⟨[.int .i64 a0, .int .i64 a1]⟩)] => some (true, enc_i (s_l08Given p (k0, k1, k2, k3, k4, k5) (a0, a1)))
  | _ => none
theorem sound_s_l08Given : Sound Try.prog 71 run_s_l08Given := by
  refine sound_of de_i SO_s_l08Given (by kernel_rfl) Try.func71 Try.ntmps71 rfl (by kernel_rfl) ?_
  intro W pvs avs rs hargs hrun
  unfold run_s_l08Given at hrun
  split at hrun
  · simp only [Option.some.injEq, Prod.mk.injEq] at hrun
    obtain ⟨hp, rfl⟩ := hrun
    rename_i p k0 k1 k2 k3 k4 k5 a0 a1
    exact ⟨_, _, _, hargs, rfl, (eq_s_l08Given p (k0, k1, k2, k3, k4, k5) (a0, a1)).trans (tot_s_l08Given p (k0, k1, k2, k3, k4, k5) (a0, a1))⟩
  · cases hrun

theorem l08Given_prB {p : Int} {k : P6} {a : P2} (h : ¬ (s_l08Given p k a != 0) = true) : prB p = true := by
  refine Pr_prB (i_IsField_ok ?_)
  have h : s_l08Given p k a = 0 := by simpa using h
  cases hf : i_IsField p
  · simp [s_l08Given, s_l08Code, s_l01Field, hf] at h
  · rfl
theorem l08Given_prB0 {p : Int} {k : P6} {a : P2} (h : (s_l08Given p k a == 0) = true) : prB p = true := l08Given_prB (by simpa using h)
def S_s_l01Mod : Sums := ⟨tblS [], tblM []⟩
theorem SO_s_l01Mod : SumsOK Try.prog S_s_l01Mod := ⟨tblS_ok True.intro, tblM_ok True.intro⟩
def Fo_s_l01Mod (x : Int) (p : Int) : Option (Int) :=
  (if (!(p == 0)) = true then (if (!(p == 0)) = true then some ((wI ((x.tmod p) + p)).tmod p) else none) else none)
theorem eq_s_l01Mod (x : Int) (p : Int) : execT Try.prog S_s_l01Mod 89 12 (fun _ => 1000000) dec_i [.v (.int .i64 x), .v (.int .i64 p)] = Fo_s_l01Mod x p := by
  kernel_rfl
def s_l01Mod (x p : Int) : Int := x % p
theorem tot_s_l01Mod (x : Int) (p : Int) (hp : (prB p) = true) : Fo_s_l01Mod x p = some (s_l01Mod x p) := by
  have h0 := prB_ne hp
  unfold Fo_s_l01Mod s_l01Mod
  simp only [h0, if_true, wI_eq]
  rw [rest_raw hp]
def run_s_l01Mod : List PV → Option (Bool × List TR)
  | [.v (.int .i64 x), .v (.int .i64 p)] => some (prB p, enc_i (s_l01Mod x p))
  | _ => none
theorem sound_s_l01Mod : Sound Try.prog 89 run_s_l01Mod := by
  refine sound_of de_i SO_s_l01Mod (by kernel_rfl) Try.func89 Try.ntmps89 rfl (by kernel_rfl) ?_
  intro W pvs avs rs hargs hrun
  unfold run_s_l01Mod at hrun
  split at hrun
  · simp only [Option.some.injEq, Prod.mk.injEq] at hrun
    obtain ⟨hp, rfl⟩ := hrun
    rename_i x p
    exact ⟨_, _, _, hargs, rfl, (eq_s_l01Mod x p).trans (tot_s_l01Mod x p hp)⟩
  · cases hrun

def S_s_l01Inverse : Sums := ⟨tblS [(89, run_s_l01Mod)], tblM []⟩
theorem SO_s_l01Inverse : SumsOK Try.prog S_s_l01Inverse := ⟨tblS_ok ⟨⟨Try.call89, sound_s_l01Mod⟩, True.intro⟩, tblM_ok True.intro⟩
def T_s_l01Inverse_0 (a : Int) (p : Int) (out : Int) (base : Int) (k : Int) : Tab := ⟨[.val (.int .i64 a), .val (.int .i64 p), .junk, .junk, .val (.int .i64 0), .val (.int .i64 out), .val (.int .i64 base), .val (.int .i64 k), .val (.int .i64 a), .val (.int .i64 p), .val (.int .i64 (s_l01Mod a p)), .val (.int .i64 p), .val (.int .i64 (wI (p - 2))), .junk, .junk, .junk, .junk, .junk, .junk, .junk, .junk, .junk, .junk, .junk, .junk, .junk, .junk, .junk, .junk, .junk, .junk], []⟩
def X_s_l01Inverse_0 (P : Program) (fu : Nat) (a : Int) (p : Int) (f : Nat) (out : Int) (base : Int) (k : Int) : Option (Int) := loopK (exec P S_s_l01Inverse 31 (fun _ => fu + 100) (Code.sub [1, 1, 0, 1, 0, 0] (bodyF P 108))) f (T_s_l01Inverse_0 a p out base k) (kBlock 0 (kSeq (fun s => exec P S_s_l01Inverse 31 (fun _ => fu + 100) (Code.sub [1, 1, 1] (bodyF P 108)) s (finT P 108 dec_i)) (finT P 108 dec_i)))
def B_s_l01Inverse_0 (a : Int) (p : Int) (rec0 : Int → Int → Int → Option (Int)) (out : Int) (base : Int) (k : Int) : Option (Int) :=
  (if (decide (k > 0)) = true then (if ((k.tmod 2) == 1) = true then (if (!(p == 0)) = true then (if (!(p == 0)) = true then rec0 ((wI (out * base)).tmod p) ((wI (base * base)).tmod p) (wI (k.tdiv 2)) else none) else none) else (if (!(p == 0)) = true then rec0 out ((wI (base * base)).tmod p) (wI (k.tdiv 2)) else none)) else some out)
def L_s_l01Inverse_0 (fu : Nat) (a : Int) (p : Int) : Nat → Int → Int → Int → Option (Int)
  | 0, _, _, _ => none
  | f + 1, out, base, k => B_s_l01Inverse_0 a p (L_s_l01Inverse_0 fu a p f) out base k
theorem loop_s_l01Inverse_0 (fu : Nat) (a : Int) (p : Int) : ∀ (f : Nat) (out : Int) (base : Int) (k : Int), X_s_l01Inverse_0 Try.prog fu a p f out base k = L_s_l01Inverse_0 fu a p f out base k := by
  intro f
  induction f with
  | zero => intros; rfl
  | succ f ih =>
    intro out base k
    have h1 : X_s_l01Inverse_0 Try.prog fu a p (f + 1) out base k = B_s_l01Inverse_0 a p (X_s_l01Inverse_0 Try.prog fu a p f) out base k := by kernel_rfl
    have h2 : X_s_l01Inverse_0 Try.prog fu a p f = L_s_l01Inverse_0 fu a p f := by funext out base k; exact ih out base k
    rw [h1, h2]
    rfl
def G_s_l01Inverse (a : Int) (p : Int) (lo0 : Int → Int → Int → Option (Int)) : Option (Int) :=
  (if (prB p) = true then lo0 1 (s_l01Mod a p) (wI (p - 2)) else none)
def Fo_s_l01Inverse (fu : Nat) (a : Int) (p : Int) : Option (Int) := G_s_l01Inverse a p (L_s_l01Inverse_0 fu a p (fu + 100))
theorem eqg_s_l01Inverse (fu : Nat) (a : Int) (p : Int) : execT Try.prog S_s_l01Inverse 108 31 (fun _ => fu + 100) dec_i [.v (.int .i64 a), .v (.int .i64 p)] = G_s_l01Inverse a p (L_s_l01Inverse_0 fu a p (fu + 100)) := by
  have h1 : execT Try.prog S_s_l01Inverse 108 31 (fun _ => fu + 100) dec_i [.v (.int .i64 a), .v (.int .i64 p)] = G_s_l01Inverse a p (X_s_l01Inverse_0 Try.prog fu a p (fu + 100)) := by kernel_rfl
  have c0 : X_s_l01Inverse_0 Try.prog fu a p (fu + 100) = L_s_l01Inverse_0 fu a p (fu + 100) := by funext out base k; exact loop_s_l01Inverse_0 fu a p (fu + 100) out base k
  rw [h1, c0]
theorem eq_s_l01Inverse (fu : Nat) (a : Int) (p : Int) : execT Try.prog S_s_l01Inverse 108 31 (fun _ => fu + 100) dec_i [.v (.int .i64 a), .v (.int .i64 p)] = Fo_s_l01Inverse fu a p := eqg_s_l01Inverse fu a p
def powLoop (p : Int) : Nat → Int → Int → Int → Int
  | 0, _, out, _ => out
  | f + 1, k, out, base => if decide (0 < k) = true then powLoop p f (k / 2) (if (k % 2 == 1) = true then (wrap64 (out * base)).tmod p else out) ((wrap64 (base * base)).tmod p) else out
def s_l01Inverse (a p : Int) : Int := powLoop p 5 (p - 2) 1 (s_l01Mod a p)
theorem powLoop_zero (p : Int) (f : Nat) (k out base : Int) (h : ¬ 0 < k) : powLoop p f k out base = out := by
  cases f
  · rfl
  · show (if decide (0 < k) = true then _ else out) = out
    rw [if_neg (by simpa using h)]
theorem pow_walk (fu : Nat) (a p : Int) (hp : prB p = true) : ∀ (f F : Nat) (k out base : Int), k < 2 ^ f → k ≤ 31 → f < F → L_s_l01Inverse_0 fu a p F out base k = some (powLoop p f k out base)
  | f, 0, k, _, _, _, _, h => absurd h (Nat.not_lt_zero f)
  | f, F + 1, k, out, base, h1, h31, hF => by
    show B_s_l01Inverse_0 a p (L_s_l01Inverse_0 fu a p F) out base k = _
    unfold B_s_l01Inverse_0
    by_cases hk : 0 < k
    · obtain ⟨f, rfl⟩ : ∃ g, f = g + 1 := ⟨f - 1, by rcases f with _ | f <;> omega⟩
      have h0 := prB_ne hp
      rw [if_pos (by simp; omega)]
      have e1 : k.tmod 2 = k % 2 := Int.tmod_eq_emod_of_nonneg (by omega)
      have e2 : k.tdiv 2 = k / 2 := Int.tdiv_eq_ediv_of_nonneg (by omega)
      have e3 : wrap64 (k / 2) = k / 2 := by unfold wrap64; omega
      have hh : k / 2 < 2 ^ f := by rw [Int.pow_succ] at h1; omega
      simp only [h0, if_true, wI_eq, e1, e2, e3]
      show _ = some (if decide (0 < k) = true then powLoop p f (k / 2) (if (k % 2 == 1) = true then (wrap64 (out * base)).tmod p else out) ((wrap64 (base * base)).tmod p) else out)
      have hk' : decide (0 < k) = true := by simpa using hk
      rw [hk']
      cases h2 : (k % 2 == 1)
      · exact pow_walk fu a p hp f F (k / 2) _ _ hh (by omega) (by omega)
      · exact pow_walk fu a p hp f F (k / 2) _ _ hh (by omega) (by omega)
    · rw [if_neg (by simp; omega), powLoop_zero p f k out base hk]
theorem tot_s_l01Inverse (a : Int) (p : Int) (hp : (prB p) = true) : Fo_s_l01Inverse 40 a p = some (s_l01Inverse a p) := by
  obtain ⟨h1, h2⟩ := prB_Pr hp
  unfold Fo_s_l01Inverse G_s_l01Inverse
  rw [if_pos hp, wI_eq, show wrap64 (p - 2) = p - 2 from by unfold wrap64; omega]
  exact pow_walk 40 a p hp 5 _ (p - 2) _ _ (by omega) (by omega) (by omega)
def run_s_l01Inverse : List PV → Option (Bool × List TR)
  | [.v (.int .i64 a), .v (.int .i64 p)] => some (prB p, enc_i (s_l01Inverse a p))
  | _ => none
theorem sound_s_l01Inverse : Sound Try.prog 108 run_s_l01Inverse := by
  refine sound_of de_i SO_s_l01Inverse (by kernel_rfl) Try.func108 Try.ntmps108 rfl (by kernel_rfl) ?_
  intro W pvs avs rs hargs hrun
  unfold run_s_l01Inverse at hrun
  split at hrun
  · simp only [Option.some.injEq, Prod.mk.injEq] at hrun
    obtain ⟨hp, rfl⟩ := hrun
    rename_i a p
    exact ⟨_, _, _, hargs, rfl, (eq_s_l01Inverse _ a p).trans (tot_s_l01Inverse a p hp)⟩
  · cases hrun

def dec_a3 : List TR → Option (Int × Int × Int)
  | [.v (.agg ⟨[.int .i64 x0_0, .int .i64 x0_1, .int .i64 x0_2]⟩)] => some (x0_0, x0_1, x0_2)
  | _ => none
def enc_a3 : Int × Int × Int → List TR
  | (x0_0, x0_1, x0_2) => [.v (.agg ⟨[.int .i64 x0_0, .int .i64 x0_1, .int .i64 x0_2]⟩)]
theorem de_a3 (rs : List TR) (x : Int × Int × Int) (h : dec_a3 rs = some x) : rs = enc_a3 x := by
  unfold dec_a3 at h
  split at h
  · simp only [Option.some.injEq] at h
    subst h
    rfl
  · cases h
def S_s_l01Normal : Sums := ⟨tblS [(89, run_s_l01Mod), (108, run_s_l01Inverse)], tblM []⟩
theorem SO_s_l01Normal : SumsOK Try.prog S_s_l01Normal := ⟨tblS_ok ⟨⟨Try.call89, sound_s_l01Mod⟩, ⟨Try.call108, sound_s_l01Inverse⟩, True.intro⟩, tblM_ok True.intro⟩
def Fo_s_l01Normal (p : Int) (a : Int) (b : Int) (c : Int) : Option (Int × Int × Int) :=
  (if (prB p) = true then (if ((s_l01Mod a p) == 0) = true then (if (prB p) = true then (if (prB p) = true then (if (prB p) = true then (if (prB p) = true then (if (prB p) = true then some ((s_l01Mod (wI (a * (s_l01Inverse (s_l01Mod b p) p))) p), (s_l01Mod (wI (b * (s_l01Inverse (s_l01Mod b p) p))) p), (s_l01Mod (wI (c * (s_l01Inverse (s_l01Mod b p) p))) p)) else none) else none) else none) else none) else none) else (if (prB p) = true then (if (prB p) = true then (if (prB p) = true then (if (prB p) = true then some ((s_l01Mod (wI (a * (s_l01Inverse (s_l01Mod a p) p))) p), (s_l01Mod (wI (b * (s_l01Inverse (s_l01Mod a p) p))) p), (s_l01Mod (wI (c * (s_l01Inverse (s_l01Mod a p) p))) p)) else none) else none) else none) else none)) else none)
theorem eq_s_l01Normal (p : Int) (a : Int) (b : Int) (c : Int) : execT Try.prog S_s_l01Normal 77 38 (fun _ => 1000000) dec_a3 [.v (.int .i64 p), .v (.int .i64 a), .v (.int .i64 b), .v (.int .i64 c)] = Fo_s_l01Normal p a b c := by
  kernel_rfl
def s_l01Normal (p : Int) (a : Int) (b : Int) (c : Int) : Int × Int × Int :=
  (if ((s_l01Mod a p) == 0) = true then ((s_l01Mod (wrap64 (a * (s_l01Inverse (s_l01Mod b p) p))) p), (s_l01Mod (wrap64 (b * (s_l01Inverse (s_l01Mod b p) p))) p), (s_l01Mod (wrap64 (c * (s_l01Inverse (s_l01Mod b p) p))) p)) else ((s_l01Mod (wrap64 (a * (s_l01Inverse (s_l01Mod a p) p))) p), (s_l01Mod (wrap64 (b * (s_l01Inverse (s_l01Mod a p) p))) p), (s_l01Mod (wrap64 (c * (s_l01Inverse (s_l01Mod a p) p))) p)))
theorem tot_s_l01Normal (p : Int) (a : Int) (b : Int) (c : Int) (hp : (prB p) = true) : Fo_s_l01Normal p a b c = some (s_l01Normal p a b c) := by
  try have h0 := prB_ne hp
  unfold Fo_s_l01Normal s_l01Normal
  (try simp only [wI_eq])
  repeat' (first | with_reducible rfl | with_reducible refine chk_opt hp ?_ | with_reducible refine chk_opt h0 ?_ | refine chk_opt (and_all hp fun _ => hp) ?_ | refine chk_opt (and_all hp fun _ => rfl) ?_ | refine ite_opt (fun _ => ?_) (fun _ => ?_) | rfl)
def run_s_l01Normal : List PV → Option (Bool × List TR)
  | [.v (.int .i64 p), .v (.int .i64 a), .v (.int .i64 b), .v (.int .i64 c)] => some (prB p, enc_a3 (s_l01Normal p a b c))
  | _ => none
theorem sound_s_l01Normal : Sound Try.prog 77 run_s_l01Normal := by
  refine sound_of de_a3 SO_s_l01Normal (by kernel_rfl) Try.func77 Try.ntmps77 rfl (by kernel_rfl) ?_
  intro W pvs avs rs hargs hrun
  unfold run_s_l01Normal at hrun
  split at hrun
  · simp only [Option.some.injEq, Prod.mk.injEq] at hrun
    obtain ⟨hp, rfl⟩ := hrun
    rename_i p a b c
    exact ⟨_, _, _, hargs, rfl, (eq_s_l01Normal p a b c).trans (tot_s_l01Normal p a b c hp)⟩
  · cases hrun

def dec_a3_b : List TR → Option ((Int × Int × Int) × Bool)
  | [.v (.agg ⟨[.int .i64 x0_0, .int .i64 x0_1, .int .i64 x0_2]⟩), .v (.bool x1)] => some ((x0_0, x0_1, x0_2), x1)
  | _ => none
def enc_a3_b : (Int × Int × Int) × Bool → List TR
  | ((x0_0, x0_1, x0_2), x1) => [.v (.agg ⟨[.int .i64 x0_0, .int .i64 x0_1, .int .i64 x0_2]⟩), .v (.bool x1)]
theorem de_a3_b (rs : List TR) (x : (Int × Int × Int) × Bool) (h : dec_a3_b rs = some x) : rs = enc_a3_b x := by
  unfold dec_a3_b at h
  split at h
  · simp only [Option.some.injEq] at h
    subst h
    rfl
  · cases h
def S_s_l08Polar : Sums := ⟨tblS [(77, run_s_l01Normal)], tblM []⟩
theorem SO_s_l08Polar : SumsOK Try.prog S_s_l08Polar := ⟨tblS_ok ⟨⟨Try.call77, sound_s_l01Normal⟩, True.intro⟩, tblM_ok True.intro⟩
def Fo_s_l08Polar (p : Int) (k : Int × Int × Int × Int × Int × Int) (a : Int × Int) : Option ((Int × Int × Int) × Bool) :=
  (if (!(p == 0)) = true then (if (((wI ((wI ((wI ((wI (2 * k.1)) * a.1)) + (wI (k.2.1 * a.2)))) + k.2.2.2.1)).tmod p) == 0) = true then (if (!(p == 0)) = true then (if (((wI ((wI ((wI (k.2.1 * a.1)) + (wI ((wI (2 * k.2.2.1)) * a.2)))) + k.2.2.2.2.1)).tmod p) == 0) = true then some ((0, 0, 0), false) else (if (!(p == 0)) = true then (if (!(p == 0)) = true then (if (!(p == 0)) = true then (if (prB p) = true then some ((s_l01Normal p ((wI ((wI ((wI ((wI (2 * k.1)) * a.1)) + (wI (k.2.1 * a.2)))) + k.2.2.2.1)).tmod p) ((wI ((wI ((wI (k.2.1 * a.1)) + (wI ((wI (2 * k.2.2.1)) * a.2)))) + k.2.2.2.2.1)).tmod p) ((wI ((wI ((wI (k.2.2.2.1 * a.1)) + (wI (k.2.2.2.2.1 * a.2)))) + (wI (2 * k.2.2.2.2.2)))).tmod p)), true) else none) else none) else none) else none)) else none) else (if (!(p == 0)) = true then (if (!(p == 0)) = true then (if (!(p == 0)) = true then (if (prB p) = true then some ((s_l01Normal p ((wI ((wI ((wI ((wI (2 * k.1)) * a.1)) + (wI (k.2.1 * a.2)))) + k.2.2.2.1)).tmod p) ((wI ((wI ((wI (k.2.1 * a.1)) + (wI ((wI (2 * k.2.2.1)) * a.2)))) + k.2.2.2.2.1)).tmod p) ((wI ((wI ((wI (k.2.2.2.1 * a.1)) + (wI (k.2.2.2.2.1 * a.2)))) + (wI (2 * k.2.2.2.2.2)))).tmod p)), true) else none) else none) else none) else none)) else none)
theorem eq_s_l08Polar (p : Int) (k : Int × Int × Int × Int × Int × Int) (a : Int × Int) : execT Try.prog S_s_l08Polar 72 78 (fun _ => 1000000) dec_a3_b [.v (.int .i64 p), .v (.agg ⟨[.int .i64 k.1, .int .i64 k.2.1, .int .i64 k.2.2.1, .int .i64 k.2.2.2.1, .int .i64 k.2.2.2.2.1, .int .i64 k.2.2.2.2.2]⟩), .v (.agg ⟨[.int .i64 a.1, .int .i64 a.2]⟩)] = Fo_s_l08Polar p k a := by
  kernel_rfl
def s_l08Polar (p : Int) (k : Int × Int × Int × Int × Int × Int) (a : Int × Int) : (Int × Int × Int) × Bool :=
  (if (((wrap64 ((wrap64 ((wrap64 ((wrap64 (2 * k.1)) * a.1)) + (wrap64 (k.2.1 * a.2)))) + k.2.2.2.1)).tmod p) == 0) = true then (if (((wrap64 ((wrap64 ((wrap64 (k.2.1 * a.1)) + (wrap64 ((wrap64 (2 * k.2.2.1)) * a.2)))) + k.2.2.2.2.1)).tmod p) == 0) = true then ((0, 0, 0), false) else ((s_l01Normal p ((wrap64 ((wrap64 ((wrap64 ((wrap64 (2 * k.1)) * a.1)) + (wrap64 (k.2.1 * a.2)))) + k.2.2.2.1)).tmod p) ((wrap64 ((wrap64 ((wrap64 (k.2.1 * a.1)) + (wrap64 ((wrap64 (2 * k.2.2.1)) * a.2)))) + k.2.2.2.2.1)).tmod p) ((wrap64 ((wrap64 ((wrap64 (k.2.2.2.1 * a.1)) + (wrap64 (k.2.2.2.2.1 * a.2)))) + (wrap64 (2 * k.2.2.2.2.2)))).tmod p)), true)) else ((s_l01Normal p ((wrap64 ((wrap64 ((wrap64 ((wrap64 (2 * k.1)) * a.1)) + (wrap64 (k.2.1 * a.2)))) + k.2.2.2.1)).tmod p) ((wrap64 ((wrap64 ((wrap64 (k.2.1 * a.1)) + (wrap64 ((wrap64 (2 * k.2.2.1)) * a.2)))) + k.2.2.2.2.1)).tmod p) ((wrap64 ((wrap64 ((wrap64 (k.2.2.2.1 * a.1)) + (wrap64 (k.2.2.2.2.1 * a.2)))) + (wrap64 (2 * k.2.2.2.2.2)))).tmod p)), true))
theorem tot_s_l08Polar (p : Int) (k : Int × Int × Int × Int × Int × Int) (a : Int × Int) (hp : (prB p) = true) : Fo_s_l08Polar p k a = some (s_l08Polar p k a) := by
  try have h0 := prB_ne hp
  unfold Fo_s_l08Polar s_l08Polar
  (try simp only [wI_eq])
  repeat' (first | with_reducible rfl | with_reducible refine chk_opt hp ?_ | with_reducible refine chk_opt h0 ?_ | refine chk_opt (and_all hp fun _ => hp) ?_ | refine chk_opt (and_all hp fun _ => rfl) ?_ | refine ite_opt (fun _ => ?_) (fun _ => ?_) | rfl)
def run_s_l08Polar : List PV → Option (Bool × List TR)
  | [.v (.int .i64 p), .v (.agg ⟨[.int .i64 k0, .int .i64 k1, .int .i64 k2, .int .i64 k3, .int .i64 k4, .int .i64 k5]⟩), .v (.agg ⟨[.int .i64 a0, .int .i64 a1]⟩)] => some (prB p, enc_a3_b (s_l08Polar p (k0, k1, k2, k3, k4, k5) (a0, a1)))
  | _ => none
theorem sound_s_l08Polar : Sound Try.prog 72 run_s_l08Polar := by
  refine sound_of de_a3_b SO_s_l08Polar (by kernel_rfl) Try.func72 Try.ntmps72 rfl (by kernel_rfl) ?_
  intro W pvs avs rs hargs hrun
  unfold run_s_l08Polar at hrun
  split at hrun
  · simp only [Option.some.injEq, Prod.mk.injEq] at hrun
    obtain ⟨hp, rfl⟩ := hrun
    rename_i p k0 k1 k2 k3 k4 k5 a0 a1
    exact ⟨_, _, _, hargs, rfl, (eq_s_l08Polar p (k0, k1, k2, k3, k4, k5) (a0, a1)).trans (tot_s_l08Polar p (k0, k1, k2, k3, k4, k5) (a0, a1) hp)⟩
  · cases hrun

def S_i_rest : Sums := ⟨tblS [], tblM []⟩
theorem SO_i_rest : SumsOK Try.prog S_i_rest := ⟨tblS_ok True.intro, tblM_ok True.intro⟩
def Fo_i_rest (p : Int) (x : Int) : Option (Int) :=
  (if (!(p == 0)) = true then (if (!(p == 0)) = true then some ((wI ((x.tmod p) + p)).tmod p) else none) else none)
theorem eq_i_rest (p : Int) (x : Int) : execT Try.prog S_i_rest 94 12 (fun _ => 1000000) dec_i [.v (.int .i64 p), .v (.int .i64 x)] = Fo_i_rest p x := by
  kernel_rfl
def i_rest (p x : Int) : Int := x % p
theorem tot_i_rest (p : Int) (x : Int) (hp : (prB p) = true) : Fo_i_rest p x = some (i_rest p x) := by
  have h0 := prB_ne hp
  unfold Fo_i_rest i_rest
  simp only [h0, if_true, wI_eq]
  rw [rest_raw hp]
def run_i_rest : List PV → Option (Bool × List TR)
  | [.v (.int .i64 p), .v (.int .i64 x)] => some (prB p, enc_i (i_rest p x))
  | _ => none
theorem sound_i_rest : Sound Try.prog 94 run_i_rest := by
  refine sound_of de_i SO_i_rest (by kernel_rfl) Try.func94 Try.ntmps94 rfl (by kernel_rfl) ?_
  intro W pvs avs rs hargs hrun
  unfold run_i_rest at hrun
  split at hrun
  · simp only [Option.some.injEq, Prod.mk.injEq] at hrun
    obtain ⟨hp, rfl⟩ := hrun
    rename_i p x
    exact ⟨_, _, _, hargs, rfl, (eq_i_rest p x).trans (tot_i_rest p x hp)⟩
  · cases hrun

def S_i_polar : Sums := ⟨tblS [(94, run_i_rest)], tblM []⟩
theorem SO_i_polar : SumsOK Try.prog S_i_polar := ⟨tblS_ok ⟨⟨Try.call94, sound_i_rest⟩, True.intro⟩, tblM_ok True.intro⟩
def Fo_i_polar (p : Int) (k : Int × Int × Int × Int × Int × Int) (a : Int × Int) : Option (Int × Int × Int) :=
  (if (prB p) = true then (if (prB p) = true then (if (prB p) = true then some ((i_rest p (wI ((wI ((wI ((wI (2 * k.1)) * a.1)) + (wI (k.2.1 * a.2)))) + k.2.2.2.1))), (i_rest p (wI ((wI ((wI (k.2.1 * a.1)) + (wI ((wI (2 * k.2.2.1)) * a.2)))) + k.2.2.2.2.1))), (i_rest p (wI ((wI ((wI (k.2.2.2.1 * a.1)) + (wI (k.2.2.2.2.1 * a.2)))) + (wI (2 * k.2.2.2.2.2)))))) else none) else none) else none)
theorem eq_i_polar (p : Int) (k : Int × Int × Int × Int × Int × Int) (a : Int × Int) : execT Try.prog S_i_polar 80 59 (fun _ => 1000000) dec_a3 [.v (.int .i64 p), .v (.agg ⟨[.int .i64 k.1, .int .i64 k.2.1, .int .i64 k.2.2.1, .int .i64 k.2.2.2.1, .int .i64 k.2.2.2.2.1, .int .i64 k.2.2.2.2.2]⟩), .v (.agg ⟨[.int .i64 a.1, .int .i64 a.2]⟩)] = Fo_i_polar p k a := by
  kernel_rfl
def i_polar (p : Int) (k : Int × Int × Int × Int × Int × Int) (a : Int × Int) : Int × Int × Int :=
  ((i_rest p (wrap64 ((wrap64 ((wrap64 ((wrap64 (2 * k.1)) * a.1)) + (wrap64 (k.2.1 * a.2)))) + k.2.2.2.1))), (i_rest p (wrap64 ((wrap64 ((wrap64 (k.2.1 * a.1)) + (wrap64 ((wrap64 (2 * k.2.2.1)) * a.2)))) + k.2.2.2.2.1))), (i_rest p (wrap64 ((wrap64 ((wrap64 (k.2.2.2.1 * a.1)) + (wrap64 (k.2.2.2.2.1 * a.2)))) + (wrap64 (2 * k.2.2.2.2.2))))))
theorem tot_i_polar (p : Int) (k : Int × Int × Int × Int × Int × Int) (a : Int × Int) (hp : (prB p) = true) : Fo_i_polar p k a = some (i_polar p k a) := by
  try have h0 := prB_ne hp
  unfold Fo_i_polar i_polar
  (try simp only [wI_eq])
  repeat' (first | with_reducible rfl | with_reducible refine chk_opt hp ?_ | with_reducible refine chk_opt h0 ?_ | refine chk_opt (and_all hp fun _ => hp) ?_ | refine chk_opt (and_all hp fun _ => rfl) ?_ | refine ite_opt (fun _ => ?_) (fun _ => ?_) | rfl)
def run_i_polar : List PV → Option (Bool × List TR)
  | [.v (.int .i64 p), .v (.agg ⟨[.int .i64 k0, .int .i64 k1, .int .i64 k2, .int .i64 k3, .int .i64 k4, .int .i64 k5]⟩), .v (.agg ⟨[.int .i64 a0, .int .i64 a1]⟩)] => some (prB p, enc_a3 (i_polar p (k0, k1, k2, k3, k4, k5) (a0, a1)))
  | _ => none
theorem sound_i_polar : Sound Try.prog 80 run_i_polar := by
  refine sound_of de_a3 SO_i_polar (by kernel_rfl) Try.func80 Try.ntmps80 rfl (by kernel_rfl) ?_
  intro W pvs avs rs hargs hrun
  unfold run_i_polar at hrun
  split at hrun
  · simp only [Option.some.injEq, Prod.mk.injEq] at hrun
    obtain ⟨hp, rfl⟩ := hrun
    rename_i p k0 k1 k2 k3 k4 k5 a0 a1
    exact ⟨_, _, _, hargs, rfl, (eq_i_polar p (k0, k1, k2, k3, k4, k5) (a0, a1)).trans (tot_i_polar p (k0, k1, k2, k3, k4, k5) (a0, a1) hp)⟩
  · cases hrun

def S_i_inverse : Sums := ⟨tblS [], tblM []⟩
theorem SO_i_inverse : SumsOK Try.prog S_i_inverse := ⟨tblS_ok True.intro, tblM_ok True.intro⟩
def T_i_inverse_0 (p : Int) (a : Int) (x : Int) : Tab := ⟨[.val (.int .i64 p), .val (.int .i64 a), .junk, .junk, .val (.int .i64 0), .val (.int .i64 x), .junk, .junk, .junk, .junk, .junk, .junk, .junk, .junk, .junk, .junk, .junk, .junk], []⟩
def X_i_inverse_0 (P : Program) (fu : Nat) (p : Int) (a : Int) (f : Nat) (x : Int) : Option (Int) := loopK (exec P S_i_inverse 18 (fun _ => fu + 100) (Code.sub [1, 0, 1, 0, 0] (bodyF P 97))) f (T_i_inverse_0 p a x) (kBlock 0 (kSeq (fun s => exec P S_i_inverse 18 (fun _ => fu + 100) (Code.sub [1, 1] (bodyF P 97)) s (finT P 97 dec_i)) (finT P 97 dec_i)))
def B_i_inverse_0 (p : Int) (a : Int) (rec0 : Int → Option (Int)) (x : Int) : Option (Int) :=
  (if (decide (x < p)) = true then (if (!(p == 0)) = true then (if (((wI (a * x)).tmod p) == 1) = true then some x else rec0 (wI (x + 1))) else none) else some 0)
def L_i_inverse_0 (fu : Nat) (p : Int) (a : Int) : Nat → Int → Option (Int)
  | 0, _ => none
  | f + 1, x => B_i_inverse_0 p a (L_i_inverse_0 fu p a f) x
theorem loop_i_inverse_0 (fu : Nat) (p : Int) (a : Int) : ∀ (f : Nat) (x : Int), X_i_inverse_0 Try.prog fu p a f x = L_i_inverse_0 fu p a f x := by
  intro f
  induction f with
  | zero => intros; rfl
  | succ f ih =>
    intro x
    have h1 : X_i_inverse_0 Try.prog fu p a (f + 1) x = B_i_inverse_0 p a (X_i_inverse_0 Try.prog fu p a f) x := by kernel_rfl
    have h2 : X_i_inverse_0 Try.prog fu p a f = L_i_inverse_0 fu p a f := by funext x; exact ih x
    rw [h1, h2]
    rfl
def G_i_inverse (p : Int) (a : Int) (lo0 : Int → Option (Int)) : Option (Int) :=
  lo0 1
def Fo_i_inverse (fu : Nat) (p : Int) (a : Int) : Option (Int) := G_i_inverse p a (L_i_inverse_0 fu p a (fu + 100))
theorem eqg_i_inverse (fu : Nat) (p : Int) (a : Int) : execT Try.prog S_i_inverse 97 18 (fun _ => fu + 100) dec_i [.v (.int .i64 p), .v (.int .i64 a)] = G_i_inverse p a (L_i_inverse_0 fu p a (fu + 100)) := by
  have h1 : execT Try.prog S_i_inverse 97 18 (fun _ => fu + 100) dec_i [.v (.int .i64 p), .v (.int .i64 a)] = G_i_inverse p a (X_i_inverse_0 Try.prog fu p a (fu + 100)) := by kernel_rfl
  have c0 : X_i_inverse_0 Try.prog fu p a (fu + 100) = L_i_inverse_0 fu p a (fu + 100) := by funext x; exact loop_i_inverse_0 fu p a (fu + 100) x
  rw [h1, c0]
theorem eq_i_inverse (fu : Nat) (p : Int) (a : Int) : execT Try.prog S_i_inverse 97 18 (fun _ => fu + 100) dec_i [.v (.int .i64 p), .v (.int .i64 a)] = Fo_i_inverse fu p a := eqg_i_inverse fu p a
def invLoop (p a : Int) : Nat → Int → Int
  | 0, _ => 0
  | k + 1, x => if ((wrap64 (a * x)).tmod p == 1) = true then x else invLoop p a k (x + 1)
def i_inverse (p a : Int) : Int := invLoop p a (p - 1).toNat 1
theorem inv_walk (fu : Nat) (p a : Int) (hp : prB p = true) : ∀ (k f : Nat) (j : Int), 1 ≤ j → j ≤ p → (p - j).toNat = k → k < f → L_i_inverse_0 fu p a f j = some (invLoop p a k j)
  | k, 0, j, _, _, _, h => absurd h (Nat.not_lt_zero k)
  | 0, f + 1, j, h1, h2, hk, _ => by
    show B_i_inverse_0 p a _ j = _
    unfold B_i_inverse_0
    rw [if_neg (by simp; omega)]; rfl
  | k + 1, f + 1, j, h1, h2, hk, hf => by
    show B_i_inverse_0 p a (L_i_inverse_0 fu p a f) j = _
    unfold B_i_inverse_0
    rw [if_pos (by simp; omega), if_pos (prB_ne hp), wI_eq, wI_eq]
    show _ = some (if ((wrap64 (a * j)).tmod p == 1) = true then j else invLoop p a k (j + 1))
    refine ite_opt (fun _ => rfl) fun _ => ?_
    have h31 := (prB_Pr hp).2
    rw [show wrap64 (j + 1) = j + 1 from by unfold wrap64; omega]
    exact inv_walk fu p a hp k f (j + 1) (by omega) (by omega) (by omega) (by omega)
theorem tot_i_inverse (p : Int) (a : Int) (hp : (prB p) = true) : Fo_i_inverse 40 p a = some (i_inverse p a) := by
  obtain ⟨h1, h2⟩ := prB_Pr hp
  exact inv_walk 40 p a hp _ _ 1 (by omega) (by omega) rfl (by omega)
def run_i_inverse : List PV → Option (Bool × List TR)
  | [.v (.int .i64 p), .v (.int .i64 a)] => some (prB p, enc_i (i_inverse p a))
  | _ => none
theorem sound_i_inverse : Sound Try.prog 97 run_i_inverse := by
  refine sound_of de_i SO_i_inverse (by kernel_rfl) Try.func97 Try.ntmps97 rfl (by kernel_rfl) ?_
  intro W pvs avs rs hargs hrun
  unfold run_i_inverse at hrun
  split at hrun
  · simp only [Option.some.injEq, Prod.mk.injEq] at hrun
    obtain ⟨hp, rfl⟩ := hrun
    rename_i p a
    exact ⟨_, _, _, hargs, rfl, (eq_i_inverse _ p a).trans (tot_i_inverse p a hp)⟩
  · cases hrun

def S_i_divide : Sums := ⟨tblS [(97, run_i_inverse), (94, run_i_rest)], tblM []⟩
theorem SO_i_divide : SumsOK Try.prog S_i_divide := ⟨tblS_ok ⟨⟨Try.call97, sound_i_inverse⟩, ⟨Try.call94, sound_i_rest⟩, True.intro⟩, tblM_ok True.intro⟩
def Fo_i_divide (p : Int) (a : Int) (b : Int) : Option (Int) :=
  (if (prB p) = true then (if (prB p) = true then some (i_rest p (wI (a * (i_inverse p b)))) else none) else none)
theorem eq_i_divide (p : Int) (a : Int) (b : Int) : execT Try.prog S_i_divide 110 14 (fun _ => 1000000) dec_i [.v (.int .i64 p), .v (.int .i64 a), .v (.int .i64 b)] = Fo_i_divide p a b := by
  kernel_rfl
def i_divide (p : Int) (a : Int) (b : Int) : Int :=
  (i_rest p (wrap64 (a * (i_inverse p b))))
theorem tot_i_divide (p : Int) (a : Int) (b : Int) (hp : (prB p) = true) : Fo_i_divide p a b = some (i_divide p a b) := by
  try have h0 := prB_ne hp
  unfold Fo_i_divide i_divide
  (try simp only [wI_eq])
  repeat' (first | with_reducible rfl | with_reducible refine chk_opt hp ?_ | with_reducible refine chk_opt h0 ?_ | refine chk_opt (and_all hp fun _ => hp) ?_ | refine chk_opt (and_all hp fun _ => rfl) ?_ | refine ite_opt (fun _ => ?_) (fun _ => ?_) | rfl)
def run_i_divide : List PV → Option (Bool × List TR)
  | [.v (.int .i64 p), .v (.int .i64 a), .v (.int .i64 b)] => some (prB p, enc_i (i_divide p a b))
  | _ => none
theorem sound_i_divide : Sound Try.prog 110 run_i_divide := by
  refine sound_of de_i SO_i_divide (by kernel_rfl) Try.func110 Try.ntmps110 rfl (by kernel_rfl) ?_
  intro W pvs avs rs hargs hrun
  unfold run_i_divide at hrun
  split at hrun
  · simp only [Option.some.injEq, Prod.mk.injEq] at hrun
    obtain ⟨hp, rfl⟩ := hrun
    rename_i p a b
    exact ⟨_, _, _, hargs, rfl, (eq_i_divide p a b).trans (tot_i_divide p a b hp)⟩
  · cases hrun

def S_i_makeLine : Sums := ⟨tblS [(94, run_i_rest), (110, run_i_divide)], tblM []⟩
theorem SO_i_makeLine : SumsOK Try.prog S_i_makeLine := ⟨tblS_ok ⟨⟨Try.call94, sound_i_rest⟩, ⟨Try.call110, sound_i_divide⟩, True.intro⟩, tblM_ok True.intro⟩
def Fo_i_makeLine (p : Int) (a : Int) (b : Int) (c : Int) : Option (Int × Int × Int) :=
  (if (prB p) = true then (if (prB p) = true then (if (prB p) = true then (if ((i_rest p a) == 0) = true then (if (prB p) = true then (if (prB p) = true then (if (prB p) = true then some ((i_divide p (i_rest p a) (i_rest p b)), (i_divide p (i_rest p b) (i_rest p b)), (i_divide p (i_rest p c) (i_rest p b))) else none) else none) else none) else (if (prB p) = true then (if (prB p) = true then (if (prB p) = true then some ((i_divide p (i_rest p a) (i_rest p a)), (i_divide p (i_rest p b) (i_rest p a)), (i_divide p (i_rest p c) (i_rest p a))) else none) else none) else none)) else none) else none) else none)
theorem eq_i_makeLine (p : Int) (a : Int) (b : Int) (c : Int) : execT Try.prog S_i_makeLine 111 36 (fun _ => 1000000) dec_a3 [.v (.int .i64 p), .v (.int .i64 a), .v (.int .i64 b), .v (.int .i64 c)] = Fo_i_makeLine p a b c := by
  kernel_rfl
def i_makeLine (p : Int) (a : Int) (b : Int) (c : Int) : Int × Int × Int :=
  (if ((i_rest p a) == 0) = true then ((i_divide p (i_rest p a) (i_rest p b)), (i_divide p (i_rest p b) (i_rest p b)), (i_divide p (i_rest p c) (i_rest p b))) else ((i_divide p (i_rest p a) (i_rest p a)), (i_divide p (i_rest p b) (i_rest p a)), (i_divide p (i_rest p c) (i_rest p a))))
theorem tot_i_makeLine (p : Int) (a : Int) (b : Int) (c : Int) (hp : (prB p) = true) : Fo_i_makeLine p a b c = some (i_makeLine p a b c) := by
  try have h0 := prB_ne hp
  unfold Fo_i_makeLine i_makeLine
  (try simp only [wI_eq])
  repeat' (first | with_reducible rfl | with_reducible refine chk_opt hp ?_ | with_reducible refine chk_opt h0 ?_ | refine chk_opt (and_all hp fun _ => hp) ?_ | refine chk_opt (and_all hp fun _ => rfl) ?_ | refine ite_opt (fun _ => ?_) (fun _ => ?_) | rfl)
def run_i_makeLine : List PV → Option (Bool × List TR)
  | [.v (.int .i64 p), .v (.int .i64 a), .v (.int .i64 b), .v (.int .i64 c)] => some (prB p, enc_a3 (i_makeLine p a b c))
  | _ => none
theorem sound_i_makeLine : Sound Try.prog 111 run_i_makeLine := by
  refine sound_of de_a3 SO_i_makeLine (by kernel_rfl) Try.func111 Try.ntmps111 rfl (by kernel_rfl) ?_
  intro W pvs avs rs hargs hrun
  unfold run_i_makeLine at hrun
  split at hrun
  · simp only [Option.some.injEq, Prod.mk.injEq] at hrun
    obtain ⟨hp, rfl⟩ := hrun
    rename_i p a b c
    exact ⟨_, _, _, hargs, rfl, (eq_i_makeLine p a b c).trans (tot_i_makeLine p a b c hp)⟩
  · cases hrun

def S_i_polarLine : Sums := ⟨tblS [(80, run_i_polar), (111, run_i_makeLine)], tblM []⟩
theorem SO_i_polarLine : SumsOK Try.prog S_i_polarLine := ⟨tblS_ok ⟨⟨Try.call80, sound_i_polar⟩, ⟨Try.call111, sound_i_makeLine⟩, True.intro⟩, tblM_ok True.intro⟩
def Fo_i_polarLine (p : Int) (k : Int × Int × Int × Int × Int × Int) (a : Int × Int) : Option ((Int × Int × Int) × Bool) :=
  (if (prB p) = true then (if (((i_polar p k a).1) == 0) = true then (if (((i_polar p k a).2.1) == 0) = true then some ((0, 0, 0), false) else (if (prB p) = true then some ((i_makeLine p ((i_polar p k a).1) ((i_polar p k a).2.1) ((i_polar p k a).2.2)), true) else none)) else (if (prB p) = true then some ((i_makeLine p ((i_polar p k a).1) ((i_polar p k a).2.1) ((i_polar p k a).2.2)), true) else none)) else none)
theorem eq_i_polarLine (p : Int) (k : Int × Int × Int × Int × Int × Int) (a : Int × Int) : execT Try.prog S_i_polarLine 75 30 (fun _ => 1000000) dec_a3_b [.v (.int .i64 p), .v (.agg ⟨[.int .i64 k.1, .int .i64 k.2.1, .int .i64 k.2.2.1, .int .i64 k.2.2.2.1, .int .i64 k.2.2.2.2.1, .int .i64 k.2.2.2.2.2]⟩), .v (.agg ⟨[.int .i64 a.1, .int .i64 a.2]⟩)] = Fo_i_polarLine p k a := by
  kernel_rfl
def i_polarLine (p : Int) (k : Int × Int × Int × Int × Int × Int) (a : Int × Int) : (Int × Int × Int) × Bool :=
  (if (((i_polar p k a).1) == 0) = true then (if (((i_polar p k a).2.1) == 0) = true then ((0, 0, 0), false) else ((i_makeLine p ((i_polar p k a).1) ((i_polar p k a).2.1) ((i_polar p k a).2.2)), true)) else ((i_makeLine p ((i_polar p k a).1) ((i_polar p k a).2.1) ((i_polar p k a).2.2)), true))
theorem tot_i_polarLine (p : Int) (k : Int × Int × Int × Int × Int × Int) (a : Int × Int) (hp : (prB p) = true) : Fo_i_polarLine p k a = some (i_polarLine p k a) := by
  try have h0 := prB_ne hp
  unfold Fo_i_polarLine i_polarLine
  (try simp only [wI_eq])
  repeat' (first | with_reducible rfl | with_reducible refine chk_opt hp ?_ | with_reducible refine chk_opt h0 ?_ | refine chk_opt (and_all hp fun _ => hp) ?_ | refine chk_opt (and_all hp fun _ => rfl) ?_ | refine ite_opt (fun _ => ?_) (fun _ => ?_) | rfl)
def run_i_polarLine : List PV → Option (Bool × List TR)
  | [.v (.int .i64 p), .v (.agg ⟨[.int .i64 k0, .int .i64 k1, .int .i64 k2, .int .i64 k3, .int .i64 k4, .int .i64 k5]⟩), .v (.agg ⟨[.int .i64 a0, .int .i64 a1]⟩)] => some (prB p, enc_a3_b (i_polarLine p (k0, k1, k2, k3, k4, k5) (a0, a1)))
  | _ => none
theorem sound_i_polarLine : Sound Try.prog 75 run_i_polarLine := by
  refine sound_of de_a3_b SO_i_polarLine (by kernel_rfl) Try.func75 Try.ntmps75 rfl (by kernel_rfl) ?_
  intro W pvs avs rs hargs hrun
  unfold run_i_polarLine at hrun
  split at hrun
  · simp only [Option.some.injEq, Prod.mk.injEq] at hrun
    obtain ⟨hp, rfl⟩ := hrun
    rename_i p k0 k1 k2 k3 k4 k5 a0 a1
    exact ⟨_, _, _, hargs, rfl, (eq_i_polarLine p (k0, k1, k2, k3, k4, k5) (a0, a1)).trans (tot_i_polarLine p (k0, k1, k2, k3, k4, k5) (a0, a1) hp)⟩
  · cases hrun

def S_i_threeBy : Sums := ⟨tblS [(94, run_i_rest)], tblM []⟩
theorem SO_i_threeBy : SumsOK Try.prog S_i_threeBy := ⟨tblS_ok ⟨⟨Try.call94, sound_i_rest⟩, True.intro⟩, tblM_ok True.intro⟩
def Fo_i_threeBy (p : Int) (a : Int × Int × Int) (b : Int × Int × Int) (c : Int × Int × Int) : Option (Int) :=
  (if (prB p) = true then (if (prB p) = true then (if (prB p) = true then (if (prB p) = true then some (i_rest p (wI ((wI ((wI (a.1 * (i_rest p (wI ((wI (b.2.1 * c.2.2)) - (wI (b.2.2 * c.2.1))))))) + (wI (a.2.1 * (i_rest p (wI ((wI (b.2.2 * c.1)) - (wI (b.1 * c.2.2))))))))) + (wI (a.2.2 * (i_rest p (wI ((wI (b.1 * c.2.1)) - (wI (b.2.1 * c.1)))))))))) else none) else none) else none) else none)
theorem eq_i_threeBy (p : Int) (a : Int × Int × Int) (b : Int × Int × Int) (c : Int × Int × Int) : execT Try.prog S_i_threeBy 105 67 (fun _ => 1000000) dec_i [.v (.int .i64 p), .v (.agg ⟨[.int .i64 a.1, .int .i64 a.2.1, .int .i64 a.2.2]⟩), .v (.agg ⟨[.int .i64 b.1, .int .i64 b.2.1, .int .i64 b.2.2]⟩), .v (.agg ⟨[.int .i64 c.1, .int .i64 c.2.1, .int .i64 c.2.2]⟩)] = Fo_i_threeBy p a b c := by
  kernel_rfl
def i_threeBy (p : Int) (a : Int × Int × Int) (b : Int × Int × Int) (c : Int × Int × Int) : Int :=
  (i_rest p (wrap64 ((wrap64 ((wrap64 (a.1 * (i_rest p (wrap64 ((wrap64 (b.2.1 * c.2.2)) - (wrap64 (b.2.2 * c.2.1))))))) + (wrap64 (a.2.1 * (i_rest p (wrap64 ((wrap64 (b.2.2 * c.1)) - (wrap64 (b.1 * c.2.2))))))))) + (wrap64 (a.2.2 * (i_rest p (wrap64 ((wrap64 (b.1 * c.2.1)) - (wrap64 (b.2.1 * c.1))))))))))
theorem tot_i_threeBy (p : Int) (a : Int × Int × Int) (b : Int × Int × Int) (c : Int × Int × Int) (hp : (prB p) = true) : Fo_i_threeBy p a b c = some (i_threeBy p a b c) := by
  try have h0 := prB_ne hp
  unfold Fo_i_threeBy i_threeBy
  (try simp only [wI_eq])
  repeat' (first | with_reducible rfl | with_reducible refine chk_opt hp ?_ | with_reducible refine chk_opt h0 ?_ | refine chk_opt (and_all hp fun _ => hp) ?_ | refine chk_opt (and_all hp fun _ => rfl) ?_ | refine ite_opt (fun _ => ?_) (fun _ => ?_) | rfl)
def run_i_threeBy : List PV → Option (Bool × List TR)
  | [.v (.int .i64 p), .v (.agg ⟨[.int .i64 a0, .int .i64 a1, .int .i64 a2]⟩), .v (.agg ⟨[.int .i64 b0, .int .i64 b1, .int .i64 b2]⟩), .v (.agg ⟨[.int .i64 c0, .int .i64 c1, .int .i64 c2]⟩)] => some (prB p, enc_i (i_threeBy p (a0, a1, a2) (b0, b1, b2) (c0, c1, c2)))
  | _ => none
theorem sound_i_threeBy : Sound Try.prog 105 run_i_threeBy := by
  refine sound_of de_i SO_i_threeBy (by kernel_rfl) Try.func105 Try.ntmps105 rfl (by kernel_rfl) ?_
  intro W pvs avs rs hargs hrun
  unfold run_i_threeBy at hrun
  split at hrun
  · simp only [Option.some.injEq, Prod.mk.injEq] at hrun
    obtain ⟨hp, rfl⟩ := hrun
    rename_i p a0 a1 a2 b0 b1 b2 c0 c1 c2
    exact ⟨_, _, _, hargs, rfl, (eq_i_threeBy p (a0, a1, a2) (b0, b1, b2) (c0, c1, c2)).trans (tot_i_threeBy p (a0, a1, a2) (b0, b1, b2) (c0, c1, c2) hp)⟩
  · cases hrun

def S_i_determinant : Sums := ⟨tblS [(105, run_i_threeBy)], tblM []⟩
theorem SO_i_determinant : SumsOK Try.prog S_i_determinant := ⟨tblS_ok ⟨⟨Try.call105, sound_i_threeBy⟩, True.intro⟩, tblM_ok True.intro⟩
def Fo_i_determinant (p : Int) (k : Int × Int × Int × Int × Int × Int) : Option (Int) :=
  (if (prB p) = true then some (i_threeBy p (wI (2 * k.1), k.2.1, k.2.2.2.1) (k.2.1, wI (2 * k.2.2.1), k.2.2.2.2.1) (k.2.2.2.1, k.2.2.2.2.1, wI (2 * k.2.2.2.2.2))) else none)
theorem eq_i_determinant (p : Int) (k : Int × Int × Int × Int × Int × Int) : execT Try.prog S_i_determinant 57 31 (fun _ => 1000000) dec_i [.v (.int .i64 p), .v (.agg ⟨[.int .i64 k.1, .int .i64 k.2.1, .int .i64 k.2.2.1, .int .i64 k.2.2.2.1, .int .i64 k.2.2.2.2.1, .int .i64 k.2.2.2.2.2]⟩)] = Fo_i_determinant p k := by
  kernel_rfl
def i_determinant (p : Int) (k : Int × Int × Int × Int × Int × Int) : Int :=
  (i_threeBy p (wrap64 (2 * k.1), k.2.1, k.2.2.2.1) (k.2.1, wrap64 (2 * k.2.2.1), k.2.2.2.2.1) (k.2.2.2.1, k.2.2.2.2.1, wrap64 (2 * k.2.2.2.2.2)))
theorem tot_i_determinant (p : Int) (k : Int × Int × Int × Int × Int × Int) (hp : (prB p) = true) : Fo_i_determinant p k = some (i_determinant p k) := by
  try have h0 := prB_ne hp
  unfold Fo_i_determinant i_determinant
  (try simp only [wI_eq])
  repeat' (first | with_reducible rfl | with_reducible refine chk_opt hp ?_ | with_reducible refine chk_opt h0 ?_ | refine chk_opt (and_all hp fun _ => hp) ?_ | refine chk_opt (and_all hp fun _ => rfl) ?_ | refine ite_opt (fun _ => ?_) (fun _ => ?_) | rfl)
def run_i_determinant : List PV → Option (Bool × List TR)
  | [.v (.int .i64 p), .v (.agg ⟨[.int .i64 k0, .int .i64 k1, .int .i64 k2, .int .i64 k3, .int .i64 k4, .int .i64 k5]⟩)] => some (prB p, enc_i (i_determinant p (k0, k1, k2, k3, k4, k5)))
  | _ => none
theorem sound_i_determinant : Sound Try.prog 57 run_i_determinant := by
  refine sound_of de_i SO_i_determinant (by kernel_rfl) Try.func57 Try.ntmps57 rfl (by kernel_rfl) ?_
  intro W pvs avs rs hargs hrun
  unfold run_i_determinant at hrun
  split at hrun
  · simp only [Option.some.injEq, Prod.mk.injEq] at hrun
    obtain ⟨hp, rfl⟩ := hrun
    rename_i p k0 k1 k2 k3 k4 k5
    exact ⟨_, _, _, hargs, rfl, (eq_i_determinant p (k0, k1, k2, k3, k4, k5)).trans (tot_i_determinant p (k0, k1, k2, k3, k4, k5) hp)⟩
  · cases hrun

def S_s_l08Determinant : Sums := ⟨tblS [(89, run_s_l01Mod)], tblM []⟩
theorem SO_s_l08Determinant : SumsOK Try.prog S_s_l08Determinant := ⟨tblS_ok ⟨⟨Try.call89, sound_s_l01Mod⟩, True.intro⟩, tblM_ok True.intro⟩
def Fo_s_l08Determinant (p : Int) (k : Int × Int × Int × Int × Int × Int) : Option (Int) :=
  (if (prB p) = true then some (s_l01Mod (wI ((wI ((wI ((wI (2 * k.1)) * (wI ((wI ((wI (2 * k.2.2.1)) * (wI (2 * k.2.2.2.2.2)))) - (wI (k.2.2.2.2.1 * k.2.2.2.2.1)))))) - (wI (k.2.1 * (wI ((wI (k.2.1 * (wI (2 * k.2.2.2.2.2)))) - (wI (k.2.2.2.2.1 * k.2.2.2.1)))))))) + (wI (k.2.2.2.1 * (wI ((wI (k.2.1 * k.2.2.2.2.1)) - (wI ((wI (2 * k.2.2.1)) * k.2.2.2.1)))))))) p) else none)
theorem eq_s_l08Determinant (p : Int) (k : Int × Int × Int × Int × Int × Int) : execT Try.prog S_s_l08Determinant 54 57 (fun _ => 1000000) dec_i [.v (.int .i64 p), .v (.agg ⟨[.int .i64 k.1, .int .i64 k.2.1, .int .i64 k.2.2.1, .int .i64 k.2.2.2.1, .int .i64 k.2.2.2.2.1, .int .i64 k.2.2.2.2.2]⟩)] = Fo_s_l08Determinant p k := by
  kernel_rfl
def s_l08Determinant (p : Int) (k : Int × Int × Int × Int × Int × Int) : Int :=
  (s_l01Mod (wrap64 ((wrap64 ((wrap64 ((wrap64 (2 * k.1)) * (wrap64 ((wrap64 ((wrap64 (2 * k.2.2.1)) * (wrap64 (2 * k.2.2.2.2.2)))) - (wrap64 (k.2.2.2.2.1 * k.2.2.2.2.1)))))) - (wrap64 (k.2.1 * (wrap64 ((wrap64 (k.2.1 * (wrap64 (2 * k.2.2.2.2.2)))) - (wrap64 (k.2.2.2.2.1 * k.2.2.2.1)))))))) + (wrap64 (k.2.2.2.1 * (wrap64 ((wrap64 (k.2.1 * k.2.2.2.2.1)) - (wrap64 ((wrap64 (2 * k.2.2.1)) * k.2.2.2.1)))))))) p)
theorem tot_s_l08Determinant (p : Int) (k : Int × Int × Int × Int × Int × Int) (hp : (prB p) = true) : Fo_s_l08Determinant p k = some (s_l08Determinant p k) := by
  try have h0 := prB_ne hp
  unfold Fo_s_l08Determinant s_l08Determinant
  (try simp only [wI_eq])
  repeat' (first | with_reducible rfl | with_reducible refine chk_opt hp ?_ | with_reducible refine chk_opt h0 ?_ | refine chk_opt (and_all hp fun _ => hp) ?_ | refine chk_opt (and_all hp fun _ => rfl) ?_ | refine ite_opt (fun _ => ?_) (fun _ => ?_) | rfl)
def run_s_l08Determinant : List PV → Option (Bool × List TR)
  | [.v (.int .i64 p), .v (.agg ⟨[.int .i64 k0, .int .i64 k1, .int .i64 k2, .int .i64 k3, .int .i64 k4, .int .i64 k5]⟩)] => some (prB p, enc_i (s_l08Determinant p (k0, k1, k2, k3, k4, k5)))
  | _ => none
theorem sound_s_l08Determinant : Sound Try.prog 54 run_s_l08Determinant := by
  refine sound_of de_i SO_s_l08Determinant (by kernel_rfl) Try.func54 Try.ntmps54 rfl (by kernel_rfl) ?_
  intro W pvs avs rs hargs hrun
  unfold run_s_l08Determinant at hrun
  split at hrun
  · simp only [Option.some.injEq, Prod.mk.injEq] at hrun
    obtain ⟨hp, rfl⟩ := hrun
    rename_i p k0 k1 k2 k3 k4 k5
    exact ⟨_, _, _, hargs, rfl, (eq_s_l08Determinant p (k0, k1, k2, k3, k4, k5)).trans (tot_s_l08Determinant p (k0, k1, k2, k3, k4, k5) hp)⟩
  · cases hrun

def S_s_l08Value : Sums := ⟨tblS [(89, run_s_l01Mod)], tblM []⟩
theorem SO_s_l08Value : SumsOK Try.prog S_s_l08Value := ⟨tblS_ok ⟨⟨Try.call89, sound_s_l01Mod⟩, True.intro⟩, tblM_ok True.intro⟩
def Fo_s_l08Value (p : Int) (k : Int × Int × Int × Int × Int × Int) (a : Int × Int) : Option (Int) :=
  (if (prB p) = true then some (s_l01Mod (wI ((wI ((wI ((wI ((wI ((wI ((wI (k.1 * a.1)) * a.1)) + (wI ((wI (k.2.1 * a.1)) * a.2)))) + (wI ((wI (k.2.2.1 * a.2)) * a.2)))) + (wI (k.2.2.2.1 * a.1)))) + (wI (k.2.2.2.2.1 * a.2)))) + k.2.2.2.2.2)) p) else none)
theorem eq_s_l08Value (p : Int) (k : Int × Int × Int × Int × Int × Int) (a : Int × Int) : execT Try.prog S_s_l08Value 81 48 (fun _ => 1000000) dec_i [.v (.int .i64 p), .v (.agg ⟨[.int .i64 k.1, .int .i64 k.2.1, .int .i64 k.2.2.1, .int .i64 k.2.2.2.1, .int .i64 k.2.2.2.2.1, .int .i64 k.2.2.2.2.2]⟩), .v (.agg ⟨[.int .i64 a.1, .int .i64 a.2]⟩)] = Fo_s_l08Value p k a := by
  kernel_rfl
def s_l08Value (p : Int) (k : Int × Int × Int × Int × Int × Int) (a : Int × Int) : Int :=
  (s_l01Mod (wrap64 ((wrap64 ((wrap64 ((wrap64 ((wrap64 ((wrap64 ((wrap64 (k.1 * a.1)) * a.1)) + (wrap64 ((wrap64 (k.2.1 * a.1)) * a.2)))) + (wrap64 ((wrap64 (k.2.2.1 * a.2)) * a.2)))) + (wrap64 (k.2.2.2.1 * a.1)))) + (wrap64 (k.2.2.2.2.1 * a.2)))) + k.2.2.2.2.2)) p)
theorem tot_s_l08Value (p : Int) (k : Int × Int × Int × Int × Int × Int) (a : Int × Int) (hp : (prB p) = true) : Fo_s_l08Value p k a = some (s_l08Value p k a) := by
  try have h0 := prB_ne hp
  unfold Fo_s_l08Value s_l08Value
  (try simp only [wI_eq])
  repeat' (first | with_reducible rfl | with_reducible refine chk_opt hp ?_ | with_reducible refine chk_opt h0 ?_ | refine chk_opt (and_all hp fun _ => hp) ?_ | refine chk_opt (and_all hp fun _ => rfl) ?_ | refine ite_opt (fun _ => ?_) (fun _ => ?_) | rfl)
def run_s_l08Value : List PV → Option (Bool × List TR)
  | [.v (.int .i64 p), .v (.agg ⟨[.int .i64 k0, .int .i64 k1, .int .i64 k2, .int .i64 k3, .int .i64 k4, .int .i64 k5]⟩), .v (.agg ⟨[.int .i64 a0, .int .i64 a1]⟩)] => some (prB p, enc_i (s_l08Value p (k0, k1, k2, k3, k4, k5) (a0, a1)))
  | _ => none
theorem sound_s_l08Value : Sound Try.prog 81 run_s_l08Value := by
  refine sound_of de_i SO_s_l08Value (by kernel_rfl) Try.func81 Try.ntmps81 rfl (by kernel_rfl) ?_
  intro W pvs avs rs hargs hrun
  unfold run_s_l08Value at hrun
  split at hrun
  · simp only [Option.some.injEq, Prod.mk.injEq] at hrun
    obtain ⟨hp, rfl⟩ := hrun
    rename_i p k0 k1 k2 k3 k4 k5 a0 a1
    exact ⟨_, _, _, hargs, rfl, (eq_s_l08Value p (k0, k1, k2, k3, k4, k5) (a0, a1)).trans (tot_s_l08Value p (k0, k1, k2, k3, k4, k5) (a0, a1) hp)⟩
  · cases hrun

def dec_a6 : List TR → Option (Int × Int × Int × Int × Int × Int)
  | [.v (.agg ⟨[.int .i64 x0_0, .int .i64 x0_1, .int .i64 x0_2, .int .i64 x0_3, .int .i64 x0_4, .int .i64 x0_5]⟩)] => some (x0_0, x0_1, x0_2, x0_3, x0_4, x0_5)
  | _ => none
def enc_a6 : Int × Int × Int × Int × Int × Int → List TR
  | (x0_0, x0_1, x0_2, x0_3, x0_4, x0_5) => [.v (.agg ⟨[.int .i64 x0_0, .int .i64 x0_1, .int .i64 x0_2, .int .i64 x0_3, .int .i64 x0_4, .int .i64 x0_5]⟩)]
theorem de_a6 (rs : List TR) (x : Int × Int × Int × Int × Int × Int) (h : dec_a6 rs = some x) : rs = enc_a6 x := by
  unfold dec_a6 at h
  split at h
  · simp only [Option.some.injEq] at h
    subst h
    rfl
  · cases h
def S_i_row : Sums := ⟨tblS [], tblM []⟩
theorem SO_i_row : SumsOK Try.prog S_i_row := ⟨tblS_ok True.intro, tblM_ok True.intro⟩
def Fo_i_row (p : Int) (a : Int × Int) : Option (Int × Int × Int × Int × Int × Int) :=
  (if (!(p == 0)) = true then (if (!(p == 0)) = true then (if (!(p == 0)) = true then some ((wI (a.1 * a.1)).tmod p, (wI (a.1 * a.2)).tmod p, (wI (a.2 * a.2)).tmod p, a.1, a.2, 1) else none) else none) else none)
theorem eq_i_row (p : Int) (a : Int × Int) : execT Try.prog S_i_row 103 29 (fun _ => 1000000) dec_a6 [.v (.int .i64 p), .v (.agg ⟨[.int .i64 a.1, .int .i64 a.2]⟩)] = Fo_i_row p a := by
  kernel_rfl
def i_row (p : Int) (a : Int × Int) : Int × Int × Int × Int × Int × Int :=
  ((wrap64 (a.1 * a.1)).tmod p, (wrap64 (a.1 * a.2)).tmod p, (wrap64 (a.2 * a.2)).tmod p, a.1, a.2, 1)
theorem tot_i_row (p : Int) (a : Int × Int) (hp : (prB p) = true) : Fo_i_row p a = some (i_row p a) := by
  try have h0 := prB_ne hp
  unfold Fo_i_row i_row
  (try simp only [wI_eq])
  repeat' (first | with_reducible rfl | with_reducible refine chk_opt hp ?_ | with_reducible refine chk_opt h0 ?_ | refine chk_opt (and_all hp fun _ => hp) ?_ | refine chk_opt (and_all hp fun _ => rfl) ?_ | refine ite_opt (fun _ => ?_) (fun _ => ?_) | rfl)
def run_i_row : List PV → Option (Bool × List TR)
  | [.v (.int .i64 p), .v (.agg ⟨[.int .i64 a0, .int .i64 a1]⟩)] => some (prB p, enc_a6 (i_row p (a0, a1)))
  | _ => none
theorem sound_i_row : Sound Try.prog 103 run_i_row := by
  refine sound_of de_a6 SO_i_row (by kernel_rfl) Try.func103 Try.ntmps103 rfl (by kernel_rfl) ?_
  intro W pvs avs rs hargs hrun
  unfold run_i_row at hrun
  split at hrun
  · simp only [Option.some.injEq, Prod.mk.injEq] at hrun
    obtain ⟨hp, rfl⟩ := hrun
    rename_i p a0 a1
    exact ⟨_, _, _, hargs, rfl, (eq_i_row p (a0, a1)).trans (tot_i_row p (a0, a1) hp)⟩
  · cases hrun

def S_i_isOnConic : Sums := ⟨tblS [(103, run_i_row)], tblM []⟩
theorem SO_i_isOnConic : SumsOK Try.prog S_i_isOnConic := ⟨tblS_ok ⟨⟨Try.call103, sound_i_row⟩, True.intro⟩, tblM_ok True.intro⟩
def Fo_i_isOnConic (p : Int) (a : Int × Int) (k : Int × Int × Int × Int × Int × Int) : Option (Bool) :=
  (if (prB p) = true then (if (!(p == 0)) = true then some (((wI ((wI ((wI ((wI ((wI ((wI (0 + (wI (((i_row p a).1) * k.1)))) + (wI (((i_row p a).2.1) * k.2.1)))) + (wI (((i_row p a).2.2.1) * k.2.2.1)))) + (wI (((i_row p a).2.2.2.1) * k.2.2.2.1)))) + (wI (((i_row p a).2.2.2.2.1) * k.2.2.2.2.1)))) + (wI (((i_row p a).2.2.2.2.2) * k.2.2.2.2.2)))).tmod p) == 0) else none) else none)
theorem eq_i_isOnConic (p : Int) (a : Int × Int) (k : Int × Int × Int × Int × Int × Int) : execT Try.prog S_i_isOnConic 70 29 (fun _ => 1000000) dec_b [.v (.int .i64 p), .v (.agg ⟨[.int .i64 a.1, .int .i64 a.2]⟩), .v (.agg ⟨[.int .i64 k.1, .int .i64 k.2.1, .int .i64 k.2.2.1, .int .i64 k.2.2.2.1, .int .i64 k.2.2.2.2.1, .int .i64 k.2.2.2.2.2]⟩)] = Fo_i_isOnConic p a k := by
  kernel_rfl
def i_isOnConic (p : Int) (a : Int × Int) (k : Int × Int × Int × Int × Int × Int) : Bool :=
  ((wrap64 ((wrap64 ((wrap64 ((wrap64 ((wrap64 ((wrap64 (0 + (wrap64 (((i_row p a).1) * k.1)))) + (wrap64 (((i_row p a).2.1) * k.2.1)))) + (wrap64 (((i_row p a).2.2.1) * k.2.2.1)))) + (wrap64 (((i_row p a).2.2.2.1) * k.2.2.2.1)))) + (wrap64 (((i_row p a).2.2.2.2.1) * k.2.2.2.2.1)))) + (wrap64 (((i_row p a).2.2.2.2.2) * k.2.2.2.2.2)))).tmod p) == 0
theorem tot_i_isOnConic (p : Int) (a : Int × Int) (k : Int × Int × Int × Int × Int × Int) (hp : (prB p) = true) : Fo_i_isOnConic p a k = some (i_isOnConic p a k) := by
  try have h0 := prB_ne hp
  unfold Fo_i_isOnConic i_isOnConic
  (try simp only [wI_eq])
  repeat' (first | with_reducible rfl | with_reducible refine chk_opt hp ?_ | with_reducible refine chk_opt h0 ?_ | refine chk_opt (and_all hp fun _ => hp) ?_ | refine chk_opt (and_all hp fun _ => rfl) ?_ | refine ite_opt (fun _ => ?_) (fun _ => ?_) | rfl)
def run_i_isOnConic : List PV → Option (Bool × List TR)
  | [.v (.int .i64 p), .v (.agg ⟨[.int .i64 a0, .int .i64 a1]⟩), .v (.agg ⟨[.int .i64 k0, .int .i64 k1, .int .i64 k2, .int .i64 k3, .int .i64 k4, .int .i64 k5]⟩)] => some (prB p, enc_b (i_isOnConic p (a0, a1) (k0, k1, k2, k3, k4, k5)))
  | _ => none
theorem sound_i_isOnConic : Sound Try.prog 70 run_i_isOnConic := by
  refine sound_of de_b SO_i_isOnConic (by kernel_rfl) Try.func70 Try.ntmps70 rfl (by kernel_rfl) ?_
  intro W pvs avs rs hargs hrun
  unfold run_i_isOnConic at hrun
  split at hrun
  · simp only [Option.some.injEq, Prod.mk.injEq] at hrun
    obtain ⟨hp, rfl⟩ := hrun
    rename_i p a0 a1 k0 k1 k2 k3 k4 k5
    exact ⟨_, _, _, hargs, rfl, (eq_i_isOnConic p (a0, a1) (k0, k1, k2, k3, k4, k5)).trans (tot_i_isOnConic p (a0, a1) (k0, k1, k2, k3, k4, k5) hp)⟩
  · cases hrun

def S_i_isPoint : Sums := ⟨tblS [(64, run_i_areNumbers)], tblM []⟩
theorem SO_i_isPoint : SumsOK Try.prog S_i_isPoint := ⟨tblS_ok ⟨⟨Try.call64, sound_i_areNumbers⟩, True.intro⟩, tblM_ok True.intro⟩
def Fo_i_isPoint (p : Int) (a : Int × Int) : Option (Bool) :=
  some (i_areNumbers p [a.1, a.2])
theorem eq_i_isPoint (p : Int) (a : Int × Int) : execT Try.prog S_i_isPoint 74 8 (fun _ => 1000000) dec_b [.v (.int .i64 p), .v (.agg ⟨[.int .i64 a.1, .int .i64 a.2]⟩)] = Fo_i_isPoint p a := by
  kernel_rfl
def i_isPoint (p : Int) (a : Int × Int) : Bool :=
  (i_areNumbers p [a.1, a.2])
theorem tot_i_isPoint (p : Int) (a : Int × Int) : Fo_i_isPoint p a = some (i_isPoint p a) := by
  unfold Fo_i_isPoint i_isPoint
  (try simp only [wI_eq])
  repeat' (first | with_reducible rfl | refine ite_opt (fun _ => ?_) (fun _ => ?_) | rfl)
def run_i_isPoint : List PV → Option (Bool × List TR)
  | [.v (.int .i64 p), .v (.agg ⟨[.int .i64 a0, .int .i64 a1]⟩)] => some (true, enc_b (i_isPoint p (a0, a1)))
  | _ => none
theorem sound_i_isPoint : Sound Try.prog 74 run_i_isPoint := by
  refine sound_of de_b SO_i_isPoint (by kernel_rfl) Try.func74 Try.ntmps74 rfl (by kernel_rfl) ?_
  intro W pvs avs rs hargs hrun
  unfold run_i_isPoint at hrun
  split at hrun
  · simp only [Option.some.injEq, Prod.mk.injEq] at hrun
    obtain ⟨hp, rfl⟩ := hrun
    rename_i p a0 a1
    exact ⟨_, _, _, hargs, rfl, (eq_i_isPoint p (a0, a1)).trans (tot_i_isPoint p (a0, a1))⟩
  · cases hrun

def S_l_toConic : Sums := ⟨tblS [], tblM []⟩
theorem SO_l_toConic : SumsOK Try.prog S_l_toConic := ⟨tblS_ok True.intro, tblM_ok True.intro⟩
def Fo_l_toConic (a : Int × Int × Int × Int × Int × Int) : Option (Int × Int × Int × Int × Int × Int) :=
  some a
theorem eq_l_toConic (a : Int × Int × Int × Int × Int × Int) : execT Try.prog S_l_toConic 15 15 (fun _ => 1000000) dec_a6 [.v (.agg ⟨[.int .i64 a.1, .int .i64 a.2.1, .int .i64 a.2.2.1, .int .i64 a.2.2.2.1, .int .i64 a.2.2.2.2.1, .int .i64 a.2.2.2.2.2]⟩)] = Fo_l_toConic a := by
  kernel_rfl
def l_toConic (a : Int × Int × Int × Int × Int × Int) : Int × Int × Int × Int × Int × Int :=
  a
theorem tot_l_toConic (a : Int × Int × Int × Int × Int × Int) : Fo_l_toConic a = some (l_toConic a) := by
  unfold Fo_l_toConic l_toConic
  (try simp only [wI_eq])
  repeat' (first | with_reducible rfl | refine ite_opt (fun _ => ?_) (fun _ => ?_) | rfl)
def run_l_toConic : List PV → Option (Bool × List TR)
  | [.v (.agg ⟨[.int .i64 a0, .int .i64 a1, .int .i64 a2, .int .i64 a3, .int .i64 a4, .int .i64 a5]⟩)] => some (true, enc_a6 (l_toConic (a0, a1, a2, a3, a4, a5)))
  | _ => none
theorem sound_l_toConic : Sound Try.prog 15 run_l_toConic := by
  refine sound_of de_a6 SO_l_toConic (by kernel_rfl) Try.func15 Try.ntmps15 rfl (by kernel_rfl) ?_
  intro W pvs avs rs hargs hrun
  unfold run_l_toConic at hrun
  split at hrun
  · simp only [Option.some.injEq, Prod.mk.injEq] at hrun
    obtain ⟨hp, rfl⟩ := hrun
    rename_i a0 a1 a2 a3 a4 a5
    exact ⟨_, _, _, hargs, rfl, (eq_l_toConic (a0, a1, a2, a3, a4, a5)).trans (tot_l_toConic (a0, a1, a2, a3, a4, a5))⟩
  · cases hrun

def dec_a2 : List TR → Option (Int × Int)
  | [.v (.agg ⟨[.int .i64 x0_0, .int .i64 x0_1]⟩)] => some (x0_0, x0_1)
  | _ => none
def enc_a2 : Int × Int → List TR
  | (x0_0, x0_1) => [.v (.agg ⟨[.int .i64 x0_0, .int .i64 x0_1]⟩)]
theorem de_a2 (rs : List TR) (x : Int × Int) (h : dec_a2 rs = some x) : rs = enc_a2 x := by
  unfold dec_a2 at h
  split at h
  · simp only [Option.some.injEq] at h
    subst h
    rfl
  · cases h
def S_l_toPoint : Sums := ⟨tblS [], tblM []⟩
theorem SO_l_toPoint : SumsOK Try.prog S_l_toPoint := ⟨tblS_ok True.intro, tblM_ok True.intro⟩
def Fo_l_toPoint (a : Int × Int) : Option (Int × Int) :=
  some a
theorem eq_l_toPoint (a : Int × Int) : execT Try.prog S_l_toPoint 32 15 (fun _ => 1000000) dec_a2 [.v (.agg ⟨[.int .i64 a.1, .int .i64 a.2]⟩)] = Fo_l_toPoint a := by
  kernel_rfl
def l_toPoint (a : Int × Int) : Int × Int :=
  a
theorem tot_l_toPoint (a : Int × Int) : Fo_l_toPoint a = some (l_toPoint a) := by
  unfold Fo_l_toPoint l_toPoint
  (try simp only [wI_eq])
  repeat' (first | with_reducible rfl | refine ite_opt (fun _ => ?_) (fun _ => ?_) | rfl)
def run_l_toPoint : List PV → Option (Bool × List TR)
  | [.v (.agg ⟨[.int .i64 a0, .int .i64 a1]⟩)] => some (true, enc_a2 (l_toPoint (a0, a1)))
  | _ => none
theorem sound_l_toPoint : Sound Try.prog 32 run_l_toPoint := by
  refine sound_of de_a2 SO_l_toPoint (by kernel_rfl) Try.func32 Try.ntmps32 rfl (by kernel_rfl) ?_
  intro W pvs avs rs hargs hrun
  unfold run_l_toPoint at hrun
  split at hrun
  · simp only [Option.some.injEq, Prod.mk.injEq] at hrun
    obtain ⟨hp, rfl⟩ := hrun
    rename_i a0 a1
    exact ⟨_, _, _, hargs, rfl, (eq_l_toPoint (a0, a1)).trans (tot_l_toPoint (a0, a1))⟩
  · cases hrun

def S_l_toLine : Sums := ⟨tblS [], tblM []⟩
theorem SO_l_toLine : SumsOK Try.prog S_l_toLine := ⟨tblS_ok True.intro, tblM_ok True.intro⟩
def Fo_l_toLine (a : Int × Int × Int) : Option (Int × Int × Int) :=
  some a
theorem eq_l_toLine (a : Int × Int × Int) : execT Try.prog S_l_toLine 41 15 (fun _ => 1000000) dec_a3 [.v (.agg ⟨[.int .i64 a.1, .int .i64 a.2.1, .int .i64 a.2.2]⟩)] = Fo_l_toLine a := by
  kernel_rfl
def l_toLine (a : Int × Int × Int) : Int × Int × Int :=
  a
theorem tot_l_toLine (a : Int × Int × Int) : Fo_l_toLine a = some (l_toLine a) := by
  unfold Fo_l_toLine l_toLine
  (try simp only [wI_eq])
  repeat' (first | with_reducible rfl | refine ite_opt (fun _ => ?_) (fun _ => ?_) | rfl)
def run_l_toLine : List PV → Option (Bool × List TR)
  | [.v (.agg ⟨[.int .i64 a0, .int .i64 a1, .int .i64 a2]⟩)] => some (true, enc_a3 (l_toLine (a0, a1, a2)))
  | _ => none
theorem sound_l_toLine : Sound Try.prog 41 run_l_toLine := by
  refine sound_of de_a3 SO_l_toLine (by kernel_rfl) Try.func41 Try.ntmps41 rfl (by kernel_rfl) ?_
  intro W pvs avs rs hargs hrun
  unfold run_l_toLine at hrun
  split at hrun
  · simp only [Option.some.injEq, Prod.mk.injEq] at hrun
    obtain ⟨hp, rfl⟩ := hrun
    rename_i a0 a1 a2
    exact ⟨_, _, _, hargs, rfl, (eq_l_toLine (a0, a1, a2)).trans (tot_l_toLine (a0, a1, a2))⟩
  · cases hrun

def S_l_eqLine : Sums := ⟨tblS [], tblM []⟩
theorem SO_l_eqLine : SumsOK Try.prog S_l_eqLine := ⟨tblS_ok True.intro, tblM_ok True.intro⟩
def Fo_l_eqLine (a : Int × Int × Int) (b : Int × Int × Int) : Option (Bool) :=
  (if (a.1 != b.1) = true then some false else (if (a.2.1 != b.2.1) = true then some false else (if (a.2.2 != b.2.2) = true then some false else some true)))
theorem eq_l_eqLine (a : Int × Int × Int) (b : Int × Int × Int) : execT Try.prog S_l_eqLine 34 17 (fun _ => 1000000) dec_b [.v (.agg ⟨[.int .i64 a.1, .int .i64 a.2.1, .int .i64 a.2.2]⟩), .v (.agg ⟨[.int .i64 b.1, .int .i64 b.2.1, .int .i64 b.2.2]⟩)] = Fo_l_eqLine a b := by
  kernel_rfl
def l_eqLine (a : Int × Int × Int) (b : Int × Int × Int) : Bool :=
  (if (a.1 != b.1) = true then false else (if (a.2.1 != b.2.1) = true then false else (if (a.2.2 != b.2.2) = true then false else true)))
theorem tot_l_eqLine (a : Int × Int × Int) (b : Int × Int × Int) : Fo_l_eqLine a b = some (l_eqLine a b) := by
  unfold Fo_l_eqLine l_eqLine
  (try simp only [wI_eq])
  repeat' (first | with_reducible rfl | refine ite_opt (fun _ => ?_) (fun _ => ?_) | rfl)
def run_l_eqLine : List PV → Option (Bool × List TR)
  | [.v (.agg ⟨[.int .i64 a0, .int .i64 a1, .int .i64 a2]⟩), .v (.agg ⟨[.int .i64 b0, .int .i64 b1, .int .i64 b2]⟩)] => some (true, enc_b (l_eqLine (a0, a1, a2) (b0, b1, b2)))
  | _ => none
theorem sound_l_eqLine : Sound Try.prog 34 run_l_eqLine := by
  refine sound_of de_b SO_l_eqLine (by kernel_rfl) Try.func34 Try.ntmps34 rfl (by kernel_rfl) ?_
  intro W pvs avs rs hargs hrun
  unfold run_l_eqLine at hrun
  split at hrun
  · simp only [Option.some.injEq, Prod.mk.injEq] at hrun
    obtain ⟨hp, rfl⟩ := hrun
    rename_i a0 a1 a2 b0 b1 b2
    exact ⟨_, _, _, hargs, rfl, (eq_l_eqLine (a0, a1, a2) (b0, b1, b2)).trans (tot_l_eqLine (a0, a1, a2) (b0, b1, b2))⟩
  · cases hrun

def S_l_eqPoint : Sums := ⟨tblS [], tblM []⟩
theorem SO_l_eqPoint : SumsOK Try.prog S_l_eqPoint := ⟨tblS_ok True.intro, tblM_ok True.intro⟩
def Fo_l_eqPoint (a : Int × Int) (b : Int × Int) : Option (Bool) :=
  (if (a.1 != b.1) = true then some false else (if (a.2 != b.2) = true then some false else some true))
theorem eq_l_eqPoint (a : Int × Int) (b : Int × Int) : execT Try.prog S_l_eqPoint 37 17 (fun _ => 1000000) dec_b [.v (.agg ⟨[.int .i64 a.1, .int .i64 a.2]⟩), .v (.agg ⟨[.int .i64 b.1, .int .i64 b.2]⟩)] = Fo_l_eqPoint a b := by
  kernel_rfl
def l_eqPoint (a : Int × Int) (b : Int × Int) : Bool :=
  (if (a.1 != b.1) = true then false else (if (a.2 != b.2) = true then false else true))
theorem tot_l_eqPoint (a : Int × Int) (b : Int × Int) : Fo_l_eqPoint a b = some (l_eqPoint a b) := by
  unfold Fo_l_eqPoint l_eqPoint
  (try simp only [wI_eq])
  repeat' (first | with_reducible rfl | refine ite_opt (fun _ => ?_) (fun _ => ?_) | rfl)
def run_l_eqPoint : List PV → Option (Bool × List TR)
  | [.v (.agg ⟨[.int .i64 a0, .int .i64 a1]⟩), .v (.agg ⟨[.int .i64 b0, .int .i64 b1]⟩)] => some (true, enc_b (l_eqPoint (a0, a1) (b0, b1)))
  | _ => none
theorem sound_l_eqPoint : Sound Try.prog 37 run_l_eqPoint := by
  refine sound_of de_b SO_l_eqPoint (by kernel_rfl) Try.func37 Try.ntmps37 rfl (by kernel_rfl) ?_
  intro W pvs avs rs hargs hrun
  unfold run_l_eqPoint at hrun
  split at hrun
  · simp only [Option.some.injEq, Prod.mk.injEq] at hrun
    obtain ⟨hp, rfl⟩ := hrun
    rename_i a0 a1 b0 b1
    exact ⟨_, _, _, hargs, rfl, (eq_l_eqPoint (a0, a1) (b0, b1)).trans (tot_l_eqPoint (a0, a1) (b0, b1))⟩
  · cases hrun

def S_i_isLine : Sums := ⟨tblS [(64, run_i_areNumbers)], tblM []⟩
theorem SO_i_isLine : SumsOK Try.prog S_i_isLine := ⟨tblS_ok ⟨⟨Try.call64, sound_i_areNumbers⟩, True.intro⟩, tblM_ok True.intro⟩
def Fo_i_isLine (p : Int) (l : Int × Int × Int) : Option (Bool) :=
  (if (!(i_areNumbers p [l.1, l.2.1, l.2.2])) = true then some false else (if (l.1 == 1) = true then some true else (if (l.1 == 0) = true then some (l.2.1 == 1) else some false)))
theorem eq_i_isLine (p : Int) (l : Int × Int × Int) : execT Try.prog S_i_isLine 85 22 (fun _ => 1000000) dec_b [.v (.int .i64 p), .v (.agg ⟨[.int .i64 l.1, .int .i64 l.2.1, .int .i64 l.2.2]⟩)] = Fo_i_isLine p l := by
  kernel_rfl
def i_isLine (p : Int) (l : Int × Int × Int) : Bool :=
  (if (!(i_areNumbers p [l.1, l.2.1, l.2.2])) = true then false else (if (l.1 == 1) = true then true else (if (l.1 == 0) = true then l.2.1 == 1 else false)))
theorem tot_i_isLine (p : Int) (l : Int × Int × Int) : Fo_i_isLine p l = some (i_isLine p l) := by
  unfold Fo_i_isLine i_isLine
  (try simp only [wI_eq])
  repeat' (first | with_reducible rfl | refine ite_opt (fun _ => ?_) (fun _ => ?_) | rfl)
def run_i_isLine : List PV → Option (Bool × List TR)
  | [.v (.int .i64 p), .v (.agg ⟨[.int .i64 l0, .int .i64 l1, .int .i64 l2]⟩)] => some (true, enc_b (i_isLine p (l0, l1, l2)))
  | _ => none
theorem sound_i_isLine : Sound Try.prog 85 run_i_isLine := by
  refine sound_of de_b SO_i_isLine (by kernel_rfl) Try.func85 Try.ntmps85 rfl (by kernel_rfl) ?_
  intro W pvs avs rs hargs hrun
  unfold run_i_isLine at hrun
  split at hrun
  · simp only [Option.some.injEq, Prod.mk.injEq] at hrun
    obtain ⟨hp, rfl⟩ := hrun
    rename_i p l0 l1 l2
    exact ⟨_, _, _, hargs, rfl, (eq_i_isLine p (l0, l1, l2)).trans (tot_i_isLine p (l0, l1, l2))⟩
  · cases hrun

def S_s_l01Line : Sums := ⟨tblS [(104, run_s_l01In)], tblM []⟩
theorem SO_s_l01Line : SumsOK Try.prog S_s_l01Line := ⟨tblS_ok ⟨⟨Try.call104, sound_s_l01In⟩, True.intro⟩, tblM_ok True.intro⟩
def Fo_s_l01Line (p : Int) (l : Int × Int × Int) : Option (Bool) :=
  (if (s_l01In l.1 0 (wI (p - 1))) = true then (if (s_l01In l.2.1 0 (wI (p - 1))) = true then (if (s_l01In l.2.2 0 (wI (p - 1))) = true then (if (l.1 == 1) = true then some true else (if (l.1 == 0) = true then some (l.2.1 == 1) else some false)) else some false) else some false) else some false)
theorem eq_s_l01Line (p : Int) (l : Int × Int × Int) : execT Try.prog S_s_l01Line 112 39 (fun _ => 1000000) dec_b [.v (.int .i64 p), .v (.agg ⟨[.int .i64 l.1, .int .i64 l.2.1, .int .i64 l.2.2]⟩)] = Fo_s_l01Line p l := by
  kernel_rfl
def s_l01Line (p : Int) (l : Int × Int × Int) : Bool :=
  (if (s_l01In l.1 0 (wrap64 (p - 1))) = true then (if (s_l01In l.2.1 0 (wrap64 (p - 1))) = true then (if (s_l01In l.2.2 0 (wrap64 (p - 1))) = true then (if (l.1 == 1) = true then true else (if (l.1 == 0) = true then l.2.1 == 1 else false)) else false) else false) else false)
theorem tot_s_l01Line (p : Int) (l : Int × Int × Int) : Fo_s_l01Line p l = some (s_l01Line p l) := by
  unfold Fo_s_l01Line s_l01Line
  (try simp only [wI_eq])
  repeat' (first | with_reducible rfl | refine ite_opt (fun _ => ?_) (fun _ => ?_) | rfl)
def run_s_l01Line : List PV → Option (Bool × List TR)
  | [.v (.int .i64 p), .v (.agg ⟨[.int .i64 l0, .int .i64 l1, .int .i64 l2]⟩)] => some (true, enc_b (s_l01Line p (l0, l1, l2)))
  | _ => none
theorem sound_s_l01Line : Sound Try.prog 112 run_s_l01Line := by
  refine sound_of de_b SO_s_l01Line (by kernel_rfl) Try.func112 Try.ntmps112 rfl (by kernel_rfl) ?_
  intro W pvs avs rs hargs hrun
  unfold run_s_l01Line at hrun
  split at hrun
  · simp only [Option.some.injEq, Prod.mk.injEq] at hrun
    obtain ⟨hp, rfl⟩ := hrun
    rename_i p l0 l1 l2
    exact ⟨_, _, _, hargs, rfl, (eq_s_l01Line p (l0, l1, l2)).trans (tot_s_l01Line p (l0, l1, l2))⟩
  · cases hrun

def S_s_l01Lines : Sums := ⟨tblS [(49, run_s_l01Field), (112, run_s_l01Line)], tblM []⟩
theorem SO_s_l01Lines : SumsOK Try.prog S_s_l01Lines := ⟨tblS_ok ⟨⟨Try.call49, sound_s_l01Field⟩, ⟨Try.call112, sound_s_l01Line⟩, True.intro⟩, tblM_ok True.intro⟩
def T_s_l01Lines_0 (p : Int) (linesn : Nat) (linesl : List Int) (i : Int) : Tab := ⟨[.val (.int .i64 p), .row 4, .junk, .junk, .val (.int .i64 0), .val (.int .i64 i), .val (.int .i64 p), .val (.bool (s_l01Field p)), .val (.bool (!(s_l01Field p))), .junk, .junk, .junk, .junk, .junk, .junk, .junk, .junk, .junk, .junk, .junk, .junk, .junk], [(4, .ros linesn (.ints linesl))]⟩
def X_s_l01Lines_0 (P : Program) (fu : Nat) (p : Int) (linesn : Nat) (linesl : List Int) (f : Nat) (i : Int) : Option (Int) := loopK (exec P S_s_l01Lines 22 (fun _ => fu + 100) (Code.sub [1, 1, 0, 1, 0, 0] (bodyF P 83))) f (T_s_l01Lines_0 p linesn linesl i) (kBlock 0 (kSeq (fun s => exec P S_s_l01Lines 22 (fun _ => fu + 100) (Code.sub [1, 1, 1] (bodyF P 83)) s (finT P 83 dec_i)) (finT P 83 dec_i)))
def B_s_l01Lines_0 (p : Int) (linesn : Nat) (linesl : List Int) (rec0 : Int → Option (Int)) (i : Int) : Option (Int) :=
  (if (decide (i < ((linesn : Nat) : Int))) = true then (if (decide (0 ≤ i) && decide (i < ((linesn : Nat) : Int))) = true then (if (Nat.ble (i.toNat * 3 + 3) linesl.length) = true then (if (!(s_l01Line p (linesl.getD (i.toNat * 3 + 0) 0, linesl.getD (i.toNat * 3 + 1) 0, linesl.getD (i.toNat * 3 + 2) 0))) = true then some 2 else rec0 (wI (i + 1))) else none) else none) else some 0)
def L_s_l01Lines_0 (fu : Nat) (p : Int) (linesn : Nat) (linesl : List Int) : Nat → Int → Option (Int)
  | 0, _ => none
  | f + 1, i => B_s_l01Lines_0 p linesn linesl (L_s_l01Lines_0 fu p linesn linesl f) i
theorem loop_s_l01Lines_0 (fu : Nat) (p : Int) (linesn : Nat) (linesl : List Int) : ∀ (f : Nat) (i : Int), X_s_l01Lines_0 Try.prog fu p linesn linesl f i = L_s_l01Lines_0 fu p linesn linesl f i := by
  intro f
  induction f with
  | zero => intros; rfl
  | succ f ih =>
    intro i
    have h1 : X_s_l01Lines_0 Try.prog fu p linesn linesl (f + 1) i = B_s_l01Lines_0 p linesn linesl (X_s_l01Lines_0 Try.prog fu p linesn linesl f) i := by kernel_rfl
    have h2 : X_s_l01Lines_0 Try.prog fu p linesn linesl f = L_s_l01Lines_0 fu p linesn linesl f := by funext i; exact ih i
    rw [h1, h2]
    rfl
def G_s_l01Lines (p : Int) (linesn : Nat) (linesl : List Int) (lo0 : Int → Option (Int)) : Option (Int) :=
  (if (!(s_l01Field p)) = true then some 1 else lo0 0)
def Fo_s_l01Lines (fu : Nat) (p : Int) (linesn : Nat) (linesl : List Int) : Option (Int) := G_s_l01Lines p linesn linesl (L_s_l01Lines_0 fu p linesn linesl (fu + 100))
theorem eqg_s_l01Lines (fu : Nat) (p : Int) (linesn : Nat) (linesl : List Int) : execT Try.prog S_s_l01Lines 83 22 (fun _ => fu + 100) dec_i [.v (.int .i64 p), .s linesn (.ints linesl)] = G_s_l01Lines p linesn linesl (L_s_l01Lines_0 fu p linesn linesl (fu + 100)) := by
  have h1 : execT Try.prog S_s_l01Lines 83 22 (fun _ => fu + 100) dec_i [.v (.int .i64 p), .s linesn (.ints linesl)] = G_s_l01Lines p linesn linesl (X_s_l01Lines_0 Try.prog fu p linesn linesl (fu + 100)) := by kernel_rfl
  have c0 : X_s_l01Lines_0 Try.prog fu p linesn linesl (fu + 100) = L_s_l01Lines_0 fu p linesn linesl (fu + 100) := by funext i; exact loop_s_l01Lines_0 fu p linesn linesl (fu + 100) i
  rw [h1, c0]
theorem eq_s_l01Lines (fu : Nat) (p : Int) (linesn : Nat) (linesl : List Int) : execT Try.prog S_s_l01Lines 83 22 (fun _ => fu + 100) dec_i [.v (.int .i64 p), .s linesn (.ints linesl)] = Fo_s_l01Lines fu p linesn linesl := eqg_s_l01Lines fu p linesn linesl
def s_l01Lines (p : Int) (l : List P3) : Int := if s_l01Field p = true then (if l.all (fun x => s_l01Line p x) = true then 0 else 2) else 1
theorem l01Lines_prB {p : Int} {l : List P3} (h : ¬ (s_l01Lines p l != 0) = true) : prB p = true := by
  refine Pr_prB (i_IsField_ok ?_)
  have h : s_l01Lines p l = 0 := by simpa using h
  cases hf : i_IsField p
  · simp [s_l01Lines, s_l01Field, hf] at h
  · rfl
theorem l01Lines_prB0 {p : Int} {l : List P3} (h : (s_l01Lines p l == 0) = true) : prB p = true := l01Lines_prB (by simpa using h)
theorem tot_s_l01Lines (p : Int) (linesn : Nat) (linesl : List Int) (hp : (lenB linesn 3 linesl) = true) : Fo_s_l01Lines linesn p linesn linesl = some (s_l01Lines p (rows3 linesn linesl)) := by
  obtain ⟨hl, hn⟩ := lenB_ok hp
  have key : ∀ F, linesn < F → (L_s_l01Lines_0 linesn p linesn linesl) F 0 = some (if (List.range linesn).all (fun k => (fun x => s_l01Line p x) (linesl.getD (k * 3) 0, linesl.getD (k * 3 + 1) 0, linesl.getD (k * 3 + 2) 0)) = true then 0 else 2) := by
    intro F hF
    refine scan hF (fun f k hk => ?_) fun f => ?_
    · show B_s_l01Lines_0 p linesn linesl ((L_s_l01Lines_0 linesn p linesn linesl) f) (k : Int) = _
      unfold B_s_l01Lines_0
      rw [if_pos (by simpa using hk), if_pos (by simpa using hk), if_pos (leb (by rw [hl, Int.toNat_natCast]; omega)), wrap_add1 hk (by omega)]
      first | rfl | (rw [wI_eq]; rfl)
    · show B_s_l01Lines_0 p linesn linesl ((L_s_l01Lines_0 linesn p linesn linesl) f) ((linesn : Nat) : Int) = _
      unfold B_s_l01Lines_0
      rw [if_neg (by simp)]
  unfold Fo_s_l01Lines G_s_l01Lines
  show _ = some (if s_l01Field p = true then (if ((rows3 linesn linesl)).all (fun x => s_l01Line p x) = true then 0 else 2) else 1)
  cases hf : s_l01Field p
  · rfl
  · rw [key _ (by omega), all_rows3 linesn linesl]
    rfl
def run_s_l01Lines : List PV → Option (Bool × List TR)
  | [.v (.int .i64 p), .s linesn (.ints linesl)] => some (lenB linesn 3 linesl, enc_i (s_l01Lines p (rows3 linesn linesl)))
  | _ => none
theorem sound_s_l01Lines : Sound Try.prog 83 run_s_l01Lines := by
  refine sound_of de_i SO_s_l01Lines (by kernel_rfl) Try.func83 Try.ntmps83 rfl (by kernel_rfl) ?_
  intro W pvs avs rs hargs hrun
  unfold run_s_l01Lines at hrun
  split at hrun
  · simp only [Option.some.injEq, Prod.mk.injEq] at hrun
    obtain ⟨hp, rfl⟩ := hrun
    rename_i p linesn linesl
    exact ⟨_, _, _, hargs, rfl, (eq_s_l01Lines _ p linesn linesl).trans (tot_s_l01Lines p linesn linesl hp)⟩
  · cases hrun

def dec_a2_b : List TR → Option ((Int × Int) × Bool)
  | [.v (.agg ⟨[.int .i64 x0_0, .int .i64 x0_1]⟩), .v (.bool x1)] => some ((x0_0, x0_1), x1)
  | _ => none
def enc_a2_b : (Int × Int) × Bool → List TR
  | ((x0_0, x0_1), x1) => [.v (.agg ⟨[.int .i64 x0_0, .int .i64 x0_1]⟩), .v (.bool x1)]
theorem de_a2_b (rs : List TR) (x : (Int × Int) × Bool) (h : dec_a2_b rs = some x) : rs = enc_a2_b x := by
  unfold dec_a2_b at h
  split at h
  · simp only [Option.some.injEq] at h
    subst h
    rfl
  · cases h
def S_s_l01Meet : Sums := ⟨tblS [(89, run_s_l01Mod), (108, run_s_l01Inverse)], tblM []⟩
theorem SO_s_l01Meet : SumsOK Try.prog S_s_l01Meet := ⟨tblS_ok ⟨⟨Try.call89, sound_s_l01Mod⟩, ⟨Try.call108, sound_s_l01Inverse⟩, True.intro⟩, tblM_ok True.intro⟩
def Fo_s_l01Meet (p : Int) (l : Int × Int × Int) (m : Int × Int × Int) : Option ((Int × Int) × Bool) :=
  (if (prB p) = true then (if ((s_l01Mod (wI ((wI (l.1 * m.2.1)) - (wI (l.2.1 * m.1)))) p) == 0) = true then some ((0, 0), false) else (if (prB p) = true then (if (!(p == 0)) = true then (if (prB p) = true then (if (!(p == 0)) = true then (if (prB p) = true then some (((s_l01Mod (wI (((wI ((wI (l.2.1 * m.2.2)) - (wI (m.2.1 * l.2.2)))).tmod p) * (s_l01Inverse (s_l01Mod (wI ((wI (l.1 * m.2.1)) - (wI (l.2.1 * m.1)))) p) p))) p), (s_l01Mod (wI (((wI ((wI (m.1 * l.2.2)) - (wI (l.1 * m.2.2)))).tmod p) * (s_l01Inverse (s_l01Mod (wI ((wI (l.1 * m.2.1)) - (wI (l.2.1 * m.1)))) p) p))) p)), true) else none) else none) else none) else none) else none)) else none)
theorem eq_s_l01Meet (p : Int) (l : Int × Int × Int) (m : Int × Int × Int) : execT Try.prog S_s_l01Meet 76 64 (fun _ => 1000000) dec_a2_b [.v (.int .i64 p), .v (.agg ⟨[.int .i64 l.1, .int .i64 l.2.1, .int .i64 l.2.2]⟩), .v (.agg ⟨[.int .i64 m.1, .int .i64 m.2.1, .int .i64 m.2.2]⟩)] = Fo_s_l01Meet p l m := by
  kernel_rfl
def s_l01Meet (p : Int) (l : Int × Int × Int) (m : Int × Int × Int) : (Int × Int) × Bool :=
  (if ((s_l01Mod (wrap64 ((wrap64 (l.1 * m.2.1)) - (wrap64 (l.2.1 * m.1)))) p) == 0) = true then ((0, 0), false) else (((s_l01Mod (wrap64 (((wrap64 ((wrap64 (l.2.1 * m.2.2)) - (wrap64 (m.2.1 * l.2.2)))).tmod p) * (s_l01Inverse (s_l01Mod (wrap64 ((wrap64 (l.1 * m.2.1)) - (wrap64 (l.2.1 * m.1)))) p) p))) p), (s_l01Mod (wrap64 (((wrap64 ((wrap64 (m.1 * l.2.2)) - (wrap64 (l.1 * m.2.2)))).tmod p) * (s_l01Inverse (s_l01Mod (wrap64 ((wrap64 (l.1 * m.2.1)) - (wrap64 (l.2.1 * m.1)))) p) p))) p)), true))
theorem tot_s_l01Meet (p : Int) (l : Int × Int × Int) (m : Int × Int × Int) (hp : (prB p) = true) : Fo_s_l01Meet p l m = some (s_l01Meet p l m) := by
  try have h0 := prB_ne hp
  unfold Fo_s_l01Meet s_l01Meet
  (try simp only [wI_eq])
  repeat' (first | with_reducible rfl | with_reducible refine chk_opt hp ?_ | with_reducible refine chk_opt h0 ?_ | refine chk_opt (and_all hp fun _ => hp) ?_ | refine chk_opt (and_all hp fun _ => rfl) ?_ | refine ite_opt (fun _ => ?_) (fun _ => ?_) | rfl)
def run_s_l01Meet : List PV → Option (Bool × List TR)
  | [.v (.int .i64 p), .v (.agg ⟨[.int .i64 l0, .int .i64 l1, .int .i64 l2]⟩), .v (.agg ⟨[.int .i64 m0, .int .i64 m1, .int .i64 m2]⟩)] => some (prB p, enc_a2_b (s_l01Meet p (l0, l1, l2) (m0, m1, m2)))
  | _ => none
theorem sound_s_l01Meet : Sound Try.prog 76 run_s_l01Meet := by
  refine sound_of de_a2_b SO_s_l01Meet (by kernel_rfl) Try.func76 Try.ntmps76 rfl (by kernel_rfl) ?_
  intro W pvs avs rs hargs hrun
  unfold run_s_l01Meet at hrun
  split at hrun
  · simp only [Option.some.injEq, Prod.mk.injEq] at hrun
    obtain ⟨hp, rfl⟩ := hrun
    rename_i p l0 l1 l2 m0 m1 m2
    exact ⟨_, _, _, hargs, rfl, (eq_s_l01Meet p (l0, l1, l2) (m0, m1, m2)).trans (tot_s_l01Meet p (l0, l1, l2) (m0, m1, m2) hp)⟩
  · cases hrun

def S_i_root : Sums := ⟨tblS [], tblM []⟩
theorem SO_i_root : SumsOK Try.prog S_i_root := ⟨tblS_ok True.intro, tblM_ok True.intro⟩
def T_i_root_0 (p : Int) (a : Int) (x : Int) : Tab := ⟨[.val (.int .i64 p), .val (.int .i64 a), .junk, .junk, .val (.int .i64 0), .val (.int .i64 x), .junk, .junk, .junk, .junk, .junk, .junk, .junk, .junk, .junk, .junk, .junk, .junk, .junk], []⟩
def X_i_root_0 (P : Program) (fu : Nat) (p : Int) (a : Int) (f : Nat) (x : Int) : Option (Int) := loopK (exec P S_i_root 19 (fun _ => fu + 100) (Code.sub [1, 0, 1, 0, 0] (bodyF P 123))) f (T_i_root_0 p a x) (kBlock 0 (kSeq (fun s => exec P S_i_root 19 (fun _ => fu + 100) (Code.sub [1, 1] (bodyF P 123)) s (finT P 123 dec_i)) (finT P 123 dec_i)))
def B_i_root_0 (p : Int) (a : Int) (rec0 : Int → Option (Int)) (x : Int) : Option (Int) :=
  (if (decide (x < p)) = true then (if (!(p == 0)) = true then (if (((wI (x * x)).tmod p) == a) = true then some x else rec0 (wI (x + 1))) else none) else some (-1))
def L_i_root_0 (fu : Nat) (p : Int) (a : Int) : Nat → Int → Option (Int)
  | 0, _ => none
  | f + 1, x => B_i_root_0 p a (L_i_root_0 fu p a f) x
theorem loop_i_root_0 (fu : Nat) (p : Int) (a : Int) : ∀ (f : Nat) (x : Int), X_i_root_0 Try.prog fu p a f x = L_i_root_0 fu p a f x := by
  intro f
  induction f with
  | zero => intros; rfl
  | succ f ih =>
    intro x
    have h1 : X_i_root_0 Try.prog fu p a (f + 1) x = B_i_root_0 p a (X_i_root_0 Try.prog fu p a f) x := by kernel_rfl
    have h2 : X_i_root_0 Try.prog fu p a f = L_i_root_0 fu p a f := by funext x; exact ih x
    rw [h1, h2]
    rfl
def G_i_root (p : Int) (a : Int) (lo0 : Int → Option (Int)) : Option (Int) :=
  lo0 0
def Fo_i_root (fu : Nat) (p : Int) (a : Int) : Option (Int) := G_i_root p a (L_i_root_0 fu p a (fu + 100))
theorem eqg_i_root (fu : Nat) (p : Int) (a : Int) : execT Try.prog S_i_root 123 19 (fun _ => fu + 100) dec_i [.v (.int .i64 p), .v (.int .i64 a)] = G_i_root p a (L_i_root_0 fu p a (fu + 100)) := by
  have h1 : execT Try.prog S_i_root 123 19 (fun _ => fu + 100) dec_i [.v (.int .i64 p), .v (.int .i64 a)] = G_i_root p a (X_i_root_0 Try.prog fu p a (fu + 100)) := by kernel_rfl
  have c0 : X_i_root_0 Try.prog fu p a (fu + 100) = L_i_root_0 fu p a (fu + 100) := by funext x; exact loop_i_root_0 fu p a (fu + 100) x
  rw [h1, c0]
theorem eq_i_root (fu : Nat) (p : Int) (a : Int) : execT Try.prog S_i_root 123 19 (fun _ => fu + 100) dec_i [.v (.int .i64 p), .v (.int .i64 a)] = Fo_i_root fu p a := eqg_i_root fu p a
def i_root (p a : Int) : Int := ((List.range p.toNat).findSome? (fun k : Nat => if ((wrap64 ((k : Int) * (k : Int))).tmod p == a) = true then some (k : Int) else none)).getD (-1)
theorem lo0_i_root (p a : Int) (hp : prB p = true) {F : Nat} (hF : p.toNat < F) : L_i_root_0 1000000 p a F 0 = some (((List.range p.toNat).findSome? (fun k : Nat => if ((wrap64 ((k : Int) * (k : Int))).tmod p == a) = true then some (k : Int) else none)).getD (-1)) := by
  obtain ⟨h1, h0, hpn⟩ := prB_nat hp
  exact seek (L := fun f i => L_i_root_0 1000000 p a f i) (n := p.toNat) (q := (fun k : Nat => if ((wrap64 ((k : Int) * (k : Int))).tmod p == a) = true then some (k : Int) else none)) (e := (-1)) hF
    (fun f k hk => by
      show B_i_root_0 p a (L_i_root_0 1000000 p a f) (k : Int) = _
      unfold B_i_root_0
      rw [if_pos (cndp hk), if_pos (prB_ne hp), wrap_add1 hk (by omega), wI_eq]
      generalize ((wrap64 ((k : Int) * (k : Int))).tmod p == a) = c
      cases c <;> rfl)
    (fun f => by
      show B_i_root_0 p a (L_i_root_0 1000000 p a f) ((p.toNat : Nat) : Int) = _
      unfold B_i_root_0
      rw [if_neg (by simp; omega)])
theorem tot_i_root (p : Int) (a : Int) (hp : (prB p) = true) : Fo_i_root 1000000 p a = some (i_root p a) := by
  have h1 := (prB_nat hp).1
  unfold Fo_i_root G_i_root
  exact lo0_i_root _ _ hp (by omega)
def run_i_root : List PV → Option (Bool × List TR)
  | [.v (.int .i64 p), .v (.int .i64 a)] => some (prB p, enc_i (i_root p a))
  | _ => none
theorem sound_i_root : Sound Try.prog 123 run_i_root := by
  refine sound_of de_i SO_i_root (by kernel_rfl) Try.func123 Try.ntmps123 rfl (by kernel_rfl) ?_
  intro W pvs avs rs hargs hrun
  unfold run_i_root at hrun
  split at hrun
  · simp only [Option.some.injEq, Prod.mk.injEq] at hrun
    obtain ⟨hp, rfl⟩ := hrun
    rename_i p a
    exact ⟨_, _, _, hargs, rfl, (eq_i_root _ p a).trans (tot_i_root p a hp)⟩
  · cases hrun

def S_i_squareKind : Sums := ⟨tblS [(123, run_i_root)], tblM []⟩
theorem SO_i_squareKind : SumsOK Try.prog S_i_squareKind := ⟨tblS_ok ⟨⟨Try.call123, sound_i_root⟩, True.intro⟩, tblM_ok True.intro⟩
def Fo_i_squareKind (p : Int) (a : Int) : Option (Int) :=
  (if (a == 0) = true then some 0 else (if (prB p) = true then (if (decide ((i_root p a) ≥ 0)) = true then some 1 else some (-1)) else none))
theorem eq_i_squareKind (p : Int) (a : Int) : execT Try.prog S_i_squareKind 107 13 (fun _ => 1000000) dec_i [.v (.int .i64 p), .v (.int .i64 a)] = Fo_i_squareKind p a := by
  kernel_rfl
def i_squareKind (p : Int) (a : Int) : Int :=
  (if (a == 0) = true then 0 else (if (decide ((i_root p a) ≥ 0)) = true then 1 else (-1)))
theorem tot_i_squareKind (p : Int) (a : Int) (hp : (prB p) = true) : Fo_i_squareKind p a = some (i_squareKind p a) := by
  try have h0 := prB_ne hp
  unfold Fo_i_squareKind i_squareKind
  (try simp only [wI_eq])
  repeat' (first | with_reducible rfl | with_reducible refine chk_opt hp ?_ | with_reducible refine chk_opt h0 ?_ | refine chk_opt (and_all hp fun _ => hp) ?_ | refine chk_opt (and_all hp fun _ => rfl) ?_ | refine ite_opt (fun _ => ?_) (fun _ => ?_) | rfl)
def run_i_squareKind : List PV → Option (Bool × List TR)
  | [.v (.int .i64 p), .v (.int .i64 a)] => some (prB p, enc_i (i_squareKind p a))
  | _ => none
theorem sound_i_squareKind : Sound Try.prog 107 run_i_squareKind := by
  refine sound_of de_i SO_i_squareKind (by kernel_rfl) Try.func107 Try.ntmps107 rfl (by kernel_rfl) ?_
  intro W pvs avs rs hargs hrun
  unfold run_i_squareKind at hrun
  split at hrun
  · simp only [Option.some.injEq, Prod.mk.injEq] at hrun
    obtain ⟨hp, rfl⟩ := hrun
    rename_i p a
    exact ⟨_, _, _, hargs, rfl, (eq_i_squareKind p a).trans (tot_i_squareKind p a hp)⟩
  · cases hrun

def S_i_conicKind : Sums := ⟨tblS [(94, run_i_rest), (107, run_i_squareKind)], tblM []⟩
theorem SO_i_conicKind : SumsOK Try.prog S_i_conicKind := ⟨tblS_ok ⟨⟨Try.call94, sound_i_rest⟩, ⟨Try.call107, sound_i_squareKind⟩, True.intro⟩, tblM_ok True.intro⟩
def Fo_i_conicKind (p : Int) (k : Int × Int × Int × Int × Int × Int) : Option (Int) :=
  (if (prB p) = true then (if (prB p) = true then some (i_squareKind p (i_rest p (wI ((wI (k.2.1 * k.2.1)) - (wI ((wI (4 * k.1)) * k.2.2.1)))))) else none) else none)
theorem eq_i_conicKind (p : Int) (k : Int × Int × Int × Int × Int × Int) : execT Try.prog S_i_conicKind 60 21 (fun _ => 1000000) dec_i [.v (.int .i64 p), .v (.agg ⟨[.int .i64 k.1, .int .i64 k.2.1, .int .i64 k.2.2.1, .int .i64 k.2.2.2.1, .int .i64 k.2.2.2.2.1, .int .i64 k.2.2.2.2.2]⟩)] = Fo_i_conicKind p k := by
  kernel_rfl
def i_conicKind (p : Int) (k : Int × Int × Int × Int × Int × Int) : Int :=
  (i_squareKind p (i_rest p (wrap64 ((wrap64 (k.2.1 * k.2.1)) - (wrap64 ((wrap64 (4 * k.1)) * k.2.2.1))))))
theorem tot_i_conicKind (p : Int) (k : Int × Int × Int × Int × Int × Int) (hp : (prB p) = true) : Fo_i_conicKind p k = some (i_conicKind p k) := by
  try have h0 := prB_ne hp
  unfold Fo_i_conicKind i_conicKind
  (try simp only [wI_eq])
  repeat' (first | with_reducible rfl | with_reducible refine chk_opt hp ?_ | with_reducible refine chk_opt h0 ?_ | refine chk_opt (and_all hp fun _ => hp) ?_ | refine chk_opt (and_all hp fun _ => rfl) ?_ | refine ite_opt (fun _ => ?_) (fun _ => ?_) | rfl)
def run_i_conicKind : List PV → Option (Bool × List TR)
  | [.v (.int .i64 p), .v (.agg ⟨[.int .i64 k0, .int .i64 k1, .int .i64 k2, .int .i64 k3, .int .i64 k4, .int .i64 k5]⟩)] => some (prB p, enc_i (i_conicKind p (k0, k1, k2, k3, k4, k5)))
  | _ => none
theorem sound_i_conicKind : Sound Try.prog 60 run_i_conicKind := by
  refine sound_of de_i SO_i_conicKind (by kernel_rfl) Try.func60 Try.ntmps60 rfl (by kernel_rfl) ?_
  intro W pvs avs rs hargs hrun
  unfold run_i_conicKind at hrun
  split at hrun
  · simp only [Option.some.injEq, Prod.mk.injEq] at hrun
    obtain ⟨hp, rfl⟩ := hrun
    rename_i p k0 k1 k2 k3 k4 k5
    exact ⟨_, _, _, hargs, rfl, (eq_i_conicKind p (k0, k1, k2, k3, k4, k5)).trans (tot_i_conicKind p (k0, k1, k2, k3, k4, k5) hp)⟩
  · cases hrun

def dec_i_b : List TR → Option (Int × Bool)
  | [.v (.int .i64 x0), .v (.bool x1)] => some (x0, x1)
  | _ => none
def enc_i_b : Int × Bool → List TR
  | (x0, x1) => [.v (.int .i64 x0), .v (.bool x1)]
theorem de_i_b (rs : List TR) (x : Int × Bool) (h : dec_i_b rs = some x) : rs = enc_i_b x := by
  unfold dec_i_b at h
  split at h
  · simp only [Option.some.injEq] at h
    subst h
    rfl
  · cases h
def S_s_l01Root : Sums := ⟨tblS [], tblM []⟩
theorem SO_s_l01Root : SumsOK Try.prog S_s_l01Root := ⟨tblS_ok True.intro, tblM_ok True.intro⟩
def T_s_l01Root_0 (a : Int) (p : Int) (r : Int) : Tab := ⟨[.val (.int .i64 a), .val (.int .i64 p), .junk, .junk, .val (.int .i64 0), .val (.bool false), .val (.int .i64 r), .junk, .junk, .junk, .junk, .junk, .junk, .junk, .junk, .junk, .junk, .junk, .junk, .junk], []⟩
def X_s_l01Root_0 (P : Program) (fu : Nat) (a : Int) (p : Int) (f : Nat) (r : Int) : Option (Int × Bool) := loopK (exec P S_s_l01Root 20 (fun _ => fu + 100) (Code.sub [1, 0, 1, 0, 0] (bodyF P 122))) f (T_s_l01Root_0 a p r) (kBlock 0 (kSeq (fun s => exec P S_s_l01Root 20 (fun _ => fu + 100) (Code.sub [1, 1] (bodyF P 122)) s (finT P 122 dec_i_b)) (finT P 122 dec_i_b)))
def B_s_l01Root_0 (a : Int) (p : Int) (rec0 : Int → Option (Int × Bool)) (r : Int) : Option (Int × Bool) :=
  (if (decide (r < p)) = true then (if (!(p == 0)) = true then (if (((wI (r * r)).tmod p) == a) = true then some (r, true) else rec0 (wI (r + 1))) else none) else some (0, false))
def L_s_l01Root_0 (fu : Nat) (a : Int) (p : Int) : Nat → Int → Option (Int × Bool)
  | 0, _ => none
  | f + 1, r => B_s_l01Root_0 a p (L_s_l01Root_0 fu a p f) r
theorem loop_s_l01Root_0 (fu : Nat) (a : Int) (p : Int) : ∀ (f : Nat) (r : Int), X_s_l01Root_0 Try.prog fu a p f r = L_s_l01Root_0 fu a p f r := by
  intro f
  induction f with
  | zero => intros; rfl
  | succ f ih =>
    intro r
    have h1 : X_s_l01Root_0 Try.prog fu a p (f + 1) r = B_s_l01Root_0 a p (X_s_l01Root_0 Try.prog fu a p f) r := by kernel_rfl
    have h2 : X_s_l01Root_0 Try.prog fu a p f = L_s_l01Root_0 fu a p f := by funext r; exact ih r
    rw [h1, h2]
    rfl
def G_s_l01Root (a : Int) (p : Int) (lo0 : Int → Option (Int × Bool)) : Option (Int × Bool) :=
  lo0 0
def Fo_s_l01Root (fu : Nat) (a : Int) (p : Int) : Option (Int × Bool) := G_s_l01Root a p (L_s_l01Root_0 fu a p (fu + 100))
theorem eqg_s_l01Root (fu : Nat) (a : Int) (p : Int) : execT Try.prog S_s_l01Root 122 20 (fun _ => fu + 100) dec_i_b [.v (.int .i64 a), .v (.int .i64 p)] = G_s_l01Root a p (L_s_l01Root_0 fu a p (fu + 100)) := by
  have h1 : execT Try.prog S_s_l01Root 122 20 (fun _ => fu + 100) dec_i_b [.v (.int .i64 a), .v (.int .i64 p)] = G_s_l01Root a p (X_s_l01Root_0 Try.prog fu a p (fu + 100)) := by kernel_rfl
  have c0 : X_s_l01Root_0 Try.prog fu a p (fu + 100) = L_s_l01Root_0 fu a p (fu + 100) := by funext r; exact loop_s_l01Root_0 fu a p (fu + 100) r
  rw [h1, c0]
theorem eq_s_l01Root (fu : Nat) (a : Int) (p : Int) : execT Try.prog S_s_l01Root 122 20 (fun _ => fu + 100) dec_i_b [.v (.int .i64 a), .v (.int .i64 p)] = Fo_s_l01Root fu a p := eqg_s_l01Root fu a p
def s_l01Root (a p : Int) : Int × Bool := ((List.range p.toNat).findSome? (fun k : Nat => if ((wrap64 ((k : Int) * (k : Int))).tmod p == a) = true then some ((k : Int), true) else none)).getD (0, false)
theorem lo0_s_l01Root (a p : Int) (hp : prB p = true) {F : Nat} (hF : p.toNat < F) : L_s_l01Root_0 1000000 a p F 0 = some (((List.range p.toNat).findSome? (fun k : Nat => if ((wrap64 ((k : Int) * (k : Int))).tmod p == a) = true then some ((k : Int), true) else none)).getD (0, false)) := by
  obtain ⟨h1, h0, hpn⟩ := prB_nat hp
  exact seek (L := fun f i => L_s_l01Root_0 1000000 a p f i) (n := p.toNat) (q := (fun k : Nat => if ((wrap64 ((k : Int) * (k : Int))).tmod p == a) = true then some ((k : Int), true) else none)) (e := (0, false)) hF
    (fun f k hk => by
      show B_s_l01Root_0 a p (L_s_l01Root_0 1000000 a p f) (k : Int) = _
      unfold B_s_l01Root_0
      rw [if_pos (cndp hk), if_pos (prB_ne hp), wrap_add1 hk (by omega), wI_eq]
      generalize ((wrap64 ((k : Int) * (k : Int))).tmod p == a) = c
      cases c <;> rfl)
    (fun f => by
      show B_s_l01Root_0 a p (L_s_l01Root_0 1000000 a p f) ((p.toNat : Nat) : Int) = _
      unfold B_s_l01Root_0
      rw [if_neg (by simp; omega)])
theorem tot_s_l01Root (a : Int) (p : Int) (hp : (prB p) = true) : Fo_s_l01Root 1000000 a p = some (s_l01Root a p) := by
  have h1 := (prB_nat hp).1
  unfold Fo_s_l01Root G_s_l01Root
  exact lo0_s_l01Root _ _ hp (by omega)
def run_s_l01Root : List PV → Option (Bool × List TR)
  | [.v (.int .i64 a), .v (.int .i64 p)] => some (prB p, enc_i_b (s_l01Root a p))
  | _ => none
theorem sound_s_l01Root : Sound Try.prog 122 run_s_l01Root := by
  refine sound_of de_i_b SO_s_l01Root (by kernel_rfl) Try.func122 Try.ntmps122 rfl (by kernel_rfl) ?_
  intro W pvs avs rs hargs hrun
  unfold run_s_l01Root at hrun
  split at hrun
  · simp only [Option.some.injEq, Prod.mk.injEq] at hrun
    obtain ⟨hp, rfl⟩ := hrun
    rename_i a p
    exact ⟨_, _, _, hargs, rfl, (eq_s_l01Root _ a p).trans (tot_s_l01Root a p hp)⟩
  · cases hrun

def S_s_l01Square : Sums := ⟨tblS [(122, run_s_l01Root)], tblM []⟩
theorem SO_s_l01Square : SumsOK Try.prog S_s_l01Square := ⟨tblS_ok ⟨⟨Try.call122, sound_s_l01Root⟩, True.intro⟩, tblM_ok True.intro⟩
def Fo_s_l01Square (a : Int) (p : Int) : Option (Int) :=
  (if (a == 0) = true then some 0 else (if (prB p) = true then (if ((s_l01Root a p).2) = true then some 1 else some (-1)) else none))
theorem eq_s_l01Square (a : Int) (p : Int) : execT Try.prog S_s_l01Square 106 16 (fun _ => 1000000) dec_i [.v (.int .i64 a), .v (.int .i64 p)] = Fo_s_l01Square a p := by
  kernel_rfl
def s_l01Square (a : Int) (p : Int) : Int :=
  (if (a == 0) = true then 0 else (if ((s_l01Root a p).2) = true then 1 else (-1)))
theorem tot_s_l01Square (a : Int) (p : Int) (hp : (prB p) = true) : Fo_s_l01Square a p = some (s_l01Square a p) := by
  try have h0 := prB_ne hp
  unfold Fo_s_l01Square s_l01Square
  (try simp only [wI_eq])
  repeat' (first | with_reducible rfl | with_reducible refine chk_opt hp ?_ | with_reducible refine chk_opt h0 ?_ | refine chk_opt (and_all hp fun _ => hp) ?_ | refine chk_opt (and_all hp fun _ => rfl) ?_ | refine ite_opt (fun _ => ?_) (fun _ => ?_) | rfl)
def run_s_l01Square : List PV → Option (Bool × List TR)
  | [.v (.int .i64 a), .v (.int .i64 p)] => some (prB p, enc_i (s_l01Square a p))
  | _ => none
theorem sound_s_l01Square : Sound Try.prog 106 run_s_l01Square := by
  refine sound_of de_i SO_s_l01Square (by kernel_rfl) Try.func106 Try.ntmps106 rfl (by kernel_rfl) ?_
  intro W pvs avs rs hargs hrun
  unfold run_s_l01Square at hrun
  split at hrun
  · simp only [Option.some.injEq, Prod.mk.injEq] at hrun
    obtain ⟨hp, rfl⟩ := hrun
    rename_i a p
    exact ⟨_, _, _, hargs, rfl, (eq_s_l01Square a p).trans (tot_s_l01Square a p hp)⟩
  · cases hrun

def S_s_l08Kind : Sums := ⟨tblS [(89, run_s_l01Mod), (106, run_s_l01Square)], tblM []⟩
theorem SO_s_l08Kind : SumsOK Try.prog S_s_l08Kind := ⟨tblS_ok ⟨⟨Try.call89, sound_s_l01Mod⟩, ⟨Try.call106, sound_s_l01Square⟩, True.intro⟩, tblM_ok True.intro⟩
def Fo_s_l08Kind (p : Int) (k : Int × Int × Int × Int × Int × Int) : Option (Int) :=
  (if (prB p) = true then (if (prB p) = true then some (s_l01Square (s_l01Mod (wI ((wI (k.2.1 * k.2.1)) - (wI ((wI (4 * k.1)) * k.2.2.1)))) p) p) else none) else none)
theorem eq_s_l08Kind (p : Int) (k : Int × Int × Int × Int × Int × Int) : execT Try.prog S_s_l08Kind 58 21 (fun _ => 1000000) dec_i [.v (.int .i64 p), .v (.agg ⟨[.int .i64 k.1, .int .i64 k.2.1, .int .i64 k.2.2.1, .int .i64 k.2.2.2.1, .int .i64 k.2.2.2.2.1, .int .i64 k.2.2.2.2.2]⟩)] = Fo_s_l08Kind p k := by
  kernel_rfl
def s_l08Kind (p : Int) (k : Int × Int × Int × Int × Int × Int) : Int :=
  (s_l01Square (s_l01Mod (wrap64 ((wrap64 (k.2.1 * k.2.1)) - (wrap64 ((wrap64 (4 * k.1)) * k.2.2.1)))) p) p)
theorem tot_s_l08Kind (p : Int) (k : Int × Int × Int × Int × Int × Int) (hp : (prB p) = true) : Fo_s_l08Kind p k = some (s_l08Kind p k) := by
  try have h0 := prB_ne hp
  unfold Fo_s_l08Kind s_l08Kind
  (try simp only [wI_eq])
  repeat' (first | with_reducible rfl | with_reducible refine chk_opt hp ?_ | with_reducible refine chk_opt h0 ?_ | refine chk_opt (and_all hp fun _ => hp) ?_ | refine chk_opt (and_all hp fun _ => rfl) ?_ | refine ite_opt (fun _ => ?_) (fun _ => ?_) | rfl)
def run_s_l08Kind : List PV → Option (Bool × List TR)
  | [.v (.int .i64 p), .v (.agg ⟨[.int .i64 k0, .int .i64 k1, .int .i64 k2, .int .i64 k3, .int .i64 k4, .int .i64 k5]⟩)] => some (prB p, enc_i (s_l08Kind p (k0, k1, k2, k3, k4, k5)))
  | _ => none
theorem sound_s_l08Kind : Sound Try.prog 58 run_s_l08Kind := by
  refine sound_of de_i SO_s_l08Kind (by kernel_rfl) Try.func58 Try.ntmps58 rfl (by kernel_rfl) ?_
  intro W pvs avs rs hargs hrun
  unfold run_s_l08Kind at hrun
  split at hrun
  · simp only [Option.some.injEq, Prod.mk.injEq] at hrun
    obtain ⟨hp, rfl⟩ := hrun
    rename_i p k0 k1 k2 k3 k4 k5
    exact ⟨_, _, _, hargs, rfl, (eq_s_l08Kind p (k0, k1, k2, k3, k4, k5)).trans (tot_s_l08Kind p (k0, k1, k2, k3, k4, k5) hp)⟩
  · cases hrun

def dec_l44_3 : List TR → Option (Nat × List Int)
  | [.s 44 3 n0 (.ints x0)] => some (n0, x0)
  | _ => none
def enc_l44_3 : Nat × List Int → List TR
  | (n0, x0) => [.s 44 3 n0 (.ints x0)]
theorem de_l44_3 (rs : List TR) (x : Nat × List Int) (h : dec_l44_3 rs = some x) : rs = enc_l44_3 x := by
  unfold dec_l44_3 at h
  split at h
  · simp only [Option.some.injEq] at h
    subst h
    rfl
  · cases h
def S_i_linesThrough : Sums := ⟨tblS [(94, run_i_rest)], tblM []⟩
theorem SO_i_linesThrough : SumsOK Try.prog S_i_linesThrough := ⟨tblS_ok ⟨⟨Try.call94, sound_i_rest⟩, True.intro⟩, tblM_ok True.intro⟩
def T_i_linesThrough_0 (p : Int) (a : Int × Int) (l13 : List Int) (m13 : Nat) (b : Int) : Tab := ⟨[.val (.int .i64 p), .val (.agg ⟨[.int .i64 a.1, .int .i64 a.2]⟩), .junk, .ptr 12 0, .val (.slice none 0 0), .row 52, .val (.int .i64 b), .val (.int .i64 p), .ptr 12 1, .val (.int .i64 a.2), .val (.int .i64 (wI (0 - a.2))), .val (.int .i64 (i_rest p (wI (0 - a.2)))), .val (.agg ⟨[.int .i64 0, .int .i64 1, .int .i64 (i_rest p (wI (0 - a.2)))]⟩), .junk, .junk, .junk, .junk, .junk, .junk, .junk, .junk, .junk, .junk, .junk, .junk, .junk, .junk, .junk, .junk, .junk, .junk, .junk, .junk, .junk, .junk], [(12, .box 47 [.val (.int .i64 a.1), .val (.int .i64 a.2)]), (52, .row 44 3 m13 (.ints l13))]⟩
def X_i_linesThrough_0 (P : Program) (fu : Nat) (p : Int) (a : Int × Int) (f : Nat) (l13 : List Int) (m13 : Nat) (b : Int) : Option (Nat × List Int) := loopK (exec P S_i_linesThrough 35 (fun _ => fu + 100) (Code.sub [1, 1, 0, 1, 0, 0] (bodyF P 125))) f (T_i_linesThrough_0 p a l13 m13 b) (kBlock 0 (kSeq (fun s => exec P S_i_linesThrough 35 (fun _ => fu + 100) (Code.sub [1, 1, 1] (bodyF P 125)) s (finT P 125 dec_l44_3)) (finT P 125 dec_l44_3)))
def B_i_linesThrough_0 (p : Int) (a : Int × Int) (rec0 : (List Int) → Nat → Int → Option (Nat × List Int)) (l13 : List Int) (m13 : Nat) (b : Int) : Option (Nat × List Int) :=
  (if (decide (b < p)) = true then (if (prB p) = true then (if (Nat.ble 1 1 && Nat.ble (m13 + 1) 1000000 && Nat.beq 3 (3)) = true then rec0 (l13 ++ [1, b, (i_rest p (wI ((wI (0 - a.1)) - (wI (b * a.2)))))]) (m13 + 1) (wI (b + 1)) else none) else none) else some (m13, l13))
def L_i_linesThrough_0 (fu : Nat) (p : Int) (a : Int × Int) : Nat → (List Int) → Nat → Int → Option (Nat × List Int)
  | 0, _, _, _ => none
  | f + 1, l13, m13, b => B_i_linesThrough_0 p a (L_i_linesThrough_0 fu p a f) l13 m13 b
theorem loop_i_linesThrough_0 (fu : Nat) (p : Int) (a : Int × Int) : ∀ (f : Nat) (l13 : List Int) (m13 : Nat) (b : Int), X_i_linesThrough_0 Try.prog fu p a f l13 m13 b = L_i_linesThrough_0 fu p a f l13 m13 b := by
  intro f
  induction f with
  | zero => intros; rfl
  | succ f ih =>
    intro l13 m13 b
    have h1 : X_i_linesThrough_0 Try.prog fu p a (f + 1) l13 m13 b = B_i_linesThrough_0 p a (X_i_linesThrough_0 Try.prog fu p a f) l13 m13 b := by kernel_rfl
    have h2 : X_i_linesThrough_0 Try.prog fu p a f = L_i_linesThrough_0 fu p a f := by funext l13 m13 b; exact ih l13 m13 b
    rw [h1, h2]
    rfl
def G_i_linesThrough (p : Int) (a : Int × Int) (lo0 : (List Int) → Nat → Int → Option (Nat × List Int)) : Option (Nat × List Int) :=
  (if (prB p) = true then lo0 [0, 1, (i_rest p (wI (0 - a.2)))] 1 0 else none)
def Fo_i_linesThrough (fu : Nat) (p : Int) (a : Int × Int) : Option (Nat × List Int) := G_i_linesThrough p a (L_i_linesThrough_0 fu p a (fu + 100))
theorem eqg_i_linesThrough (fu : Nat) (p : Int) (a : Int × Int) : execT Try.prog S_i_linesThrough 125 35 (fun _ => fu + 100) dec_l44_3 [.v (.int .i64 p), .v (.agg ⟨[.int .i64 a.1, .int .i64 a.2]⟩)] = G_i_linesThrough p a (L_i_linesThrough_0 fu p a (fu + 100)) := by
  have h1 : execT Try.prog S_i_linesThrough 125 35 (fun _ => fu + 100) dec_l44_3 [.v (.int .i64 p), .v (.agg ⟨[.int .i64 a.1, .int .i64 a.2]⟩)] = G_i_linesThrough p a (X_i_linesThrough_0 Try.prog fu p a (fu + 100)) := by kernel_rfl
  have c0 : X_i_linesThrough_0 Try.prog fu p a (fu + 100) = L_i_linesThrough_0 fu p a (fu + 100) := by funext l13 m13 b; exact loop_i_linesThrough_0 fu p a (fu + 100) l13 m13 b
  rw [h1, c0]
theorem eq_i_linesThrough (fu : Nat) (p : Int) (a : Int × Int) : execT Try.prog S_i_linesThrough 125 35 (fun _ => fu + 100) dec_l44_3 [.v (.int .i64 p), .v (.agg ⟨[.int .i64 a.1, .int .i64 a.2]⟩)] = Fo_i_linesThrough fu p a := eqg_i_linesThrough fu p a
def linesT (p : Int) (a : P2) : List P3 := ((0, 1, i_rest p (wrap64 (0 - a.2))) :: ((List.range p.toNat).map fun b : Nat => ((1 : Int), (b : Int), i_rest p (wrap64 (wrap64 (0 - a.1) - wrap64 ((b : Int) * a.2))))))
def i_linesThrough (p : Int) (a : P2) : Nat × List Int := ((linesT p a).length, flat3 (linesT p a))
theorem linesT_len {p : Int} (hp : prB p = true) (a : P2) : (linesT p a).length ≤ 993 := by
  have h1 := (prB_nat hp).1
  unfold linesT
  simp; omega

theorem tot_i_linesThrough (p : Int) (a : Int × Int) (hp : (prB p) = true) : Fo_i_linesThrough 1000000 p a = some (i_linesThrough p a) := by
  obtain ⟨h1, h0, hpn⟩ := prB_nat hp
  unfold Fo_i_linesThrough G_i_linesThrough
  rw [if_pos hp]
  refine (gather (flat := flat3) flat3_app rfl (L := fun f l m i => L_i_linesThrough_0 1000000 p a f l m i) (n := p.toNat) (b := 1) (M := 1) (fun b : Nat => [((1 : Int), (b : Int), i_rest p (wrap64 (wrap64 (0 - a.1) - wrap64 ((b : Int) * a.2))))]) (K := (some (i_linesThrough p a))) (l := [0, 1, i_rest p (wI (0 - a.2))]) (m := 1) (F := (1000000 + 100)) (by intro k hk; first | (split <;> simp) | simp_all)
    (fun f k l m hk hm => by
      show B_i_linesThrough_0 p a (L_i_linesThrough_0 1000000 p a f) l m (k : Int) = _
      unfold B_i_linesThrough_0
      simp only [cndp hk, hp, if_true, wI_eq]
      rw [if_pos (by simp; omega), show wrap64 ((k : Int) + 1) = ((k + 1 : Nat) : Int) from by rw [← wI_eq]; exact wrap_add1 hk (by omega)]
      rfl)
    (fun f hm => by
      show B_i_linesThrough_0 p a (L_i_linesThrough_0 1000000 p a f) ([0, 1, i_rest p (wI (0 - a.2))] ++ flat3 ((List.range p.toNat).flatMap (fun b : Nat => [((1 : Int), (b : Int), i_rest p (wrap64 (wrap64 (0 - a.1) - wrap64 ((b : Int) * a.2))))]))) (1 + ((List.range p.toNat).flatMap (fun b : Nat => [((1 : Int), (b : Int), i_rest p (wrap64 (wrap64 (0 - a.1) - wrap64 ((b : Int) * a.2))))])).length) ((p.toNat : Nat) : Int) = _
      unfold B_i_linesThrough_0
      rw [if_neg (by simp; omega), flatMap_one]
      refine congrArg some (Prod.ext ?_ ?_)
      · simp [i_linesThrough, linesT]; omega
      · simp only [wI_eq]
        rfl) (by omega) (Nat.le_refl _)).trans ?_
  rfl
def run_i_linesThrough : List PV → Option (Bool × List TR)
  | [.v (.int .i64 p), .v (.agg ⟨[.int .i64 a0, .int .i64 a1]⟩)] => some (prB p, enc_l44_3 (i_linesThrough p (a0, a1)))
  | _ => none
theorem sound_i_linesThrough : Sound Try.prog 125 run_i_linesThrough := by
  refine sound_of de_l44_3 SO_i_linesThrough (by kernel_rfl) Try.func125 Try.ntmps125 rfl (by kernel_rfl) ?_
  intro W pvs avs rs hargs hrun
  unfold run_i_linesThrough at hrun
  split at hrun
  · simp only [Option.some.injEq, Prod.mk.injEq] at hrun
    obtain ⟨hp, rfl⟩ := hrun
    rename_i p a0 a1
    exact ⟨_, _, _, hargs, rfl, (eq_i_linesThrough _ p (a0, a1)).trans (tot_i_linesThrough p (a0, a1) hp)⟩
  · cases hrun

def S_i_way : Sums := ⟨tblS [(94, run_i_rest)], tblM []⟩
theorem SO_i_way : SumsOK Try.prog S_i_way := ⟨tblS_ok ⟨⟨Try.call94, sound_i_rest⟩, True.intro⟩, tblM_ok True.intro⟩
def Fo_i_way (p : Int) (l : Int × Int × Int) : Option (Int × Int) :=
  (if (prB p) = true then some ((i_rest p (wI (0 - l.2.1))), l.1) else none)
theorem eq_i_way (p : Int) (l : Int × Int × Int) : execT Try.prog S_i_way 124 13 (fun _ => 1000000) dec_a2 [.v (.int .i64 p), .v (.agg ⟨[.int .i64 l.1, .int .i64 l.2.1, .int .i64 l.2.2]⟩)] = Fo_i_way p l := by
  kernel_rfl
def i_way (p : Int) (l : Int × Int × Int) : Int × Int :=
  ((i_rest p (wrap64 (0 - l.2.1))), l.1)
theorem tot_i_way (p : Int) (l : Int × Int × Int) (hp : (prB p) = true) : Fo_i_way p l = some (i_way p l) := by
  try have h0 := prB_ne hp
  unfold Fo_i_way i_way
  (try simp only [wI_eq])
  repeat' (first | with_reducible rfl | with_reducible refine chk_opt hp ?_ | with_reducible refine chk_opt h0 ?_ | refine chk_opt (and_all hp fun _ => hp) ?_ | refine chk_opt (and_all hp fun _ => rfl) ?_ | refine ite_opt (fun _ => ?_) (fun _ => ?_) | rfl)
def run_i_way : List PV → Option (Bool × List TR)
  | [.v (.int .i64 p), .v (.agg ⟨[.int .i64 l0, .int .i64 l1, .int .i64 l2]⟩)] => some (prB p, enc_a2 (i_way p (l0, l1, l2)))
  | _ => none
theorem sound_i_way : Sound Try.prog 124 run_i_way := by
  refine sound_of de_a2 SO_i_way (by kernel_rfl) Try.func124 Try.ntmps124 rfl (by kernel_rfl) ?_
  intro W pvs avs rs hargs hrun
  unfold run_i_way at hrun
  split at hrun
  · simp only [Option.some.injEq, Prod.mk.injEq] at hrun
    obtain ⟨hp, rfl⟩ := hrun
    rename_i p l0 l1 l2
    exact ⟨_, _, _, hargs, rfl, (eq_i_way p (l0, l1, l2)).trans (tot_i_way p (l0, l1, l2) hp)⟩
  · cases hrun

def S_i_product : Sums := ⟨tblS [(94, run_i_rest)], tblM []⟩
theorem SO_i_product : SumsOK Try.prog S_i_product := ⟨tblS_ok ⟨⟨Try.call94, sound_i_rest⟩, True.intro⟩, tblM_ok True.intro⟩
def Fo_i_product (p : Int) (colour : Int) (a : Int × Int) (b : Int × Int) : Option (Int) :=
  (if (colour == 0) = true then (if (prB p) = true then some (i_rest p (wI ((wI (a.1 * b.1)) + (wI (a.2 * b.2))))) else none) else (if (colour == 1) = true then (if (prB p) = true then some (i_rest p (wI ((wI (a.1 * b.1)) - (wI (a.2 * b.2))))) else none) else (if (prB p) = true then some (i_rest p (wI ((wI (a.1 * b.2)) + (wI (a.2 * b.1))))) else none)))
theorem eq_i_product (p : Int) (colour : Int) (a : Int × Int) (b : Int × Int) : execT Try.prog S_i_product 117 53 (fun _ => 1000000) dec_i [.v (.int .i64 p), .v (.int .i64 colour), .v (.agg ⟨[.int .i64 a.1, .int .i64 a.2]⟩), .v (.agg ⟨[.int .i64 b.1, .int .i64 b.2]⟩)] = Fo_i_product p colour a b := by
  kernel_rfl
def i_product (p : Int) (colour : Int) (a : Int × Int) (b : Int × Int) : Int :=
  (if (colour == 0) = true then (i_rest p (wrap64 ((wrap64 (a.1 * b.1)) + (wrap64 (a.2 * b.2))))) else (if (colour == 1) = true then (i_rest p (wrap64 ((wrap64 (a.1 * b.1)) - (wrap64 (a.2 * b.2))))) else (i_rest p (wrap64 ((wrap64 (a.1 * b.2)) + (wrap64 (a.2 * b.1)))))))
theorem tot_i_product (p : Int) (colour : Int) (a : Int × Int) (b : Int × Int) (hp : (prB p) = true) : Fo_i_product p colour a b = some (i_product p colour a b) := by
  try have h0 := prB_ne hp
  unfold Fo_i_product i_product
  (try simp only [wI_eq])
  repeat' (first | with_reducible rfl | with_reducible refine chk_opt hp ?_ | with_reducible refine chk_opt h0 ?_ | refine chk_opt (and_all hp fun _ => hp) ?_ | refine chk_opt (and_all hp fun _ => rfl) ?_ | refine ite_opt (fun _ => ?_) (fun _ => ?_) | rfl)
def run_i_product : List PV → Option (Bool × List TR)
  | [.v (.int .i64 p), .v (.int .i64 colour), .v (.agg ⟨[.int .i64 a0, .int .i64 a1]⟩), .v (.agg ⟨[.int .i64 b0, .int .i64 b1]⟩)] => some (prB p, enc_i (i_product p colour (a0, a1) (b0, b1)))
  | _ => none
theorem sound_i_product : Sound Try.prog 117 run_i_product := by
  refine sound_of de_i SO_i_product (by kernel_rfl) Try.func117 Try.ntmps117 rfl (by kernel_rfl) ?_
  intro W pvs avs rs hargs hrun
  unfold run_i_product at hrun
  split at hrun
  · simp only [Option.some.injEq, Prod.mk.injEq] at hrun
    obtain ⟨hp, rfl⟩ := hrun
    rename_i p colour a0 a1 b0 b1
    exact ⟨_, _, _, hargs, rfl, (eq_i_product p colour (a0, a1) (b0, b1)).trans (tot_i_product p colour (a0, a1) (b0, b1) hp)⟩
  · cases hrun

def S_i_arePerpendicular : Sums := ⟨tblS [(124, run_i_way), (117, run_i_product)], tblM []⟩
theorem SO_i_arePerpendicular : SumsOK Try.prog S_i_arePerpendicular := ⟨tblS_ok ⟨⟨Try.call124, sound_i_way⟩, ⟨Try.call117, sound_i_product⟩, True.intro⟩, tblM_ok True.intro⟩
def Fo_i_arePerpendicular (p : Int) (colour : Int) (l : Int × Int × Int) (m : Int × Int × Int) : Option (Bool) :=
  (if (prB p) = true then (if (prB p) = true then (if (prB p) = true then some ((i_product p colour (i_way p l) (i_way p m)) == 0) else none) else none) else none)
theorem eq_i_arePerpendicular (p : Int) (colour : Int) (l : Int × Int × Int) (m : Int × Int × Int) : execT Try.prog S_i_arePerpendicular 115 19 (fun _ => 1000000) dec_b [.v (.int .i64 p), .v (.int .i64 colour), .v (.agg ⟨[.int .i64 l.1, .int .i64 l.2.1, .int .i64 l.2.2]⟩), .v (.agg ⟨[.int .i64 m.1, .int .i64 m.2.1, .int .i64 m.2.2]⟩)] = Fo_i_arePerpendicular p colour l m := by
  kernel_rfl
def i_arePerpendicular (p : Int) (colour : Int) (l : Int × Int × Int) (m : Int × Int × Int) : Bool :=
  (i_product p colour (i_way p l) (i_way p m)) == 0
theorem tot_i_arePerpendicular (p : Int) (colour : Int) (l : Int × Int × Int) (m : Int × Int × Int) (hp : (prB p) = true) : Fo_i_arePerpendicular p colour l m = some (i_arePerpendicular p colour l m) := by
  try have h0 := prB_ne hp
  unfold Fo_i_arePerpendicular i_arePerpendicular
  (try simp only [wI_eq])
  repeat' (first | with_reducible rfl | with_reducible refine chk_opt hp ?_ | with_reducible refine chk_opt h0 ?_ | refine chk_opt (and_all hp fun _ => hp) ?_ | refine chk_opt (and_all hp fun _ => rfl) ?_ | refine ite_opt (fun _ => ?_) (fun _ => ?_) | rfl)
def run_i_arePerpendicular : List PV → Option (Bool × List TR)
  | [.v (.int .i64 p), .v (.int .i64 colour), .v (.agg ⟨[.int .i64 l0, .int .i64 l1, .int .i64 l2]⟩), .v (.agg ⟨[.int .i64 m0, .int .i64 m1, .int .i64 m2]⟩)] => some (prB p, enc_b (i_arePerpendicular p colour (l0, l1, l2) (m0, m1, m2)))
  | _ => none
theorem sound_i_arePerpendicular : Sound Try.prog 115 run_i_arePerpendicular := by
  refine sound_of de_b SO_i_arePerpendicular (by kernel_rfl) Try.func115 Try.ntmps115 rfl (by kernel_rfl) ?_
  intro W pvs avs rs hargs hrun
  unfold run_i_arePerpendicular at hrun
  split at hrun
  · simp only [Option.some.injEq, Prod.mk.injEq] at hrun
    obtain ⟨hp, rfl⟩ := hrun
    rename_i p colour l0 l1 l2 m0 m1 m2
    exact ⟨_, _, _, hargs, rfl, (eq_i_arePerpendicular p colour (l0, l1, l2) (m0, m1, m2)).trans (tot_i_arePerpendicular p colour (l0, l1, l2) (m0, m1, m2) hp)⟩
  · cases hrun

def S_i_perpendicular : Sums := ⟨tblS [(125, run_i_linesThrough), (115, run_i_arePerpendicular)], tblM []⟩
theorem SO_i_perpendicular : SumsOK Try.prog S_i_perpendicular := ⟨tblS_ok ⟨⟨Try.call125, sound_i_linesThrough⟩, ⟨Try.call115, sound_i_arePerpendicular⟩, True.intro⟩, tblM_ok True.intro⟩
def T_i_perpendicular_0 (p : Int) (colour : Int) (l : Int × Int × Int) (a : Int × Int) (t15 : Int) : Tab := ⟨[.val (.int .i64 p), .val (.int .i64 colour), .val (.agg ⟨[.int .i64 l.1, .int .i64 l.2.1, .int .i64 l.2.2]⟩), .val (.agg ⟨[.int .i64 a.1, .int .i64 a.2]⟩), .junk, .junk, .ptr 24 0, .ptr 28 0, .ptr 32 0, .junk, .junk, .val (.int .i64 p), .val (.agg ⟨[.int .i64 a.1, .int .i64 a.2]⟩), .row 52, .val (.int .i64 (((i_linesThrough p a).1 : Nat) : Int)), .val (.int .i64 t15), .junk, .junk, .junk, .junk, .junk, .junk, .junk, .junk, .junk, .junk, .junk], [(24, .box 44 [.val (.int .i64 l.1), .val (.int .i64 l.2.1), .val (.int .i64 l.2.2)]), (28, .box 47 [.val (.int .i64 a.1), .val (.int .i64 a.2)]), (32, .box 44 [.val (.int .i64 0), .val (.int .i64 0), .val (.int .i64 0)]), (52, .row 44 3 ((i_linesThrough p a).1) (.ints ((i_linesThrough p a).2)))]⟩
def X_i_perpendicular_0 (P : Program) (fu : Nat) (p : Int) (colour : Int) (l : Int × Int × Int) (a : Int × Int) (f : Nat) (t15 : Int) : Option (Int × Int × Int) := loopK (exec P S_i_perpendicular 27 (fun _ => fu + 100) (Code.sub [1, 0, 1, 0, 0] (bodyF P 119))) f (T_i_perpendicular_0 p colour l a t15) (kBlock 0 (kSeq (fun s => exec P S_i_perpendicular 27 (fun _ => fu + 100) (Code.sub [1, 1] (bodyF P 119)) s (finT P 119 dec_a3)) (finT P 119 dec_a3)))
def B_i_perpendicular_0 (p : Int) (colour : Int) (l : Int × Int × Int) (a : Int × Int) (rec0 : Int → Option (Int × Int × Int)) (t15 : Int) : Option (Int × Int × Int) :=
  (if (decide (t15 < (((i_linesThrough p a).1 : Nat) : Int))) = true then (if (decide (0 ≤ t15) && decide (t15 < (((i_linesThrough p a).1 : Nat) : Int))) = true then (if (Nat.ble (t15.toNat * 3 + 3) (((i_linesThrough p a).2).length)) = true then (if (prB p) = true then (if (i_arePerpendicular p colour l (((i_linesThrough p a).2).getD (t15.toNat * 3 + 0) 0, ((i_linesThrough p a).2).getD (t15.toNat * 3 + 1) 0, ((i_linesThrough p a).2).getD (t15.toNat * 3 + 2) 0)) = true then some (((i_linesThrough p a).2).getD (t15.toNat * 3 + 0) 0, ((i_linesThrough p a).2).getD (t15.toNat * 3 + 1) 0, ((i_linesThrough p a).2).getD (t15.toNat * 3 + 2) 0) else rec0 (wI (t15 + 1))) else none) else none) else none) else some (0, 0, 0))
def L_i_perpendicular_0 (fu : Nat) (p : Int) (colour : Int) (l : Int × Int × Int) (a : Int × Int) : Nat → Int → Option (Int × Int × Int)
  | 0, _ => none
  | f + 1, t15 => B_i_perpendicular_0 p colour l a (L_i_perpendicular_0 fu p colour l a f) t15
theorem loop_i_perpendicular_0 (fu : Nat) (p : Int) (colour : Int) (l : Int × Int × Int) (a : Int × Int) : ∀ (f : Nat) (t15 : Int), X_i_perpendicular_0 Try.prog fu p colour l a f t15 = L_i_perpendicular_0 fu p colour l a f t15 := by
  intro f
  induction f with
  | zero => intros; rfl
  | succ f ih =>
    intro t15
    have h1 : X_i_perpendicular_0 Try.prog fu p colour l a (f + 1) t15 = B_i_perpendicular_0 p colour l a (X_i_perpendicular_0 Try.prog fu p colour l a f) t15 := by kernel_rfl
    have h2 : X_i_perpendicular_0 Try.prog fu p colour l a f = L_i_perpendicular_0 fu p colour l a f := by funext t15; exact ih t15
    rw [h1, h2]
    rfl
def G_i_perpendicular (p : Int) (colour : Int) (l : Int × Int × Int) (a : Int × Int) (lo0 : Int → Option (Int × Int × Int)) : Option (Int × Int × Int) :=
  (if (prB p) = true then lo0 0 else none)
def Fo_i_perpendicular (fu : Nat) (p : Int) (colour : Int) (l : Int × Int × Int) (a : Int × Int) : Option (Int × Int × Int) := G_i_perpendicular p colour l a (L_i_perpendicular_0 fu p colour l a (fu + 100))
theorem eqg_i_perpendicular (fu : Nat) (p : Int) (colour : Int) (l : Int × Int × Int) (a : Int × Int) : execT Try.prog S_i_perpendicular 119 27 (fun _ => fu + 100) dec_a3 [.v (.int .i64 p), .v (.int .i64 colour), .v (.agg ⟨[.int .i64 l.1, .int .i64 l.2.1, .int .i64 l.2.2]⟩), .v (.agg ⟨[.int .i64 a.1, .int .i64 a.2]⟩)] = G_i_perpendicular p colour l a (L_i_perpendicular_0 fu p colour l a (fu + 100)) := by
  have h1 : execT Try.prog S_i_perpendicular 119 27 (fun _ => fu + 100) dec_a3 [.v (.int .i64 p), .v (.int .i64 colour), .v (.agg ⟨[.int .i64 l.1, .int .i64 l.2.1, .int .i64 l.2.2]⟩), .v (.agg ⟨[.int .i64 a.1, .int .i64 a.2]⟩)] = G_i_perpendicular p colour l a (X_i_perpendicular_0 Try.prog fu p colour l a (fu + 100)) := by kernel_rfl
  have c0 : X_i_perpendicular_0 Try.prog fu p colour l a (fu + 100) = L_i_perpendicular_0 fu p colour l a (fu + 100) := by funext t15; exact loop_i_perpendicular_0 fu p colour l a (fu + 100) t15
  rw [h1, c0]
theorem eq_i_perpendicular (fu : Nat) (p : Int) (colour : Int) (l : Int × Int × Int) (a : Int × Int) : execT Try.prog S_i_perpendicular 119 27 (fun _ => fu + 100) dec_a3 [.v (.int .i64 p), .v (.int .i64 colour), .v (.agg ⟨[.int .i64 l.1, .int .i64 l.2.1, .int .i64 l.2.2]⟩), .v (.agg ⟨[.int .i64 a.1, .int .i64 a.2]⟩)] = Fo_i_perpendicular fu p colour l a := eqg_i_perpendicular fu p colour l a
def i_perpendicular (p colour : Int) (l : P3) (a : P2) : P3 := (((linesT p a).findSome? fun zz => if i_arePerpendicular p colour l zz = true then some zz else none)).getD (0, 0, 0)
theorem lo0_i_perpendicular (p colour : Int) (l : P3) (a : P2) (hp : prB p = true) {F : Nat} (hF : 993 < F) : L_i_perpendicular_0 1000000 p colour l a F 0 = some ((((linesT p a).findSome? fun zz => if i_arePerpendicular p colour l zz = true then some (zz) else none)).getD (0, 0, 0)) := by
  have hlen : (linesT p a).length ≤ 993 := linesT_len hp a
  have h := seek (L := fun f i => L_i_perpendicular_0 1000000 p colour l a f i) (n := (linesT p a).length) (F := F) (q := fun k => if i_arePerpendicular p colour l (R3 (flat3 (linesT p a)) k) = true then some ((R3 (flat3 (linesT p a)) k)) else none) (e := (0, 0, 0)) (by omega)
    (fun f k hk => by
      show B_i_perpendicular_0 p colour l a (L_i_perpendicular_0 1000000 p colour l a f) (k : Int) = _
      unfold B_i_perpendicular_0
      have e0 : decide (0 ≤ (k : Int)) = true := by simp
      have e1 := cnd hk
      have e3 : (k : Int).toNat = k := Int.toNat_natCast k
      have e4 := row3_ok (flat3_len _) hk
      rw [show i_linesThrough p a = ((linesT p a).length, flat3 (linesT p a)) from rfl]
      simp only [e0, e1, e3, e4, hp, Bool.and_true, Bool.true_and, if_true, wrap_add1 hk (by omega)]
      have hr : ((flat3 (linesT p a)).getD (k * 3 + 0) 0, (flat3 (linesT p a)).getD (k * 3 + 1) 0, (flat3 (linesT p a)).getD (k * 3 + 2) 0) = R3 (flat3 (linesT p a)) k := rfl
      try simp only [hr]
      generalize (i_arePerpendicular p colour l (R3 (flat3 (linesT p a)) k)) = c0
      cases c0 <;> rfl)
    (fun f => by
      show B_i_perpendicular_0 p colour l a (L_i_perpendicular_0 1000000 p colour l a f) (((linesT p a).length : Nat) : Int) = _
      unfold B_i_perpendicular_0
      rw [show i_linesThrough p a = ((linesT p a).length, flat3 (linesT p a)) from rfl]
      rw [if_neg (by simp)])
  have h2 := find_row (linesT p a) (0, 0, 0) (fun zz => if i_arePerpendicular p colour l zz = true then some (zz) else none)
  rw [← h2]
  simp only [← R3_flat]
  exact h

theorem tot_i_perpendicular (p : Int) (colour : Int) (l : Int × Int × Int) (a : Int × Int) (hp : (prB p) = true) : Fo_i_perpendicular 1000000 p colour l a = some (i_perpendicular p colour l a) := by
  unfold Fo_i_perpendicular G_i_perpendicular
  rw [if_pos hp]
  exact lo0_i_perpendicular p colour l a hp (by omega)
def run_i_perpendicular : List PV → Option (Bool × List TR)
  | [.v (.int .i64 p), .v (.int .i64 colour), .v (.agg ⟨[.int .i64 l0, .int .i64 l1, .int .i64 l2]⟩), .v (.agg ⟨[.int .i64 a0, .int .i64 a1]⟩)] => some (prB p, enc_a3 (i_perpendicular p colour (l0, l1, l2) (a0, a1)))
  | _ => none
theorem sound_i_perpendicular : Sound Try.prog 119 run_i_perpendicular := by
  refine sound_of de_a3 SO_i_perpendicular (by kernel_rfl) Try.func119 Try.ntmps119 rfl (by kernel_rfl) ?_
  intro W pvs avs rs hargs hrun
  unfold run_i_perpendicular at hrun
  split at hrun
  · simp only [Option.some.injEq, Prod.mk.injEq] at hrun
    obtain ⟨hp, rfl⟩ := hrun
    rename_i p colour l0 l1 l2 a0 a1
    exact ⟨_, _, _, hargs, rfl, (eq_i_perpendicular _ p colour (l0, l1, l2) (a0, a1)).trans (tot_i_perpendicular p colour (l0, l1, l2) (a0, a1) hp)⟩
  · cases hrun

def S_i_meet : Sums := ⟨tblS [(94, run_i_rest), (110, run_i_divide)], tblM []⟩
theorem SO_i_meet : SumsOK Try.prog S_i_meet := ⟨tblS_ok ⟨⟨Try.call94, sound_i_rest⟩, ⟨Try.call110, sound_i_divide⟩, True.intro⟩, tblM_ok True.intro⟩
def Fo_i_meet (p : Int) (l : Int × Int × Int) (m : Int × Int × Int) : Option (Int × Int) :=
  (if (prB p) = true then (if (prB p) = true then (if (prB p) = true then (if (prB p) = true then (if (prB p) = true then some ((i_divide p (i_rest p (wI ((wI (l.2.1 * m.2.2)) - (wI (l.2.2 * m.2.1))))) (i_rest p (wI ((wI (l.1 * m.2.1)) - (wI (l.2.1 * m.1)))))), (i_divide p (i_rest p (wI ((wI (l.2.2 * m.1)) - (wI (l.1 * m.2.2))))) (i_rest p (wI ((wI (l.1 * m.2.1)) - (wI (l.2.1 * m.1))))))) else none) else none) else none) else none) else none)
theorem eq_i_meet (p : Int) (l : Int × Int × Int) (m : Int × Int × Int) : execT Try.prog S_i_meet 118 54 (fun _ => 1000000) dec_a2 [.v (.int .i64 p), .v (.agg ⟨[.int .i64 l.1, .int .i64 l.2.1, .int .i64 l.2.2]⟩), .v (.agg ⟨[.int .i64 m.1, .int .i64 m.2.1, .int .i64 m.2.2]⟩)] = Fo_i_meet p l m := by
  kernel_rfl
def i_meet (p : Int) (l : Int × Int × Int) (m : Int × Int × Int) : Int × Int :=
  ((i_divide p (i_rest p (wrap64 ((wrap64 (l.2.1 * m.2.2)) - (wrap64 (l.2.2 * m.2.1))))) (i_rest p (wrap64 ((wrap64 (l.1 * m.2.1)) - (wrap64 (l.2.1 * m.1)))))), (i_divide p (i_rest p (wrap64 ((wrap64 (l.2.2 * m.1)) - (wrap64 (l.1 * m.2.2))))) (i_rest p (wrap64 ((wrap64 (l.1 * m.2.1)) - (wrap64 (l.2.1 * m.1)))))))
theorem tot_i_meet (p : Int) (l : Int × Int × Int) (m : Int × Int × Int) (hp : (prB p) = true) : Fo_i_meet p l m = some (i_meet p l m) := by
  try have h0 := prB_ne hp
  unfold Fo_i_meet i_meet
  (try simp only [wI_eq])
  repeat' (first | with_reducible rfl | with_reducible refine chk_opt hp ?_ | with_reducible refine chk_opt h0 ?_ | refine chk_opt (and_all hp fun _ => hp) ?_ | refine chk_opt (and_all hp fun _ => rfl) ?_ | refine ite_opt (fun _ => ?_) (fun _ => ?_) | rfl)
def run_i_meet : List PV → Option (Bool × List TR)
  | [.v (.int .i64 p), .v (.agg ⟨[.int .i64 l0, .int .i64 l1, .int .i64 l2]⟩), .v (.agg ⟨[.int .i64 m0, .int .i64 m1, .int .i64 m2]⟩)] => some (prB p, enc_a2 (i_meet p (l0, l1, l2) (m0, m1, m2)))
  | _ => none
theorem sound_i_meet : Sound Try.prog 118 run_i_meet := by
  refine sound_of de_a2 SO_i_meet (by kernel_rfl) Try.func118 Try.ntmps118 rfl (by kernel_rfl) ?_
  intro W pvs avs rs hargs hrun
  unfold run_i_meet at hrun
  split at hrun
  · simp only [Option.some.injEq, Prod.mk.injEq] at hrun
    obtain ⟨hp, rfl⟩ := hrun
    rename_i p l0 l1 l2 m0 m1 m2
    exact ⟨_, _, _, hargs, rfl, (eq_i_meet p (l0, l1, l2) (m0, m1, m2)).trans (tot_i_meet p (l0, l1, l2) (m0, m1, m2) hp)⟩
  · cases hrun

def S_l_eqConic : Sums := ⟨tblS [], tblM []⟩
theorem SO_l_eqConic : SumsOK Try.prog S_l_eqConic := ⟨tblS_ok True.intro, tblM_ok True.intro⟩
def Fo_l_eqConic (a : Int × Int × Int × Int × Int × Int) (b : Int × Int × Int × Int × Int × Int) : Option (Bool) :=
  (if (a.1 != b.1) = true then some false else (if (a.2.1 != b.2.1) = true then some false else (if (a.2.2.1 != b.2.2.1) = true then some false else (if (a.2.2.2.1 != b.2.2.2.1) = true then some false else (if (a.2.2.2.2.1 != b.2.2.2.2.1) = true then some false else (if (a.2.2.2.2.2 != b.2.2.2.2.2) = true then some false else some true))))))
theorem eq_l_eqConic (a : Int × Int × Int × Int × Int × Int) (b : Int × Int × Int × Int × Int × Int) : execT Try.prog S_l_eqConic 24 17 (fun _ => 1000000) dec_b [.v (.agg ⟨[.int .i64 a.1, .int .i64 a.2.1, .int .i64 a.2.2.1, .int .i64 a.2.2.2.1, .int .i64 a.2.2.2.2.1, .int .i64 a.2.2.2.2.2]⟩), .v (.agg ⟨[.int .i64 b.1, .int .i64 b.2.1, .int .i64 b.2.2.1, .int .i64 b.2.2.2.1, .int .i64 b.2.2.2.2.1, .int .i64 b.2.2.2.2.2]⟩)] = Fo_l_eqConic a b := by
  kernel_rfl
def l_eqConic (a : Int × Int × Int × Int × Int × Int) (b : Int × Int × Int × Int × Int × Int) : Bool :=
  (if (a.1 != b.1) = true then false else (if (a.2.1 != b.2.1) = true then false else (if (a.2.2.1 != b.2.2.1) = true then false else (if (a.2.2.2.1 != b.2.2.2.1) = true then false else (if (a.2.2.2.2.1 != b.2.2.2.2.1) = true then false else (if (a.2.2.2.2.2 != b.2.2.2.2.2) = true then false else true))))))
theorem tot_l_eqConic (a : Int × Int × Int × Int × Int × Int) (b : Int × Int × Int × Int × Int × Int) : Fo_l_eqConic a b = some (l_eqConic a b) := by
  unfold Fo_l_eqConic l_eqConic
  (try simp only [wI_eq])
  repeat' (first | with_reducible rfl | refine ite_opt (fun _ => ?_) (fun _ => ?_) | rfl)
def run_l_eqConic : List PV → Option (Bool × List TR)
  | [.v (.agg ⟨[.int .i64 a0, .int .i64 a1, .int .i64 a2, .int .i64 a3, .int .i64 a4, .int .i64 a5]⟩), .v (.agg ⟨[.int .i64 b0, .int .i64 b1, .int .i64 b2, .int .i64 b3, .int .i64 b4, .int .i64 b5]⟩)] => some (true, enc_b (l_eqConic (a0, a1, a2, a3, a4, a5) (b0, b1, b2, b3, b4, b5)))
  | _ => none
theorem sound_l_eqConic : Sound Try.prog 24 run_l_eqConic := by
  refine sound_of de_b SO_l_eqConic (by kernel_rfl) Try.func24 Try.ntmps24 rfl (by kernel_rfl) ?_
  intro W pvs avs rs hargs hrun
  unfold run_l_eqConic at hrun
  split at hrun
  · simp only [Option.some.injEq, Prod.mk.injEq] at hrun
    obtain ⟨hp, rfl⟩ := hrun
    rename_i a0 a1 a2 a3 a4 a5 b0 b1 b2 b3 b4 b5
    exact ⟨_, _, _, hargs, rfl, (eq_l_eqConic (a0, a1, a2, a3, a4, a5) (b0, b1, b2, b3, b4, b5)).trans (tot_l_eqConic (a0, a1, a2, a3, a4, a5) (b0, b1, b2, b3, b4, b5))⟩
  · cases hrun

def S_i_isColour : Sums := ⟨tblS [], tblM []⟩
theorem SO_i_isColour : SumsOK Try.prog S_i_isColour := ⟨tblS_ok True.intro, tblM_ok True.intro⟩
def Fo_i_isColour (colour : Int) : Option (Bool) :=
  (if (decide (colour ≥ 0)) = true then some (decide (colour ≤ 2)) else some false)
theorem eq_i_isColour (colour : Int) : execT Try.prog S_i_isColour 91 9 (fun _ => 1000000) dec_b [.v (.int .i64 colour)] = Fo_i_isColour colour := by
  kernel_rfl
def i_isColour (colour : Int) : Bool :=
  (if (decide (colour ≥ 0)) = true then decide (colour ≤ 2) else false)
theorem tot_i_isColour (colour : Int) : Fo_i_isColour colour = some (i_isColour colour) := by
  unfold Fo_i_isColour i_isColour
  (try simp only [wI_eq])
  repeat' (first | with_reducible rfl | refine ite_opt (fun _ => ?_) (fun _ => ?_) | rfl)
def run_i_isColour : List PV → Option (Bool × List TR)
  | [.v (.int .i64 colour)] => some (true, enc_b (i_isColour colour))
  | _ => none
theorem sound_i_isColour : Sound Try.prog 91 run_i_isColour := by
  refine sound_of de_b SO_i_isColour (by kernel_rfl) Try.func91 Try.ntmps91 rfl (by kernel_rfl) ?_
  intro W pvs avs rs hargs hrun
  unfold run_i_isColour at hrun
  split at hrun
  · simp only [Option.some.injEq, Prod.mk.injEq] at hrun
    obtain ⟨hp, rfl⟩ := hrun
    rename_i colour
    exact ⟨_, _, _, hargs, rfl, (eq_i_isColour colour).trans (tot_i_isColour colour)⟩
  · cases hrun

def dec_l47_2 : List TR → Option (Nat × List Int)
  | [.s 47 2 n0 (.ints x0)] => some (n0, x0)
  | _ => none
def enc_l47_2 : Nat × List Int → List TR
  | (n0, x0) => [.s 47 2 n0 (.ints x0)]
theorem de_l47_2 (rs : List TR) (x : Nat × List Int) (h : dec_l47_2 rs = some x) : rs = enc_l47_2 x := by
  unfold dec_l47_2 at h
  split at h
  · simp only [Option.some.injEq] at h
    subst h
    rfl
  · cases h
def S_i_allPoints : Sums := ⟨tblS [], tblM []⟩
theorem SO_i_allPoints : SumsOK Try.prog S_i_allPoints := ⟨tblS_ok True.intro, tblM_ok True.intro⟩
def T_i_allPoints_2 (p : Int) (l6 : List Int) (m6 : Nat) (x : Int) : Tab := ⟨[.val (.int .i64 p), .junk, .val (.slice none 0 0), .row 24, .val (.int .i64 x), .junk, .junk, .junk, .junk, .junk, .junk, .junk, .junk, .junk, .junk, .junk, .junk, .junk, .junk, .junk, .junk, .junk, .junk, .junk], [(24, .row 47 2 m6 (.ints l6))]⟩
def T_i_allPoints_3 (p : Int) (l6 : List Int) (m6 : Nat) (x : Int) (l6' : List Int) (m6' : Nat) (y : Int) : Tab := ⟨[.val (.int .i64 p), .junk, .val (.slice none 0 0), .row 24, .val (.int .i64 x), .val (.int .i64 y), .junk, .val (.int .i64 x), .val (.int .i64 p), .val (.bool (decide (x < p))), .junk, .junk, .junk, .junk, .junk, .junk, .junk, .junk, .junk, .junk, .junk, .junk, .junk, .junk], [(24, .row 47 2 m6' (.ints l6'))]⟩
def X_i_allPoints_3 (P : Program) (fu : Nat) (p : Int) (l6 : List Int) (m6 : Nat) (x : Int) (rc2 : Tab → Option (Nat × List Int)) (f : Nat) (l6' : List Int) (m6' : Nat) (y : Int) : Option (Nat × List Int) := loopK (exec P S_i_allPoints 24 (fun _ => fu + 100) (Code.sub [1, 1, 0, 1, 0, 0, 1, 0, 0, 1, 0, 0] (bodyF P 79))) f (T_i_allPoints_3 p l6 m6 x l6' m6' y) (kBlock 2 (kBlock 1 (kSeq (fun s => exec P S_i_allPoints 24 (fun _ => fu + 100) (Code.sub [1, 1, 0, 1, 0, 0, 1, 1] (bodyF P 79)) s (kLoop rc2 (T_i_allPoints_2 p l6 m6 x) (kBlock 0 (kSeq (fun s => exec P S_i_allPoints 24 (fun _ => fu + 100) (Code.sub [1, 1, 1] (bodyF P 79)) s (finT P 79 dec_l47_2)) (finT P 79 dec_l47_2))))) (kLoop rc2 (T_i_allPoints_2 p l6 m6 x) (kBlock 0 (kSeq (fun s => exec P S_i_allPoints 24 (fun _ => fu + 100) (Code.sub [1, 1, 1] (bodyF P 79)) s (finT P 79 dec_l47_2)) (finT P 79 dec_l47_2)))))))
def B_i_allPoints_3 (p : Int) (l6 : List Int) (m6 : Nat) (x : Int) (rec2 : (List Int) → Nat → Int → Option (Nat × List Int)) (rec3 : (List Int) → Nat → Int → Option (Nat × List Int)) (l6' : List Int) (m6' : Nat) (y : Int) : Option (Nat × List Int) :=
  (if (decide (y < p)) = true then (if (Nat.ble 1 1 && Nat.ble (m6' + 1) 1000000 && Nat.beq 2 (2)) = true then rec3 (l6' ++ [x, y]) (m6' + 1) (wI (y + 1)) else none) else rec2 l6' m6' (wI (x + 1)))
def L_i_allPoints_3 (fu : Nat) (p : Int) (l6 : List Int) (m6 : Nat) (x : Int) (rec2 : (List Int) → Nat → Int → Option (Nat × List Int)) : Nat → (List Int) → Nat → Int → Option (Nat × List Int)
  | 0, _, _, _ => none
  | f + 1, l6', m6', y => B_i_allPoints_3 p l6 m6 x rec2 (L_i_allPoints_3 fu p l6 m6 x rec2 f) l6' m6' y
theorem loop_i_allPoints_3 (fu : Nat) (p : Int) (l6 : List Int) (m6 : Nat) (x : Int) (rc2 : Tab → Option (Nat × List Int)) : ∀ (f : Nat) (l6' : List Int) (m6' : Nat) (y : Int), X_i_allPoints_3 Try.prog fu p l6 m6 x rc2 f l6' m6' y = L_i_allPoints_3 fu p l6 m6 x (fun l6 m6 x => rc2 (T_i_allPoints_2 p l6 m6 x)) f l6' m6' y := by
  intro f
  induction f with
  | zero => intros; rfl
  | succ f ih =>
    intro l6' m6' y
    have h1 : X_i_allPoints_3 Try.prog fu p l6 m6 x rc2 (f + 1) l6' m6' y = B_i_allPoints_3 p l6 m6 x (fun l6 m6 x => rc2 (T_i_allPoints_2 p l6 m6 x)) (X_i_allPoints_3 Try.prog fu p l6 m6 x rc2 f) l6' m6' y := by kernel_rfl
    have h2 : X_i_allPoints_3 Try.prog fu p l6 m6 x rc2 f = L_i_allPoints_3 fu p l6 m6 x (fun l6 m6 x => rc2 (T_i_allPoints_2 p l6 m6 x)) f := by funext l6' m6' y; exact ih l6' m6' y
    rw [h1, h2]
    rfl
def X_i_allPoints_2 (P : Program) (fu : Nat) (p : Int) (f : Nat) (l6 : List Int) (m6 : Nat) (x : Int) : Option (Nat × List Int) := loopK (exec P S_i_allPoints 24 (fun _ => fu + 100) (Code.sub [1, 1, 0, 1, 0, 0] (bodyF P 79))) f (T_i_allPoints_2 p l6 m6 x) (kBlock 0 (kSeq (fun s => exec P S_i_allPoints 24 (fun _ => fu + 100) (Code.sub [1, 1, 1] (bodyF P 79)) s (finT P 79 dec_l47_2)) (finT P 79 dec_l47_2)))
def B_i_allPoints_2 (p : Int) (lo3 : (List Int) → Nat → Int → Option (Nat × List Int)) (rec2 : (List Int) → Nat → Int → Option (Nat × List Int)) (l6 : List Int) (m6 : Nat) (x : Int) : Option (Nat × List Int) :=
  (if (decide (x < p)) = true then lo3 l6 m6 0 else some (m6, l6))
def L_i_allPoints_2 (fu : Nat) (p : Int) : Nat → (List Int) → Nat → Int → Option (Nat × List Int)
  | 0, _, _, _ => none
  | f + 1, l6, m6, x => B_i_allPoints_2 p (L_i_allPoints_3 fu p l6 m6 x (L_i_allPoints_2 fu p f) (fu + 100)) (L_i_allPoints_2 fu p f) l6 m6 x
theorem loop_i_allPoints_2 (fu : Nat) (p : Int) : ∀ (f : Nat) (l6 : List Int) (m6 : Nat) (x : Int), X_i_allPoints_2 Try.prog fu p f l6 m6 x = L_i_allPoints_2 fu p f l6 m6 x := by
  intro f
  induction f with
  | zero => intros; rfl
  | succ f ih =>
    intro l6 m6 x
    have h1 : X_i_allPoints_2 Try.prog fu p (f + 1) l6 m6 x = B_i_allPoints_2 p (X_i_allPoints_3 Try.prog fu p l6 m6 x (fun t => loopK (exec Try.prog S_i_allPoints 24 (fun _ => fu + 100) (Code.sub [1, 1, 0, 1, 0, 0] (bodyF Try.prog 79))) f t (kBlock 0 (kSeq (fun s => exec Try.prog S_i_allPoints 24 (fun _ => fu + 100) (Code.sub [1, 1, 1] (bodyF Try.prog 79)) s (finT Try.prog 79 dec_l47_2)) (finT Try.prog 79 dec_l47_2)))) (fu + 100)) (X_i_allPoints_2 Try.prog fu p f) l6 m6 x := by kernel_rfl
    have h2 : X_i_allPoints_2 Try.prog fu p f = L_i_allPoints_2 fu p f := by funext l6 m6 x; exact ih l6 m6 x
    have c3 : (X_i_allPoints_3 Try.prog fu p l6 m6 x (fun t => loopK (exec Try.prog S_i_allPoints 24 (fun _ => fu + 100) (Code.sub [1, 1, 0, 1, 0, 0] (bodyF Try.prog 79))) f t (kBlock 0 (kSeq (fun s => exec Try.prog S_i_allPoints 24 (fun _ => fu + 100) (Code.sub [1, 1, 1] (bodyF Try.prog 79)) s (finT Try.prog 79 dec_l47_2)) (finT Try.prog 79 dec_l47_2)))) (fu + 100)) = L_i_allPoints_3 fu p l6 m6 x (X_i_allPoints_2 Try.prog fu p f) (fu + 100) := by funext l6' m6' y; exact loop_i_allPoints_3 fu p l6 m6 x (fun t => loopK (exec Try.prog S_i_allPoints 24 (fun _ => fu + 100) (Code.sub [1, 1, 0, 1, 0, 0] (bodyF Try.prog 79))) f t (kBlock 0 (kSeq (fun s => exec Try.prog S_i_allPoints 24 (fun _ => fu + 100) (Code.sub [1, 1, 1] (bodyF Try.prog 79)) s (finT Try.prog 79 dec_l47_2)) (finT Try.prog 79 dec_l47_2)))) (fu + 100) l6' m6' y
    rw [h1, c3, h2]
    rfl
def G_i_allPoints (p : Int) (lo2 : (List Int) → Nat → Int → Option (Nat × List Int)) : Option (Nat × List Int) :=
  lo2 [] 0 0
def Fo_i_allPoints (fu : Nat) (p : Int) : Option (Nat × List Int) := G_i_allPoints p (L_i_allPoints_2 fu p (fu + 100))
theorem eqg_i_allPoints (fu : Nat) (p : Int) : execT Try.prog S_i_allPoints 79 24 (fun _ => fu + 100) dec_l47_2 [.v (.int .i64 p)] = G_i_allPoints p (L_i_allPoints_2 fu p (fu + 100)) := by
  have h1 : execT Try.prog S_i_allPoints 79 24 (fun _ => fu + 100) dec_l47_2 [.v (.int .i64 p)] = G_i_allPoints p (X_i_allPoints_2 Try.prog fu p (fu + 100)) := by kernel_rfl
  have c2 : X_i_allPoints_2 Try.prog fu p (fu + 100) = L_i_allPoints_2 fu p (fu + 100) := by funext l6 m6 x; exact loop_i_allPoints_2 fu p (fu + 100) l6 m6 x
  rw [h1, c2]
theorem eq_i_allPoints (fu : Nat) (p : Int) : execT Try.prog S_i_allPoints 79 24 (fun _ => fu + 100) dec_l47_2 [.v (.int .i64 p)] = Fo_i_allPoints fu p := eqg_i_allPoints fu p
def i_allPoints (p : Int) : Nat × List Int := ((pts p).length, flat2 (pts p))
theorem lo3_i_allPoints {p : Int} (hp : prB p = true) (fu : Nat) (l6 : List Int) (m6 : Nat) (x : Int) (rec2 : List Int → Nat → Int → Option (Nat × List Int)) {F m : Nat} {l : List Int} (hF : p.toNat < F) (hm : m ≤ 100000) :
    L_i_allPoints_3 fu p l6 m6 x rec2 F l m 0 = rec2 (l ++ flat2 ((List.range p.toNat).flatMap (fun y : Nat => [((x : Int), (y : Int))]))) (m + ((List.range p.toNat).flatMap (fun y : Nat => [((x : Int), (y : Int))])).length) (wI (x + 1)) := by
  obtain ⟨h1, h0, hpn⟩ := prB_nat hp
  exact gather (flat := flat2) flat2_app rfl (L := fun f l m i => L_i_allPoints_3 fu p l6 m6 x rec2 f l m i) (n := p.toNat) (b := 1) (M := 100000) ((fun y : Nat => [((x : Int), (y : Int))])) (K := (rec2 (l ++ flat2 ((List.range p.toNat).flatMap (fun y : Nat => [((x : Int), (y : Int))]))) (m + ((List.range p.toNat).flatMap (fun y : Nat => [((x : Int), (y : Int))])).length) (wI (x + 1)))) (l := l) (m := m) (F := F) (by intro k hk; first | (split <;> simp) | simp_all)
    (fun f k l m hk hm => by
      show B_i_allPoints_3 p l6 m6 x rec2 (L_i_allPoints_3 fu p l6 m6 x rec2 f) l m (k : Int) = _
      unfold B_i_allPoints_3
      rw [if_pos (cndp hk), if_pos (by simp; omega), wrap_add1 hk (by omega)]
      rfl)
    (fun f hm => by
      show B_i_allPoints_3 p l6 m6 x rec2 (L_i_allPoints_3 fu p l6 m6 x rec2 f) (l ++ flat2 ((List.range p.toNat).flatMap ((fun y : Nat => [((x : Int), (y : Int))])))) (m + ((List.range p.toNat).flatMap ((fun y : Nat => [((x : Int), (y : Int))]))).length) ((p.toNat : Nat) : Int) = _
      unfold B_i_allPoints_3
      rw [if_neg (by simp; omega)]) hF hm
theorem lo2_i_allPoints {p : Int} (hp : prB p = true) {F : Nat} (hF : p.toNat < F) : L_i_allPoints_2 1000000 p F [] 0 0 = (some (((pts p)).length, flat2 ((pts p)))) := by
  obtain ⟨h1, h0, hpn⟩ := prB_nat hp
  exact gather (flat := flat2) flat2_app rfl (L := fun f l m i => L_i_allPoints_2 1000000 p f l m i) (n := p.toNat) (b := 31) (M := 0) ((fun x : Nat => (List.range p.toNat).flatMap (fun y : Nat => [(((x : Int) : Int), (y : Int))]))) (K := (some (((pts p)).length, flat2 ((pts p))))) (l := []) (m := 0) (F := F) (by intro k hk; refine Nat.le_trans (len_flatMap_le (b := 1) fun j _ => ?_) (by omega); first | (split <;> simp) | simp)
    (fun f k l m hk hm => by
      show B_i_allPoints_2 p (L_i_allPoints_3 1000000 p l m (k : Int) (L_i_allPoints_2 1000000 p f) (1000000 + 100)) (L_i_allPoints_2 1000000 p f) l m (k : Int) = _
      unfold B_i_allPoints_2
      rw [if_pos (cndp hk), lo3_i_allPoints hp _ _ _ _ _ (by omega) (by omega), wrap_add1 hk (by omega)])
    (fun f hm => by
      show B_i_allPoints_2 p (L_i_allPoints_3 1000000 p ([] ++ flat2 ((List.range p.toNat).flatMap ((fun x : Nat => (List.range p.toNat).flatMap (fun y : Nat => [(((x : Int) : Int), (y : Int))]))))) (0 + ((List.range p.toNat).flatMap ((fun x : Nat => (List.range p.toNat).flatMap (fun y : Nat => [(((x : Int) : Int), (y : Int))])))).length) ((p.toNat : Nat) : Int) (L_i_allPoints_2 1000000 p f) (1000000 + 100)) (L_i_allPoints_2 1000000 p f) ([] ++ flat2 ((List.range p.toNat).flatMap ((fun x : Nat => (List.range p.toNat).flatMap (fun y : Nat => [(((x : Int) : Int), (y : Int))]))))) (0 + ((List.range p.toNat).flatMap ((fun x : Nat => (List.range p.toNat).flatMap (fun y : Nat => [(((x : Int) : Int), (y : Int))])))).length) ((p.toNat : Nat) : Int) = _
      unfold B_i_allPoints_2
      have hkp : ((List.range p.toNat).flatMap (fun x : Nat => (List.range p.toNat).flatMap (fun y : Nat => [(((x : Int) : Int), (y : Int))]))) = (pts p) := by unfold pts; congr 1; funext x; exact flatMap_one _ _
      rw [if_neg (by simp; omega), hkp]
      simp) hF (Nat.le_refl _)

theorem tot_i_allPoints (p : Int) (hp : (prB p) = true) : Fo_i_allPoints 1000000 p = some (i_allPoints p) := by
  unfold Fo_i_allPoints G_i_allPoints
  have h1 := (prB_nat hp).1
  exact lo2_i_allPoints hp (by omega)
def run_i_allPoints : List PV → Option (Bool × List TR)
  | [.v (.int .i64 p)] => some (prB p, enc_l47_2 (i_allPoints p))
  | _ => none
theorem sound_i_allPoints : Sound Try.prog 79 run_i_allPoints := by
  refine sound_of de_l47_2 SO_i_allPoints (by kernel_rfl) Try.func79 Try.ntmps79 rfl (by kernel_rfl) ?_
  intro W pvs avs rs hargs hrun
  unfold run_i_allPoints at hrun
  split at hrun
  · simp only [Option.some.injEq, Prod.mk.injEq] at hrun
    obtain ⟨hp, rfl⟩ := hrun
    rename_i p
    exact ⟨_, _, _, hargs, rfl, (eq_i_allPoints _ p).trans (tot_i_allPoints p hp)⟩
  · cases hrun

def S_i_less : Sums := ⟨tblS [(94, run_i_rest)], tblM []⟩
theorem SO_i_less : SumsOK Try.prog S_i_less := ⟨tblS_ok ⟨⟨Try.call94, sound_i_rest⟩, True.intro⟩, tblM_ok True.intro⟩
def Fo_i_less (p : Int) (a : Int × Int) (b : Int × Int) : Option (Int × Int) :=
  (if (prB p) = true then (if (prB p) = true then some ((i_rest p (wI (a.1 - b.1))), (i_rest p (wI (a.2 - b.2)))) else none) else none)
theorem eq_i_less (p : Int) (a : Int × Int) (b : Int × Int) : execT Try.prog S_i_less 116 22 (fun _ => 1000000) dec_a2 [.v (.int .i64 p), .v (.agg ⟨[.int .i64 a.1, .int .i64 a.2]⟩), .v (.agg ⟨[.int .i64 b.1, .int .i64 b.2]⟩)] = Fo_i_less p a b := by
  kernel_rfl
def i_less (p : Int) (a : Int × Int) (b : Int × Int) : Int × Int :=
  ((i_rest p (wrap64 (a.1 - b.1))), (i_rest p (wrap64 (a.2 - b.2))))
theorem tot_i_less (p : Int) (a : Int × Int) (b : Int × Int) (hp : (prB p) = true) : Fo_i_less p a b = some (i_less p a b) := by
  try have h0 := prB_ne hp
  unfold Fo_i_less i_less
  (try simp only [wI_eq])
  repeat' (first | with_reducible rfl | with_reducible refine chk_opt hp ?_ | with_reducible refine chk_opt h0 ?_ | refine chk_opt (and_all hp fun _ => hp) ?_ | refine chk_opt (and_all hp fun _ => rfl) ?_ | refine ite_opt (fun _ => ?_) (fun _ => ?_) | rfl)
def run_i_less : List PV → Option (Bool × List TR)
  | [.v (.int .i64 p), .v (.agg ⟨[.int .i64 a0, .int .i64 a1]⟩), .v (.agg ⟨[.int .i64 b0, .int .i64 b1]⟩)] => some (prB p, enc_a2 (i_less p (a0, a1) (b0, b1)))
  | _ => none
theorem sound_i_less : Sound Try.prog 116 run_i_less := by
  refine sound_of de_a2 SO_i_less (by kernel_rfl) Try.func116 Try.ntmps116 rfl (by kernel_rfl) ?_
  intro W pvs avs rs hargs hrun
  unfold run_i_less at hrun
  split at hrun
  · simp only [Option.some.injEq, Prod.mk.injEq] at hrun
    obtain ⟨hp, rfl⟩ := hrun
    rename_i p a0 a1 b0 b1
    exact ⟨_, _, _, hargs, rfl, (eq_i_less p (a0, a1) (b0, b1)).trans (tot_i_less p (a0, a1) (b0, b1) hp)⟩
  · cases hrun

def S_i_quadrance : Sums := ⟨tblS [(116, run_i_less), (117, run_i_product)], tblM []⟩
theorem SO_i_quadrance : SumsOK Try.prog S_i_quadrance := ⟨tblS_ok ⟨⟨Try.call116, sound_i_less⟩, ⟨Try.call117, sound_i_product⟩, True.intro⟩, tblM_ok True.intro⟩
def Fo_i_quadrance (p : Int) (colour : Int) (a : Int × Int) (b : Int × Int) : Option (Int) :=
  (if (prB p) = true then (if (prB p) = true then some (i_product p colour (i_less p a b) (i_less p a b)) else none) else none)
theorem eq_i_quadrance (p : Int) (colour : Int) (a : Int × Int) (b : Int × Int) : execT Try.prog S_i_quadrance 95 19 (fun _ => 1000000) dec_i [.v (.int .i64 p), .v (.int .i64 colour), .v (.agg ⟨[.int .i64 a.1, .int .i64 a.2]⟩), .v (.agg ⟨[.int .i64 b.1, .int .i64 b.2]⟩)] = Fo_i_quadrance p colour a b := by
  kernel_rfl
def i_quadrance (p : Int) (colour : Int) (a : Int × Int) (b : Int × Int) : Int :=
  (i_product p colour (i_less p a b) (i_less p a b))
theorem tot_i_quadrance (p : Int) (colour : Int) (a : Int × Int) (b : Int × Int) (hp : (prB p) = true) : Fo_i_quadrance p colour a b = some (i_quadrance p colour a b) := by
  try have h0 := prB_ne hp
  unfold Fo_i_quadrance i_quadrance
  (try simp only [wI_eq])
  repeat' (first | with_reducible rfl | with_reducible refine chk_opt hp ?_ | with_reducible refine chk_opt h0 ?_ | refine chk_opt (and_all hp fun _ => hp) ?_ | refine chk_opt (and_all hp fun _ => rfl) ?_ | refine ite_opt (fun _ => ?_) (fun _ => ?_) | rfl)
def run_i_quadrance : List PV → Option (Bool × List TR)
  | [.v (.int .i64 p), .v (.int .i64 colour), .v (.agg ⟨[.int .i64 a0, .int .i64 a1]⟩), .v (.agg ⟨[.int .i64 b0, .int .i64 b1]⟩)] => some (prB p, enc_i (i_quadrance p colour (a0, a1) (b0, b1)))
  | _ => none
theorem sound_i_quadrance : Sound Try.prog 95 run_i_quadrance := by
  refine sound_of de_i SO_i_quadrance (by kernel_rfl) Try.func95 Try.ntmps95 rfl (by kernel_rfl) ?_
  intro W pvs avs rs hargs hrun
  unfold run_i_quadrance at hrun
  split at hrun
  · simp only [Option.some.injEq, Prod.mk.injEq] at hrun
    obtain ⟨hp, rfl⟩ := hrun
    rename_i p colour a0 a1 b0 b1
    exact ⟨_, _, _, hargs, rfl, (eq_i_quadrance p colour (a0, a1) (b0, b1)).trans (tot_i_quadrance p colour (a0, a1) (b0, b1) hp)⟩
  · cases hrun

def S_i_arePoints : Sums := ⟨tblS [(74, run_i_isPoint)], tblM []⟩
theorem SO_i_arePoints : SumsOK Try.prog S_i_arePoints := ⟨tblS_ok ⟨⟨Try.call74, sound_i_isPoint⟩, True.intro⟩, tblM_ok True.intro⟩
def T_i_arePoints_0 (p : Int) (listn : Nat) (listl : List Int) (t9 : Int) : Tab := ⟨[.val (.int .i64 p), .row 4, .junk, .junk, .val (.bool false), .junk, .junk, .row 4, .val (.int .i64 ((listn : Nat) : Int)), .val (.int .i64 t9), .junk, .junk, .junk, .junk, .junk, .junk, .junk, .junk], [(4, .ros listn (.ints listl))]⟩
def X_i_arePoints_0 (P : Program) (fu : Nat) (p : Int) (listn : Nat) (listl : List Int) (f : Nat) (t9 : Int) : Option (Bool) := loopK (exec P S_i_arePoints 18 (fun _ => fu + 100) (Code.sub [1, 0, 1, 0, 0] (bodyF P 102))) f (T_i_arePoints_0 p listn listl t9) (kBlock 0 (kSeq (fun s => exec P S_i_arePoints 18 (fun _ => fu + 100) (Code.sub [1, 1] (bodyF P 102)) s (finT P 102 dec_b)) (finT P 102 dec_b)))
def B_i_arePoints_0 (p : Int) (listn : Nat) (listl : List Int) (rec0 : Int → Option (Bool)) (t9 : Int) : Option (Bool) :=
  (if (decide (t9 < ((listn : Nat) : Int))) = true then (if (decide (0 ≤ t9) && decide (t9 < ((listn : Nat) : Int))) = true then (if (Nat.ble (t9.toNat * 2 + 2) listl.length) = true then (if (!(i_isPoint p (listl.getD (t9.toNat * 2 + 0) 0, listl.getD (t9.toNat * 2 + 1) 0))) = true then some false else rec0 (wI (t9 + 1))) else none) else none) else some true)
def L_i_arePoints_0 (fu : Nat) (p : Int) (listn : Nat) (listl : List Int) : Nat → Int → Option (Bool)
  | 0, _ => none
  | f + 1, t9 => B_i_arePoints_0 p listn listl (L_i_arePoints_0 fu p listn listl f) t9
theorem loop_i_arePoints_0 (fu : Nat) (p : Int) (listn : Nat) (listl : List Int) : ∀ (f : Nat) (t9 : Int), X_i_arePoints_0 Try.prog fu p listn listl f t9 = L_i_arePoints_0 fu p listn listl f t9 := by
  intro f
  induction f with
  | zero => intros; rfl
  | succ f ih =>
    intro t9
    have h1 : X_i_arePoints_0 Try.prog fu p listn listl (f + 1) t9 = B_i_arePoints_0 p listn listl (X_i_arePoints_0 Try.prog fu p listn listl f) t9 := by kernel_rfl
    have h2 : X_i_arePoints_0 Try.prog fu p listn listl f = L_i_arePoints_0 fu p listn listl f := by funext t9; exact ih t9
    rw [h1, h2]
    rfl
def G_i_arePoints (p : Int) (listn : Nat) (listl : List Int) (lo0 : Int → Option (Bool)) : Option (Bool) :=
  lo0 0
def Fo_i_arePoints (fu : Nat) (p : Int) (listn : Nat) (listl : List Int) : Option (Bool) := G_i_arePoints p listn listl (L_i_arePoints_0 fu p listn listl (fu + 100))
theorem eqg_i_arePoints (fu : Nat) (p : Int) (listn : Nat) (listl : List Int) : execT Try.prog S_i_arePoints 102 18 (fun _ => fu + 100) dec_b [.v (.int .i64 p), .s listn (.ints listl)] = G_i_arePoints p listn listl (L_i_arePoints_0 fu p listn listl (fu + 100)) := by
  have h1 : execT Try.prog S_i_arePoints 102 18 (fun _ => fu + 100) dec_b [.v (.int .i64 p), .s listn (.ints listl)] = G_i_arePoints p listn listl (X_i_arePoints_0 Try.prog fu p listn listl (fu + 100)) := by kernel_rfl
  have c0 : X_i_arePoints_0 Try.prog fu p listn listl (fu + 100) = L_i_arePoints_0 fu p listn listl (fu + 100) := by funext t9; exact loop_i_arePoints_0 fu p listn listl (fu + 100) t9
  rw [h1, c0]
theorem eq_i_arePoints (fu : Nat) (p : Int) (listn : Nat) (listl : List Int) : execT Try.prog S_i_arePoints 102 18 (fun _ => fu + 100) dec_b [.v (.int .i64 p), .s listn (.ints listl)] = Fo_i_arePoints fu p listn listl := eqg_i_arePoints fu p listn listl
def i_arePoints (p : Int) (l : List P2) : Bool := l.all (fun x => i_isPoint p x)
theorem tot_i_arePoints (p : Int) (listn : Nat) (listl : List Int) (hp : (lenB listn 2 listl) = true) : Fo_i_arePoints listn p listn listl = some (i_arePoints p (rows2 listn listl)) := by
  obtain ⟨hl, hn⟩ := lenB_ok hp
  have key : ∀ F, listn < F → (L_i_arePoints_0 listn p listn listl) F 0 = some (if (List.range listn).all (fun k => (fun x => i_isPoint p x) (listl.getD (k * 2) 0, listl.getD (k * 2 + 1) 0)) = true then true else false) := by
    intro F hF
    refine scan hF (fun f k hk => ?_) fun f => ?_
    · show B_i_arePoints_0 p listn listl ((L_i_arePoints_0 listn p listn listl) f) (k : Int) = _
      unfold B_i_arePoints_0
      rw [if_pos (by simpa using hk), if_pos (by simpa using hk), if_pos (leb (by rw [hl, Int.toNat_natCast]; omega)), wrap_add1 hk (by omega)]
      first | rfl | (rw [wI_eq]; rfl)
    · show B_i_arePoints_0 p listn listl ((L_i_arePoints_0 listn p listn listl) f) ((listn : Nat) : Int) = _
      unfold B_i_arePoints_0
      rw [if_neg (by simp)]
  unfold Fo_i_arePoints G_i_arePoints
  rw [key _ (by omega)]
  show _ = some (((rows2 listn listl)).all (fun x => i_isPoint p x))
  rw [all_rows2 listn listl]
  cases (List.range listn).all (fun k => (fun x => i_isPoint p x) (listl.getD (k * 2) 0, listl.getD (k * 2 + 1) 0)) <;> rfl
def run_i_arePoints : List PV → Option (Bool × List TR)
  | [.v (.int .i64 p), .s listn (.ints listl)] => some (lenB listn 2 listl, enc_b (i_arePoints p (rows2 listn listl)))
  | _ => none
theorem sound_i_arePoints : Sound Try.prog 102 run_i_arePoints := by
  refine sound_of de_b SO_i_arePoints (by kernel_rfl) Try.func102 Try.ntmps102 rfl (by kernel_rfl) ?_
  intro W pvs avs rs hargs hrun
  unfold run_i_arePoints at hrun
  split at hrun
  · simp only [Option.some.injEq, Prod.mk.injEq] at hrun
    obtain ⟨hp, rfl⟩ := hrun
    rename_i p listn listl
    exact ⟨_, _, _, hargs, rfl, (eq_i_arePoints _ p listn listl).trans (tot_i_arePoints p listn listl hp)⟩
  · cases hrun

def S_s_l01Both : Sums := ⟨tblS [(98, run_s_l01Code), (83, run_s_l01Lines)], tblM []⟩
theorem SO_s_l01Both : SumsOK Try.prog S_s_l01Both := ⟨tblS_ok ⟨⟨Try.call98, sound_s_l01Code⟩, ⟨Try.call83, sound_s_l01Lines⟩, True.intro⟩, tblM_ok True.intro⟩
def Fo_s_l01Both (p : Int) (a : Int × Int) (l : Int × Int × Int) : Option (Int) :=
  (if ((s_l01Code p [a]) != 0) = true then some (s_l01Code p [a]) else some (s_l01Lines p [l]))
theorem eq_s_l01Both (p : Int) (a : Int × Int) (l : Int × Int × Int) : execT Try.prog S_s_l01Both 86 19 (fun _ => 1000000) dec_i [.v (.int .i64 p), .v (.agg ⟨[.int .i64 a.1, .int .i64 a.2]⟩), .v (.agg ⟨[.int .i64 l.1, .int .i64 l.2.1, .int .i64 l.2.2]⟩)] = Fo_s_l01Both p a l := by
  kernel_rfl
def s_l01Both (p : Int) (a : Int × Int) (l : Int × Int × Int) : Int :=
  (if ((s_l01Code p [a]) != 0) = true then (s_l01Code p [a]) else (s_l01Lines p [l]))
theorem tot_s_l01Both (p : Int) (a : Int × Int) (l : Int × Int × Int) : Fo_s_l01Both p a l = some (s_l01Both p a l) := by
  unfold Fo_s_l01Both s_l01Both
  (try simp only [wI_eq])
  repeat' (first | with_reducible rfl | refine ite_opt (fun _ => ?_) (fun _ => ?_) | rfl)
def run_s_l01Both : List PV → Option (Bool × List TR)
  | [.v (.int .i64 p), .v (.agg ⟨[.int .i64 a0, .int .i64 a1]⟩), .v (.agg ⟨[.int .i64 l0, .int .i64 l1, .int .i64 l2]⟩)] => some (true, enc_i (s_l01Both p (a0, a1) (l0, l1, l2)))
  | _ => none
theorem sound_s_l01Both : Sound Try.prog 86 run_s_l01Both := by
  refine sound_of de_i SO_s_l01Both (by kernel_rfl) Try.func86 Try.ntmps86 rfl (by kernel_rfl) ?_
  intro W pvs avs rs hargs hrun
  unfold run_s_l01Both at hrun
  split at hrun
  · simp only [Option.some.injEq, Prod.mk.injEq] at hrun
    obtain ⟨hp, rfl⟩ := hrun
    rename_i p a0 a1 l0 l1 l2
    exact ⟨_, _, _, hargs, rfl, (eq_s_l01Both p (a0, a1) (l0, l1, l2)).trans (tot_s_l01Both p (a0, a1) (l0, l1, l2))⟩
  · cases hrun

theorem l01Both_prB {p : Int} {a : P2} {l : P3} (h : ¬ (s_l01Both p a l != 0) = true) : prB p = true := by
  refine Pr_prB (i_IsField_ok ?_)
  have h : s_l01Both p a l = 0 := by simpa using h
  cases hf : i_IsField p
  · simp [s_l01Both, s_l01Code, s_l01Lines, s_l01Field, hf] at h
  · rfl
theorem l01Both_prB0 {p : Int} {a : P2} {l : P3} (h : (s_l01Both p a l == 0) = true) : prB p = true := l01Both_prB (by simpa using h)
def S_i_foot : Sums := ⟨tblS [(119, run_i_perpendicular), (118, run_i_meet)], tblM []⟩
theorem SO_i_foot : SumsOK Try.prog S_i_foot := ⟨tblS_ok ⟨⟨Try.call119, sound_i_perpendicular⟩, ⟨Try.call118, sound_i_meet⟩, True.intro⟩, tblM_ok True.intro⟩
def Fo_i_foot (p : Int) (colour : Int) (a : Int × Int) (l : Int × Int × Int) : Option (Int × Int) :=
  (if (prB p) = true then (if (prB p) = true then some (i_meet p l (i_perpendicular p colour l a)) else none) else none)
theorem eq_i_foot (p : Int) (colour : Int) (a : Int × Int) (l : Int × Int × Int) : execT Try.prog S_i_foot 96 17 (fun _ => 1000000) dec_a2 [.v (.int .i64 p), .v (.int .i64 colour), .v (.agg ⟨[.int .i64 a.1, .int .i64 a.2]⟩), .v (.agg ⟨[.int .i64 l.1, .int .i64 l.2.1, .int .i64 l.2.2]⟩)] = Fo_i_foot p colour a l := by
  kernel_rfl
def i_foot (p : Int) (colour : Int) (a : Int × Int) (l : Int × Int × Int) : Int × Int :=
  (i_meet p l (i_perpendicular p colour l a))
theorem tot_i_foot (p : Int) (colour : Int) (a : Int × Int) (l : Int × Int × Int) (hp : (prB p) = true) : Fo_i_foot p colour a l = some (i_foot p colour a l) := by
  try have h0 := prB_ne hp
  unfold Fo_i_foot i_foot
  (try simp only [wI_eq])
  repeat' (first | with_reducible rfl | with_reducible refine chk_opt hp ?_ | with_reducible refine chk_opt h0 ?_ | refine chk_opt (and_all hp fun _ => hp) ?_ | refine chk_opt (and_all hp fun _ => rfl) ?_ | refine ite_opt (fun _ => ?_) (fun _ => ?_) | rfl)
def run_i_foot : List PV → Option (Bool × List TR)
  | [.v (.int .i64 p), .v (.int .i64 colour), .v (.agg ⟨[.int .i64 a0, .int .i64 a1]⟩), .v (.agg ⟨[.int .i64 l0, .int .i64 l1, .int .i64 l2]⟩)] => some (prB p, enc_a2 (i_foot p colour (a0, a1) (l0, l1, l2)))
  | _ => none
theorem sound_i_foot : Sound Try.prog 96 run_i_foot := by
  refine sound_of de_a2 SO_i_foot (by kernel_rfl) Try.func96 Try.ntmps96 rfl (by kernel_rfl) ?_
  intro W pvs avs rs hargs hrun
  unfold run_i_foot at hrun
  split at hrun
  · simp only [Option.some.injEq, Prod.mk.injEq] at hrun
    obtain ⟨hp, rfl⟩ := hrun
    rename_i p colour a0 a1 l0 l1 l2
    exact ⟨_, _, _, hargs, rfl, (eq_i_foot p colour (a0, a1) (l0, l1, l2)).trans (tot_i_foot p colour (a0, a1) (l0, l1, l2) hp)⟩
  · cases hrun

def S_i_isNull : Sums := ⟨tblS [(115, run_i_arePerpendicular)], tblM []⟩
theorem SO_i_isNull : SumsOK Try.prog S_i_isNull := ⟨tblS_ok ⟨⟨Try.call115, sound_i_arePerpendicular⟩, True.intro⟩, tblM_ok True.intro⟩
def Fo_i_isNull (p : Int) (colour : Int) (l : Int × Int × Int) : Option (Bool) :=
  (if (prB p) = true then some (i_arePerpendicular p colour l l) else none)
theorem eq_i_isNull (p : Int) (colour : Int) (l : Int × Int × Int) : execT Try.prog S_i_isNull 92 12 (fun _ => 1000000) dec_b [.v (.int .i64 p), .v (.int .i64 colour), .v (.agg ⟨[.int .i64 l.1, .int .i64 l.2.1, .int .i64 l.2.2]⟩)] = Fo_i_isNull p colour l := by
  kernel_rfl
def i_isNull (p : Int) (colour : Int) (l : Int × Int × Int) : Bool :=
  (i_arePerpendicular p colour l l)
theorem tot_i_isNull (p : Int) (colour : Int) (l : Int × Int × Int) (hp : (prB p) = true) : Fo_i_isNull p colour l = some (i_isNull p colour l) := by
  try have h0 := prB_ne hp
  unfold Fo_i_isNull i_isNull
  (try simp only [wI_eq])
  repeat' (first | with_reducible rfl | with_reducible refine chk_opt hp ?_ | with_reducible refine chk_opt h0 ?_ | refine chk_opt (and_all hp fun _ => hp) ?_ | refine chk_opt (and_all hp fun _ => rfl) ?_ | refine ite_opt (fun _ => ?_) (fun _ => ?_) | rfl)
def run_i_isNull : List PV → Option (Bool × List TR)
  | [.v (.int .i64 p), .v (.int .i64 colour), .v (.agg ⟨[.int .i64 l0, .int .i64 l1, .int .i64 l2]⟩)] => some (prB p, enc_b (i_isNull p colour (l0, l1, l2)))
  | _ => none
theorem sound_i_isNull : Sound Try.prog 92 run_i_isNull := by
  refine sound_of de_b SO_i_isNull (by kernel_rfl) Try.func92 Try.ntmps92 rfl (by kernel_rfl) ?_
  intro W pvs avs rs hargs hrun
  unfold run_i_isNull at hrun
  split at hrun
  · simp only [Option.some.injEq, Prod.mk.injEq] at hrun
    obtain ⟨hp, rfl⟩ := hrun
    rename_i p colour l0 l1 l2
    exact ⟨_, _, _, hargs, rfl, (eq_i_isNull p colour (l0, l1, l2)).trans (tot_i_isNull p colour (l0, l1, l2) hp)⟩
  · cases hrun

def S_s_l02Colour : Sums := ⟨tblS [(104, run_s_l01In)], tblM []⟩
theorem SO_s_l02Colour : SumsOK Try.prog S_s_l02Colour := ⟨tblS_ok ⟨⟨Try.call104, sound_s_l01In⟩, True.intro⟩, tblM_ok True.intro⟩
def Fo_s_l02Colour (colour : Int) : Option (Bool) :=
  some (s_l01In colour 0 2)
theorem eq_s_l02Colour (colour : Int) : execT Try.prog S_s_l02Colour 87 5 (fun _ => 1000000) dec_b [.v (.int .i64 colour)] = Fo_s_l02Colour colour := by
  kernel_rfl
def s_l02Colour (colour : Int) : Bool :=
  (s_l01In colour 0 2)
theorem tot_s_l02Colour (colour : Int) : Fo_s_l02Colour colour = some (s_l02Colour colour) := by
  unfold Fo_s_l02Colour s_l02Colour
  (try simp only [wI_eq])
  repeat' (first | with_reducible rfl | refine ite_opt (fun _ => ?_) (fun _ => ?_) | rfl)
def run_s_l02Colour : List PV → Option (Bool × List TR)
  | [.v (.int .i64 colour)] => some (true, enc_b (s_l02Colour colour))
  | _ => none
theorem sound_s_l02Colour : Sound Try.prog 87 run_s_l02Colour := by
  refine sound_of de_b SO_s_l02Colour (by kernel_rfl) Try.func87 Try.ntmps87 rfl (by kernel_rfl) ?_
  intro W pvs avs rs hargs hrun
  unfold run_s_l02Colour at hrun
  split at hrun
  · simp only [Option.some.injEq, Prod.mk.injEq] at hrun
    obtain ⟨hp, rfl⟩ := hrun
    rename_i colour
    exact ⟨_, _, _, hargs, rfl, (eq_s_l02Colour colour).trans (tot_s_l02Colour colour)⟩
  · cases hrun

def dec_a6_b : List TR → Option ((Int × Int × Int × Int × Int × Int) × Bool)
  | [.v (.agg ⟨[.int .i64 x0_0, .int .i64 x0_1, .int .i64 x0_2, .int .i64 x0_3, .int .i64 x0_4, .int .i64 x0_5]⟩), .v (.bool x1)] => some ((x0_0, x0_1, x0_2, x0_3, x0_4, x0_5), x1)
  | _ => none
def enc_a6_b : (Int × Int × Int × Int × Int × Int) × Bool → List TR
  | ((x0_0, x0_1, x0_2, x0_3, x0_4, x0_5), x1) => [.v (.agg ⟨[.int .i64 x0_0, .int .i64 x0_1, .int .i64 x0_2, .int .i64 x0_3, .int .i64 x0_4, .int .i64 x0_5]⟩), .v (.bool x1)]
theorem de_a6_b (rs : List TR) (x : (Int × Int × Int × Int × Int × Int) × Bool) (h : dec_a6_b rs = some x) : rs = enc_a6_b x := by
  unfold dec_a6_b at h
  split at h
  · simp only [Option.some.injEq] at h
    subst h
    rfl
  · cases h
def S_s_l08Made : Sums := ⟨tblS [(89, run_s_l01Mod), (108, run_s_l01Inverse)], tblM []⟩
theorem SO_s_l08Made : SumsOK Try.prog S_s_l08Made := ⟨tblS_ok ⟨⟨Try.call89, sound_s_l01Mod⟩, ⟨Try.call108, sound_s_l01Inverse⟩, True.intro⟩, tblM_ok True.intro⟩
def T_s_l08Made_0 (p : Int) (listn : Nat) (listl : List Int) (first : Int) (i : Int) : Tab := ⟨[.val (.int .i64 p), .row 4, .junk, .junk, .ptr 16 0, .val (.bool false), .val (.int .i64 first), .ptr 28 0, .val (.int .i64 i), .junk, .junk, .val (.agg ⟨[.int .i64 0, .int .i64 0, .int .i64 0, .int .i64 0, .int .i64 0, .int .i64 0]⟩), .junk, .junk, .junk, .junk, .junk, .junk, .junk, .junk, .junk, .junk, .junk, .junk, .junk, .junk, .junk, .junk, .junk, .junk, .junk, .junk, .junk, .junk, .junk, .junk, .junk, .junk, .junk, .junk, .junk, .junk, .junk, .junk, .junk, .junk, .junk, .junk, .junk], [(4, .ros listn (.ints listl)), (16, .box 25 [.val (.int .i64 0), .val (.int .i64 0), .val (.int .i64 0), .val (.int .i64 0), .val (.int .i64 0), .val (.int .i64 0)]), (28, .box 25 [.val (.int .i64 0), .val (.int .i64 0), .val (.int .i64 0), .val (.int .i64 0), .val (.int .i64 0), .val (.int .i64 0)])]⟩
def X_s_l08Made_0 (P : Program) (fu : Nat) (p : Int) (listn : Nat) (listl : List Int) (f : Nat) (first : Int) (i : Int) : Option ((Int × Int × Int × Int × Int × Int) × Bool) := loopK (exec P S_s_l08Made 49 (fuelOf fu [3]) (Code.sub [1, 1, 0, 1, 0, 0] (bodyF P 62))) f (T_s_l08Made_0 p listn listl first i) (kBlock 0 (kSeq (fun s => exec P S_s_l08Made 49 (fuelOf fu [3]) (Code.sub [1, 1, 1] (bodyF P 62)) s (finT P 62 dec_a6_b)) (finT P 62 dec_a6_b)))
def B_s_l08Made_0 (p : Int) (listn : Nat) (listl : List Int) (rec0 : Int → Int → Option ((Int × Int × Int × Int × Int × Int) × Bool)) (first : Int) (i : Int) : Option ((Int × Int × Int × Int × Int × Int) × Bool) :=
  (if (decide (i < 3)) = true then (if (first == 0) = true then (if (decide (0 ≤ i) && decide (i < ((listn : Nat) : Int))) = true then (if (Nat.ble (i.toNat * 1 + 1) listl.length) = true then (if (prB p) = true then rec0 (s_l01Mod (listl.getD (i.toNat * 1) 0) p) (wI (i + 1)) else none) else none) else none) else (if (first == 0) = true then some ((0, 0, 0, 0, 0, 0), false) else (if (prB p) = true then (if (decide (0 ≤ 0) && decide (0 < ((listn : Nat) : Int))) = true then (if (Nat.ble (1) listl.length) = true then (if (!(p == 0)) = true then (if (prB p) = true then (if (decide (0 ≤ 1) && decide (1 < ((listn : Nat) : Int))) = true then (if (Nat.ble (2) listl.length) = true then (if (!(p == 0)) = true then (if (prB p) = true then (if (decide (0 ≤ 2) && decide (2 < ((listn : Nat) : Int))) = true then (if (Nat.ble (3) listl.length) = true then (if (!(p == 0)) = true then (if (prB p) = true then (if (decide (0 ≤ 3) && decide (3 < ((listn : Nat) : Int))) = true then (if (Nat.ble (4) listl.length) = true then (if (!(p == 0)) = true then (if (prB p) = true then (if (decide (0 ≤ 4) && decide (4 < ((listn : Nat) : Int))) = true then (if (Nat.ble (5) listl.length) = true then (if (!(p == 0)) = true then (if (prB p) = true then (if (decide (0 ≤ 5) && decide (5 < ((listn : Nat) : Int))) = true then (if (Nat.ble (6) listl.length) = true then (if (!(p == 0)) = true then (if (prB p) = true then some (((s_l01Mod (wI (((listl.getD 0 0).tmod p) * (s_l01Inverse first p))) p), (s_l01Mod (wI (((listl.getD 1 0).tmod p) * (s_l01Inverse first p))) p), (s_l01Mod (wI (((listl.getD 2 0).tmod p) * (s_l01Inverse first p))) p), (s_l01Mod (wI (((listl.getD 3 0).tmod p) * (s_l01Inverse first p))) p), (s_l01Mod (wI (((listl.getD 4 0).tmod p) * (s_l01Inverse first p))) p), (s_l01Mod (wI (((listl.getD 5 0).tmod p) * (s_l01Inverse first p))) p)), true) else none) else none) else none) else none) else none) else none) else none) else none) else none) else none) else none) else none) else none) else none) else none) else none) else none) else none) else none) else none) else none) else none) else none) else none) else none))) else (if (first == 0) = true then some ((0, 0, 0, 0, 0, 0), false) else (if (prB p) = true then (if (decide (0 ≤ 0) && decide (0 < ((listn : Nat) : Int))) = true then (if (Nat.ble (1) listl.length) = true then (if (!(p == 0)) = true then (if (prB p) = true then (if (decide (0 ≤ 1) && decide (1 < ((listn : Nat) : Int))) = true then (if (Nat.ble (2) listl.length) = true then (if (!(p == 0)) = true then (if (prB p) = true then (if (decide (0 ≤ 2) && decide (2 < ((listn : Nat) : Int))) = true then (if (Nat.ble (3) listl.length) = true then (if (!(p == 0)) = true then (if (prB p) = true then (if (decide (0 ≤ 3) && decide (3 < ((listn : Nat) : Int))) = true then (if (Nat.ble (4) listl.length) = true then (if (!(p == 0)) = true then (if (prB p) = true then (if (decide (0 ≤ 4) && decide (4 < ((listn : Nat) : Int))) = true then (if (Nat.ble (5) listl.length) = true then (if (!(p == 0)) = true then (if (prB p) = true then (if (decide (0 ≤ 5) && decide (5 < ((listn : Nat) : Int))) = true then (if (Nat.ble (6) listl.length) = true then (if (!(p == 0)) = true then (if (prB p) = true then some (((s_l01Mod (wI (((listl.getD 0 0).tmod p) * (s_l01Inverse first p))) p), (s_l01Mod (wI (((listl.getD 1 0).tmod p) * (s_l01Inverse first p))) p), (s_l01Mod (wI (((listl.getD 2 0).tmod p) * (s_l01Inverse first p))) p), (s_l01Mod (wI (((listl.getD 3 0).tmod p) * (s_l01Inverse first p))) p), (s_l01Mod (wI (((listl.getD 4 0).tmod p) * (s_l01Inverse first p))) p), (s_l01Mod (wI (((listl.getD 5 0).tmod p) * (s_l01Inverse first p))) p)), true) else none) else none) else none) else none) else none) else none) else none) else none) else none) else none) else none) else none) else none) else none) else none) else none) else none) else none) else none) else none) else none) else none) else none) else none) else none)))
def L_s_l08Made_0 (fu : Nat) (p : Int) (listn : Nat) (listl : List Int) : Nat → Int → Int → Option ((Int × Int × Int × Int × Int × Int) × Bool)
  | 0, _, _ => none
  | f + 1, first, i => B_s_l08Made_0 p listn listl (L_s_l08Made_0 fu p listn listl f) first i
theorem loop_s_l08Made_0 (fu : Nat) (p : Int) (listn : Nat) (listl : List Int) : ∀ (f : Nat) (first : Int) (i : Int), X_s_l08Made_0 Try.prog fu p listn listl f first i = L_s_l08Made_0 fu p listn listl f first i := by
  intro f
  induction f with
  | zero => intros; rfl
  | succ f ih =>
    intro first i
    have h1 : X_s_l08Made_0 Try.prog fu p listn listl (f + 1) first i = B_s_l08Made_0 p listn listl (X_s_l08Made_0 Try.prog fu p listn listl f) first i := by kernel_rfl
    have h2 : X_s_l08Made_0 Try.prog fu p listn listl f = L_s_l08Made_0 fu p listn listl f := by funext first i; exact ih first i
    rw [h1, h2]
    rfl
def G_s_l08Made (p : Int) (listn : Nat) (listl : List Int) (lo0 : Int → Int → Option ((Int × Int × Int × Int × Int × Int) × Bool)) : Option ((Int × Int × Int × Int × Int × Int) × Bool) :=
  lo0 0 0
def Fo_s_l08Made (fu : Nat) (p : Int) (listn : Nat) (listl : List Int) : Option ((Int × Int × Int × Int × Int × Int) × Bool) := G_s_l08Made p listn listl (L_s_l08Made_0 fu p listn listl fu)
theorem eqg_s_l08Made (fu : Nat) (p : Int) (listn : Nat) (listl : List Int) : execT Try.prog S_s_l08Made 62 49 (fuelOf fu [3]) dec_a6_b [.v (.int .i64 p), .s listn (.ints listl)] = G_s_l08Made p listn listl (L_s_l08Made_0 fu p listn listl fu) := by
  have h1 : execT Try.prog S_s_l08Made 62 49 (fuelOf fu [3]) dec_a6_b [.v (.int .i64 p), .s listn (.ints listl)] = G_s_l08Made p listn listl (X_s_l08Made_0 Try.prog fu p listn listl fu) := by kernel_rfl
  have c0 : X_s_l08Made_0 Try.prog fu p listn listl fu = L_s_l08Made_0 fu p listn listl fu := by funext first i; exact loop_s_l08Made_0 fu p listn listl fu first i
  rw [h1, c0]
theorem eq_s_l08Made (fu : Nat) (p : Int) (listn : Nat) (listl : List Int) : execT Try.prog S_s_l08Made 62 49 (fuelOf fu [3]) dec_a6_b [.v (.int .i64 p), .s listn (.ints listl)] = Fo_s_l08Made fu p listn listl := eqg_s_l08Made fu p listn listl
def madeOf (p first : Int) (l : List Int) : P6 × Bool := if (first == 0) = true then ((0, 0, 0, 0, 0, 0), false) else ((s_l01Mod (wrap64 ((l.getD 0 0).tmod p * s_l01Inverse first p)) p, s_l01Mod (wrap64 ((l.getD 1 0).tmod p * s_l01Inverse first p)) p, s_l01Mod (wrap64 ((l.getD 2 0).tmod p * s_l01Inverse first p)) p, s_l01Mod (wrap64 ((l.getD 3 0).tmod p * s_l01Inverse first p)) p, s_l01Mod (wrap64 ((l.getD 4 0).tmod p * s_l01Inverse first p)) p, s_l01Mod (wrap64 ((l.getD 5 0).tmod p * s_l01Inverse first p)) p), true)
def madeFirst (p : Int) (l : List Int) : Int := if (s_l01Mod (l.getD 0 0) p == 0) = true then (if (s_l01Mod (l.getD 1 0) p == 0) = true then s_l01Mod (l.getD 2 0) p else s_l01Mod (l.getD 1 0) p) else s_l01Mod (l.getD 0 0) p
def s_l08Made (p : Int) (n : Nat) (l : List Int) : P6 × Bool := madeOf p (madeFirst p l) l
theorem made_end {p : Int} (hp : prB p = true) {a b c d e f : Int} (fu F : Nat) (x : Int) (h : x ≠ 0) (i : Int) : L_s_l08Made_0 fu p 6 [a, b, c, d, e, f] (F + 1) x i = some (madeOf p x [a, b, c, d, e, f]) := by
  show B_s_l08Made_0 p 6 [a, b, c, d, e, f] _ x i = _
  have hx : ¬ (x == 0) = true := by simpa using h
  have h0 := prB_ne hp
  have hm : madeOf p x [a, b, c, d, e, f] = ((s_l01Mod (wrap64 (a.tmod p * s_l01Inverse x p)) p, s_l01Mod (wrap64 (b.tmod p * s_l01Inverse x p)) p, s_l01Mod (wrap64 (c.tmod p * s_l01Inverse x p)) p, s_l01Mod (wrap64 (d.tmod p * s_l01Inverse x p)) p, s_l01Mod (wrap64 (e.tmod p * s_l01Inverse x p)) p, s_l01Mod (wrap64 (f.tmod p * s_l01Inverse x p)) p), true) := by
    unfold madeOf
    rw [if_neg hx]
    rfl
  rw [hm]
  unfold B_s_l08Made_0
  by_cases hi : decide (i < 3) = true
  · rw [if_pos hi]
    repeat rw [if_neg hx]
    repeat' (refine chk_opt (by first | exact hp | exact h0 | rfl) ?_)
    simp only [wI_eq]
    rfl
  · rw [if_neg hi]
    repeat rw [if_neg hx]
    repeat' (refine chk_opt (by first | exact hp | exact h0 | rfl) ?_)
    simp only [wI_eq]
    rfl
theorem made_zero {p : Int} {a b c d e f : Int} (fu F : Nat) : L_s_l08Made_0 fu p 6 [a, b, c, d, e, f] (F + 1) 0 3 = some (madeOf p 0 [a, b, c, d, e, f]) := rfl
theorem made_go0 {p : Int} (hp : prB p = true) {a b c d e f : Int} (fu F : Nat) : L_s_l08Made_0 fu p 6 [a, b, c, d, e, f] (F + 1) 0 0 = L_s_l08Made_0 fu p 6 [a, b, c, d, e, f] F (s_l01Mod a p) 1 := by
  show B_s_l08Made_0 p 6 [a, b, c, d, e, f] _ 0 0 = _
  have e : wI (0 + 1) = 1 := by rw [wI_eq]; unfold wrap64; omega
  unfold B_s_l08Made_0
  rw [hp, e]; rfl
theorem made_go1 {p : Int} (hp : prB p = true) {a b c d e f : Int} (fu F : Nat) : L_s_l08Made_0 fu p 6 [a, b, c, d, e, f] (F + 1) 0 1 = L_s_l08Made_0 fu p 6 [a, b, c, d, e, f] F (s_l01Mod b p) 2 := by
  show B_s_l08Made_0 p 6 [a, b, c, d, e, f] _ 0 1 = _
  have e : wI (1 + 1) = 2 := by rw [wI_eq]; unfold wrap64; omega
  unfold B_s_l08Made_0
  rw [hp, e]; rfl
theorem made_go2 {p : Int} (hp : prB p = true) {a b c d e f : Int} (fu F : Nat) : L_s_l08Made_0 fu p 6 [a, b, c, d, e, f] (F + 1) 0 2 = L_s_l08Made_0 fu p 6 [a, b, c, d, e, f] F (s_l01Mod c p) 3 := by
  show B_s_l08Made_0 p 6 [a, b, c, d, e, f] _ 0 2 = _
  have e : wI (2 + 1) = 3 := by rw [wI_eq]; unfold wrap64; omega
  unfold B_s_l08Made_0
  rw [hp, e]; rfl
theorem made_all {p : Int} (hp : prB p = true) {a b c d e f : Int} (fu F : Nat) : L_s_l08Made_0 fu p 6 [a, b, c, d, e, f] (F + 3) (s_l01Mod a p) 1 = some (madeOf p (madeFirst p [a, b, c, d, e, f]) [a, b, c, d, e, f]) := by
  unfold madeFirst
  by_cases ha : s_l01Mod a p = 0
  · by_cases hb : s_l01Mod b p = 0
    · rw [ha, made_go1 hp, hb, made_go2 hp]
      have e : (if (s_l01Mod ([a, b, c, d, e, f].getD 0 0) p == 0) = true then (if (s_l01Mod ([a, b, c, d, e, f].getD 1 0) p == 0) = true then s_l01Mod ([a, b, c, d, e, f].getD 2 0) p else s_l01Mod ([a, b, c, d, e, f].getD 1 0) p) else s_l01Mod ([a, b, c, d, e, f].getD 0 0) p) = s_l01Mod c p := by
        show (if (s_l01Mod a p == 0) = true then (if (s_l01Mod b p == 0) = true then s_l01Mod c p else s_l01Mod b p) else s_l01Mod a p) = _
        simp [ha, hb]
      rw [e]
      by_cases hc : s_l01Mod c p = 0
      · rw [hc, made_zero]
      · rw [made_end hp _ _ _ hc]
    · have e : (if (s_l01Mod ([a, b, c, d, e, f].getD 0 0) p == 0) = true then (if (s_l01Mod ([a, b, c, d, e, f].getD 1 0) p == 0) = true then s_l01Mod ([a, b, c, d, e, f].getD 2 0) p else s_l01Mod ([a, b, c, d, e, f].getD 1 0) p) else s_l01Mod ([a, b, c, d, e, f].getD 0 0) p) = s_l01Mod b p := by
        show (if (s_l01Mod a p == 0) = true then (if (s_l01Mod b p == 0) = true then s_l01Mod c p else s_l01Mod b p) else s_l01Mod a p) = _
        simp [ha, hb]
      rw [e, ha, made_go1 hp, made_end hp _ _ _ hb]
  · have e : (if (s_l01Mod ([a, b, c, d, e, f].getD 0 0) p == 0) = true then (if (s_l01Mod ([a, b, c, d, e, f].getD 1 0) p == 0) = true then s_l01Mod ([a, b, c, d, e, f].getD 2 0) p else s_l01Mod ([a, b, c, d, e, f].getD 1 0) p) else s_l01Mod ([a, b, c, d, e, f].getD 0 0) p) = s_l01Mod a p := by
      show (if (s_l01Mod a p == 0) = true then (if (s_l01Mod b p == 0) = true then s_l01Mod c p else s_l01Mod b p) else s_l01Mod a p) = _
      simp [ha]
    rw [e, made_end hp _ _ _ ha]
theorem tot_s_l08Made (p : Int) (listn : Nat) (listl : List Int) (hp : (prB p && (Nat.beq listn 6 && Nat.beq listl.length 6)) = true) : Fo_s_l08Made 1000000 p listn listl = some (s_l08Made p listn listl) := by
  simp only [Bool.and_eq_true] at hp
  obtain ⟨hp, hn, hl⟩ := hp
  obtain rfl : listn = 6 := Nat.eq_of_beq_eq_true hn
  obtain ⟨a, b, c, d, e, f, rfl⟩ := len6' (Nat.eq_of_beq_eq_true hl)
  unfold Fo_s_l08Made G_s_l08Made
  rw [show (1000000 : Nat) = 999996 + 3 + 1 from rfl, made_go0 hp]
  exact made_all hp _ 999996
def run_s_l08Made : List PV → Option (Bool × List TR)
  | [.v (.int .i64 p), .s listn (.ints listl)] => some (prB p && (Nat.beq listn 6 && Nat.beq listl.length 6), enc_a6_b (s_l08Made p listn listl))
  | _ => none
theorem sound_s_l08Made : Sound Try.prog 62 run_s_l08Made := by
  refine sound_of de_a6_b SO_s_l08Made (by kernel_rfl) Try.func62 Try.ntmps62 rfl (by kernel_rfl) ?_
  intro W pvs avs rs hargs hrun
  unfold run_s_l08Made at hrun
  split at hrun
  · simp only [Option.some.injEq, Prod.mk.injEq] at hrun
    obtain ⟨hp, rfl⟩ := hrun
    rename_i p listn listl
    exact ⟨_, _, _, hargs, rfl, (eq_s_l08Made _ p listn listl).trans (tot_s_l08Made p listn listl hp)⟩
  · cases hrun

def S_i_makeConic : Sums := ⟨tblS [(94, run_i_rest), (110, run_i_divide)], tblM []⟩
theorem SO_i_makeConic : SumsOK Try.prog S_i_makeConic := ⟨tblS_ok ⟨⟨Try.call94, sound_i_rest⟩, ⟨Try.call110, sound_i_divide⟩, True.intro⟩, tblM_ok True.intro⟩
def Fo_i_makeConic (p : Int) (list : Int × Int × Int × Int × Int × Int) : Option ((Int × Int × Int × Int × Int × Int) × Bool) :=
  (if (prB p) = true then (if (prB p) = true then (if ((i_rest p list.1) == 0) = true then (if (prB p) = true then (if ((i_rest p list.2.1) == 0) = true then (if (prB p) = true then (if ((i_rest p list.2.2.1) == 0) = true then (if (prB p) = true then (if ((i_rest p list.2.2.1) == 0) = true then (if (prB p) = true then (if ((i_rest p list.2.2.1) == 0) = true then (if ((i_rest p list.2.2.1) == 0) = true then some ((0, 0, 0, 0, 0, 0), false) else (if (prB p) = true then (if (prB p) = true then (if (prB p) = true then (if (prB p) = true then (if (prB p) = true then (if (prB p) = true then some (((i_divide p (i_rest p list.1) (i_rest p list.2.2.1)), (i_divide p (i_rest p list.2.1) (i_rest p list.2.2.1)), (i_divide p (i_rest p list.2.2.1) (i_rest p list.2.2.1)), (i_divide p (i_rest p list.2.2.2.1) (i_rest p list.2.2.1)), (i_divide p (i_rest p list.2.2.2.2.1) (i_rest p list.2.2.1)), (i_divide p (i_rest p list.2.2.2.2.2) (i_rest p list.2.2.1))), true) else none) else none) else none) else none) else none) else none)) else (if ((i_rest p list.2.2.1) == 0) = true then some ((0, 0, 0, 0, 0, 0), false) else (if (prB p) = true then (if (prB p) = true then (if (prB p) = true then (if (prB p) = true then (if (prB p) = true then (if (prB p) = true then some (((i_divide p (i_rest p list.1) (i_rest p list.2.2.1)), (i_divide p (i_rest p list.2.1) (i_rest p list.2.2.1)), (i_divide p (i_rest p list.2.2.1) (i_rest p list.2.2.1)), (i_divide p (i_rest p list.2.2.2.1) (i_rest p list.2.2.1)), (i_divide p (i_rest p list.2.2.2.2.1) (i_rest p list.2.2.1)), (i_divide p (i_rest p list.2.2.2.2.2) (i_rest p list.2.2.1))), true) else none) else none) else none) else none) else none) else none))) else none) else (if (prB p) = true then (if ((i_rest p list.2.2.1) == 0) = true then (if ((i_rest p list.2.2.1) == 0) = true then some ((0, 0, 0, 0, 0, 0), false) else (if (prB p) = true then (if (prB p) = true then (if (prB p) = true then (if (prB p) = true then (if (prB p) = true then (if (prB p) = true then some (((i_divide p (i_rest p list.1) (i_rest p list.2.2.1)), (i_divide p (i_rest p list.2.1) (i_rest p list.2.2.1)), (i_divide p (i_rest p list.2.2.1) (i_rest p list.2.2.1)), (i_divide p (i_rest p list.2.2.2.1) (i_rest p list.2.2.1)), (i_divide p (i_rest p list.2.2.2.2.1) (i_rest p list.2.2.1)), (i_divide p (i_rest p list.2.2.2.2.2) (i_rest p list.2.2.1))), true) else none) else none) else none) else none) else none) else none)) else (if ((i_rest p list.2.2.1) == 0) = true then some ((0, 0, 0, 0, 0, 0), false) else (if (prB p) = true then (if (prB p) = true then (if (prB p) = true then (if (prB p) = true then (if (prB p) = true then (if (prB p) = true then some (((i_divide p (i_rest p list.1) (i_rest p list.2.2.1)), (i_divide p (i_rest p list.2.1) (i_rest p list.2.2.1)), (i_divide p (i_rest p list.2.2.1) (i_rest p list.2.2.1)), (i_divide p (i_rest p list.2.2.2.1) (i_rest p list.2.2.1)), (i_divide p (i_rest p list.2.2.2.2.1) (i_rest p list.2.2.1)), (i_divide p (i_rest p list.2.2.2.2.2) (i_rest p list.2.2.1))), true) else none) else none) else none) else none) else none) else none))) else none)) else none) else (if (prB p) = true then (if ((i_rest p list.2.2.1) == 0) = true then (if (prB p) = true then (if ((i_rest p list.2.2.1) == 0) = true then (if ((i_rest p list.2.2.1) == 0) = true then some ((0, 0, 0, 0, 0, 0), false) else (if (prB p) = true then (if (prB p) = true then (if (prB p) = true then (if (prB p) = true then (if (prB p) = true then (if (prB p) = true then some (((i_divide p (i_rest p list.1) (i_rest p list.2.2.1)), (i_divide p (i_rest p list.2.1) (i_rest p list.2.2.1)), (i_divide p (i_rest p list.2.2.1) (i_rest p list.2.2.1)), (i_divide p (i_rest p list.2.2.2.1) (i_rest p list.2.2.1)), (i_divide p (i_rest p list.2.2.2.2.1) (i_rest p list.2.2.1)), (i_divide p (i_rest p list.2.2.2.2.2) (i_rest p list.2.2.1))), true) else none) else none) else none) else none) else none) else none)) else (if ((i_rest p list.2.2.1) == 0) = true then some ((0, 0, 0, 0, 0, 0), false) else (if (prB p) = true then (if (prB p) = true then (if (prB p) = true then (if (prB p) = true then (if (prB p) = true then (if (prB p) = true then some (((i_divide p (i_rest p list.1) (i_rest p list.2.2.1)), (i_divide p (i_rest p list.2.1) (i_rest p list.2.2.1)), (i_divide p (i_rest p list.2.2.1) (i_rest p list.2.2.1)), (i_divide p (i_rest p list.2.2.2.1) (i_rest p list.2.2.1)), (i_divide p (i_rest p list.2.2.2.2.1) (i_rest p list.2.2.1)), (i_divide p (i_rest p list.2.2.2.2.2) (i_rest p list.2.2.1))), true) else none) else none) else none) else none) else none) else none))) else none) else (if (prB p) = true then (if ((i_rest p list.2.2.1) == 0) = true then (if ((i_rest p list.2.2.1) == 0) = true then some ((0, 0, 0, 0, 0, 0), false) else (if (prB p) = true then (if (prB p) = true then (if (prB p) = true then (if (prB p) = true then (if (prB p) = true then (if (prB p) = true then some (((i_divide p (i_rest p list.1) (i_rest p list.2.2.1)), (i_divide p (i_rest p list.2.1) (i_rest p list.2.2.1)), (i_divide p (i_rest p list.2.2.1) (i_rest p list.2.2.1)), (i_divide p (i_rest p list.2.2.2.1) (i_rest p list.2.2.1)), (i_divide p (i_rest p list.2.2.2.2.1) (i_rest p list.2.2.1)), (i_divide p (i_rest p list.2.2.2.2.2) (i_rest p list.2.2.1))), true) else none) else none) else none) else none) else none) else none)) else (if ((i_rest p list.2.2.1) == 0) = true then some ((0, 0, 0, 0, 0, 0), false) else (if (prB p) = true then (if (prB p) = true then (if (prB p) = true then (if (prB p) = true then (if (prB p) = true then (if (prB p) = true then some (((i_divide p (i_rest p list.1) (i_rest p list.2.2.1)), (i_divide p (i_rest p list.2.1) (i_rest p list.2.2.1)), (i_divide p (i_rest p list.2.2.1) (i_rest p list.2.2.1)), (i_divide p (i_rest p list.2.2.2.1) (i_rest p list.2.2.1)), (i_divide p (i_rest p list.2.2.2.2.1) (i_rest p list.2.2.1)), (i_divide p (i_rest p list.2.2.2.2.2) (i_rest p list.2.2.1))), true) else none) else none) else none) else none) else none) else none))) else none)) else none)) else none) else (if (prB p) = true then (if ((i_rest p list.2.1) == 0) = true then (if (prB p) = true then (if ((i_rest p list.2.1) == 0) = true then (if (prB p) = true then (if ((i_rest p list.2.1) == 0) = true then (if ((i_rest p list.2.1) == 0) = true then some ((0, 0, 0, 0, 0, 0), false) else (if (prB p) = true then (if (prB p) = true then (if (prB p) = true then (if (prB p) = true then (if (prB p) = true then (if (prB p) = true then some (((i_divide p (i_rest p list.1) (i_rest p list.2.1)), (i_divide p (i_rest p list.2.1) (i_rest p list.2.1)), (i_divide p (i_rest p list.2.2.1) (i_rest p list.2.1)), (i_divide p (i_rest p list.2.2.2.1) (i_rest p list.2.1)), (i_divide p (i_rest p list.2.2.2.2.1) (i_rest p list.2.1)), (i_divide p (i_rest p list.2.2.2.2.2) (i_rest p list.2.1))), true) else none) else none) else none) else none) else none) else none)) else (if ((i_rest p list.2.1) == 0) = true then some ((0, 0, 0, 0, 0, 0), false) else (if (prB p) = true then (if (prB p) = true then (if (prB p) = true then (if (prB p) = true then (if (prB p) = true then (if (prB p) = true then some (((i_divide p (i_rest p list.1) (i_rest p list.2.1)), (i_divide p (i_rest p list.2.1) (i_rest p list.2.1)), (i_divide p (i_rest p list.2.2.1) (i_rest p list.2.1)), (i_divide p (i_rest p list.2.2.2.1) (i_rest p list.2.1)), (i_divide p (i_rest p list.2.2.2.2.1) (i_rest p list.2.1)), (i_divide p (i_rest p list.2.2.2.2.2) (i_rest p list.2.1))), true) else none) else none) else none) else none) else none) else none))) else none) else (if (prB p) = true then (if ((i_rest p list.2.1) == 0) = true then (if ((i_rest p list.2.1) == 0) = true then some ((0, 0, 0, 0, 0, 0), false) else (if (prB p) = true then (if (prB p) = true then (if (prB p) = true then (if (prB p) = true then (if (prB p) = true then (if (prB p) = true then some (((i_divide p (i_rest p list.1) (i_rest p list.2.1)), (i_divide p (i_rest p list.2.1) (i_rest p list.2.1)), (i_divide p (i_rest p list.2.2.1) (i_rest p list.2.1)), (i_divide p (i_rest p list.2.2.2.1) (i_rest p list.2.1)), (i_divide p (i_rest p list.2.2.2.2.1) (i_rest p list.2.1)), (i_divide p (i_rest p list.2.2.2.2.2) (i_rest p list.2.1))), true) else none) else none) else none) else none) else none) else none)) else (if ((i_rest p list.2.1) == 0) = true then some ((0, 0, 0, 0, 0, 0), false) else (if (prB p) = true then (if (prB p) = true then (if (prB p) = true then (if (prB p) = true then (if (prB p) = true then (if (prB p) = true then some (((i_divide p (i_rest p list.1) (i_rest p list.2.1)), (i_divide p (i_rest p list.2.1) (i_rest p list.2.1)), (i_divide p (i_rest p list.2.2.1) (i_rest p list.2.1)), (i_divide p (i_rest p list.2.2.2.1) (i_rest p list.2.1)), (i_divide p (i_rest p list.2.2.2.2.1) (i_rest p list.2.1)), (i_divide p (i_rest p list.2.2.2.2.2) (i_rest p list.2.1))), true) else none) else none) else none) else none) else none) else none))) else none)) else none) else (if (prB p) = true then (if ((i_rest p list.2.1) == 0) = true then (if (prB p) = true then (if ((i_rest p list.2.1) == 0) = true then (if ((i_rest p list.2.1) == 0) = true then some ((0, 0, 0, 0, 0, 0), false) else (if (prB p) = true then (if (prB p) = true then (if (prB p) = true then (if (prB p) = true then (if (prB p) = true then (if (prB p) = true then some (((i_divide p (i_rest p list.1) (i_rest p list.2.1)), (i_divide p (i_rest p list.2.1) (i_rest p list.2.1)), (i_divide p (i_rest p list.2.2.1) (i_rest p list.2.1)), (i_divide p (i_rest p list.2.2.2.1) (i_rest p list.2.1)), (i_divide p (i_rest p list.2.2.2.2.1) (i_rest p list.2.1)), (i_divide p (i_rest p list.2.2.2.2.2) (i_rest p list.2.1))), true) else none) else none) else none) else none) else none) else none)) else (if ((i_rest p list.2.1) == 0) = true then some ((0, 0, 0, 0, 0, 0), false) else (if (prB p) = true then (if (prB p) = true then (if (prB p) = true then (if (prB p) = true then (if (prB p) = true then (if (prB p) = true then some (((i_divide p (i_rest p list.1) (i_rest p list.2.1)), (i_divide p (i_rest p list.2.1) (i_rest p list.2.1)), (i_divide p (i_rest p list.2.2.1) (i_rest p list.2.1)), (i_divide p (i_rest p list.2.2.2.1) (i_rest p list.2.1)), (i_divide p (i_rest p list.2.2.2.2.1) (i_rest p list.2.1)), (i_divide p (i_rest p list.2.2.2.2.2) (i_rest p list.2.1))), true) else none) else none) else none) else none) else none) else none))) else none) else (if (prB p) = true then (if ((i_rest p list.2.1) == 0) = true then (if ((i_rest p list.2.1) == 0) = true then some ((0, 0, 0, 0, 0, 0), false) else (if (prB p) = true then (if (prB p) = true then (if (prB p) = true then (if (prB p) = true then (if (prB p) = true then (if (prB p) = true then some (((i_divide p (i_rest p list.1) (i_rest p list.2.1)), (i_divide p (i_rest p list.2.1) (i_rest p list.2.1)), (i_divide p (i_rest p list.2.2.1) (i_rest p list.2.1)), (i_divide p (i_rest p list.2.2.2.1) (i_rest p list.2.1)), (i_divide p (i_rest p list.2.2.2.2.1) (i_rest p list.2.1)), (i_divide p (i_rest p list.2.2.2.2.2) (i_rest p list.2.1))), true) else none) else none) else none) else none) else none) else none)) else (if ((i_rest p list.2.1) == 0) = true then some ((0, 0, 0, 0, 0, 0), false) else (if (prB p) = true then (if (prB p) = true then (if (prB p) = true then (if (prB p) = true then (if (prB p) = true then (if (prB p) = true then some (((i_divide p (i_rest p list.1) (i_rest p list.2.1)), (i_divide p (i_rest p list.2.1) (i_rest p list.2.1)), (i_divide p (i_rest p list.2.2.1) (i_rest p list.2.1)), (i_divide p (i_rest p list.2.2.2.1) (i_rest p list.2.1)), (i_divide p (i_rest p list.2.2.2.2.1) (i_rest p list.2.1)), (i_divide p (i_rest p list.2.2.2.2.2) (i_rest p list.2.1))), true) else none) else none) else none) else none) else none) else none))) else none)) else none)) else none)) else none) else (if (prB p) = true then (if ((i_rest p list.1) == 0) = true then (if (prB p) = true then (if ((i_rest p list.2.2.1) == 0) = true then (if (prB p) = true then (if ((i_rest p list.2.2.1) == 0) = true then (if (prB p) = true then (if ((i_rest p list.2.2.1) == 0) = true then (if ((i_rest p list.2.2.1) == 0) = true then some ((0, 0, 0, 0, 0, 0), false) else (if (prB p) = true then (if (prB p) = true then (if (prB p) = true then (if (prB p) = true then (if (prB p) = true then (if (prB p) = true then some (((i_divide p (i_rest p list.1) (i_rest p list.2.2.1)), (i_divide p (i_rest p list.2.1) (i_rest p list.2.2.1)), (i_divide p (i_rest p list.2.2.1) (i_rest p list.2.2.1)), (i_divide p (i_rest p list.2.2.2.1) (i_rest p list.2.2.1)), (i_divide p (i_rest p list.2.2.2.2.1) (i_rest p list.2.2.1)), (i_divide p (i_rest p list.2.2.2.2.2) (i_rest p list.2.2.1))), true) else none) else none) else none) else none) else none) else none)) else (if ((i_rest p list.2.2.1) == 0) = true then some ((0, 0, 0, 0, 0, 0), false) else (if (prB p) = true then (if (prB p) = true then (if (prB p) = true then (if (prB p) = true then (if (prB p) = true then (if (prB p) = true then some (((i_divide p (i_rest p list.1) (i_rest p list.2.2.1)), (i_divide p (i_rest p list.2.1) (i_rest p list.2.2.1)), (i_divide p (i_rest p list.2.2.1) (i_rest p list.2.2.1)), (i_divide p (i_rest p list.2.2.2.1) (i_rest p list.2.2.1)), (i_divide p (i_rest p list.2.2.2.2.1) (i_rest p list.2.2.1)), (i_divide p (i_rest p list.2.2.2.2.2) (i_rest p list.2.2.1))), true) else none) else none) else none) else none) else none) else none))) else none) else (if (prB p) = true then (if ((i_rest p list.2.2.1) == 0) = true then (if ((i_rest p list.2.2.1) == 0) = true then some ((0, 0, 0, 0, 0, 0), false) else (if (prB p) = true then (if (prB p) = true then (if (prB p) = true then (if (prB p) = true then (if (prB p) = true then (if (prB p) = true then some (((i_divide p (i_rest p list.1) (i_rest p list.2.2.1)), (i_divide p (i_rest p list.2.1) (i_rest p list.2.2.1)), (i_divide p (i_rest p list.2.2.1) (i_rest p list.2.2.1)), (i_divide p (i_rest p list.2.2.2.1) (i_rest p list.2.2.1)), (i_divide p (i_rest p list.2.2.2.2.1) (i_rest p list.2.2.1)), (i_divide p (i_rest p list.2.2.2.2.2) (i_rest p list.2.2.1))), true) else none) else none) else none) else none) else none) else none)) else (if ((i_rest p list.2.2.1) == 0) = true then some ((0, 0, 0, 0, 0, 0), false) else (if (prB p) = true then (if (prB p) = true then (if (prB p) = true then (if (prB p) = true then (if (prB p) = true then (if (prB p) = true then some (((i_divide p (i_rest p list.1) (i_rest p list.2.2.1)), (i_divide p (i_rest p list.2.1) (i_rest p list.2.2.1)), (i_divide p (i_rest p list.2.2.1) (i_rest p list.2.2.1)), (i_divide p (i_rest p list.2.2.2.1) (i_rest p list.2.2.1)), (i_divide p (i_rest p list.2.2.2.2.1) (i_rest p list.2.2.1)), (i_divide p (i_rest p list.2.2.2.2.2) (i_rest p list.2.2.1))), true) else none) else none) else none) else none) else none) else none))) else none)) else none) else (if (prB p) = true then (if ((i_rest p list.2.2.1) == 0) = true then (if (prB p) = true then (if ((i_rest p list.2.2.1) == 0) = true then (if ((i_rest p list.2.2.1) == 0) = true then some ((0, 0, 0, 0, 0, 0), false) else (if (prB p) = true then (if (prB p) = true then (if (prB p) = true then (if (prB p) = true then (if (prB p) = true then (if (prB p) = true then some (((i_divide p (i_rest p list.1) (i_rest p list.2.2.1)), (i_divide p (i_rest p list.2.1) (i_rest p list.2.2.1)), (i_divide p (i_rest p list.2.2.1) (i_rest p list.2.2.1)), (i_divide p (i_rest p list.2.2.2.1) (i_rest p list.2.2.1)), (i_divide p (i_rest p list.2.2.2.2.1) (i_rest p list.2.2.1)), (i_divide p (i_rest p list.2.2.2.2.2) (i_rest p list.2.2.1))), true) else none) else none) else none) else none) else none) else none)) else (if ((i_rest p list.2.2.1) == 0) = true then some ((0, 0, 0, 0, 0, 0), false) else (if (prB p) = true then (if (prB p) = true then (if (prB p) = true then (if (prB p) = true then (if (prB p) = true then (if (prB p) = true then some (((i_divide p (i_rest p list.1) (i_rest p list.2.2.1)), (i_divide p (i_rest p list.2.1) (i_rest p list.2.2.1)), (i_divide p (i_rest p list.2.2.1) (i_rest p list.2.2.1)), (i_divide p (i_rest p list.2.2.2.1) (i_rest p list.2.2.1)), (i_divide p (i_rest p list.2.2.2.2.1) (i_rest p list.2.2.1)), (i_divide p (i_rest p list.2.2.2.2.2) (i_rest p list.2.2.1))), true) else none) else none) else none) else none) else none) else none))) else none) else (if (prB p) = true then (if ((i_rest p list.2.2.1) == 0) = true then (if ((i_rest p list.2.2.1) == 0) = true then some ((0, 0, 0, 0, 0, 0), false) else (if (prB p) = true then (if (prB p) = true then (if (prB p) = true then (if (prB p) = true then (if (prB p) = true then (if (prB p) = true then some (((i_divide p (i_rest p list.1) (i_rest p list.2.2.1)), (i_divide p (i_rest p list.2.1) (i_rest p list.2.2.1)), (i_divide p (i_rest p list.2.2.1) (i_rest p list.2.2.1)), (i_divide p (i_rest p list.2.2.2.1) (i_rest p list.2.2.1)), (i_divide p (i_rest p list.2.2.2.2.1) (i_rest p list.2.2.1)), (i_divide p (i_rest p list.2.2.2.2.2) (i_rest p list.2.2.1))), true) else none) else none) else none) else none) else none) else none)) else (if ((i_rest p list.2.2.1) == 0) = true then some ((0, 0, 0, 0, 0, 0), false) else (if (prB p) = true then (if (prB p) = true then (if (prB p) = true then (if (prB p) = true then (if (prB p) = true then (if (prB p) = true then some (((i_divide p (i_rest p list.1) (i_rest p list.2.2.1)), (i_divide p (i_rest p list.2.1) (i_rest p list.2.2.1)), (i_divide p (i_rest p list.2.2.1) (i_rest p list.2.2.1)), (i_divide p (i_rest p list.2.2.2.1) (i_rest p list.2.2.1)), (i_divide p (i_rest p list.2.2.2.2.1) (i_rest p list.2.2.1)), (i_divide p (i_rest p list.2.2.2.2.2) (i_rest p list.2.2.1))), true) else none) else none) else none) else none) else none) else none))) else none)) else none)) else none) else (if (prB p) = true then (if ((i_rest p list.1) == 0) = true then (if (prB p) = true then (if ((i_rest p list.1) == 0) = true then (if (prB p) = true then (if ((i_rest p list.1) == 0) = true then (if ((i_rest p list.1) == 0) = true then some ((0, 0, 0, 0, 0, 0), false) else (if (prB p) = true then (if (prB p) = true then (if (prB p) = true then (if (prB p) = true then (if (prB p) = true then (if (prB p) = true then some (((i_divide p (i_rest p list.1) (i_rest p list.1)), (i_divide p (i_rest p list.2.1) (i_rest p list.1)), (i_divide p (i_rest p list.2.2.1) (i_rest p list.1)), (i_divide p (i_rest p list.2.2.2.1) (i_rest p list.1)), (i_divide p (i_rest p list.2.2.2.2.1) (i_rest p list.1)), (i_divide p (i_rest p list.2.2.2.2.2) (i_rest p list.1))), true) else none) else none) else none) else none) else none) else none)) else (if ((i_rest p list.1) == 0) = true then some ((0, 0, 0, 0, 0, 0), false) else (if (prB p) = true then (if (prB p) = true then (if (prB p) = true then (if (prB p) = true then (if (prB p) = true then (if (prB p) = true then some (((i_divide p (i_rest p list.1) (i_rest p list.1)), (i_divide p (i_rest p list.2.1) (i_rest p list.1)), (i_divide p (i_rest p list.2.2.1) (i_rest p list.1)), (i_divide p (i_rest p list.2.2.2.1) (i_rest p list.1)), (i_divide p (i_rest p list.2.2.2.2.1) (i_rest p list.1)), (i_divide p (i_rest p list.2.2.2.2.2) (i_rest p list.1))), true) else none) else none) else none) else none) else none) else none))) else none) else (if (prB p) = true then (if ((i_rest p list.1) == 0) = true then (if ((i_rest p list.1) == 0) = true then some ((0, 0, 0, 0, 0, 0), false) else (if (prB p) = true then (if (prB p) = true then (if (prB p) = true then (if (prB p) = true then (if (prB p) = true then (if (prB p) = true then some (((i_divide p (i_rest p list.1) (i_rest p list.1)), (i_divide p (i_rest p list.2.1) (i_rest p list.1)), (i_divide p (i_rest p list.2.2.1) (i_rest p list.1)), (i_divide p (i_rest p list.2.2.2.1) (i_rest p list.1)), (i_divide p (i_rest p list.2.2.2.2.1) (i_rest p list.1)), (i_divide p (i_rest p list.2.2.2.2.2) (i_rest p list.1))), true) else none) else none) else none) else none) else none) else none)) else (if ((i_rest p list.1) == 0) = true then some ((0, 0, 0, 0, 0, 0), false) else (if (prB p) = true then (if (prB p) = true then (if (prB p) = true then (if (prB p) = true then (if (prB p) = true then (if (prB p) = true then some (((i_divide p (i_rest p list.1) (i_rest p list.1)), (i_divide p (i_rest p list.2.1) (i_rest p list.1)), (i_divide p (i_rest p list.2.2.1) (i_rest p list.1)), (i_divide p (i_rest p list.2.2.2.1) (i_rest p list.1)), (i_divide p (i_rest p list.2.2.2.2.1) (i_rest p list.1)), (i_divide p (i_rest p list.2.2.2.2.2) (i_rest p list.1))), true) else none) else none) else none) else none) else none) else none))) else none)) else none) else (if (prB p) = true then (if ((i_rest p list.1) == 0) = true then (if (prB p) = true then (if ((i_rest p list.1) == 0) = true then (if ((i_rest p list.1) == 0) = true then some ((0, 0, 0, 0, 0, 0), false) else (if (prB p) = true then (if (prB p) = true then (if (prB p) = true then (if (prB p) = true then (if (prB p) = true then (if (prB p) = true then some (((i_divide p (i_rest p list.1) (i_rest p list.1)), (i_divide p (i_rest p list.2.1) (i_rest p list.1)), (i_divide p (i_rest p list.2.2.1) (i_rest p list.1)), (i_divide p (i_rest p list.2.2.2.1) (i_rest p list.1)), (i_divide p (i_rest p list.2.2.2.2.1) (i_rest p list.1)), (i_divide p (i_rest p list.2.2.2.2.2) (i_rest p list.1))), true) else none) else none) else none) else none) else none) else none)) else (if ((i_rest p list.1) == 0) = true then some ((0, 0, 0, 0, 0, 0), false) else (if (prB p) = true then (if (prB p) = true then (if (prB p) = true then (if (prB p) = true then (if (prB p) = true then (if (prB p) = true then some (((i_divide p (i_rest p list.1) (i_rest p list.1)), (i_divide p (i_rest p list.2.1) (i_rest p list.1)), (i_divide p (i_rest p list.2.2.1) (i_rest p list.1)), (i_divide p (i_rest p list.2.2.2.1) (i_rest p list.1)), (i_divide p (i_rest p list.2.2.2.2.1) (i_rest p list.1)), (i_divide p (i_rest p list.2.2.2.2.2) (i_rest p list.1))), true) else none) else none) else none) else none) else none) else none))) else none) else (if (prB p) = true then (if ((i_rest p list.1) == 0) = true then (if ((i_rest p list.1) == 0) = true then some ((0, 0, 0, 0, 0, 0), false) else (if (prB p) = true then (if (prB p) = true then (if (prB p) = true then (if (prB p) = true then (if (prB p) = true then (if (prB p) = true then some (((i_divide p (i_rest p list.1) (i_rest p list.1)), (i_divide p (i_rest p list.2.1) (i_rest p list.1)), (i_divide p (i_rest p list.2.2.1) (i_rest p list.1)), (i_divide p (i_rest p list.2.2.2.1) (i_rest p list.1)), (i_divide p (i_rest p list.2.2.2.2.1) (i_rest p list.1)), (i_divide p (i_rest p list.2.2.2.2.2) (i_rest p list.1))), true) else none) else none) else none) else none) else none) else none)) else (if ((i_rest p list.1) == 0) = true then some ((0, 0, 0, 0, 0, 0), false) else (if (prB p) = true then (if (prB p) = true then (if (prB p) = true then (if (prB p) = true then (if (prB p) = true then (if (prB p) = true then some (((i_divide p (i_rest p list.1) (i_rest p list.1)), (i_divide p (i_rest p list.2.1) (i_rest p list.1)), (i_divide p (i_rest p list.2.2.1) (i_rest p list.1)), (i_divide p (i_rest p list.2.2.2.1) (i_rest p list.1)), (i_divide p (i_rest p list.2.2.2.2.1) (i_rest p list.1)), (i_divide p (i_rest p list.2.2.2.2.2) (i_rest p list.1))), true) else none) else none) else none) else none) else none) else none))) else none)) else none)) else none)) else none)) else none) else none)
theorem eq_i_makeConic (p : Int) (list : Int × Int × Int × Int × Int × Int) : execT Try.prog S_i_makeConic 65 48 (fun _ => 1000000) dec_a6_b [.v (.int .i64 p), .v (.agg ⟨[.int .i64 list.1, .int .i64 list.2.1, .int .i64 list.2.2.1, .int .i64 list.2.2.2.1, .int .i64 list.2.2.2.2.1, .int .i64 list.2.2.2.2.2]⟩)] = Fo_i_makeConic p list := by
  kernel_rfl
def i_makeConic (p : Int) (list : Int × Int × Int × Int × Int × Int) : (Int × Int × Int × Int × Int × Int) × Bool :=
  (if ((i_rest p list.1) == 0) = true then (if ((i_rest p list.2.1) == 0) = true then (if ((i_rest p list.2.2.1) == 0) = true then (if ((i_rest p list.2.2.1) == 0) = true then (if ((i_rest p list.2.2.1) == 0) = true then (if ((i_rest p list.2.2.1) == 0) = true then ((0, 0, 0, 0, 0, 0), false) else (((i_divide p (i_rest p list.1) (i_rest p list.2.2.1)), (i_divide p (i_rest p list.2.1) (i_rest p list.2.2.1)), (i_divide p (i_rest p list.2.2.1) (i_rest p list.2.2.1)), (i_divide p (i_rest p list.2.2.2.1) (i_rest p list.2.2.1)), (i_divide p (i_rest p list.2.2.2.2.1) (i_rest p list.2.2.1)), (i_divide p (i_rest p list.2.2.2.2.2) (i_rest p list.2.2.1))), true)) else (if ((i_rest p list.2.2.1) == 0) = true then ((0, 0, 0, 0, 0, 0), false) else (((i_divide p (i_rest p list.1) (i_rest p list.2.2.1)), (i_divide p (i_rest p list.2.1) (i_rest p list.2.2.1)), (i_divide p (i_rest p list.2.2.1) (i_rest p list.2.2.1)), (i_divide p (i_rest p list.2.2.2.1) (i_rest p list.2.2.1)), (i_divide p (i_rest p list.2.2.2.2.1) (i_rest p list.2.2.1)), (i_divide p (i_rest p list.2.2.2.2.2) (i_rest p list.2.2.1))), true))) else (if ((i_rest p list.2.2.1) == 0) = true then (if ((i_rest p list.2.2.1) == 0) = true then ((0, 0, 0, 0, 0, 0), false) else (((i_divide p (i_rest p list.1) (i_rest p list.2.2.1)), (i_divide p (i_rest p list.2.1) (i_rest p list.2.2.1)), (i_divide p (i_rest p list.2.2.1) (i_rest p list.2.2.1)), (i_divide p (i_rest p list.2.2.2.1) (i_rest p list.2.2.1)), (i_divide p (i_rest p list.2.2.2.2.1) (i_rest p list.2.2.1)), (i_divide p (i_rest p list.2.2.2.2.2) (i_rest p list.2.2.1))), true)) else (if ((i_rest p list.2.2.1) == 0) = true then ((0, 0, 0, 0, 0, 0), false) else (((i_divide p (i_rest p list.1) (i_rest p list.2.2.1)), (i_divide p (i_rest p list.2.1) (i_rest p list.2.2.1)), (i_divide p (i_rest p list.2.2.1) (i_rest p list.2.2.1)), (i_divide p (i_rest p list.2.2.2.1) (i_rest p list.2.2.1)), (i_divide p (i_rest p list.2.2.2.2.1) (i_rest p list.2.2.1)), (i_divide p (i_rest p list.2.2.2.2.2) (i_rest p list.2.2.1))), true)))) else (if ((i_rest p list.2.2.1) == 0) = true then (if ((i_rest p list.2.2.1) == 0) = true then (if ((i_rest p list.2.2.1) == 0) = true then ((0, 0, 0, 0, 0, 0), false) else (((i_divide p (i_rest p list.1) (i_rest p list.2.2.1)), (i_divide p (i_rest p list.2.1) (i_rest p list.2.2.1)), (i_divide p (i_rest p list.2.2.1) (i_rest p list.2.2.1)), (i_divide p (i_rest p list.2.2.2.1) (i_rest p list.2.2.1)), (i_divide p (i_rest p list.2.2.2.2.1) (i_rest p list.2.2.1)), (i_divide p (i_rest p list.2.2.2.2.2) (i_rest p list.2.2.1))), true)) else (if ((i_rest p list.2.2.1) == 0) = true then ((0, 0, 0, 0, 0, 0), false) else (((i_divide p (i_rest p list.1) (i_rest p list.2.2.1)), (i_divide p (i_rest p list.2.1) (i_rest p list.2.2.1)), (i_divide p (i_rest p list.2.2.1) (i_rest p list.2.2.1)), (i_divide p (i_rest p list.2.2.2.1) (i_rest p list.2.2.1)), (i_divide p (i_rest p list.2.2.2.2.1) (i_rest p list.2.2.1)), (i_divide p (i_rest p list.2.2.2.2.2) (i_rest p list.2.2.1))), true))) else (if ((i_rest p list.2.2.1) == 0) = true then (if ((i_rest p list.2.2.1) == 0) = true then ((0, 0, 0, 0, 0, 0), false) else (((i_divide p (i_rest p list.1) (i_rest p list.2.2.1)), (i_divide p (i_rest p list.2.1) (i_rest p list.2.2.1)), (i_divide p (i_rest p list.2.2.1) (i_rest p list.2.2.1)), (i_divide p (i_rest p list.2.2.2.1) (i_rest p list.2.2.1)), (i_divide p (i_rest p list.2.2.2.2.1) (i_rest p list.2.2.1)), (i_divide p (i_rest p list.2.2.2.2.2) (i_rest p list.2.2.1))), true)) else (if ((i_rest p list.2.2.1) == 0) = true then ((0, 0, 0, 0, 0, 0), false) else (((i_divide p (i_rest p list.1) (i_rest p list.2.2.1)), (i_divide p (i_rest p list.2.1) (i_rest p list.2.2.1)), (i_divide p (i_rest p list.2.2.1) (i_rest p list.2.2.1)), (i_divide p (i_rest p list.2.2.2.1) (i_rest p list.2.2.1)), (i_divide p (i_rest p list.2.2.2.2.1) (i_rest p list.2.2.1)), (i_divide p (i_rest p list.2.2.2.2.2) (i_rest p list.2.2.1))), true))))) else (if ((i_rest p list.2.1) == 0) = true then (if ((i_rest p list.2.1) == 0) = true then (if ((i_rest p list.2.1) == 0) = true then (if ((i_rest p list.2.1) == 0) = true then ((0, 0, 0, 0, 0, 0), false) else (((i_divide p (i_rest p list.1) (i_rest p list.2.1)), (i_divide p (i_rest p list.2.1) (i_rest p list.2.1)), (i_divide p (i_rest p list.2.2.1) (i_rest p list.2.1)), (i_divide p (i_rest p list.2.2.2.1) (i_rest p list.2.1)), (i_divide p (i_rest p list.2.2.2.2.1) (i_rest p list.2.1)), (i_divide p (i_rest p list.2.2.2.2.2) (i_rest p list.2.1))), true)) else (if ((i_rest p list.2.1) == 0) = true then ((0, 0, 0, 0, 0, 0), false) else (((i_divide p (i_rest p list.1) (i_rest p list.2.1)), (i_divide p (i_rest p list.2.1) (i_rest p list.2.1)), (i_divide p (i_rest p list.2.2.1) (i_rest p list.2.1)), (i_divide p (i_rest p list.2.2.2.1) (i_rest p list.2.1)), (i_divide p (i_rest p list.2.2.2.2.1) (i_rest p list.2.1)), (i_divide p (i_rest p list.2.2.2.2.2) (i_rest p list.2.1))), true))) else (if ((i_rest p list.2.1) == 0) = true then (if ((i_rest p list.2.1) == 0) = true then ((0, 0, 0, 0, 0, 0), false) else (((i_divide p (i_rest p list.1) (i_rest p list.2.1)), (i_divide p (i_rest p list.2.1) (i_rest p list.2.1)), (i_divide p (i_rest p list.2.2.1) (i_rest p list.2.1)), (i_divide p (i_rest p list.2.2.2.1) (i_rest p list.2.1)), (i_divide p (i_rest p list.2.2.2.2.1) (i_rest p list.2.1)), (i_divide p (i_rest p list.2.2.2.2.2) (i_rest p list.2.1))), true)) else (if ((i_rest p list.2.1) == 0) = true then ((0, 0, 0, 0, 0, 0), false) else (((i_divide p (i_rest p list.1) (i_rest p list.2.1)), (i_divide p (i_rest p list.2.1) (i_rest p list.2.1)), (i_divide p (i_rest p list.2.2.1) (i_rest p list.2.1)), (i_divide p (i_rest p list.2.2.2.1) (i_rest p list.2.1)), (i_divide p (i_rest p list.2.2.2.2.1) (i_rest p list.2.1)), (i_divide p (i_rest p list.2.2.2.2.2) (i_rest p list.2.1))), true)))) else (if ((i_rest p list.2.1) == 0) = true then (if ((i_rest p list.2.1) == 0) = true then (if ((i_rest p list.2.1) == 0) = true then ((0, 0, 0, 0, 0, 0), false) else (((i_divide p (i_rest p list.1) (i_rest p list.2.1)), (i_divide p (i_rest p list.2.1) (i_rest p list.2.1)), (i_divide p (i_rest p list.2.2.1) (i_rest p list.2.1)), (i_divide p (i_rest p list.2.2.2.1) (i_rest p list.2.1)), (i_divide p (i_rest p list.2.2.2.2.1) (i_rest p list.2.1)), (i_divide p (i_rest p list.2.2.2.2.2) (i_rest p list.2.1))), true)) else (if ((i_rest p list.2.1) == 0) = true then ((0, 0, 0, 0, 0, 0), false) else (((i_divide p (i_rest p list.1) (i_rest p list.2.1)), (i_divide p (i_rest p list.2.1) (i_rest p list.2.1)), (i_divide p (i_rest p list.2.2.1) (i_rest p list.2.1)), (i_divide p (i_rest p list.2.2.2.1) (i_rest p list.2.1)), (i_divide p (i_rest p list.2.2.2.2.1) (i_rest p list.2.1)), (i_divide p (i_rest p list.2.2.2.2.2) (i_rest p list.2.1))), true))) else (if ((i_rest p list.2.1) == 0) = true then (if ((i_rest p list.2.1) == 0) = true then ((0, 0, 0, 0, 0, 0), false) else (((i_divide p (i_rest p list.1) (i_rest p list.2.1)), (i_divide p (i_rest p list.2.1) (i_rest p list.2.1)), (i_divide p (i_rest p list.2.2.1) (i_rest p list.2.1)), (i_divide p (i_rest p list.2.2.2.1) (i_rest p list.2.1)), (i_divide p (i_rest p list.2.2.2.2.1) (i_rest p list.2.1)), (i_divide p (i_rest p list.2.2.2.2.2) (i_rest p list.2.1))), true)) else (if ((i_rest p list.2.1) == 0) = true then ((0, 0, 0, 0, 0, 0), false) else (((i_divide p (i_rest p list.1) (i_rest p list.2.1)), (i_divide p (i_rest p list.2.1) (i_rest p list.2.1)), (i_divide p (i_rest p list.2.2.1) (i_rest p list.2.1)), (i_divide p (i_rest p list.2.2.2.1) (i_rest p list.2.1)), (i_divide p (i_rest p list.2.2.2.2.1) (i_rest p list.2.1)), (i_divide p (i_rest p list.2.2.2.2.2) (i_rest p list.2.1))), true)))))) else (if ((i_rest p list.1) == 0) = true then (if ((i_rest p list.2.2.1) == 0) = true then (if ((i_rest p list.2.2.1) == 0) = true then (if ((i_rest p list.2.2.1) == 0) = true then (if ((i_rest p list.2.2.1) == 0) = true then ((0, 0, 0, 0, 0, 0), false) else (((i_divide p (i_rest p list.1) (i_rest p list.2.2.1)), (i_divide p (i_rest p list.2.1) (i_rest p list.2.2.1)), (i_divide p (i_rest p list.2.2.1) (i_rest p list.2.2.1)), (i_divide p (i_rest p list.2.2.2.1) (i_rest p list.2.2.1)), (i_divide p (i_rest p list.2.2.2.2.1) (i_rest p list.2.2.1)), (i_divide p (i_rest p list.2.2.2.2.2) (i_rest p list.2.2.1))), true)) else (if ((i_rest p list.2.2.1) == 0) = true then ((0, 0, 0, 0, 0, 0), false) else (((i_divide p (i_rest p list.1) (i_rest p list.2.2.1)), (i_divide p (i_rest p list.2.1) (i_rest p list.2.2.1)), (i_divide p (i_rest p list.2.2.1) (i_rest p list.2.2.1)), (i_divide p (i_rest p list.2.2.2.1) (i_rest p list.2.2.1)), (i_divide p (i_rest p list.2.2.2.2.1) (i_rest p list.2.2.1)), (i_divide p (i_rest p list.2.2.2.2.2) (i_rest p list.2.2.1))), true))) else (if ((i_rest p list.2.2.1) == 0) = true then (if ((i_rest p list.2.2.1) == 0) = true then ((0, 0, 0, 0, 0, 0), false) else (((i_divide p (i_rest p list.1) (i_rest p list.2.2.1)), (i_divide p (i_rest p list.2.1) (i_rest p list.2.2.1)), (i_divide p (i_rest p list.2.2.1) (i_rest p list.2.2.1)), (i_divide p (i_rest p list.2.2.2.1) (i_rest p list.2.2.1)), (i_divide p (i_rest p list.2.2.2.2.1) (i_rest p list.2.2.1)), (i_divide p (i_rest p list.2.2.2.2.2) (i_rest p list.2.2.1))), true)) else (if ((i_rest p list.2.2.1) == 0) = true then ((0, 0, 0, 0, 0, 0), false) else (((i_divide p (i_rest p list.1) (i_rest p list.2.2.1)), (i_divide p (i_rest p list.2.1) (i_rest p list.2.2.1)), (i_divide p (i_rest p list.2.2.1) (i_rest p list.2.2.1)), (i_divide p (i_rest p list.2.2.2.1) (i_rest p list.2.2.1)), (i_divide p (i_rest p list.2.2.2.2.1) (i_rest p list.2.2.1)), (i_divide p (i_rest p list.2.2.2.2.2) (i_rest p list.2.2.1))), true)))) else (if ((i_rest p list.2.2.1) == 0) = true then (if ((i_rest p list.2.2.1) == 0) = true then (if ((i_rest p list.2.2.1) == 0) = true then ((0, 0, 0, 0, 0, 0), false) else (((i_divide p (i_rest p list.1) (i_rest p list.2.2.1)), (i_divide p (i_rest p list.2.1) (i_rest p list.2.2.1)), (i_divide p (i_rest p list.2.2.1) (i_rest p list.2.2.1)), (i_divide p (i_rest p list.2.2.2.1) (i_rest p list.2.2.1)), (i_divide p (i_rest p list.2.2.2.2.1) (i_rest p list.2.2.1)), (i_divide p (i_rest p list.2.2.2.2.2) (i_rest p list.2.2.1))), true)) else (if ((i_rest p list.2.2.1) == 0) = true then ((0, 0, 0, 0, 0, 0), false) else (((i_divide p (i_rest p list.1) (i_rest p list.2.2.1)), (i_divide p (i_rest p list.2.1) (i_rest p list.2.2.1)), (i_divide p (i_rest p list.2.2.1) (i_rest p list.2.2.1)), (i_divide p (i_rest p list.2.2.2.1) (i_rest p list.2.2.1)), (i_divide p (i_rest p list.2.2.2.2.1) (i_rest p list.2.2.1)), (i_divide p (i_rest p list.2.2.2.2.2) (i_rest p list.2.2.1))), true))) else (if ((i_rest p list.2.2.1) == 0) = true then (if ((i_rest p list.2.2.1) == 0) = true then ((0, 0, 0, 0, 0, 0), false) else (((i_divide p (i_rest p list.1) (i_rest p list.2.2.1)), (i_divide p (i_rest p list.2.1) (i_rest p list.2.2.1)), (i_divide p (i_rest p list.2.2.1) (i_rest p list.2.2.1)), (i_divide p (i_rest p list.2.2.2.1) (i_rest p list.2.2.1)), (i_divide p (i_rest p list.2.2.2.2.1) (i_rest p list.2.2.1)), (i_divide p (i_rest p list.2.2.2.2.2) (i_rest p list.2.2.1))), true)) else (if ((i_rest p list.2.2.1) == 0) = true then ((0, 0, 0, 0, 0, 0), false) else (((i_divide p (i_rest p list.1) (i_rest p list.2.2.1)), (i_divide p (i_rest p list.2.1) (i_rest p list.2.2.1)), (i_divide p (i_rest p list.2.2.1) (i_rest p list.2.2.1)), (i_divide p (i_rest p list.2.2.2.1) (i_rest p list.2.2.1)), (i_divide p (i_rest p list.2.2.2.2.1) (i_rest p list.2.2.1)), (i_divide p (i_rest p list.2.2.2.2.2) (i_rest p list.2.2.1))), true))))) else (if ((i_rest p list.1) == 0) = true then (if ((i_rest p list.1) == 0) = true then (if ((i_rest p list.1) == 0) = true then (if ((i_rest p list.1) == 0) = true then ((0, 0, 0, 0, 0, 0), false) else (((i_divide p (i_rest p list.1) (i_rest p list.1)), (i_divide p (i_rest p list.2.1) (i_rest p list.1)), (i_divide p (i_rest p list.2.2.1) (i_rest p list.1)), (i_divide p (i_rest p list.2.2.2.1) (i_rest p list.1)), (i_divide p (i_rest p list.2.2.2.2.1) (i_rest p list.1)), (i_divide p (i_rest p list.2.2.2.2.2) (i_rest p list.1))), true)) else (if ((i_rest p list.1) == 0) = true then ((0, 0, 0, 0, 0, 0), false) else (((i_divide p (i_rest p list.1) (i_rest p list.1)), (i_divide p (i_rest p list.2.1) (i_rest p list.1)), (i_divide p (i_rest p list.2.2.1) (i_rest p list.1)), (i_divide p (i_rest p list.2.2.2.1) (i_rest p list.1)), (i_divide p (i_rest p list.2.2.2.2.1) (i_rest p list.1)), (i_divide p (i_rest p list.2.2.2.2.2) (i_rest p list.1))), true))) else (if ((i_rest p list.1) == 0) = true then (if ((i_rest p list.1) == 0) = true then ((0, 0, 0, 0, 0, 0), false) else (((i_divide p (i_rest p list.1) (i_rest p list.1)), (i_divide p (i_rest p list.2.1) (i_rest p list.1)), (i_divide p (i_rest p list.2.2.1) (i_rest p list.1)), (i_divide p (i_rest p list.2.2.2.1) (i_rest p list.1)), (i_divide p (i_rest p list.2.2.2.2.1) (i_rest p list.1)), (i_divide p (i_rest p list.2.2.2.2.2) (i_rest p list.1))), true)) else (if ((i_rest p list.1) == 0) = true then ((0, 0, 0, 0, 0, 0), false) else (((i_divide p (i_rest p list.1) (i_rest p list.1)), (i_divide p (i_rest p list.2.1) (i_rest p list.1)), (i_divide p (i_rest p list.2.2.1) (i_rest p list.1)), (i_divide p (i_rest p list.2.2.2.1) (i_rest p list.1)), (i_divide p (i_rest p list.2.2.2.2.1) (i_rest p list.1)), (i_divide p (i_rest p list.2.2.2.2.2) (i_rest p list.1))), true)))) else (if ((i_rest p list.1) == 0) = true then (if ((i_rest p list.1) == 0) = true then (if ((i_rest p list.1) == 0) = true then ((0, 0, 0, 0, 0, 0), false) else (((i_divide p (i_rest p list.1) (i_rest p list.1)), (i_divide p (i_rest p list.2.1) (i_rest p list.1)), (i_divide p (i_rest p list.2.2.1) (i_rest p list.1)), (i_divide p (i_rest p list.2.2.2.1) (i_rest p list.1)), (i_divide p (i_rest p list.2.2.2.2.1) (i_rest p list.1)), (i_divide p (i_rest p list.2.2.2.2.2) (i_rest p list.1))), true)) else (if ((i_rest p list.1) == 0) = true then ((0, 0, 0, 0, 0, 0), false) else (((i_divide p (i_rest p list.1) (i_rest p list.1)), (i_divide p (i_rest p list.2.1) (i_rest p list.1)), (i_divide p (i_rest p list.2.2.1) (i_rest p list.1)), (i_divide p (i_rest p list.2.2.2.1) (i_rest p list.1)), (i_divide p (i_rest p list.2.2.2.2.1) (i_rest p list.1)), (i_divide p (i_rest p list.2.2.2.2.2) (i_rest p list.1))), true))) else (if ((i_rest p list.1) == 0) = true then (if ((i_rest p list.1) == 0) = true then ((0, 0, 0, 0, 0, 0), false) else (((i_divide p (i_rest p list.1) (i_rest p list.1)), (i_divide p (i_rest p list.2.1) (i_rest p list.1)), (i_divide p (i_rest p list.2.2.1) (i_rest p list.1)), (i_divide p (i_rest p list.2.2.2.1) (i_rest p list.1)), (i_divide p (i_rest p list.2.2.2.2.1) (i_rest p list.1)), (i_divide p (i_rest p list.2.2.2.2.2) (i_rest p list.1))), true)) else (if ((i_rest p list.1) == 0) = true then ((0, 0, 0, 0, 0, 0), false) else (((i_divide p (i_rest p list.1) (i_rest p list.1)), (i_divide p (i_rest p list.2.1) (i_rest p list.1)), (i_divide p (i_rest p list.2.2.1) (i_rest p list.1)), (i_divide p (i_rest p list.2.2.2.1) (i_rest p list.1)), (i_divide p (i_rest p list.2.2.2.2.1) (i_rest p list.1)), (i_divide p (i_rest p list.2.2.2.2.2) (i_rest p list.1))), true)))))))
theorem tot_i_makeConic (p : Int) (list : Int × Int × Int × Int × Int × Int) (hp : (prB p) = true) : Fo_i_makeConic p list = some (i_makeConic p list) := by
  try have h0 := prB_ne hp
  unfold Fo_i_makeConic i_makeConic
  (try simp only [wI_eq])
  repeat' (first | with_reducible rfl | with_reducible refine chk_opt hp ?_ | with_reducible refine chk_opt h0 ?_ | refine chk_opt (and_all hp fun _ => hp) ?_ | refine chk_opt (and_all hp fun _ => rfl) ?_ | refine ite_opt (fun _ => ?_) (fun _ => ?_) | rfl)
def run_i_makeConic : List PV → Option (Bool × List TR)
  | [.v (.int .i64 p), .v (.agg ⟨[.int .i64 list0, .int .i64 list1, .int .i64 list2, .int .i64 list3, .int .i64 list4, .int .i64 list5]⟩)] => some (prB p, enc_a6_b (i_makeConic p (list0, list1, list2, list3, list4, list5)))
  | _ => none
theorem sound_i_makeConic : Sound Try.prog 65 run_i_makeConic := by
  refine sound_of de_a6_b SO_i_makeConic (by kernel_rfl) Try.func65 Try.ntmps65 rfl (by kernel_rfl) ?_
  intro W pvs avs rs hargs hrun
  unfold run_i_makeConic at hrun
  split at hrun
  · simp only [Option.some.injEq, Prod.mk.injEq] at hrun
    obtain ⟨hp, rfl⟩ := hrun
    rename_i p list0 list1 list2 list3 list4 list5
    exact ⟨_, _, _, hargs, rfl, (eq_i_makeConic p (list0, list1, list2, list3, list4, list5)).trans (tot_i_makeConic p (list0, list1, list2, list3, list4, list5) hp)⟩
  · cases hrun

def dec_Ml_i : Value × Cells → Option (Int × List Int)
  | (.int .i64 x, .ints l) => some (x, l)
  | _ => none
def enc_Ml_i : Int × List Int → Value × Cells
  | (x, l) => (.int .i64 x, .ints l)
theorem de_Ml_i (rs : Value × Cells) (x : Int × List Int) (h : dec_Ml_i rs = some x) : rs = enc_Ml_i x := by
  unfold dec_Ml_i at h
  split at h
  · simp only [Option.some.injEq] at h
    subst h
    rfl
  · cases h
def S_l_markPointS : Sums := ⟨tblS [], tblM []⟩
theorem SO_l_markPointS : SumsOK Try.prog S_l_markPointS := ⟨tblS_ok True.intro, tblM_ok True.intro⟩
def T_l_markPointS_0 (an : Nat) (al : List Int) (k : Int) (l0 : List Int) (k' : Int) (i : Int) : Tab := ⟨[.row 0, .val (.int .i64 k'), .junk, .junk, .val (.int .i64 0), .val (.int .i64 i), .junk, .junk, .junk, .junk, .junk, .junk, .junk, .junk, .junk, .junk, .junk, .junk, .junk, .junk, .junk, .junk, .junk, .junk, .junk, .junk], [(0, .row 47 2 an (.ints l0))]⟩
def X_l_markPointS_0 (P : Program) (fu : Nat) (an : Nat) (al : List Int) (k : Int) (f : Nat) (l0 : List Int) (k' : Int) (i : Int) : Option (Int × List Int) := loopK (exec P S_l_markPointS 26 (fun _ => fu + 100) (Code.sub [1, 0, 1, 0, 0] (bodyF P 29))) f (T_l_markPointS_0 an al k l0 k' i) (kBlock 0 (kSeq (fun s => exec P S_l_markPointS 26 (fun _ => fu + 100) (Code.sub [1, 1] (bodyF P 29)) s (finM P 29 47 2 dec_Ml_i)) (finM P 29 47 2 dec_Ml_i)))
def B_l_markPointS_0 (an : Nat) (al : List Int) (k : Int) (rec0 : (List Int) → Int → Int → Option (Int × List Int)) (l0 : List Int) (k' : Int) (i : Int) : Option (Int × List Int) :=
  (if (decide (i < ((an : Nat) : Int))) = true then (if (decide (0 ≤ i) && decide (i < ((an : Nat) : Int))) = true then (if (Nat.ble (i.toNat * 2 + 0 + 1) l0.length) = true then (if (decide (0 ≤ i) && decide (i < ((an : Nat) : Int))) = true then (if (Nat.ble (i.toNat * 2 + 1 + 1) ((l0.set (i.toNat * 2 + 0 + 0) k').length)) = true then rec0 ((l0.set (i.toNat * 2 + 0 + 0) k').set (i.toNat * 2 + 1 + 0) (wI (k' + 1))) (wI ((wI (k' + 1)) + 1)) (wI (i + 1)) else none) else none) else none) else none) else some (k', l0))
def L_l_markPointS_0 (fu : Nat) (an : Nat) (al : List Int) (k : Int) : Nat → (List Int) → Int → Int → Option (Int × List Int)
  | 0, _, _, _ => none
  | f + 1, l0, k', i => B_l_markPointS_0 an al k (L_l_markPointS_0 fu an al k f) l0 k' i
theorem loop_l_markPointS_0 (fu : Nat) (an : Nat) (al : List Int) (k : Int) : ∀ (f : Nat) (l0 : List Int) (k' : Int) (i : Int), X_l_markPointS_0 Try.prog fu an al k f l0 k' i = L_l_markPointS_0 fu an al k f l0 k' i := by
  intro f
  induction f with
  | zero => intros; rfl
  | succ f ih =>
    intro l0 k' i
    have h1 : X_l_markPointS_0 Try.prog fu an al k (f + 1) l0 k' i = B_l_markPointS_0 an al k (X_l_markPointS_0 Try.prog fu an al k f) l0 k' i := by kernel_rfl
    have h2 : X_l_markPointS_0 Try.prog fu an al k f = L_l_markPointS_0 fu an al k f := by funext l0 k' i; exact ih l0 k' i
    rw [h1, h2]
    rfl
def G_l_markPointS (an : Nat) (al : List Int) (k : Int) (lo0 : (List Int) → Int → Int → Option (Int × List Int)) : Option (Int × List Int) :=
  lo0 al k 0
def Fo_l_markPointS (fu : Nat) (an : Nat) (al : List Int) (k : Int) : Option (Int × List Int) := G_l_markPointS an al k (L_l_markPointS_0 fu an al k (fu + 100))
theorem eqg_l_markPointS (fu : Nat) (an : Nat) (al : List Int) (k : Int) : execM Try.prog S_l_markPointS 29 26 (fun _ => fu + 100) dec_Ml_i 47 2 an (.ints al) [.int .i64 k] = G_l_markPointS an al k (L_l_markPointS_0 fu an al k (fu + 100)) := by
  have h1 : execM Try.prog S_l_markPointS 29 26 (fun _ => fu + 100) dec_Ml_i 47 2 an (.ints al) [.int .i64 k] = G_l_markPointS an al k (X_l_markPointS_0 Try.prog fu an al k (fu + 100)) := by kernel_rfl
  have c0 : X_l_markPointS_0 Try.prog fu an al k (fu + 100) = L_l_markPointS_0 fu an al k (fu + 100) := by funext l0 k' i; exact loop_l_markPointS_0 fu an al k (fu + 100) l0 k' i
  rw [h1, c0]
theorem eq_l_markPointS (fu : Nat) (an : Nat) (al : List Int) (k : Int) : execM Try.prog S_l_markPointS 29 26 (fun _ => fu + 100) dec_Ml_i 47 2 an (.ints al) [.int .i64 k] = Fo_l_markPointS fu an al k := eqg_l_markPointS fu an al k
def l_markPointS (n : Nat) (l : List Int) (k : Int) : Int × List Int := (((2 * n : Nat) : Int) + 1, seq1 (2 * n))
theorem go_l_markPointS (fu an : Nat) (al : List Int) (k : Int) (hn : an ≤ 100000000000) : ∀ (m j F : Nat) (l0 : List Int), j + m = an → m < F → l0.length = 2 * an → (∀ t : Nat, t < 2 * j → l0.getD t 0 = (t : Int) + 1) → L_l_markPointS_0 fu an al k F l0 (((2 * j : Nat) : Int) + 1) (j : Int) = some (((2 * an : Nat) : Int) + 1, seq1 (2 * an))
  | m, j, 0, l0, _, h, _, _ => absurd h (Nat.not_lt_zero m)
  | 0, j, F + 1, l0, hj, _, hl, hp => by
    obtain rfl : j = an := by omega
    show B_l_markPointS_0 j al k _ l0 _ (j : Int) = _
    unfold B_l_markPointS_0
    rw [if_neg (by simp), seq1_of hl hp]
  | m + 1, j, F + 1, l0, hj, hF, hl, hp => by
    show B_l_markPointS_0 an al k (L_l_markPointS_0 fu an al k F) l0 _ (j : Int) = _
    unfold B_l_markPointS_0
    have e1 : decide ((j : Int) < ((an : Nat) : Int)) = true := by simp; omega
    have e2 : (decide (0 ≤ (j : Int)) && decide ((j : Int) < ((an : Nat) : Int))) = true := by simp; omega
    have e3 : (j : Int).toNat = j := Int.toNat_natCast j
    rw [e3]
    rw [if_pos e1, if_pos e2, if_pos (leb (by rw [hl]; omega)), if_pos e2, if_pos (leb (by simp only [List.length_set]; rw [hl]; omega))]
    have a0 : wrap64 ((j : Int) + 1) = ((j + 1 : Nat) : Int) := by rw [wrapS (by omega)]; omega
    have a1 : wrap64 (((2 * j : Nat) : Int) + 1 + 1) = ((2 * j : Nat) : Int) + 2 := wrapS (by omega)
    have a2 : wrap64 (((2 * j : Nat) : Int) + 2 + 1) = ((2 * j : Nat) : Int) + 3 := wrapS (by omega)
    have a9 : ((2 * j : Nat) : Int) + 2 + 1 = ((2 * (j + 1) : Nat) : Int) + 1 := by omega
    simp only [wI_eq, a0, a1, a2]
    rw [show ((2 * j : Nat) : Int) + 3 = ((2 * (j + 1) : Nat) : Int) + 1 from by omega]
    refine go_l_markPointS fu an al k hn m (j + 1) F _ (by omega) (by omega) (by simp only [List.length_set]; exact hl) fun t ht => ?_
    repeat rw [getD_set (by (try simp only [List.length_set]); rw [hl]; omega)]
    (repeat' split) <;> first | omega | exact hp t (by omega)
theorem tot_l_markPointS (an : Nat) (al : List Int) (k : Int) (hp : (lenB an 2 al && (k == 1)) = true) : Fo_l_markPointS an an al k = some (l_markPointS an al k) := by
  simp only [Bool.and_eq_true, beq_iff_eq] at hp
  obtain ⟨h1, rfl⟩ := hp
  obtain ⟨hl, hn⟩ := lenB_ok h1
  have := go_l_markPointS an an al 1 hn an 0 (an + 100) al (by omega) (by omega) hl (fun t ht => by omega)
  simpa [Fo_l_markPointS, G_l_markPointS, l_markPointS] using this
def run_l_markPointS : MRun
  | 47, 2, an, .ints al, [.int .i64 k] => some (lenB an 2 al && (k == 1), enc_Ml_i (l_markPointS an al k))
  | _, _, _, _, _ => none
theorem sound_l_markPointS : SoundM Try.prog 29 run_l_markPointS := by
  refine soundM_of de_Ml_i SO_l_markPointS (by kernel_rfl) Try.func29 Try.ntmps29 rfl (by kernel_rfl) ?_
  intro e sz an c vs r c' hrun
  unfold run_l_markPointS at hrun
  split at hrun
  · simp only [Option.some.injEq, Prod.mk.injEq] at hrun
    obtain ⟨hp, hrun⟩ := hrun
    rename_i al k
    exact ⟨_, _, hrun.symm, (eq_l_markPointS _ an al k).trans (tot_l_markPointS an al k hp)⟩
  · cases hrun

def S_l_heldPointS : Sums := ⟨tblS [], tblM []⟩
theorem SO_l_heldPointS : SumsOK Try.prog S_l_heldPointS := ⟨tblS_ok True.intro, tblM_ok True.intro⟩
def T_l_heldPointS_0 (an : Nat) (al : List Int) (k : Int) (k' : Int) (i : Int) : Tab := ⟨[.row 0, .val (.int .i64 k'), .junk, .junk, .val (.int .i64 0), .val (.int .i64 i), .junk, .junk, .junk, .junk, .junk, .junk, .junk, .junk, .junk, .junk, .junk, .junk, .junk, .junk, .junk, .junk, .junk, .junk, .junk, .junk, .junk, .junk], [(0, .ros an (.ints al))]⟩
def X_l_heldPointS_0 (P : Program) (fu : Nat) (an : Nat) (al : List Int) (k : Int) (f : Nat) (k' : Int) (i : Int) : Option (Int) := loopK (exec P S_l_heldPointS 28 (fun _ => fu + 100) (Code.sub [1, 0, 1, 0, 0] (bodyF P 30))) f (T_l_heldPointS_0 an al k k' i) (kBlock 0 (kSeq (fun s => exec P S_l_heldPointS 28 (fun _ => fu + 100) (Code.sub [1, 1] (bodyF P 30)) s (finT P 30 dec_i)) (finT P 30 dec_i)))
def B_l_heldPointS_0 (an : Nat) (al : List Int) (k : Int) (rec0 : Int → Int → Option (Int)) (k' : Int) (i : Int) : Option (Int) :=
  (if (decide (i < ((an : Nat) : Int))) = true then (if (decide (0 ≤ i) && decide (i < ((an : Nat) : Int))) = true then (if (Nat.ble (i.toNat * 2 + 0 + 1) al.length) = true then (if ((al.getD (i.toNat * 2 + 0) 0) != k') = true then some (-1) else (if (decide (0 ≤ i) && decide (i < ((an : Nat) : Int))) = true then (if (Nat.ble (i.toNat * 2 + 1 + 1) al.length) = true then (if ((al.getD (i.toNat * 2 + 1) 0) != (wI (k' + 1))) = true then some (-1) else rec0 (wI ((wI (k' + 1)) + 1)) (wI (i + 1))) else none) else none)) else none) else none) else some k')
def L_l_heldPointS_0 (fu : Nat) (an : Nat) (al : List Int) (k : Int) : Nat → Int → Int → Option (Int)
  | 0, _, _ => none
  | f + 1, k', i => B_l_heldPointS_0 an al k (L_l_heldPointS_0 fu an al k f) k' i
theorem loop_l_heldPointS_0 (fu : Nat) (an : Nat) (al : List Int) (k : Int) : ∀ (f : Nat) (k' : Int) (i : Int), X_l_heldPointS_0 Try.prog fu an al k f k' i = L_l_heldPointS_0 fu an al k f k' i := by
  intro f
  induction f with
  | zero => intros; rfl
  | succ f ih =>
    intro k' i
    have h1 : X_l_heldPointS_0 Try.prog fu an al k (f + 1) k' i = B_l_heldPointS_0 an al k (X_l_heldPointS_0 Try.prog fu an al k f) k' i := by kernel_rfl
    have h2 : X_l_heldPointS_0 Try.prog fu an al k f = L_l_heldPointS_0 fu an al k f := by funext k' i; exact ih k' i
    rw [h1, h2]
    rfl
def G_l_heldPointS (an : Nat) (al : List Int) (k : Int) (lo0 : Int → Int → Option (Int)) : Option (Int) :=
  lo0 k 0
def Fo_l_heldPointS (fu : Nat) (an : Nat) (al : List Int) (k : Int) : Option (Int) := G_l_heldPointS an al k (L_l_heldPointS_0 fu an al k (fu + 100))
theorem eqg_l_heldPointS (fu : Nat) (an : Nat) (al : List Int) (k : Int) : execT Try.prog S_l_heldPointS 30 28 (fun _ => fu + 100) dec_i [.s an (.ints al), .v (.int .i64 k)] = G_l_heldPointS an al k (L_l_heldPointS_0 fu an al k (fu + 100)) := by
  have h1 : execT Try.prog S_l_heldPointS 30 28 (fun _ => fu + 100) dec_i [.s an (.ints al), .v (.int .i64 k)] = G_l_heldPointS an al k (X_l_heldPointS_0 Try.prog fu an al k (fu + 100)) := by kernel_rfl
  have c0 : X_l_heldPointS_0 Try.prog fu an al k (fu + 100) = L_l_heldPointS_0 fu an al k (fu + 100) := by funext k' i; exact loop_l_heldPointS_0 fu an al k (fu + 100) k' i
  rw [h1, c0]
theorem eq_l_heldPointS (fu : Nat) (an : Nat) (al : List Int) (k : Int) : execT Try.prog S_l_heldPointS 30 28 (fun _ => fu + 100) dec_i [.s an (.ints al), .v (.int .i64 k)] = Fo_l_heldPointS fu an al k := eqg_l_heldPointS fu an al k
def l_heldPointS (n : Nat) (l : List Int) (k : Int) : Int := if (l == seq1 (2 * n)) = true then ((2 * n : Nat) : Int) + 1 else -1
theorem go_l_heldPointS (fu an : Nat) (al : List Int) (k : Int) (hn : an ≤ 100000000000) (hl : al.length = 2 * an) : ∀ (m j F : Nat), j + m = an → m < F → (∀ t : Nat, t < 2 * j → al.getD t 0 = (t : Int) + 1) → L_l_heldPointS_0 fu an al k F (((2 * j : Nat) : Int) + 1) (j : Int) = some (if (al == seq1 (2 * an)) = true then ((2 * an : Nat) : Int) + 1 else -1)
  | m, j, 0, _, h, _ => absurd h (Nat.not_lt_zero m)
  | 0, j, F + 1, hj, _, hp => by
    obtain rfl : j = an := by omega
    show B_l_heldPointS_0 j al k _ _ (j : Int) = _
    unfold B_l_heldPointS_0
    rw [if_neg (by simp), if_pos (by simpa using seq1_of hl hp)]
  | m + 1, j, F + 1, hj, hF, hp => by
    show B_l_heldPointS_0 an al k (L_l_heldPointS_0 fu an al k F) _ (j : Int) = _
    unfold B_l_heldPointS_0
    have e1 : decide ((j : Int) < ((an : Nat) : Int)) = true := by simp; omega
    have e2 : (decide (0 ≤ (j : Int)) && decide ((j : Int) < ((an : Nat) : Int))) = true := by simp; omega
    have e3 : (j : Int).toNat = j := Int.toNat_natCast j
    have a0 : wrap64 ((j : Int) + 1) = ((j + 1 : Nat) : Int) := by rw [wrapS (by omega)]; omega
    have a1 : wrap64 (((2 * j : Nat) : Int) + 1 + 1) = ((2 * j : Nat) : Int) + 2 := wrapS (by omega)
    have a2 : wrap64 (((2 * j : Nat) : Int) + 2 + 1) = ((2 * j : Nat) : Int) + 3 := wrapS (by omega)
    simp only [e3, wI_eq, a0, a1, a2]
    rw [if_pos e1]
    rw [if_pos e2, if_pos (leb (by rw [hl]; omega))]
    by_cases c0 : al.getD (j * 2 + 0) 0 = ((2 * j : Nat) : Int) + 1
    rotate_left
    · rw [if_pos (by simpa using c0)]
      rw [if_neg]
      intro hh
      have hh : al = seq1 (2 * an) := by simpa using hh
      apply c0
      rw [hh, seq1_getD (by omega)]
      omega
    rw [if_neg (by simpa using c0)]
    rw [if_pos e2, if_pos (leb (by rw [hl]; omega))]
    by_cases c1 : al.getD (j * 2 + 1) 0 = ((2 * j : Nat) : Int) + 2
    rotate_left
    · rw [if_pos (by simpa using c1)]
      rw [if_neg]
      intro hh
      have hh : al = seq1 (2 * an) := by simpa using hh
      apply c1
      rw [hh, seq1_getD (by omega)]
      omega
    rw [if_neg (by simpa using c1)]
    rw [show ((2 * j : Nat) : Int) + 3 = ((2 * (j + 1) : Nat) : Int) + 1 from by omega]
    refine go_l_heldPointS fu an al k hn hl m (j + 1) F (by omega) (by omega) fun t ht => ?_
    by_cases ht' : t < 2 * j
    · exact hp t ht'
    · obtain rfl | rfl : t = j * 2 + 0 ∨ t = j * 2 + 1 := by omega
      · rw [c0]; omega
      · rw [c1]; omega
theorem tot_l_heldPointS (an : Nat) (al : List Int) (k : Int) (hp : (lenB an 2 al && (k == 1)) = true) : Fo_l_heldPointS an an al k = some (l_heldPointS an al k) := by
  simp only [Bool.and_eq_true, beq_iff_eq] at hp
  obtain ⟨h1, rfl⟩ := hp
  obtain ⟨hl, hn⟩ := lenB_ok h1
  have := go_l_heldPointS an an al 1 hn hl an 0 (an + 100) (by omega) (by omega) (fun t ht => by omega)
  simpa [Fo_l_heldPointS, G_l_heldPointS, l_heldPointS] using this
def run_l_heldPointS : List PV → Option (Bool × List TR)
  | [.s an (.ints al), .v (.int .i64 k)] => some (lenB an 2 al && (k == 1), enc_i (l_heldPointS an al k))
  | _ => none
theorem sound_l_heldPointS : Sound Try.prog 30 run_l_heldPointS := by
  refine sound_of de_i SO_l_heldPointS (by kernel_rfl) Try.func30 Try.ntmps30 rfl (by kernel_rfl) ?_
  intro W pvs avs rs hargs hrun
  unfold run_l_heldPointS at hrun
  split at hrun
  · simp only [Option.some.injEq, Prod.mk.injEq] at hrun
    obtain ⟨hp, rfl⟩ := hrun
    rename_i an al k
    exact ⟨_, _, _, hargs, rfl, (eq_l_heldPointS _ an al k).trans (tot_l_heldPointS an al k hp)⟩
  · cases hrun

def S_l_eqPointS : Sums := ⟨tblS [(37, run_l_eqPoint)], tblM []⟩
theorem SO_l_eqPointS : SumsOK Try.prog S_l_eqPointS := ⟨tblS_ok ⟨⟨Try.call37, sound_l_eqPoint⟩, True.intro⟩, tblM_ok True.intro⟩
def T_l_eqPointS_0 (an : Nat) (al : List Int) (bn : Nat) (bl : List Int) (i : Int) : Tab := ⟨[.row 0, .row 4, .junk, .junk, .val (.bool false), .val (.int .i64 i), .row 0, .val (.int .i64 ((an : Nat) : Int)), .row 4, .val (.int .i64 ((bn : Nat) : Int)), .val (.bool (((an : Nat) : Int) != ((bn : Nat) : Int))), .junk, .junk, .junk, .junk, .junk, .junk, .junk, .junk, .junk, .junk, .junk, .junk, .junk, .junk, .junk, .junk], [(0, .ros an (.ints al)), (4, .ros bn (.ints bl))]⟩
def X_l_eqPointS_0 (P : Program) (fu : Nat) (an : Nat) (al : List Int) (bn : Nat) (bl : List Int) (f : Nat) (i : Int) : Option (Bool) := loopK (exec P S_l_eqPointS 27 (fun _ => fu + 100) (Code.sub [1, 1, 0, 1, 0, 0] (bodyF P 28))) f (T_l_eqPointS_0 an al bn bl i) (kBlock 0 (kSeq (fun s => exec P S_l_eqPointS 27 (fun _ => fu + 100) (Code.sub [1, 1, 1] (bodyF P 28)) s (finT P 28 dec_b)) (finT P 28 dec_b)))
def B_l_eqPointS_0 (an : Nat) (al : List Int) (bn : Nat) (bl : List Int) (rec0 : Int → Option (Bool)) (i : Int) : Option (Bool) :=
  (if (decide (i < ((an : Nat) : Int))) = true then (if (decide (0 ≤ i) && decide (i < ((an : Nat) : Int))) = true then (if (Nat.ble (i.toNat * 2 + 2) al.length) = true then (if (decide (0 ≤ i) && decide (i < ((bn : Nat) : Int))) = true then (if (Nat.ble (i.toNat * 2 + 2) bl.length) = true then (if (!(l_eqPoint (al.getD (i.toNat * 2 + 0) 0, al.getD (i.toNat * 2 + 1) 0) (bl.getD (i.toNat * 2 + 0) 0, bl.getD (i.toNat * 2 + 1) 0))) = true then some false else rec0 (wI (i + 1))) else none) else none) else none) else none) else some true)
def L_l_eqPointS_0 (fu : Nat) (an : Nat) (al : List Int) (bn : Nat) (bl : List Int) : Nat → Int → Option (Bool)
  | 0, _ => none
  | f + 1, i => B_l_eqPointS_0 an al bn bl (L_l_eqPointS_0 fu an al bn bl f) i
theorem loop_l_eqPointS_0 (fu : Nat) (an : Nat) (al : List Int) (bn : Nat) (bl : List Int) : ∀ (f : Nat) (i : Int), X_l_eqPointS_0 Try.prog fu an al bn bl f i = L_l_eqPointS_0 fu an al bn bl f i := by
  intro f
  induction f with
  | zero => intros; rfl
  | succ f ih =>
    intro i
    have h1 : X_l_eqPointS_0 Try.prog fu an al bn bl (f + 1) i = B_l_eqPointS_0 an al bn bl (X_l_eqPointS_0 Try.prog fu an al bn bl f) i := by kernel_rfl
    have h2 : X_l_eqPointS_0 Try.prog fu an al bn bl f = L_l_eqPointS_0 fu an al bn bl f := by funext i; exact ih i
    rw [h1, h2]
    rfl
def G_l_eqPointS (an : Nat) (al : List Int) (bn : Nat) (bl : List Int) (lo0 : Int → Option (Bool)) : Option (Bool) :=
  (if (((an : Nat) : Int) != ((bn : Nat) : Int)) = true then some false else lo0 0)
def Fo_l_eqPointS (fu : Nat) (an : Nat) (al : List Int) (bn : Nat) (bl : List Int) : Option (Bool) := G_l_eqPointS an al bn bl (L_l_eqPointS_0 fu an al bn bl (fu + 100))
theorem eqg_l_eqPointS (fu : Nat) (an : Nat) (al : List Int) (bn : Nat) (bl : List Int) : execT Try.prog S_l_eqPointS 28 27 (fun _ => fu + 100) dec_b [.s an (.ints al), .s bn (.ints bl)] = G_l_eqPointS an al bn bl (L_l_eqPointS_0 fu an al bn bl (fu + 100)) := by
  have h1 : execT Try.prog S_l_eqPointS 28 27 (fun _ => fu + 100) dec_b [.s an (.ints al), .s bn (.ints bl)] = G_l_eqPointS an al bn bl (X_l_eqPointS_0 Try.prog fu an al bn bl (fu + 100)) := by kernel_rfl
  have c0 : X_l_eqPointS_0 Try.prog fu an al bn bl (fu + 100) = L_l_eqPointS_0 fu an al bn bl (fu + 100) := by funext i; exact loop_l_eqPointS_0 fu an al bn bl (fu + 100) i
  rw [h1, c0]
theorem eq_l_eqPointS (fu : Nat) (an : Nat) (al : List Int) (bn : Nat) (bl : List Int) : execT Try.prog S_l_eqPointS 28 27 (fun _ => fu + 100) dec_b [.s an (.ints al), .s bn (.ints bl)] = Fo_l_eqPointS fu an al bn bl := eqg_l_eqPointS fu an al bn bl
theorem l_eqPoint_eq (a b : P2) : l_eqPoint a b = (a == b) := by
  obtain ⟨a0, a1⟩ := a
  obtain ⟨b0, b1⟩ := b
  rw [Bool.eq_iff_iff]
  simp [l_eqPoint]
def l_eqPointS (an : Nat) (al : List Int) (bn : Nat) (bl : List Int) : Bool := al == bl
theorem go_l_eqPointS (fu an : Nat) (al : List Int) (bl : List Int) (hn : an ≤ 100000000000) (hl : al.length = 2 * an) (hm : bl.length = 2 * an) : ∀ (m j F : Nat), j + m = an → m < F → (∀ t : Nat, t < 2 * j → al.getD t 0 = bl.getD t 0) → L_l_eqPointS_0 fu an al an bl F (j : Int) = some (al == bl)
  | m, j, 0, _, h, _ => absurd h (Nat.not_lt_zero m)
  | 0, j, F + 1, hj, _, hp => by
    obtain rfl : j = an := by omega
    show B_l_eqPointS_0 j al j bl _ (j : Int) = _
    unfold B_l_eqPointS_0
    have e : al = bl := list_of_getD (by omega) fun t ht => hp t (by omega)
    rw [if_neg (by simp), e]
    simp
  | m + 1, j, F + 1, hj, hF, hp => by
    show B_l_eqPointS_0 an al an bl (L_l_eqPointS_0 fu an al an bl F) (j : Int) = _
    unfold B_l_eqPointS_0
    have e1 : decide ((j : Int) < ((an : Nat) : Int)) = true := by simp; omega
    have e2 : (decide (0 ≤ (j : Int)) && decide ((j : Int) < ((an : Nat) : Int))) = true := by simp; omega
    have e3 : (j : Int).toNat = j := Int.toNat_natCast j
    have a0 : wrap64 ((j : Int) + 1) = ((j + 1 : Nat) : Int) := by rw [wrapS (by omega)]; omega
    simp only [e3, wI_eq, a0]
    rw [if_pos e1, if_pos e2, if_pos (leb (by rw [hl]; omega)), if_pos e2, if_pos (leb (by rw [hm]; omega))]
    by_cases c : (al.getD (j * 2 + 0) 0, al.getD (j * 2 + 1) 0) = (bl.getD (j * 2 + 0) 0, bl.getD (j * 2 + 1) 0)
    rotate_left
    · rw [if_pos (by rw [l_eqPoint_eq]; simpa using c)]
      congr 1
      symm
      rw [beq_eq_false_iff_ne]
      rintro rfl
      exact c rfl
    rw [if_neg (by rw [l_eqPoint_eq]; simpa using c)]
    refine go_l_eqPointS fu an al bl hn hl hm m (j + 1) F (by omega) (by omega) fun t ht => ?_
    by_cases ht' : t < 2 * j
    · exact hp t ht'
    · simp only [Prod.mk.injEq] at c
      obtain rfl | rfl : t = j * 2 + 0 ∨ t = j * 2 + 1 := by omega
      · exact c.1
      · exact c.2
theorem tot_l_eqPointS (an : Nat) (al : List Int) (bn : Nat) (bl : List Int) (hp : (lenB an 2 al && lenB bn 2 bl) = true) : Fo_l_eqPointS an an al bn bl = some (l_eqPointS an al bn bl) := by
  simp only [Bool.and_eq_true] at hp
  obtain ⟨hl, hn⟩ := lenB_ok hp.1
  obtain ⟨hm, _⟩ := lenB_ok hp.2
  unfold Fo_l_eqPointS G_l_eqPointS l_eqPointS
  by_cases e : an = bn
  · subst e
    rw [if_neg (by simp)]
    exact go_l_eqPointS an an al bl hn hl hm an 0 (an + 100) (by omega) (by omega) (fun t ht => by omega)
  · rw [if_pos (by simp; omega)]
    congr 1
    symm
    rw [beq_eq_false_iff_ne]
    rintro rfl
    omega
def run_l_eqPointS : List PV → Option (Bool × List TR)
  | [.s an (.ints al), .s bn (.ints bl)] => some (lenB an 2 al && lenB bn 2 bl, enc_b (l_eqPointS an al bn bl))
  | _ => none
theorem sound_l_eqPointS : Sound Try.prog 28 run_l_eqPointS := by
  refine sound_of de_b SO_l_eqPointS (by kernel_rfl) Try.func28 Try.ntmps28 rfl (by kernel_rfl) ?_
  intro W pvs avs rs hargs hrun
  unfold run_l_eqPointS at hrun
  split at hrun
  · simp only [Option.some.injEq, Prod.mk.injEq] at hrun
    obtain ⟨hp, rfl⟩ := hrun
    rename_i an al bn bl
    exact ⟨_, _, _, hargs, rfl, (eq_l_eqPointS _ an al bn bl).trans (tot_l_eqPointS an al bn bl hp)⟩
  · cases hrun

def S_i_ParabolaOf_c2 : Sums := ⟨tblS [(94, run_i_rest), (95, run_i_quadrance), (96, run_i_foot)], tblM []⟩
theorem SO_i_ParabolaOf_c2 : SumsOK Try.prog S_i_ParabolaOf_c2 := ⟨tblS_ok ⟨⟨Try.call94, sound_i_rest⟩, ⟨Try.call95, sound_i_quadrance⟩, ⟨Try.call96, sound_i_foot⟩, True.intro⟩, tblM_ok True.intro⟩
def Fo_i_ParabolaOf_c2 (x : Int) (y : Int) (c0 : Int) (c1 : Int) (c2 : Int × Int) (c3 : Int × Int × Int) : Option (Int) :=
  (if (prB c0) = true then (if (prB c0) = true then (if (prB c0) = true then (if (prB c0) = true then (if (prB c0) = true then (if (prB c0) = true then some (i_rest c0 (wI ((i_quadrance c0 c1 ((i_rest c0 x), (i_rest c0 y)) c2) - (i_quadrance c0 c1 ((i_rest c0 x), (i_rest c0 y)) (i_foot c0 c1 ((i_rest c0 x), (i_rest c0 y)) c3))))) else none) else none) else none) else none) else none) else none)
theorem eq_i_ParabolaOf_c2 (x : Int) (y : Int) (c0 : Int) (c1 : Int) (c2 : Int × Int) (c3 : Int × Int × Int) : execT Try.prog S_i_ParabolaOf_c2 93 34 (fun _ => 1000000) dec_i [.v (.int .i64 x), .v (.int .i64 y), .p [.int .i64 c0], .p [.int .i64 c1], .p [.int .i64 c2.1, .int .i64 c2.2], .p [.int .i64 c3.1, .int .i64 c3.2.1, .int .i64 c3.2.2]] = Fo_i_ParabolaOf_c2 x y c0 c1 c2 c3 := by
  kernel_rfl
def i_ParabolaOf_c2 (x : Int) (y : Int) (c0 : Int) (c1 : Int) (c2 : Int × Int) (c3 : Int × Int × Int) : Int :=
  (i_rest c0 (wrap64 ((i_quadrance c0 c1 ((i_rest c0 x), (i_rest c0 y)) c2) - (i_quadrance c0 c1 ((i_rest c0 x), (i_rest c0 y)) (i_foot c0 c1 ((i_rest c0 x), (i_rest c0 y)) c3)))))
theorem tot_i_ParabolaOf_c2 (x : Int) (y : Int) (c0 : Int) (c1 : Int) (c2 : Int × Int) (c3 : Int × Int × Int) (hp : (prB c0) = true) : Fo_i_ParabolaOf_c2 x y c0 c1 c2 c3 = some (i_ParabolaOf_c2 x y c0 c1 c2 c3) := by
  try have h0 := prB_ne hp
  unfold Fo_i_ParabolaOf_c2 i_ParabolaOf_c2
  (try simp only [wI_eq])
  repeat' (first | with_reducible rfl | with_reducible refine chk_opt hp ?_ | with_reducible refine chk_opt h0 ?_ | refine chk_opt (and_all hp fun _ => hp) ?_ | refine chk_opt (and_all hp fun _ => rfl) ?_ | refine ite_opt (fun _ => ?_) (fun _ => ?_) | rfl)
def run_i_ParabolaOf_c2 : List PV → Option (Bool × List TR)
  | [.v (.int .i64 x), .v (.int .i64 y), .p [.int .i64 c0], .p [.int .i64 c1], .p [.int .i64 c20, .int .i64 c21], .p [.int .i64 c30, .int .i64 c31, .int .i64 c32]] => some (prB c0, enc_i (i_ParabolaOf_c2 x y c0 c1 (c20, c21) (c30, c31, c32)))
  | _ => none
theorem sound_i_ParabolaOf_c2 : Sound Try.prog 93 run_i_ParabolaOf_c2 := by
  refine sound_of de_i SO_i_ParabolaOf_c2 (by kernel_rfl) Try.func93 Try.ntmps93 rfl (by kernel_rfl) ?_
  intro W pvs avs rs hargs hrun
  unfold run_i_ParabolaOf_c2 at hrun
  split at hrun
  · simp only [Option.some.injEq, Prod.mk.injEq] at hrun
    obtain ⟨hp, rfl⟩ := hrun
    rename_i x y c0 c1 c20 c21 c30 c31 c32
    exact ⟨_, _, _, hargs, rfl, (eq_i_ParabolaOf_c2 x y c0 c1 (c20, c21) (c30, c31, c32)).trans (tot_i_ParabolaOf_c2 x y c0 c1 (c20, c21) (c30, c31, c32) hp)⟩
  · cases hrun


end Go.Proofs.Ytjpckmpeahinkaa
