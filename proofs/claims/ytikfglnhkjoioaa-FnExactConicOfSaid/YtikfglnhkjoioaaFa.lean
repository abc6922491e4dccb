import Derived.Test.YtikfglnhkjoioaaHz
import Derived.Test.YtikfglnhkjoioaaProg
set_option linter.unusedSimpArgs false
set_option linter.unusedVariables false
namespace Go.Proofs.Ytikfglnhkjoioaa
open Go.RowKit
noncomputable section
def S_i_isNumber : Sums := ⟨tblS [], tblM []⟩
theorem SO_i_isNumber : SumsOK Try.prog S_i_isNumber := ⟨tblS_ok True.intro, tblM_ok True.intro⟩
def Fo_i_isNumber (p : Int) (x : Int) : Option (Bool) :=
  (if (decide (x ≥ 0)) = true then some (decide (x < p)) else some false)
theorem eq_i_isNumber (p : Int) (x : Int) : execT Try.prog S_i_isNumber 36 12 (fun _ => 1000000) dec_b [.v (.int .i64 p), .v (.int .i64 x)] = Fo_i_isNumber p x := by
  kernel_rfl
def i_isNumber (p : Int) (x : Int) : Bool :=
  (if (decide (x ≥ 0)) = true then decide (x < p) else false)
theorem tot_i_isNumber (p : Int) (x : Int) : Fo_i_isNumber p x = some (i_isNumber p x) := by
  unfold Fo_i_isNumber i_isNumber
  (try simp only [wI_eq])
  repeat' (first | with_reducible rfl | refine ite_opt (fun _ => ?_) (fun _ => ?_) | rfl)
def run_i_isNumber : List PV → Option (Bool × List TR)
  | [.v (.int .i64 p), .v (.int .i64 x)] => some (true, enc_b (i_isNumber p x))
  | _ => none
theorem sound_i_isNumber : Sound Try.prog 36 run_i_isNumber := by
  refine sound_of de_b SO_i_isNumber (by kernel_rfl) Try.func36 Try.ntmps36 rfl (by kernel_rfl) ?_
  intro W pvs avs rs hargs hrun
  unfold run_i_isNumber at hrun
  split at hrun
  · simp only [Option.some.injEq, Prod.mk.injEq] at hrun
    obtain ⟨hp, rfl⟩ := hrun
    rename_i p x
    exact ⟨_, _, _, hargs, rfl, (eq_i_isNumber p x).trans (tot_i_isNumber p x)⟩
  · cases hrun

def S_i_areNumbers : Sums := ⟨tblS [(36, run_i_isNumber)], tblM []⟩
theorem SO_i_areNumbers : SumsOK Try.prog S_i_areNumbers := ⟨tblS_ok ⟨⟨Try.call36, sound_i_isNumber⟩, True.intro⟩, tblM_ok True.intro⟩
def T_i_areNumbers_0 (p : Int) (listn : Nat) (listl : List Int) (t9 : Int) : Tab := ⟨[.val (.int .i64 p), .row 4, .junk, .junk, .val (.bool false), .junk, .junk, .row 4, .val (.int .i64 ((listn : Nat) : Int)), .val (.int .i64 t9), .junk, .junk, .junk, .junk, .junk, .junk, .junk, .junk], [(4, .ros listn (.ints listl))]⟩
def X_i_areNumbers_0 (P : Program) (fu : Nat) (p : Int) (listn : Nat) (listl : List Int) (f : Nat) (t9 : Int) : Option (Bool) := loopK (exec P S_i_areNumbers 18 (fun _ => fu + 100) (Code.sub [1, 0, 1, 0, 0] (bodyF P 19))) f (T_i_areNumbers_0 p listn listl t9) (kBlock 0 (kSeq (fun s => exec P S_i_areNumbers 18 (fun _ => fu + 100) (Code.sub [1, 1] (bodyF P 19)) s (finT P 19 dec_b)) (finT P 19 dec_b)))
def B_i_areNumbers_0 (p : Int) (listn : Nat) (listl : List Int) (rec0 : Int → Option (Bool)) (t9 : Int) : Option (Bool) :=
  (if (decide (t9 < ((listn : Nat) : Int))) = true then (if (decide (0 ≤ t9) && decide (t9 < ((listn : Nat) : Int))) = true then (if (Nat.ble (t9.toNat * 1 + 1) listl.length) = true then (if (!(i_isNumber p (listl.getD (t9.toNat * 1) 0))) = true then some false else rec0 (wI (t9 + 1))) else none) else none) else some true)
def L_i_areNumbers_0 (fu : Nat) (p : Int) (listn : Nat) (listl : List Int) : Nat → Int → Option (Bool)
  | 0, _ => none
  | f + 1, t9 => B_i_areNumbers_0 p listn listl (L_i_areNumbers_0 fu p listn listl f) t9
theorem loop_i_areNumbers_0 (fu : Nat) (p : Int) (listn : Nat) (listl : List Int) : ∀ (f : Nat) (t9 : Int), X_i_areNumbers_0 Try.prog fu p listn listl f t9 = L_i_areNumbers_0 fu p listn listl f t9 := by
  intro f
  induction f with
  | zero => intros; rfl
  | succ f ih =>
    intro t9
    have h1 : X_i_areNumbers_0 Try.prog fu p listn listl (f + 1) t9 = B_i_areNumbers_0 p listn listl (X_i_areNumbers_0 Try.prog fu p listn listl f) t9 := by kernel_rfl
    have h2 : X_i_areNumbers_0 Try.prog fu p listn listl f = L_i_areNumbers_0 fu p listn listl f := by funext t9; exact ih t9
    rw [h1, h2]
    rfl
def G_i_areNumbers (p : Int) (listn : Nat) (listl : List Int) (lo0 : Int → Option (Bool)) : Option (Bool) :=
  lo0 0
def Fo_i_areNumbers (fu : Nat) (p : Int) (listn : Nat) (listl : List Int) : Option (Bool) := G_i_areNumbers p listn listl (L_i_areNumbers_0 fu p listn listl (fu + 100))
theorem eqg_i_areNumbers (fu : Nat) (p : Int) (listn : Nat) (listl : List Int) : execT Try.prog S_i_areNumbers 19 18 (fun _ => fu + 100) dec_b [.v (.int .i64 p), .s listn (.ints listl)] = G_i_areNumbers p listn listl (L_i_areNumbers_0 fu p listn listl (fu + 100)) := by
  have h1 : execT Try.prog S_i_areNumbers 19 18 (fun _ => fu + 100) dec_b [.v (.int .i64 p), .s listn (.ints listl)] = G_i_areNumbers p listn listl (X_i_areNumbers_0 Try.prog fu p listn listl (fu + 100)) := by kernel_rfl
  have c0 : X_i_areNumbers_0 Try.prog fu p listn listl (fu + 100) = L_i_areNumbers_0 fu p listn listl (fu + 100) := by funext t9; exact loop_i_areNumbers_0 fu p listn listl (fu + 100) t9
  rw [h1, c0]
theorem eq_i_areNumbers (fu : Nat) (p : Int) (listn : Nat) (listl : List Int) : execT Try.prog S_i_areNumbers 19 18 (fun _ => fu + 100) dec_b [.v (.int .i64 p), .s listn (.ints listl)] = Fo_i_areNumbers fu p listn listl := eqg_i_areNumbers fu p listn listl
def i_areNumbers (p : Int) (l : List Int) : Bool := l.all (fun x => i_isNumber p x)
theorem tot_i_areNumbers (p : Int) (listn : Nat) (listl : List Int) (hp : (lenB listn 1 listl) = true) : Fo_i_areNumbers listn p listn listl = some (i_areNumbers p listl) := by
  obtain ⟨hl, hn⟩ := lenB_ok hp
  have key : ∀ F, listn < F → (L_i_areNumbers_0 listn p listn listl) F 0 = some (if (List.range listn).all (fun k => (fun x => i_isNumber p x) (listl.getD (k * 1) 0)) = true then true else false) := by
    intro F hF
    refine scan hF (fun f k hk => ?_) fun f => ?_
    · show B_i_areNumbers_0 p listn listl ((L_i_areNumbers_0 listn p listn listl) f) (k : Int) = _
      unfold B_i_areNumbers_0
      rw [if_pos (by simpa using hk), if_pos (by simpa using hk), if_pos (leb (by rw [hl, Int.toNat_natCast]; omega)), wrap_add1 hk (by omega)]
      first | rfl | (rw [wI_eq]; rfl)
    · show B_i_areNumbers_0 p listn listl ((L_i_areNumbers_0 listn p listn listl) f) ((listn : Nat) : Int) = _
      unfold B_i_areNumbers_0
      rw [if_neg (by simp)]
  unfold Fo_i_areNumbers G_i_areNumbers
  rw [key _ (by omega)]
  show _ = some ((listl).all (fun x => i_isNumber p x))
  rw [all_rows1 listn listl (by omega)]
  cases (List.range listn).all (fun k => (fun x => i_isNumber p x) (listl.getD (k * 1) 0)) <;> rfl
def run_i_areNumbers : List PV → Option (Bool × List TR)
  | [.v (.int .i64 p), .s listn (.ints listl)] => some (lenB listn 1 listl, enc_b (i_areNumbers p listl))
  | _ => none
theorem sound_i_areNumbers : Sound Try.prog 19 run_i_areNumbers := by
  refine sound_of de_b SO_i_areNumbers (by kernel_rfl) Try.func19 Try.ntmps19 rfl (by kernel_rfl) ?_
  intro W pvs avs rs hargs hrun
  unfold run_i_areNumbers at hrun
  split at hrun
  · simp only [Option.some.injEq, Prod.mk.injEq] at hrun
    obtain ⟨hp, rfl⟩ := hrun
    rename_i p listn listl
    exact ⟨_, _, _, hargs, rfl, (eq_i_areNumbers _ p listn listl).trans (tot_i_areNumbers p listn listl hp)⟩
  · cases hrun

def S_i_ConicOf_c1 : Sums := ⟨tblS [(19, run_i_areNumbers)], tblM []⟩
theorem SO_i_ConicOf_c1 : SumsOK Try.prog S_i_ConicOf_c1 := ⟨tblS_ok ⟨⟨Try.call19, sound_i_areNumbers⟩, True.intro⟩, tblM_ok True.intro⟩
def Fo_i_ConicOf_c1 (c0n : Nat) (c0l : List Int) (c1 : Int) : Option (Bool) :=
  (if (((c0n : Nat) : Int) == 6) = true then (if (lenB c0n 1 c0l) = true then some (i_areNumbers c1 c0l) else none) else some false)
theorem eq_i_ConicOf_c1 (c0n : Nat) (c0l : List Int) (c1 : Int) : execT Try.prog S_i_ConicOf_c1 18 11 (fun _ => 1000000) dec_b [.ps c0n (.ints c0l), .p [.int .i64 c1]] = Fo_i_ConicOf_c1 c0n c0l c1 := by
  kernel_rfl
def i_ConicOf_c1 (c0n : Nat) (c0l : List Int) (c1 : Int) : Bool :=
  (if (((c0n : Nat) : Int) == 6) = true then (i_areNumbers c1 c0l) else false)
theorem tot_i_ConicOf_c1 (c0n : Nat) (c0l : List Int) (c1 : Int) (hp : (lenB c0n 1 c0l) = true) : Fo_i_ConicOf_c1 c0n c0l c1 = some (i_ConicOf_c1 c0n c0l c1) := by
  try have h0 := prB_ne hp
  unfold Fo_i_ConicOf_c1 i_ConicOf_c1
  (try simp only [wI_eq])
  repeat' (first | with_reducible rfl | with_reducible refine chk_opt hp ?_ | with_reducible refine chk_opt h0 ?_ | refine chk_opt (and_all hp fun _ => hp) ?_ | refine chk_opt (and_all hp fun _ => rfl) ?_ | refine ite_opt (fun _ => ?_) (fun _ => ?_) | rfl)
def run_i_ConicOf_c1 : List PV → Option (Bool × List TR)
  | [.ps c0n (.ints c0l), .p [.int .i64 c1]] => some (lenB c0n 1 c0l, enc_b (i_ConicOf_c1 c0n c0l c1))
  | _ => none
theorem sound_i_ConicOf_c1 : Sound Try.prog 18 run_i_ConicOf_c1 := by
  refine sound_of de_b SO_i_ConicOf_c1 (by kernel_rfl) Try.func18 Try.ntmps18 rfl (by kernel_rfl) ?_
  intro W pvs avs rs hargs hrun
  unfold run_i_ConicOf_c1 at hrun
  split at hrun
  · simp only [Option.some.injEq, Prod.mk.injEq] at hrun
    obtain ⟨hp, rfl⟩ := hrun
    rename_i c0n c0l c1
    exact ⟨_, _, _, hargs, rfl, (eq_i_ConicOf_c1 c0n c0l c1).trans (tot_i_ConicOf_c1 c0n c0l c1 hp)⟩
  · cases hrun

def S_i_IsField : Sums := ⟨tblS [], tblM []⟩
theorem SO_i_IsField : SumsOK Try.prog S_i_IsField := ⟨tblS_ok True.intro, tblM_ok True.intro⟩
def Fo_i_IsField (p : Int) : Option (Bool) :=
  (if (p == 3) = true then (if (p == 3) = true then some true else some false) else (if (p == 5) = true then (if (p == 5) = true then some true else some false) else (if (p == 7) = true then (if (p == 7) = true then some true else some false) else (if (p == 11) = true then (if (p == 11) = true then some true else some false) else (if (p == 13) = true then (if (p == 13) = true then some true else some false) else (if (p == 17) = true then (if (p == 17) = true then some true else some false) else (if (p == 19) = true then (if (p == 19) = true then some true else some false) else (if (p == 23) = true then (if (p == 23) = true then some true else some false) else (if (p == 29) = true then (if (p == 29) = true then some true else some false) else (if (p == 31) = true then some true else some false))))))))))
theorem eq_i_IsField (p : Int) : execT Try.prog S_i_IsField 35 15 (fun _ => 1000000) dec_b [.v (.int .i64 p)] = Fo_i_IsField p := by
  kernel_rfl
def i_IsField (p : Int) : Bool :=
  (if (p == 3) = true then (if (p == 3) = true then true else false) else (if (p == 5) = true then (if (p == 5) = true then true else false) else (if (p == 7) = true then (if (p == 7) = true then true else false) else (if (p == 11) = true then (if (p == 11) = true then true else false) else (if (p == 13) = true then (if (p == 13) = true then true else false) else (if (p == 17) = true then (if (p == 17) = true then true else false) else (if (p == 19) = true then (if (p == 19) = true then true else false) else (if (p == 23) = true then (if (p == 23) = true then true else false) else (if (p == 29) = true then (if (p == 29) = true then true else false) else (if (p == 31) = true then true else false))))))))))
theorem tot_i_IsField (p : Int) : Fo_i_IsField p = some (i_IsField p) := by
  unfold Fo_i_IsField i_IsField
  (try simp only [wI_eq])
  repeat' (first | with_reducible rfl | refine ite_opt (fun _ => ?_) (fun _ => ?_) | rfl)
def run_i_IsField : List PV → Option (Bool × List TR)
  | [.v (.int .i64 p)] => some (true, enc_b (i_IsField p))
  | _ => none
theorem sound_i_IsField : Sound Try.prog 35 run_i_IsField := by
  refine sound_of de_b SO_i_IsField (by kernel_rfl) Try.func35 Try.ntmps35 rfl (by kernel_rfl) ?_
  intro W pvs avs rs hargs hrun
  unfold run_i_IsField at hrun
  split at hrun
  · simp only [Option.some.injEq, Prod.mk.injEq] at hrun
    obtain ⟨hp, rfl⟩ := hrun
    rename_i p
    exact ⟨_, _, _, hargs, rfl, (eq_i_IsField p).trans (tot_i_IsField p)⟩
  · cases hrun

def S_i_asked : Sums := ⟨tblS [(35, run_i_IsField)], tblM []⟩
theorem SO_i_asked : SumsOK Try.prog S_i_asked := ⟨tblS_ok ⟨⟨Try.call35, sound_i_IsField⟩, True.intro⟩, tblM_ok True.intro⟩
def Fo_i_asked (p : Int) (rightk : Bool) (righth : Bool) : Option (Int) :=
  (if (!(i_IsField p)) = true then some 1 else (if (rightk) = true then (if (!righth) = true then some 2 else some 0) else none))
theorem eq_i_asked (p : Int) (rightk : Bool) (righth : Bool) : execT Try.prog S_i_asked 17 11 (fun _ => 1000000) dec_i [.v (.int .i64 p), .f (clo__b rightk righth)] = Fo_i_asked p rightk righth := by
  kernel_rfl
def i_asked (p : Int) (rightk righth : Bool) : Int := if i_IsField p = true then (if righth = true then 0 else 2) else 1
theorem asked_zero {p : Int} {k b : Bool} (h : i_asked p k b = 0) : i_IsField p = true ∧ b = true := by
  unfold i_asked at h
  cases h1 : i_IsField p <;> cases h2 : b <;> simp [h1, h2] at h ⊢
theorem i_IsField_ok {p : Int} (h : i_IsField p = true) : Pr p := by
  unfold Pr; simp [i_IsField] at h; omega
theorem asked_prB {p : Int} {k b : Bool} (h : ¬ (i_asked p k b != 0) = true) : prB p = true := Pr_prB (i_IsField_ok (asked_zero (by simpa using h)).1)
theorem asked_prB0 {p : Int} {k b : Bool} (h : (i_asked p k b == 0) = true) : prB p = true := asked_prB (by simpa using h)
theorem field_prB {p : Int} (h : i_IsField p = true) : prB p = true := Pr_prB (i_IsField_ok h)
theorem field_prB0 {p : Int} (h : ¬ (!(i_IsField p)) = true) : prB p = true := field_prB (by simpa using h)
theorem tot_i_asked (p : Int) (rightk : Bool) (righth : Bool) (hp : (rightk || !(i_IsField p)) = true) : Fo_i_asked p rightk righth = some (i_asked p rightk righth) := by
  unfold Fo_i_asked i_asked
  cases h : i_IsField p <;> cases rightk <;> cases righth <;> simp_all
def run_i_asked : List PV → Option (Bool × List TR)
  | [.v (.int .i64 p), .f rightg] => some ((okV (rightg [])) || !(i_IsField p), enc_i (i_asked p (okV (rightg [])) (boolV (rightg []))))
  | _ => none
theorem sound_i_asked : Sound Try.prog 17 run_i_asked := by
  refine sound_of de_i SO_i_asked (by kernel_rfl) Try.func17 Try.ntmps17 rfl (by kernel_rfl) ?_
  intro W pvs avs rs hargs hrun
  unfold run_i_asked at hrun
  split at hrun
  · simp only [Option.some.injEq, Prod.mk.injEq] at hrun
    obtain ⟨hp, rfl⟩ := hrun
    rename_i p rightg
    have hargs := All2.replace (l1 := [_]) hargs (y := .f (clo__b _ _)) fun b hb => fn_weaken hb (clo__b_ok _)
    exact ⟨_, _, _, hargs, rfl, (eq_i_asked p (okV (rightg [])) (boolV (rightg []))).trans (tot_i_asked p (okV (rightg [])) (boolV (rightg [])) hp)⟩
  · cases hrun

theorem asked0 {p : Int} {k h : Bool} (e : i_asked p k h = 0) : i_IsField p = true ∧ h = true := by
  unfold i_asked at e
  cases hf : i_IsField p
  · simp [hf] at e
  · cases h
    · simp [hf] at e
    · exact ⟨rfl, rfl⟩
def S_i_rest : Sums := ⟨tblS [], tblM []⟩
theorem SO_i_rest : SumsOK Try.prog S_i_rest := ⟨tblS_ok True.intro, tblM_ok True.intro⟩
def Fo_i_rest (p : Int) (x : Int) : Option (Int) :=
  (if (!(p == 0)) = true then (if (!(p == 0)) = true then some ((wI ((x.tmod p) + p)).tmod p) else none) else none)
theorem eq_i_rest (p : Int) (x : Int) : execT Try.prog S_i_rest 30 12 (fun _ => 1000000) dec_i [.v (.int .i64 p), .v (.int .i64 x)] = Fo_i_rest p x := by
  kernel_rfl
def i_rest (p x : Int) : Int := x % p
theorem tot_i_rest (p : Int) (x : Int) (hp : (prB p) = true) : Fo_i_rest p x = some (i_rest p x) := by
  have h0 := prB_ne hp
  unfold Fo_i_rest i_rest
  simp only [h0, if_true, wI_eq]
  rw [rest_raw hp]
def run_i_rest : List PV → Option (Bool × List TR)
  | [.v (.int .i64 p), .v (.int .i64 x)] => some (prB p, enc_i (i_rest p x))
  | _ => none
theorem sound_i_rest : Sound Try.prog 30 run_i_rest := by
  refine sound_of de_i SO_i_rest (by kernel_rfl) Try.func30 Try.ntmps30 rfl (by kernel_rfl) ?_
  intro W pvs avs rs hargs hrun
  unfold run_i_rest at hrun
  split at hrun
  · simp only [Option.some.injEq, Prod.mk.injEq] at hrun
    obtain ⟨hp, rfl⟩ := hrun
    rename_i p x
    exact ⟨_, _, _, hargs, rfl, (eq_i_rest p x).trans (tot_i_rest p x hp)⟩
  · cases hrun

def S_i_inverse : Sums := ⟨tblS [], tblM []⟩
theorem SO_i_inverse : SumsOK Try.prog S_i_inverse := ⟨tblS_ok True.intro, tblM_ok True.intro⟩
def T_i_inverse_0 (p : Int) (a : Int) (x : Int) : Tab := ⟨[.val (.int .i64 p), .val (.int .i64 a), .junk, .junk, .val (.int .i64 0), .val (.int .i64 x), .junk, .junk, .junk, .junk, .junk, .junk, .junk, .junk, .junk, .junk, .junk, .junk], []⟩
def X_i_inverse_0 (P : Program) (fu : Nat) (p : Int) (a : Int) (f : Nat) (x : Int) : Option (Int) := loopK (exec P S_i_inverse 18 (fun _ => fu + 100) (Code.sub [1, 0, 1, 0, 0] (bodyF P 29))) f (T_i_inverse_0 p a x) (kBlock 0 (kSeq (fun s => exec P S_i_inverse 18 (fun _ => fu + 100) (Code.sub [1, 1] (bodyF P 29)) s (finT P 29 dec_i)) (finT P 29 dec_i)))
def B_i_inverse_0 (p : Int) (a : Int) (rec0 : Int → Option (Int)) (x : Int) : Option (Int) :=
  (if (decide (x < p)) = true then (if (!(p == 0)) = true then (if (((wI (a * x)).tmod p) == 1) = true then some x else rec0 (wI (x + 1))) else none) else some 0)
def L_i_inverse_0 (fu : Nat) (p : Int) (a : Int) : Nat → Int → Option (Int)
  | 0, _ => none
  | f + 1, x => B_i_inverse_0 p a (L_i_inverse_0 fu p a f) x
theorem loop_i_inverse_0 (fu : Nat) (p : Int) (a : Int) : ∀ (f : Nat) (x : Int), X_i_inverse_0 Try.prog fu p a f x = L_i_inverse_0 fu p a f x := by
  intro f
  induction f with
  | zero => intros; rfl
  | succ f ih =>
    intro x
    have h1 : X_i_inverse_0 Try.prog fu p a (f + 1) x = B_i_inverse_0 p a (X_i_inverse_0 Try.prog fu p a f) x := by kernel_rfl
    have h2 : X_i_inverse_0 Try.prog fu p a f = L_i_inverse_0 fu p a f := by funext x; exact ih x
    rw [h1, h2]
    rfl
def G_i_inverse (p : Int) (a : Int) (lo0 : Int → Option (Int)) : Option (Int) :=
  lo0 1
def Fo_i_inverse (fu : Nat) (p : Int) (a : Int) : Option (Int) := G_i_inverse p a (L_i_inverse_0 fu p a (fu + 100))
theorem eqg_i_inverse (fu : Nat) (p : Int) (a : Int) : execT Try.prog S_i_inverse 29 18 (fun _ => fu + 100) dec_i [.v (.int .i64 p), .v (.int .i64 a)] = G_i_inverse p a (L_i_inverse_0 fu p a (fu + 100)) := by
  have h1 : execT Try.prog S_i_inverse 29 18 (fun _ => fu + 100) dec_i [.v (.int .i64 p), .v (.int .i64 a)] = G_i_inverse p a (X_i_inverse_0 Try.prog fu p a (fu + 100)) := by kernel_rfl
  have c0 : X_i_inverse_0 Try.prog fu p a (fu + 100) = L_i_inverse_0 fu p a (fu + 100) := by funext x; exact loop_i_inverse_0 fu p a (fu + 100) x
  rw [h1, c0]
theorem eq_i_inverse (fu : Nat) (p : Int) (a : Int) : execT Try.prog S_i_inverse 29 18 (fun _ => fu + 100) dec_i [.v (.int .i64 p), .v (.int .i64 a)] = Fo_i_inverse fu p a := eqg_i_inverse fu p a
def invLoop (p a : Int) : Nat → Int → Int
  | 0, _ => 0
  | k + 1, x => if ((wrap64 (a * x)).tmod p == 1) = true then x else invLoop p a k (x + 1)
def i_inverse (p a : Int) : Int := invLoop p a (p - 1).toNat 1
theorem inv_walk (fu : Nat) (p a : Int) (hp : prB p = true) : ∀ (k f : Nat) (j : Int), 1 ≤ j → j ≤ p → (p - j).toNat = k → k < f → L_i_inverse_0 fu p a f j = some (invLoop p a k j)
  | k, 0, j, _, _, _, h => absurd h (Nat.not_lt_zero k)
  | 0, f + 1, j, h1, h2, hk, _ => by
    show B_i_inverse_0 p a _ j = _
    unfold B_i_inverse_0
    rw [if_neg (by simp; omega)]; rfl
  | k + 1, f + 1, j, h1, h2, hk, hf => by
    show B_i_inverse_0 p a (L_i_inverse_0 fu p a f) j = _
    unfold B_i_inverse_0
    rw [if_pos (by simp; omega), if_pos (prB_ne hp), wI_eq, wI_eq]
    show _ = some (if ((wrap64 (a * j)).tmod p == 1) = true then j else invLoop p a k (j + 1))
    refine ite_opt (fun _ => rfl) fun _ => ?_
    have h31 := (prB_Pr hp).2
    rw [show wrap64 (j + 1) = j + 1 from by unfold wrap64; omega]
    exact inv_walk fu p a hp k f (j + 1) (by omega) (by omega) (by omega) (by omega)
theorem tot_i_inverse (p : Int) (a : Int) (hp : (prB p) = true) : Fo_i_inverse 40 p a = some (i_inverse p a) := by
  obtain ⟨h1, h2⟩ := prB_Pr hp
  exact inv_walk 40 p a hp _ _ 1 (by omega) (by omega) rfl (by omega)
def run_i_inverse : List PV → Option (Bool × List TR)
  | [.v (.int .i64 p), .v (.int .i64 a)] => some (prB p, enc_i (i_inverse p a))
  | _ => none
theorem sound_i_inverse : Sound Try.prog 29 run_i_inverse := by
  refine sound_of de_i SO_i_inverse (by kernel_rfl) Try.func29 Try.ntmps29 rfl (by kernel_rfl) ?_
  intro W pvs avs rs hargs hrun
  unfold run_i_inverse at hrun
  split at hrun
  · simp only [Option.some.injEq, Prod.mk.injEq] at hrun
    obtain ⟨hp, rfl⟩ := hrun
    rename_i p a
    exact ⟨_, _, _, hargs, rfl, (eq_i_inverse _ p a).trans (tot_i_inverse p a hp)⟩
  · cases hrun

def S_i_divide : Sums := ⟨tblS [(29, run_i_inverse), (30, run_i_rest)], tblM []⟩
theorem SO_i_divide : SumsOK Try.prog S_i_divide := ⟨tblS_ok ⟨⟨Try.call29, sound_i_inverse⟩, ⟨Try.call30, sound_i_rest⟩, True.intro⟩, tblM_ok True.intro⟩
def Fo_i_divide (p : Int) (a : Int) (b : Int) : Option (Int) :=
  (if (prB p) = true then (if (prB p) = true then some (i_rest p (wI (a * (i_inverse p b)))) else none) else none)
theorem eq_i_divide (p : Int) (a : Int) (b : Int) : execT Try.prog S_i_divide 37 14 (fun _ => 1000000) dec_i [.v (.int .i64 p), .v (.int .i64 a), .v (.int .i64 b)] = Fo_i_divide p a b := by
  kernel_rfl
def i_divide (p : Int) (a : Int) (b : Int) : Int :=
  (i_rest p (wrap64 (a * (i_inverse p b))))
theorem tot_i_divide (p : Int) (a : Int) (b : Int) (hp : (prB p) = true) : Fo_i_divide p a b = some (i_divide p a b) := by
  try have h0 := prB_ne hp
  unfold Fo_i_divide i_divide
  (try simp only [wI_eq])
  repeat' (first | with_reducible rfl | with_reducible refine chk_opt hp ?_ | with_reducible refine chk_opt h0 ?_ | refine chk_opt (and_all hp fun _ => hp) ?_ | refine chk_opt (and_all hp fun _ => rfl) ?_ | refine ite_opt (fun _ => ?_) (fun _ => ?_) | rfl)
def run_i_divide : List PV → Option (Bool × List TR)
  | [.v (.int .i64 p), .v (.int .i64 a), .v (.int .i64 b)] => some (prB p, enc_i (i_divide p a b))
  | _ => none
theorem sound_i_divide : Sound Try.prog 37 run_i_divide := by
  refine sound_of de_i SO_i_divide (by kernel_rfl) Try.func37 Try.ntmps37 rfl (by kernel_rfl) ?_
  intro W pvs avs rs hargs hrun
  unfold run_i_divide at hrun
  split at hrun
  · simp only [Option.some.injEq, Prod.mk.injEq] at hrun
    obtain ⟨hp, rfl⟩ := hrun
    rename_i p a b
    exact ⟨_, _, _, hargs, rfl, (eq_i_divide p a b).trans (tot_i_divide p a b hp)⟩
  · cases hrun

def S_i_makeConic : Sums := ⟨tblS [(30, run_i_rest), (37, run_i_divide)], tblM []⟩
theorem SO_i_makeConic : SumsOK Try.prog S_i_makeConic := ⟨tblS_ok ⟨⟨Try.call30, sound_i_rest⟩, ⟨Try.call37, sound_i_divide⟩, True.intro⟩, tblM_ok True.intro⟩
def Fo_i_makeConic (p : Int) (list : Int × Int × Int × Int × Int × Int) : Option ((Int × Int × Int × Int × Int × Int) × Bool) :=
  (if (prB p) = true then (if (prB p) = true then (if ((i_rest p list.1) == 0) = true then (if (prB p) = true then (if ((i_rest p list.2.1) == 0) = true then (if (prB p) = true then (if ((i_rest p list.2.2.1) == 0) = true then (if (prB p) = true then (if ((i_rest p list.2.2.1) == 0) = true then (if (prB p) = true then (if ((i_rest p list.2.2.1) == 0) = true then (if ((i_rest p list.2.2.1) == 0) = true then some ((0, 0, 0, 0, 0, 0), false) else (if (prB p) = true then (if (prB p) = true then (if (prB p) = true then (if (prB p) = true then (if (prB p) = true then (if (prB p) = true then some (((i_divide p (i_rest p list.1) (i_rest p list.2.2.1)), (i_divide p (i_rest p list.2.1) (i_rest p list.2.2.1)), (i_divide p (i_rest p list.2.2.1) (i_rest p list.2.2.1)), (i_divide p (i_rest p list.2.2.2.1) (i_rest p list.2.2.1)), (i_divide p (i_rest p list.2.2.2.2.1) (i_rest p list.2.2.1)), (i_divide p (i_rest p list.2.2.2.2.2) (i_rest p list.2.2.1))), true) else none) else none) else none) else none) else none) else none)) else (if ((i_rest p list.2.2.1) == 0) = true then some ((0, 0, 0, 0, 0, 0), false) else (if (prB p) = true then (if (prB p) = true then (if (prB p) = true then (if (prB p) = true then (if (prB p) = true then (if (prB p) = true then some (((i_divide p (i_rest p list.1) (i_rest p list.2.2.1)), (i_divide p (i_rest p list.2.1) (i_rest p list.2.2.1)), (i_divide p (i_rest p list.2.2.1) (i_rest p list.2.2.1)), (i_divide p (i_rest p list.2.2.2.1) (i_rest p list.2.2.1)), (i_divide p (i_rest p list.2.2.2.2.1) (i_rest p list.2.2.1)), (i_divide p (i_rest p list.2.2.2.2.2) (i_rest p list.2.2.1))), true) else none) else none) else none) else none) else none) else none))) else none) else (if (prB p) = true then (if ((i_rest p list.2.2.1) == 0) = true then (if ((i_rest p list.2.2.1) == 0) = true then some ((0, 0, 0, 0, 0, 0), false) else (if (prB p) = true then (if (prB p) = true then (if (prB p) = true then (if (prB p) = true then (if (prB p) = true then (if (prB p) = true then some (((i_divide p (i_rest p list.1) (i_rest p list.2.2.1)), (i_divide p (i_rest p list.2.1) (i_rest p list.2.2.1)), (i_divide p (i_rest p list.2.2.1) (i_rest p list.2.2.1)), (i_divide p (i_rest p list.2.2.2.1) (i_rest p list.2.2.1)), (i_divide p (i_rest p list.2.2.2.2.1) (i_rest p list.2.2.1)), (i_divide p (i_rest p list.2.2.2.2.2) (i_rest p list.2.2.1))), true) else none) else none) else none) else none) else none) else none)) else (if ((i_rest p list.2.2.1) == 0) = true then some ((0, 0, 0, 0, 0, 0), false) else (if (prB p) = true then (if (prB p) = true then (if (prB p) = true then (if (prB p) = true then (if (prB p) = true then (if (prB p) = true then some (((i_divide p (i_rest p list.1) (i_rest p list.2.2.1)), (i_divide p (i_rest p list.2.1) (i_rest p list.2.2.1)), (i_divide p (i_rest p list.2.2.1) (i_rest p list.2.2.1)), (i_divide p (i_rest p list.2.2.2.1) (i_rest p list.2.2.1)), (i_divide p (i_rest p list.2.2.2.2.1) (i_rest p list.2.2.1)), (i_divide p (i_rest p list.2.2.2.2.2) (i_rest p list.2.2.1))), true) else none) else none) else none) else none) else none) else none))) else none)) else none) else (if (prB p) = true then (if ((i_rest p list.2.2.1) == 0) = true then (if (prB p) = true then (if ((i_rest p list.2.2.1) == 0) = true then (if ((i_rest p list.2.2.1) == 0) = true then some ((0, 0, 0, 0, 0, 0), false) else (if (prB p) = true then (if (prB p) = true then (if (prB p) = true then (if (prB p) = true then (if (prB p) = true then (if (prB p) = true then some (((i_divide p (i_rest p list.1) (i_rest p list.2.2.1)), (i_divide p (i_rest p list.2.1) (i_rest p list.2.2.1)), (i_divide p (i_rest p list.2.2.1) (i_rest p list.2.2.1)), (i_divide p (i_rest p list.2.2.2.1) (i_rest p list.2.2.1)), (i_divide p (i_rest p list.2.2.2.2.1) (i_rest p list.2.2.1)), (i_divide p (i_rest p list.2.2.2.2.2) (i_rest p list.2.2.1))), true) else none) else none) else none) else none) else none) else none)) else (if ((i_rest p list.2.2.1) == 0) = true then some ((0, 0, 0, 0, 0, 0), false) else (if (prB p) = true then (if (prB p) = true then (if (prB p) = true then (if (prB p) = true then (if (prB p) = true then (if (prB p) = true then some (((i_divide p (i_rest p list.1) (i_rest p list.2.2.1)), (i_divide p (i_rest p list.2.1) (i_rest p list.2.2.1)), (i_divide p (i_rest p list.2.2.1) (i_rest p list.2.2.1)), (i_divide p (i_rest p list.2.2.2.1) (i_rest p list.2.2.1)), (i_divide p (i_rest p list.2.2.2.2.1) (i_rest p list.2.2.1)), (i_divide p (i_rest p list.2.2.2.2.2) (i_rest p list.2.2.1))), true) else none) else none) else none) else none) else none) else none))) else none) else (if (prB p) = true then (if ((i_rest p list.2.2.1) == 0) = true then (if ((i_rest p list.2.2.1) == 0) = true then some ((0, 0, 0, 0, 0, 0), false) else (if (prB p) = true then (if (prB p) = true then (if (prB p) = true then (if (prB p) = true then (if (prB p) = true then (if (prB p) = true then some (((i_divide p (i_rest p list.1) (i_rest p list.2.2.1)), (i_divide p (i_rest p list.2.1) (i_rest p list.2.2.1)), (i_divide p (i_rest p list.2.2.1) (i_rest p list.2.2.1)), (i_divide p (i_rest p list.2.2.2.1) (i_rest p list.2.2.1)), (i_divide p (i_rest p list.2.2.2.2.1) (i_rest p list.2.2.1)), (i_divide p (i_rest p list.2.2.2.2.2) (i_rest p list.2.2.1))), true) else none) else none) else none) else none) else none) else none)) else (if ((i_rest p list.2.2.1) == 0) = true then some ((0, 0, 0, 0, 0, 0), false) else (if (prB p) = true then (if (prB p) = true then (if (prB p) = true then (if (prB p) = true then (if (prB p) = true then (if (prB p) = true then some (((i_divide p (i_rest p list.1) (i_rest p list.2.2.1)), (i_divide p (i_rest p list.2.1) (i_rest p list.2.2.1)), (i_divide p (i_rest p list.2.2.1) (i_rest p list.2.2.1)), (i_divide p (i_rest p list.2.2.2.1) (i_rest p list.2.2.1)), (i_divide p (i_rest p list.2.2.2.2.1) (i_rest p list.2.2.1)), (i_divide p (i_rest p list.2.2.2.2.2) (i_rest p list.2.2.1))), true) else none) else none) else none) else none) else none) else none))) else none)) else none)) else none) else (if (prB p) = true then (if ((i_rest p list.2.1) == 0) = true then (if (prB p) = true then (if ((i_rest p list.2.1) == 0) = true then (if (prB p) = true then (if ((i_rest p list.2.1) == 0) = true then (if ((i_rest p list.2.1) == 0) = true then some ((0, 0, 0, 0, 0, 0), false) else (if (prB p) = true then (if (prB p) = true then (if (prB p) = true then (if (prB p) = true then (if (prB p) = true then (if (prB p) = true then some (((i_divide p (i_rest p list.1) (i_rest p list.2.1)), (i_divide p (i_rest p list.2.1) (i_rest p list.2.1)), (i_divide p (i_rest p list.2.2.1) (i_rest p list.2.1)), (i_divide p (i_rest p list.2.2.2.1) (i_rest p list.2.1)), (i_divide p (i_rest p list.2.2.2.2.1) (i_rest p list.2.1)), (i_divide p (i_rest p list.2.2.2.2.2) (i_rest p list.2.1))), true) else none) else none) else none) else none) else none) else none)) else (if ((i_rest p list.2.1) == 0) = true then some ((0, 0, 0, 0, 0, 0), false) else (if (prB p) = true then (if (prB p) = true then (if (prB p) = true then (if (prB p) = true then (if (prB p) = true then (if (prB p) = true then some (((i_divide p (i_rest p list.1) (i_rest p list.2.1)), (i_divide p (i_rest p list.2.1) (i_rest p list.2.1)), (i_divide p (i_rest p list.2.2.1) (i_rest p list.2.1)), (i_divide p (i_rest p list.2.2.2.1) (i_rest p list.2.1)), (i_divide p (i_rest p list.2.2.2.2.1) (i_rest p list.2.1)), (i_divide p (i_rest p list.2.2.2.2.2) (i_rest p list.2.1))), true) else none) else none) else none) else none) else none) else none))) else none) else (if (prB p) = true then (if ((i_rest p list.2.1) == 0) = true then (if ((i_rest p list.2.1) == 0) = true then some ((0, 0, 0, 0, 0, 0), false) else (if (prB p) = true then (if (prB p) = true then (if (prB p) = true then (if (prB p) = true then (if (prB p) = true then (if (prB p) = true then some (((i_divide p (i_rest p list.1) (i_rest p list.2.1)), (i_divide p (i_rest p list.2.1) (i_rest p list.2.1)), (i_divide p (i_rest p list.2.2.1) (i_rest p list.2.1)), (i_divide p (i_rest p list.2.2.2.1) (i_rest p list.2.1)), (i_divide p (i_rest p list.2.2.2.2.1) (i_rest p list.2.1)), (i_divide p (i_rest p list.2.2.2.2.2) (i_rest p list.2.1))), true) else none) else none) else none) else none) else none) else none)) else (if ((i_rest p list.2.1) == 0) = true then some ((0, 0, 0, 0, 0, 0), false) else (if (prB p) = true then (if (prB p) = true then (if (prB p) = true then (if (prB p) = true then (if (prB p) = true then (if (prB p) = true then some (((i_divide p (i_rest p list.1) (i_rest p list.2.1)), (i_divide p (i_rest p list.2.1) (i_rest p list.2.1)), (i_divide p (i_rest p list.2.2.1) (i_rest p list.2.1)), (i_divide p (i_rest p list.2.2.2.1) (i_rest p list.2.1)), (i_divide p (i_rest p list.2.2.2.2.1) (i_rest p list.2.1)), (i_divide p (i_rest p list.2.2.2.2.2) (i_rest p list.2.1))), true) else none) else none) else none) else none) else none) else none))) else none)) else none) else (if (prB p) = true then (if ((i_rest p list.2.1) == 0) = true then (if (prB p) = true then (if ((i_rest p list.2.1) == 0) = true then (if ((i_rest p list.2.1) == 0) = true then some ((0, 0, 0, 0, 0, 0), false) else (if (prB p) = true then (if (prB p) = true then (if (prB p) = true then (if (prB p) = true then (if (prB p) = true then (if (prB p) = true then some (((i_divide p (i_rest p list.1) (i_rest p list.2.1)), (i_divide p (i_rest p list.2.1) (i_rest p list.2.1)), (i_divide p (i_rest p list.2.2.1) (i_rest p list.2.1)), (i_divide p (i_rest p list.2.2.2.1) (i_rest p list.2.1)), (i_divide p (i_rest p list.2.2.2.2.1) (i_rest p list.2.1)), (i_divide p (i_rest p list.2.2.2.2.2) (i_rest p list.2.1))), true) else none) else none) else none) else none) else none) else none)) else (if ((i_rest p list.2.1) == 0) = true then some ((0, 0, 0, 0, 0, 0), false) else (if (prB p) = true then (if (prB p) = true then (if (prB p) = true then (if (prB p) = true then (if (prB p) = true then (if (prB p) = true then some (((i_divide p (i_rest p list.1) (i_rest p list.2.1)), (i_divide p (i_rest p list.2.1) (i_rest p list.2.1)), (i_divide p (i_rest p list.2.2.1) (i_rest p list.2.1)), (i_divide p (i_rest p list.2.2.2.1) (i_rest p list.2.1)), (i_divide p (i_rest p list.2.2.2.2.1) (i_rest p list.2.1)), (i_divide p (i_rest p list.2.2.2.2.2) (i_rest p list.2.1))), true) else none) else none) else none) else none) else none) else none))) else none) else (if (prB p) = true then (if ((i_rest p list.2.1) == 0) = true then (if ((i_rest p list.2.1) == 0) = true then some ((0, 0, 0, 0, 0, 0), false) else (if (prB p) = true then (if (prB p) = true then (if (prB p) = true then (if (prB p) = true then (if (prB p) = true then (if (prB p) = true then some (((i_divide p (i_rest p list.1) (i_rest p list.2.1)), (i_divide p (i_rest p list.2.1) (i_rest p list.2.1)), (i_divide p (i_rest p list.2.2.1) (i_rest p list.2.1)), (i_divide p (i_rest p list.2.2.2.1) (i_rest p list.2.1)), (i_divide p (i_rest p list.2.2.2.2.1) (i_rest p list.2.1)), (i_divide p (i_rest p list.2.2.2.2.2) (i_rest p list.2.1))), true) else none) else none) else none) else none) else none) else none)) else (if ((i_rest p list.2.1) == 0) = true then some ((0, 0, 0, 0, 0, 0), false) else (if (prB p) = true then (if (prB p) = true then (if (prB p) = true then (if (prB p) = true then (if (prB p) = true then (if (prB p) = true then some (((i_divide p (i_rest p list.1) (i_rest p list.2.1)), (i_divide p (i_rest p list.2.1) (i_rest p list.2.1)), (i_divide p (i_rest p list.2.2.1) (i_rest p list.2.1)), (i_divide p (i_rest p list.2.2.2.1) (i_rest p list.2.1)), (i_divide p (i_rest p list.2.2.2.2.1) (i_rest p list.2.1)), (i_divide p (i_rest p list.2.2.2.2.2) (i_rest p list.2.1))), true) else none) else none) else none) else none) else none) else none))) else none)) else none)) else none)) else none) else (if (prB p) = true then (if ((i_rest p list.1) == 0) = true then (if (prB p) = true then (if ((i_rest p list.2.2.1) == 0) = true then (if (prB p) = true then (if ((i_rest p list.2.2.1) == 0) = true then (if (prB p) = true then (if ((i_rest p list.2.2.1) == 0) = true then (if ((i_rest p list.2.2.1) == 0) = true then some ((0, 0, 0, 0, 0, 0), false) else (if (prB p) = true then (if (prB p) = true then (if (prB p) = true then (if (prB p) = true then (if (prB p) = true then (if (prB p) = true then some (((i_divide p (i_rest p list.1) (i_rest p list.2.2.1)), (i_divide p (i_rest p list.2.1) (i_rest p list.2.2.1)), (i_divide p (i_rest p list.2.2.1) (i_rest p list.2.2.1)), (i_divide p (i_rest p list.2.2.2.1) (i_rest p list.2.2.1)), (i_divide p (i_rest p list.2.2.2.2.1) (i_rest p list.2.2.1)), (i_divide p (i_rest p list.2.2.2.2.2) (i_rest p list.2.2.1))), true) else none) else none) else none) else none) else none) else none)) else (if ((i_rest p list.2.2.1) == 0) = true then some ((0, 0, 0, 0, 0, 0), false) else (if (prB p) = true then (if (prB p) = true then (if (prB p) = true then (if (prB p) = true then (if (prB p) = true then (if (prB p) = true then some (((i_divide p (i_rest p list.1) (i_rest p list.2.2.1)), (i_divide p (i_rest p list.2.1) (i_rest p list.2.2.1)), (i_divide p (i_rest p list.2.2.1) (i_rest p list.2.2.1)), (i_divide p (i_rest p list.2.2.2.1) (i_rest p list.2.2.1)), (i_divide p (i_rest p list.2.2.2.2.1) (i_rest p list.2.2.1)), (i_divide p (i_rest p list.2.2.2.2.2) (i_rest p list.2.2.1))), true) else none) else none) else none) else none) else none) else none))) else none) else (if (prB p) = true then (if ((i_rest p list.2.2.1) == 0) = true then (if ((i_rest p list.2.2.1) == 0) = true then some ((0, 0, 0, 0, 0, 0), false) else (if (prB p) = true then (if (prB p) = true then (if (prB p) = true then (if (prB p) = true then (if (prB p) = true then (if (prB p) = true then some (((i_divide p (i_rest p list.1) (i_rest p list.2.2.1)), (i_divide p (i_rest p list.2.1) (i_rest p list.2.2.1)), (i_divide p (i_rest p list.2.2.1) (i_rest p list.2.2.1)), (i_divide p (i_rest p list.2.2.2.1) (i_rest p list.2.2.1)), (i_divide p (i_rest p list.2.2.2.2.1) (i_rest p list.2.2.1)), (i_divide p (i_rest p list.2.2.2.2.2) (i_rest p list.2.2.1))), true) else none) else none) else none) else none) else none) else none)) else (if ((i_rest p list.2.2.1) == 0) = true then some ((0, 0, 0, 0, 0, 0), false) else (if (prB p) = true then (if (prB p) = true then (if (prB p) = true then (if (prB p) = true then (if (prB p) = true then (if (prB p) = true then some (((i_divide p (i_rest p list.1) (i_rest p list.2.2.1)), (i_divide p (i_rest p list.2.1) (i_rest p list.2.2.1)), (i_divide p (i_rest p list.2.2.1) (i_rest p list.2.2.1)), (i_divide p (i_rest p list.2.2.2.1) (i_rest p list.2.2.1)), (i_divide p (i_rest p list.2.2.2.2.1) (i_rest p list.2.2.1)), (i_divide p (i_rest p list.2.2.2.2.2) (i_rest p list.2.2.1))), true) else none) else none) else none) else none) else none) else none))) else none)) else none) else (if (prB p) = true then (if ((i_rest p list.2.2.1) == 0) = true then (if (prB p) = true then (if ((i_rest p list.2.2.1) == 0) = true then (if ((i_rest p list.2.2.1) == 0) = true then some ((0, 0, 0, 0, 0, 0), false) else (if (prB p) = true then (if (prB p) = true then (if (prB p) = true then (if (prB p) = true then (if (prB p) = true then (if (prB p) = true then some (((i_divide p (i_rest p list.1) (i_rest p list.2.2.1)), (i_divide p (i_rest p list.2.1) (i_rest p list.2.2.1)), (i_divide p (i_rest p list.2.2.1) (i_rest p list.2.2.1)), (i_divide p (i_rest p list.2.2.2.1) (i_rest p list.2.2.1)), (i_divide p (i_rest p list.2.2.2.2.1) (i_rest p list.2.2.1)), (i_divide p (i_rest p list.2.2.2.2.2) (i_rest p list.2.2.1))), true) else none) else none) else none) else none) else none) else none)) else (if ((i_rest p list.2.2.1) == 0) = true then some ((0, 0, 0, 0, 0, 0), false) else (if (prB p) = true then (if (prB p) = true then (if (prB p) = true then (if (prB p) = true then (if (prB p) = true then (if (prB p) = true then some (((i_divide p (i_rest p list.1) (i_rest p list.2.2.1)), (i_divide p (i_rest p list.2.1) (i_rest p list.2.2.1)), (i_divide p (i_rest p list.2.2.1) (i_rest p list.2.2.1)), (i_divide p (i_rest p list.2.2.2.1) (i_rest p list.2.2.1)), (i_divide p (i_rest p list.2.2.2.2.1) (i_rest p list.2.2.1)), (i_divide p (i_rest p list.2.2.2.2.2) (i_rest p list.2.2.1))), true) else none) else none) else none) else none) else none) else none))) else none) else (if (prB p) = true then (if ((i_rest p list.2.2.1) == 0) = true then (if ((i_rest p list.2.2.1) == 0) = true then some ((0, 0, 0, 0, 0, 0), false) else (if (prB p) = true then (if (prB p) = true then (if (prB p) = true then (if (prB p) = true then (if (prB p) = true then (if (prB p) = true then some (((i_divide p (i_rest p list.1) (i_rest p list.2.2.1)), (i_divide p (i_rest p list.2.1) (i_rest p list.2.2.1)), (i_divide p (i_rest p list.2.2.1) (i_rest p list.2.2.1)), (i_divide p (i_rest p list.2.2.2.1) (i_rest p list.2.2.1)), (i_divide p (i_rest p list.2.2.2.2.1) (i_rest p list.2.2.1)), (i_divide p (i_rest p list.2.2.2.2.2) (i_rest p list.2.2.1))), true) else none) else none) else none) else none) else none) else none)) else (if ((i_rest p list.2.2.1) == 0) = true then some ((0, 0, 0, 0, 0, 0), false) else (if (prB p) = true then (if (prB p) = true then (if (prB p) = true then (if (prB p) = true then (if (prB p) = true then (if (prB p) = true then some (((i_divide p (i_rest p list.1) (i_rest p list.2.2.1)), (i_divide p (i_rest p list.2.1) (i_rest p list.2.2.1)), (i_divide p (i_rest p list.2.2.1) (i_rest p list.2.2.1)), (i_divide p (i_rest p list.2.2.2.1) (i_rest p list.2.2.1)), (i_divide p (i_rest p list.2.2.2.2.1) (i_rest p list.2.2.1)), (i_divide p (i_rest p list.2.2.2.2.2) (i_rest p list.2.2.1))), true) else none) else none) else none) else none) else none) else none))) else none)) else none)) else none) else (if (prB p) = true then (if ((i_rest p list.1) == 0) = true then (if (prB p) = true then (if ((i_rest p list.1) == 0) = true then (if (prB p) = true then (if ((i_rest p list.1) == 0) = true then (if ((i_rest p list.1) == 0) = true then some ((0, 0, 0, 0, 0, 0), false) else (if (prB p) = true then (if (prB p) = true then (if (prB p) = true then (if (prB p) = true then (if (prB p) = true then (if (prB p) = true then some (((i_divide p (i_rest p list.1) (i_rest p list.1)), (i_divide p (i_rest p list.2.1) (i_rest p list.1)), (i_divide p (i_rest p list.2.2.1) (i_rest p list.1)), (i_divide p (i_rest p list.2.2.2.1) (i_rest p list.1)), (i_divide p (i_rest p list.2.2.2.2.1) (i_rest p list.1)), (i_divide p (i_rest p list.2.2.2.2.2) (i_rest p list.1))), true) else none) else none) else none) else none) else none) else none)) else (if ((i_rest p list.1) == 0) = true then some ((0, 0, 0, 0, 0, 0), false) else (if (prB p) = true then (if (prB p) = true then (if (prB p) = true then (if (prB p) = true then (if (prB p) = true then (if (prB p) = true then some (((i_divide p (i_rest p list.1) (i_rest p list.1)), (i_divide p (i_rest p list.2.1) (i_rest p list.1)), (i_divide p (i_rest p list.2.2.1) (i_rest p list.1)), (i_divide p (i_rest p list.2.2.2.1) (i_rest p list.1)), (i_divide p (i_rest p list.2.2.2.2.1) (i_rest p list.1)), (i_divide p (i_rest p list.2.2.2.2.2) (i_rest p list.1))), true) else none) else none) else none) else none) else none) else none))) else none) else (if (prB p) = true then (if ((i_rest p list.1) == 0) = true then (if ((i_rest p list.1) == 0) = true then some ((0, 0, 0, 0, 0, 0), false) else (if (prB p) = true then (if (prB p) = true then (if (prB p) = true then (if (prB p) = true then (if (prB p) = true then (if (prB p) = true then some (((i_divide p (i_rest p list.1) (i_rest p list.1)), (i_divide p (i_rest p list.2.1) (i_rest p list.1)), (i_divide p (i_rest p list.2.2.1) (i_rest p list.1)), (i_divide p (i_rest p list.2.2.2.1) (i_rest p list.1)), (i_divide p (i_rest p list.2.2.2.2.1) (i_rest p list.1)), (i_divide p (i_rest p list.2.2.2.2.2) (i_rest p list.1))), true) else none) else none) else none) else none) else none) else none)) else (if ((i_rest p list.1) == 0) = true then some ((0, 0, 0, 0, 0, 0), false) else (if (prB p) = true then (if (prB p) = true then (if (prB p) = true then (if (prB p) = true then (if (prB p) = true then (if (prB p) = true then some (((i_divide p (i_rest p list.1) (i_rest p list.1)), (i_divide p (i_rest p list.2.1) (i_rest p list.1)), (i_divide p (i_rest p list.2.2.1) (i_rest p list.1)), (i_divide p (i_rest p list.2.2.2.1) (i_rest p list.1)), (i_divide p (i_rest p list.2.2.2.2.1) (i_rest p list.1)), (i_divide p (i_rest p list.2.2.2.2.2) (i_rest p list.1))), true) else none) else none) else none) else none) else none) else none))) else none)) else none) else (if (prB p) = true then (if ((i_rest p list.1) == 0) = true then (if (prB p) = true then (if ((i_rest p list.1) == 0) = true then (if ((i_rest p list.1) == 0) = true then some ((0, 0, 0, 0, 0, 0), false) else (if (prB p) = true then (if (prB p) = true then (if (prB p) = true then (if (prB p) = true then (if (prB p) = true then (if (prB p) = true then some (((i_divide p (i_rest p list.1) (i_rest p list.1)), (i_divide p (i_rest p list.2.1) (i_rest p list.1)), (i_divide p (i_rest p list.2.2.1) (i_rest p list.1)), (i_divide p (i_rest p list.2.2.2.1) (i_rest p list.1)), (i_divide p (i_rest p list.2.2.2.2.1) (i_rest p list.1)), (i_divide p (i_rest p list.2.2.2.2.2) (i_rest p list.1))), true) else none) else none) else none) else none) else none) else none)) else (if ((i_rest p list.1) == 0) = true then some ((0, 0, 0, 0, 0, 0), false) else (if (prB p) = true then (if (prB p) = true then (if (prB p) = true then (if (prB p) = true then (if (prB p) = true then (if (prB p) = true then some (((i_divide p (i_rest p list.1) (i_rest p list.1)), (i_divide p (i_rest p list.2.1) (i_rest p list.1)), (i_divide p (i_rest p list.2.2.1) (i_rest p list.1)), (i_divide p (i_rest p list.2.2.2.1) (i_rest p list.1)), (i_divide p (i_rest p list.2.2.2.2.1) (i_rest p list.1)), (i_divide p (i_rest p list.2.2.2.2.2) (i_rest p list.1))), true) else none) else none) else none) else none) else none) else none))) else none) else (if (prB p) = true then (if ((i_rest p list.1) == 0) = true then (if ((i_rest p list.1) == 0) = true then some ((0, 0, 0, 0, 0, 0), false) else (if (prB p) = true then (if (prB p) = true then (if (prB p) = true then (if (prB p) = true then (if (prB p) = true then (if (prB p) = true then some (((i_divide p (i_rest p list.1) (i_rest p list.1)), (i_divide p (i_rest p list.2.1) (i_rest p list.1)), (i_divide p (i_rest p list.2.2.1) (i_rest p list.1)), (i_divide p (i_rest p list.2.2.2.1) (i_rest p list.1)), (i_divide p (i_rest p list.2.2.2.2.1) (i_rest p list.1)), (i_divide p (i_rest p list.2.2.2.2.2) (i_rest p list.1))), true) else none) else none) else none) else none) else none) else none)) else (if ((i_rest p list.1) == 0) = true then some ((0, 0, 0, 0, 0, 0), false) else (if (prB p) = true then (if (prB p) = true then (if (prB p) = true then (if (prB p) = true then (if (prB p) = true then (if (prB p) = true then some (((i_divide p (i_rest p list.1) (i_rest p list.1)), (i_divide p (i_rest p list.2.1) (i_rest p list.1)), (i_divide p (i_rest p list.2.2.1) (i_rest p list.1)), (i_divide p (i_rest p list.2.2.2.1) (i_rest p list.1)), (i_divide p (i_rest p list.2.2.2.2.1) (i_rest p list.1)), (i_divide p (i_rest p list.2.2.2.2.2) (i_rest p list.1))), true) else none) else none) else none) else none) else none) else none))) else none)) else none)) else none)) else none)) else none) else none)
theorem eq_i_makeConic (p : Int) (list : Int × Int × Int × Int × Int × Int) : execT Try.prog S_i_makeConic 20 48 (fun _ => 1000000) dec_a6_b [.v (.int .i64 p), .v (.agg ⟨[.int .i64 list.1, .int .i64 list.2.1, .int .i64 list.2.2.1, .int .i64 list.2.2.2.1, .int .i64 list.2.2.2.2.1, .int .i64 list.2.2.2.2.2]⟩)] = Fo_i_makeConic p list := by
  kernel_rfl
def i_makeConic (p : Int) (list : Int × Int × Int × Int × Int × Int) : (Int × Int × Int × Int × Int × Int) × Bool :=
  (if ((i_rest p list.1) == 0) = true then (if ((i_rest p list.2.1) == 0) = true then (if ((i_rest p list.2.2.1) == 0) = true then (if ((i_rest p list.2.2.1) == 0) = true then (if ((i_rest p list.2.2.1) == 0) = true then (if ((i_rest p list.2.2.1) == 0) = true then ((0, 0, 0, 0, 0, 0), false) else (((i_divide p (i_rest p list.1) (i_rest p list.2.2.1)), (i_divide p (i_rest p list.2.1) (i_rest p list.2.2.1)), (i_divide p (i_rest p list.2.2.1) (i_rest p list.2.2.1)), (i_divide p (i_rest p list.2.2.2.1) (i_rest p list.2.2.1)), (i_divide p (i_rest p list.2.2.2.2.1) (i_rest p list.2.2.1)), (i_divide p (i_rest p list.2.2.2.2.2) (i_rest p list.2.2.1))), true)) else (if ((i_rest p list.2.2.1) == 0) = true then ((0, 0, 0, 0, 0, 0), false) else (((i_divide p (i_rest p list.1) (i_rest p list.2.2.1)), (i_divide p (i_rest p list.2.1) (i_rest p list.2.2.1)), (i_divide p (i_rest p list.2.2.1) (i_rest p list.2.2.1)), (i_divide p (i_rest p list.2.2.2.1) (i_rest p list.2.2.1)), (i_divide p (i_rest p list.2.2.2.2.1) (i_rest p list.2.2.1)), (i_divide p (i_rest p list.2.2.2.2.2) (i_rest p list.2.2.1))), true))) else (if ((i_rest p list.2.2.1) == 0) = true then (if ((i_rest p list.2.2.1) == 0) = true then ((0, 0, 0, 0, 0, 0), false) else (((i_divide p (i_rest p list.1) (i_rest p list.2.2.1)), (i_divide p (i_rest p list.2.1) (i_rest p list.2.2.1)), (i_divide p (i_rest p list.2.2.1) (i_rest p list.2.2.1)), (i_divide p (i_rest p list.2.2.2.1) (i_rest p list.2.2.1)), (i_divide p (i_rest p list.2.2.2.2.1) (i_rest p list.2.2.1)), (i_divide p (i_rest p list.2.2.2.2.2) (i_rest p list.2.2.1))), true)) else (if ((i_rest p list.2.2.1) == 0) = true then ((0, 0, 0, 0, 0, 0), false) else (((i_divide p (i_rest p list.1) (i_rest p list.2.2.1)), (i_divide p (i_rest p list.2.1) (i_rest p list.2.2.1)), (i_divide p (i_rest p list.2.2.1) (i_rest p list.2.2.1)), (i_divide p (i_rest p list.2.2.2.1) (i_rest p list.2.2.1)), (i_divide p (i_rest p list.2.2.2.2.1) (i_rest p list.2.2.1)), (i_divide p (i_rest p list.2.2.2.2.2) (i_rest p list.2.2.1))), true)))) else (if ((i_rest p list.2.2.1) == 0) = true then (if ((i_rest p list.2.2.1) == 0) = true then (if ((i_rest p list.2.2.1) == 0) = true then ((0, 0, 0, 0, 0, 0), false) else (((i_divide p (i_rest p list.1) (i_rest p list.2.2.1)), (i_divide p (i_rest p list.2.1) (i_rest p list.2.2.1)), (i_divide p (i_rest p list.2.2.1) (i_rest p list.2.2.1)), (i_divide p (i_rest p list.2.2.2.1) (i_rest p list.2.2.1)), (i_divide p (i_rest p list.2.2.2.2.1) (i_rest p list.2.2.1)), (i_divide p (i_rest p list.2.2.2.2.2) (i_rest p list.2.2.1))), true)) else (if ((i_rest p list.2.2.1) == 0) = true then ((0, 0, 0, 0, 0, 0), false) else (((i_divide p (i_rest p list.1) (i_rest p list.2.2.1)), (i_divide p (i_rest p list.2.1) (i_rest p list.2.2.1)), (i_divide p (i_rest p list.2.2.1) (i_rest p list.2.2.1)), (i_divide p (i_rest p list.2.2.2.1) (i_rest p list.2.2.1)), (i_divide p (i_rest p list.2.2.2.2.1) (i_rest p list.2.2.1)), (i_divide p (i_rest p list.2.2.2.2.2) (i_rest p list.2.2.1))), true))) else (if ((i_rest p list.2.2.1) == 0) = true then (if ((i_rest p list.2.2.1) == 0) = true then ((0, 0, 0, 0, 0, 0), false) else (((i_divide p (i_rest p list.1) (i_rest p list.2.2.1)), (i_divide p (i_rest p list.2.1) (i_rest p list.2.2.1)), (i_divide p (i_rest p list.2.2.1) (i_rest p list.2.2.1)), (i_divide p (i_rest p list.2.2.2.1) (i_rest p list.2.2.1)), (i_divide p (i_rest p list.2.2.2.2.1) (i_rest p list.2.2.1)), (i_divide p (i_rest p list.2.2.2.2.2) (i_rest p list.2.2.1))), true)) else (if ((i_rest p list.2.2.1) == 0) = true then ((0, 0, 0, 0, 0, 0), false) else (((i_divide p (i_rest p list.1) (i_rest p list.2.2.1)), (i_divide p (i_rest p list.2.1) (i_rest p list.2.2.1)), (i_divide p (i_rest p list.2.2.1) (i_rest p list.2.2.1)), (i_divide p (i_rest p list.2.2.2.1) (i_rest p list.2.2.1)), (i_divide p (i_rest p list.2.2.2.2.1) (i_rest p list.2.2.1)), (i_divide p (i_rest p list.2.2.2.2.2) (i_rest p list.2.2.1))), true))))) else (if ((i_rest p list.2.1) == 0) = true then (if ((i_rest p list.2.1) == 0) = true then (if ((i_rest p list.2.1) == 0) = true then (if ((i_rest p list.2.1) == 0) = true then ((0, 0, 0, 0, 0, 0), false) else (((i_divide p (i_rest p list.1) (i_rest p list.2.1)), (i_divide p (i_rest p list.2.1) (i_rest p list.2.1)), (i_divide p (i_rest p list.2.2.1) (i_rest p list.2.1)), (i_divide p (i_rest p list.2.2.2.1) (i_rest p list.2.1)), (i_divide p (i_rest p list.2.2.2.2.1) (i_rest p list.2.1)), (i_divide p (i_rest p list.2.2.2.2.2) (i_rest p list.2.1))), true)) else (if ((i_rest p list.2.1) == 0) = true then ((0, 0, 0, 0, 0, 0), false) else (((i_divide p (i_rest p list.1) (i_rest p list.2.1)), (i_divide p (i_rest p list.2.1) (i_rest p list.2.1)), (i_divide p (i_rest p list.2.2.1) (i_rest p list.2.1)), (i_divide p (i_rest p list.2.2.2.1) (i_rest p list.2.1)), (i_divide p (i_rest p list.2.2.2.2.1) (i_rest p list.2.1)), (i_divide p (i_rest p list.2.2.2.2.2) (i_rest p list.2.1))), true))) else (if ((i_rest p list.2.1) == 0) = true then (if ((i_rest p list.2.1) == 0) = true then ((0, 0, 0, 0, 0, 0), false) else (((i_divide p (i_rest p list.1) (i_rest p list.2.1)), (i_divide p (i_rest p list.2.1) (i_rest p list.2.1)), (i_divide p (i_rest p list.2.2.1) (i_rest p list.2.1)), (i_divide p (i_rest p list.2.2.2.1) (i_rest p list.2.1)), (i_divide p (i_rest p list.2.2.2.2.1) (i_rest p list.2.1)), (i_divide p (i_rest p list.2.2.2.2.2) (i_rest p list.2.1))), true)) else (if ((i_rest p list.2.1) == 0) = true then ((0, 0, 0, 0, 0, 0), false) else (((i_divide p (i_rest p list.1) (i_rest p list.2.1)), (i_divide p (i_rest p list.2.1) (i_rest p list.2.1)), (i_divide p (i_rest p list.2.2.1) (i_rest p list.2.1)), (i_divide p (i_rest p list.2.2.2.1) (i_rest p list.2.1)), (i_divide p (i_rest p list.2.2.2.2.1) (i_rest p list.2.1)), (i_divide p (i_rest p list.2.2.2.2.2) (i_rest p list.2.1))), true)))) else (if ((i_rest p list.2.1) == 0) = true then (if ((i_rest p list.2.1) == 0) = true then (if ((i_rest p list.2.1) == 0) = true then ((0, 0, 0, 0, 0, 0), false) else (((i_divide p (i_rest p list.1) (i_rest p list.2.1)), (i_divide p (i_rest p list.2.1) (i_rest p list.2.1)), (i_divide p (i_rest p list.2.2.1) (i_rest p list.2.1)), (i_divide p (i_rest p list.2.2.2.1) (i_rest p list.2.1)), (i_divide p (i_rest p list.2.2.2.2.1) (i_rest p list.2.1)), (i_divide p (i_rest p list.2.2.2.2.2) (i_rest p list.2.1))), true)) else (if ((i_rest p list.2.1) == 0) = true then ((0, 0, 0, 0, 0, 0), false) else (((i_divide p (i_rest p list.1) (i_rest p list.2.1)), (i_divide p (i_rest p list.2.1) (i_rest p list.2.1)), (i_divide p (i_rest p list.2.2.1) (i_rest p list.2.1)), (i_divide p (i_rest p list.2.2.2.1) (i_rest p list.2.1)), (i_divide p (i_rest p list.2.2.2.2.1) (i_rest p list.2.1)), (i_divide p (i_rest p list.2.2.2.2.2) (i_rest p list.2.1))), true))) else (if ((i_rest p list.2.1) == 0) = true then (if ((i_rest p list.2.1) == 0) = true then ((0, 0, 0, 0, 0, 0), false) else (((i_divide p (i_rest p list.1) (i_rest p list.2.1)), (i_divide p (i_rest p list.2.1) (i_rest p list.2.1)), (i_divide p (i_rest p list.2.2.1) (i_rest p list.2.1)), (i_divide p (i_rest p list.2.2.2.1) (i_rest p list.2.1)), (i_divide p (i_rest p list.2.2.2.2.1) (i_rest p list.2.1)), (i_divide p (i_rest p list.2.2.2.2.2) (i_rest p list.2.1))), true)) else (if ((i_rest p list.2.1) == 0) = true then ((0, 0, 0, 0, 0, 0), false) else (((i_divide p (i_rest p list.1) (i_rest p list.2.1)), (i_divide p (i_rest p list.2.1) (i_rest p list.2.1)), (i_divide p (i_rest p list.2.2.1) (i_rest p list.2.1)), (i_divide p (i_rest p list.2.2.2.1) (i_rest p list.2.1)), (i_divide p (i_rest p list.2.2.2.2.1) (i_rest p list.2.1)), (i_divide p (i_rest p list.2.2.2.2.2) (i_rest p list.2.1))), true)))))) else (if ((i_rest p list.1) == 0) = true then (if ((i_rest p list.2.2.1) == 0) = true then (if ((i_rest p list.2.2.1) == 0) = true then (if ((i_rest p list.2.2.1) == 0) = true then (if ((i_rest p list.2.2.1) == 0) = true then ((0, 0, 0, 0, 0, 0), false) else (((i_divide p (i_rest p list.1) (i_rest p list.2.2.1)), (i_divide p (i_rest p list.2.1) (i_rest p list.2.2.1)), (i_divide p (i_rest p list.2.2.1) (i_rest p list.2.2.1)), (i_divide p (i_rest p list.2.2.2.1) (i_rest p list.2.2.1)), (i_divide p (i_rest p list.2.2.2.2.1) (i_rest p list.2.2.1)), (i_divide p (i_rest p list.2.2.2.2.2) (i_rest p list.2.2.1))), true)) else (if ((i_rest p list.2.2.1) == 0) = true then ((0, 0, 0, 0, 0, 0), false) else (((i_divide p (i_rest p list.1) (i_rest p list.2.2.1)), (i_divide p (i_rest p list.2.1) (i_rest p list.2.2.1)), (i_divide p (i_rest p list.2.2.1) (i_rest p list.2.2.1)), (i_divide p (i_rest p list.2.2.2.1) (i_rest p list.2.2.1)), (i_divide p (i_rest p list.2.2.2.2.1) (i_rest p list.2.2.1)), (i_divide p (i_rest p list.2.2.2.2.2) (i_rest p list.2.2.1))), true))) else (if ((i_rest p list.2.2.1) == 0) = true then (if ((i_rest p list.2.2.1) == 0) = true then ((0, 0, 0, 0, 0, 0), false) else (((i_divide p (i_rest p list.1) (i_rest p list.2.2.1)), (i_divide p (i_rest p list.2.1) (i_rest p list.2.2.1)), (i_divide p (i_rest p list.2.2.1) (i_rest p list.2.2.1)), (i_divide p (i_rest p list.2.2.2.1) (i_rest p list.2.2.1)), (i_divide p (i_rest p list.2.2.2.2.1) (i_rest p list.2.2.1)), (i_divide p (i_rest p list.2.2.2.2.2) (i_rest p list.2.2.1))), true)) else (if ((i_rest p list.2.2.1) == 0) = true then ((0, 0, 0, 0, 0, 0), false) else (((i_divide p (i_rest p list.1) (i_rest p list.2.2.1)), (i_divide p (i_rest p list.2.1) (i_rest p list.2.2.1)), (i_divide p (i_rest p list.2.2.1) (i_rest p list.2.2.1)), (i_divide p (i_rest p list.2.2.2.1) (i_rest p list.2.2.1)), (i_divide p (i_rest p list.2.2.2.2.1) (i_rest p list.2.2.1)), (i_divide p (i_rest p list.2.2.2.2.2) (i_rest p list.2.2.1))), true)))) else (if ((i_rest p list.2.2.1) == 0) = true then (if ((i_rest p list.2.2.1) == 0) = true then (if ((i_rest p list.2.2.1) == 0) = true then ((0, 0, 0, 0, 0, 0), false) else (((i_divide p (i_rest p list.1) (i_rest p list.2.2.1)), (i_divide p (i_rest p list.2.1) (i_rest p list.2.2.1)), (i_divide p (i_rest p list.2.2.1) (i_rest p list.2.2.1)), (i_divide p (i_rest p list.2.2.2.1) (i_rest p list.2.2.1)), (i_divide p (i_rest p list.2.2.2.2.1) (i_rest p list.2.2.1)), (i_divide p (i_rest p list.2.2.2.2.2) (i_rest p list.2.2.1))), true)) else (if ((i_rest p list.2.2.1) == 0) = true then ((0, 0, 0, 0, 0, 0), false) else (((i_divide p (i_rest p list.1) (i_rest p list.2.2.1)), (i_divide p (i_rest p list.2.1) (i_rest p list.2.2.1)), (i_divide p (i_rest p list.2.2.1) (i_rest p list.2.2.1)), (i_divide p (i_rest p list.2.2.2.1) (i_rest p list.2.2.1)), (i_divide p (i_rest p list.2.2.2.2.1) (i_rest p list.2.2.1)), (i_divide p (i_rest p list.2.2.2.2.2) (i_rest p list.2.2.1))), true))) else (if ((i_rest p list.2.2.1) == 0) = true then (if ((i_rest p list.2.2.1) == 0) = true then ((0, 0, 0, 0, 0, 0), false) else (((i_divide p (i_rest p list.1) (i_rest p list.2.2.1)), (i_divide p (i_rest p list.2.1) (i_rest p list.2.2.1)), (i_divide p (i_rest p list.2.2.1) (i_rest p list.2.2.1)), (i_divide p (i_rest p list.2.2.2.1) (i_rest p list.2.2.1)), (i_divide p (i_rest p list.2.2.2.2.1) (i_rest p list.2.2.1)), (i_divide p (i_rest p list.2.2.2.2.2) (i_rest p list.2.2.1))), true)) else (if ((i_rest p list.2.2.1) == 0) = true then ((0, 0, 0, 0, 0, 0), false) else (((i_divide p (i_rest p list.1) (i_rest p list.2.2.1)), (i_divide p (i_rest p list.2.1) (i_rest p list.2.2.1)), (i_divide p (i_rest p list.2.2.1) (i_rest p list.2.2.1)), (i_divide p (i_rest p list.2.2.2.1) (i_rest p list.2.2.1)), (i_divide p (i_rest p list.2.2.2.2.1) (i_rest p list.2.2.1)), (i_divide p (i_rest p list.2.2.2.2.2) (i_rest p list.2.2.1))), true))))) else (if ((i_rest p list.1) == 0) = true then (if ((i_rest p list.1) == 0) = true then (if ((i_rest p list.1) == 0) = true then (if ((i_rest p list.1) == 0) = true then ((0, 0, 0, 0, 0, 0), false) else (((i_divide p (i_rest p list.1) (i_rest p list.1)), (i_divide p (i_rest p list.2.1) (i_rest p list.1)), (i_divide p (i_rest p list.2.2.1) (i_rest p list.1)), (i_divide p (i_rest p list.2.2.2.1) (i_rest p list.1)), (i_divide p (i_rest p list.2.2.2.2.1) (i_rest p list.1)), (i_divide p (i_rest p list.2.2.2.2.2) (i_rest p list.1))), true)) else (if ((i_rest p list.1) == 0) = true then ((0, 0, 0, 0, 0, 0), false) else (((i_divide p (i_rest p list.1) (i_rest p list.1)), (i_divide p (i_rest p list.2.1) (i_rest p list.1)), (i_divide p (i_rest p list.2.2.1) (i_rest p list.1)), (i_divide p (i_rest p list.2.2.2.1) (i_rest p list.1)), (i_divide p (i_rest p list.2.2.2.2.1) (i_rest p list.1)), (i_divide p (i_rest p list.2.2.2.2.2) (i_rest p list.1))), true))) else (if ((i_rest p list.1) == 0) = true then (if ((i_rest p list.1) == 0) = true then ((0, 0, 0, 0, 0, 0), false) else (((i_divide p (i_rest p list.1) (i_rest p list.1)), (i_divide p (i_rest p list.2.1) (i_rest p list.1)), (i_divide p (i_rest p list.2.2.1) (i_rest p list.1)), (i_divide p (i_rest p list.2.2.2.1) (i_rest p list.1)), (i_divide p (i_rest p list.2.2.2.2.1) (i_rest p list.1)), (i_divide p (i_rest p list.2.2.2.2.2) (i_rest p list.1))), true)) else (if ((i_rest p list.1) == 0) = true then ((0, 0, 0, 0, 0, 0), false) else (((i_divide p (i_rest p list.1) (i_rest p list.1)), (i_divide p (i_rest p list.2.1) (i_rest p list.1)), (i_divide p (i_rest p list.2.2.1) (i_rest p list.1)), (i_divide p (i_rest p list.2.2.2.1) (i_rest p list.1)), (i_divide p (i_rest p list.2.2.2.2.1) (i_rest p list.1)), (i_divide p (i_rest p list.2.2.2.2.2) (i_rest p list.1))), true)))) else (if ((i_rest p list.1) == 0) = true then (if ((i_rest p list.1) == 0) = true then (if ((i_rest p list.1) == 0) = true then ((0, 0, 0, 0, 0, 0), false) else (((i_divide p (i_rest p list.1) (i_rest p list.1)), (i_divide p (i_rest p list.2.1) (i_rest p list.1)), (i_divide p (i_rest p list.2.2.1) (i_rest p list.1)), (i_divide p (i_rest p list.2.2.2.1) (i_rest p list.1)), (i_divide p (i_rest p list.2.2.2.2.1) (i_rest p list.1)), (i_divide p (i_rest p list.2.2.2.2.2) (i_rest p list.1))), true)) else (if ((i_rest p list.1) == 0) = true then ((0, 0, 0, 0, 0, 0), false) else (((i_divide p (i_rest p list.1) (i_rest p list.1)), (i_divide p (i_rest p list.2.1) (i_rest p list.1)), (i_divide p (i_rest p list.2.2.1) (i_rest p list.1)), (i_divide p (i_rest p list.2.2.2.1) (i_rest p list.1)), (i_divide p (i_rest p list.2.2.2.2.1) (i_rest p list.1)), (i_divide p (i_rest p list.2.2.2.2.2) (i_rest p list.1))), true))) else (if ((i_rest p list.1) == 0) = true then (if ((i_rest p list.1) == 0) = true then ((0, 0, 0, 0, 0, 0), false) else (((i_divide p (i_rest p list.1) (i_rest p list.1)), (i_divide p (i_rest p list.2.1) (i_rest p list.1)), (i_divide p (i_rest p list.2.2.1) (i_rest p list.1)), (i_divide p (i_rest p list.2.2.2.1) (i_rest p list.1)), (i_divide p (i_rest p list.2.2.2.2.1) (i_rest p list.1)), (i_divide p (i_rest p list.2.2.2.2.2) (i_rest p list.1))), true)) else (if ((i_rest p list.1) == 0) = true then ((0, 0, 0, 0, 0, 0), false) else (((i_divide p (i_rest p list.1) (i_rest p list.1)), (i_divide p (i_rest p list.2.1) (i_rest p list.1)), (i_divide p (i_rest p list.2.2.1) (i_rest p list.1)), (i_divide p (i_rest p list.2.2.2.1) (i_rest p list.1)), (i_divide p (i_rest p list.2.2.2.2.1) (i_rest p list.1)), (i_divide p (i_rest p list.2.2.2.2.2) (i_rest p list.1))), true)))))))
theorem tot_i_makeConic (p : Int) (list : Int × Int × Int × Int × Int × Int) (hp : (prB p) = true) : Fo_i_makeConic p list = some (i_makeConic p list) := by
  try have h0 := prB_ne hp
  unfold Fo_i_makeConic i_makeConic
  (try simp only [wI_eq])
  repeat' (first | with_reducible rfl | with_reducible refine chk_opt hp ?_ | with_reducible refine chk_opt h0 ?_ | refine chk_opt (and_all hp fun _ => hp) ?_ | refine chk_opt (and_all hp fun _ => rfl) ?_ | refine ite_opt (fun _ => ?_) (fun _ => ?_) | rfl)
def run_i_makeConic : List PV → Option (Bool × List TR)
  | [.v (.int .i64 p), .v (.agg ⟨[.int .i64 list0, .int .i64 list1, .int .i64 list2, .int .i64 list3, .int .i64 list4, .int .i64 list5]⟩)] => some (prB p, enc_a6_b (i_makeConic p (list0, list1, list2, list3, list4, list5)))
  | _ => none
theorem sound_i_makeConic : Sound Try.prog 20 run_i_makeConic := by
  refine sound_of de_a6_b SO_i_makeConic (by kernel_rfl) Try.func20 Try.ntmps20 rfl (by kernel_rfl) ?_
  intro W pvs avs rs hargs hrun
  unfold run_i_makeConic at hrun
  split at hrun
  · simp only [Option.some.injEq, Prod.mk.injEq] at hrun
    obtain ⟨hp, rfl⟩ := hrun
    rename_i p list0 list1 list2 list3 list4 list5
    exact ⟨_, _, _, hargs, rfl, (eq_i_makeConic p (list0, list1, list2, list3, list4, list5)).trans (tot_i_makeConic p (list0, list1, list2, list3, list4, list5) hp)⟩
  · cases hrun

def S_i_ConicOf : Sums := ⟨tblS [(17, run_i_asked), (18, run_i_ConicOf_c1), (20, run_i_makeConic)], tblM []⟩
theorem SO_i_ConicOf : SumsOK Try.prog S_i_ConicOf := ⟨tblS_ok ⟨⟨Try.call17, sound_i_asked⟩, ⟨Try.call18, sound_i_ConicOf_c1⟩, ⟨Try.call20, sound_i_makeConic⟩, True.intro⟩, tblM_ok True.intro⟩
def Fo_i_ConicOf (p : Int) (listn : Nat) (listl : List Int) : Option ((Int × Int × Int × Int × Int × Int) × Int) :=
  (if ((lenB listn 1 listl) || !(i_IsField p)) = true then (if ((i_asked p (lenB listn 1 listl) (i_ConicOf_c1 listn listl p)) != 0) = true then some ((0, 0, 0, 0, 0, 0), (i_asked p (lenB listn 1 listl) (i_ConicOf_c1 listn listl p))) else (if (Nat.ble 6 listn && Nat.ble 1 listn) = true then (if (Nat.ble (6) listl.length) = true then (if (prB p) = true then (if (!((i_makeConic p (listl.getD 0 0, listl.getD 1 0, listl.getD 2 0, listl.getD 3 0, listl.getD 4 0, listl.getD 5 0)).2)) = true then some ((0, 0, 0, 0, 0, 0), 5) else some (((i_makeConic p (listl.getD 0 0, listl.getD 1 0, listl.getD 2 0, listl.getD 3 0, listl.getD 4 0, listl.getD 5 0)).1), 0)) else none) else none) else none)) else none)
theorem eq_i_ConicOf (p : Int) (listn : Nat) (listl : List Int) : execT Try.prog S_i_ConicOf 7 28 (fun _ => 1000000) dec_a6_i [.v (.int .i64 p), .s listn (.ints listl)] = Fo_i_ConicOf p listn listl := by
  kernel_rfl
def i_ConicOf (p : Int) (listn : Nat) (listl : List Int) : P6 × Int := if (i_asked p true (i_ConicOf_c1 listn listl p) != 0) = true then ((0, 0, 0, 0, 0, 0), i_asked p true (i_ConicOf_c1 listn listl p)) else if (!((i_makeConic p (listl.getD 0 0, listl.getD 1 0, listl.getD 2 0, listl.getD 3 0, listl.getD 4 0, listl.getD 5 0)).2)) = true then ((0, 0, 0, 0, 0, 0), 5) else ((i_makeConic p (listl.getD 0 0, listl.getD 1 0, listl.getD 2 0, listl.getD 3 0, listl.getD 4 0, listl.getD 5 0)).1, 0)
theorem tot_i_ConicOf (p : Int) (listn : Nat) (listl : List Int) (hp : (lenB listn 1 listl) = true) : Fo_i_ConicOf p listn listl = some (i_ConicOf p listn listl) := by
  obtain ⟨hl, _⟩ := lenB_ok hp
  rw [Nat.one_mul] at hl
  unfold Fo_i_ConicOf i_ConicOf
  refine chk_opt (by rw [hp]; rfl) ?_
  rw [show ∀ k h, i_asked p k h = i_asked p true h from fun _ _ => rfl]
  refine ite_opt (fun _ => rfl) (fun h => ?_)
  have h0 : i_asked p true (i_ConicOf_c1 listn listl p) = 0 := by simpa using h
  obtain ⟨hf, hb⟩ := asked0 h0
  have h6 : listn = 6 := by
    unfold i_ConicOf_c1 at hb
    by_cases e : (((listn : Nat) : Int) == 6) = true
    · have := of_decide_eq_true e
      simp at e
      omega
    · simp [e] at hb
  subst h6
  refine chk_opt rfl (chk_opt (by rw [hl]; rfl) (chk_opt (Pr_prB (i_IsField_ok hf)) (ite_opt (fun _ => rfl) (fun _ => rfl))))
def run_i_ConicOf : List PV → Option (Bool × List TR)
  | [.v (.int .i64 p), .s listn (.ints listl)] => some (lenB listn 1 listl, enc_a6_i (i_ConicOf p listn listl))
  | _ => none
theorem sound_i_ConicOf : Sound Try.prog 7 run_i_ConicOf := by
  refine sound_of de_a6_i SO_i_ConicOf (by kernel_rfl) Try.func7 Try.ntmps7 rfl (by kernel_rfl) ?_
  intro W pvs avs rs hargs hrun
  unfold run_i_ConicOf at hrun
  split at hrun
  · simp only [Option.some.injEq, Prod.mk.injEq] at hrun
    obtain ⟨hp, rfl⟩ := hrun
    rename_i p listn listl
    exact ⟨_, _, _, hargs, rfl, (eq_i_ConicOf p listn listl).trans (tot_i_ConicOf p listn listl hp)⟩
  · cases hrun

def S_s_l01In : Sums := ⟨tblS [], tblM []⟩
theorem SO_s_l01In : SumsOK Try.prog S_s_l01In := ⟨tblS_ok True.intro, tblM_ok True.intro⟩
def Fo_s_l01In (n_ : Int) (low : Int) (high : Int) : Option (Bool) :=
  (if (decide (n_ ≥ low)) = true then some (decide (n_ ≤ high)) else some false)
theorem eq_s_l01In (n_ : Int) (low : Int) (high : Int) : execT Try.prog S_s_l01In 33 15 (fun _ => 1000000) dec_b [.v (.int .i64 n_), .v (.int .i64 low), .v (.int .i64 high)] = Fo_s_l01In n_ low high := by
  kernel_rfl
def s_l01In (n_ : Int) (low : Int) (high : Int) : Bool :=
  (if (decide (n_ ≥ low)) = true then decide (n_ ≤ high) else false)
theorem tot_s_l01In (n_ : Int) (low : Int) (high : Int) : Fo_s_l01In n_ low high = some (s_l01In n_ low high) := by
  unfold Fo_s_l01In s_l01In
  (try simp only [wI_eq])
  repeat' (first | with_reducible rfl | refine ite_opt (fun _ => ?_) (fun _ => ?_) | rfl)
def run_s_l01In : List PV → Option (Bool × List TR)
  | [.v (.int .i64 n_), .v (.int .i64 low), .v (.int .i64 high)] => some (true, enc_b (s_l01In n_ low high))
  | _ => none
theorem sound_s_l01In : Sound Try.prog 33 run_s_l01In := by
  refine sound_of de_b SO_s_l01In (by kernel_rfl) Try.func33 Try.ntmps33 rfl (by kernel_rfl) ?_
  intro W pvs avs rs hargs hrun
  unfold run_s_l01In at hrun
  split at hrun
  · simp only [Option.some.injEq, Prod.mk.injEq] at hrun
    obtain ⟨hp, rfl⟩ := hrun
    rename_i n_ low high
    exact ⟨_, _, _, hargs, rfl, (eq_s_l01In n_ low high).trans (tot_s_l01In n_ low high)⟩
  · cases hrun

def S_s_l01Field : Sums := ⟨tblS [(33, run_s_l01In)], tblM []⟩
theorem SO_s_l01Field : SumsOK Try.prog S_s_l01Field := ⟨tblS_ok ⟨⟨Try.call33, sound_s_l01In⟩, True.intro⟩, tblM_ok True.intro⟩
def T_s_l01Field_0 (p : Int) (d : Int) : Tab := ⟨[.val (.int .i64 p), .junk, .val (.bool false), .val (.int .i64 d), .val (.int .i64 p), .val (.bool (s_l01In p 3 31)), .val (.bool (!(s_l01In p 3 31))), .junk, .junk, .junk, .junk, .junk, .junk, .junk, .junk, .junk, .junk, .junk], []⟩
def X_s_l01Field_0 (P : Program) (fu : Nat) (p : Int) (f : Nat) (d : Int) : Option (Bool) := loopK (exec P S_s_l01Field 18 (fun _ => fu + 100) (Code.sub [1, 1, 0, 1, 0, 0] (bodyF P 32))) f (T_s_l01Field_0 p d) (kBlock 0 (kSeq (fun s => exec P S_s_l01Field 18 (fun _ => fu + 100) (Code.sub [1, 1, 1] (bodyF P 32)) s (finT P 32 dec_b)) (finT P 32 dec_b)))
def B_s_l01Field_0 (p : Int) (rec0 : Int → Option (Bool)) (d : Int) : Option (Bool) :=
  (if (decide ((wI (d * d)) ≤ p)) = true then (if (!(d == 0)) = true then (if ((p.tmod d) == 0) = true then some false else rec0 (wI (d + 1))) else none) else some true)
def L_s_l01Field_0 (fu : Nat) (p : Int) : Nat → Int → Option (Bool)
  | 0, _ => none
  | f + 1, d => B_s_l01Field_0 p (L_s_l01Field_0 fu p f) d
theorem loop_s_l01Field_0 (fu : Nat) (p : Int) : ∀ (f : Nat) (d : Int), X_s_l01Field_0 Try.prog fu p f d = L_s_l01Field_0 fu p f d := by
  intro f
  induction f with
  | zero => intros; rfl
  | succ f ih =>
    intro d
    have h1 : X_s_l01Field_0 Try.prog fu p (f + 1) d = B_s_l01Field_0 p (X_s_l01Field_0 Try.prog fu p f) d := by kernel_rfl
    have h2 : X_s_l01Field_0 Try.prog fu p f = L_s_l01Field_0 fu p f := by funext d; exact ih d
    rw [h1, h2]
    rfl
def G_s_l01Field (p : Int) (lo0 : Int → Option (Bool)) : Option (Bool) :=
  (if (!(s_l01In p 3 31)) = true then some false else lo0 2)
def Fo_s_l01Field (fu : Nat) (p : Int) : Option (Bool) := G_s_l01Field p (L_s_l01Field_0 fu p (fu + 100))
theorem eqg_s_l01Field (fu : Nat) (p : Int) : execT Try.prog S_s_l01Field 32 18 (fun _ => fu + 100) dec_b [.v (.int .i64 p)] = G_s_l01Field p (L_s_l01Field_0 fu p (fu + 100)) := by
  have h1 : execT Try.prog S_s_l01Field 32 18 (fun _ => fu + 100) dec_b [.v (.int .i64 p)] = G_s_l01Field p (X_s_l01Field_0 Try.prog fu p (fu + 100)) := by kernel_rfl
  have c0 : X_s_l01Field_0 Try.prog fu p (fu + 100) = L_s_l01Field_0 fu p (fu + 100) := by funext d; exact loop_s_l01Field_0 fu p (fu + 100) d
  rw [h1, c0]
theorem eq_s_l01Field (fu : Nat) (p : Int) : execT Try.prog S_s_l01Field 32 18 (fun _ => fu + 100) dec_b [.v (.int .i64 p)] = Fo_s_l01Field fu p := eqg_s_l01Field fu p
def s_l01Field (p : Int) : Bool := i_IsField p
theorem range29 {p : Int} (h3 : 3 ≤ p) (h31 : p ≤ 31) : p = 3 ∨ p = 4 ∨ p = 5 ∨ p = 6 ∨ p = 7 ∨ p = 8 ∨ p = 9 ∨ p = 10 ∨ p = 11 ∨ p = 12 ∨ p = 13 ∨ p = 14 ∨ p = 15 ∨ p = 16 ∨ p = 17 ∨ p = 18 ∨ p = 19 ∨ p = 20 ∨ p = 21 ∨ p = 22 ∨ p = 23 ∨ p = 24 ∨ p = 25 ∨ p = 26 ∨ p = 27 ∨ p = 28 ∨ p = 29 ∨ p = 30 ∨ p = 31 := by omega
theorem tot_s_l01Field (p : Int) : Fo_s_l01Field 40 p = some (s_l01Field p) := by
  by_cases hr : 3 ≤ p ∧ p ≤ 31
  · obtain ⟨h3, h31⟩ := hr
    obtain rfl | rfl | rfl | rfl | rfl | rfl | rfl | rfl | rfl | rfl | rfl | rfl | rfl | rfl | rfl | rfl | rfl | rfl | rfl | rfl | rfl | rfl | rfl | rfl | rfl | rfl | rfl | rfl | rfl := range29 h3 h31
    all_goals kernel_rfl
  · have hin : s_l01In p 3 31 = false := by simp [s_l01In]; omega
    unfold Fo_s_l01Field G_s_l01Field
    rw [hin]
    show some false = some (i_IsField p)
    congr 1
    symm
    simp [i_IsField]; omega
def run_s_l01Field : List PV → Option (Bool × List TR)
  | [.v (.int .i64 p)] => some (true, enc_b (s_l01Field p))
  | _ => none
theorem sound_s_l01Field : Sound Try.prog 32 run_s_l01Field := by
  refine sound_of de_b SO_s_l01Field (by kernel_rfl) Try.func32 Try.ntmps32 rfl (by kernel_rfl) ?_
  intro W pvs avs rs hargs hrun
  unfold run_s_l01Field at hrun
  split at hrun
  · simp only [Option.some.injEq, Prod.mk.injEq] at hrun
    obtain ⟨hp, rfl⟩ := hrun
    rename_i p
    exact ⟨_, _, _, hargs, rfl, (eq_s_l01Field _ p).trans (tot_s_l01Field p)⟩
  · cases hrun

theorem sfield_prB0 {p : Int} (h : ¬ (!(s_l01Field p)) = true) : prB p = true := field_prB0 h
def S_s_l01Numbers : Sums := ⟨tblS [(32, run_s_l01Field), (33, run_s_l01In)], tblM []⟩
theorem SO_s_l01Numbers : SumsOK Try.prog S_s_l01Numbers := ⟨tblS_ok ⟨⟨Try.call32, sound_s_l01Field⟩, ⟨Try.call33, sound_s_l01In⟩, True.intro⟩, tblM_ok True.intro⟩
def T_s_l01Numbers_0 (p : Int) (listn : Nat) (listl : List Int) (i : Int) : Tab := ⟨[.val (.int .i64 p), .row 4, .junk, .junk, .val (.int .i64 0), .val (.int .i64 i), .val (.int .i64 p), .val (.bool (s_l01Field p)), .val (.bool (!(s_l01Field p))), .junk, .junk, .junk, .junk, .junk, .junk, .junk, .junk, .junk, .junk, .junk, .junk, .junk, .junk], [(4, .ros listn (.ints listl))]⟩
def X_s_l01Numbers_0 (P : Program) (fu : Nat) (p : Int) (listn : Nat) (listl : List Int) (f : Nat) (i : Int) : Option (Int) := loopK (exec P S_s_l01Numbers 23 (fun _ => fu + 100) (Code.sub [1, 1, 0, 1, 0, 0] (bodyF P 15))) f (T_s_l01Numbers_0 p listn listl i) (kBlock 0 (kSeq (fun s => exec P S_s_l01Numbers 23 (fun _ => fu + 100) (Code.sub [1, 1, 1] (bodyF P 15)) s (finT P 15 dec_i)) (finT P 15 dec_i)))
def B_s_l01Numbers_0 (p : Int) (listn : Nat) (listl : List Int) (rec0 : Int → Option (Int)) (i : Int) : Option (Int) :=
  (if (decide (i < ((listn : Nat) : Int))) = true then (if (decide (0 ≤ i) && decide (i < ((listn : Nat) : Int))) = true then (if (Nat.ble (i.toNat * 1 + 1) listl.length) = true then (if (!(s_l01In (listl.getD (i.toNat * 1) 0) 0 (wI (p - 1)))) = true then some 2 else rec0 (wI (i + 1))) else none) else none) else some 0)
def L_s_l01Numbers_0 (fu : Nat) (p : Int) (listn : Nat) (listl : List Int) : Nat → Int → Option (Int)
  | 0, _ => none
  | f + 1, i => B_s_l01Numbers_0 p listn listl (L_s_l01Numbers_0 fu p listn listl f) i
theorem loop_s_l01Numbers_0 (fu : Nat) (p : Int) (listn : Nat) (listl : List Int) : ∀ (f : Nat) (i : Int), X_s_l01Numbers_0 Try.prog fu p listn listl f i = L_s_l01Numbers_0 fu p listn listl f i := by
  intro f
  induction f with
  | zero => intros; rfl
  | succ f ih =>
    intro i
    have h1 : X_s_l01Numbers_0 Try.prog fu p listn listl (f + 1) i = B_s_l01Numbers_0 p listn listl (X_s_l01Numbers_0 Try.prog fu p listn listl f) i := by kernel_rfl
    have h2 : X_s_l01Numbers_0 Try.prog fu p listn listl f = L_s_l01Numbers_0 fu p listn listl f := by funext i; exact ih i
    rw [h1, h2]
    rfl
def G_s_l01Numbers (p : Int) (listn : Nat) (listl : List Int) (lo0 : Int → Option (Int)) : Option (Int) :=
  (if (!(s_l01Field p)) = true then some 1 else lo0 0)
def Fo_s_l01Numbers (fu : Nat) (p : Int) (listn : Nat) (listl : List Int) : Option (Int) := G_s_l01Numbers p listn listl (L_s_l01Numbers_0 fu p listn listl (fu + 100))
theorem eqg_s_l01Numbers (fu : Nat) (p : Int) (listn : Nat) (listl : List Int) : execT Try.prog S_s_l01Numbers 15 23 (fun _ => fu + 100) dec_i [.v (.int .i64 p), .s listn (.ints listl)] = G_s_l01Numbers p listn listl (L_s_l01Numbers_0 fu p listn listl (fu + 100)) := by
  have h1 : execT Try.prog S_s_l01Numbers 15 23 (fun _ => fu + 100) dec_i [.v (.int .i64 p), .s listn (.ints listl)] = G_s_l01Numbers p listn listl (X_s_l01Numbers_0 Try.prog fu p listn listl (fu + 100)) := by kernel_rfl
  have c0 : X_s_l01Numbers_0 Try.prog fu p listn listl (fu + 100) = L_s_l01Numbers_0 fu p listn listl (fu + 100) := by funext i; exact loop_s_l01Numbers_0 fu p listn listl (fu + 100) i
  rw [h1, c0]
theorem eq_s_l01Numbers (fu : Nat) (p : Int) (listn : Nat) (listl : List Int) : execT Try.prog S_s_l01Numbers 15 23 (fun _ => fu + 100) dec_i [.v (.int .i64 p), .s listn (.ints listl)] = Fo_s_l01Numbers fu p listn listl := eqg_s_l01Numbers fu p listn listl
def s_l01Numbers (p : Int) (l : List Int) : Int := if s_l01Field p = true then (if l.all (fun x => s_l01In x 0 (wrap64 (p - 1))) = true then 0 else 2) else 1
theorem l01Numbers_prB {p : Int} {l : List Int} (h : ¬ (s_l01Numbers p l != 0) = true) : prB p = true := by
  refine Pr_prB (i_IsField_ok ?_)
  have h : s_l01Numbers p l = 0 := by simpa using h
  cases hf : i_IsField p
  · simp [s_l01Numbers, s_l01Field, hf] at h
  · rfl
theorem l01Numbers_prB0 {p : Int} {l : List Int} (h : (s_l01Numbers p l == 0) = true) : prB p = true := l01Numbers_prB (by simpa using h)
theorem tot_s_l01Numbers (p : Int) (listn : Nat) (listl : List Int) (hp : (lenB listn 1 listl) = true) : Fo_s_l01Numbers listn p listn listl = some (s_l01Numbers p listl) := by
  obtain ⟨hl, hn⟩ := lenB_ok hp
  have key : ∀ F, listn < F → (L_s_l01Numbers_0 listn p listn listl) F 0 = some (if (List.range listn).all (fun k => (fun x => s_l01In x 0 (wrap64 (p - 1))) (listl.getD (k * 1) 0)) = true then 0 else 2) := by
    intro F hF
    refine scan hF (fun f k hk => ?_) fun f => ?_
    · show B_s_l01Numbers_0 p listn listl ((L_s_l01Numbers_0 listn p listn listl) f) (k : Int) = _
      unfold B_s_l01Numbers_0
      rw [if_pos (by simpa using hk), if_pos (by simpa using hk), if_pos (leb (by rw [hl, Int.toNat_natCast]; omega)), wrap_add1 hk (by omega)]
      first | rfl | (rw [wI_eq]; rfl)
    · show B_s_l01Numbers_0 p listn listl ((L_s_l01Numbers_0 listn p listn listl) f) ((listn : Nat) : Int) = _
      unfold B_s_l01Numbers_0
      rw [if_neg (by simp)]
  unfold Fo_s_l01Numbers G_s_l01Numbers
  show _ = some (if s_l01Field p = true then (if (listl).all (fun x => s_l01In x 0 (wrap64 (p - 1))) = true then 0 else 2) else 1)
  cases hf : s_l01Field p
  · rfl
  · rw [key _ (by omega), all_rows1 listn listl (by omega)]
    rfl
def run_s_l01Numbers : List PV → Option (Bool × List TR)
  | [.v (.int .i64 p), .s listn (.ints listl)] => some (lenB listn 1 listl, enc_i (s_l01Numbers p listl))
  | _ => none
theorem sound_s_l01Numbers : Sound Try.prog 15 run_s_l01Numbers := by
  refine sound_of de_i SO_s_l01Numbers (by kernel_rfl) Try.func15 Try.ntmps15 rfl (by kernel_rfl) ?_
  intro W pvs avs rs hargs hrun
  unfold run_s_l01Numbers at hrun
  split at hrun
  · simp only [Option.some.injEq, Prod.mk.injEq] at hrun
    obtain ⟨hp, rfl⟩ := hrun
    rename_i p listn listl
    exact ⟨_, _, _, hargs, rfl, (eq_s_l01Numbers _ p listn listl).trans (tot_s_l01Numbers p listn listl hp)⟩
  · cases hrun

def S_s_l01Mod : Sums := ⟨tblS [], tblM []⟩
theorem SO_s_l01Mod : SumsOK Try.prog S_s_l01Mod := ⟨tblS_ok True.intro, tblM_ok True.intro⟩
def Fo_s_l01Mod (x : Int) (p : Int) : Option (Int) :=
  (if (!(p == 0)) = true then (if (!(p == 0)) = true then some ((wI ((x.tmod p) + p)).tmod p) else none) else none)
theorem eq_s_l01Mod (x : Int) (p : Int) : execT Try.prog S_s_l01Mod 24 12 (fun _ => 1000000) dec_i [.v (.int .i64 x), .v (.int .i64 p)] = Fo_s_l01Mod x p := by
  kernel_rfl
def s_l01Mod (x p : Int) : Int := x % p
theorem tot_s_l01Mod (x : Int) (p : Int) (hp : (prB p) = true) : Fo_s_l01Mod x p = some (s_l01Mod x p) := by
  have h0 := prB_ne hp
  unfold Fo_s_l01Mod s_l01Mod
  simp only [h0, if_true, wI_eq]
  rw [rest_raw hp]
def run_s_l01Mod : List PV → Option (Bool × List TR)
  | [.v (.int .i64 x), .v (.int .i64 p)] => some (prB p, enc_i (s_l01Mod x p))
  | _ => none
theorem sound_s_l01Mod : Sound Try.prog 24 run_s_l01Mod := by
  refine sound_of de_i SO_s_l01Mod (by kernel_rfl) Try.func24 Try.ntmps24 rfl (by kernel_rfl) ?_
  intro W pvs avs rs hargs hrun
  unfold run_s_l01Mod at hrun
  split at hrun
  · simp only [Option.some.injEq, Prod.mk.injEq] at hrun
    obtain ⟨hp, rfl⟩ := hrun
    rename_i x p
    exact ⟨_, _, _, hargs, rfl, (eq_s_l01Mod x p).trans (tot_s_l01Mod x p hp)⟩
  · cases hrun

def S_s_l01Inverse : Sums := ⟨tblS [(24, run_s_l01Mod)], tblM []⟩
theorem SO_s_l01Inverse : SumsOK Try.prog S_s_l01Inverse := ⟨tblS_ok ⟨⟨Try.call24, sound_s_l01Mod⟩, True.intro⟩, tblM_ok True.intro⟩
def T_s_l01Inverse_0 (a : Int) (p : Int) (out : Int) (base : Int) (k : Int) : Tab := ⟨[.val (.int .i64 a), .val (.int .i64 p), .junk, .junk, .val (.int .i64 0), .val (.int .i64 out), .val (.int .i64 base), .val (.int .i64 k), .val (.int .i64 a), .val (.int .i64 p), .val (.int .i64 (s_l01Mod a p)), .val (.int .i64 p), .val (.int .i64 (wI (p - 2))), .junk, .junk, .junk, .junk, .junk, .junk, .junk, .junk, .junk, .junk, .junk, .junk, .junk, .junk, .junk, .junk, .junk, .junk], []⟩
def X_s_l01Inverse_0 (P : Program) (fu : Nat) (a : Int) (p : Int) (f : Nat) (out : Int) (base : Int) (k : Int) : Option (Int) := loopK (exec P S_s_l01Inverse 31 (fun _ => fu + 100) (Code.sub [1, 1, 0, 1, 0, 0] (bodyF P 34))) f (T_s_l01Inverse_0 a p out base k) (kBlock 0 (kSeq (fun s => exec P S_s_l01Inverse 31 (fun _ => fu + 100) (Code.sub [1, 1, 1] (bodyF P 34)) s (finT P 34 dec_i)) (finT P 34 dec_i)))
def B_s_l01Inverse_0 (a : Int) (p : Int) (rec0 : Int → Int → Int → Option (Int)) (out : Int) (base : Int) (k : Int) : Option (Int) :=
  (if (decide (k > 0)) = true then (if ((k.tmod 2) == 1) = true then (if (!(p == 0)) = true then (if (!(p == 0)) = true then rec0 ((wI (out * base)).tmod p) ((wI (base * base)).tmod p) (wI (k.tdiv 2)) else none) else none) else (if (!(p == 0)) = true then rec0 out ((wI (base * base)).tmod p) (wI (k.tdiv 2)) else none)) else some out)
def L_s_l01Inverse_0 (fu : Nat) (a : Int) (p : Int) : Nat → Int → Int → Int → Option (Int)
  | 0, _, _, _ => none
  | f + 1, out, base, k => B_s_l01Inverse_0 a p (L_s_l01Inverse_0 fu a p f) out base k
theorem loop_s_l01Inverse_0 (fu : Nat) (a : Int) (p : Int) : ∀ (f : Nat) (out : Int) (base : Int) (k : Int), X_s_l01Inverse_0 Try.prog fu a p f out base k = L_s_l01Inverse_0 fu a p f out base k := by
  intro f
  induction f with
  | zero => intros; rfl
  | succ f ih =>
    intro out base k
    have h1 : X_s_l01Inverse_0 Try.prog fu a p (f + 1) out base k = B_s_l01Inverse_0 a p (X_s_l01Inverse_0 Try.prog fu a p f) out base k := by kernel_rfl
    have h2 : X_s_l01Inverse_0 Try.prog fu a p f = L_s_l01Inverse_0 fu a p f := by funext out base k; exact ih out base k
    rw [h1, h2]
    rfl
def G_s_l01Inverse (a : Int) (p : Int) (lo0 : Int → Int → Int → Option (Int)) : Option (Int) :=
  (if (prB p) = true then lo0 1 (s_l01Mod a p) (wI (p - 2)) else none)
def Fo_s_l01Inverse (fu : Nat) (a : Int) (p : Int) : Option (Int) := G_s_l01Inverse a p (L_s_l01Inverse_0 fu a p (fu + 100))
theorem eqg_s_l01Inverse (fu : Nat) (a : Int) (p : Int) : execT Try.prog S_s_l01Inverse 34 31 (fun _ => fu + 100) dec_i [.v (.int .i64 a), .v (.int .i64 p)] = G_s_l01Inverse a p (L_s_l01Inverse_0 fu a p (fu + 100)) := by
  have h1 : execT Try.prog S_s_l01Inverse 34 31 (fun _ => fu + 100) dec_i [.v (.int .i64 a), .v (.int .i64 p)] = G_s_l01Inverse a p (X_s_l01Inverse_0 Try.prog fu a p (fu + 100)) := by kernel_rfl
  have c0 : X_s_l01Inverse_0 Try.prog fu a p (fu + 100) = L_s_l01Inverse_0 fu a p (fu + 100) := by funext out base k; exact loop_s_l01Inverse_0 fu a p (fu + 100) out base k
  rw [h1, c0]
theorem eq_s_l01Inverse (fu : Nat) (a : Int) (p : Int) : execT Try.prog S_s_l01Inverse 34 31 (fun _ => fu + 100) dec_i [.v (.int .i64 a), .v (.int .i64 p)] = Fo_s_l01Inverse fu a p := eqg_s_l01Inverse fu a p
def powLoop (p : Int) : Nat → Int → Int → Int → Int
  | 0, _, out, _ => out
  | f + 1, k, out, base => if decide (0 < k) = true then powLoop p f (k / 2) (if (k % 2 == 1) = true then (wrap64 (out * base)).tmod p else out) ((wrap64 (base * base)).tmod p) else out
def s_l01Inverse (a p : Int) : Int := powLoop p 5 (p - 2) 1 (s_l01Mod a p)
theorem powLoop_zero (p : Int) (f : Nat) (k out base : Int) (h : ¬ 0 < k) : powLoop p f k out base = out := by
  cases f
  · rfl
  · show (if decide (0 < k) = true then _ else out) = out
    rw [if_neg (by simpa using h)]
theorem pow_walk (fu : Nat) (a p : Int) (hp : prB p = true) : ∀ (f F : Nat) (k out base : Int), k < 2 ^ f → k ≤ 31 → f < F → L_s_l01Inverse_0 fu a p F out base k = some (powLoop p f k out base)
  | f, 0, k, _, _, _, _, h => absurd h (Nat.not_lt_zero f)
  | f, F + 1, k, out, base, h1, h31, hF => by
    show B_s_l01Inverse_0 a p (L_s_l01Inverse_0 fu a p F) out base k = _
    unfold B_s_l01Inverse_0
    by_cases hk : 0 < k
    · obtain ⟨f, rfl⟩ : ∃ g, f = g + 1 := ⟨f - 1, by rcases f with _ | f <;> omega⟩
      have h0 := prB_ne hp
      rw [if_pos (by simp; omega)]
      have e1 : k.tmod 2 = k % 2 := Int.tmod_eq_emod_of_nonneg (by omega)
      have e2 : k.tdiv 2 = k / 2 := Int.tdiv_eq_ediv_of_nonneg (by omega)
      have e3 : wrap64 (k / 2) = k / 2 := by unfold wrap64; omega
      have hh : k / 2 < 2 ^ f := by rw [Int.pow_succ] at h1; omega
      simp only [h0, if_true, wI_eq, e1, e2, e3]
      show _ = some (if decide (0 < k) = true then powLoop p f (k / 2) (if (k % 2 == 1) = true then (wrap64 (out * base)).tmod p else out) ((wrap64 (base * base)).tmod p) else out)
      have hk' : decide (0 < k) = true := by simpa using hk
      rw [hk']
      cases h2 : (k % 2 == 1)
      · exact pow_walk fu a p hp f F (k / 2) _ _ hh (by omega) (by omega)
      · exact pow_walk fu a p hp f F (k / 2) _ _ hh (by omega) (by omega)
    · rw [if_neg (by simp; omega), powLoop_zero p f k out base hk]
theorem tot_s_l01Inverse (a : Int) (p : Int) (hp : (prB p) = true) : Fo_s_l01Inverse 40 a p = some (s_l01Inverse a p) := by
  obtain ⟨h1, h2⟩ := prB_Pr hp
  unfold Fo_s_l01Inverse G_s_l01Inverse
  rw [if_pos hp, wI_eq, show wrap64 (p - 2) = p - 2 from by unfold wrap64; omega]
  exact pow_walk 40 a p hp 5 _ (p - 2) _ _ (by omega) (by omega) (by omega)
def run_s_l01Inverse : List PV → Option (Bool × List TR)
  | [.v (.int .i64 a), .v (.int .i64 p)] => some (prB p, enc_i (s_l01Inverse a p))
  | _ => none
theorem sound_s_l01Inverse : Sound Try.prog 34 run_s_l01Inverse := by
  refine sound_of de_i SO_s_l01Inverse (by kernel_rfl) Try.func34 Try.ntmps34 rfl (by kernel_rfl) ?_
  intro W pvs avs rs hargs hrun
  unfold run_s_l01Inverse at hrun
  split at hrun
  · simp only [Option.some.injEq, Prod.mk.injEq] at hrun
    obtain ⟨hp, rfl⟩ := hrun
    rename_i a p
    exact ⟨_, _, _, hargs, rfl, (eq_s_l01Inverse _ a p).trans (tot_s_l01Inverse a p hp)⟩
  · cases hrun

def S_s_l08Made : Sums := ⟨tblS [(24, run_s_l01Mod), (34, run_s_l01Inverse)], tblM []⟩
theorem SO_s_l08Made : SumsOK Try.prog S_s_l08Made := ⟨tblS_ok ⟨⟨Try.call24, sound_s_l01Mod⟩, ⟨Try.call34, sound_s_l01Inverse⟩, True.intro⟩, tblM_ok True.intro⟩
def T_s_l08Made_0 (p : Int) (listn : Nat) (listl : List Int) (first : Int) (i : Int) : Tab := ⟨[.val (.int .i64 p), .row 4, .junk, .junk, .ptr 16 0, .val (.bool false), .val (.int .i64 first), .ptr 28 0, .val (.int .i64 i), .junk, .junk, .val (.agg ⟨[.int .i64 0, .int .i64 0, .int .i64 0, .int .i64 0, .int .i64 0, .int .i64 0]⟩), .junk, .junk, .junk, .junk, .junk, .junk, .junk, .junk, .junk, .junk, .junk, .junk, .junk, .junk, .junk, .junk, .junk, .junk, .junk, .junk, .junk, .junk, .junk, .junk, .junk, .junk, .junk, .junk, .junk, .junk, .junk, .junk, .junk, .junk, .junk, .junk, .junk], [(4, .ros listn (.ints listl)), (16, .box 24 [.val (.int .i64 0), .val (.int .i64 0), .val (.int .i64 0), .val (.int .i64 0), .val (.int .i64 0), .val (.int .i64 0)]), (28, .box 24 [.val (.int .i64 0), .val (.int .i64 0), .val (.int .i64 0), .val (.int .i64 0), .val (.int .i64 0), .val (.int .i64 0)])]⟩
def X_s_l08Made_0 (P : Program) (fu : Nat) (p : Int) (listn : Nat) (listl : List Int) (f : Nat) (first : Int) (i : Int) : Option ((Int × Int × Int × Int × Int × Int) × Bool) := loopK (exec P S_s_l08Made 49 (fuelOf fu [3]) (Code.sub [1, 1, 0, 1, 0, 0] (bodyF P 16))) f (T_s_l08Made_0 p listn listl first i) (kBlock 0 (kSeq (fun s => exec P S_s_l08Made 49 (fuelOf fu [3]) (Code.sub [1, 1, 1] (bodyF P 16)) s (finT P 16 dec_a6_b)) (finT P 16 dec_a6_b)))
def B_s_l08Made_0 (p : Int) (listn : Nat) (listl : List Int) (rec0 : Int → Int → Option ((Int × Int × Int × Int × Int × Int) × Bool)) (first : Int) (i : Int) : Option ((Int × Int × Int × Int × Int × Int) × Bool) :=
  (if (decide (i < 3)) = true then (if (first == 0) = true then (if (decide (0 ≤ i) && decide (i < ((listn : Nat) : Int))) = true then (if (Nat.ble (i.toNat * 1 + 1) listl.length) = true then (if (prB p) = true then rec0 (s_l01Mod (listl.getD (i.toNat * 1) 0) p) (wI (i + 1)) else none) else none) else none) else (if (first == 0) = true then some ((0, 0, 0, 0, 0, 0), false) else (if (prB p) = true then (if (decide (0 ≤ 0) && decide (0 < ((listn : Nat) : Int))) = true then (if (Nat.ble (1) listl.length) = true then (if (!(p == 0)) = true then (if (prB p) = true then (if (decide (0 ≤ 1) && decide (1 < ((listn : Nat) : Int))) = true then (if (Nat.ble (2) listl.length) = true then (if (!(p == 0)) = true then (if (prB p) = true then (if (decide (0 ≤ 2) && decide (2 < ((listn : Nat) : Int))) = true then (if (Nat.ble (3) listl.length) = true then (if (!(p == 0)) = true then (if (prB p) = true then (if (decide (0 ≤ 3) && decide (3 < ((listn : Nat) : Int))) = true then (if (Nat.ble (4) listl.length) = true then (if (!(p == 0)) = true then (if (prB p) = true then (if (decide (0 ≤ 4) && decide (4 < ((listn : Nat) : Int))) = true then (if (Nat.ble (5) listl.length) = true then (if (!(p == 0)) = true then (if (prB p) = true then (if (decide (0 ≤ 5) && decide (5 < ((listn : Nat) : Int))) = true then (if (Nat.ble (6) listl.length) = true then (if (!(p == 0)) = true then (if (prB p) = true then some (((s_l01Mod (wI (((listl.getD 0 0).tmod p) * (s_l01Inverse first p))) p), (s_l01Mod (wI (((listl.getD 1 0).tmod p) * (s_l01Inverse first p))) p), (s_l01Mod (wI (((listl.getD 2 0).tmod p) * (s_l01Inverse first p))) p), (s_l01Mod (wI (((listl.getD 3 0).tmod p) * (s_l01Inverse first p))) p), (s_l01Mod (wI (((listl.getD 4 0).tmod p) * (s_l01Inverse first p))) p), (s_l01Mod (wI (((listl.getD 5 0).tmod p) * (s_l01Inverse first p))) p)), true) else none) else none) else none) else none) else none) else none) else none) else none) else none) else none) else none) else none) else none) else none) else none) else none) else none) else none) else none) else none) else none) else none) else none) else none) else none))) else (if (first == 0) = true then some ((0, 0, 0, 0, 0, 0), false) else (if (prB p) = true then (if (decide (0 ≤ 0) && decide (0 < ((listn : Nat) : Int))) = true then (if (Nat.ble (1) listl.length) = true then (if (!(p == 0)) = true then (if (prB p) = true then (if (decide (0 ≤ 1) && decide (1 < ((listn : Nat) : Int))) = true then (if (Nat.ble (2) listl.length) = true then (if (!(p == 0)) = true then (if (prB p) = true then (if (decide (0 ≤ 2) && decide (2 < ((listn : Nat) : Int))) = true then (if (Nat.ble (3) listl.length) = true then (if (!(p == 0)) = true then (if (prB p) = true then (if (decide (0 ≤ 3) && decide (3 < ((listn : Nat) : Int))) = true then (if (Nat.ble (4) listl.length) = true then (if (!(p == 0)) = true then (if (prB p) = true then (if (decide (0 ≤ 4) && decide (4 < ((listn : Nat) : Int))) = true then (if (Nat.ble (5) listl.length) = true then (if (!(p == 0)) = true then (if (prB p) = true then (if (decide (0 ≤ 5) && decide (5 < ((listn : Nat) : Int))) = true then (if (Nat.ble (6) listl.length) = true then (if (!(p == 0)) = true then (if (prB p) = true then some (((s_l01Mod (wI (((listl.getD 0 0).tmod p) * (s_l01Inverse first p))) p), (s_l01Mod (wI (((listl.getD 1 0).tmod p) * (s_l01Inverse first p))) p), (s_l01Mod (wI (((listl.getD 2 0).tmod p) * (s_l01Inverse first p))) p), (s_l01Mod (wI (((listl.getD 3 0).tmod p) * (s_l01Inverse first p))) p), (s_l01Mod (wI (((listl.getD 4 0).tmod p) * (s_l01Inverse first p))) p), (s_l01Mod (wI (((listl.getD 5 0).tmod p) * (s_l01Inverse first p))) p)), true) else none) else none) else none) else none) else none) else none) else none) else none) else none) else none) else none) else none) else none) else none) else none) else none) else none) else none) else none) else none) else none) else none) else none) else none) else none)))
def L_s_l08Made_0 (fu : Nat) (p : Int) (listn : Nat) (listl : List Int) : Nat → Int → Int → Option ((Int × Int × Int × Int × Int × Int) × Bool)
  | 0, _, _ => none
  | f + 1, first, i => B_s_l08Made_0 p listn listl (L_s_l08Made_0 fu p listn listl f) first i
theorem loop_s_l08Made_0 (fu : Nat) (p : Int) (listn : Nat) (listl : List Int) : ∀ (f : Nat) (first : Int) (i : Int), X_s_l08Made_0 Try.prog fu p listn listl f first i = L_s_l08Made_0 fu p listn listl f first i := by
  intro f
  induction f with
  | zero => intros; rfl
  | succ f ih =>
    intro first i
    have h1 : X_s_l08Made_0 Try.prog fu p listn listl (f + 1) first i = B_s_l08Made_0 p listn listl (X_s_l08Made_0 Try.prog fu p listn listl f) first i := by kernel_rfl
    have h2 : X_s_l08Made_0 Try.prog fu p listn listl f = L_s_l08Made_0 fu p listn listl f := by funext first i; exact ih first i
    rw [h1, h2]
    rfl
def G_s_l08Made (p : Int) (listn : Nat) (listl : List Int) (lo0 : Int → Int → Option ((Int × Int × Int × Int × Int × Int) × Bool)) : Option ((Int × Int × Int × Int × Int × Int) × Bool) :=
  lo0 0 0
def Fo_s_l08Made (fu : Nat) (p : Int) (listn : Nat) (listl : List Int) : Option ((Int × Int × Int × Int × Int × Int) × Bool) := G_s_l08Made p listn listl (L_s_l08Made_0 fu p listn listl fu)
theorem eqg_s_l08Made (fu : Nat) (p : Int) (listn : Nat) (listl : List Int) : execT Try.prog S_s_l08Made 16 49 (fuelOf fu [3]) dec_a6_b [.v (.int .i64 p), .s listn (.ints listl)] = G_s_l08Made p listn listl (L_s_l08Made_0 fu p listn listl fu) := by
  have h1 : execT Try.prog S_s_l08Made 16 49 (fuelOf fu [3]) dec_a6_b [.v (.int .i64 p), .s listn (.ints listl)] = G_s_l08Made p listn listl (X_s_l08Made_0 Try.prog fu p listn listl fu) := by kernel_rfl
  have c0 : X_s_l08Made_0 Try.prog fu p listn listl fu = L_s_l08Made_0 fu p listn listl fu := by funext first i; exact loop_s_l08Made_0 fu p listn listl fu first i
  rw [h1, c0]
theorem eq_s_l08Made (fu : Nat) (p : Int) (listn : Nat) (listl : List Int) : execT Try.prog S_s_l08Made 16 49 (fuelOf fu [3]) dec_a6_b [.v (.int .i64 p), .s listn (.ints listl)] = Fo_s_l08Made fu p listn listl := eqg_s_l08Made fu p listn listl
def madeOf (p first : Int) (l : List Int) : P6 × Bool := if (first == 0) = true then ((0, 0, 0, 0, 0, 0), false) else ((s_l01Mod (wrap64 ((l.getD 0 0).tmod p * s_l01Inverse first p)) p, s_l01Mod (wrap64 ((l.getD 1 0).tmod p * s_l01Inverse first p)) p, s_l01Mod (wrap64 ((l.getD 2 0).tmod p * s_l01Inverse first p)) p, s_l01Mod (wrap64 ((l.getD 3 0).tmod p * s_l01Inverse first p)) p, s_l01Mod (wrap64 ((l.getD 4 0).tmod p * s_l01Inverse first p)) p, s_l01Mod (wrap64 ((l.getD 5 0).tmod p * s_l01Inverse first p)) p), true)
def madeFirst (p : Int) (l : List Int) : Int := if (s_l01Mod (l.getD 0 0) p == 0) = true then (if (s_l01Mod (l.getD 1 0) p == 0) = true then s_l01Mod (l.getD 2 0) p else s_l01Mod (l.getD 1 0) p) else s_l01Mod (l.getD 0 0) p
def s_l08Made (p : Int) (n : Nat) (l : List Int) : P6 × Bool := madeOf p (madeFirst p l) l
theorem made_end {p : Int} (hp : prB p = true) {a b c d e f : Int} (fu F : Nat) (x : Int) (h : x ≠ 0) (i : Int) : L_s_l08Made_0 fu p 6 [a, b, c, d, e, f] (F + 1) x i = some (madeOf p x [a, b, c, d, e, f]) := by
  show B_s_l08Made_0 p 6 [a, b, c, d, e, f] _ x i = _
  have hx : ¬ (x == 0) = true := by simpa using h
  have h0 := prB_ne hp
  have hm : madeOf p x [a, b, c, d, e, f] = ((s_l01Mod (wrap64 (a.tmod p * s_l01Inverse x p)) p, s_l01Mod (wrap64 (b.tmod p * s_l01Inverse x p)) p, s_l01Mod (wrap64 (c.tmod p * s_l01Inverse x p)) p, s_l01Mod (wrap64 (d.tmod p * s_l01Inverse x p)) p, s_l01Mod (wrap64 (e.tmod p * s_l01Inverse x p)) p, s_l01Mod (wrap64 (f.tmod p * s_l01Inverse x p)) p), true) := by
    unfold madeOf
    rw [if_neg hx]
    rfl
  rw [hm]
  unfold B_s_l08Made_0
  by_cases hi : decide (i < 3) = true
  · rw [if_pos hi]
    repeat rw [if_neg hx]
    repeat' (refine chk_opt (by first | exact hp | exact h0 | rfl) ?_)
    simp only [wI_eq]
    rfl
  · rw [if_neg hi]
    repeat rw [if_neg hx]
    repeat' (refine chk_opt (by first | exact hp | exact h0 | rfl) ?_)
    simp only [wI_eq]
    rfl
theorem made_zero {p : Int} {a b c d e f : Int} (fu F : Nat) : L_s_l08Made_0 fu p 6 [a, b, c, d, e, f] (F + 1) 0 3 = some (madeOf p 0 [a, b, c, d, e, f]) := rfl
theorem made_go0 {p : Int} (hp : prB p = true) {a b c d e f : Int} (fu F : Nat) : L_s_l08Made_0 fu p 6 [a, b, c, d, e, f] (F + 1) 0 0 = L_s_l08Made_0 fu p 6 [a, b, c, d, e, f] F (s_l01Mod a p) 1 := by
  show B_s_l08Made_0 p 6 [a, b, c, d, e, f] _ 0 0 = _
  have e : wI (0 + 1) = 1 := by rw [wI_eq]; unfold wrap64; omega
  unfold B_s_l08Made_0
  rw [hp, e]; rfl
theorem made_go1 {p : Int} (hp : prB p = true) {a b c d e f : Int} (fu F : Nat) : L_s_l08Made_0 fu p 6 [a, b, c, d, e, f] (F + 1) 0 1 = L_s_l08Made_0 fu p 6 [a, b, c, d, e, f] F (s_l01Mod b p) 2 := by
  show B_s_l08Made_0 p 6 [a, b, c, d, e, f] _ 0 1 = _
  have e : wI (1 + 1) = 2 := by rw [wI_eq]; unfold wrap64; omega
  unfold B_s_l08Made_0
  rw [hp, e]; rfl
theorem made_go2 {p : Int} (hp : prB p = true) {a b c d e f : Int} (fu F : Nat) : L_s_l08Made_0 fu p 6 [a, b, c, d, e, f] (F + 1) 0 2 = L_s_l08Made_0 fu p 6 [a, b, c, d, e, f] F (s_l01Mod c p) 3 := by
  show B_s_l08Made_0 p 6 [a, b, c, d, e, f] _ 0 2 = _
  have e : wI (2 + 1) = 3 := by rw [wI_eq]; unfold wrap64; omega
  unfold B_s_l08Made_0
  rw [hp, e]; rfl
theorem made_all {p : Int} (hp : prB p = true) {a b c d e f : Int} (fu F : Nat) : L_s_l08Made_0 fu p 6 [a, b, c, d, e, f] (F + 3) (s_l01Mod a p) 1 = some (madeOf p (madeFirst p [a, b, c, d, e, f]) [a, b, c, d, e, f]) := by
  unfold madeFirst
  by_cases ha : s_l01Mod a p = 0
  · by_cases hb : s_l01Mod b p = 0
    · rw [ha, made_go1 hp, hb, made_go2 hp]
      have e : (if (s_l01Mod ([a, b, c, d, e, f].getD 0 0) p == 0) = true then (if (s_l01Mod ([a, b, c, d, e, f].getD 1 0) p == 0) = true then s_l01Mod ([a, b, c, d, e, f].getD 2 0) p else s_l01Mod ([a, b, c, d, e, f].getD 1 0) p) else s_l01Mod ([a, b, c, d, e, f].getD 0 0) p) = s_l01Mod c p := by
        show (if (s_l01Mod a p == 0) = true then (if (s_l01Mod b p == 0) = true then s_l01Mod c p else s_l01Mod b p) else s_l01Mod a p) = _
        simp [ha, hb]
      rw [e]
      by_cases hc : s_l01Mod c p = 0
      · rw [hc, made_zero]
      · rw [made_end hp _ _ _ hc]
    · have e : (if (s_l01Mod ([a, b, c, d, e, f].getD 0 0) p == 0) = true then (if (s_l01Mod ([a, b, c, d, e, f].getD 1 0) p == 0) = true then s_l01Mod ([a, b, c, d, e, f].getD 2 0) p else s_l01Mod ([a, b, c, d, e, f].getD 1 0) p) else s_l01Mod ([a, b, c, d, e, f].getD 0 0) p) = s_l01Mod b p := by
        show (if (s_l01Mod a p == 0) = true then (if (s_l01Mod b p == 0) = true then s_l01Mod c p else s_l01Mod b p) else s_l01Mod a p) = _
        simp [ha, hb]
      rw [e, ha, made_go1 hp, made_end hp _ _ _ hb]
  · have e : (if (s_l01Mod ([a, b, c, d, e, f].getD 0 0) p == 0) = true then (if (s_l01Mod ([a, b, c, d, e, f].getD 1 0) p == 0) = true then s_l01Mod ([a, b, c, d, e, f].getD 2 0) p else s_l01Mod ([a, b, c, d, e, f].getD 1 0) p) else s_l01Mod ([a, b, c, d, e, f].getD 0 0) p) = s_l01Mod a p := by
      show (if (s_l01Mod a p == 0) = true then (if (s_l01Mod b p == 0) = true then s_l01Mod c p else s_l01Mod b p) else s_l01Mod a p) = _
      simp [ha]
    rw [e, made_end hp _ _ _ ha]
theorem tot_s_l08Made (p : Int) (listn : Nat) (listl : List Int) (hp : (prB p && (Nat.beq listn 6 && Nat.beq listl.length 6)) = true) : Fo_s_l08Made 1000000 p listn listl = some (s_l08Made p listn listl) := by
  simp only [Bool.and_eq_true] at hp
  obtain ⟨hp, hn, hl⟩ := hp
  obtain rfl : listn = 6 := Nat.eq_of_beq_eq_true hn
  obtain ⟨a, b, c, d, e, f, rfl⟩ := len6' (Nat.eq_of_beq_eq_true hl)
  unfold Fo_s_l08Made G_s_l08Made
  rw [show (1000000 : Nat) = 999996 + 3 + 1 from rfl, made_go0 hp]
  exact made_all hp _ 999996
def run_s_l08Made : List PV → Option (Bool × List TR)
  | [.v (.int .i64 p), .s listn (.ints listl)] => some (prB p && (Nat.beq listn 6 && Nat.beq listl.length 6), enc_a6_b (s_l08Made p listn listl))
  | _ => none
theorem sound_s_l08Made : Sound Try.prog 16 run_s_l08Made := by
  refine sound_of de_a6_b SO_s_l08Made (by kernel_rfl) Try.func16 Try.ntmps16 rfl (by kernel_rfl) ?_
  intro W pvs avs rs hargs hrun
  unfold run_s_l08Made at hrun
  split at hrun
  · simp only [Option.some.injEq, Prod.mk.injEq] at hrun
    obtain ⟨hp, rfl⟩ := hrun
    rename_i p listn listl
    exact ⟨_, _, _, hargs, rfl, (eq_s_l08Made _ p listn listl).trans (tot_s_l08Made p listn listl hp)⟩
  · cases hrun

def S_s_ConicOf : Sums := ⟨tblS [(15, run_s_l01Numbers), (16, run_s_l08Made)], tblM []⟩
theorem SO_s_ConicOf : SumsOK Try.prog S_s_ConicOf := ⟨tblS_ok ⟨⟨Try.call15, sound_s_l01Numbers⟩, ⟨Try.call16, sound_s_l08Made⟩, True.intro⟩, tblM_ok True.intro⟩
def Fo_s_ConicOf (p : Int) (listn : Nat) (listl : List Int) : Option ((Int × Int × Int × Int × Int × Int) × Int) :=
  (if (lenB listn 1 listl) = true then (if ((s_l01Numbers p listl) == 0) = true then (if (((listn : Nat) : Int) != 6) = true then some ((0, 0, 0, 0, 0, 0), 2) else (if ((s_l01Numbers p listl) != 0) = true then some ((0, 0, 0, 0, 0, 0), (s_l01Numbers p listl)) else (if (prB p && (Nat.beq listn 6 && Nat.beq listl.length 6)) = true then (if (!((s_l08Made p listn listl).2)) = true then some ((0, 0, 0, 0, 0, 0), 5) else some (((s_l08Made p listn listl).1), 0)) else none))) else (if ((s_l01Numbers p listl) != 0) = true then some ((0, 0, 0, 0, 0, 0), (s_l01Numbers p listl)) else (if (prB p && (Nat.beq listn 6 && Nat.beq listl.length 6)) = true then (if (!((s_l08Made p listn listl).2)) = true then some ((0, 0, 0, 0, 0, 0), 5) else some (((s_l08Made p listn listl).1), 0)) else none))) else none)
theorem eq_s_ConicOf (p : Int) (listn : Nat) (listl : List Int) : execT Try.prog S_s_ConicOf 5 33 (fun _ => 1000000) dec_a6_i [.v (.int .i64 p), .s listn (.ints listl)] = Fo_s_ConicOf p listn listl := by
  kernel_rfl
def s_ConicOf (p : Int) (listn : Nat) (listl : List Int) : P6 × Int := if (s_l01Numbers p listl != 0) = true then ((0, 0, 0, 0, 0, 0), s_l01Numbers p listl) else if (((listn : Nat) : Int) != 6) = true then ((0, 0, 0, 0, 0, 0), 2) else if (!((s_l08Made p listn listl).2)) = true then ((0, 0, 0, 0, 0, 0), 5) else ((s_l08Made p listn listl).1, 0)
theorem tot_s_ConicOf (p : Int) (listn : Nat) (listl : List Int) (hp : (lenB listn 1 listl) = true) : Fo_s_ConicOf p listn listl = some (s_ConicOf p listn listl) := by
  obtain ⟨hl, _⟩ := lenB_ok hp
  rw [Nat.one_mul] at hl
  unfold Fo_s_ConicOf s_ConicOf
  refine chk_opt hp ?_
  by_cases h0 : s_l01Numbers p listl = 0
  · have hq : prB p = true := l01Numbers_prB0 (by simpa using h0)
    rw [h0, if_pos (show ((0 : Int) == 0) = true from rfl)]
    rw [if_neg (show ¬ ((0 : Int) != 0) = true by decide), if_neg (show ¬ ((0 : Int) != 0) = true by decide)]
    refine ite_opt (fun _ => rfl) (fun h6 => ?_)
    have h6' : listn = 6 := by simp at h6; omega
    subst h6'
    exact chk_opt (and_two hq (and_two rfl (by rw [hl]; rfl))) (ite_opt (fun _ => rfl) (fun _ => rfl))
  · rw [if_neg (by simpa using h0), if_pos (by simpa using h0), if_pos (by simpa using h0)]
def run_s_ConicOf : List PV → Option (Bool × List TR)
  | [.v (.int .i64 p), .s listn (.ints listl)] => some (lenB listn 1 listl, enc_a6_i (s_ConicOf p listn listl))
  | _ => none
theorem sound_s_ConicOf : Sound Try.prog 5 run_s_ConicOf := by
  refine sound_of de_a6_i SO_s_ConicOf (by kernel_rfl) Try.func5 Try.ntmps5 rfl (by kernel_rfl) ?_
  intro W pvs avs rs hargs hrun
  unfold run_s_ConicOf at hrun
  split at hrun
  · simp only [Option.some.injEq, Prod.mk.injEq] at hrun
    obtain ⟨hp, rfl⟩ := hrun
    rename_i p listn listl
    exact ⟨_, _, _, hargs, rfl, (eq_s_ConicOf p listn listl).trans (tot_s_ConicOf p listn listl hp)⟩
  · cases hrun

def S_l_toInt64S : Sums := ⟨tblS [], tblM []⟩
theorem SO_l_toInt64S : SumsOK Try.prog S_l_toInt64S := ⟨tblS_ok True.intro, tblM_ok True.intro⟩
def T_l_toInt64S_0 (an : Nat) (al : List Int) (l7 : List Int) (i : Int) : Tab := ⟨[.row 0, .junk, .val (.slice none 0 0), .row 28, .val (.int .i64 i), .row 0, .val (.int .i64 ((an : Nat) : Int)), .row 28, .junk, .junk, .junk, .junk, .junk, .junk, .junk, .junk, .junk, .junk, .junk, .junk, .junk, .junk], [(0, .ros an (.ints al)), (28, .row 2 1 (((an : Nat) : Int).toNat) (.ints l7))]⟩
def X_l_toInt64S_0 (P : Program) (fu : Nat) (an : Nat) (al : List Int) (f : Nat) (l7 : List Int) (i : Int) : Option (Nat × List Int) := loopK (exec P S_l_toInt64S 22 (fun _ => fu + 100) (Code.sub [1, 1, 0, 1, 0, 0] (bodyF P 6))) f (T_l_toInt64S_0 an al l7 i) (kBlock 0 (kSeq (fun s => exec P S_l_toInt64S 22 (fun _ => fu + 100) (Code.sub [1, 1, 1] (bodyF P 6)) s (finT P 6 dec_l2_1)) (finT P 6 dec_l2_1)))
def B_l_toInt64S_0 (an : Nat) (al : List Int) (rec0 : (List Int) → Int → Option (Nat × List Int)) (l7 : List Int) (i : Int) : Option (Nat × List Int) :=
  (if (decide (i < ((an : Nat) : Int))) = true then (if (decide (0 ≤ i) && decide (i < ((an : Nat) : Int))) = true then (if (Nat.ble (i.toNat * 1 + 1) al.length) = true then (if (decide (0 ≤ i) && decide (i < ((((an : Nat) : Int).toNat : Nat) : Int))) = true then (if (Nat.ble (i.toNat * 1 + 1) l7.length) = true then rec0 (l7.set (i.toNat * 1 + 0) (al.getD (i.toNat * 1) 0)) (wI (i + 1)) else none) else none) else none) else none) else some (((an : Nat) : Int).toNat, l7))
def L_l_toInt64S_0 (fu : Nat) (an : Nat) (al : List Int) : Nat → (List Int) → Int → Option (Nat × List Int)
  | 0, _, _ => none
  | f + 1, l7, i => B_l_toInt64S_0 an al (L_l_toInt64S_0 fu an al f) l7 i
theorem loop_l_toInt64S_0 (fu : Nat) (an : Nat) (al : List Int) : ∀ (f : Nat) (l7 : List Int) (i : Int), X_l_toInt64S_0 Try.prog fu an al f l7 i = L_l_toInt64S_0 fu an al f l7 i := by
  intro f
  induction f with
  | zero => intros; rfl
  | succ f ih =>
    intro l7 i
    have h1 : X_l_toInt64S_0 Try.prog fu an al (f + 1) l7 i = B_l_toInt64S_0 an al (X_l_toInt64S_0 Try.prog fu an al f) l7 i := by kernel_rfl
    have h2 : X_l_toInt64S_0 Try.prog fu an al f = L_l_toInt64S_0 fu an al f := by funext l7 i; exact ih l7 i
    rw [h1, h2]
    rfl
def G_l_toInt64S (an : Nat) (al : List Int) (lo0 : (List Int) → Int → Option (Nat × List Int)) : Option (Nat × List Int) :=
  (if (decide (0 ≤ ((an : Nat) : Int)) && decide (((an : Nat) : Int) ≤ 2000000) && ((an : Nat) : Int) == ((an : Nat) : Int)) = true then lo0 (List.replicate (((an : Nat) : Int).toNat) 0) 0 else none)
def Fo_l_toInt64S (fu : Nat) (an : Nat) (al : List Int) : Option (Nat × List Int) := G_l_toInt64S an al (L_l_toInt64S_0 fu an al (fu + 100))
theorem eqg_l_toInt64S (fu : Nat) (an : Nat) (al : List Int) : execT Try.prog S_l_toInt64S 6 22 (fun _ => fu + 100) dec_l2_1 [.s an (.ints al)] = G_l_toInt64S an al (L_l_toInt64S_0 fu an al (fu + 100)) := by
  have h1 : execT Try.prog S_l_toInt64S 6 22 (fun _ => fu + 100) dec_l2_1 [.s an (.ints al)] = G_l_toInt64S an al (X_l_toInt64S_0 Try.prog fu an al (fu + 100)) := by kernel_rfl
  have c0 : X_l_toInt64S_0 Try.prog fu an al (fu + 100) = L_l_toInt64S_0 fu an al (fu + 100) := by funext l7 i; exact loop_l_toInt64S_0 fu an al (fu + 100) l7 i
  rw [h1, c0]
theorem eq_l_toInt64S (fu : Nat) (an : Nat) (al : List Int) : execT Try.prog S_l_toInt64S 6 22 (fun _ => fu + 100) dec_l2_1 [.s an (.ints al)] = Fo_l_toInt64S fu an al := eqg_l_toInt64S fu an al
def l_toInt64S (an : Nat) (al : List Int) : Nat × List Int := (an, al)
theorem tot_l_toInt64S (an : Nat) (al : List Int) (hp : (lenB an 1 al && Nat.ble an 1048576) = true) : Fo_l_toInt64S an an al = some (l_toInt64S an al) := by
  obtain ⟨hl, _⟩ := lenB_ok (and_l hp)
  rw [Nat.one_mul] at hl
  have hn : an ≤ 1048576 := by have := and_r hp; simpa using this
  unfold Fo_l_toInt64S G_l_toInt64S l_toInt64S
  rw [if_pos (by simp; omega), Int.toNat_natCast]
  have h := upto (L := fun f (s : List Int) i => L_l_toInt64S_0 an an al f s i) (n := an) (fun k s => s.length = an ∧ ∀ t, t < k → s.getD t 0 = al.getD t 0) (fun s k => s.set (k * 1 + 0) (al.getD (k * 1) 0)) (K := fun s => some (an, s))
    (fun f k s hk hs => by
      show B_l_toInt64S_0 an al (L_l_toInt64S_0 an an al f) s (k : Int) = _
      unfold B_l_toInt64S_0
      rw [if_pos (cnd hk), if_pos (cnd2 hk), Int.toNat_natCast, Int.toNat_natCast, if_pos (row1_ok hl hk), if_pos (cnd2 hk), if_pos (row1_ok hs.1 hk), wrap_add1 hk (by omega)])
    (fun k s hk hs => by
      refine ⟨by rw [List.length_set]; exact hs.1, fun t ht => ?_⟩
      rw [getD_set (by rw [hs.1]; omega)]
      by_cases e : k * 1 + 0 = t
      · rw [if_pos e]
        rw [← e]
        rfl
      · rw [if_neg e]
        exact hs.2 t (by omega))
    (fun f s hs => by
      show B_l_toInt64S_0 an al _ s ((an : Nat) : Int) = some (an, s)
      unfold B_l_toInt64S_0
      rw [if_neg (by simp), Int.toNat_natCast]) (F := an + 100) (s := List.replicate an 0) (by omega) ⟨by simp, fun t ht => absurd ht (Nat.not_lt_zero t)⟩
  refine h.trans ?_
  have fin : ∀ (m k : Nat) (s : List Int), k + m = an → s.length = an → (∀ t, t < k → s.getD t 0 = al.getD t 0) → (List.range' k m).foldl (fun s k => s.set (k * 1 + 0) (al.getD (k * 1) 0)) s = al := by
    intro m
    induction m with
    | zero =>
      intro k s hk hs ht
      show s = al
      exact list_of_getD (by omega) fun t h => ht t (by omega)
    | succ m ih =>
      intro k s hk hs ht
      rw [List.range'_succ, List.foldl_cons]
      refine ih (k + 1) _ (by omega) (by rw [List.length_set]; exact hs) fun t h => ?_
      rw [getD_set (by omega)]
      by_cases e : k * 1 + 0 = t
      · rw [if_pos e, ← e]
        rfl
      · rw [if_neg e]
        exact ht t (by omega)
  rw [List.range_eq_range', fin an 0 (List.replicate an 0) (Nat.zero_add an) (by simp) (fun t ht => absurd ht (Nat.not_lt_zero t))]
def run_l_toInt64S : List PV → Option (Bool × List TR)
  | [.s an (.ints al)] => some (lenB an 1 al && Nat.ble an 1048576, enc_l2_1 (l_toInt64S an al))
  | _ => none
theorem sound_l_toInt64S : Sound Try.prog 6 run_l_toInt64S := by
  refine sound_of de_l2_1 SO_l_toInt64S (by kernel_rfl) Try.func6 Try.ntmps6 rfl (by kernel_rfl) ?_
  intro W pvs avs rs hargs hrun
  unfold run_l_toInt64S at hrun
  split at hrun
  · simp only [Option.some.injEq, Prod.mk.injEq] at hrun
    obtain ⟨hp, rfl⟩ := hrun
    rename_i an al
    exact ⟨_, _, _, hargs, rfl, (eq_l_toInt64S _ an al).trans (tot_l_toInt64S an al hp)⟩
  · cases hrun

def S_l_eqInt64S : Sums := ⟨tblS [], tblM []⟩
theorem SO_l_eqInt64S : SumsOK Try.prog S_l_eqInt64S := ⟨tblS_ok True.intro, tblM_ok True.intro⟩
def T_l_eqInt64S_0 (an : Nat) (al : List Int) (bn : Nat) (bl : List Int) (i : Int) : Tab := ⟨[.row 0, .row 4, .junk, .junk, .val (.bool false), .val (.int .i64 i), .row 0, .val (.int .i64 ((an : Nat) : Int)), .row 4, .val (.int .i64 ((bn : Nat) : Int)), .val (.bool (((an : Nat) : Int) != ((bn : Nat) : Int))), .junk, .junk, .junk, .junk, .junk, .junk, .junk, .junk, .junk, .junk, .junk, .junk, .junk, .junk, .junk], [(0, .ros an (.ints al)), (4, .ros bn (.ints bl))]⟩
def X_l_eqInt64S_0 (P : Program) (fu : Nat) (an : Nat) (al : List Int) (bn : Nat) (bl : List Int) (f : Nat) (i : Int) : Option (Bool) := loopK (exec P S_l_eqInt64S 26 (fun _ => fu + 100) (Code.sub [1, 1, 0, 1, 0, 0] (bodyF P 9))) f (T_l_eqInt64S_0 an al bn bl i) (kBlock 0 (kSeq (fun s => exec P S_l_eqInt64S 26 (fun _ => fu + 100) (Code.sub [1, 1, 1] (bodyF P 9)) s (finT P 9 dec_b)) (finT P 9 dec_b)))
def B_l_eqInt64S_0 (an : Nat) (al : List Int) (bn : Nat) (bl : List Int) (rec0 : Int → Option (Bool)) (i : Int) : Option (Bool) :=
  (if (decide (i < ((an : Nat) : Int))) = true then (if (decide (0 ≤ i) && decide (i < ((an : Nat) : Int))) = true then (if (Nat.ble (i.toNat * 1 + 1) al.length) = true then (if (decide (0 ≤ i) && decide (i < ((bn : Nat) : Int))) = true then (if (Nat.ble (i.toNat * 1 + 1) bl.length) = true then (if ((al.getD (i.toNat * 1) 0) != (bl.getD (i.toNat * 1) 0)) = true then some false else rec0 (wI (i + 1))) else none) else none) else none) else none) else some true)
def L_l_eqInt64S_0 (fu : Nat) (an : Nat) (al : List Int) (bn : Nat) (bl : List Int) : Nat → Int → Option (Bool)
  | 0, _ => none
  | f + 1, i => B_l_eqInt64S_0 an al bn bl (L_l_eqInt64S_0 fu an al bn bl f) i
theorem loop_l_eqInt64S_0 (fu : Nat) (an : Nat) (al : List Int) (bn : Nat) (bl : List Int) : ∀ (f : Nat) (i : Int), X_l_eqInt64S_0 Try.prog fu an al bn bl f i = L_l_eqInt64S_0 fu an al bn bl f i := by
  intro f
  induction f with
  | zero => intros; rfl
  | succ f ih =>
    intro i
    have h1 : X_l_eqInt64S_0 Try.prog fu an al bn bl (f + 1) i = B_l_eqInt64S_0 an al bn bl (X_l_eqInt64S_0 Try.prog fu an al bn bl f) i := by kernel_rfl
    have h2 : X_l_eqInt64S_0 Try.prog fu an al bn bl f = L_l_eqInt64S_0 fu an al bn bl f := by funext i; exact ih i
    rw [h1, h2]
    rfl
def G_l_eqInt64S (an : Nat) (al : List Int) (bn : Nat) (bl : List Int) (lo0 : Int → Option (Bool)) : Option (Bool) :=
  (if (((an : Nat) : Int) != ((bn : Nat) : Int)) = true then some false else lo0 0)
def Fo_l_eqInt64S (fu : Nat) (an : Nat) (al : List Int) (bn : Nat) (bl : List Int) : Option (Bool) := G_l_eqInt64S an al bn bl (L_l_eqInt64S_0 fu an al bn bl (fu + 100))
theorem eqg_l_eqInt64S (fu : Nat) (an : Nat) (al : List Int) (bn : Nat) (bl : List Int) : execT Try.prog S_l_eqInt64S 9 26 (fun _ => fu + 100) dec_b [.s an (.ints al), .s bn (.ints bl)] = G_l_eqInt64S an al bn bl (L_l_eqInt64S_0 fu an al bn bl (fu + 100)) := by
  have h1 : execT Try.prog S_l_eqInt64S 9 26 (fun _ => fu + 100) dec_b [.s an (.ints al), .s bn (.ints bl)] = G_l_eqInt64S an al bn bl (X_l_eqInt64S_0 Try.prog fu an al bn bl (fu + 100)) := by kernel_rfl
  have c0 : X_l_eqInt64S_0 Try.prog fu an al bn bl (fu + 100) = L_l_eqInt64S_0 fu an al bn bl (fu + 100) := by funext i; exact loop_l_eqInt64S_0 fu an al bn bl (fu + 100) i
  rw [h1, c0]
theorem eq_l_eqInt64S (fu : Nat) (an : Nat) (al : List Int) (bn : Nat) (bl : List Int) : execT Try.prog S_l_eqInt64S 9 26 (fun _ => fu + 100) dec_b [.s an (.ints al), .s bn (.ints bl)] = Fo_l_eqInt64S fu an al bn bl := eqg_l_eqInt64S fu an al bn bl
def l_eqInt64S (an : Nat) (al : List Int) (bn : Nat) (bl : List Int) : Bool := al == bl
theorem go_l_eqInt64S (fu an : Nat) (al : List Int) (bl : List Int) (hn : an ≤ 100000000000) (hl : al.length = 1 * an) (hm : bl.length = 1 * an) : ∀ (m j F : Nat), j + m = an → m < F → (∀ t : Nat, t < 1 * j → al.getD t 0 = bl.getD t 0) → L_l_eqInt64S_0 fu an al an bl F (j : Int) = some (al == bl)
  | m, j, 0, _, h, _ => absurd h (Nat.not_lt_zero m)
  | 0, j, F + 1, hj, _, hp => by
    obtain rfl : j = an := by omega
    show B_l_eqInt64S_0 j al j bl _ (j : Int) = _
    unfold B_l_eqInt64S_0
    have e : al = bl := list_of_getD (by omega) fun t ht => hp t (by omega)
    rw [if_neg (by simp), e]
    simp
  | m + 1, j, F + 1, hj, hF, hp => by
    show B_l_eqInt64S_0 an al an bl (L_l_eqInt64S_0 fu an al an bl F) (j : Int) = _
    unfold B_l_eqInt64S_0
    have e1 : decide ((j : Int) < ((an : Nat) : Int)) = true := by simp; omega
    have e2 : (decide (0 ≤ (j : Int)) && decide ((j : Int) < ((an : Nat) : Int))) = true := by simp; omega
    have e3 : (j : Int).toNat = j := Int.toNat_natCast j
    have a0 : wrap64 ((j : Int) + 1) = ((j + 1 : Nat) : Int) := by rw [wrapS (by omega)]; omega
    simp only [e3, wI_eq, a0]
    rw [if_pos e1, if_pos e2, if_pos (leb (by rw [hl]; omega)), if_pos e2, if_pos (leb (by rw [hm]; omega))]
    by_cases c : al.getD (j * 1) 0 = bl.getD (j * 1) 0
    rotate_left
    · rw [if_pos (by simpa using c)]
      congr 1
      symm
      rw [beq_eq_false_iff_ne]
      rintro rfl
      exact c rfl
    rw [if_neg (by simpa using c)]
    refine go_l_eqInt64S fu an al bl hn hl hm m (j + 1) F (by omega) (by omega) fun t ht => ?_
    by_cases ht' : t < 1 * j
    · exact hp t ht'
    · obtain rfl : t = j * 1 := by omega
      exact c
theorem tot_l_eqInt64S (an : Nat) (al : List Int) (bn : Nat) (bl : List Int) (hp : (lenB an 1 al && lenB bn 1 bl) = true) : Fo_l_eqInt64S an an al bn bl = some (l_eqInt64S an al bn bl) := by
  simp only [Bool.and_eq_true] at hp
  obtain ⟨hl, hn⟩ := lenB_ok hp.1
  obtain ⟨hm, _⟩ := lenB_ok hp.2
  unfold Fo_l_eqInt64S G_l_eqInt64S l_eqInt64S
  by_cases e : an = bn
  · subst e
    rw [if_neg (by simp)]
    exact go_l_eqInt64S an an al bl hn hl hm an 0 (an + 100) (by omega) (by omega) (fun t ht => by omega)
  · rw [if_pos (by simp; omega)]
    congr 1
    symm
    rw [beq_eq_false_iff_ne]
    rintro rfl
    omega
def run_l_eqInt64S : List PV → Option (Bool × List TR)
  | [.s an (.ints al), .s bn (.ints bl)] => some (lenB an 1 al && lenB bn 1 bl, enc_b (l_eqInt64S an al bn bl))
  | _ => none
theorem sound_l_eqInt64S : Sound Try.prog 9 run_l_eqInt64S := by
  refine sound_of de_b SO_l_eqInt64S (by kernel_rfl) Try.func9 Try.ntmps9 rfl (by kernel_rfl) ?_
  intro W pvs avs rs hargs hrun
  unfold run_l_eqInt64S at hrun
  split at hrun
  · simp only [Option.some.injEq, Prod.mk.injEq] at hrun
    obtain ⟨hp, rfl⟩ := hrun
    rename_i an al bn bl
    exact ⟨_, _, _, hargs, rfl, (eq_l_eqInt64S _ an al bn bl).trans (tot_l_eqInt64S an al bn bl hp)⟩
  · cases hrun

def S_l_eqConic : Sums := ⟨tblS [], tblM []⟩
theorem SO_l_eqConic : SumsOK Try.prog S_l_eqConic := ⟨tblS_ok True.intro, tblM_ok True.intro⟩
def Fo_l_eqConic (a : Int × Int × Int × Int × Int × Int) (b : Int × Int × Int × Int × Int × Int) : Option (Bool) :=
  (if (a.1 != b.1) = true then some false else (if (a.2.1 != b.2.1) = true then some false else (if (a.2.2.1 != b.2.2.1) = true then some false else (if (a.2.2.2.1 != b.2.2.2.1) = true then some false else (if (a.2.2.2.2.1 != b.2.2.2.2.1) = true then some false else (if (a.2.2.2.2.2 != b.2.2.2.2.2) = true then some false else some true))))))
theorem eq_l_eqConic (a : Int × Int × Int × Int × Int × Int) (b : Int × Int × Int × Int × Int × Int) : execT Try.prog S_l_eqConic 8 17 (fun _ => 1000000) dec_b [.v (.agg ⟨[.int .i64 a.1, .int .i64 a.2.1, .int .i64 a.2.2.1, .int .i64 a.2.2.2.1, .int .i64 a.2.2.2.2.1, .int .i64 a.2.2.2.2.2]⟩), .v (.agg ⟨[.int .i64 b.1, .int .i64 b.2.1, .int .i64 b.2.2.1, .int .i64 b.2.2.2.1, .int .i64 b.2.2.2.2.1, .int .i64 b.2.2.2.2.2]⟩)] = Fo_l_eqConic a b := by
  kernel_rfl
def l_eqConic (a : Int × Int × Int × Int × Int × Int) (b : Int × Int × Int × Int × Int × Int) : Bool :=
  (if (a.1 != b.1) = true then false else (if (a.2.1 != b.2.1) = true then false else (if (a.2.2.1 != b.2.2.1) = true then false else (if (a.2.2.2.1 != b.2.2.2.1) = true then false else (if (a.2.2.2.2.1 != b.2.2.2.2.1) = true then false else (if (a.2.2.2.2.2 != b.2.2.2.2.2) = true then false else true))))))
theorem tot_l_eqConic (a : Int × Int × Int × Int × Int × Int) (b : Int × Int × Int × Int × Int × Int) : Fo_l_eqConic a b = some (l_eqConic a b) := by
  unfold Fo_l_eqConic l_eqConic
  (try simp only [wI_eq])
  repeat' (first | with_reducible rfl | refine ite_opt (fun _ => ?_) (fun _ => ?_) | rfl)
def run_l_eqConic : List PV → Option (Bool × List TR)
  | [.v (.agg ⟨[.int .i64 a0, .int .i64 a1, .int .i64 a2, .int .i64 a3, .int .i64 a4, .int .i64 a5]⟩), .v (.agg ⟨[.int .i64 b0, .int .i64 b1, .int .i64 b2, .int .i64 b3, .int .i64 b4, .int .i64 b5]⟩)] => some (true, enc_b (l_eqConic (a0, a1, a2, a3, a4, a5) (b0, b1, b2, b3, b4, b5)))
  | _ => none
theorem sound_l_eqConic : Sound Try.prog 8 run_l_eqConic := by
  refine sound_of de_b SO_l_eqConic (by kernel_rfl) Try.func8 Try.ntmps8 rfl (by kernel_rfl) ?_
  intro W pvs avs rs hargs hrun
  unfold run_l_eqConic at hrun
  split at hrun
  · simp only [Option.some.injEq, Prod.mk.injEq] at hrun
    obtain ⟨hp, rfl⟩ := hrun
    rename_i a0 a1 a2 a3 a4 a5 b0 b1 b2 b3 b4 b5
    exact ⟨_, _, _, hargs, rfl, (eq_l_eqConic (a0, a1, a2, a3, a4, a5) (b0, b1, b2, b3, b4, b5)).trans (tot_l_eqConic (a0, a1, a2, a3, a4, a5) (b0, b1, b2, b3, b4, b5))⟩
  · cases hrun


end

end Go.Proofs.Ytikfglnhkjoioaa
