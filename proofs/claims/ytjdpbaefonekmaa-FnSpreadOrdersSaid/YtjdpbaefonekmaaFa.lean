import Derived.Test.YtjdpbaefonekmaaHz
import Derived.Test.YtjdpbaefonekmaaProg
set_option linter.unusedSimpArgs false
set_option linter.unusedVariables false
namespace Go.Proofs.Ytjdpbaefonekmaa
open Go.RowKit
noncomputable section
def S_i_IsField : Sums := ⟨tblS [], tblM []⟩
theorem SO_i_IsField : SumsOK Try.prog S_i_IsField := ⟨tblS_ok True.intro, tblM_ok True.intro⟩
def Fo_i_IsField (p : Int) : Option (Bool) :=
  (if (p == 3) = true then (if (p == 3) = true then some true else some false) else (if (p == 5) = true then (if (p == 5) = true then some true else some false) else (if (p == 7) = true then (if (p == 7) = true then some true else some false) else (if (p == 11) = true then (if (p == 11) = true then some true else some false) else (if (p == 13) = true then (if (p == 13) = true then some true else some false) else (if (p == 17) = true then (if (p == 17) = true then some true else some false) else (if (p == 19) = true then (if (p == 19) = true then some true else some false) else (if (p == 23) = true then (if (p == 23) = true then some true else some false) else (if (p == 29) = true then (if (p == 29) = true then some true else some false) else (if (p == 31) = true then some true else some false))))))))))
theorem eq_i_IsField (p : Int) : execT Try.prog S_i_IsField 44 15 (fun _ => 1000000) dec_b [.v (.int .i64 p)] = Fo_i_IsField p := by
  kernel_rfl
def i_IsField (p : Int) : Bool :=
  (if (p == 3) = true then (if (p == 3) = true then true else false) else (if (p == 5) = true then (if (p == 5) = true then true else false) else (if (p == 7) = true then (if (p == 7) = true then true else false) else (if (p == 11) = true then (if (p == 11) = true then true else false) else (if (p == 13) = true then (if (p == 13) = true then true else false) else (if (p == 17) = true then (if (p == 17) = true then true else false) else (if (p == 19) = true then (if (p == 19) = true then true else false) else (if (p == 23) = true then (if (p == 23) = true then true else false) else (if (p == 29) = true then (if (p == 29) = true then true else false) else (if (p == 31) = true then true else false))))))))))
theorem tot_i_IsField (p : Int) : Fo_i_IsField p = some (i_IsField p) := by
  unfold Fo_i_IsField i_IsField
  (try simp only [wI_eq])
  repeat' (first | with_reducible rfl | refine ite_opt (fun _ => ?_) (fun _ => ?_) | rfl)
def run_i_IsField : List PV → Option (Bool × List TR)
  | [.v (.int .i64 p)] => some (true, enc_b (i_IsField p))
  | _ => none
theorem sound_i_IsField : Sound Try.prog 44 run_i_IsField := by
  refine sound_of de_b SO_i_IsField (by kernel_rfl) Try.func44 Try.ntmps44 rfl (by kernel_rfl) ?_
  intro W pvs avs rs hargs hrun
  unfold run_i_IsField at hrun
  split at hrun
  · simp only [Option.some.injEq, Prod.mk.injEq] at hrun
    obtain ⟨hp, rfl⟩ := hrun
    rename_i p
    exact ⟨_, _, _, hargs, rfl, (eq_i_IsField p).trans (tot_i_IsField p)⟩
  · cases hrun

def S_i_asked : Sums := ⟨tblS [(44, run_i_IsField)], tblM []⟩
theorem SO_i_asked : SumsOK Try.prog S_i_asked := ⟨tblS_ok ⟨⟨Try.call44, sound_i_IsField⟩, True.intro⟩, tblM_ok True.intro⟩
def Fo_i_asked (p : Int) (rightk : Bool) (righth : Bool) : Option (Int) :=
  (if (!(i_IsField p)) = true then some 1 else (if (rightk) = true then (if (!righth) = true then some 2 else some 0) else none))
theorem eq_i_asked (p : Int) (rightk : Bool) (righth : Bool) : execT Try.prog S_i_asked 27 11 (fun _ => 1000000) dec_i [.v (.int .i64 p), .f (clo__b rightk righth)] = Fo_i_asked p rightk righth := by
  kernel_rfl
def i_asked (p : Int) (rightk righth : Bool) : Int := if i_IsField p = true then (if righth = true then 0 else 2) else 1
theorem asked_zero {p : Int} {k b : Bool} (h : i_asked p k b = 0) : i_IsField p = true ∧ b = true := by
  unfold i_asked at h
  cases h1 : i_IsField p <;> cases h2 : b <;> simp [h1, h2] at h ⊢
theorem i_IsField_ok {p : Int} (h : i_IsField p = true) : Pr p := by
  unfold Pr; simp [i_IsField] at h; omega
theorem asked_prB {p : Int} {k b : Bool} (h : ¬ (i_asked p k b != 0) = true) : prB p = true := Pr_prB (i_IsField_ok (asked_zero (by simpa using h)).1)
theorem asked_prB0 {p : Int} {k b : Bool} (h : (i_asked p k b == 0) = true) : prB p = true := asked_prB (by simpa using h)
theorem field_prB {p : Int} (h : i_IsField p = true) : prB p = true := Pr_prB (i_IsField_ok h)
theorem field_prB0 {p : Int} (h : ¬ (!(i_IsField p)) = true) : prB p = true := field_prB (by simpa using h)
theorem tot_i_asked (p : Int) (rightk : Bool) (righth : Bool) (hp : (rightk || !(i_IsField p)) = true) : Fo_i_asked p rightk righth = some (i_asked p rightk righth) := by
  unfold Fo_i_asked i_asked
  cases h : i_IsField p <;> cases rightk <;> cases righth <;> simp_all
def run_i_asked : List PV → Option (Bool × List TR)
  | [.v (.int .i64 p), .f rightg] => some ((okV (rightg [])) || !(i_IsField p), enc_i (i_asked p (okV (rightg [])) (boolV (rightg []))))
  | _ => none
theorem sound_i_asked : Sound Try.prog 27 run_i_asked := by
  refine sound_of de_i SO_i_asked (by kernel_rfl) Try.func27 Try.ntmps27 rfl (by kernel_rfl) ?_
  intro W pvs avs rs hargs hrun
  unfold run_i_asked at hrun
  split at hrun
  · simp only [Option.some.injEq, Prod.mk.injEq] at hrun
    obtain ⟨hp, rfl⟩ := hrun
    rename_i p rightg
    have hargs := All2.replace (l1 := [_]) hargs (y := .f (clo__b _ _)) fun b hb => fn_weaken hb (clo__b_ok _)
    exact ⟨_, _, _, hargs, rfl, (eq_i_asked p (okV (rightg [])) (boolV (rightg []))).trans (tot_i_asked p (okV (rightg [])) (boolV (rightg [])) hp)⟩
  · cases hrun

theorem asked0 {p : Int} {k h : Bool} (e : i_asked p k h = 0) : i_IsField p = true ∧ h = true := by
  unfold i_asked at e
  cases hf : i_IsField p
  · simp [hf] at e
  · cases h
    · simp [hf] at e
    · exact ⟨rfl, rfl⟩
def S_s_l01In : Sums := ⟨tblS [], tblM []⟩
theorem SO_s_l01In : SumsOK Try.prog S_s_l01In := ⟨tblS_ok True.intro, tblM_ok True.intro⟩
def Fo_s_l01In (n_ : Int) (low : Int) (high : Int) : Option (Bool) :=
  (if (decide (n_ ≥ low)) = true then some (decide (n_ ≤ high)) else some false)
theorem eq_s_l01In (n_ : Int) (low : Int) (high : Int) : execT Try.prog S_s_l01In 51 15 (fun _ => 1000000) dec_b [.v (.int .i64 n_), .v (.int .i64 low), .v (.int .i64 high)] = Fo_s_l01In n_ low high := by
  kernel_rfl
def s_l01In (n_ : Int) (low : Int) (high : Int) : Bool :=
  (if (decide (n_ ≥ low)) = true then decide (n_ ≤ high) else false)
theorem tot_s_l01In (n_ : Int) (low : Int) (high : Int) : Fo_s_l01In n_ low high = some (s_l01In n_ low high) := by
  unfold Fo_s_l01In s_l01In
  (try simp only [wI_eq])
  repeat' (first | with_reducible rfl | refine ite_opt (fun _ => ?_) (fun _ => ?_) | rfl)
def run_s_l01In : List PV → Option (Bool × List TR)
  | [.v (.int .i64 n_), .v (.int .i64 low), .v (.int .i64 high)] => some (true, enc_b (s_l01In n_ low high))
  | _ => none
theorem sound_s_l01In : Sound Try.prog 51 run_s_l01In := by
  refine sound_of de_b SO_s_l01In (by kernel_rfl) Try.func51 Try.ntmps51 rfl (by kernel_rfl) ?_
  intro W pvs avs rs hargs hrun
  unfold run_s_l01In at hrun
  split at hrun
  · simp only [Option.some.injEq, Prod.mk.injEq] at hrun
    obtain ⟨hp, rfl⟩ := hrun
    rename_i n_ low high
    exact ⟨_, _, _, hargs, rfl, (eq_s_l01In n_ low high).trans (tot_s_l01In n_ low high)⟩
  · cases hrun

def S_i_isNumber : Sums := ⟨tblS [], tblM []⟩
theorem SO_i_isNumber : SumsOK Try.prog S_i_isNumber := ⟨tblS_ok True.intro, tblM_ok True.intro⟩
def Fo_i_isNumber (p : Int) (x : Int) : Option (Bool) :=
  (if (decide (x ≥ 0)) = true then some (decide (x < p)) else some false)
theorem eq_i_isNumber (p : Int) (x : Int) : execT Try.prog S_i_isNumber 29 12 (fun _ => 1000000) dec_b [.v (.int .i64 p), .v (.int .i64 x)] = Fo_i_isNumber p x := by
  kernel_rfl
def i_isNumber (p : Int) (x : Int) : Bool :=
  (if (decide (x ≥ 0)) = true then decide (x < p) else false)
theorem tot_i_isNumber (p : Int) (x : Int) : Fo_i_isNumber p x = some (i_isNumber p x) := by
  unfold Fo_i_isNumber i_isNumber
  (try simp only [wI_eq])
  repeat' (first | with_reducible rfl | refine ite_opt (fun _ => ?_) (fun _ => ?_) | rfl)
def run_i_isNumber : List PV → Option (Bool × List TR)
  | [.v (.int .i64 p), .v (.int .i64 x)] => some (true, enc_b (i_isNumber p x))
  | _ => none
theorem sound_i_isNumber : Sound Try.prog 29 run_i_isNumber := by
  refine sound_of de_b SO_i_isNumber (by kernel_rfl) Try.func29 Try.ntmps29 rfl (by kernel_rfl) ?_
  intro W pvs avs rs hargs hrun
  unfold run_i_isNumber at hrun
  split at hrun
  · simp only [Option.some.injEq, Prod.mk.injEq] at hrun
    obtain ⟨hp, rfl⟩ := hrun
    rename_i p x
    exact ⟨_, _, _, hargs, rfl, (eq_i_isNumber p x).trans (tot_i_isNumber p x)⟩
  · cases hrun

def S_s_l01Field : Sums := ⟨tblS [(51, run_s_l01In)], tblM []⟩
theorem SO_s_l01Field : SumsOK Try.prog S_s_l01Field := ⟨tblS_ok ⟨⟨Try.call51, sound_s_l01In⟩, True.intro⟩, tblM_ok True.intro⟩
def T_s_l01Field_0 (p : Int) (d : Int) : Tab := ⟨[.val (.int .i64 p), .junk, .val (.bool false), .val (.int .i64 d), .val (.int .i64 p), .val (.bool (s_l01In p 3 31)), .val (.bool (!(s_l01In p 3 31))), .junk, .junk, .junk, .junk, .junk, .junk, .junk, .junk, .junk, .junk, .junk], []⟩
def X_s_l01Field_0 (P : Program) (fu : Nat) (p : Int) (f : Nat) (d : Int) : Option (Bool) := loopK (exec P S_s_l01Field 18 (fun _ => fu + 100) (Code.sub [1, 1, 0, 1, 0, 0] (bodyF P 53))) f (T_s_l01Field_0 p d) (kBlock 0 (kSeq (fun zs9 => exec P S_s_l01Field 18 (fun _ => fu + 100) (Code.sub [1, 1, 1] (bodyF P 53)) zs9 (finT P 53 dec_b)) (finT P 53 dec_b)))
def B_s_l01Field_0 (p : Int) (rec0 : Int → Option (Bool)) (d : Int) : Option (Bool) :=
  (if (decide ((wI (d * d)) ≤ p)) = true then (if (!(d == 0)) = true then (if ((p.tmod d) == 0) = true then some false else rec0 (wI (d + 1))) else none) else some true)
def L_s_l01Field_0 (fu : Nat) (p : Int) : Nat → Int → Option (Bool)
  | 0, _ => none
  | f + 1, d => B_s_l01Field_0 p (L_s_l01Field_0 fu p f) d
theorem loop_s_l01Field_0 (fu : Nat) (p : Int) : ∀ (f : Nat) (d : Int), X_s_l01Field_0 Try.prog fu p f d = L_s_l01Field_0 fu p f d := by
  intro f
  induction f with
  | zero => intros; rfl
  | succ f ih =>
    intro d
    have h1 : X_s_l01Field_0 Try.prog fu p (f + 1) d = B_s_l01Field_0 p (X_s_l01Field_0 Try.prog fu p f) d := by kernel_rfl
    have h2 : X_s_l01Field_0 Try.prog fu p f = L_s_l01Field_0 fu p f := by funext d; exact ih d
    rw [h1, h2]
    rfl
def G_s_l01Field (p : Int) (lo0 : Int → Option (Bool)) : Option (Bool) :=
  (if (!(s_l01In p 3 31)) = true then some false else lo0 2)
def Fo_s_l01Field (fu : Nat) (p : Int) : Option (Bool) := G_s_l01Field p (L_s_l01Field_0 fu p (fu + 100))
theorem eqg_s_l01Field (fu : Nat) (p : Int) : execT Try.prog S_s_l01Field 53 18 (fun _ => fu + 100) dec_b [.v (.int .i64 p)] = G_s_l01Field p (L_s_l01Field_0 fu p (fu + 100)) := by
  have h1 : execT Try.prog S_s_l01Field 53 18 (fun _ => fu + 100) dec_b [.v (.int .i64 p)] = G_s_l01Field p (X_s_l01Field_0 Try.prog fu p (fu + 100)) := by kernel_rfl
  have c0 : X_s_l01Field_0 Try.prog fu p (fu + 100) = L_s_l01Field_0 fu p (fu + 100) := by funext d; exact loop_s_l01Field_0 fu p (fu + 100) d
  rw [h1, c0]
theorem eq_s_l01Field (fu : Nat) (p : Int) : execT Try.prog S_s_l01Field 53 18 (fun _ => fu + 100) dec_b [.v (.int .i64 p)] = Fo_s_l01Field fu p := eqg_s_l01Field fu p
def s_l01Field (p : Int) : Bool := i_IsField p
theorem range29 {p : Int} (h3 : 3 ≤ p) (h31 : p ≤ 31) : p = 3 ∨ p = 4 ∨ p = 5 ∨ p = 6 ∨ p = 7 ∨ p = 8 ∨ p = 9 ∨ p = 10 ∨ p = 11 ∨ p = 12 ∨ p = 13 ∨ p = 14 ∨ p = 15 ∨ p = 16 ∨ p = 17 ∨ p = 18 ∨ p = 19 ∨ p = 20 ∨ p = 21 ∨ p = 22 ∨ p = 23 ∨ p = 24 ∨ p = 25 ∨ p = 26 ∨ p = 27 ∨ p = 28 ∨ p = 29 ∨ p = 30 ∨ p = 31 := by omega
theorem tot_s_l01Field (p : Int) : Fo_s_l01Field 40 p = some (s_l01Field p) := by
  by_cases hr : 3 ≤ p ∧ p ≤ 31
  · obtain ⟨h3, h31⟩ := hr
    obtain rfl | rfl | rfl | rfl | rfl | rfl | rfl | rfl | rfl | rfl | rfl | rfl | rfl | rfl | rfl | rfl | rfl | rfl | rfl | rfl | rfl | rfl | rfl | rfl | rfl | rfl | rfl | rfl | rfl := range29 h3 h31
    all_goals kernel_rfl
  · have hin : s_l01In p 3 31 = false := by simp [s_l01In]; omega
    unfold Fo_s_l01Field G_s_l01Field
    rw [hin]
    show some false = some (i_IsField p)
    congr 1
    symm
    simp [i_IsField]; omega
def run_s_l01Field : List PV → Option (Bool × List TR)
  | [.v (.int .i64 p)] => some (true, enc_b (s_l01Field p))
  | _ => none
theorem sound_s_l01Field : Sound Try.prog 53 run_s_l01Field := by
  refine sound_of de_b SO_s_l01Field (by kernel_rfl) Try.func53 Try.ntmps53 rfl (by kernel_rfl) ?_
  intro W pvs avs rs hargs hrun
  unfold run_s_l01Field at hrun
  split at hrun
  · simp only [Option.some.injEq, Prod.mk.injEq] at hrun
    obtain ⟨hp, rfl⟩ := hrun
    rename_i p
    exact ⟨_, _, _, hargs, rfl, (eq_s_l01Field _ p).trans (tot_s_l01Field p)⟩
  · cases hrun

theorem sfield_prB0 {p : Int} (h : ¬ (!(s_l01Field p)) = true) : prB p = true := field_prB0 h
def S_s_l01Numbers : Sums := ⟨tblS [(53, run_s_l01Field), (51, run_s_l01In)], tblM []⟩
theorem SO_s_l01Numbers : SumsOK Try.prog S_s_l01Numbers := ⟨tblS_ok ⟨⟨Try.call53, sound_s_l01Field⟩, ⟨Try.call51, sound_s_l01In⟩, True.intro⟩, tblM_ok True.intro⟩
def T_s_l01Numbers_0 (p : Int) (listn : Nat) (listl : List Int) (i : Int) : Tab := ⟨[.val (.int .i64 p), .row 4, .junk, .junk, .val (.int .i64 0), .val (.int .i64 i), .val (.int .i64 p), .val (.bool (s_l01Field p)), .val (.bool (!(s_l01Field p))), .junk, .junk, .junk, .junk, .junk, .junk, .junk, .junk, .junk, .junk, .junk, .junk, .junk, .junk], [(4, .ros listn (.ints listl))]⟩
def X_s_l01Numbers_0 (P : Program) (fu : Nat) (p : Int) (listn : Nat) (listl : List Int) (f : Nat) (i : Int) : Option (Int) := loopK (exec P S_s_l01Numbers 23 (fun _ => fu + 100) (Code.sub [1, 1, 0, 1, 0, 0] (bodyF P 31))) f (T_s_l01Numbers_0 p listn listl i) (kBlock 0 (kSeq (fun zs9 => exec P S_s_l01Numbers 23 (fun _ => fu + 100) (Code.sub [1, 1, 1] (bodyF P 31)) zs9 (finT P 31 dec_i)) (finT P 31 dec_i)))
def B_s_l01Numbers_0 (p : Int) (listn : Nat) (listl : List Int) (rec0 : Int → Option (Int)) (i : Int) : Option (Int) :=
  (if (decide (i < ((listn : Nat) : Int))) = true then (if (decide (0 ≤ i) && decide (i < ((listn : Nat) : Int))) = true then (if (Nat.ble (i.toNat * 1 + 1) listl.length) = true then (if (!(s_l01In (listl.getD (i.toNat * 1) 0) 0 (wI (p - 1)))) = true then some 2 else rec0 (wI (i + 1))) else none) else none) else some 0)
def L_s_l01Numbers_0 (fu : Nat) (p : Int) (listn : Nat) (listl : List Int) : Nat → Int → Option (Int)
  | 0, _ => none
  | f + 1, i => B_s_l01Numbers_0 p listn listl (L_s_l01Numbers_0 fu p listn listl f) i
theorem loop_s_l01Numbers_0 (fu : Nat) (p : Int) (listn : Nat) (listl : List Int) : ∀ (f : Nat) (i : Int), X_s_l01Numbers_0 Try.prog fu p listn listl f i = L_s_l01Numbers_0 fu p listn listl f i := by
  intro f
  induction f with
  | zero => intros; rfl
  | succ f ih =>
    intro i
    have h1 : X_s_l01Numbers_0 Try.prog fu p listn listl (f + 1) i = B_s_l01Numbers_0 p listn listl (X_s_l01Numbers_0 Try.prog fu p listn listl f) i := by kernel_rfl
    have h2 : X_s_l01Numbers_0 Try.prog fu p listn listl f = L_s_l01Numbers_0 fu p listn listl f := by funext i; exact ih i
    rw [h1, h2]
    rfl
def G_s_l01Numbers (p : Int) (listn : Nat) (listl : List Int) (lo0 : Int → Option (Int)) : Option (Int) :=
  (if (!(s_l01Field p)) = true then some 1 else lo0 0)
def Fo_s_l01Numbers (fu : Nat) (p : Int) (listn : Nat) (listl : List Int) : Option (Int) := G_s_l01Numbers p listn listl (L_s_l01Numbers_0 fu p listn listl (fu + 100))
theorem eqg_s_l01Numbers (fu : Nat) (p : Int) (listn : Nat) (listl : List Int) : execT Try.prog S_s_l01Numbers 31 23 (fun _ => fu + 100) dec_i [.v (.int .i64 p), .s listn (.ints listl)] = G_s_l01Numbers p listn listl (L_s_l01Numbers_0 fu p listn listl (fu + 100)) := by
  have h1 : execT Try.prog S_s_l01Numbers 31 23 (fun _ => fu + 100) dec_i [.v (.int .i64 p), .s listn (.ints listl)] = G_s_l01Numbers p listn listl (X_s_l01Numbers_0 Try.prog fu p listn listl (fu + 100)) := by kernel_rfl
  have c0 : X_s_l01Numbers_0 Try.prog fu p listn listl (fu + 100) = L_s_l01Numbers_0 fu p listn listl (fu + 100) := by funext i; exact loop_s_l01Numbers_0 fu p listn listl (fu + 100) i
  rw [h1, c0]
theorem eq_s_l01Numbers (fu : Nat) (p : Int) (listn : Nat) (listl : List Int) : execT Try.prog S_s_l01Numbers 31 23 (fun _ => fu + 100) dec_i [.v (.int .i64 p), .s listn (.ints listl)] = Fo_s_l01Numbers fu p listn listl := eqg_s_l01Numbers fu p listn listl
def s_l01Numbers (p : Int) (l : List Int) : Int := if s_l01Field p = true then (if l.all (fun x => s_l01In x 0 (wrap64 (p - 1))) = true then 0 else 2) else 1
theorem l01Numbers_prB {p : Int} {l : List Int} (h : ¬ (s_l01Numbers p l != 0) = true) : prB p = true := by
  refine Pr_prB (i_IsField_ok ?_)
  have h : s_l01Numbers p l = 0 := by simpa using h
  cases hf : i_IsField p
  · simp [s_l01Numbers, s_l01Field, hf] at h
  · rfl
theorem l01Numbers_prB0 {p : Int} {l : List Int} (h : (s_l01Numbers p l == 0) = true) : prB p = true := l01Numbers_prB (by simpa using h)
theorem tot_s_l01Numbers (p : Int) (listn : Nat) (listl : List Int) (hp : (lenB listn 1 listl) = true) : Fo_s_l01Numbers listn p listn listl = some (s_l01Numbers p listl) := by
  obtain ⟨hl, hn⟩ := lenB_ok hp
  have key : ∀ F, listn < F → (L_s_l01Numbers_0 listn p listn listl) F 0 = some (if (List.range listn).all (fun k => (fun x => s_l01In x 0 (wrap64 (p - 1))) (listl.getD (k * 1) 0)) = true then 0 else 2) := by
    intro F hF
    refine scan hF (fun f k hk => ?_) fun f => ?_
    · show B_s_l01Numbers_0 p listn listl ((L_s_l01Numbers_0 listn p listn listl) f) (k : Int) = _
      unfold B_s_l01Numbers_0
      rw [if_pos (by simpa using hk), if_pos (by simpa using hk), if_pos (leb (by rw [hl, Int.toNat_natCast]; omega)), wrap_add1 hk (by omega)]
      first | rfl | (rw [wI_eq]; rfl)
    · show B_s_l01Numbers_0 p listn listl ((L_s_l01Numbers_0 listn p listn listl) f) ((listn : Nat) : Int) = _
      unfold B_s_l01Numbers_0
      rw [if_neg (by simp)]
  unfold Fo_s_l01Numbers G_s_l01Numbers
  show _ = some (if s_l01Field p = true then (if (listl).all (fun x => s_l01In x 0 (wrap64 (p - 1))) = true then 0 else 2) else 1)
  cases hf : s_l01Field p
  · rfl
  · rw [key _ (by omega), all_rows1 listn listl (by omega)]
    rfl
def run_s_l01Numbers : List PV → Option (Bool × List TR)
  | [.v (.int .i64 p), .s listn (.ints listl)] => some (lenB listn 1 listl, enc_i (s_l01Numbers p listl))
  | _ => none
theorem sound_s_l01Numbers : Sound Try.prog 31 run_s_l01Numbers := by
  refine sound_of de_i SO_s_l01Numbers (by kernel_rfl) Try.func31 Try.ntmps31 rfl (by kernel_rfl) ?_
  intro W pvs avs rs hargs hrun
  unfold run_s_l01Numbers at hrun
  split at hrun
  · simp only [Option.some.injEq, Prod.mk.injEq] at hrun
    obtain ⟨hp, rfl⟩ := hrun
    rename_i p listn listl
    exact ⟨_, _, _, hargs, rfl, (eq_s_l01Numbers _ p listn listl).trans (tot_s_l01Numbers p listn listl hp)⟩
  · cases hrun

def S_i_rest : Sums := ⟨tblS [], tblM []⟩
theorem SO_i_rest : SumsOK Try.prog S_i_rest := ⟨tblS_ok True.intro, tblM_ok True.intro⟩
def Fo_i_rest (p : Int) (x : Int) : Option (Int) :=
  (if (!(p == 0)) = true then (if (!(p == 0)) = true then some ((wI ((x.tmod p) + p)).tmod p) else none) else none)
theorem eq_i_rest (p : Int) (x : Int) : execT Try.prog S_i_rest 58 12 (fun _ => 1000000) dec_i [.v (.int .i64 p), .v (.int .i64 x)] = Fo_i_rest p x := by
  kernel_rfl
def i_rest (p x : Int) : Int := x % p
theorem tot_i_rest (p : Int) (x : Int) (hp : (prB p) = true) : Fo_i_rest p x = some (i_rest p x) := by
  have h0 := prB_ne hp
  unfold Fo_i_rest i_rest
  simp only [h0, if_true, wI_eq]
  rw [rest_raw hp]
def run_i_rest : List PV → Option (Bool × List TR)
  | [.v (.int .i64 p), .v (.int .i64 x)] => some (prB p, enc_i (i_rest p x))
  | _ => none
theorem sound_i_rest : Sound Try.prog 58 run_i_rest := by
  refine sound_of de_i SO_i_rest (by kernel_rfl) Try.func58 Try.ntmps58 rfl (by kernel_rfl) ?_
  intro W pvs avs rs hargs hrun
  unfold run_i_rest at hrun
  split at hrun
  · simp only [Option.some.injEq, Prod.mk.injEq] at hrun
    obtain ⟨hp, rfl⟩ := hrun
    rename_i p x
    exact ⟨_, _, _, hargs, rfl, (eq_i_rest p x).trans (tot_i_rest p x hp)⟩
  · cases hrun

def S_s_l01Mod : Sums := ⟨tblS [], tblM []⟩
theorem SO_s_l01Mod : SumsOK Try.prog S_s_l01Mod := ⟨tblS_ok True.intro, tblM_ok True.intro⟩
def Fo_s_l01Mod (x : Int) (p : Int) : Option (Int) :=
  (if (!(p == 0)) = true then (if (!(p == 0)) = true then some ((wI ((x.tmod p) + p)).tmod p) else none) else none)
theorem eq_s_l01Mod (x : Int) (p : Int) : execT Try.prog S_s_l01Mod 54 12 (fun _ => 1000000) dec_i [.v (.int .i64 x), .v (.int .i64 p)] = Fo_s_l01Mod x p := by
  kernel_rfl
def s_l01Mod (x p : Int) : Int := x % p
theorem tot_s_l01Mod (x : Int) (p : Int) (hp : (prB p) = true) : Fo_s_l01Mod x p = some (s_l01Mod x p) := by
  have h0 := prB_ne hp
  unfold Fo_s_l01Mod s_l01Mod
  simp only [h0, if_true, wI_eq]
  rw [rest_raw hp]
def run_s_l01Mod : List PV → Option (Bool × List TR)
  | [.v (.int .i64 x), .v (.int .i64 p)] => some (prB p, enc_i (s_l01Mod x p))
  | _ => none
theorem sound_s_l01Mod : Sound Try.prog 54 run_s_l01Mod := by
  refine sound_of de_i SO_s_l01Mod (by kernel_rfl) Try.func54 Try.ntmps54 rfl (by kernel_rfl) ?_
  intro W pvs avs rs hargs hrun
  unfold run_s_l01Mod at hrun
  split at hrun
  · simp only [Option.some.injEq, Prod.mk.injEq] at hrun
    obtain ⟨hp, rfl⟩ := hrun
    rename_i x p
    exact ⟨_, _, _, hargs, rfl, (eq_s_l01Mod x p).trans (tot_s_l01Mod x p hp)⟩
  · cases hrun

def S_i_isIndex : Sums := ⟨tblS [], tblM []⟩
theorem SO_i_isIndex : SumsOK Try.prog S_i_isIndex := ⟨tblS_ok True.intro, tblM_ok True.intro⟩
def Fo_i_isIndex (n_ : Int) : Option (Bool) :=
  (if (decide (n_ ≥ 0)) = true then some (decide (n_ ≤ 1000)) else some false)
theorem eq_i_isIndex (n_ : Int) : execT Try.prog S_i_isIndex 39 9 (fun _ => 1000000) dec_b [.v (.int .i64 n_)] = Fo_i_isIndex n_ := by
  kernel_rfl
def i_isIndex (n_ : Int) : Bool :=
  (if (decide (n_ ≥ 0)) = true then decide (n_ ≤ 1000) else false)
theorem tot_i_isIndex (n_ : Int) : Fo_i_isIndex n_ = some (i_isIndex n_) := by
  unfold Fo_i_isIndex i_isIndex
  (try simp only [wI_eq])
  repeat' (first | with_reducible rfl | refine ite_opt (fun _ => ?_) (fun _ => ?_) | rfl)
def run_i_isIndex : List PV → Option (Bool × List TR)
  | [.v (.int .i64 n_)] => some (true, enc_b (i_isIndex n_))
  | _ => none
theorem sound_i_isIndex : Sound Try.prog 39 run_i_isIndex := by
  refine sound_of de_b SO_i_isIndex (by kernel_rfl) Try.func39 Try.ntmps39 rfl (by kernel_rfl) ?_
  intro W pvs avs rs hargs hrun
  unfold run_i_isIndex at hrun
  split at hrun
  · simp only [Option.some.injEq, Prod.mk.injEq] at hrun
    obtain ⟨hp, rfl⟩ := hrun
    rename_i n_
    exact ⟨_, _, _, hargs, rfl, (eq_i_isIndex n_).trans (tot_i_isIndex n_)⟩
  · cases hrun

def S_s_l05Code : Sums := ⟨tblS [(31, run_s_l01Numbers), (51, run_s_l01In)], tblM []⟩
theorem SO_s_l05Code : SumsOK Try.prog S_s_l05Code := ⟨tblS_ok ⟨⟨Try.call31, sound_s_l01Numbers⟩, ⟨Try.call51, sound_s_l01In⟩, True.intro⟩, tblM_ok True.intro⟩
def Fo_s_l05Code (p : Int) (n_ : Int) (listn : Nat) (listl : List Int) : Option (Int) :=
  (if (lenB listn 1 listl) = true then (if ((s_l01Numbers p listl) == 0) = true then (if (!(s_l01In n_ 0 1000)) = true then some 2 else some (s_l01Numbers p listl)) else some (s_l01Numbers p listl)) else none)
theorem eq_s_l05Code (p : Int) (n_ : Int) (listn : Nat) (listl : List Int) : execT Try.prog S_s_l05Code 48 19 (fun _ => 1000000) dec_i [.v (.int .i64 p), .v (.int .i64 n_), .s listn (.ints listl)] = Fo_s_l05Code p n_ listn listl := by
  kernel_rfl
def s_l05Code (p : Int) (n_ : Int) (listn : Nat) (listl : List Int) : Int :=
  (if ((s_l01Numbers p listl) == 0) = true then (if (!(s_l01In n_ 0 1000)) = true then 2 else (s_l01Numbers p listl)) else (s_l01Numbers p listl))
theorem tot_s_l05Code (p : Int) (n_ : Int) (listn : Nat) (listl : List Int) (hp : (lenB listn 1 listl) = true) : Fo_s_l05Code p n_ listn listl = some (s_l05Code p n_ listn listl) := by
  try have h0 := prB_ne hp
  unfold Fo_s_l05Code s_l05Code
  (try simp only [wI_eq])
  repeat' (first | with_reducible rfl | with_reducible refine chk_opt hp ?_ | with_reducible refine chk_opt h0 ?_ | refine chk_opt (and_all hp fun _ => hp) ?_ | refine chk_opt (and_all hp fun _ => rfl) ?_ | refine ite_opt (fun _ => ?_) (fun _ => ?_) | rfl)
def run_s_l05Code : List PV → Option (Bool × List TR)
  | [.v (.int .i64 p), .v (.int .i64 n_), .s listn (.ints listl)] => some (lenB listn 1 listl, enc_i (s_l05Code p n_ listn listl))
  | _ => none
theorem sound_s_l05Code : Sound Try.prog 48 run_s_l05Code := by
  refine sound_of de_i SO_s_l05Code (by kernel_rfl) Try.func48 Try.ntmps48 rfl (by kernel_rfl) ?_
  intro W pvs avs rs hargs hrun
  unfold run_s_l05Code at hrun
  split at hrun
  · simp only [Option.some.injEq, Prod.mk.injEq] at hrun
    obtain ⟨hp, rfl⟩ := hrun
    rename_i p n_ listn listl
    exact ⟨_, _, _, hargs, rfl, (eq_s_l05Code p n_ listn listl).trans (tot_s_l05Code p n_ listn listl hp)⟩
  · cases hrun


end

end Go.Proofs.Ytjdpbaefonekmaa
