import Derived.Test.YtoblkbpejfojjaaGreatDoorHz
import Derived.Test.YtoblkbpejfojjaaGreatDoorProg
set_option linter.unusedSimpArgs false
set_option linter.unusedVariables false
namespace Go.Proofs.YtoblkbpejfojjaaGreatDoor
open Go.RowKit
noncomputable section
def S_i_IsField : Sums := ⟨tblS [], tblM []⟩
theorem SO_i_IsField : SumsOK Tryz.prog S_i_IsField := ⟨tblS_ok True.intro, tblM_ok True.intro⟩
def Fo_i_IsField (p : Int) : Option (Bool) :=
  (if (p == 3) = true then (if (p == 3) = true then some true else some false) else (if (p == 5) = true then (if (p == 5) = true then some true else some false) else (if (p == 7) = true then (if (p == 7) = true then some true else some false) else (if (p == 11) = true then (if (p == 11) = true then some true else some false) else (if (p == 13) = true then (if (p == 13) = true then some true else some false) else (if (p == 17) = true then (if (p == 17) = true then some true else some false) else (if (p == 19) = true then (if (p == 19) = true then some true else some false) else (if (p == 23) = true then (if (p == 23) = true then some true else some false) else (if (p == 29) = true then (if (p == 29) = true then some true else some false) else (if (p == 31) = true then some true else some false))))))))))
theorem eq_i_IsField (p : Int) : execT Tryz.prog S_i_IsField 135 15 (fun _ => 1000000) dec_b [.v (.int .i64 p)] = Fo_i_IsField p := by
  kernel_rfl
def i_IsField (p : Int) : Bool :=
  (if (p == 3) = true then (if (p == 3) = true then true else false) else (if (p == 5) = true then (if (p == 5) = true then true else false) else (if (p == 7) = true then (if (p == 7) = true then true else false) else (if (p == 11) = true then (if (p == 11) = true then true else false) else (if (p == 13) = true then (if (p == 13) = true then true else false) else (if (p == 17) = true then (if (p == 17) = true then true else false) else (if (p == 19) = true then (if (p == 19) = true then true else false) else (if (p == 23) = true then (if (p == 23) = true then true else false) else (if (p == 29) = true then (if (p == 29) = true then true else false) else (if (p == 31) = true then true else false))))))))))
theorem tot_i_IsField (p : Int) : Fo_i_IsField p = some (i_IsField p) := by
  unfold Fo_i_IsField i_IsField
  (try simp only [wI_eq])
  repeat' (first | with_reducible rfl | refine ite_opt (fun _ => ?_) (fun _ => ?_) | rfl)
def run_i_IsField : List PV → Option (Bool × List TR)
  | [.v (.int .i64 p)] => some (true, enc_b (i_IsField p))
  | _ => none
theorem sound_i_IsField : Sound Tryz.prog 135 run_i_IsField := by
  refine sound_of de_b SO_i_IsField (by kernel_rfl) Tryz.func135 Tryz.ntmps135 rfl (by kernel_rfl) ?_
  intro W pvs avs rs hargs hrun
  unfold run_i_IsField at hrun
  split at hrun
  · simp only [Option.some.injEq, Prod.mk.injEq] at hrun
    obtain ⟨hp, rfl⟩ := hrun
    rename_i p
    exact ⟨_, _, _, hargs, rfl, (eq_i_IsField p).trans (tot_i_IsField p)⟩
  · cases hrun

def S_i_asked : Sums := ⟨tblS [(135, run_i_IsField)], tblM []⟩
theorem SO_i_asked : SumsOK Tryz.prog S_i_asked := ⟨tblS_ok ⟨⟨Tryz.call135, sound_i_IsField⟩, True.intro⟩, tblM_ok True.intro⟩
def Fo_i_asked (p : Int) (rightk : Bool) (righth : Bool) : Option (Int) :=
  (if (!(i_IsField p)) = true then some 1 else (if (rightk) = true then (if (!righth) = true then some 2 else some 0) else none))
theorem eq_i_asked (p : Int) (rightk : Bool) (righth : Bool) : execT Tryz.prog S_i_asked 61 11 (fun _ => 1000000) dec_i [.v (.int .i64 p), .f (clo__b rightk righth)] = Fo_i_asked p rightk righth := by
  kernel_rfl
def i_asked (p : Int) (rightk righth : Bool) : Int := if i_IsField p = true then (if righth = true then 0 else 2) else 1
theorem asked_zero {p : Int} {k b : Bool} (h : i_asked p k b = 0) : i_IsField p = true ∧ b = true := by
  unfold i_asked at h
  cases h1 : i_IsField p <;> cases h2 : b <;> simp [h1, h2] at h ⊢
theorem i_IsField_ok {p : Int} (h : i_IsField p = true) : Pr p := by
  unfold Pr; simp [i_IsField] at h; omega
theorem asked_prB {p : Int} {k b : Bool} (h : ¬ (i_asked p k b != 0) = true) : prB p = true := Pr_prB (i_IsField_ok (asked_zero (by simpa using h)).1)
theorem asked_prB0 {p : Int} {k b : Bool} (h : (i_asked p k b == 0) = true) : prB p = true := asked_prB (by simpa using h)
theorem field_prB {p : Int} (h : i_IsField p = true) : prB p = true := Pr_prB (i_IsField_ok h)
theorem field_prB0 {p : Int} (h : ¬ (!(i_IsField p)) = true) : prB p = true := field_prB (by simpa using h)
theorem tot_i_asked (p : Int) (rightk : Bool) (righth : Bool) (hp : (rightk || !(i_IsField p)) = true) : Fo_i_asked p rightk righth = some (i_asked p rightk righth) := by
  unfold Fo_i_asked i_asked
  cases h : i_IsField p <;> cases rightk <;> cases righth <;> simp_all
def run_i_asked : List PV → Option (Bool × List TR)
  | [.v (.int .i64 p), .f rightg] => some ((okV (rightg [])) || !(i_IsField p), enc_i (i_asked p (okV (rightg [])) (boolV (rightg []))))
  | _ => none
theorem sound_i_asked : Sound Tryz.prog 61 run_i_asked := by
  refine sound_of de_i SO_i_asked (by kernel_rfl) Tryz.func61 Tryz.ntmps61 rfl (by kernel_rfl) ?_
  intro W pvs avs rs hargs hrun
  unfold run_i_asked at hrun
  split at hrun
  · simp only [Option.some.injEq, Prod.mk.injEq] at hrun
    obtain ⟨hp, rfl⟩ := hrun
    rename_i p rightg
    have hargs := All2.replace (l1 := [_]) hargs (y := .f (clo__b _ _)) fun b hb => fn_weaken hb (clo__b_ok _)
    exact ⟨_, _, _, hargs, rfl, (eq_i_asked p (okV (rightg [])) (boolV (rightg []))).trans (tot_i_asked p (okV (rightg [])) (boolV (rightg [])) hp)⟩
  · cases hrun

theorem asked0 {p : Int} {k h : Bool} (e : i_asked p k h = 0) : i_IsField p = true ∧ h = true := by
  unfold i_asked at e
  cases hf : i_IsField p
  · simp [hf] at e
  · cases h
    · simp [hf] at e
    · exact ⟨rfl, rfl⟩
def S_i_always : Sums := ⟨tblS [], tblM []⟩
theorem SO_i_always : SumsOK Tryz.prog S_i_always := ⟨tblS_ok True.intro, tblM_ok True.intro⟩
def Fo_i_always : Option (Bool) :=
  some true
theorem eq_i_always : execT Tryz.prog S_i_always 48 1 (fun _ => 1000000) dec_b [] = Fo_i_always := by
  kernel_rfl
def i_always : Bool :=
  true
theorem tot_i_always : Fo_i_always = some (i_always) := by
  unfold Fo_i_always i_always
  (try simp only [wI_eq])
  repeat' (first | with_reducible rfl | refine ite_opt (fun _ => ?_) (fun _ => ?_) | rfl)
def run_i_always : List PV → Option (Bool × List TR)
  | [] => some (true, enc_b (i_always))
  | _ => none
theorem sound_i_always : Sound Tryz.prog 48 run_i_always := by
  refine sound_of de_b SO_i_always (by kernel_rfl) Tryz.func48 Tryz.ntmps48 rfl (by kernel_rfl) ?_
  intro W pvs avs rs hargs hrun
  unfold run_i_always at hrun
  split at hrun
  · simp only [Option.some.injEq, Prod.mk.injEq] at hrun
    obtain ⟨hp, rfl⟩ := hrun
    exact ⟨_, _, _, hargs, rfl, (eq_i_always).trans (tot_i_always)⟩
  · cases hrun

def S_i_isNumber : Sums := ⟨tblS [], tblM []⟩
theorem SO_i_isNumber : SumsOK Tryz.prog S_i_isNumber := ⟨tblS_ok True.intro, tblM_ok True.intro⟩
def Fo_i_isNumber (p : Int) (x : Int) : Option (Bool) :=
  (if (decide (x ≥ 0)) = true then some (decide (x < p)) else some false)
theorem eq_i_isNumber (p : Int) (x : Int) : execT Tryz.prog S_i_isNumber 160 12 (fun _ => 1000000) dec_b [.v (.int .i64 p), .v (.int .i64 x)] = Fo_i_isNumber p x := by
  kernel_rfl
def i_isNumber (p : Int) (x : Int) : Bool :=
  (if (decide (x ≥ 0)) = true then decide (x < p) else false)
theorem tot_i_isNumber (p : Int) (x : Int) : Fo_i_isNumber p x = some (i_isNumber p x) := by
  unfold Fo_i_isNumber i_isNumber
  (try simp only [wI_eq])
  repeat' (first | with_reducible rfl | refine ite_opt (fun _ => ?_) (fun _ => ?_) | rfl)
def run_i_isNumber : List PV → Option (Bool × List TR)
  | [.v (.int .i64 p), .v (.int .i64 x)] => some (true, enc_b (i_isNumber p x))
  | _ => none
theorem sound_i_isNumber : Sound Tryz.prog 160 run_i_isNumber := by
  refine sound_of de_b SO_i_isNumber (by kernel_rfl) Tryz.func160 Tryz.ntmps160 rfl (by kernel_rfl) ?_
  intro W pvs avs rs hargs hrun
  unfold run_i_isNumber at hrun
  split at hrun
  · simp only [Option.some.injEq, Prod.mk.injEq] at hrun
    obtain ⟨hp, rfl⟩ := hrun
    rename_i p x
    exact ⟨_, _, _, hargs, rfl, (eq_i_isNumber p x).trans (tot_i_isNumber p x)⟩
  · cases hrun

def S_i_areNumbers : Sums := ⟨tblS [(160, run_i_isNumber)], tblM []⟩
theorem SO_i_areNumbers : SumsOK Tryz.prog S_i_areNumbers := ⟨tblS_ok ⟨⟨Tryz.call160, sound_i_isNumber⟩, True.intro⟩, tblM_ok True.intro⟩
def T_i_areNumbers_0 (p : Int) (listn : Nat) (listl : List Int) (t9 : Int) : Tab := ⟨[.val (.int .i64 p), .row 4, .junk, .junk, .val (.bool false), .junk, .junk, .row 4, .val (.int .i64 ((listn : Nat) : Int)), .val (.int .i64 t9), .junk, .junk, .junk, .junk, .junk, .junk, .junk, .junk], [(4, .ros listn (.ints listl))]⟩
def X_i_areNumbers_0 (P : Program) (fu : Nat) (p : Int) (listn : Nat) (listl : List Int) (f : Nat) (t9 : Int) : Option (Bool) := loopK (exec P S_i_areNumbers 18 (fun _ => fu + 100) (Code.sub [1, 0, 1, 0, 0] (bodyF P 136))) f (T_i_areNumbers_0 p listn listl t9) (kBlock 0 (kSeq (fun zs9 => exec P S_i_areNumbers 18 (fun _ => fu + 100) (Code.sub [1, 1] (bodyF P 136)) zs9 (finT P 136 dec_b)) (finT P 136 dec_b)))
def B_i_areNumbers_0 (p : Int) (listn : Nat) (listl : List Int) (rec0 : Int → Option (Bool)) (t9 : Int) : Option (Bool) :=
  (if (decide (t9 < ((listn : Nat) : Int))) = true then (if (decide (0 ≤ t9) && decide (t9 < ((listn : Nat) : Int))) = true then (if (Nat.ble (t9.toNat * 1 + 1) listl.length) = true then (if (!(i_isNumber p (listl.getD (t9.toNat * 1) 0))) = true then some false else rec0 (wI (t9 + 1))) else none) else none) else some true)
def L_i_areNumbers_0 (fu : Nat) (p : Int) (listn : Nat) (listl : List Int) : Nat → Int → Option (Bool)
  | 0, _ => none
  | f + 1, t9 => B_i_areNumbers_0 p listn listl (L_i_areNumbers_0 fu p listn listl f) t9
theorem loop_i_areNumbers_0 (fu : Nat) (p : Int) (listn : Nat) (listl : List Int) : ∀ (f : Nat) (t9 : Int), X_i_areNumbers_0 Tryz.prog fu p listn listl f t9 = L_i_areNumbers_0 fu p listn listl f t9 := by
  intro f
  induction f with
  | zero => intros; rfl
  | succ f ih =>
    intro t9
    have h1 : X_i_areNumbers_0 Tryz.prog fu p listn listl (f + 1) t9 = B_i_areNumbers_0 p listn listl (X_i_areNumbers_0 Tryz.prog fu p listn listl f) t9 := by kernel_rfl
    have h2 : X_i_areNumbers_0 Tryz.prog fu p listn listl f = L_i_areNumbers_0 fu p listn listl f := by funext t9; exact ih t9
    rw [h1, h2]
    rfl
def G_i_areNumbers (p : Int) (listn : Nat) (listl : List Int) (lo0 : Int → Option (Bool)) : Option (Bool) :=
  lo0 0
def Fo_i_areNumbers (fu : Nat) (p : Int) (listn : Nat) (listl : List Int) : Option (Bool) := G_i_areNumbers p listn listl (L_i_areNumbers_0 fu p listn listl (fu + 100))
theorem eqg_i_areNumbers (fu : Nat) (p : Int) (listn : Nat) (listl : List Int) : execT Tryz.prog S_i_areNumbers 136 18 (fun _ => fu + 100) dec_b [.v (.int .i64 p), .s listn (.ints listl)] = G_i_areNumbers p listn listl (L_i_areNumbers_0 fu p listn listl (fu + 100)) := by
  have h1 : execT Tryz.prog S_i_areNumbers 136 18 (fun _ => fu + 100) dec_b [.v (.int .i64 p), .s listn (.ints listl)] = G_i_areNumbers p listn listl (X_i_areNumbers_0 Tryz.prog fu p listn listl (fu + 100)) := by kernel_rfl
  have c0 : X_i_areNumbers_0 Tryz.prog fu p listn listl (fu + 100) = L_i_areNumbers_0 fu p listn listl (fu + 100) := by funext t9; exact loop_i_areNumbers_0 fu p listn listl (fu + 100) t9
  rw [h1, c0]
theorem eq_i_areNumbers (fu : Nat) (p : Int) (listn : Nat) (listl : List Int) : execT Tryz.prog S_i_areNumbers 136 18 (fun _ => fu + 100) dec_b [.v (.int .i64 p), .s listn (.ints listl)] = Fo_i_areNumbers fu p listn listl := eqg_i_areNumbers fu p listn listl
def i_areNumbers (p : Int) (l : List Int) : Bool := l.all (fun x => i_isNumber p x)
theorem tot_i_areNumbers (p : Int) (listn : Nat) (listl : List Int) (hp : (lenB listn 1 listl) = true) : Fo_i_areNumbers listn p listn listl = some (i_areNumbers p listl) := by
  obtain ⟨hl, hn⟩ := lenB_ok hp
  have key : ∀ F, listn < F → (L_i_areNumbers_0 listn p listn listl) F 0 = some (if (List.range listn).all (fun k => (fun x => i_isNumber p x) (listl.getD (k * 1) 0)) = true then true else false) := by
    intro F hF
    refine scan hF (fun f k hk => ?_) fun f => ?_
    · show B_i_areNumbers_0 p listn listl ((L_i_areNumbers_0 listn p listn listl) f) (k : Int) = _
      unfold B_i_areNumbers_0
      rw [if_pos (by simpa using hk), if_pos (by simpa using hk), if_pos (leb (by rw [hl, Int.toNat_natCast]; omega)), wrap_add1 hk (by omega)]
      first | rfl | (rw [wI_eq]; rfl)
    · show B_i_areNumbers_0 p listn listl ((L_i_areNumbers_0 listn p listn listl) f) ((listn : Nat) : Int) = _
      unfold B_i_areNumbers_0
      rw [if_neg (by simp)]
  unfold Fo_i_areNumbers G_i_areNumbers
  rw [key _ (by omega)]
  show _ = some ((listl).all (fun x => i_isNumber p x))
  rw [all_rows1 listn listl (by omega)]
  cases (List.range listn).all (fun k => (fun x => i_isNumber p x) (listl.getD (k * 1) 0)) <;> rfl
def run_i_areNumbers : List PV → Option (Bool × List TR)
  | [.v (.int .i64 p), .s listn (.ints listl)] => some (lenB listn 1 listl, enc_b (i_areNumbers p listl))
  | _ => none
theorem sound_i_areNumbers : Sound Tryz.prog 136 run_i_areNumbers := by
  refine sound_of de_b SO_i_areNumbers (by kernel_rfl) Tryz.func136 Tryz.ntmps136 rfl (by kernel_rfl) ?_
  intro W pvs avs rs hargs hrun
  unfold run_i_areNumbers at hrun
  split at hrun
  · simp only [Option.some.injEq, Prod.mk.injEq] at hrun
    obtain ⟨hp, rfl⟩ := hrun
    rename_i p listn listl
    exact ⟨_, _, _, hargs, rfl, (eq_i_areNumbers _ p listn listl).trans (tot_i_areNumbers p listn listl hp)⟩
  · cases hrun

def S_i_rest : Sums := ⟨tblS [], tblM []⟩
theorem SO_i_rest : SumsOK Tryz.prog S_i_rest := ⟨tblS_ok True.intro, tblM_ok True.intro⟩
def Fo_i_rest (p : Int) (x : Int) : Option (Int) :=
  (if (!(p == 0)) = true then (if (!(p == 0)) = true then some ((wI ((x.tmod p) + p)).tmod p) else none) else none)
theorem eq_i_rest (p : Int) (x : Int) : execT Tryz.prog S_i_rest 57 12 (fun _ => 1000000) dec_i [.v (.int .i64 p), .v (.int .i64 x)] = Fo_i_rest p x := by
  kernel_rfl
def i_rest (p x : Int) : Int := x % p
theorem tot_i_rest (p : Int) (x : Int) (hp : (prB p) = true) : Fo_i_rest p x = some (i_rest p x) := by
  have h0 := prB_ne hp
  unfold Fo_i_rest i_rest
  simp only [h0, if_true, wI_eq]
  rw [rest_raw hp]
def run_i_rest : List PV → Option (Bool × List TR)
  | [.v (.int .i64 p), .v (.int .i64 x)] => some (prB p, enc_i (i_rest p x))
  | _ => none
theorem sound_i_rest : Sound Tryz.prog 57 run_i_rest := by
  refine sound_of de_i SO_i_rest (by kernel_rfl) Tryz.func57 Tryz.ntmps57 rfl (by kernel_rfl) ?_
  intro W pvs avs rs hargs hrun
  unfold run_i_rest at hrun
  split at hrun
  · simp only [Option.some.injEq, Prod.mk.injEq] at hrun
    obtain ⟨hp, rfl⟩ := hrun
    rename_i p x
    exact ⟨_, _, _, hargs, rfl, (eq_i_rest p x).trans (tot_i_rest p x hp)⟩
  · cases hrun

def S_i_way : Sums := ⟨tblS [(57, run_i_rest)], tblM []⟩
theorem SO_i_way : SumsOK Tryz.prog S_i_way := ⟨tblS_ok ⟨⟨Tryz.call57, sound_i_rest⟩, True.intro⟩, tblM_ok True.intro⟩
def Fo_i_way (p : Int) (l : Int × Int × Int) : Option (Int × Int) :=
  (if (prB p) = true then some ((i_rest p (wI (0 - l.2.1))), l.1) else none)
theorem eq_i_way (p : Int) (l : Int × Int × Int) : execT Tryz.prog S_i_way 80 13 (fun _ => 1000000) dec_a2 [.v (.int .i64 p), .v (.agg ⟨[.int .i64 l.1, .int .i64 l.2.1, .int .i64 l.2.2]⟩)] = Fo_i_way p l := by
  kernel_rfl
def i_way (p : Int) (l : Int × Int × Int) : Int × Int :=
  ((i_rest p (wrap64 (0 - l.2.1))), l.1)
theorem tot_i_way (p : Int) (l : Int × Int × Int) (hp : (prB p) = true) : Fo_i_way p l = some (i_way p l) := by
  try have h0 := prB_ne hp
  unfold Fo_i_way i_way
  (try simp only [wI_eq])
  repeat' (first | with_reducible rfl | with_reducible refine chk_opt hp ?_ | with_reducible refine chk_opt h0 ?_ | refine chk_opt (and_all hp fun _ => hp) ?_ | refine chk_opt (and_all hp fun _ => rfl) ?_ | refine ite_opt (fun _ => ?_) (fun _ => ?_) | rfl)
def run_i_way : List PV → Option (Bool × List TR)
  | [.v (.int .i64 p), .v (.agg ⟨[.int .i64 l0, .int .i64 l1, .int .i64 l2]⟩)] => some (prB p, enc_a2 (i_way p (l0, l1, l2)))
  | _ => none
theorem sound_i_way : Sound Tryz.prog 80 run_i_way := by
  refine sound_of de_a2 SO_i_way (by kernel_rfl) Tryz.func80 Tryz.ntmps80 rfl (by kernel_rfl) ?_
  intro W pvs avs rs hargs hrun
  unfold run_i_way at hrun
  split at hrun
  · simp only [Option.some.injEq, Prod.mk.injEq] at hrun
    obtain ⟨hp, rfl⟩ := hrun
    rename_i p l0 l1 l2
    exact ⟨_, _, _, hargs, rfl, (eq_i_way p (l0, l1, l2)).trans (tot_i_way p (l0, l1, l2) hp)⟩
  · cases hrun

def S_i_product : Sums := ⟨tblS [(57, run_i_rest)], tblM []⟩
theorem SO_i_product : SumsOK Tryz.prog S_i_product := ⟨tblS_ok ⟨⟨Tryz.call57, sound_i_rest⟩, True.intro⟩, tblM_ok True.intro⟩
def Fo_i_product (p : Int) (colour : Int) (a : Int × Int) (b : Int × Int) : Option (Int) :=
  (if (colour == 0) = true then (if (prB p) = true then some (i_rest p (wI ((wI (a.1 * b.1)) + (wI (a.2 * b.2))))) else none) else (if (colour == 1) = true then (if (prB p) = true then some (i_rest p (wI ((wI (a.1 * b.1)) - (wI (a.2 * b.2))))) else none) else (if (prB p) = true then some (i_rest p (wI ((wI (a.1 * b.2)) + (wI (a.2 * b.1))))) else none)))
theorem eq_i_product (p : Int) (colour : Int) (a : Int × Int) (b : Int × Int) : execT Tryz.prog S_i_product 137 53 (fun _ => 1000000) dec_i [.v (.int .i64 p), .v (.int .i64 colour), .v (.agg ⟨[.int .i64 a.1, .int .i64 a.2]⟩), .v (.agg ⟨[.int .i64 b.1, .int .i64 b.2]⟩)] = Fo_i_product p colour a b := by
  kernel_rfl
def i_product (p : Int) (colour : Int) (a : Int × Int) (b : Int × Int) : Int :=
  (if (colour == 0) = true then (i_rest p (wrap64 ((wrap64 (a.1 * b.1)) + (wrap64 (a.2 * b.2))))) else (if (colour == 1) = true then (i_rest p (wrap64 ((wrap64 (a.1 * b.1)) - (wrap64 (a.2 * b.2))))) else (i_rest p (wrap64 ((wrap64 (a.1 * b.2)) + (wrap64 (a.2 * b.1)))))))
theorem tot_i_product (p : Int) (colour : Int) (a : Int × Int) (b : Int × Int) (hp : (prB p) = true) : Fo_i_product p colour a b = some (i_product p colour a b) := by
  try have h0 := prB_ne hp
  unfold Fo_i_product i_product
  (try simp only [wI_eq])
  repeat' (first | with_reducible rfl | with_reducible refine chk_opt hp ?_ | with_reducible refine chk_opt h0 ?_ | refine chk_opt (and_all hp fun _ => hp) ?_ | refine chk_opt (and_all hp fun _ => rfl) ?_ | refine ite_opt (fun _ => ?_) (fun _ => ?_) | rfl)
def run_i_product : List PV → Option (Bool × List TR)
  | [.v (.int .i64 p), .v (.int .i64 colour), .v (.agg ⟨[.int .i64 a0, .int .i64 a1]⟩), .v (.agg ⟨[.int .i64 b0, .int .i64 b1]⟩)] => some (prB p, enc_i (i_product p colour (a0, a1) (b0, b1)))
  | _ => none
theorem sound_i_product : Sound Tryz.prog 137 run_i_product := by
  refine sound_of de_i SO_i_product (by kernel_rfl) Tryz.func137 Tryz.ntmps137 rfl (by kernel_rfl) ?_
  intro W pvs avs rs hargs hrun
  unfold run_i_product at hrun
  split at hrun
  · simp only [Option.some.injEq, Prod.mk.injEq] at hrun
    obtain ⟨hp, rfl⟩ := hrun
    rename_i p colour a0 a1 b0 b1
    exact ⟨_, _, _, hargs, rfl, (eq_i_product p colour (a0, a1) (b0, b1)).trans (tot_i_product p colour (a0, a1) (b0, b1) hp)⟩
  · cases hrun

def S_i_arePerpendicular : Sums := ⟨tblS [(80, run_i_way), (137, run_i_product)], tblM []⟩
theorem SO_i_arePerpendicular : SumsOK Tryz.prog S_i_arePerpendicular := ⟨tblS_ok ⟨⟨Tryz.call80, sound_i_way⟩, ⟨Tryz.call137, sound_i_product⟩, True.intro⟩, tblM_ok True.intro⟩
def Fo_i_arePerpendicular (p : Int) (colour : Int) (l : Int × Int × Int) (m : Int × Int × Int) : Option (Bool) :=
  (if (prB p) = true then (if (prB p) = true then (if (prB p) = true then some ((i_product p colour (i_way p l) (i_way p m)) == 0) else none) else none) else none)
theorem eq_i_arePerpendicular (p : Int) (colour : Int) (l : Int × Int × Int) (m : Int × Int × Int) : execT Tryz.prog S_i_arePerpendicular 147 19 (fun _ => 1000000) dec_b [.v (.int .i64 p), .v (.int .i64 colour), .v (.agg ⟨[.int .i64 l.1, .int .i64 l.2.1, .int .i64 l.2.2]⟩), .v (.agg ⟨[.int .i64 m.1, .int .i64 m.2.1, .int .i64 m.2.2]⟩)] = Fo_i_arePerpendicular p colour l m := by
  kernel_rfl
def i_arePerpendicular (p : Int) (colour : Int) (l : Int × Int × Int) (m : Int × Int × Int) : Bool :=
  (i_product p colour (i_way p l) (i_way p m)) == 0
theorem tot_i_arePerpendicular (p : Int) (colour : Int) (l : Int × Int × Int) (m : Int × Int × Int) (hp : (prB p) = true) : Fo_i_arePerpendicular p colour l m = some (i_arePerpendicular p colour l m) := by
  try have h0 := prB_ne hp
  unfold Fo_i_arePerpendicular i_arePerpendicular
  (try simp only [wI_eq])
  repeat' (first | with_reducible rfl | with_reducible refine chk_opt hp ?_ | with_reducible refine chk_opt h0 ?_ | refine chk_opt (and_all hp fun _ => hp) ?_ | refine chk_opt (and_all hp fun _ => rfl) ?_ | refine ite_opt (fun _ => ?_) (fun _ => ?_) | rfl)
def run_i_arePerpendicular : List PV → Option (Bool × List TR)
  | [.v (.int .i64 p), .v (.int .i64 colour), .v (.agg ⟨[.int .i64 l0, .int .i64 l1, .int .i64 l2]⟩), .v (.agg ⟨[.int .i64 m0, .int .i64 m1, .int .i64 m2]⟩)] => some (prB p, enc_b (i_arePerpendicular p colour (l0, l1, l2) (m0, m1, m2)))
  | _ => none
theorem sound_i_arePerpendicular : Sound Tryz.prog 147 run_i_arePerpendicular := by
  refine sound_of de_b SO_i_arePerpendicular (by kernel_rfl) Tryz.func147 Tryz.ntmps147 rfl (by kernel_rfl) ?_
  intro W pvs avs rs hargs hrun
  unfold run_i_arePerpendicular at hrun
  split at hrun
  · simp only [Option.some.injEq, Prod.mk.injEq] at hrun
    obtain ⟨hp, rfl⟩ := hrun
    rename_i p colour l0 l1 l2 m0 m1 m2
    exact ⟨_, _, _, hargs, rfl, (eq_i_arePerpendicular p colour (l0, l1, l2) (m0, m1, m2)).trans (tot_i_arePerpendicular p colour (l0, l1, l2) (m0, m1, m2) hp)⟩
  · cases hrun

def S_i_isPoint : Sums := ⟨tblS [(136, run_i_areNumbers)], tblM []⟩
theorem SO_i_isPoint : SumsOK Tryz.prog S_i_isPoint := ⟨tblS_ok ⟨⟨Tryz.call136, sound_i_areNumbers⟩, True.intro⟩, tblM_ok True.intro⟩
def Fo_i_isPoint (p : Int) (a : Int × Int) : Option (Bool) :=
  some (i_areNumbers p [a.1, a.2])
theorem eq_i_isPoint (p : Int) (a : Int × Int) : execT Tryz.prog S_i_isPoint 69 8 (fun _ => 1000000) dec_b [.v (.int .i64 p), .v (.agg ⟨[.int .i64 a.1, .int .i64 a.2]⟩)] = Fo_i_isPoint p a := by
  kernel_rfl
def i_isPoint (p : Int) (a : Int × Int) : Bool :=
  (i_areNumbers p [a.1, a.2])
theorem tot_i_isPoint (p : Int) (a : Int × Int) : Fo_i_isPoint p a = some (i_isPoint p a) := by
  unfold Fo_i_isPoint i_isPoint
  (try simp only [wI_eq])
  repeat' (first | with_reducible rfl | refine ite_opt (fun _ => ?_) (fun _ => ?_) | rfl)
def run_i_isPoint : List PV → Option (Bool × List TR)
  | [.v (.int .i64 p), .v (.agg ⟨[.int .i64 a0, .int .i64 a1]⟩)] => some (true, enc_b (i_isPoint p (a0, a1)))
  | _ => none
theorem sound_i_isPoint : Sound Tryz.prog 69 run_i_isPoint := by
  refine sound_of de_b SO_i_isPoint (by kernel_rfl) Tryz.func69 Tryz.ntmps69 rfl (by kernel_rfl) ?_
  intro W pvs avs rs hargs hrun
  unfold run_i_isPoint at hrun
  split at hrun
  · simp only [Option.some.injEq, Prod.mk.injEq] at hrun
    obtain ⟨hp, rfl⟩ := hrun
    rename_i p a0 a1
    exact ⟨_, _, _, hargs, rfl, (eq_i_isPoint p (a0, a1)).trans (tot_i_isPoint p (a0, a1))⟩
  · cases hrun

def S_i_arePoints : Sums := ⟨tblS [(69, run_i_isPoint)], tblM []⟩
theorem SO_i_arePoints : SumsOK Tryz.prog S_i_arePoints := ⟨tblS_ok ⟨⟨Tryz.call69, sound_i_isPoint⟩, True.intro⟩, tblM_ok True.intro⟩
def T_i_arePoints_0 (p : Int) (listn : Nat) (listl : List Int) (t9 : Int) : Tab := ⟨[.val (.int .i64 p), .row 4, .junk, .junk, .val (.bool false), .junk, .junk, .row 4, .val (.int .i64 ((listn : Nat) : Int)), .val (.int .i64 t9), .junk, .junk, .junk, .junk, .junk, .junk, .junk, .junk], [(4, .ros listn (.ints listl))]⟩
def X_i_arePoints_0 (P : Program) (fu : Nat) (p : Int) (listn : Nat) (listl : List Int) (f : Nat) (t9 : Int) : Option (Bool) := loopK (exec P S_i_arePoints 18 (fun _ => fu + 100) (Code.sub [1, 0, 1, 0, 0] (bodyF P 72))) f (T_i_arePoints_0 p listn listl t9) (kBlock 0 (kSeq (fun zs9 => exec P S_i_arePoints 18 (fun _ => fu + 100) (Code.sub [1, 1] (bodyF P 72)) zs9 (finT P 72 dec_b)) (finT P 72 dec_b)))
def B_i_arePoints_0 (p : Int) (listn : Nat) (listl : List Int) (rec0 : Int → Option (Bool)) (t9 : Int) : Option (Bool) :=
  (if (decide (t9 < ((listn : Nat) : Int))) = true then (if (decide (0 ≤ t9) && decide (t9 < ((listn : Nat) : Int))) = true then (if (Nat.ble (t9.toNat * 2 + 2) listl.length) = true then (if (!(i_isPoint p (listl.getD (t9.toNat * 2 + 0) 0, listl.getD (t9.toNat * 2 + 1) 0))) = true then some false else rec0 (wI (t9 + 1))) else none) else none) else some true)
def L_i_arePoints_0 (fu : Nat) (p : Int) (listn : Nat) (listl : List Int) : Nat → Int → Option (Bool)
  | 0, _ => none
  | f + 1, t9 => B_i_arePoints_0 p listn listl (L_i_arePoints_0 fu p listn listl f) t9
theorem loop_i_arePoints_0 (fu : Nat) (p : Int) (listn : Nat) (listl : List Int) : ∀ (f : Nat) (t9 : Int), X_i_arePoints_0 Tryz.prog fu p listn listl f t9 = L_i_arePoints_0 fu p listn listl f t9 := by
  intro f
  induction f with
  | zero => intros; rfl
  | succ f ih =>
    intro t9
    have h1 : X_i_arePoints_0 Tryz.prog fu p listn listl (f + 1) t9 = B_i_arePoints_0 p listn listl (X_i_arePoints_0 Tryz.prog fu p listn listl f) t9 := by kernel_rfl
    have h2 : X_i_arePoints_0 Tryz.prog fu p listn listl f = L_i_arePoints_0 fu p listn listl f := by funext t9; exact ih t9
    rw [h1, h2]
    rfl
def G_i_arePoints (p : Int) (listn : Nat) (listl : List Int) (lo0 : Int → Option (Bool)) : Option (Bool) :=
  lo0 0
def Fo_i_arePoints (fu : Nat) (p : Int) (listn : Nat) (listl : List Int) : Option (Bool) := G_i_arePoints p listn listl (L_i_arePoints_0 fu p listn listl (fu + 100))
theorem eqg_i_arePoints (fu : Nat) (p : Int) (listn : Nat) (listl : List Int) : execT Tryz.prog S_i_arePoints 72 18 (fun _ => fu + 100) dec_b [.v (.int .i64 p), .s listn (.ints listl)] = G_i_arePoints p listn listl (L_i_arePoints_0 fu p listn listl (fu + 100)) := by
  have h1 : execT Tryz.prog S_i_arePoints 72 18 (fun _ => fu + 100) dec_b [.v (.int .i64 p), .s listn (.ints listl)] = G_i_arePoints p listn listl (X_i_arePoints_0 Tryz.prog fu p listn listl (fu + 100)) := by kernel_rfl
  have c0 : X_i_arePoints_0 Tryz.prog fu p listn listl (fu + 100) = L_i_arePoints_0 fu p listn listl (fu + 100) := by funext t9; exact loop_i_arePoints_0 fu p listn listl (fu + 100) t9
  rw [h1, c0]
theorem eq_i_arePoints (fu : Nat) (p : Int) (listn : Nat) (listl : List Int) : execT Tryz.prog S_i_arePoints 72 18 (fun _ => fu + 100) dec_b [.v (.int .i64 p), .s listn (.ints listl)] = Fo_i_arePoints fu p listn listl := eqg_i_arePoints fu p listn listl
def i_arePoints (p : Int) (l : List P2) : Bool := l.all (fun x => i_isPoint p x)
theorem tot_i_arePoints (p : Int) (listn : Nat) (listl : List Int) (hp : (lenB listn 2 listl) = true) : Fo_i_arePoints listn p listn listl = some (i_arePoints p (rows2 listn listl)) := by
  obtain ⟨hl, hn⟩ := lenB_ok hp
  have key : ∀ F, listn < F → (L_i_arePoints_0 listn p listn listl) F 0 = some (if (List.range listn).all (fun k => (fun x => i_isPoint p x) (listl.getD (k * 2) 0, listl.getD (k * 2 + 1) 0)) = true then true else false) := by
    intro F hF
    refine scan hF (fun f k hk => ?_) fun f => ?_
    · show B_i_arePoints_0 p listn listl ((L_i_arePoints_0 listn p listn listl) f) (k : Int) = _
      unfold B_i_arePoints_0
      rw [if_pos (by simpa using hk), if_pos (by simpa using hk), if_pos (leb (by rw [hl, Int.toNat_natCast]; omega)), wrap_add1 hk (by omega)]
      first | rfl | (rw [wI_eq]; rfl)
    · show B_i_arePoints_0 p listn listl ((L_i_arePoints_0 listn p listn listl) f) ((listn : Nat) : Int) = _
      unfold B_i_arePoints_0
      rw [if_neg (by simp)]
  unfold Fo_i_arePoints G_i_arePoints
  rw [key _ (by omega)]
  show _ = some (((rows2 listn listl)).all (fun x => i_isPoint p x))
  rw [all_rows2 listn listl]
  cases (List.range listn).all (fun k => (fun x => i_isPoint p x) (listl.getD (k * 2) 0, listl.getD (k * 2 + 1) 0)) <;> rfl
def run_i_arePoints : List PV → Option (Bool × List TR)
  | [.v (.int .i64 p), .s listn (.ints listl)] => some (lenB listn 2 listl, enc_b (i_arePoints p (rows2 listn listl)))
  | _ => none
theorem sound_i_arePoints : Sound Tryz.prog 72 run_i_arePoints := by
  refine sound_of de_b SO_i_arePoints (by kernel_rfl) Tryz.func72 Tryz.ntmps72 rfl (by kernel_rfl) ?_
  intro W pvs avs rs hargs hrun
  unfold run_i_arePoints at hrun
  split at hrun
  · simp only [Option.some.injEq, Prod.mk.injEq] at hrun
    obtain ⟨hp, rfl⟩ := hrun
    rename_i p listn listl
    exact ⟨_, _, _, hargs, rfl, (eq_i_arePoints _ p listn listl).trans (tot_i_arePoints p listn listl hp)⟩
  · cases hrun

def S_i_combination : Sums := ⟨tblS [(57, run_i_rest)], tblM []⟩
theorem SO_i_combination : SumsOK Tryz.prog S_i_combination := ⟨tblS_ok ⟨⟨Tryz.call57, sound_i_rest⟩, True.intro⟩, tblM_ok True.intro⟩
def Fo_i_combination (p : Int) (a : Int × Int) (b : Int × Int) (t : Int) : Option (Int × Int) :=
  (if (prB p) = true then (if (prB p) = true then some ((i_rest p (wI (a.1 + (wI (t * (wI (b.1 - a.1))))))), (i_rest p (wI (a.2 + (wI (t * (wI (b.2 - a.2)))))))) else none) else none)
theorem eq_i_combination (p : Int) (a : Int × Int) (b : Int × Int) (t : Int) : execT Tryz.prog S_i_combination 106 34 (fun _ => 1000000) dec_a2 [.v (.int .i64 p), .v (.agg ⟨[.int .i64 a.1, .int .i64 a.2]⟩), .v (.agg ⟨[.int .i64 b.1, .int .i64 b.2]⟩), .v (.int .i64 t)] = Fo_i_combination p a b t := by
  kernel_rfl
def i_combination (p : Int) (a : Int × Int) (b : Int × Int) (t : Int) : Int × Int :=
  ((i_rest p (wrap64 (a.1 + (wrap64 (t * (wrap64 (b.1 - a.1))))))), (i_rest p (wrap64 (a.2 + (wrap64 (t * (wrap64 (b.2 - a.2))))))))
theorem tot_i_combination (p : Int) (a : Int × Int) (b : Int × Int) (t : Int) (hp : (prB p) = true) : Fo_i_combination p a b t = some (i_combination p a b t) := by
  try have h0 := prB_ne hp
  unfold Fo_i_combination i_combination
  (try simp only [wI_eq])
  repeat' (first | with_reducible rfl | with_reducible refine chk_opt hp ?_ | with_reducible refine chk_opt h0 ?_ | refine chk_opt (and_all hp fun _ => hp) ?_ | refine chk_opt (and_all hp fun _ => rfl) ?_ | refine ite_opt (fun _ => ?_) (fun _ => ?_) | rfl)
def run_i_combination : List PV → Option (Bool × List TR)
  | [.v (.int .i64 p), .v (.agg ⟨[.int .i64 a0, .int .i64 a1]⟩), .v (.agg ⟨[.int .i64 b0, .int .i64 b1]⟩), .v (.int .i64 t)] => some (prB p, enc_a2 (i_combination p (a0, a1) (b0, b1) t))
  | _ => none
theorem sound_i_combination : Sound Tryz.prog 106 run_i_combination := by
  refine sound_of de_a2 SO_i_combination (by kernel_rfl) Tryz.func106 Tryz.ntmps106 rfl (by kernel_rfl) ?_
  intro W pvs avs rs hargs hrun
  unfold run_i_combination at hrun
  split at hrun
  · simp only [Option.some.injEq, Prod.mk.injEq] at hrun
    obtain ⟨hp, rfl⟩ := hrun
    rename_i p a0 a1 b0 b1 t
    exact ⟨_, _, _, hargs, rfl, (eq_i_combination p (a0, a1) (b0, b1) t).trans (tot_i_combination p (a0, a1) (b0, b1) t hp)⟩
  · cases hrun

def S_i_inverse : Sums := ⟨tblS [], tblM []⟩
theorem SO_i_inverse : SumsOK Tryz.prog S_i_inverse := ⟨tblS_ok True.intro, tblM_ok True.intro⟩
def T_i_inverse_0 (p : Int) (a : Int) (x : Int) : Tab := ⟨[.val (.int .i64 p), .val (.int .i64 a), .junk, .junk, .val (.int .i64 0), .val (.int .i64 x), .junk, .junk, .junk, .junk, .junk, .junk, .junk, .junk, .junk, .junk, .junk, .junk], []⟩
def X_i_inverse_0 (P : Program) (fu : Nat) (p : Int) (a : Int) (f : Nat) (x : Int) : Option (Int) := loopK (exec P S_i_inverse 18 (fun _ => fu + 100) (Code.sub [1, 0, 1, 0, 0] (bodyF P 56))) f (T_i_inverse_0 p a x) (kBlock 0 (kSeq (fun zs9 => exec P S_i_inverse 18 (fun _ => fu + 100) (Code.sub [1, 1] (bodyF P 56)) zs9 (finT P 56 dec_i)) (finT P 56 dec_i)))
def B_i_inverse_0 (p : Int) (a : Int) (rec0 : Int → Option (Int)) (x : Int) : Option (Int) :=
  (if (decide (x < p)) = true then (if (!(p == 0)) = true then (if (((wI (a * x)).tmod p) == 1) = true then some x else rec0 (wI (x + 1))) else none) else some 0)
def L_i_inverse_0 (fu : Nat) (p : Int) (a : Int) : Nat → Int → Option (Int)
  | 0, _ => none
  | f + 1, x => B_i_inverse_0 p a (L_i_inverse_0 fu p a f) x
theorem loop_i_inverse_0 (fu : Nat) (p : Int) (a : Int) : ∀ (f : Nat) (x : Int), X_i_inverse_0 Tryz.prog fu p a f x = L_i_inverse_0 fu p a f x := by
  intro f
  induction f with
  | zero => intros; rfl
  | succ f ih =>
    intro x
    have h1 : X_i_inverse_0 Tryz.prog fu p a (f + 1) x = B_i_inverse_0 p a (X_i_inverse_0 Tryz.prog fu p a f) x := by kernel_rfl
    have h2 : X_i_inverse_0 Tryz.prog fu p a f = L_i_inverse_0 fu p a f := by funext x; exact ih x
    rw [h1, h2]
    rfl
def G_i_inverse (p : Int) (a : Int) (lo0 : Int → Option (Int)) : Option (Int) :=
  lo0 1
def Fo_i_inverse (fu : Nat) (p : Int) (a : Int) : Option (Int) := G_i_inverse p a (L_i_inverse_0 fu p a (fu + 100))
theorem eqg_i_inverse (fu : Nat) (p : Int) (a : Int) : execT Tryz.prog S_i_inverse 56 18 (fun _ => fu + 100) dec_i [.v (.int .i64 p), .v (.int .i64 a)] = G_i_inverse p a (L_i_inverse_0 fu p a (fu + 100)) := by
  have h1 : execT Tryz.prog S_i_inverse 56 18 (fun _ => fu + 100) dec_i [.v (.int .i64 p), .v (.int .i64 a)] = G_i_inverse p a (X_i_inverse_0 Tryz.prog fu p a (fu + 100)) := by kernel_rfl
  have c0 : X_i_inverse_0 Tryz.prog fu p a (fu + 100) = L_i_inverse_0 fu p a (fu + 100) := by funext x; exact loop_i_inverse_0 fu p a (fu + 100) x
  rw [h1, c0]
theorem eq_i_inverse (fu : Nat) (p : Int) (a : Int) : execT Tryz.prog S_i_inverse 56 18 (fun _ => fu + 100) dec_i [.v (.int .i64 p), .v (.int .i64 a)] = Fo_i_inverse fu p a := eqg_i_inverse fu p a
def invLoop (p a : Int) : Nat → Int → Int
  | 0, _ => 0
  | k + 1, x => if ((wrap64 (a * x)).tmod p == 1) = true then x else invLoop p a k (x + 1)
def i_inverse (p a : Int) : Int := invLoop p a (p - 1).toNat 1
theorem inv_walk (fu : Nat) (p a : Int) (hp : prB p = true) : ∀ (k f : Nat) (j : Int), 1 ≤ j → j ≤ p → (p - j).toNat = k → k < f → L_i_inverse_0 fu p a f j = some (invLoop p a k j)
  | k, 0, j, _, _, _, h => absurd h (Nat.not_lt_zero k)
  | 0, f + 1, j, h1, h2, hk, _ => by
    show B_i_inverse_0 p a _ j = _
    unfold B_i_inverse_0
    rw [if_neg (by simp; omega)]; rfl
  | k + 1, f + 1, j, h1, h2, hk, hf => by
    show B_i_inverse_0 p a (L_i_inverse_0 fu p a f) j = _
    unfold B_i_inverse_0
    rw [if_pos (by simp; omega), if_pos (prB_ne hp), wI_eq, wI_eq]
    show _ = some (if ((wrap64 (a * j)).tmod p == 1) = true then j else invLoop p a k (j + 1))
    refine ite_opt (fun _ => rfl) fun _ => ?_
    have h31 := (prB_Pr hp).2
    rw [show wrap64 (j + 1) = j + 1 from by unfold wrap64; omega]
    exact inv_walk fu p a hp k f (j + 1) (by omega) (by omega) (by omega) (by omega)
theorem tot_i_inverse (p : Int) (a : Int) (hp : (prB p) = true) : Fo_i_inverse 40 p a = some (i_inverse p a) := by
  obtain ⟨h1, h2⟩ := prB_Pr hp
  exact inv_walk 40 p a hp _ _ 1 (by omega) (by omega) rfl (by omega)
def run_i_inverse : List PV → Option (Bool × List TR)
  | [.v (.int .i64 p), .v (.int .i64 a)] => some (prB p, enc_i (i_inverse p a))
  | _ => none
theorem sound_i_inverse : Sound Tryz.prog 56 run_i_inverse := by
  refine sound_of de_i SO_i_inverse (by kernel_rfl) Tryz.func56 Tryz.ntmps56 rfl (by kernel_rfl) ?_
  intro W pvs avs rs hargs hrun
  unfold run_i_inverse at hrun
  split at hrun
  · simp only [Option.some.injEq, Prod.mk.injEq] at hrun
    obtain ⟨hp, rfl⟩ := hrun
    rename_i p a
    exact ⟨_, _, _, hargs, rfl, (eq_i_inverse _ p a).trans (tot_i_inverse p a hp)⟩
  · cases hrun

def S_i_divide : Sums := ⟨tblS [(56, run_i_inverse), (57, run_i_rest)], tblM []⟩
theorem SO_i_divide : SumsOK Tryz.prog S_i_divide := ⟨tblS_ok ⟨⟨Tryz.call56, sound_i_inverse⟩, ⟨Tryz.call57, sound_i_rest⟩, True.intro⟩, tblM_ok True.intro⟩
def Fo_i_divide (p : Int) (a : Int) (b : Int) : Option (Int) :=
  (if (prB p) = true then (if (prB p) = true then some (i_rest p (wI (a * (i_inverse p b)))) else none) else none)
theorem eq_i_divide (p : Int) (a : Int) (b : Int) : execT Tryz.prog S_i_divide 161 14 (fun _ => 1000000) dec_i [.v (.int .i64 p), .v (.int .i64 a), .v (.int .i64 b)] = Fo_i_divide p a b := by
  kernel_rfl
def i_divide (p : Int) (a : Int) (b : Int) : Int :=
  (i_rest p (wrap64 (a * (i_inverse p b))))
theorem tot_i_divide (p : Int) (a : Int) (b : Int) (hp : (prB p) = true) : Fo_i_divide p a b = some (i_divide p a b) := by
  try have h0 := prB_ne hp
  unfold Fo_i_divide i_divide
  (try simp only [wI_eq])
  repeat' (first | with_reducible rfl | with_reducible refine chk_opt hp ?_ | with_reducible refine chk_opt h0 ?_ | refine chk_opt (and_all hp fun _ => hp) ?_ | refine chk_opt (and_all hp fun _ => rfl) ?_ | refine ite_opt (fun _ => ?_) (fun _ => ?_) | rfl)
def run_i_divide : List PV → Option (Bool × List TR)
  | [.v (.int .i64 p), .v (.int .i64 a), .v (.int .i64 b)] => some (prB p, enc_i (i_divide p a b))
  | _ => none
theorem sound_i_divide : Sound Tryz.prog 161 run_i_divide := by
  refine sound_of de_i SO_i_divide (by kernel_rfl) Tryz.func161 Tryz.ntmps161 rfl (by kernel_rfl) ?_
  intro W pvs avs rs hargs hrun
  unfold run_i_divide at hrun
  split at hrun
  · simp only [Option.some.injEq, Prod.mk.injEq] at hrun
    obtain ⟨hp, rfl⟩ := hrun
    rename_i p a b
    exact ⟨_, _, _, hargs, rfl, (eq_i_divide p a b).trans (tot_i_divide p a b hp)⟩
  · cases hrun

def S_i_linesThrough : Sums := ⟨tblS [(57, run_i_rest)], tblM []⟩
theorem SO_i_linesThrough : SumsOK Tryz.prog S_i_linesThrough := ⟨tblS_ok ⟨⟨Tryz.call57, sound_i_rest⟩, True.intro⟩, tblM_ok True.intro⟩
def T_i_linesThrough_0 (p : Int) (a : Int × Int) (l13 : List Int) (m13 : Nat) (b : Int) : Tab := ⟨[.val (.int .i64 p), .val (.agg ⟨[.int .i64 a.1, .int .i64 a.2]⟩), .junk, .ptr 12 0, .val (.slice none 0 0), .row 52, .val (.int .i64 b), .val (.int .i64 p), .ptr 12 1, .val (.int .i64 a.2), .val (.int .i64 (wI (0 - a.2))), .val (.int .i64 (i_rest p (wI (0 - a.2)))), .val (.agg ⟨[.int .i64 0, .int .i64 1, .int .i64 (i_rest p (wI (0 - a.2)))]⟩), .junk, .junk, .junk, .junk, .junk, .junk, .junk, .junk, .junk, .junk, .junk, .junk, .junk, .junk, .junk, .junk, .junk, .junk, .junk, .junk, .junk, .junk], [(12, .box 26 [.val (.int .i64 a.1), .val (.int .i64 a.2)]), (52, .row 45 3 m13 (.ints l13))]⟩
def X_i_linesThrough_0 (P : Program) (fu : Nat) (p : Int) (a : Int × Int) (f : Nat) (l13 : List Int) (m13 : Nat) (b : Int) : Option (Nat × List Int) := loopK (exec P S_i_linesThrough 35 (fun _ => fu + 100) (Code.sub [1, 1, 0, 1, 0, 0] (bodyF P 162))) f (T_i_linesThrough_0 p a l13 m13 b) (kBlock 0 (kSeq (fun zs9 => exec P S_i_linesThrough 35 (fun _ => fu + 100) (Code.sub [1, 1, 1] (bodyF P 162)) zs9 (finT P 162 dec_l45_3)) (finT P 162 dec_l45_3)))
def B_i_linesThrough_0 (p : Int) (a : Int × Int) (rec0 : (List Int) → Nat → Int → Option (Nat × List Int)) (l13 : List Int) (m13 : Nat) (b : Int) : Option (Nat × List Int) :=
  (if (decide (b < p)) = true then (if (prB p) = true then (if (Nat.ble 0 1 && Nat.ble (m13 + 1) 1000000 && Nat.beq 3 (3)) = true then rec0 (l13 ++ [1, b, (i_rest p (wI ((wI (0 - a.1)) - (wI (b * a.2)))))]) (m13 + 1) (wI (b + 1)) else none) else none) else some (m13, l13))
def L_i_linesThrough_0 (fu : Nat) (p : Int) (a : Int × Int) : Nat → (List Int) → Nat → Int → Option (Nat × List Int)
  | 0, _, _, _ => none
  | f + 1, l13, m13, b => B_i_linesThrough_0 p a (L_i_linesThrough_0 fu p a f) l13 m13 b
theorem loop_i_linesThrough_0 (fu : Nat) (p : Int) (a : Int × Int) : ∀ (f : Nat) (l13 : List Int) (m13 : Nat) (b : Int), X_i_linesThrough_0 Tryz.prog fu p a f l13 m13 b = L_i_linesThrough_0 fu p a f l13 m13 b := by
  intro f
  induction f with
  | zero => intros; rfl
  | succ f ih =>
    intro l13 m13 b
    have h1 : X_i_linesThrough_0 Tryz.prog fu p a (f + 1) l13 m13 b = B_i_linesThrough_0 p a (X_i_linesThrough_0 Tryz.prog fu p a f) l13 m13 b := by kernel_rfl
    have h2 : X_i_linesThrough_0 Tryz.prog fu p a f = L_i_linesThrough_0 fu p a f := by funext l13 m13 b; exact ih l13 m13 b
    rw [h1, h2]
    rfl
def G_i_linesThrough (p : Int) (a : Int × Int) (lo0 : (List Int) → Nat → Int → Option (Nat × List Int)) : Option (Nat × List Int) :=
  (if (prB p) = true then lo0 [0, 1, (i_rest p (wI (0 - a.2)))] 1 0 else none)
def Fo_i_linesThrough (fu : Nat) (p : Int) (a : Int × Int) : Option (Nat × List Int) := G_i_linesThrough p a (L_i_linesThrough_0 fu p a (fu + 100))
theorem eqg_i_linesThrough (fu : Nat) (p : Int) (a : Int × Int) : execT Tryz.prog S_i_linesThrough 162 35 (fun _ => fu + 100) dec_l45_3 [.v (.int .i64 p), .v (.agg ⟨[.int .i64 a.1, .int .i64 a.2]⟩)] = G_i_linesThrough p a (L_i_linesThrough_0 fu p a (fu + 100)) := by
  have h1 : execT Tryz.prog S_i_linesThrough 162 35 (fun _ => fu + 100) dec_l45_3 [.v (.int .i64 p), .v (.agg ⟨[.int .i64 a.1, .int .i64 a.2]⟩)] = G_i_linesThrough p a (X_i_linesThrough_0 Tryz.prog fu p a (fu + 100)) := by kernel_rfl
  have c0 : X_i_linesThrough_0 Tryz.prog fu p a (fu + 100) = L_i_linesThrough_0 fu p a (fu + 100) := by funext l13 m13 b; exact loop_i_linesThrough_0 fu p a (fu + 100) l13 m13 b
  rw [h1, c0]
theorem eq_i_linesThrough (fu : Nat) (p : Int) (a : Int × Int) : execT Tryz.prog S_i_linesThrough 162 35 (fun _ => fu + 100) dec_l45_3 [.v (.int .i64 p), .v (.agg ⟨[.int .i64 a.1, .int .i64 a.2]⟩)] = Fo_i_linesThrough fu p a := eqg_i_linesThrough fu p a
def linesT (p : Int) (a : P2) : List P3 := ((0, 1, i_rest p (wrap64 (0 - a.2))) :: ((List.range p.toNat).map fun b : Nat => ((1 : Int), (b : Int), i_rest p (wrap64 (wrap64 (0 - a.1) - wrap64 ((b : Int) * a.2))))))
def i_linesThrough (p : Int) (a : P2) : Nat × List Int := ((linesT p a).length, flat3 (linesT p a))
theorem linesT_len {p : Int} (hp : prB p = true) (a : P2) : (linesT p a).length ≤ 993 := by
  have h1 := (prB_nat hp).1
  unfold linesT
  simp; omega

theorem tot_i_linesThrough (p : Int) (a : Int × Int) (hp : (prB p) = true) : Fo_i_linesThrough 1000000 p a = some (i_linesThrough p a) := by
  obtain ⟨h1, h0, hpn⟩ := prB_nat hp
  unfold Fo_i_linesThrough G_i_linesThrough
  rw [if_pos hp]
  refine (gather (flat := flat3) flat3_app rfl (L := fun f l m i => L_i_linesThrough_0 1000000 p a f l m i) (n := p.toNat) (b := 1) (M := 1) (fun b : Nat => [((1 : Int), (b : Int), i_rest p (wrap64 (wrap64 (0 - a.1) - wrap64 ((b : Int) * a.2))))]) (K := (some (i_linesThrough p a))) (l := [0, 1, i_rest p (wI (0 - a.2))]) (m := 1) (F := (1000000 + 100)) (by intro k hk; first | (split <;> simp) | simp_all)
    (fun f k l m hk hm => by
      show B_i_linesThrough_0 p a (L_i_linesThrough_0 1000000 p a f) l m (k : Int) = _
      unfold B_i_linesThrough_0
      simp only [cndp hk, hp, if_true, wI_eq]
      rw [if_pos (by simp; omega), show wrap64 ((k : Int) + 1) = ((k + 1 : Nat) : Int) from by rw [← wI_eq]; exact wrap_add1 hk (by omega)]
      rfl)
    (fun f hm => by
      show B_i_linesThrough_0 p a (L_i_linesThrough_0 1000000 p a f) ([0, 1, i_rest p (wI (0 - a.2))] ++ flat3 ((List.range p.toNat).flatMap (fun b : Nat => [((1 : Int), (b : Int), i_rest p (wrap64 (wrap64 (0 - a.1) - wrap64 ((b : Int) * a.2))))]))) (1 + ((List.range p.toNat).flatMap (fun b : Nat => [((1 : Int), (b : Int), i_rest p (wrap64 (wrap64 (0 - a.1) - wrap64 ((b : Int) * a.2))))])).length) ((p.toNat : Nat) : Int) = _
      unfold B_i_linesThrough_0
      rw [if_neg (by simp; omega), flatMap_one]
      refine congrArg some (Prod.ext ?_ ?_)
      · simp [i_linesThrough, linesT]; omega
      · simp only [wI_eq]
        rfl) (by omega) (Nat.le_refl _)).trans ?_
  rfl
def run_i_linesThrough : List PV → Option (Bool × List TR)
  | [.v (.int .i64 p), .v (.agg ⟨[.int .i64 a0, .int .i64 a1]⟩)] => some (prB p, enc_l45_3 (i_linesThrough p (a0, a1)))
  | _ => none
theorem sound_i_linesThrough : Sound Tryz.prog 162 run_i_linesThrough := by
  refine sound_of de_l45_3 SO_i_linesThrough (by kernel_rfl) Tryz.func162 Tryz.ntmps162 rfl (by kernel_rfl) ?_
  intro W pvs avs rs hargs hrun
  unfold run_i_linesThrough at hrun
  split at hrun
  · simp only [Option.some.injEq, Prod.mk.injEq] at hrun
    obtain ⟨hp, rfl⟩ := hrun
    rename_i p a0 a1
    exact ⟨_, _, _, hargs, rfl, (eq_i_linesThrough _ p (a0, a1)).trans (tot_i_linesThrough p (a0, a1) hp)⟩
  · cases hrun

def S_i_perpendicular : Sums := ⟨tblS [(162, run_i_linesThrough), (147, run_i_arePerpendicular)], tblM []⟩
theorem SO_i_perpendicular : SumsOK Tryz.prog S_i_perpendicular := ⟨tblS_ok ⟨⟨Tryz.call162, sound_i_linesThrough⟩, ⟨Tryz.call147, sound_i_arePerpendicular⟩, True.intro⟩, tblM_ok True.intro⟩
def T_i_perpendicular_0 (p : Int) (colour : Int) (l : Int × Int × Int) (a : Int × Int) (t15 : Int) : Tab := ⟨[.val (.int .i64 p), .val (.int .i64 colour), .val (.agg ⟨[.int .i64 l.1, .int .i64 l.2.1, .int .i64 l.2.2]⟩), .val (.agg ⟨[.int .i64 a.1, .int .i64 a.2]⟩), .junk, .junk, .ptr 24 0, .ptr 28 0, .ptr 32 0, .junk, .junk, .val (.int .i64 p), .val (.agg ⟨[.int .i64 a.1, .int .i64 a.2]⟩), .row 52, .val (.int .i64 (((i_linesThrough p a).1 : Nat) : Int)), .val (.int .i64 t15), .junk, .junk, .junk, .junk, .junk, .junk, .junk, .junk, .junk, .junk, .junk], [(24, .box 45 [.val (.int .i64 l.1), .val (.int .i64 l.2.1), .val (.int .i64 l.2.2)]), (28, .box 26 [.val (.int .i64 a.1), .val (.int .i64 a.2)]), (32, .box 45 [.val (.int .i64 0), .val (.int .i64 0), .val (.int .i64 0)]), (52, .row 45 3 ((i_linesThrough p a).1) (.ints ((i_linesThrough p a).2)))]⟩
def X_i_perpendicular_0 (P : Program) (fu : Nat) (p : Int) (colour : Int) (l : Int × Int × Int) (a : Int × Int) (f : Nat) (t15 : Int) : Option (Int × Int × Int) := loopK (exec P S_i_perpendicular 27 (fun _ => fu + 100) (Code.sub [1, 0, 1, 0, 0] (bodyF P 149))) f (T_i_perpendicular_0 p colour l a t15) (kBlock 0 (kSeq (fun zs9 => exec P S_i_perpendicular 27 (fun _ => fu + 100) (Code.sub [1, 1] (bodyF P 149)) zs9 (finT P 149 dec_a3)) (finT P 149 dec_a3)))
def B_i_perpendicular_0 (p : Int) (colour : Int) (l : Int × Int × Int) (a : Int × Int) (rec0 : Int → Option (Int × Int × Int)) (t15 : Int) : Option (Int × Int × Int) :=
  (if (decide (t15 < (((i_linesThrough p a).1 : Nat) : Int))) = true then (if (decide (0 ≤ t15) && decide (t15 < (((i_linesThrough p a).1 : Nat) : Int))) = true then (if (Nat.ble (t15.toNat * 3 + 3) (((i_linesThrough p a).2).length)) = true then (if (prB p) = true then (if (i_arePerpendicular p colour l (((i_linesThrough p a).2).getD (t15.toNat * 3 + 0) 0, ((i_linesThrough p a).2).getD (t15.toNat * 3 + 1) 0, ((i_linesThrough p a).2).getD (t15.toNat * 3 + 2) 0)) = true then some (((i_linesThrough p a).2).getD (t15.toNat * 3 + 0) 0, ((i_linesThrough p a).2).getD (t15.toNat * 3 + 1) 0, ((i_linesThrough p a).2).getD (t15.toNat * 3 + 2) 0) else rec0 (wI (t15 + 1))) else none) else none) else none) else some (0, 0, 0))
def L_i_perpendicular_0 (fu : Nat) (p : Int) (colour : Int) (l : Int × Int × Int) (a : Int × Int) : Nat → Int → Option (Int × Int × Int)
  | 0, _ => none
  | f + 1, t15 => B_i_perpendicular_0 p colour l a (L_i_perpendicular_0 fu p colour l a f) t15
theorem loop_i_perpendicular_0 (fu : Nat) (p : Int) (colour : Int) (l : Int × Int × Int) (a : Int × Int) : ∀ (f : Nat) (t15 : Int), X_i_perpendicular_0 Tryz.prog fu p colour l a f t15 = L_i_perpendicular_0 fu p colour l a f t15 := by
  intro f
  induction f with
  | zero => intros; rfl
  | succ f ih =>
    intro t15
    have h1 : X_i_perpendicular_0 Tryz.prog fu p colour l a (f + 1) t15 = B_i_perpendicular_0 p colour l a (X_i_perpendicular_0 Tryz.prog fu p colour l a f) t15 := by kernel_rfl
    have h2 : X_i_perpendicular_0 Tryz.prog fu p colour l a f = L_i_perpendicular_0 fu p colour l a f := by funext t15; exact ih t15
    rw [h1, h2]
    rfl
def G_i_perpendicular (p : Int) (colour : Int) (l : Int × Int × Int) (a : Int × Int) (lo0 : Int → Option (Int × Int × Int)) : Option (Int × Int × Int) :=
  (if (prB p) = true then lo0 0 else none)
def Fo_i_perpendicular (fu : Nat) (p : Int) (colour : Int) (l : Int × Int × Int) (a : Int × Int) : Option (Int × Int × Int) := G_i_perpendicular p colour l a (L_i_perpendicular_0 fu p colour l a (fu + 100))
theorem eqg_i_perpendicular (fu : Nat) (p : Int) (colour : Int) (l : Int × Int × Int) (a : Int × Int) : execT Tryz.prog S_i_perpendicular 149 27 (fun _ => fu + 100) dec_a3 [.v (.int .i64 p), .v (.int .i64 colour), .v (.agg ⟨[.int .i64 l.1, .int .i64 l.2.1, .int .i64 l.2.2]⟩), .v (.agg ⟨[.int .i64 a.1, .int .i64 a.2]⟩)] = G_i_perpendicular p colour l a (L_i_perpendicular_0 fu p colour l a (fu + 100)) := by
  have h1 : execT Tryz.prog S_i_perpendicular 149 27 (fun _ => fu + 100) dec_a3 [.v (.int .i64 p), .v (.int .i64 colour), .v (.agg ⟨[.int .i64 l.1, .int .i64 l.2.1, .int .i64 l.2.2]⟩), .v (.agg ⟨[.int .i64 a.1, .int .i64 a.2]⟩)] = G_i_perpendicular p colour l a (X_i_perpendicular_0 Tryz.prog fu p colour l a (fu + 100)) := by kernel_rfl
  have c0 : X_i_perpendicular_0 Tryz.prog fu p colour l a (fu + 100) = L_i_perpendicular_0 fu p colour l a (fu + 100) := by funext t15; exact loop_i_perpendicular_0 fu p colour l a (fu + 100) t15
  rw [h1, c0]
theorem eq_i_perpendicular (fu : Nat) (p : Int) (colour : Int) (l : Int × Int × Int) (a : Int × Int) : execT Tryz.prog S_i_perpendicular 149 27 (fun _ => fu + 100) dec_a3 [.v (.int .i64 p), .v (.int .i64 colour), .v (.agg ⟨[.int .i64 l.1, .int .i64 l.2.1, .int .i64 l.2.2]⟩), .v (.agg ⟨[.int .i64 a.1, .int .i64 a.2]⟩)] = Fo_i_perpendicular fu p colour l a := eqg_i_perpendicular fu p colour l a
def i_perpendicular (p colour : Int) (l : P3) (a : P2) : P3 := (((linesT p a).findSome? fun zz => if i_arePerpendicular p colour l zz = true then some zz else none)).getD (0, 0, 0)
theorem lo0_i_perpendicular (p colour : Int) (l : P3) (a : P2) (hp : prB p = true) {F : Nat} (hF : 993 < F) : L_i_perpendicular_0 1000000 p colour l a F 0 = some ((((linesT p a).findSome? fun zz => if i_arePerpendicular p colour l zz = true then some (zz) else none)).getD (0, 0, 0)) := by
  have hlen : (linesT p a).length ≤ 993 := linesT_len hp a
  have h := seek (L := fun f i => L_i_perpendicular_0 1000000 p colour l a f i) (n := (linesT p a).length) (F := F) (q := fun k => if i_arePerpendicular p colour l (R3 (flat3 (linesT p a)) k) = true then some ((R3 (flat3 (linesT p a)) k)) else none) (e := (0, 0, 0)) (by omega)
    (fun f k hk => by
      show B_i_perpendicular_0 p colour l a (L_i_perpendicular_0 1000000 p colour l a f) (k : Int) = _
      unfold B_i_perpendicular_0
      have e0 : decide (0 ≤ (k : Int)) = true := by simp
      have e1 := cnd hk
      have e3 : (k : Int).toNat = k := Int.toNat_natCast k
      have e4 := row3_ok (flat3_len _) hk
      rw [show i_linesThrough p a = ((linesT p a).length, flat3 (linesT p a)) from rfl]
      simp only [e0, e1, e3, e4, hp, Bool.and_true, Bool.true_and, if_true, wrap_add1 hk (by omega)]
      have hr : ((flat3 (linesT p a)).getD (k * 3 + 0) 0, (flat3 (linesT p a)).getD (k * 3 + 1) 0, (flat3 (linesT p a)).getD (k * 3 + 2) 0) = R3 (flat3 (linesT p a)) k := rfl
      try simp only [hr]
      generalize (i_arePerpendicular p colour l (R3 (flat3 (linesT p a)) k)) = c0
      cases c0 <;> rfl)
    (fun f => by
      show B_i_perpendicular_0 p colour l a (L_i_perpendicular_0 1000000 p colour l a f) (((linesT p a).length : Nat) : Int) = _
      unfold B_i_perpendicular_0
      rw [show i_linesThrough p a = ((linesT p a).length, flat3 (linesT p a)) from rfl]
      rw [if_neg (by simp)])
  have h2 := find_row (linesT p a) (0, 0, 0) (fun zz => if i_arePerpendicular p colour l zz = true then some (zz) else none)
  rw [← h2]
  simp only [← R3_flat]
  exact h

theorem tot_i_perpendicular (p : Int) (colour : Int) (l : Int × Int × Int) (a : Int × Int) (hp : (prB p) = true) : Fo_i_perpendicular 1000000 p colour l a = some (i_perpendicular p colour l a) := by
  unfold Fo_i_perpendicular G_i_perpendicular
  rw [if_pos hp]
  exact lo0_i_perpendicular p colour l a hp (by omega)
def run_i_perpendicular : List PV → Option (Bool × List TR)
  | [.v (.int .i64 p), .v (.int .i64 colour), .v (.agg ⟨[.int .i64 l0, .int .i64 l1, .int .i64 l2]⟩), .v (.agg ⟨[.int .i64 a0, .int .i64 a1]⟩)] => some (prB p, enc_a3 (i_perpendicular p colour (l0, l1, l2) (a0, a1)))
  | _ => none
theorem sound_i_perpendicular : Sound Tryz.prog 149 run_i_perpendicular := by
  refine sound_of de_a3 SO_i_perpendicular (by kernel_rfl) Tryz.func149 Tryz.ntmps149 rfl (by kernel_rfl) ?_
  intro W pvs avs rs hargs hrun
  unfold run_i_perpendicular at hrun
  split at hrun
  · simp only [Option.some.injEq, Prod.mk.injEq] at hrun
    obtain ⟨hp, rfl⟩ := hrun
    rename_i p colour l0 l1 l2 a0 a1
    exact ⟨_, _, _, hargs, rfl, (eq_i_perpendicular _ p colour (l0, l1, l2) (a0, a1)).trans (tot_i_perpendicular p colour (l0, l1, l2) (a0, a1) hp)⟩
  · cases hrun

def S_i_meet : Sums := ⟨tblS [(57, run_i_rest), (161, run_i_divide)], tblM []⟩
theorem SO_i_meet : SumsOK Tryz.prog S_i_meet := ⟨tblS_ok ⟨⟨Tryz.call57, sound_i_rest⟩, ⟨Tryz.call161, sound_i_divide⟩, True.intro⟩, tblM_ok True.intro⟩
def Fo_i_meet (p : Int) (l : Int × Int × Int) (m : Int × Int × Int) : Option (Int × Int) :=
  (if (prB p) = true then (if (prB p) = true then (if (prB p) = true then (if (prB p) = true then (if (prB p) = true then some ((i_divide p (i_rest p (wI ((wI (l.2.1 * m.2.2)) - (wI (l.2.2 * m.2.1))))) (i_rest p (wI ((wI (l.1 * m.2.1)) - (wI (l.2.1 * m.1)))))), (i_divide p (i_rest p (wI ((wI (l.2.2 * m.1)) - (wI (l.1 * m.2.2))))) (i_rest p (wI ((wI (l.1 * m.2.1)) - (wI (l.2.1 * m.1))))))) else none) else none) else none) else none) else none)
theorem eq_i_meet (p : Int) (l : Int × Int × Int) (m : Int × Int × Int) : execT Tryz.prog S_i_meet 148 54 (fun _ => 1000000) dec_a2 [.v (.int .i64 p), .v (.agg ⟨[.int .i64 l.1, .int .i64 l.2.1, .int .i64 l.2.2]⟩), .v (.agg ⟨[.int .i64 m.1, .int .i64 m.2.1, .int .i64 m.2.2]⟩)] = Fo_i_meet p l m := by
  kernel_rfl
def i_meet (p : Int) (l : Int × Int × Int) (m : Int × Int × Int) : Int × Int :=
  ((i_divide p (i_rest p (wrap64 ((wrap64 (l.2.1 * m.2.2)) - (wrap64 (l.2.2 * m.2.1))))) (i_rest p (wrap64 ((wrap64 (l.1 * m.2.1)) - (wrap64 (l.2.1 * m.1)))))), (i_divide p (i_rest p (wrap64 ((wrap64 (l.2.2 * m.1)) - (wrap64 (l.1 * m.2.2))))) (i_rest p (wrap64 ((wrap64 (l.1 * m.2.1)) - (wrap64 (l.2.1 * m.1)))))))
theorem tot_i_meet (p : Int) (l : Int × Int × Int) (m : Int × Int × Int) (hp : (prB p) = true) : Fo_i_meet p l m = some (i_meet p l m) := by
  try have h0 := prB_ne hp
  unfold Fo_i_meet i_meet
  (try simp only [wI_eq])
  repeat' (first | with_reducible rfl | with_reducible refine chk_opt hp ?_ | with_reducible refine chk_opt h0 ?_ | refine chk_opt (and_all hp fun _ => hp) ?_ | refine chk_opt (and_all hp fun _ => rfl) ?_ | refine ite_opt (fun _ => ?_) (fun _ => ?_) | rfl)
def run_i_meet : List PV → Option (Bool × List TR)
  | [.v (.int .i64 p), .v (.agg ⟨[.int .i64 l0, .int .i64 l1, .int .i64 l2]⟩), .v (.agg ⟨[.int .i64 m0, .int .i64 m1, .int .i64 m2]⟩)] => some (prB p, enc_a2 (i_meet p (l0, l1, l2) (m0, m1, m2)))
  | _ => none
theorem sound_i_meet : Sound Tryz.prog 148 run_i_meet := by
  refine sound_of de_a2 SO_i_meet (by kernel_rfl) Tryz.func148 Tryz.ntmps148 rfl (by kernel_rfl) ?_
  intro W pvs avs rs hargs hrun
  unfold run_i_meet at hrun
  split at hrun
  · simp only [Option.some.injEq, Prod.mk.injEq] at hrun
    obtain ⟨hp, rfl⟩ := hrun
    rename_i p l0 l1 l2 m0 m1 m2
    exact ⟨_, _, _, hargs, rfl, (eq_i_meet p (l0, l1, l2) (m0, m1, m2)).trans (tot_i_meet p (l0, l1, l2) (m0, m1, m2) hp)⟩
  · cases hrun

def S_i_foot : Sums := ⟨tblS [(149, run_i_perpendicular), (148, run_i_meet)], tblM []⟩
theorem SO_i_foot : SumsOK Tryz.prog S_i_foot := ⟨tblS_ok ⟨⟨Tryz.call149, sound_i_perpendicular⟩, ⟨Tryz.call148, sound_i_meet⟩, True.intro⟩, tblM_ok True.intro⟩
def Fo_i_foot (p : Int) (colour : Int) (a : Int × Int) (l : Int × Int × Int) : Option (Int × Int) :=
  (if (prB p) = true then (if (prB p) = true then some (i_meet p l (i_perpendicular p colour l a)) else none) else none)
theorem eq_i_foot (p : Int) (colour : Int) (a : Int × Int) (l : Int × Int × Int) : execT Tryz.prog S_i_foot 107 17 (fun _ => 1000000) dec_a2 [.v (.int .i64 p), .v (.int .i64 colour), .v (.agg ⟨[.int .i64 a.1, .int .i64 a.2]⟩), .v (.agg ⟨[.int .i64 l.1, .int .i64 l.2.1, .int .i64 l.2.2]⟩)] = Fo_i_foot p colour a l := by
  kernel_rfl
def i_foot (p : Int) (colour : Int) (a : Int × Int) (l : Int × Int × Int) : Int × Int :=
  (i_meet p l (i_perpendicular p colour l a))
theorem tot_i_foot (p : Int) (colour : Int) (a : Int × Int) (l : Int × Int × Int) (hp : (prB p) = true) : Fo_i_foot p colour a l = some (i_foot p colour a l) := by
  try have h0 := prB_ne hp
  unfold Fo_i_foot i_foot
  (try simp only [wI_eq])
  repeat' (first | with_reducible rfl | with_reducible refine chk_opt hp ?_ | with_reducible refine chk_opt h0 ?_ | refine chk_opt (and_all hp fun _ => hp) ?_ | refine chk_opt (and_all hp fun _ => rfl) ?_ | refine ite_opt (fun _ => ?_) (fun _ => ?_) | rfl)
def run_i_foot : List PV → Option (Bool × List TR)
  | [.v (.int .i64 p), .v (.int .i64 colour), .v (.agg ⟨[.int .i64 a0, .int .i64 a1]⟩), .v (.agg ⟨[.int .i64 l0, .int .i64 l1, .int .i64 l2]⟩)] => some (prB p, enc_a2 (i_foot p colour (a0, a1) (l0, l1, l2)))
  | _ => none
theorem sound_i_foot : Sound Tryz.prog 107 run_i_foot := by
  refine sound_of de_a2 SO_i_foot (by kernel_rfl) Tryz.func107 Tryz.ntmps107 rfl (by kernel_rfl) ?_
  intro W pvs avs rs hargs hrun
  unfold run_i_foot at hrun
  split at hrun
  · simp only [Option.some.injEq, Prod.mk.injEq] at hrun
    obtain ⟨hp, rfl⟩ := hrun
    rename_i p colour a0 a1 l0 l1 l2
    exact ⟨_, _, _, hargs, rfl, (eq_i_foot p colour (a0, a1) (l0, l1, l2)).trans (tot_i_foot p colour (a0, a1) (l0, l1, l2) hp)⟩
  · cases hrun

def S_i_isColour : Sums := ⟨tblS [], tblM []⟩
theorem SO_i_isColour : SumsOK Tryz.prog S_i_isColour := ⟨tblS_ok True.intro, tblM_ok True.intro⟩
def Fo_i_isColour (colour : Int) : Option (Bool) :=
  (if (decide (colour ≥ 0)) = true then some (decide (colour ≤ 2)) else some false)
theorem eq_i_isColour (colour : Int) : execT Tryz.prog S_i_isColour 63 9 (fun _ => 1000000) dec_b [.v (.int .i64 colour)] = Fo_i_isColour colour := by
  kernel_rfl
def i_isColour (colour : Int) : Bool :=
  (if (decide (colour ≥ 0)) = true then decide (colour ≤ 2) else false)
theorem tot_i_isColour (colour : Int) : Fo_i_isColour colour = some (i_isColour colour) := by
  unfold Fo_i_isColour i_isColour
  (try simp only [wI_eq])
  repeat' (first | with_reducible rfl | refine ite_opt (fun _ => ?_) (fun _ => ?_) | rfl)
def run_i_isColour : List PV → Option (Bool × List TR)
  | [.v (.int .i64 colour)] => some (true, enc_b (i_isColour colour))
  | _ => none
theorem sound_i_isColour : Sound Tryz.prog 63 run_i_isColour := by
  refine sound_of de_b SO_i_isColour (by kernel_rfl) Tryz.func63 Tryz.ntmps63 rfl (by kernel_rfl) ?_
  intro W pvs avs rs hargs hrun
  unfold run_i_isColour at hrun
  split at hrun
  · simp only [Option.some.injEq, Prod.mk.injEq] at hrun
    obtain ⟨hp, rfl⟩ := hrun
    rename_i colour
    exact ⟨_, _, _, hargs, rfl, (eq_i_isColour colour).trans (tot_i_isColour colour)⟩
  · cases hrun

def S_i_isLine : Sums := ⟨tblS [(136, run_i_areNumbers)], tblM []⟩
theorem SO_i_isLine : SumsOK Tryz.prog S_i_isLine := ⟨tblS_ok ⟨⟨Tryz.call136, sound_i_areNumbers⟩, True.intro⟩, tblM_ok True.intro⟩
def Fo_i_isLine (p : Int) (l : Int × Int × Int) : Option (Bool) :=
  (if (!(i_areNumbers p [l.1, l.2.1, l.2.2])) = true then some false else (if (l.1 == 1) = true then some true else (if (l.1 == 0) = true then some (l.2.1 == 1) else some false)))
theorem eq_i_isLine (p : Int) (l : Int × Int × Int) : execT Tryz.prog S_i_isLine 77 22 (fun _ => 1000000) dec_b [.v (.int .i64 p), .v (.agg ⟨[.int .i64 l.1, .int .i64 l.2.1, .int .i64 l.2.2]⟩)] = Fo_i_isLine p l := by
  kernel_rfl
def i_isLine (p : Int) (l : Int × Int × Int) : Bool :=
  (if (!(i_areNumbers p [l.1, l.2.1, l.2.2])) = true then false else (if (l.1 == 1) = true then true else (if (l.1 == 0) = true then l.2.1 == 1 else false)))
theorem tot_i_isLine (p : Int) (l : Int × Int × Int) : Fo_i_isLine p l = some (i_isLine p l) := by
  unfold Fo_i_isLine i_isLine
  (try simp only [wI_eq])
  repeat' (first | with_reducible rfl | refine ite_opt (fun _ => ?_) (fun _ => ?_) | rfl)
def run_i_isLine : List PV → Option (Bool × List TR)
  | [.v (.int .i64 p), .v (.agg ⟨[.int .i64 l0, .int .i64 l1, .int .i64 l2]⟩)] => some (true, enc_b (i_isLine p (l0, l1, l2)))
  | _ => none
theorem sound_i_isLine : Sound Tryz.prog 77 run_i_isLine := by
  refine sound_of de_b SO_i_isLine (by kernel_rfl) Tryz.func77 Tryz.ntmps77 rfl (by kernel_rfl) ?_
  intro W pvs avs rs hargs hrun
  unfold run_i_isLine at hrun
  split at hrun
  · simp only [Option.some.injEq, Prod.mk.injEq] at hrun
    obtain ⟨hp, rfl⟩ := hrun
    rename_i p l0 l1 l2
    exact ⟨_, _, _, hargs, rfl, (eq_i_isLine p (l0, l1, l2)).trans (tot_i_isLine p (l0, l1, l2))⟩
  · cases hrun

def S_i_isMap : Sums := ⟨tblS [(136, run_i_areNumbers), (69, run_i_isPoint)], tblM []⟩
theorem SO_i_isMap : SumsOK Tryz.prog S_i_isMap := ⟨tblS_ok ⟨⟨Tryz.call136, sound_i_areNumbers⟩, ⟨Tryz.call69, sound_i_isPoint⟩, True.intro⟩, tblM_ok True.intro⟩
def Fo_i_isMap (p : Int) (m : Int × Int × Int × Int × Int × Int) : Option (Bool) :=
  (if (i_areNumbers p [m.1, m.2.1, m.2.2.1, m.2.2.2.1]) = true then some (i_isPoint p m.2.2.2.2) else some false)
theorem eq_i_isMap (p : Int) (m : Int × Int × Int × Int × Int × Int) : execT Tryz.prog S_i_isMap 64 15 (fun _ => 1000000) dec_b [.v (.int .i64 p), .v (.agg ⟨[.int .i64 m.1, .int .i64 m.2.1, .int .i64 m.2.2.1, .int .i64 m.2.2.2.1, .int .i64 m.2.2.2.2.1, .int .i64 m.2.2.2.2.2]⟩)] = Fo_i_isMap p m := by
  kernel_rfl
def i_isMap (p : Int) (m : Int × Int × Int × Int × Int × Int) : Bool :=
  (if (i_areNumbers p [m.1, m.2.1, m.2.2.1, m.2.2.2.1]) = true then (i_isPoint p m.2.2.2.2) else false)
theorem tot_i_isMap (p : Int) (m : Int × Int × Int × Int × Int × Int) : Fo_i_isMap p m = some (i_isMap p m) := by
  unfold Fo_i_isMap i_isMap
  (try simp only [wI_eq])
  repeat' (first | with_reducible rfl | refine ite_opt (fun _ => ?_) (fun _ => ?_) | rfl)
def run_i_isMap : List PV → Option (Bool × List TR)
  | [.v (.int .i64 p), .v (.agg ⟨[.int .i64 m0, .int .i64 m1, .int .i64 m2, .int .i64 m3, .int .i64 m4, .int .i64 m5]⟩)] => some (true, enc_b (i_isMap p (m0, m1, m2, m3, m4, m5)))
  | _ => none
theorem sound_i_isMap : Sound Tryz.prog 64 run_i_isMap := by
  refine sound_of de_b SO_i_isMap (by kernel_rfl) Tryz.func64 Tryz.ntmps64 rfl (by kernel_rfl) ?_
  intro W pvs avs rs hargs hrun
  unfold run_i_isMap at hrun
  split at hrun
  · simp only [Option.some.injEq, Prod.mk.injEq] at hrun
    obtain ⟨hp, rfl⟩ := hrun
    rename_i p m0 m1 m2 m3 m4 m5
    exact ⟨_, _, _, hargs, rfl, (eq_i_isMap p (m0, m1, m2, m3, m4, m5)).trans (tot_i_isMap p (m0, m1, m2, m3, m4, m5))⟩
  · cases hrun

def S_i_isNull : Sums := ⟨tblS [(147, run_i_arePerpendicular)], tblM []⟩
theorem SO_i_isNull : SumsOK Tryz.prog S_i_isNull := ⟨tblS_ok ⟨⟨Tryz.call147, sound_i_arePerpendicular⟩, True.intro⟩, tblM_ok True.intro⟩
def Fo_i_isNull (p : Int) (colour : Int) (l : Int × Int × Int) : Option (Bool) :=
  (if (prB p) = true then some (i_arePerpendicular p colour l l) else none)
theorem eq_i_isNull (p : Int) (colour : Int) (l : Int × Int × Int) : execT Tryz.prog S_i_isNull 103 12 (fun _ => 1000000) dec_b [.v (.int .i64 p), .v (.int .i64 colour), .v (.agg ⟨[.int .i64 l.1, .int .i64 l.2.1, .int .i64 l.2.2]⟩)] = Fo_i_isNull p colour l := by
  kernel_rfl
def i_isNull (p : Int) (colour : Int) (l : Int × Int × Int) : Bool :=
  (i_arePerpendicular p colour l l)
theorem tot_i_isNull (p : Int) (colour : Int) (l : Int × Int × Int) (hp : (prB p) = true) : Fo_i_isNull p colour l = some (i_isNull p colour l) := by
  try have h0 := prB_ne hp
  unfold Fo_i_isNull i_isNull
  (try simp only [wI_eq])
  repeat' (first | with_reducible rfl | with_reducible refine chk_opt hp ?_ | with_reducible refine chk_opt h0 ?_ | refine chk_opt (and_all hp fun _ => hp) ?_ | refine chk_opt (and_all hp fun _ => rfl) ?_ | refine ite_opt (fun _ => ?_) (fun _ => ?_) | rfl)
def run_i_isNull : List PV → Option (Bool × List TR)
  | [.v (.int .i64 p), .v (.int .i64 colour), .v (.agg ⟨[.int .i64 l0, .int .i64 l1, .int .i64 l2]⟩)] => some (prB p, enc_b (i_isNull p colour (l0, l1, l2)))
  | _ => none
theorem sound_i_isNull : Sound Tryz.prog 103 run_i_isNull := by
  refine sound_of de_b SO_i_isNull (by kernel_rfl) Tryz.func103 Tryz.ntmps103 rfl (by kernel_rfl) ?_
  intro W pvs avs rs hargs hrun
  unfold run_i_isNull at hrun
  split at hrun
  · simp only [Option.some.injEq, Prod.mk.injEq] at hrun
    obtain ⟨hp, rfl⟩ := hrun
    rename_i p colour l0 l1 l2
    exact ⟨_, _, _, hargs, rfl, (eq_i_isNull p colour (l0, l1, l2)).trans (tot_i_isNull p colour (l0, l1, l2) hp)⟩
  · cases hrun

def S_i_isOn : Sums := ⟨tblS [], tblM []⟩
theorem SO_i_isOn : SumsOK Tryz.prog S_i_isOn := ⟨tblS_ok True.intro, tblM_ok True.intro⟩
def Fo_i_isOn (p : Int) (a : Int × Int) (l : Int × Int × Int) : Option (Bool) :=
  (if (!(p == 0)) = true then some (((wI ((wI ((wI (l.1 * a.1)) + (wI (l.2.1 * a.2)))) + l.2.2)).tmod p) == 0) else none)
theorem eq_i_isOn (p : Int) (a : Int × Int) (l : Int × Int × Int) : execT Tryz.prog S_i_isOn 114 24 (fun _ => 1000000) dec_b [.v (.int .i64 p), .v (.agg ⟨[.int .i64 a.1, .int .i64 a.2]⟩), .v (.agg ⟨[.int .i64 l.1, .int .i64 l.2.1, .int .i64 l.2.2]⟩)] = Fo_i_isOn p a l := by
  kernel_rfl
def i_isOn (p : Int) (a : Int × Int) (l : Int × Int × Int) : Bool :=
  ((wrap64 ((wrap64 ((wrap64 (l.1 * a.1)) + (wrap64 (l.2.1 * a.2)))) + l.2.2)).tmod p) == 0
theorem tot_i_isOn (p : Int) (a : Int × Int) (l : Int × Int × Int) (hp : (prB p) = true) : Fo_i_isOn p a l = some (i_isOn p a l) := by
  try have h0 := prB_ne hp
  unfold Fo_i_isOn i_isOn
  (try simp only [wI_eq])
  repeat' (first | with_reducible rfl | with_reducible refine chk_opt hp ?_ | with_reducible refine chk_opt h0 ?_ | refine chk_opt (and_all hp fun _ => hp) ?_ | refine chk_opt (and_all hp fun _ => rfl) ?_ | refine ite_opt (fun _ => ?_) (fun _ => ?_) | rfl)
def run_i_isOn : List PV → Option (Bool × List TR)
  | [.v (.int .i64 p), .v (.agg ⟨[.int .i64 a0, .int .i64 a1]⟩), .v (.agg ⟨[.int .i64 l0, .int .i64 l1, .int .i64 l2]⟩)] => some (prB p, enc_b (i_isOn p (a0, a1) (l0, l1, l2)))
  | _ => none
theorem sound_i_isOn : Sound Tryz.prog 114 run_i_isOn := by
  refine sound_of de_b SO_i_isOn (by kernel_rfl) Tryz.func114 Tryz.ntmps114 rfl (by kernel_rfl) ?_
  intro W pvs avs rs hargs hrun
  unfold run_i_isOn at hrun
  split at hrun
  · simp only [Option.some.injEq, Prod.mk.injEq] at hrun
    obtain ⟨hp, rfl⟩ := hrun
    rename_i p a0 a1 l0 l1 l2
    exact ⟨_, _, _, hargs, rfl, (eq_i_isOn p (a0, a1) (l0, l1, l2)).trans (tot_i_isOn p (a0, a1) (l0, l1, l2) hp)⟩
  · cases hrun

def S_i_turned : Sums := ⟨tblS [(57, run_i_rest)], tblM []⟩
theorem SO_i_turned : SumsOK Tryz.prog S_i_turned := ⟨tblS_ok ⟨⟨Tryz.call57, sound_i_rest⟩, True.intro⟩, tblM_ok True.intro⟩
def Fo_i_turned (p : Int) (m : Int × Int × Int × Int) (a : Int × Int) : Option (Int × Int) :=
  (if (prB p) = true then (if (prB p) = true then some ((i_rest p (wI ((wI (m.1 * a.1)) + (wI (m.2.1 * a.2))))), (i_rest p (wI ((wI (m.2.2.1 * a.1)) + (wI (m.2.2.2 * a.2)))))) else none) else none)
theorem eq_i_turned (p : Int) (m : Int × Int × Int × Int) (a : Int × Int) : execT Tryz.prog S_i_turned 59 34 (fun _ => 1000000) dec_a2 [.v (.int .i64 p), .v (.agg ⟨[.int .i64 m.1, .int .i64 m.2.1, .int .i64 m.2.2.1, .int .i64 m.2.2.2]⟩), .v (.agg ⟨[.int .i64 a.1, .int .i64 a.2]⟩)] = Fo_i_turned p m a := by
  kernel_rfl
def i_turned (p : Int) (m : Int × Int × Int × Int) (a : Int × Int) : Int × Int :=
  ((i_rest p (wrap64 ((wrap64 (m.1 * a.1)) + (wrap64 (m.2.1 * a.2))))), (i_rest p (wrap64 ((wrap64 (m.2.2.1 * a.1)) + (wrap64 (m.2.2.2 * a.2))))))
theorem tot_i_turned (p : Int) (m : Int × Int × Int × Int) (a : Int × Int) (hp : (prB p) = true) : Fo_i_turned p m a = some (i_turned p m a) := by
  try have h0 := prB_ne hp
  unfold Fo_i_turned i_turned
  (try simp only [wI_eq])
  repeat' (first | with_reducible rfl | with_reducible refine chk_opt hp ?_ | with_reducible refine chk_opt h0 ?_ | refine chk_opt (and_all hp fun _ => hp) ?_ | refine chk_opt (and_all hp fun _ => rfl) ?_ | refine ite_opt (fun _ => ?_) (fun _ => ?_) | rfl)
def run_i_turned : List PV → Option (Bool × List TR)
  | [.v (.int .i64 p), .v (.agg ⟨[.int .i64 m0, .int .i64 m1, .int .i64 m2, .int .i64 m3]⟩), .v (.agg ⟨[.int .i64 a0, .int .i64 a1]⟩)] => some (prB p, enc_a2 (i_turned p (m0, m1, m2, m3) (a0, a1)))
  | _ => none
theorem sound_i_turned : Sound Tryz.prog 59 run_i_turned := by
  refine sound_of de_a2 SO_i_turned (by kernel_rfl) Tryz.func59 Tryz.ntmps59 rfl (by kernel_rfl) ?_
  intro W pvs avs rs hargs hrun
  unfold run_i_turned at hrun
  split at hrun
  · simp only [Option.some.injEq, Prod.mk.injEq] at hrun
    obtain ⟨hp, rfl⟩ := hrun
    rename_i p m0 m1 m2 m3 a0 a1
    exact ⟨_, _, _, hargs, rfl, (eq_i_turned p (m0, m1, m2, m3) (a0, a1)).trans (tot_i_turned p (m0, m1, m2, m3) (a0, a1) hp)⟩
  · cases hrun

def S_i_keeps : Sums := ⟨tblS [(59, run_i_turned), (137, run_i_product)], tblM []⟩
theorem SO_i_keeps : SumsOK Tryz.prog S_i_keeps := ⟨tblS_ok ⟨⟨Tryz.call59, sound_i_turned⟩, ⟨Tryz.call137, sound_i_product⟩, True.intro⟩, tblM_ok True.intro⟩
def Fo_i_keeps (p : Int) (colour : Int) (m : Int × Int × Int × Int) : Option (Bool) :=
  (if (prB p) = true then (if (prB p) = true then (if (prB p) = true then (if ((i_product p colour (1, 0) (1, 0)) != (i_product p colour (i_turned p m (1, 0)) (i_turned p m (1, 0)))) = true then some false else (if (prB p) = true then (if (prB p) = true then (if (prB p) = true then (if ((i_product p colour (0, 1) (0, 1)) != (i_product p colour (i_turned p m (0, 1)) (i_turned p m (0, 1)))) = true then some false else (if (prB p) = true then (if (prB p) = true then (if (prB p) = true then (if ((i_product p colour (1, 1) (1, 1)) != (i_product p colour (i_turned p m (1, 1)) (i_turned p m (1, 1)))) = true then some false else some true) else none) else none) else none)) else none) else none) else none)) else none) else none) else none)
theorem eq_i_keeps (p : Int) (colour : Int) (m : Int × Int × Int × Int) : execT Tryz.prog S_i_keeps 65 35 (fun _ => 1000000) dec_b [.v (.int .i64 p), .v (.int .i64 colour), .v (.agg ⟨[.int .i64 m.1, .int .i64 m.2.1, .int .i64 m.2.2.1, .int .i64 m.2.2.2]⟩)] = Fo_i_keeps p colour m := by
  kernel_rfl
def i_keeps (p : Int) (colour : Int) (m : Int × Int × Int × Int) : Bool :=
  (if ((i_product p colour (1, 0) (1, 0)) != (i_product p colour (i_turned p m (1, 0)) (i_turned p m (1, 0)))) = true then false else (if ((i_product p colour (0, 1) (0, 1)) != (i_product p colour (i_turned p m (0, 1)) (i_turned p m (0, 1)))) = true then false else (if ((i_product p colour (1, 1) (1, 1)) != (i_product p colour (i_turned p m (1, 1)) (i_turned p m (1, 1)))) = true then false else true)))
theorem tot_i_keeps (p : Int) (colour : Int) (m : Int × Int × Int × Int) (hp : (prB p) = true) : Fo_i_keeps p colour m = some (i_keeps p colour m) := by
  try have h0 := prB_ne hp
  unfold Fo_i_keeps i_keeps
  (try simp only [wI_eq])
  repeat' (first | with_reducible rfl | with_reducible refine chk_opt hp ?_ | with_reducible refine chk_opt h0 ?_ | refine chk_opt (and_all hp fun _ => hp) ?_ | refine chk_opt (and_all hp fun _ => rfl) ?_ | refine ite_opt (fun _ => ?_) (fun _ => ?_) | rfl)
def run_i_keeps : List PV → Option (Bool × List TR)
  | [.v (.int .i64 p), .v (.int .i64 colour), .v (.agg ⟨[.int .i64 m0, .int .i64 m1, .int .i64 m2, .int .i64 m3]⟩)] => some (prB p, enc_b (i_keeps p colour (m0, m1, m2, m3)))
  | _ => none
theorem sound_i_keeps : Sound Tryz.prog 65 run_i_keeps := by
  refine sound_of de_b SO_i_keeps (by kernel_rfl) Tryz.func65 Tryz.ntmps65 rfl (by kernel_rfl) ?_
  intro W pvs avs rs hargs hrun
  unfold run_i_keeps at hrun
  split at hrun
  · simp only [Option.some.injEq, Prod.mk.injEq] at hrun
    obtain ⟨hp, rfl⟩ := hrun
    rename_i p colour m0 m1 m2 m3
    exact ⟨_, _, _, hargs, rfl, (eq_i_keeps p colour (m0, m1, m2, m3)).trans (tot_i_keeps p colour (m0, m1, m2, m3) hp)⟩
  · cases hrun

def S_i_less : Sums := ⟨tblS [(57, run_i_rest)], tblM []⟩
theorem SO_i_less : SumsOK Tryz.prog S_i_less := ⟨tblS_ok ⟨⟨Tryz.call57, sound_i_rest⟩, True.intro⟩, tblM_ok True.intro⟩
def Fo_i_less (p : Int) (a : Int × Int) (b : Int × Int) : Option (Int × Int) :=
  (if (prB p) = true then (if (prB p) = true then some ((i_rest p (wI (a.1 - b.1))), (i_rest p (wI (a.2 - b.2)))) else none) else none)
theorem eq_i_less (p : Int) (a : Int × Int) (b : Int × Int) : execT Tryz.prog S_i_less 58 22 (fun _ => 1000000) dec_a2 [.v (.int .i64 p), .v (.agg ⟨[.int .i64 a.1, .int .i64 a.2]⟩), .v (.agg ⟨[.int .i64 b.1, .int .i64 b.2]⟩)] = Fo_i_less p a b := by
  kernel_rfl
def i_less (p : Int) (a : Int × Int) (b : Int × Int) : Int × Int :=
  ((i_rest p (wrap64 (a.1 - b.1))), (i_rest p (wrap64 (a.2 - b.2))))
theorem tot_i_less (p : Int) (a : Int × Int) (b : Int × Int) (hp : (prB p) = true) : Fo_i_less p a b = some (i_less p a b) := by
  try have h0 := prB_ne hp
  unfold Fo_i_less i_less
  (try simp only [wI_eq])
  repeat' (first | with_reducible rfl | with_reducible refine chk_opt hp ?_ | with_reducible refine chk_opt h0 ?_ | refine chk_opt (and_all hp fun _ => hp) ?_ | refine chk_opt (and_all hp fun _ => rfl) ?_ | refine ite_opt (fun _ => ?_) (fun _ => ?_) | rfl)
def run_i_less : List PV → Option (Bool × List TR)
  | [.v (.int .i64 p), .v (.agg ⟨[.int .i64 a0, .int .i64 a1]⟩), .v (.agg ⟨[.int .i64 b0, .int .i64 b1]⟩)] => some (prB p, enc_a2 (i_less p (a0, a1) (b0, b1)))
  | _ => none
theorem sound_i_less : Sound Tryz.prog 58 run_i_less := by
  refine sound_of de_a2 SO_i_less (by kernel_rfl) Tryz.func58 Tryz.ntmps58 rfl (by kernel_rfl) ?_
  intro W pvs avs rs hargs hrun
  unfold run_i_less at hrun
  split at hrun
  · simp only [Option.some.injEq, Prod.mk.injEq] at hrun
    obtain ⟨hp, rfl⟩ := hrun
    rename_i p a0 a1 b0 b1
    exact ⟨_, _, _, hargs, rfl, (eq_i_less p (a0, a1) (b0, b1)).trans (tot_i_less p (a0, a1) (b0, b1) hp)⟩
  · cases hrun

def S_i_moveAsked_c1 : Sums := ⟨tblS [(63, run_i_isColour), (64, run_i_isMap)], tblM []⟩
theorem SO_i_moveAsked_c1 : SumsOK Tryz.prog S_i_moveAsked_c1 := ⟨tblS_ok ⟨⟨Tryz.call63, sound_i_isColour⟩, ⟨Tryz.call64, sound_i_isMap⟩, True.intro⟩, tblM_ok True.intro⟩
def Fo_i_moveAsked_c1 (c0 : Int) (c1 : Int) (c2 : Int × Int × Int × Int × Int × Int) (c3k : Bool) (c3h : Bool) : Option (Bool) :=
  (if (i_isColour c0) = true then (if (i_isMap c1 c2) = true then (if (c3k) = true then some c3h else none) else some false) else some false)
theorem eq_i_moveAsked_c1 (c0 : Int) (c1 : Int) (c2 : Int × Int × Int × Int × Int × Int) (c3k : Bool) (c3h : Bool) : execT Tryz.prog S_i_moveAsked_c1 131 16 (fun _ => 1000000) dec_b [.p [.int .i64 c0], .p [.int .i64 c1], .p [.int .i64 c2.1, .int .i64 c2.2.1, .int .i64 c2.2.2.1, .int .i64 c2.2.2.2.1, .int .i64 c2.2.2.2.2.1, .int .i64 c2.2.2.2.2.2], .pf (clo__b c3k c3h)] = Fo_i_moveAsked_c1 c0 c1 c2 c3k c3h := by
  kernel_rfl
def i_moveAsked_c1 (c0 : Int) (c1 : Int) (c2 : Int × Int × Int × Int × Int × Int) (c3k : Bool) (c3h : Bool) : Bool :=
  (if (i_isColour c0) = true then (if (i_isMap c1 c2) = true then c3h else false) else false)
theorem tot_i_moveAsked_c1 (c0 : Int) (c1 : Int) (c2 : Int × Int × Int × Int × Int × Int) (c3k : Bool) (c3h : Bool) (hp : (c3k) = true) : Fo_i_moveAsked_c1 c0 c1 c2 c3k c3h = some (i_moveAsked_c1 c0 c1 c2 c3k c3h) := by
  try have h0 := prB_ne hp
  unfold Fo_i_moveAsked_c1 i_moveAsked_c1
  (try simp only [wI_eq])
  repeat' (first | with_reducible rfl | with_reducible refine chk_opt hp ?_ | with_reducible refine chk_opt h0 ?_ | refine chk_opt (and_all hp fun _ => hp) ?_ | refine chk_opt (and_all hp fun _ => rfl) ?_ | refine ite_opt (fun _ => ?_) (fun _ => ?_) | rfl)
def run_i_moveAsked_c1 : List PV → Option (Bool × List TR)
  | [.p [.int .i64 c0], .p [.int .i64 c1], .p [.int .i64 c20, .int .i64 c21, .int .i64 c22, .int .i64 c23, .int .i64 c24, .int .i64 c25], .pf c3g] => some ((okV (c3g [])), enc_b (i_moveAsked_c1 c0 c1 (c20, c21, c22, c23, c24, c25) (okV (c3g [])) (boolV (c3g []))))
  | _ => none
theorem sound_i_moveAsked_c1 : Sound Tryz.prog 131 run_i_moveAsked_c1 := by
  refine sound_of de_b SO_i_moveAsked_c1 (by kernel_rfl) Tryz.func131 Tryz.ntmps131 rfl (by kernel_rfl) ?_
  intro W pvs avs rs hargs hrun
  unfold run_i_moveAsked_c1 at hrun
  split at hrun
  · simp only [Option.some.injEq, Prod.mk.injEq] at hrun
    obtain ⟨hp, rfl⟩ := hrun
    rename_i c0 c1 c20 c21 c22 c23 c24 c25 c3g
    have hargs := All2.replace (l1 := [_, _, _]) hargs (y := .pf (clo__b _ _)) fun b hb => pf_weaken hb (clo__b_ok _)
    exact ⟨_, _, _, hargs, rfl, (eq_i_moveAsked_c1 c0 c1 (c20, c21, c22, c23, c24, c25) (okV (c3g [])) (boolV (c3g []))).trans (tot_i_moveAsked_c1 c0 c1 (c20, c21, c22, c23, c24, c25) (okV (c3g [])) (boolV (c3g [])) hp)⟩
  · cases hrun

def S_i_moveAsked : Sums := ⟨tblS [(61, run_i_asked), (131, run_i_moveAsked_c1), (65, run_i_keeps)], tblM []⟩
theorem SO_i_moveAsked : SumsOK Tryz.prog S_i_moveAsked := ⟨tblS_ok ⟨⟨Tryz.call61, sound_i_asked⟩, ⟨Tryz.call131, sound_i_moveAsked_c1⟩, ⟨Tryz.call65, sound_i_keeps⟩, True.intro⟩, tblM_ok True.intro⟩
def Fo_i_moveAsked (p : Int) (colour : Int) (m : Int × Int × Int × Int × Int × Int) (rightk : Bool) (righth : Bool) : Option (Int) :=
  (if ((rightk) || !(i_IsField p)) = true then (if ((i_asked p (rightk) (i_moveAsked_c1 colour p m rightk righth)) == 0) = true then (if (prB p) = true then (if (!(i_keeps p colour (m.1, m.2.1, m.2.2.1, m.2.2.2.1))) = true then some 5 else some (i_asked p (rightk) (i_moveAsked_c1 colour p m rightk righth))) else none) else some (i_asked p (rightk) (i_moveAsked_c1 colour p m rightk righth))) else none)
theorem eq_i_moveAsked (p : Int) (colour : Int) (m : Int × Int × Int × Int × Int × Int) (rightk : Bool) (righth : Bool) : execT Tryz.prog S_i_moveAsked 47 24 (fun _ => 1000000) dec_i [.v (.int .i64 p), .v (.int .i64 colour), .v (.agg ⟨[.int .i64 m.1, .int .i64 m.2.1, .int .i64 m.2.2.1, .int .i64 m.2.2.2.1, .int .i64 m.2.2.2.2.1, .int .i64 m.2.2.2.2.2]⟩), .f (clo__b rightk righth)] = Fo_i_moveAsked p colour m rightk righth := by
  kernel_rfl
def i_moveAsked (p : Int) (colour : Int) (m : Int × Int × Int × Int × Int × Int) (rightk : Bool) (righth : Bool) : Int :=
  (if ((i_asked p (rightk) (i_moveAsked_c1 colour p m rightk righth)) == 0) = true then (if (!(i_keeps p colour (m.1, m.2.1, m.2.2.1, m.2.2.2.1))) = true then 5 else (i_asked p (rightk) (i_moveAsked_c1 colour p m rightk righth))) else (i_asked p (rightk) (i_moveAsked_c1 colour p m rightk righth)))
theorem tot_i_moveAsked (p : Int) (colour : Int) (m : Int × Int × Int × Int × Int × Int) (rightk : Bool) (righth : Bool) (hp : (rightk) = true) : Fo_i_moveAsked p colour m rightk righth = some (i_moveAsked p colour m rightk righth) := by
  subst hp
  unfold Fo_i_moveAsked i_moveAsked
  (try simp only [wI_eq])
  repeat' (first | with_reducible rfl | refine chk_opt (by first | exact Bool.true_or _ | exact asked_prB0 ‹_›) ?_ | refine ite_opt (fun _ => ?_) (fun _ => ?_) | rfl)
def run_i_moveAsked : List PV → Option (Bool × List TR)
  | [.v (.int .i64 p), .v (.int .i64 colour), .v (.agg ⟨[.int .i64 m0, .int .i64 m1, .int .i64 m2, .int .i64 m3, .int .i64 m4, .int .i64 m5]⟩), .f rightg] => some ((okV (rightg [])), enc_i (i_moveAsked p colour (m0, m1, m2, m3, m4, m5) (okV (rightg [])) (boolV (rightg []))))
  | _ => none
theorem sound_i_moveAsked : Sound Tryz.prog 47 run_i_moveAsked := by
  refine sound_of de_i SO_i_moveAsked (by kernel_rfl) Tryz.func47 Tryz.ntmps47 rfl (by kernel_rfl) ?_
  intro W pvs avs rs hargs hrun
  unfold run_i_moveAsked at hrun
  split at hrun
  · simp only [Option.some.injEq, Prod.mk.injEq] at hrun
    obtain ⟨hp, rfl⟩ := hrun
    rename_i p colour m0 m1 m2 m3 m4 m5 rightg
    have hargs := All2.replace (l1 := [_, _, _]) hargs (y := .f (clo__b _ _)) fun b hb => fn_weaken hb (clo__b_ok _)
    exact ⟨_, _, _, hargs, rfl, (eq_i_moveAsked p colour (m0, m1, m2, m3, m4, m5) (okV (rightg [])) (boolV (rightg []))).trans (tot_i_moveAsked p colour (m0, m1, m2, m3, m4, m5) (okV (rightg [])) (boolV (rightg [])) hp)⟩
  · cases hrun

theorem moveAsked_zero {p c : Int} {m : P6} {k b : Bool} (h : i_moveAsked p c m k b = 0) : i_asked p k (i_moveAsked_c1 c p m k b) = 0 ∧ i_keeps p c (m.1, m.2.1, m.2.2.1, m.2.2.2.1) = true := by
  unfold i_moveAsked at h
  have e : ∀ q : Bool, i_asked p q (i_moveAsked_c1 c p m k b) = i_asked p k (i_moveAsked_c1 c p m k b) := fun q => rfl
  split at h
  · rename_i h0
    split at h
    · cases h
    · rename_i h1
      exact ⟨by simpa using h0, by simpa using h1⟩
  · rename_i h0
    exact absurd h (by simpa using h0)
theorem moveAsked_prB {p c : Int} {m : P6} {k b : Bool} (h : ¬ (i_moveAsked p c m k b != 0) = true) : prB p = true := asked_prB (by simpa using (moveAsked_zero (by simpa using h)).1)
theorem moveAsked_prB0 {p c : Int} {m : P6} {k b : Bool} (h : (i_moveAsked p c m k b == 0) = true) : prB p = true := moveAsked_prB (by simpa using h)
def S_i_sum : Sums := ⟨tblS [(57, run_i_rest)], tblM []⟩
theorem SO_i_sum : SumsOK Tryz.prog S_i_sum := ⟨tblS_ok ⟨⟨Tryz.call57, sound_i_rest⟩, True.intro⟩, tblM_ok True.intro⟩
def Fo_i_sum (p : Int) (a : Int × Int) (b : Int × Int) : Option (Int × Int) :=
  (if (prB p) = true then (if (prB p) = true then some ((i_rest p (wI (a.1 + b.1))), (i_rest p (wI (a.2 + b.2)))) else none) else none)
theorem eq_i_sum (p : Int) (a : Int × Int) (b : Int × Int) : execT Tryz.prog S_i_sum 138 22 (fun _ => 1000000) dec_a2 [.v (.int .i64 p), .v (.agg ⟨[.int .i64 a.1, .int .i64 a.2]⟩), .v (.agg ⟨[.int .i64 b.1, .int .i64 b.2]⟩)] = Fo_i_sum p a b := by
  kernel_rfl
def i_sum (p : Int) (a : Int × Int) (b : Int × Int) : Int × Int :=
  ((i_rest p (wrap64 (a.1 + b.1))), (i_rest p (wrap64 (a.2 + b.2))))
theorem tot_i_sum (p : Int) (a : Int × Int) (b : Int × Int) (hp : (prB p) = true) : Fo_i_sum p a b = some (i_sum p a b) := by
  try have h0 := prB_ne hp
  unfold Fo_i_sum i_sum
  (try simp only [wI_eq])
  repeat' (first | with_reducible rfl | with_reducible refine chk_opt hp ?_ | with_reducible refine chk_opt h0 ?_ | refine chk_opt (and_all hp fun _ => hp) ?_ | refine chk_opt (and_all hp fun _ => rfl) ?_ | refine ite_opt (fun _ => ?_) (fun _ => ?_) | rfl)
def run_i_sum : List PV → Option (Bool × List TR)
  | [.v (.int .i64 p), .v (.agg ⟨[.int .i64 a0, .int .i64 a1]⟩), .v (.agg ⟨[.int .i64 b0, .int .i64 b1]⟩)] => some (prB p, enc_a2 (i_sum p (a0, a1) (b0, b1)))
  | _ => none
theorem sound_i_sum : Sound Tryz.prog 138 run_i_sum := by
  refine sound_of de_a2 SO_i_sum (by kernel_rfl) Tryz.func138 Tryz.ntmps138 rfl (by kernel_rfl) ?_
  intro W pvs avs rs hargs hrun
  unfold run_i_sum at hrun
  split at hrun
  · simp only [Option.some.injEq, Prod.mk.injEq] at hrun
    obtain ⟨hp, rfl⟩ := hrun
    rename_i p a0 a1 b0 b1
    exact ⟨_, _, _, hargs, rfl, (eq_i_sum p (a0, a1) (b0, b1)).trans (tot_i_sum p (a0, a1) (b0, b1) hp)⟩
  · cases hrun

def S_i_moved : Sums := ⟨tblS [(59, run_i_turned), (138, run_i_sum)], tblM []⟩
theorem SO_i_moved : SumsOK Tryz.prog S_i_moved := ⟨tblS_ok ⟨⟨Tryz.call59, sound_i_turned⟩, ⟨Tryz.call138, sound_i_sum⟩, True.intro⟩, tblM_ok True.intro⟩
def Fo_i_moved (p : Int) (m : Int × Int × Int × Int × Int × Int) (a : Int × Int) : Option (Int × Int) :=
  (if (prB p) = true then (if (prB p) = true then some (i_sum p (i_turned p (m.1, m.2.1, m.2.2.1, m.2.2.2.1) a) m.2.2.2.2) else none) else none)
theorem eq_i_moved (p : Int) (m : Int × Int × Int × Int × Int × Int) (a : Int × Int) : execT Tryz.prog S_i_moved 70 16 (fun _ => 1000000) dec_a2 [.v (.int .i64 p), .v (.agg ⟨[.int .i64 m.1, .int .i64 m.2.1, .int .i64 m.2.2.1, .int .i64 m.2.2.2.1, .int .i64 m.2.2.2.2.1, .int .i64 m.2.2.2.2.2]⟩), .v (.agg ⟨[.int .i64 a.1, .int .i64 a.2]⟩)] = Fo_i_moved p m a := by
  kernel_rfl
def i_moved (p : Int) (m : Int × Int × Int × Int × Int × Int) (a : Int × Int) : Int × Int :=
  (i_sum p (i_turned p (m.1, m.2.1, m.2.2.1, m.2.2.2.1) a) m.2.2.2.2)
theorem tot_i_moved (p : Int) (m : Int × Int × Int × Int × Int × Int) (a : Int × Int) (hp : (prB p) = true) : Fo_i_moved p m a = some (i_moved p m a) := by
  try have h0 := prB_ne hp
  unfold Fo_i_moved i_moved
  (try simp only [wI_eq])
  repeat' (first | with_reducible rfl | with_reducible refine chk_opt hp ?_ | with_reducible refine chk_opt h0 ?_ | refine chk_opt (and_all hp fun _ => hp) ?_ | refine chk_opt (and_all hp fun _ => rfl) ?_ | refine ite_opt (fun _ => ?_) (fun _ => ?_) | rfl)
def run_i_moved : List PV → Option (Bool × List TR)
  | [.v (.int .i64 p), .v (.agg ⟨[.int .i64 m0, .int .i64 m1, .int .i64 m2, .int .i64 m3, .int .i64 m4, .int .i64 m5]⟩), .v (.agg ⟨[.int .i64 a0, .int .i64 a1]⟩)] => some (prB p, enc_a2 (i_moved p (m0, m1, m2, m3, m4, m5) (a0, a1)))
  | _ => none
theorem sound_i_moved : Sound Tryz.prog 70 run_i_moved := by
  refine sound_of de_a2 SO_i_moved (by kernel_rfl) Tryz.func70 Tryz.ntmps70 rfl (by kernel_rfl) ?_
  intro W pvs avs rs hargs hrun
  unfold run_i_moved at hrun
  split at hrun
  · simp only [Option.some.injEq, Prod.mk.injEq] at hrun
    obtain ⟨hp, rfl⟩ := hrun
    rename_i p m0 m1 m2 m3 m4 m5 a0 a1
    exact ⟨_, _, _, hargs, rfl, (eq_i_moved p (m0, m1, m2, m3, m4, m5) (a0, a1)).trans (tot_i_moved p (m0, m1, m2, m3, m4, m5) (a0, a1) hp)⟩
  · cases hrun

def S_i_quadrance : Sums := ⟨tblS [(58, run_i_less), (137, run_i_product)], tblM []⟩
theorem SO_i_quadrance : SumsOK Tryz.prog S_i_quadrance := ⟨tblS_ok ⟨⟨Tryz.call58, sound_i_less⟩, ⟨Tryz.call137, sound_i_product⟩, True.intro⟩, tblM_ok True.intro⟩
def Fo_i_quadrance (p : Int) (colour : Int) (a : Int × Int) (b : Int × Int) : Option (Int) :=
  (if (prB p) = true then (if (prB p) = true then some (i_product p colour (i_less p a b) (i_less p a b)) else none) else none)
theorem eq_i_quadrance (p : Int) (colour : Int) (a : Int × Int) (b : Int × Int) : execT Tryz.prog S_i_quadrance 73 19 (fun _ => 1000000) dec_i [.v (.int .i64 p), .v (.int .i64 colour), .v (.agg ⟨[.int .i64 a.1, .int .i64 a.2]⟩), .v (.agg ⟨[.int .i64 b.1, .int .i64 b.2]⟩)] = Fo_i_quadrance p colour a b := by
  kernel_rfl
def i_quadrance (p : Int) (colour : Int) (a : Int × Int) (b : Int × Int) : Int :=
  (i_product p colour (i_less p a b) (i_less p a b))
theorem tot_i_quadrance (p : Int) (colour : Int) (a : Int × Int) (b : Int × Int) (hp : (prB p) = true) : Fo_i_quadrance p colour a b = some (i_quadrance p colour a b) := by
  try have h0 := prB_ne hp
  unfold Fo_i_quadrance i_quadrance
  (try simp only [wI_eq])
  repeat' (first | with_reducible rfl | with_reducible refine chk_opt hp ?_ | with_reducible refine chk_opt h0 ?_ | refine chk_opt (and_all hp fun _ => hp) ?_ | refine chk_opt (and_all hp fun _ => rfl) ?_ | refine ite_opt (fun _ => ?_) (fun _ => ?_) | rfl)
def run_i_quadrance : List PV → Option (Bool × List TR)
  | [.v (.int .i64 p), .v (.int .i64 colour), .v (.agg ⟨[.int .i64 a0, .int .i64 a1]⟩), .v (.agg ⟨[.int .i64 b0, .int .i64 b1]⟩)] => some (prB p, enc_i (i_quadrance p colour (a0, a1) (b0, b1)))
  | _ => none
theorem sound_i_quadrance : Sound Tryz.prog 73 run_i_quadrance := by
  refine sound_of de_i SO_i_quadrance (by kernel_rfl) Tryz.func73 Tryz.ntmps73 rfl (by kernel_rfl) ?_
  intro W pvs avs rs hargs hrun
  unfold run_i_quadrance at hrun
  split at hrun
  · simp only [Option.some.injEq, Prod.mk.injEq] at hrun
    obtain ⟨hp, rfl⟩ := hrun
    rename_i p colour a0 a1 b0 b1
    exact ⟨_, _, _, hargs, rfl, (eq_i_quadrance p colour (a0, a1) (b0, b1)).trans (tot_i_quadrance p colour (a0, a1) (b0, b1) hp)⟩
  · cases hrun

def S_i_sign : Sums := ⟨tblS [(57, run_i_rest)], tblM []⟩
theorem SO_i_sign : SumsOK Tryz.prog S_i_sign := ⟨tblS_ok ⟨⟨Tryz.call57, sound_i_rest⟩, True.intro⟩, tblM_ok True.intro⟩
def Fo_i_sign (p : Int) (m : Int × Int × Int × Int) : Option (Int) :=
  (if (prB p) = true then some (i_rest p (wI ((wI (m.1 * m.2.2.2)) - (wI (m.2.1 * m.2.2.1))))) else none)
theorem eq_i_sign (p : Int) (m : Int × Int × Int × Int) : execT Tryz.prog S_i_sign 53 18 (fun _ => 1000000) dec_i [.v (.int .i64 p), .v (.agg ⟨[.int .i64 m.1, .int .i64 m.2.1, .int .i64 m.2.2.1, .int .i64 m.2.2.2]⟩)] = Fo_i_sign p m := by
  kernel_rfl
def i_sign (p : Int) (m : Int × Int × Int × Int) : Int :=
  (i_rest p (wrap64 ((wrap64 (m.1 * m.2.2.2)) - (wrap64 (m.2.1 * m.2.2.1)))))
theorem tot_i_sign (p : Int) (m : Int × Int × Int × Int) (hp : (prB p) = true) : Fo_i_sign p m = some (i_sign p m) := by
  try have h0 := prB_ne hp
  unfold Fo_i_sign i_sign
  (try simp only [wI_eq])
  repeat' (first | with_reducible rfl | with_reducible refine chk_opt hp ?_ | with_reducible refine chk_opt h0 ?_ | refine chk_opt (and_all hp fun _ => hp) ?_ | refine chk_opt (and_all hp fun _ => rfl) ?_ | refine ite_opt (fun _ => ?_) (fun _ => ?_) | rfl)
def run_i_sign : List PV → Option (Bool × List TR)
  | [.v (.int .i64 p), .v (.agg ⟨[.int .i64 m0, .int .i64 m1, .int .i64 m2, .int .i64 m3]⟩)] => some (prB p, enc_i (i_sign p (m0, m1, m2, m3)))
  | _ => none
theorem sound_i_sign : Sound Tryz.prog 53 run_i_sign := by
  refine sound_of de_i SO_i_sign (by kernel_rfl) Tryz.func53 Tryz.ntmps53 rfl (by kernel_rfl) ?_
  intro W pvs avs rs hargs hrun
  unfold run_i_sign at hrun
  split at hrun
  · simp only [Option.some.injEq, Prod.mk.injEq] at hrun
    obtain ⟨hp, rfl⟩ := hrun
    rename_i p m0 m1 m2 m3
    exact ⟨_, _, _, hargs, rfl, (eq_i_sign p (m0, m1, m2, m3)).trans (tot_i_sign p (m0, m1, m2, m3) hp)⟩
  · cases hrun

def S_i_then : Sums := ⟨tblS [(57, run_i_rest), (70, run_i_moved)], tblM []⟩
theorem SO_i_then : SumsOK Tryz.prog S_i_then := ⟨tblS_ok ⟨⟨Tryz.call57, sound_i_rest⟩, ⟨Tryz.call70, sound_i_moved⟩, True.intro⟩, tblM_ok True.intro⟩
def Fo_i_then (p : Int) (m : Int × Int × Int × Int × Int × Int) (n_ : Int × Int × Int × Int × Int × Int) : Option (Int × Int × Int × Int × Int × Int) :=
  (if (prB p) = true then (if (prB p) = true then (if (prB p) = true then (if (prB p) = true then (if (prB p) = true then some ((i_rest p (wI ((wI (n_.1 * m.1)) + (wI (n_.2.1 * m.2.2.1))))), (i_rest p (wI ((wI (n_.1 * m.2.1)) + (wI (n_.2.1 * m.2.2.2.1))))), (i_rest p (wI ((wI (n_.2.2.1 * m.1)) + (wI (n_.2.2.2.1 * m.2.2.1))))), (i_rest p (wI ((wI (n_.2.2.1 * m.2.1)) + (wI (n_.2.2.2.1 * m.2.2.2.1))))), (i_moved p n_ m.2.2.2.2).1, (i_moved p n_ m.2.2.2.2).2) else none) else none) else none) else none) else none)
theorem eq_i_then (p : Int) (m : Int × Int × Int × Int × Int × Int) (n_ : Int × Int × Int × Int × Int × Int) : execT Tryz.prog S_i_then 49 72 (fun _ => 1000000) dec_a6 [.v (.int .i64 p), .v (.agg ⟨[.int .i64 m.1, .int .i64 m.2.1, .int .i64 m.2.2.1, .int .i64 m.2.2.2.1, .int .i64 m.2.2.2.2.1, .int .i64 m.2.2.2.2.2]⟩), .v (.agg ⟨[.int .i64 n_.1, .int .i64 n_.2.1, .int .i64 n_.2.2.1, .int .i64 n_.2.2.2.1, .int .i64 n_.2.2.2.2.1, .int .i64 n_.2.2.2.2.2]⟩)] = Fo_i_then p m n_ := by
  kernel_rfl
def i_then (p : Int) (m : Int × Int × Int × Int × Int × Int) (n_ : Int × Int × Int × Int × Int × Int) : Int × Int × Int × Int × Int × Int :=
  ((i_rest p (wrap64 ((wrap64 (n_.1 * m.1)) + (wrap64 (n_.2.1 * m.2.2.1))))), (i_rest p (wrap64 ((wrap64 (n_.1 * m.2.1)) + (wrap64 (n_.2.1 * m.2.2.2.1))))), (i_rest p (wrap64 ((wrap64 (n_.2.2.1 * m.1)) + (wrap64 (n_.2.2.2.1 * m.2.2.1))))), (i_rest p (wrap64 ((wrap64 (n_.2.2.1 * m.2.1)) + (wrap64 (n_.2.2.2.1 * m.2.2.2.1))))), (i_moved p n_ m.2.2.2.2).1, (i_moved p n_ m.2.2.2.2).2)
theorem tot_i_then (p : Int) (m : Int × Int × Int × Int × Int × Int) (n_ : Int × Int × Int × Int × Int × Int) (hp : (prB p) = true) : Fo_i_then p m n_ = some (i_then p m n_) := by
  try have h0 := prB_ne hp
  unfold Fo_i_then i_then
  (try simp only [wI_eq])
  repeat' (first | with_reducible rfl | with_reducible refine chk_opt hp ?_ | with_reducible refine chk_opt h0 ?_ | refine chk_opt (and_all hp fun _ => hp) ?_ | refine chk_opt (and_all hp fun _ => rfl) ?_ | refine ite_opt (fun _ => ?_) (fun _ => ?_) | rfl)
def run_i_then : List PV → Option (Bool × List TR)
  | [.v (.int .i64 p), .v (.agg ⟨[.int .i64 m0, .int .i64 m1, .int .i64 m2, .int .i64 m3, .int .i64 m4, .int .i64 m5]⟩), .v (.agg ⟨[.int .i64 n_0, .int .i64 n_1, .int .i64 n_2, .int .i64 n_3, .int .i64 n_4, .int .i64 n_5]⟩)] => some (prB p, enc_a6 (i_then p (m0, m1, m2, m3, m4, m5) (n_0, n_1, n_2, n_3, n_4, n_5)))
  | _ => none
theorem sound_i_then : Sound Tryz.prog 49 run_i_then := by
  refine sound_of de_a6 SO_i_then (by kernel_rfl) Tryz.func49 Tryz.ntmps49 rfl (by kernel_rfl) ?_
  intro W pvs avs rs hargs hrun
  unfold run_i_then at hrun
  split at hrun
  · simp only [Option.some.injEq, Prod.mk.injEq] at hrun
    obtain ⟨hp, rfl⟩ := hrun
    rename_i p m0 m1 m2 m3 m4 m5 n_0 n_1 n_2 n_3 n_4 n_5
    exact ⟨_, _, _, hargs, rfl, (eq_i_then p (m0, m1, m2, m3, m4, m5) (n_0, n_1, n_2, n_3, n_4, n_5)).trans (tot_i_then p (m0, m1, m2, m3, m4, m5) (n_0, n_1, n_2, n_3, n_4, n_5) hp)⟩
  · cases hrun

def S_s_l01In : Sums := ⟨tblS [], tblM []⟩
theorem SO_s_l01In : SumsOK Tryz.prog S_s_l01In := ⟨tblS_ok True.intro, tblM_ok True.intro⟩
def Fo_s_l01In (n_ : Int) (low : Int) (high : Int) : Option (Bool) :=
  (if (decide (n_ ≥ low)) = true then some (decide (n_ ≤ high)) else some false)
theorem eq_s_l01In (n_ : Int) (low : Int) (high : Int) : execT Tryz.prog S_s_l01In 94 15 (fun _ => 1000000) dec_b [.v (.int .i64 n_), .v (.int .i64 low), .v (.int .i64 high)] = Fo_s_l01In n_ low high := by
  kernel_rfl
def s_l01In (n_ : Int) (low : Int) (high : Int) : Bool :=
  (if (decide (n_ ≥ low)) = true then decide (n_ ≤ high) else false)
theorem tot_s_l01In (n_ : Int) (low : Int) (high : Int) : Fo_s_l01In n_ low high = some (s_l01In n_ low high) := by
  unfold Fo_s_l01In s_l01In
  (try simp only [wI_eq])
  repeat' (first | with_reducible rfl | refine ite_opt (fun _ => ?_) (fun _ => ?_) | rfl)
def run_s_l01In : List PV → Option (Bool × List TR)
  | [.v (.int .i64 n_), .v (.int .i64 low), .v (.int .i64 high)] => some (true, enc_b (s_l01In n_ low high))
  | _ => none
theorem sound_s_l01In : Sound Tryz.prog 94 run_s_l01In := by
  refine sound_of de_b SO_s_l01In (by kernel_rfl) Tryz.func94 Tryz.ntmps94 rfl (by kernel_rfl) ?_
  intro W pvs avs rs hargs hrun
  unfold run_s_l01In at hrun
  split at hrun
  · simp only [Option.some.injEq, Prod.mk.injEq] at hrun
    obtain ⟨hp, rfl⟩ := hrun
    rename_i n_ low high
    exact ⟨_, _, _, hargs, rfl, (eq_s_l01In n_ low high).trans (tot_s_l01In n_ low high)⟩
  · cases hrun

def S_s_l01Field : Sums := ⟨tblS [(94, run_s_l01In)], tblM []⟩
theorem SO_s_l01Field : SumsOK Tryz.prog S_s_l01Field := ⟨tblS_ok ⟨⟨Tryz.call94, sound_s_l01In⟩, True.intro⟩, tblM_ok True.intro⟩
def T_s_l01Field_0 (p : Int) (d : Int) : Tab := ⟨[.val (.int .i64 p), .junk, .val (.bool false), .val (.int .i64 d), .val (.int .i64 p), .val (.bool (s_l01In p 3 31)), .val (.bool (!(s_l01In p 3 31))), .junk, .junk, .junk, .junk, .junk, .junk, .junk, .junk, .junk, .junk, .junk], []⟩
def X_s_l01Field_0 (P : Program) (fu : Nat) (p : Int) (f : Nat) (d : Int) : Option (Bool) := loopK (exec P S_s_l01Field 18 (fun _ => fu + 100) (Code.sub [1, 1, 0, 1, 0, 0] (bodyF P 91))) f (T_s_l01Field_0 p d) (kBlock 0 (kSeq (fun zs9 => exec P S_s_l01Field 18 (fun _ => fu + 100) (Code.sub [1, 1, 1] (bodyF P 91)) zs9 (finT P 91 dec_b)) (finT P 91 dec_b)))
def B_s_l01Field_0 (p : Int) (rec0 : Int → Option (Bool)) (d : Int) : Option (Bool) :=
  (if (decide ((wI (d * d)) ≤ p)) = true then (if (!(d == 0)) = true then (if ((p.tmod d) == 0) = true then some false else rec0 (wI (d + 1))) else none) else some true)
def L_s_l01Field_0 (fu : Nat) (p : Int) : Nat → Int → Option (Bool)
  | 0, _ => none
  | f + 1, d => B_s_l01Field_0 p (L_s_l01Field_0 fu p f) d
theorem loop_s_l01Field_0 (fu : Nat) (p : Int) : ∀ (f : Nat) (d : Int), X_s_l01Field_0 Tryz.prog fu p f d = L_s_l01Field_0 fu p f d := by
  intro f
  induction f with
  | zero => intros; rfl
  | succ f ih =>
    intro d
    have h1 : X_s_l01Field_0 Tryz.prog fu p (f + 1) d = B_s_l01Field_0 p (X_s_l01Field_0 Tryz.prog fu p f) d := by kernel_rfl
    have h2 : X_s_l01Field_0 Tryz.prog fu p f = L_s_l01Field_0 fu p f := by funext d; exact ih d
    rw [h1, h2]
    rfl
def G_s_l01Field (p : Int) (lo0 : Int → Option (Bool)) : Option (Bool) :=
  (if (!(s_l01In p 3 31)) = true then some false else lo0 2)
def Fo_s_l01Field (fu : Nat) (p : Int) : Option (Bool) := G_s_l01Field p (L_s_l01Field_0 fu p (fu + 100))
theorem eqg_s_l01Field (fu : Nat) (p : Int) : execT Tryz.prog S_s_l01Field 91 18 (fun _ => fu + 100) dec_b [.v (.int .i64 p)] = G_s_l01Field p (L_s_l01Field_0 fu p (fu + 100)) := by
  have h1 : execT Tryz.prog S_s_l01Field 91 18 (fun _ => fu + 100) dec_b [.v (.int .i64 p)] = G_s_l01Field p (X_s_l01Field_0 Tryz.prog fu p (fu + 100)) := by kernel_rfl
  have c0 : X_s_l01Field_0 Tryz.prog fu p (fu + 100) = L_s_l01Field_0 fu p (fu + 100) := by funext d; exact loop_s_l01Field_0 fu p (fu + 100) d
  rw [h1, c0]
theorem eq_s_l01Field (fu : Nat) (p : Int) : execT Tryz.prog S_s_l01Field 91 18 (fun _ => fu + 100) dec_b [.v (.int .i64 p)] = Fo_s_l01Field fu p := eqg_s_l01Field fu p
def s_l01Field (p : Int) : Bool := i_IsField p
theorem range29 {p : Int} (h3 : 3 ≤ p) (h31 : p ≤ 31) : p = 3 ∨ p = 4 ∨ p = 5 ∨ p = 6 ∨ p = 7 ∨ p = 8 ∨ p = 9 ∨ p = 10 ∨ p = 11 ∨ p = 12 ∨ p = 13 ∨ p = 14 ∨ p = 15 ∨ p = 16 ∨ p = 17 ∨ p = 18 ∨ p = 19 ∨ p = 20 ∨ p = 21 ∨ p = 22 ∨ p = 23 ∨ p = 24 ∨ p = 25 ∨ p = 26 ∨ p = 27 ∨ p = 28 ∨ p = 29 ∨ p = 30 ∨ p = 31 := by omega
theorem tot_s_l01Field (p : Int) : Fo_s_l01Field 40 p = some (s_l01Field p) := by
  by_cases hr : 3 ≤ p ∧ p ≤ 31
  · obtain ⟨h3, h31⟩ := hr
    obtain rfl | rfl | rfl | rfl | rfl | rfl | rfl | rfl | rfl | rfl | rfl | rfl | rfl | rfl | rfl | rfl | rfl | rfl | rfl | rfl | rfl | rfl | rfl | rfl | rfl | rfl | rfl | rfl | rfl := range29 h3 h31
    all_goals kernel_rfl
  · have hin : s_l01In p 3 31 = false := by simp [s_l01In]; omega
    unfold Fo_s_l01Field G_s_l01Field
    rw [hin]
    show some false = some (i_IsField p)
    congr 1
    symm
    simp [i_IsField]; omega
def run_s_l01Field : List PV → Option (Bool × List TR)
  | [.v (.int .i64 p)] => some (true, enc_b (s_l01Field p))
  | _ => none
theorem sound_s_l01Field : Sound Tryz.prog 91 run_s_l01Field := by
  refine sound_of de_b SO_s_l01Field (by kernel_rfl) Tryz.func91 Tryz.ntmps91 rfl (by kernel_rfl) ?_
  intro W pvs avs rs hargs hrun
  unfold run_s_l01Field at hrun
  split at hrun
  · simp only [Option.some.injEq, Prod.mk.injEq] at hrun
    obtain ⟨hp, rfl⟩ := hrun
    rename_i p
    exact ⟨_, _, _, hargs, rfl, (eq_s_l01Field _ p).trans (tot_s_l01Field p)⟩
  · cases hrun

theorem sfield_prB0 {p : Int} (h : ¬ (!(s_l01Field p)) = true) : prB p = true := field_prB0 h
def S_s_l01Point : Sums := ⟨tblS [(94, run_s_l01In)], tblM []⟩
theorem SO_s_l01Point : SumsOK Tryz.prog S_s_l01Point := ⟨tblS_ok ⟨⟨Tryz.call94, sound_s_l01In⟩, True.intro⟩, tblM_ok True.intro⟩
def Fo_s_l01Point (p : Int) (a : Int × Int) : Option (Bool) :=
  (if (s_l01In a.1 0 (wI (p - 1))) = true then some (s_l01In a.2 0 (wI (p - 1))) else some false)
theorem eq_s_l01Point (p : Int) (a : Int × Int) : execT Tryz.prog S_s_l01Point 140 17 (fun _ => 1000000) dec_b [.v (.int .i64 p), .v (.agg ⟨[.int .i64 a.1, .int .i64 a.2]⟩)] = Fo_s_l01Point p a := by
  kernel_rfl
def s_l01Point (p : Int) (a : Int × Int) : Bool :=
  (if (s_l01In a.1 0 (wrap64 (p - 1))) = true then (s_l01In a.2 0 (wrap64 (p - 1))) else false)
theorem tot_s_l01Point (p : Int) (a : Int × Int) : Fo_s_l01Point p a = some (s_l01Point p a) := by
  unfold Fo_s_l01Point s_l01Point
  (try simp only [wI_eq])
  repeat' (first | with_reducible rfl | refine ite_opt (fun _ => ?_) (fun _ => ?_) | rfl)
def run_s_l01Point : List PV → Option (Bool × List TR)
  | [.v (.int .i64 p), .v (.agg ⟨[.int .i64 a0, .int .i64 a1]⟩)] => some (true, enc_b (s_l01Point p (a0, a1)))
  | _ => none
theorem sound_s_l01Point : Sound Tryz.prog 140 run_s_l01Point := by
  refine sound_of de_b SO_s_l01Point (by kernel_rfl) Tryz.func140 Tryz.ntmps140 rfl (by kernel_rfl) ?_
  intro W pvs avs rs hargs hrun
  unfold run_s_l01Point at hrun
  split at hrun
  · simp only [Option.some.injEq, Prod.mk.injEq] at hrun
    obtain ⟨hp, rfl⟩ := hrun
    rename_i p a0 a1
    exact ⟨_, _, _, hargs, rfl, (eq_s_l01Point p (a0, a1)).trans (tot_s_l01Point p (a0, a1))⟩
  · cases hrun

def S_s_l01Code : Sums := ⟨tblS [(91, run_s_l01Field), (140, run_s_l01Point)], tblM []⟩
theorem SO_s_l01Code : SumsOK Tryz.prog S_s_l01Code := ⟨tblS_ok ⟨⟨Tryz.call91, sound_s_l01Field⟩, ⟨Tryz.call140, sound_s_l01Point⟩, True.intro⟩, tblM_ok True.intro⟩
def T_s_l01Code_0 (p : Int) (pointsn : Nat) (pointsl : List Int) (i : Int) : Tab := ⟨[.val (.int .i64 p), .row 4, .junk, .junk, .val (.int .i64 0), .val (.int .i64 i), .val (.int .i64 p), .val (.bool (s_l01Field p)), .val (.bool (!(s_l01Field p))), .junk, .junk, .junk, .junk, .junk, .junk, .junk, .junk, .junk, .junk, .junk, .junk, .junk], [(4, .ros pointsn (.ints pointsl))]⟩
def X_s_l01Code_0 (P : Program) (fu : Nat) (p : Int) (pointsn : Nat) (pointsl : List Int) (f : Nat) (i : Int) : Option (Int) := loopK (exec P S_s_l01Code 22 (fun _ => fu + 100) (Code.sub [1, 1, 0, 1, 0, 0] (bodyF P 87))) f (T_s_l01Code_0 p pointsn pointsl i) (kBlock 0 (kSeq (fun zs9 => exec P S_s_l01Code 22 (fun _ => fu + 100) (Code.sub [1, 1, 1] (bodyF P 87)) zs9 (finT P 87 dec_i)) (finT P 87 dec_i)))
def B_s_l01Code_0 (p : Int) (pointsn : Nat) (pointsl : List Int) (rec0 : Int → Option (Int)) (i : Int) : Option (Int) :=
  (if (decide (i < ((pointsn : Nat) : Int))) = true then (if (decide (0 ≤ i) && decide (i < ((pointsn : Nat) : Int))) = true then (if (Nat.ble (i.toNat * 2 + 2) pointsl.length) = true then (if (!(s_l01Point p (pointsl.getD (i.toNat * 2 + 0) 0, pointsl.getD (i.toNat * 2 + 1) 0))) = true then some 2 else rec0 (wI (i + 1))) else none) else none) else some 0)
def L_s_l01Code_0 (fu : Nat) (p : Int) (pointsn : Nat) (pointsl : List Int) : Nat → Int → Option (Int)
  | 0, _ => none
  | f + 1, i => B_s_l01Code_0 p pointsn pointsl (L_s_l01Code_0 fu p pointsn pointsl f) i
theorem loop_s_l01Code_0 (fu : Nat) (p : Int) (pointsn : Nat) (pointsl : List Int) : ∀ (f : Nat) (i : Int), X_s_l01Code_0 Tryz.prog fu p pointsn pointsl f i = L_s_l01Code_0 fu p pointsn pointsl f i := by
  intro f
  induction f with
  | zero => intros; rfl
  | succ f ih =>
    intro i
    have h1 : X_s_l01Code_0 Tryz.prog fu p pointsn pointsl (f + 1) i = B_s_l01Code_0 p pointsn pointsl (X_s_l01Code_0 Tryz.prog fu p pointsn pointsl f) i := by kernel_rfl
    have h2 : X_s_l01Code_0 Tryz.prog fu p pointsn pointsl f = L_s_l01Code_0 fu p pointsn pointsl f := by funext i; exact ih i
    rw [h1, h2]
    rfl
def G_s_l01Code (p : Int) (pointsn : Nat) (pointsl : List Int) (lo0 : Int → Option (Int)) : Option (Int) :=
  (if (!(s_l01Field p)) = true then some 1 else lo0 0)
def Fo_s_l01Code (fu : Nat) (p : Int) (pointsn : Nat) (pointsl : List Int) : Option (Int) := G_s_l01Code p pointsn pointsl (L_s_l01Code_0 fu p pointsn pointsl (fu + 100))
theorem eqg_s_l01Code (fu : Nat) (p : Int) (pointsn : Nat) (pointsl : List Int) : execT Tryz.prog S_s_l01Code 87 22 (fun _ => fu + 100) dec_i [.v (.int .i64 p), .s pointsn (.ints pointsl)] = G_s_l01Code p pointsn pointsl (L_s_l01Code_0 fu p pointsn pointsl (fu + 100)) := by
  have h1 : execT Tryz.prog S_s_l01Code 87 22 (fun _ => fu + 100) dec_i [.v (.int .i64 p), .s pointsn (.ints pointsl)] = G_s_l01Code p pointsn pointsl (X_s_l01Code_0 Tryz.prog fu p pointsn pointsl (fu + 100)) := by kernel_rfl
  have c0 : X_s_l01Code_0 Tryz.prog fu p pointsn pointsl (fu + 100) = L_s_l01Code_0 fu p pointsn pointsl (fu + 100) := by funext i; exact loop_s_l01Code_0 fu p pointsn pointsl (fu + 100) i
  rw [h1, c0]
theorem eq_s_l01Code (fu : Nat) (p : Int) (pointsn : Nat) (pointsl : List Int) : execT Tryz.prog S_s_l01Code 87 22 (fun _ => fu + 100) dec_i [.v (.int .i64 p), .s pointsn (.ints pointsl)] = Fo_s_l01Code fu p pointsn pointsl := eqg_s_l01Code fu p pointsn pointsl
def s_l01Code (p : Int) (l : List P2) : Int := if s_l01Field p = true then (if l.all (fun x => s_l01Point p x) = true then 0 else 2) else 1
theorem l01Code_prB {p : Int} {l : List P2} (h : ¬ (s_l01Code p l != 0) = true) : prB p = true := by
  refine Pr_prB (i_IsField_ok ?_)
  have h : s_l01Code p l = 0 := by simpa using h
  cases hf : i_IsField p
  · simp [s_l01Code, s_l01Field, hf] at h
  · rfl
theorem l01Code_prB0 {p : Int} {l : List P2} (h : (s_l01Code p l == 0) = true) : prB p = true := l01Code_prB (by simpa using h)
theorem tot_s_l01Code (p : Int) (pointsn : Nat) (pointsl : List Int) (hp : (lenB pointsn 2 pointsl) = true) : Fo_s_l01Code pointsn p pointsn pointsl = some (s_l01Code p (rows2 pointsn pointsl)) := by
  obtain ⟨hl, hn⟩ := lenB_ok hp
  have key : ∀ F, pointsn < F → (L_s_l01Code_0 pointsn p pointsn pointsl) F 0 = some (if (List.range pointsn).all (fun k => (fun x => s_l01Point p x) (pointsl.getD (k * 2) 0, pointsl.getD (k * 2 + 1) 0)) = true then 0 else 2) := by
    intro F hF
    refine scan hF (fun f k hk => ?_) fun f => ?_
    · show B_s_l01Code_0 p pointsn pointsl ((L_s_l01Code_0 pointsn p pointsn pointsl) f) (k : Int) = _
      unfold B_s_l01Code_0
      rw [if_pos (by simpa using hk), if_pos (by simpa using hk), if_pos (leb (by rw [hl, Int.toNat_natCast]; omega)), wrap_add1 hk (by omega)]
      first | rfl | (rw [wI_eq]; rfl)
    · show B_s_l01Code_0 p pointsn pointsl ((L_s_l01Code_0 pointsn p pointsn pointsl) f) ((pointsn : Nat) : Int) = _
      unfold B_s_l01Code_0
      rw [if_neg (by simp)]
  unfold Fo_s_l01Code G_s_l01Code
  show _ = some (if s_l01Field p = true then (if ((rows2 pointsn pointsl)).all (fun x => s_l01Point p x) = true then 0 else 2) else 1)
  cases hf : s_l01Field p
  · rfl
  · rw [key _ (by omega), all_rows2 pointsn pointsl]
    rfl
def run_s_l01Code : List PV → Option (Bool × List TR)
  | [.v (.int .i64 p), .s pointsn (.ints pointsl)] => some (lenB pointsn 2 pointsl, enc_i (s_l01Code p (rows2 pointsn pointsl)))
  | _ => none
theorem sound_s_l01Code : Sound Tryz.prog 87 run_s_l01Code := by
  refine sound_of de_i SO_s_l01Code (by kernel_rfl) Tryz.func87 Tryz.ntmps87 rfl (by kernel_rfl) ?_
  intro W pvs avs rs hargs hrun
  unfold run_s_l01Code at hrun
  split at hrun
  · simp only [Option.some.injEq, Prod.mk.injEq] at hrun
    obtain ⟨hp, rfl⟩ := hrun
    rename_i p pointsn pointsl
    exact ⟨_, _, _, hargs, rfl, (eq_s_l01Code _ p pointsn pointsl).trans (tot_s_l01Code p pointsn pointsl hp)⟩
  · cases hrun

def S_s_l01Mod : Sums := ⟨tblS [], tblM []⟩
theorem SO_s_l01Mod : SumsOK Tryz.prog S_s_l01Mod := ⟨tblS_ok True.intro, tblM_ok True.intro⟩
def Fo_s_l01Mod (x : Int) (p : Int) : Option (Int) :=
  (if (!(p == 0)) = true then (if (!(p == 0)) = true then some ((wI ((x.tmod p) + p)).tmod p) else none) else none)
theorem eq_s_l01Mod (x : Int) (p : Int) : execT Tryz.prog S_s_l01Mod 134 12 (fun _ => 1000000) dec_i [.v (.int .i64 x), .v (.int .i64 p)] = Fo_s_l01Mod x p := by
  kernel_rfl
def s_l01Mod (x p : Int) : Int := x % p
theorem tot_s_l01Mod (x : Int) (p : Int) (hp : (prB p) = true) : Fo_s_l01Mod x p = some (s_l01Mod x p) := by
  have h0 := prB_ne hp
  unfold Fo_s_l01Mod s_l01Mod
  simp only [h0, if_true, wI_eq]
  rw [rest_raw hp]
def run_s_l01Mod : List PV → Option (Bool × List TR)
  | [.v (.int .i64 x), .v (.int .i64 p)] => some (prB p, enc_i (s_l01Mod x p))
  | _ => none
theorem sound_s_l01Mod : Sound Tryz.prog 134 run_s_l01Mod := by
  refine sound_of de_i SO_s_l01Mod (by kernel_rfl) Tryz.func134 Tryz.ntmps134 rfl (by kernel_rfl) ?_
  intro W pvs avs rs hargs hrun
  unfold run_s_l01Mod at hrun
  split at hrun
  · simp only [Option.some.injEq, Prod.mk.injEq] at hrun
    obtain ⟨hp, rfl⟩ := hrun
    rename_i x p
    exact ⟨_, _, _, hargs, rfl, (eq_s_l01Mod x p).trans (tot_s_l01Mod x p hp)⟩
  · cases hrun

def S_s_l01Inverse : Sums := ⟨tblS [(134, run_s_l01Mod)], tblM []⟩
theorem SO_s_l01Inverse : SumsOK Tryz.prog S_s_l01Inverse := ⟨tblS_ok ⟨⟨Tryz.call134, sound_s_l01Mod⟩, True.intro⟩, tblM_ok True.intro⟩
def T_s_l01Inverse_0 (a : Int) (p : Int) (out : Int) (base : Int) (k : Int) : Tab := ⟨[.val (.int .i64 a), .val (.int .i64 p), .junk, .junk, .val (.int .i64 0), .val (.int .i64 out), .val (.int .i64 base), .val (.int .i64 k), .val (.int .i64 a), .val (.int .i64 p), .val (.int .i64 (s_l01Mod a p)), .val (.int .i64 p), .val (.int .i64 (wI (p - 2))), .junk, .junk, .junk, .junk, .junk, .junk, .junk, .junk, .junk, .junk, .junk, .junk, .junk, .junk, .junk, .junk, .junk, .junk], []⟩
def X_s_l01Inverse_0 (P : Program) (fu : Nat) (a : Int) (p : Int) (f : Nat) (out : Int) (base : Int) (k : Int) : Option (Int) := loopK (exec P S_s_l01Inverse 31 (fun _ => fu + 100) (Code.sub [1, 1, 0, 1, 0, 0] (bodyF P 152))) f (T_s_l01Inverse_0 a p out base k) (kBlock 0 (kSeq (fun zs9 => exec P S_s_l01Inverse 31 (fun _ => fu + 100) (Code.sub [1, 1, 1] (bodyF P 152)) zs9 (finT P 152 dec_i)) (finT P 152 dec_i)))
def B_s_l01Inverse_0 (a : Int) (p : Int) (rec0 : Int → Int → Int → Option (Int)) (out : Int) (base : Int) (k : Int) : Option (Int) :=
  (if (decide (k > 0)) = true then (if ((k.tmod 2) == 1) = true then (if (!(p == 0)) = true then (if (!(p == 0)) = true then rec0 ((wI (out * base)).tmod p) ((wI (base * base)).tmod p) (wI (k.tdiv 2)) else none) else none) else (if (!(p == 0)) = true then rec0 out ((wI (base * base)).tmod p) (wI (k.tdiv 2)) else none)) else some out)
def L_s_l01Inverse_0 (fu : Nat) (a : Int) (p : Int) : Nat → Int → Int → Int → Option (Int)
  | 0, _, _, _ => none
  | f + 1, out, base, k => B_s_l01Inverse_0 a p (L_s_l01Inverse_0 fu a p f) out base k
theorem loop_s_l01Inverse_0 (fu : Nat) (a : Int) (p : Int) : ∀ (f : Nat) (out : Int) (base : Int) (k : Int), X_s_l01Inverse_0 Tryz.prog fu a p f out base k = L_s_l01Inverse_0 fu a p f out base k := by
  intro f
  induction f with
  | zero => intros; rfl
  | succ f ih =>
    intro out base k
    have h1 : X_s_l01Inverse_0 Tryz.prog fu a p (f + 1) out base k = B_s_l01Inverse_0 a p (X_s_l01Inverse_0 Tryz.prog fu a p f) out base k := by kernel_rfl
    have h2 : X_s_l01Inverse_0 Tryz.prog fu a p f = L_s_l01Inverse_0 fu a p f := by funext out base k; exact ih out base k
    rw [h1, h2]
    rfl
def G_s_l01Inverse (a : Int) (p : Int) (lo0 : Int → Int → Int → Option (Int)) : Option (Int) :=
  (if (prB p) = true then lo0 1 (s_l01Mod a p) (wI (p - 2)) else none)
def Fo_s_l01Inverse (fu : Nat) (a : Int) (p : Int) : Option (Int) := G_s_l01Inverse a p (L_s_l01Inverse_0 fu a p (fu + 100))
theorem eqg_s_l01Inverse (fu : Nat) (a : Int) (p : Int) : execT Tryz.prog S_s_l01Inverse 152 31 (fun _ => fu + 100) dec_i [.v (.int .i64 a), .v (.int .i64 p)] = G_s_l01Inverse a p (L_s_l01Inverse_0 fu a p (fu + 100)) := by
  have h1 : execT Tryz.prog S_s_l01Inverse 152 31 (fun _ => fu + 100) dec_i [.v (.int .i64 a), .v (.int .i64 p)] = G_s_l01Inverse a p (X_s_l01Inverse_0 Tryz.prog fu a p (fu + 100)) := by kernel_rfl
  have c0 : X_s_l01Inverse_0 Tryz.prog fu a p (fu + 100) = L_s_l01Inverse_0 fu a p (fu + 100) := by funext out base k; exact loop_s_l01Inverse_0 fu a p (fu + 100) out base k
  rw [h1, c0]
theorem eq_s_l01Inverse (fu : Nat) (a : Int) (p : Int) : execT Tryz.prog S_s_l01Inverse 152 31 (fun _ => fu + 100) dec_i [.v (.int .i64 a), .v (.int .i64 p)] = Fo_s_l01Inverse fu a p := eqg_s_l01Inverse fu a p
def powLoop (p : Int) : Nat → Int → Int → Int → Int
  | 0, _, out, _ => out
  | f + 1, k, out, base => if decide (0 < k) = true then powLoop p f (k / 2) (if (k % 2 == 1) = true then (wrap64 (out * base)).tmod p else out) ((wrap64 (base * base)).tmod p) else out
def s_l01Inverse (a p : Int) : Int := powLoop p 5 (p - 2) 1 (s_l01Mod a p)
theorem powLoop_zero (p : Int) (f : Nat) (k out base : Int) (h : ¬ 0 < k) : powLoop p f k out base = out := by
  cases f
  · rfl
  · show (if decide (0 < k) = true then _ else out) = out
    rw [if_neg (by simpa using h)]
theorem pow_walk (fu : Nat) (a p : Int) (hp : prB p = true) : ∀ (f F : Nat) (k out base : Int), k < 2 ^ f → k ≤ 31 → f < F → L_s_l01Inverse_0 fu a p F out base k = some (powLoop p f k out base)
  | f, 0, k, _, _, _, _, h => absurd h (Nat.not_lt_zero f)
  | f, F + 1, k, out, base, h1, h31, hF => by
    show B_s_l01Inverse_0 a p (L_s_l01Inverse_0 fu a p F) out base k = _
    unfold B_s_l01Inverse_0
    by_cases hk : 0 < k
    · obtain ⟨f, rfl⟩ : ∃ g, f = g + 1 := ⟨f - 1, by rcases f with _ | f <;> omega⟩
      have h0 := prB_ne hp
      rw [if_pos (by simp; omega)]
      have e1 : k.tmod 2 = k % 2 := Int.tmod_eq_emod_of_nonneg (by omega)
      have e2 : k.tdiv 2 = k / 2 := Int.tdiv_eq_ediv_of_nonneg (by omega)
      have e3 : wrap64 (k / 2) = k / 2 := by unfold wrap64; omega
      have hh : k / 2 < 2 ^ f := by rw [Int.pow_succ] at h1; omega
      simp only [h0, if_true, wI_eq, e1, e2, e3]
      show _ = some (if decide (0 < k) = true then powLoop p f (k / 2) (if (k % 2 == 1) = true then (wrap64 (out * base)).tmod p else out) ((wrap64 (base * base)).tmod p) else out)
      have hk' : decide (0 < k) = true := by simpa using hk
      rw [hk']
      cases h2 : (k % 2 == 1)
      · exact pow_walk fu a p hp f F (k / 2) _ _ hh (by omega) (by omega)
      · exact pow_walk fu a p hp f F (k / 2) _ _ hh (by omega) (by omega)
    · rw [if_neg (by simp; omega), powLoop_zero p f k out base hk]
theorem tot_s_l01Inverse (a : Int) (p : Int) (hp : (prB p) = true) : Fo_s_l01Inverse 40 a p = some (s_l01Inverse a p) := by
  obtain ⟨h1, h2⟩ := prB_Pr hp
  unfold Fo_s_l01Inverse G_s_l01Inverse
  rw [if_pos hp, wI_eq, show wrap64 (p - 2) = p - 2 from by unfold wrap64; omega]
  exact pow_walk 40 a p hp 5 _ (p - 2) _ _ (by omega) (by omega) (by omega)
def run_s_l01Inverse : List PV → Option (Bool × List TR)
  | [.v (.int .i64 a), .v (.int .i64 p)] => some (prB p, enc_i (s_l01Inverse a p))
  | _ => none
theorem sound_s_l01Inverse : Sound Tryz.prog 152 run_s_l01Inverse := by
  refine sound_of de_i SO_s_l01Inverse (by kernel_rfl) Tryz.func152 Tryz.ntmps152 rfl (by kernel_rfl) ?_
  intro W pvs avs rs hargs hrun
  unfold run_s_l01Inverse at hrun
  split at hrun
  · simp only [Option.some.injEq, Prod.mk.injEq] at hrun
    obtain ⟨hp, rfl⟩ := hrun
    rename_i a p
    exact ⟨_, _, _, hargs, rfl, (eq_s_l01Inverse _ a p).trans (tot_s_l01Inverse a p hp)⟩
  · cases hrun

def S_s_l01Line : Sums := ⟨tblS [(94, run_s_l01In)], tblM []⟩
theorem SO_s_l01Line : SumsOK Tryz.prog S_s_l01Line := ⟨tblS_ok ⟨⟨Tryz.call94, sound_s_l01In⟩, True.intro⟩, tblM_ok True.intro⟩
def Fo_s_l01Line (p : Int) (l : Int × Int × Int) : Option (Bool) :=
  (if (s_l01In l.1 0 (wI (p - 1))) = true then (if (s_l01In l.2.1 0 (wI (p - 1))) = true then (if (s_l01In l.2.2 0 (wI (p - 1))) = true then (if (l.1 == 1) = true then some true else (if (l.1 == 0) = true then some (l.2.1 == 1) else some false)) else some false) else some false) else some false)
theorem eq_s_l01Line (p : Int) (l : Int × Int × Int) : execT Tryz.prog S_s_l01Line 92 39 (fun _ => 1000000) dec_b [.v (.int .i64 p), .v (.agg ⟨[.int .i64 l.1, .int .i64 l.2.1, .int .i64 l.2.2]⟩)] = Fo_s_l01Line p l := by
  kernel_rfl
def s_l01Line (p : Int) (l : Int × Int × Int) : Bool :=
  (if (s_l01In l.1 0 (wrap64 (p - 1))) = true then (if (s_l01In l.2.1 0 (wrap64 (p - 1))) = true then (if (s_l01In l.2.2 0 (wrap64 (p - 1))) = true then (if (l.1 == 1) = true then true else (if (l.1 == 0) = true then l.2.1 == 1 else false)) else false) else false) else false)
theorem tot_s_l01Line (p : Int) (l : Int × Int × Int) : Fo_s_l01Line p l = some (s_l01Line p l) := by
  unfold Fo_s_l01Line s_l01Line
  (try simp only [wI_eq])
  repeat' (first | with_reducible rfl | refine ite_opt (fun _ => ?_) (fun _ => ?_) | rfl)
def run_s_l01Line : List PV → Option (Bool × List TR)
  | [.v (.int .i64 p), .v (.agg ⟨[.int .i64 l0, .int .i64 l1, .int .i64 l2]⟩)] => some (true, enc_b (s_l01Line p (l0, l1, l2)))
  | _ => none
theorem sound_s_l01Line : Sound Tryz.prog 92 run_s_l01Line := by
  refine sound_of de_b SO_s_l01Line (by kernel_rfl) Tryz.func92 Tryz.ntmps92 rfl (by kernel_rfl) ?_
  intro W pvs avs rs hargs hrun
  unfold run_s_l01Line at hrun
  split at hrun
  · simp only [Option.some.injEq, Prod.mk.injEq] at hrun
    obtain ⟨hp, rfl⟩ := hrun
    rename_i p l0 l1 l2
    exact ⟨_, _, _, hargs, rfl, (eq_s_l01Line p (l0, l1, l2)).trans (tot_s_l01Line p (l0, l1, l2))⟩
  · cases hrun

def S_s_l01Lines : Sums := ⟨tblS [(91, run_s_l01Field), (92, run_s_l01Line)], tblM []⟩
theorem SO_s_l01Lines : SumsOK Tryz.prog S_s_l01Lines := ⟨tblS_ok ⟨⟨Tryz.call91, sound_s_l01Field⟩, ⟨Tryz.call92, sound_s_l01Line⟩, True.intro⟩, tblM_ok True.intro⟩
def T_s_l01Lines_0 (p : Int) (linesn : Nat) (linesl : List Int) (i : Int) : Tab := ⟨[.val (.int .i64 p), .row 4, .junk, .junk, .val (.int .i64 0), .val (.int .i64 i), .val (.int .i64 p), .val (.bool (s_l01Field p)), .val (.bool (!(s_l01Field p))), .junk, .junk, .junk, .junk, .junk, .junk, .junk, .junk, .junk, .junk, .junk, .junk, .junk], [(4, .ros linesn (.ints linesl))]⟩
def X_s_l01Lines_0 (P : Program) (fu : Nat) (p : Int) (linesn : Nat) (linesl : List Int) (f : Nat) (i : Int) : Option (Int) := loopK (exec P S_s_l01Lines 22 (fun _ => fu + 100) (Code.sub [1, 1, 0, 1, 0, 0] (bodyF P 150))) f (T_s_l01Lines_0 p linesn linesl i) (kBlock 0 (kSeq (fun zs9 => exec P S_s_l01Lines 22 (fun _ => fu + 100) (Code.sub [1, 1, 1] (bodyF P 150)) zs9 (finT P 150 dec_i)) (finT P 150 dec_i)))
def B_s_l01Lines_0 (p : Int) (linesn : Nat) (linesl : List Int) (rec0 : Int → Option (Int)) (i : Int) : Option (Int) :=
  (if (decide (i < ((linesn : Nat) : Int))) = true then (if (decide (0 ≤ i) && decide (i < ((linesn : Nat) : Int))) = true then (if (Nat.ble (i.toNat * 3 + 3) linesl.length) = true then (if (!(s_l01Line p (linesl.getD (i.toNat * 3 + 0) 0, linesl.getD (i.toNat * 3 + 1) 0, linesl.getD (i.toNat * 3 + 2) 0))) = true then some 2 else rec0 (wI (i + 1))) else none) else none) else some 0)
def L_s_l01Lines_0 (fu : Nat) (p : Int) (linesn : Nat) (linesl : List Int) : Nat → Int → Option (Int)
  | 0, _ => none
  | f + 1, i => B_s_l01Lines_0 p linesn linesl (L_s_l01Lines_0 fu p linesn linesl f) i
theorem loop_s_l01Lines_0 (fu : Nat) (p : Int) (linesn : Nat) (linesl : List Int) : ∀ (f : Nat) (i : Int), X_s_l01Lines_0 Tryz.prog fu p linesn linesl f i = L_s_l01Lines_0 fu p linesn linesl f i := by
  intro f
  induction f with
  | zero => intros; rfl
  | succ f ih =>
    intro i
    have h1 : X_s_l01Lines_0 Tryz.prog fu p linesn linesl (f + 1) i = B_s_l01Lines_0 p linesn linesl (X_s_l01Lines_0 Tryz.prog fu p linesn linesl f) i := by kernel_rfl
    have h2 : X_s_l01Lines_0 Tryz.prog fu p linesn linesl f = L_s_l01Lines_0 fu p linesn linesl f := by funext i; exact ih i
    rw [h1, h2]
    rfl
def G_s_l01Lines (p : Int) (linesn : Nat) (linesl : List Int) (lo0 : Int → Option (Int)) : Option (Int) :=
  (if (!(s_l01Field p)) = true then some 1 else lo0 0)
def Fo_s_l01Lines (fu : Nat) (p : Int) (linesn : Nat) (linesl : List Int) : Option (Int) := G_s_l01Lines p linesn linesl (L_s_l01Lines_0 fu p linesn linesl (fu + 100))
theorem eqg_s_l01Lines (fu : Nat) (p : Int) (linesn : Nat) (linesl : List Int) : execT Tryz.prog S_s_l01Lines 150 22 (fun _ => fu + 100) dec_i [.v (.int .i64 p), .s linesn (.ints linesl)] = G_s_l01Lines p linesn linesl (L_s_l01Lines_0 fu p linesn linesl (fu + 100)) := by
  have h1 : execT Tryz.prog S_s_l01Lines 150 22 (fun _ => fu + 100) dec_i [.v (.int .i64 p), .s linesn (.ints linesl)] = G_s_l01Lines p linesn linesl (X_s_l01Lines_0 Tryz.prog fu p linesn linesl (fu + 100)) := by kernel_rfl
  have c0 : X_s_l01Lines_0 Tryz.prog fu p linesn linesl (fu + 100) = L_s_l01Lines_0 fu p linesn linesl (fu + 100) := by funext i; exact loop_s_l01Lines_0 fu p linesn linesl (fu + 100) i
  rw [h1, c0]
theorem eq_s_l01Lines (fu : Nat) (p : Int) (linesn : Nat) (linesl : List Int) : execT Tryz.prog S_s_l01Lines 150 22 (fun _ => fu + 100) dec_i [.v (.int .i64 p), .s linesn (.ints linesl)] = Fo_s_l01Lines fu p linesn linesl := eqg_s_l01Lines fu p linesn linesl
def s_l01Lines (p : Int) (l : List P3) : Int := if s_l01Field p = true then (if l.all (fun x => s_l01Line p x) = true then 0 else 2) else 1
theorem l01Lines_prB {p : Int} {l : List P3} (h : ¬ (s_l01Lines p l != 0) = true) : prB p = true := by
  refine Pr_prB (i_IsField_ok ?_)
  have h : s_l01Lines p l = 0 := by simpa using h
  cases hf : i_IsField p
  · simp [s_l01Lines, s_l01Field, hf] at h
  · rfl
theorem l01Lines_prB0 {p : Int} {l : List P3} (h : (s_l01Lines p l == 0) = true) : prB p = true := l01Lines_prB (by simpa using h)
theorem tot_s_l01Lines (p : Int) (linesn : Nat) (linesl : List Int) (hp : (lenB linesn 3 linesl) = true) : Fo_s_l01Lines linesn p linesn linesl = some (s_l01Lines p (rows3 linesn linesl)) := by
  obtain ⟨hl, hn⟩ := lenB_ok hp
  have key : ∀ F, linesn < F → (L_s_l01Lines_0 linesn p linesn linesl) F 0 = some (if (List.range linesn).all (fun k => (fun x => s_l01Line p x) (linesl.getD (k * 3) 0, linesl.getD (k * 3 + 1) 0, linesl.getD (k * 3 + 2) 0)) = true then 0 else 2) := by
    intro F hF
    refine scan hF (fun f k hk => ?_) fun f => ?_
    · show B_s_l01Lines_0 p linesn linesl ((L_s_l01Lines_0 linesn p linesn linesl) f) (k : Int) = _
      unfold B_s_l01Lines_0
      rw [if_pos (by simpa using hk), if_pos (by simpa using hk), if_pos (leb (by rw [hl, Int.toNat_natCast]; omega)), wrap_add1 hk (by omega)]
      first | rfl | (rw [wI_eq]; rfl)
    · show B_s_l01Lines_0 p linesn linesl ((L_s_l01Lines_0 linesn p linesn linesl) f) ((linesn : Nat) : Int) = _
      unfold B_s_l01Lines_0
      rw [if_neg (by simp)]
  unfold Fo_s_l01Lines G_s_l01Lines
  show _ = some (if s_l01Field p = true then (if ((rows3 linesn linesl)).all (fun x => s_l01Line p x) = true then 0 else 2) else 1)
  cases hf : s_l01Field p
  · rfl
  · rw [key _ (by omega), all_rows3 linesn linesl]
    rfl
def run_s_l01Lines : List PV → Option (Bool × List TR)
  | [.v (.int .i64 p), .s linesn (.ints linesl)] => some (lenB linesn 3 linesl, enc_i (s_l01Lines p (rows3 linesn linesl)))
  | _ => none
theorem sound_s_l01Lines : Sound Tryz.prog 150 run_s_l01Lines := by
  refine sound_of de_i SO_s_l01Lines (by kernel_rfl) Tryz.func150 Tryz.ntmps150 rfl (by kernel_rfl) ?_
  intro W pvs avs rs hargs hrun
  unfold run_s_l01Lines at hrun
  split at hrun
  · simp only [Option.some.injEq, Prod.mk.injEq] at hrun
    obtain ⟨hp, rfl⟩ := hrun
    rename_i p linesn linesl
    exact ⟨_, _, _, hargs, rfl, (eq_s_l01Lines _ p linesn linesl).trans (tot_s_l01Lines p linesn linesl hp)⟩
  · cases hrun

def S_s_l01Minus : Sums := ⟨tblS [(134, run_s_l01Mod)], tblM []⟩
theorem SO_s_l01Minus : SumsOK Tryz.prog S_s_l01Minus := ⟨tblS_ok ⟨⟨Tryz.call134, sound_s_l01Mod⟩, True.intro⟩, tblM_ok True.intro⟩
def Fo_s_l01Minus (p : Int) (a : Int × Int) (b : Int × Int) : Option (Int × Int) :=
  (if (prB p) = true then (if (prB p) = true then some ((s_l01Mod (wI (a.1 - b.1)) p), (s_l01Mod (wI (a.2 - b.2)) p)) else none) else none)
theorem eq_s_l01Minus (p : Int) (a : Int × Int) (b : Int × Int) : execT Tryz.prog S_s_l01Minus 129 22 (fun _ => 1000000) dec_a2 [.v (.int .i64 p), .v (.agg ⟨[.int .i64 a.1, .int .i64 a.2]⟩), .v (.agg ⟨[.int .i64 b.1, .int .i64 b.2]⟩)] = Fo_s_l01Minus p a b := by
  kernel_rfl
def s_l01Minus (p : Int) (a : Int × Int) (b : Int × Int) : Int × Int :=
  ((s_l01Mod (wrap64 (a.1 - b.1)) p), (s_l01Mod (wrap64 (a.2 - b.2)) p))
theorem tot_s_l01Minus (p : Int) (a : Int × Int) (b : Int × Int) (hp : (prB p) = true) : Fo_s_l01Minus p a b = some (s_l01Minus p a b) := by
  try have h0 := prB_ne hp
  unfold Fo_s_l01Minus s_l01Minus
  (try simp only [wI_eq])
  repeat' (first | with_reducible rfl | with_reducible refine chk_opt hp ?_ | with_reducible refine chk_opt h0 ?_ | refine chk_opt (and_all hp fun _ => hp) ?_ | refine chk_opt (and_all hp fun _ => rfl) ?_ | refine ite_opt (fun _ => ?_) (fun _ => ?_) | rfl)
def run_s_l01Minus : List PV → Option (Bool × List TR)
  | [.v (.int .i64 p), .v (.agg ⟨[.int .i64 a0, .int .i64 a1]⟩), .v (.agg ⟨[.int .i64 b0, .int .i64 b1]⟩)] => some (prB p, enc_a2 (s_l01Minus p (a0, a1) (b0, b1)))
  | _ => none
theorem sound_s_l01Minus : Sound Tryz.prog 129 run_s_l01Minus := by
  refine sound_of de_a2 SO_s_l01Minus (by kernel_rfl) Tryz.func129 Tryz.ntmps129 rfl (by kernel_rfl) ?_
  intro W pvs avs rs hargs hrun
  unfold run_s_l01Minus at hrun
  split at hrun
  · simp only [Option.some.injEq, Prod.mk.injEq] at hrun
    obtain ⟨hp, rfl⟩ := hrun
    rename_i p a0 a1 b0 b1
    exact ⟨_, _, _, hargs, rfl, (eq_s_l01Minus p (a0, a1) (b0, b1)).trans (tot_s_l01Minus p (a0, a1) (b0, b1) hp)⟩
  · cases hrun

def S_s_l02Direction : Sums := ⟨tblS [(134, run_s_l01Mod)], tblM []⟩
theorem SO_s_l02Direction : SumsOK Tryz.prog S_s_l02Direction := ⟨tblS_ok ⟨⟨Tryz.call134, sound_s_l01Mod⟩, True.intro⟩, tblM_ok True.intro⟩
def Fo_s_l02Direction (p : Int) (l : Int × Int × Int) : Option (Int × Int) :=
  (if (prB p) = true then some ((s_l01Mod (wI (0 - l.2.1)) p), l.1) else none)
theorem eq_s_l02Direction (p : Int) (l : Int × Int × Int) : execT Tryz.prog S_s_l02Direction 142 13 (fun _ => 1000000) dec_a2 [.v (.int .i64 p), .v (.agg ⟨[.int .i64 l.1, .int .i64 l.2.1, .int .i64 l.2.2]⟩)] = Fo_s_l02Direction p l := by
  kernel_rfl
def s_l02Direction (p : Int) (l : Int × Int × Int) : Int × Int :=
  ((s_l01Mod (wrap64 (0 - l.2.1)) p), l.1)
theorem tot_s_l02Direction (p : Int) (l : Int × Int × Int) (hp : (prB p) = true) : Fo_s_l02Direction p l = some (s_l02Direction p l) := by
  try have h0 := prB_ne hp
  unfold Fo_s_l02Direction s_l02Direction
  (try simp only [wI_eq])
  repeat' (first | with_reducible rfl | with_reducible refine chk_opt hp ?_ | with_reducible refine chk_opt h0 ?_ | refine chk_opt (and_all hp fun _ => hp) ?_ | refine chk_opt (and_all hp fun _ => rfl) ?_ | refine ite_opt (fun _ => ?_) (fun _ => ?_) | rfl)
def run_s_l02Direction : List PV → Option (Bool × List TR)
  | [.v (.int .i64 p), .v (.agg ⟨[.int .i64 l0, .int .i64 l1, .int .i64 l2]⟩)] => some (prB p, enc_a2 (s_l02Direction p (l0, l1, l2)))
  | _ => none
theorem sound_s_l02Direction : Sound Tryz.prog 142 run_s_l02Direction := by
  refine sound_of de_a2 SO_s_l02Direction (by kernel_rfl) Tryz.func142 Tryz.ntmps142 rfl (by kernel_rfl) ?_
  intro W pvs avs rs hargs hrun
  unfold run_s_l02Direction at hrun
  split at hrun
  · simp only [Option.some.injEq, Prod.mk.injEq] at hrun
    obtain ⟨hp, rfl⟩ := hrun
    rename_i p l0 l1 l2
    exact ⟨_, _, _, hargs, rfl, (eq_s_l02Direction p (l0, l1, l2)).trans (tot_s_l02Direction p (l0, l1, l2) hp)⟩
  · cases hrun

def S_s_l02Product : Sums := ⟨tblS [(134, run_s_l01Mod)], tblM []⟩
theorem SO_s_l02Product : SumsOK Tryz.prog S_s_l02Product := ⟨tblS_ok ⟨⟨Tryz.call134, sound_s_l01Mod⟩, True.intro⟩, tblM_ok True.intro⟩
def Fo_s_l02Product (p : Int) (colour : Int) (a : Int × Int) (b : Int × Int) : Option (Int) :=
  (if (colour == 0) = true then (if (prB p) = true then some (s_l01Mod (wI ((wI (a.1 * b.1)) + (wI (a.2 * b.2)))) p) else none) else (if (colour == 1) = true then (if (prB p) = true then some (s_l01Mod (wI ((wI (a.1 * b.1)) - (wI (a.2 * b.2)))) p) else none) else (if (prB p) = true then some (s_l01Mod (wI ((wI (a.1 * b.2)) + (wI (a.2 * b.1)))) p) else none)))
theorem eq_s_l02Product (p : Int) (colour : Int) (a : Int × Int) (b : Int × Int) : execT Tryz.prog S_s_l02Product 151 53 (fun _ => 1000000) dec_i [.v (.int .i64 p), .v (.int .i64 colour), .v (.agg ⟨[.int .i64 a.1, .int .i64 a.2]⟩), .v (.agg ⟨[.int .i64 b.1, .int .i64 b.2]⟩)] = Fo_s_l02Product p colour a b := by
  kernel_rfl
def s_l02Product (p : Int) (colour : Int) (a : Int × Int) (b : Int × Int) : Int :=
  (if (colour == 0) = true then (s_l01Mod (wrap64 ((wrap64 (a.1 * b.1)) + (wrap64 (a.2 * b.2)))) p) else (if (colour == 1) = true then (s_l01Mod (wrap64 ((wrap64 (a.1 * b.1)) - (wrap64 (a.2 * b.2)))) p) else (s_l01Mod (wrap64 ((wrap64 (a.1 * b.2)) + (wrap64 (a.2 * b.1)))) p)))
theorem tot_s_l02Product (p : Int) (colour : Int) (a : Int × Int) (b : Int × Int) (hp : (prB p) = true) : Fo_s_l02Product p colour a b = some (s_l02Product p colour a b) := by
  try have h0 := prB_ne hp
  unfold Fo_s_l02Product s_l02Product
  (try simp only [wI_eq])
  repeat' (first | with_reducible rfl | with_reducible refine chk_opt hp ?_ | with_reducible refine chk_opt h0 ?_ | refine chk_opt (and_all hp fun _ => hp) ?_ | refine chk_opt (and_all hp fun _ => rfl) ?_ | refine ite_opt (fun _ => ?_) (fun _ => ?_) | rfl)
def run_s_l02Product : List PV → Option (Bool × List TR)
  | [.v (.int .i64 p), .v (.int .i64 colour), .v (.agg ⟨[.int .i64 a0, .int .i64 a1]⟩), .v (.agg ⟨[.int .i64 b0, .int .i64 b1]⟩)] => some (prB p, enc_i (s_l02Product p colour (a0, a1) (b0, b1)))
  | _ => none
theorem sound_s_l02Product : Sound Tryz.prog 151 run_s_l02Product := by
  refine sound_of de_i SO_s_l02Product (by kernel_rfl) Tryz.func151 Tryz.ntmps151 rfl (by kernel_rfl) ?_
  intro W pvs avs rs hargs hrun
  unfold run_s_l02Product at hrun
  split at hrun
  · simp only [Option.some.injEq, Prod.mk.injEq] at hrun
    obtain ⟨hp, rfl⟩ := hrun
    rename_i p colour a0 a1 b0 b1
    exact ⟨_, _, _, hargs, rfl, (eq_s_l02Product p colour (a0, a1) (b0, b1)).trans (tot_s_l02Product p colour (a0, a1) (b0, b1) hp)⟩
  · cases hrun

def S_s_l02Quadrance : Sums := ⟨tblS [(129, run_s_l01Minus), (151, run_s_l02Product)], tblM []⟩
theorem SO_s_l02Quadrance : SumsOK Tryz.prog S_s_l02Quadrance := ⟨tblS_ok ⟨⟨Tryz.call129, sound_s_l01Minus⟩, ⟨Tryz.call151, sound_s_l02Product⟩, True.intro⟩, tblM_ok True.intro⟩
def Fo_s_l02Quadrance (p : Int) (colour : Int) (a : Int × Int) (b : Int × Int) : Option (Int) :=
  (if (prB p) = true then (if (prB p) = true then some (s_l02Product p colour (s_l01Minus p b a) (s_l01Minus p b a)) else none) else none)
theorem eq_s_l02Quadrance (p : Int) (colour : Int) (a : Int × Int) (b : Int × Int) : execT Tryz.prog S_s_l02Quadrance 128 19 (fun _ => 1000000) dec_i [.v (.int .i64 p), .v (.int .i64 colour), .v (.agg ⟨[.int .i64 a.1, .int .i64 a.2]⟩), .v (.agg ⟨[.int .i64 b.1, .int .i64 b.2]⟩)] = Fo_s_l02Quadrance p colour a b := by
  kernel_rfl
def s_l02Quadrance (p : Int) (colour : Int) (a : Int × Int) (b : Int × Int) : Int :=
  (s_l02Product p colour (s_l01Minus p b a) (s_l01Minus p b a))
theorem tot_s_l02Quadrance (p : Int) (colour : Int) (a : Int × Int) (b : Int × Int) (hp : (prB p) = true) : Fo_s_l02Quadrance p colour a b = some (s_l02Quadrance p colour a b) := by
  try have h0 := prB_ne hp
  unfold Fo_s_l02Quadrance s_l02Quadrance
  (try simp only [wI_eq])
  repeat' (first | with_reducible rfl | with_reducible refine chk_opt hp ?_ | with_reducible refine chk_opt h0 ?_ | refine chk_opt (and_all hp fun _ => hp) ?_ | refine chk_opt (and_all hp fun _ => rfl) ?_ | refine ite_opt (fun _ => ?_) (fun _ => ?_) | rfl)
def run_s_l02Quadrance : List PV → Option (Bool × List TR)
  | [.v (.int .i64 p), .v (.int .i64 colour), .v (.agg ⟨[.int .i64 a0, .int .i64 a1]⟩), .v (.agg ⟨[.int .i64 b0, .int .i64 b1]⟩)] => some (prB p, enc_i (s_l02Quadrance p colour (a0, a1) (b0, b1)))
  | _ => none
theorem sound_s_l02Quadrance : Sound Tryz.prog 128 run_s_l02Quadrance := by
  refine sound_of de_i SO_s_l02Quadrance (by kernel_rfl) Tryz.func128 Tryz.ntmps128 rfl (by kernel_rfl) ?_
  intro W pvs avs rs hargs hrun
  unfold run_s_l02Quadrance at hrun
  split at hrun
  · simp only [Option.some.injEq, Prod.mk.injEq] at hrun
    obtain ⟨hp, rfl⟩ := hrun
    rename_i p colour a0 a1 b0 b1
    exact ⟨_, _, _, hargs, rfl, (eq_s_l02Quadrance p colour (a0, a1) (b0, b1)).trans (tot_s_l02Quadrance p colour (a0, a1) (b0, b1) hp)⟩
  · cases hrun

def S_s_l03Colour : Sums := ⟨tblS [(150, run_s_l01Lines), (94, run_s_l01In)], tblM []⟩
theorem SO_s_l03Colour : SumsOK Tryz.prog S_s_l03Colour := ⟨tblS_ok ⟨⟨Tryz.call150, sound_s_l01Lines⟩, ⟨Tryz.call94, sound_s_l01In⟩, True.intro⟩, tblM_ok True.intro⟩
def Fo_s_l03Colour (p : Int) (colour : Int) (linesn : Nat) (linesl : List Int) : Option (Int) :=
  (if (lenB linesn 3 linesl) = true then (if ((s_l01Lines p (rows3 linesn linesl)) == 0) = true then (if (!(s_l01In colour 0 2)) = true then some 2 else some (s_l01Lines p (rows3 linesn linesl))) else some (s_l01Lines p (rows3 linesn linesl))) else none)
theorem eq_s_l03Colour (p : Int) (colour : Int) (linesn : Nat) (linesl : List Int) : execT Tryz.prog S_s_l03Colour 108 19 (fun _ => 1000000) dec_i [.v (.int .i64 p), .v (.int .i64 colour), .s linesn (.ints linesl)] = Fo_s_l03Colour p colour linesn linesl := by
  kernel_rfl
def s_l03Colour (p : Int) (colour : Int) (linesn : Nat) (linesl : List Int) : Int :=
  (if ((s_l01Lines p (rows3 linesn linesl)) == 0) = true then (if (!(s_l01In colour 0 2)) = true then 2 else (s_l01Lines p (rows3 linesn linesl))) else (s_l01Lines p (rows3 linesn linesl)))
theorem tot_s_l03Colour (p : Int) (colour : Int) (linesn : Nat) (linesl : List Int) (hp : (lenB linesn 3 linesl) = true) : Fo_s_l03Colour p colour linesn linesl = some (s_l03Colour p colour linesn linesl) := by
  try have h0 := prB_ne hp
  unfold Fo_s_l03Colour s_l03Colour
  (try simp only [wI_eq])
  repeat' (first | with_reducible rfl | with_reducible refine chk_opt hp ?_ | with_reducible refine chk_opt h0 ?_ | refine chk_opt (and_all hp fun _ => hp) ?_ | refine chk_opt (and_all hp fun _ => rfl) ?_ | refine ite_opt (fun _ => ?_) (fun _ => ?_) | rfl)
def run_s_l03Colour : List PV → Option (Bool × List TR)
  | [.v (.int .i64 p), .v (.int .i64 colour), .s linesn (.ints linesl)] => some (lenB linesn 3 linesl, enc_i (s_l03Colour p colour linesn linesl))
  | _ => none
theorem sound_s_l03Colour : Sound Tryz.prog 108 run_s_l03Colour := by
  refine sound_of de_i SO_s_l03Colour (by kernel_rfl) Tryz.func108 Tryz.ntmps108 rfl (by kernel_rfl) ?_
  intro W pvs avs rs hargs hrun
  unfold run_s_l03Colour at hrun
  split at hrun
  · simp only [Option.some.injEq, Prod.mk.injEq] at hrun
    obtain ⟨hp, rfl⟩ := hrun
    rename_i p colour linesn linesl
    exact ⟨_, _, _, hargs, rfl, (eq_s_l03Colour p colour linesn linesl).trans (tot_s_l03Colour p colour linesn linesl hp)⟩
  · cases hrun

theorem l03Colour_prB {p : Int} {c : Int} {n : Nat} {l : List Int} (h : ¬ (s_l03Colour p c n l != 0) = true) : prB p = true := by
  refine Pr_prB (i_IsField_ok ?_)
  have h : s_l03Colour p c n l = 0 := by simpa using h
  cases hf : i_IsField p
  · simp [s_l03Colour, s_l01Lines, s_l01Field, hf] at h
  · rfl
theorem l03Colour_prB0 {p : Int} {c : Int} {n : Nat} {l : List Int} (h : (s_l03Colour p c n l == 0) = true) : prB p = true := l03Colour_prB (by simpa using h)
def S_s_l03Null : Sums := ⟨tblS [(142, run_s_l02Direction), (151, run_s_l02Product)], tblM []⟩
theorem SO_s_l03Null : SumsOK Tryz.prog S_s_l03Null := ⟨tblS_ok ⟨⟨Tryz.call142, sound_s_l02Direction⟩, ⟨Tryz.call151, sound_s_l02Product⟩, True.intro⟩, tblM_ok True.intro⟩
def Fo_s_l03Null (p : Int) (colour : Int) (l : Int × Int × Int) : Option (Bool) :=
  (if (prB p) = true then (if (prB p) = true then some ((s_l02Product p colour (s_l02Direction p l) (s_l02Direction p l)) == 0) else none) else none)
theorem eq_s_l03Null (p : Int) (colour : Int) (l : Int × Int × Int) : execT Tryz.prog S_s_l03Null 109 17 (fun _ => 1000000) dec_b [.v (.int .i64 p), .v (.int .i64 colour), .v (.agg ⟨[.int .i64 l.1, .int .i64 l.2.1, .int .i64 l.2.2]⟩)] = Fo_s_l03Null p colour l := by
  kernel_rfl
def s_l03Null (p : Int) (colour : Int) (l : Int × Int × Int) : Bool :=
  (s_l02Product p colour (s_l02Direction p l) (s_l02Direction p l)) == 0
theorem tot_s_l03Null (p : Int) (colour : Int) (l : Int × Int × Int) (hp : (prB p) = true) : Fo_s_l03Null p colour l = some (s_l03Null p colour l) := by
  try have h0 := prB_ne hp
  unfold Fo_s_l03Null s_l03Null
  (try simp only [wI_eq])
  repeat' (first | with_reducible rfl | with_reducible refine chk_opt hp ?_ | with_reducible refine chk_opt h0 ?_ | refine chk_opt (and_all hp fun _ => hp) ?_ | refine chk_opt (and_all hp fun _ => rfl) ?_ | refine ite_opt (fun _ => ?_) (fun _ => ?_) | rfl)
def run_s_l03Null : List PV → Option (Bool × List TR)
  | [.v (.int .i64 p), .v (.int .i64 colour), .v (.agg ⟨[.int .i64 l0, .int .i64 l1, .int .i64 l2]⟩)] => some (prB p, enc_b (s_l03Null p colour (l0, l1, l2)))
  | _ => none
theorem sound_s_l03Null : Sound Tryz.prog 109 run_s_l03Null := by
  refine sound_of de_b SO_s_l03Null (by kernel_rfl) Tryz.func109 Tryz.ntmps109 rfl (by kernel_rfl) ?_
  intro W pvs avs rs hargs hrun
  unfold run_s_l03Null at hrun
  split at hrun
  · simp only [Option.some.injEq, Prod.mk.injEq] at hrun
    obtain ⟨hp, rfl⟩ := hrun
    rename_i p colour l0 l1 l2
    exact ⟨_, _, _, hargs, rfl, (eq_s_l03Null p colour (l0, l1, l2)).trans (tot_s_l03Null p colour (l0, l1, l2) hp)⟩
  · cases hrun

def S_s_l03Points : Sums := ⟨tblS [(87, run_s_l01Code), (94, run_s_l01In)], tblM []⟩
theorem SO_s_l03Points : SumsOK Tryz.prog S_s_l03Points := ⟨tblS_ok ⟨⟨Tryz.call87, sound_s_l01Code⟩, ⟨Tryz.call94, sound_s_l01In⟩, True.intro⟩, tblM_ok True.intro⟩
def Fo_s_l03Points (p : Int) (colour : Int) (pointsn : Nat) (pointsl : List Int) : Option (Int) :=
  (if (lenB pointsn 2 pointsl) = true then (if ((s_l01Code p (rows2 pointsn pointsl)) == 0) = true then (if (!(s_l01In colour 0 2)) = true then some 2 else some (s_l01Code p (rows2 pointsn pointsl))) else some (s_l01Code p (rows2 pointsn pointsl))) else none)
theorem eq_s_l03Points (p : Int) (colour : Int) (pointsn : Nat) (pointsl : List Int) : execT Tryz.prog S_s_l03Points 118 19 (fun _ => 1000000) dec_i [.v (.int .i64 p), .v (.int .i64 colour), .s pointsn (.ints pointsl)] = Fo_s_l03Points p colour pointsn pointsl := by
  kernel_rfl
def s_l03Points (p : Int) (colour : Int) (pointsn : Nat) (pointsl : List Int) : Int :=
  (if ((s_l01Code p (rows2 pointsn pointsl)) == 0) = true then (if (!(s_l01In colour 0 2)) = true then 2 else (s_l01Code p (rows2 pointsn pointsl))) else (s_l01Code p (rows2 pointsn pointsl)))
theorem tot_s_l03Points (p : Int) (colour : Int) (pointsn : Nat) (pointsl : List Int) (hp : (lenB pointsn 2 pointsl) = true) : Fo_s_l03Points p colour pointsn pointsl = some (s_l03Points p colour pointsn pointsl) := by
  try have h0 := prB_ne hp
  unfold Fo_s_l03Points s_l03Points
  (try simp only [wI_eq])
  repeat' (first | with_reducible rfl | with_reducible refine chk_opt hp ?_ | with_reducible refine chk_opt h0 ?_ | refine chk_opt (and_all hp fun _ => hp) ?_ | refine chk_opt (and_all hp fun _ => rfl) ?_ | refine ite_opt (fun _ => ?_) (fun _ => ?_) | rfl)
def run_s_l03Points : List PV → Option (Bool × List TR)
  | [.v (.int .i64 p), .v (.int .i64 colour), .s pointsn (.ints pointsl)] => some (lenB pointsn 2 pointsl, enc_i (s_l03Points p colour pointsn pointsl))
  | _ => none
theorem sound_s_l03Points : Sound Tryz.prog 118 run_s_l03Points := by
  refine sound_of de_i SO_s_l03Points (by kernel_rfl) Tryz.func118 Tryz.ntmps118 rfl (by kernel_rfl) ?_
  intro W pvs avs rs hargs hrun
  unfold run_s_l03Points at hrun
  split at hrun
  · simp only [Option.some.injEq, Prod.mk.injEq] at hrun
    obtain ⟨hp, rfl⟩ := hrun
    rename_i p colour pointsn pointsl
    exact ⟨_, _, _, hargs, rfl, (eq_s_l03Points p colour pointsn pointsl).trans (tot_s_l03Points p colour pointsn pointsl hp)⟩
  · cases hrun

def S_s_l07Lead : Sums := ⟨tblS [(134, run_s_l01Mod)], tblM []⟩
theorem SO_s_l07Lead : SumsOK Tryz.prog S_s_l07Lead := ⟨tblS_ok ⟨⟨Tryz.call134, sound_s_l01Mod⟩, True.intro⟩, tblM_ok True.intro⟩
def Fo_s_l07Lead (p : Int) (m : Int × Int × Int × Int × Int × Int) (a : Int × Int) : Option (Int × Int) :=
  (if (prB p) = true then (if (prB p) = true then some ((s_l01Mod (wI ((wI (m.1 * a.1)) + (wI (m.2.1 * a.2)))) p), (s_l01Mod (wI ((wI (m.2.2.1 * a.1)) + (wI (m.2.2.2.1 * a.2)))) p)) else none) else none)
theorem eq_s_l07Lead (p : Int) (m : Int × Int × Int × Int × Int × Int) (a : Int × Int) : execT Tryz.prog S_s_l07Lead 130 38 (fun _ => 1000000) dec_a2 [.v (.int .i64 p), .v (.agg ⟨[.int .i64 m.1, .int .i64 m.2.1, .int .i64 m.2.2.1, .int .i64 m.2.2.2.1, .int .i64 m.2.2.2.2.1, .int .i64 m.2.2.2.2.2]⟩), .v (.agg ⟨[.int .i64 a.1, .int .i64 a.2]⟩)] = Fo_s_l07Lead p m a := by
  kernel_rfl
def s_l07Lead (p : Int) (m : Int × Int × Int × Int × Int × Int) (a : Int × Int) : Int × Int :=
  ((s_l01Mod (wrap64 ((wrap64 (m.1 * a.1)) + (wrap64 (m.2.1 * a.2)))) p), (s_l01Mod (wrap64 ((wrap64 (m.2.2.1 * a.1)) + (wrap64 (m.2.2.2.1 * a.2)))) p))
theorem tot_s_l07Lead (p : Int) (m : Int × Int × Int × Int × Int × Int) (a : Int × Int) (hp : (prB p) = true) : Fo_s_l07Lead p m a = some (s_l07Lead p m a) := by
  try have h0 := prB_ne hp
  unfold Fo_s_l07Lead s_l07Lead
  (try simp only [wI_eq])
  repeat' (first | with_reducible rfl | with_reducible refine chk_opt hp ?_ | with_reducible refine chk_opt h0 ?_ | refine chk_opt (and_all hp fun _ => hp) ?_ | refine chk_opt (and_all hp fun _ => rfl) ?_ | refine ite_opt (fun _ => ?_) (fun _ => ?_) | rfl)
def run_s_l07Lead : List PV → Option (Bool × List TR)
  | [.v (.int .i64 p), .v (.agg ⟨[.int .i64 m0, .int .i64 m1, .int .i64 m2, .int .i64 m3, .int .i64 m4, .int .i64 m5]⟩), .v (.agg ⟨[.int .i64 a0, .int .i64 a1]⟩)] => some (prB p, enc_a2 (s_l07Lead p (m0, m1, m2, m3, m4, m5) (a0, a1)))
  | _ => none
theorem sound_s_l07Lead : Sound Tryz.prog 130 run_s_l07Lead := by
  refine sound_of de_a2 SO_s_l07Lead (by kernel_rfl) Tryz.func130 Tryz.ntmps130 rfl (by kernel_rfl) ?_
  intro W pvs avs rs hargs hrun
  unfold run_s_l07Lead at hrun
  split at hrun
  · simp only [Option.some.injEq, Prod.mk.injEq] at hrun
    obtain ⟨hp, rfl⟩ := hrun
    rename_i p m0 m1 m2 m3 m4 m5 a0 a1
    exact ⟨_, _, _, hargs, rfl, (eq_s_l07Lead p (m0, m1, m2, m3, m4, m5) (a0, a1)).trans (tot_s_l07Lead p (m0, m1, m2, m3, m4, m5) (a0, a1) hp)⟩
  · cases hrun

def S_s_l07About : Sums := ⟨tblS [(130, run_s_l07Lead), (129, run_s_l01Minus)], tblM []⟩
theorem SO_s_l07About : SumsOK Tryz.prog S_s_l07About := ⟨tblS_ok ⟨⟨Tryz.call130, sound_s_l07Lead⟩, ⟨Tryz.call129, sound_s_l01Minus⟩, True.intro⟩, tblM_ok True.intro⟩
def Fo_s_l07About (p : Int) (m : Int × Int × Int × Int × Int × Int) (a : Int × Int) : Option (Int × Int × Int × Int × Int × Int) :=
  (if (prB p) = true then (if (prB p) = true then some (m.1, m.2.1, m.2.2.1, m.2.2.2.1, (s_l01Minus p a (s_l07Lead p m a)).1, (s_l01Minus p a (s_l07Lead p m a)).2) else none) else none)
theorem eq_s_l07About (p : Int) (m : Int × Int × Int × Int × Int × Int) (a : Int × Int) : execT Tryz.prog S_s_l07About 121 16 (fun _ => 1000000) dec_a6 [.v (.int .i64 p), .v (.agg ⟨[.int .i64 m.1, .int .i64 m.2.1, .int .i64 m.2.2.1, .int .i64 m.2.2.2.1, .int .i64 m.2.2.2.2.1, .int .i64 m.2.2.2.2.2]⟩), .v (.agg ⟨[.int .i64 a.1, .int .i64 a.2]⟩)] = Fo_s_l07About p m a := by
  kernel_rfl
def s_l07About (p : Int) (m : Int × Int × Int × Int × Int × Int) (a : Int × Int) : Int × Int × Int × Int × Int × Int :=
  (m.1, m.2.1, m.2.2.1, m.2.2.2.1, (s_l01Minus p a (s_l07Lead p m a)).1, (s_l01Minus p a (s_l07Lead p m a)).2)
theorem tot_s_l07About (p : Int) (m : Int × Int × Int × Int × Int × Int) (a : Int × Int) (hp : (prB p) = true) : Fo_s_l07About p m a = some (s_l07About p m a) := by
  try have h0 := prB_ne hp
  unfold Fo_s_l07About s_l07About
  (try simp only [wI_eq])
  repeat' (first | with_reducible rfl | with_reducible refine chk_opt hp ?_ | with_reducible refine chk_opt h0 ?_ | refine chk_opt (and_all hp fun _ => hp) ?_ | refine chk_opt (and_all hp fun _ => rfl) ?_ | refine ite_opt (fun _ => ?_) (fun _ => ?_) | rfl)
def run_s_l07About : List PV → Option (Bool × List TR)
  | [.v (.int .i64 p), .v (.agg ⟨[.int .i64 m0, .int .i64 m1, .int .i64 m2, .int .i64 m3, .int .i64 m4, .int .i64 m5]⟩), .v (.agg ⟨[.int .i64 a0, .int .i64 a1]⟩)] => some (prB p, enc_a6 (s_l07About p (m0, m1, m2, m3, m4, m5) (a0, a1)))
  | _ => none
theorem sound_s_l07About : Sound Tryz.prog 121 run_s_l07About := by
  refine sound_of de_a6 SO_s_l07About (by kernel_rfl) Tryz.func121 Tryz.ntmps121 rfl (by kernel_rfl) ?_
  intro W pvs avs rs hargs hrun
  unfold run_s_l07About at hrun
  split at hrun
  · simp only [Option.some.injEq, Prod.mk.injEq] at hrun
    obtain ⟨hp, rfl⟩ := hrun
    rename_i p m0 m1 m2 m3 m4 m5 a0 a1
    exact ⟨_, _, _, hargs, rfl, (eq_s_l07About p (m0, m1, m2, m3, m4, m5) (a0, a1)).trans (tot_s_l07About p (m0, m1, m2, m3, m4, m5) (a0, a1) hp)⟩
  · cases hrun

def S_s_l07Less : Sums := ⟨tblS [], tblM []⟩
theorem SO_s_l07Less : SumsOK Tryz.prog S_s_l07Less := ⟨tblS_ok True.intro, tblM_ok True.intro⟩
def Fo_s_l07Less (m : Int × Int × Int × Int × Int × Int) (n_ : Int × Int × Int × Int × Int × Int) : Option (Bool) :=
  (if (m.1 != n_.1) = true then some (decide (m.1 < n_.1)) else (if (m.2.1 != n_.2.1) = true then some (decide (m.2.1 < n_.2.1)) else (if (m.2.2.1 != n_.2.2.1) = true then some (decide (m.2.2.1 < n_.2.2.1)) else (if (m.2.2.2.1 != n_.2.2.2.1) = true then some (decide (m.2.2.2.1 < n_.2.2.2.1)) else (if (m.2.2.2.2.1 != n_.2.2.2.2.1) = true then some (decide (m.2.2.2.2.1 < n_.2.2.2.2.1)) else some (decide (m.2.2.2.2.2 < n_.2.2.2.2.2)))))))
theorem eq_s_l07Less (m : Int × Int × Int × Int × Int × Int) (n_ : Int × Int × Int × Int × Int × Int) : execT Tryz.prog S_s_l07Less 157 49 (fun _ => 1000000) dec_b [.v (.agg ⟨[.int .i64 m.1, .int .i64 m.2.1, .int .i64 m.2.2.1, .int .i64 m.2.2.2.1, .int .i64 m.2.2.2.2.1, .int .i64 m.2.2.2.2.2]⟩), .v (.agg ⟨[.int .i64 n_.1, .int .i64 n_.2.1, .int .i64 n_.2.2.1, .int .i64 n_.2.2.2.1, .int .i64 n_.2.2.2.2.1, .int .i64 n_.2.2.2.2.2]⟩)] = Fo_s_l07Less m n_ := by
  kernel_rfl
def s_l07Less (m : Int × Int × Int × Int × Int × Int) (n_ : Int × Int × Int × Int × Int × Int) : Bool :=
  (if (m.1 != n_.1) = true then decide (m.1 < n_.1) else (if (m.2.1 != n_.2.1) = true then decide (m.2.1 < n_.2.1) else (if (m.2.2.1 != n_.2.2.1) = true then decide (m.2.2.1 < n_.2.2.1) else (if (m.2.2.2.1 != n_.2.2.2.1) = true then decide (m.2.2.2.1 < n_.2.2.2.1) else (if (m.2.2.2.2.1 != n_.2.2.2.2.1) = true then decide (m.2.2.2.2.1 < n_.2.2.2.2.1) else decide (m.2.2.2.2.2 < n_.2.2.2.2.2))))))
theorem tot_s_l07Less (m : Int × Int × Int × Int × Int × Int) (n_ : Int × Int × Int × Int × Int × Int) : Fo_s_l07Less m n_ = some (s_l07Less m n_) := by
  unfold Fo_s_l07Less s_l07Less
  (try simp only [wI_eq])
  repeat' (first | with_reducible rfl | refine ite_opt (fun _ => ?_) (fun _ => ?_) | rfl)
def run_s_l07Less : List PV → Option (Bool × List TR)
  | [.v (.agg ⟨[.int .i64 m0, .int .i64 m1, .int .i64 m2, .int .i64 m3, .int .i64 m4, .int .i64 m5]⟩), .v (.agg ⟨[.int .i64 n_0, .int .i64 n_1, .int .i64 n_2, .int .i64 n_3, .int .i64 n_4, .int .i64 n_5]⟩)] => some (true, enc_b (s_l07Less (m0, m1, m2, m3, m4, m5) (n_0, n_1, n_2, n_3, n_4, n_5)))
  | _ => none
theorem sound_s_l07Less : Sound Tryz.prog 157 run_s_l07Less := by
  refine sound_of de_b SO_s_l07Less (by kernel_rfl) Tryz.func157 Tryz.ntmps157 rfl (by kernel_rfl) ?_
  intro W pvs avs rs hargs hrun
  unfold run_s_l07Less at hrun
  split at hrun
  · simp only [Option.some.injEq, Prod.mk.injEq] at hrun
    obtain ⟨hp, rfl⟩ := hrun
    rename_i m0 m1 m2 m3 m4 m5 n_0 n_1 n_2 n_3 n_4 n_5
    exact ⟨_, _, _, hargs, rfl, (eq_s_l07Less (m0, m1, m2, m3, m4, m5) (n_0, n_1, n_2, n_3, n_4, n_5)).trans (tot_s_l07Less (m0, m1, m2, m3, m4, m5) (n_0, n_1, n_2, n_3, n_4, n_5))⟩
  · cases hrun

def S_s_l01Plus : Sums := ⟨tblS [(134, run_s_l01Mod)], tblM []⟩
theorem SO_s_l01Plus : SumsOK Tryz.prog S_s_l01Plus := ⟨tblS_ok ⟨⟨Tryz.call134, sound_s_l01Mod⟩, True.intro⟩, tblM_ok True.intro⟩
def Fo_s_l01Plus (p : Int) (a : Int × Int) (b : Int × Int) : Option (Int × Int) :=
  (if (prB p) = true then (if (prB p) = true then some ((s_l01Mod (wI (a.1 + b.1)) p), (s_l01Mod (wI (a.2 + b.2)) p)) else none) else none)
theorem eq_s_l01Plus (p : Int) (a : Int × Int) (b : Int × Int) : execT Tryz.prog S_s_l01Plus 141 22 (fun _ => 1000000) dec_a2 [.v (.int .i64 p), .v (.agg ⟨[.int .i64 a.1, .int .i64 a.2]⟩), .v (.agg ⟨[.int .i64 b.1, .int .i64 b.2]⟩)] = Fo_s_l01Plus p a b := by
  kernel_rfl
def s_l01Plus (p : Int) (a : Int × Int) (b : Int × Int) : Int × Int :=
  ((s_l01Mod (wrap64 (a.1 + b.1)) p), (s_l01Mod (wrap64 (a.2 + b.2)) p))
theorem tot_s_l01Plus (p : Int) (a : Int × Int) (b : Int × Int) (hp : (prB p) = true) : Fo_s_l01Plus p a b = some (s_l01Plus p a b) := by
  try have h0 := prB_ne hp
  unfold Fo_s_l01Plus s_l01Plus
  (try simp only [wI_eq])
  repeat' (first | with_reducible rfl | with_reducible refine chk_opt hp ?_ | with_reducible refine chk_opt h0 ?_ | refine chk_opt (and_all hp fun _ => hp) ?_ | refine chk_opt (and_all hp fun _ => rfl) ?_ | refine ite_opt (fun _ => ?_) (fun _ => ?_) | rfl)
def run_s_l01Plus : List PV → Option (Bool × List TR)
  | [.v (.int .i64 p), .v (.agg ⟨[.int .i64 a0, .int .i64 a1]⟩), .v (.agg ⟨[.int .i64 b0, .int .i64 b1]⟩)] => some (prB p, enc_a2 (s_l01Plus p (a0, a1) (b0, b1)))
  | _ => none
theorem sound_s_l01Plus : Sound Tryz.prog 141 run_s_l01Plus := by
  refine sound_of de_a2 SO_s_l01Plus (by kernel_rfl) Tryz.func141 Tryz.ntmps141 rfl (by kernel_rfl) ?_
  intro W pvs avs rs hargs hrun
  unfold run_s_l01Plus at hrun
  split at hrun
  · simp only [Option.some.injEq, Prod.mk.injEq] at hrun
    obtain ⟨hp, rfl⟩ := hrun
    rename_i p a0 a1 b0 b1
    exact ⟨_, _, _, hargs, rfl, (eq_s_l01Plus p (a0, a1) (b0, b1)).trans (tot_s_l01Plus p (a0, a1) (b0, b1) hp)⟩
  · cases hrun

def S_s_l07Move : Sums := ⟨tblS [(130, run_s_l07Lead), (141, run_s_l01Plus)], tblM []⟩
theorem SO_s_l07Move : SumsOK Tryz.prog S_s_l07Move := ⟨tblS_ok ⟨⟨Tryz.call130, sound_s_l07Lead⟩, ⟨Tryz.call141, sound_s_l01Plus⟩, True.intro⟩, tblM_ok True.intro⟩
def Fo_s_l07Move (p : Int) (m : Int × Int × Int × Int × Int × Int) (a : Int × Int) : Option (Int × Int) :=
  (if (prB p) = true then (if (prB p) = true then some (s_l01Plus p (s_l07Lead p m a) m.2.2.2.2) else none) else none)
theorem eq_s_l07Move (p : Int) (m : Int × Int × Int × Int × Int × Int) (a : Int × Int) : execT Tryz.prog S_s_l07Move 88 15 (fun _ => 1000000) dec_a2 [.v (.int .i64 p), .v (.agg ⟨[.int .i64 m.1, .int .i64 m.2.1, .int .i64 m.2.2.1, .int .i64 m.2.2.2.1, .int .i64 m.2.2.2.2.1, .int .i64 m.2.2.2.2.2]⟩), .v (.agg ⟨[.int .i64 a.1, .int .i64 a.2]⟩)] = Fo_s_l07Move p m a := by
  kernel_rfl
def s_l07Move (p : Int) (m : Int × Int × Int × Int × Int × Int) (a : Int × Int) : Int × Int :=
  (s_l01Plus p (s_l07Lead p m a) m.2.2.2.2)
theorem tot_s_l07Move (p : Int) (m : Int × Int × Int × Int × Int × Int) (a : Int × Int) (hp : (prB p) = true) : Fo_s_l07Move p m a = some (s_l07Move p m a) := by
  try have h0 := prB_ne hp
  unfold Fo_s_l07Move s_l07Move
  (try simp only [wI_eq])
  repeat' (first | with_reducible rfl | with_reducible refine chk_opt hp ?_ | with_reducible refine chk_opt h0 ?_ | refine chk_opt (and_all hp fun _ => hp) ?_ | refine chk_opt (and_all hp fun _ => rfl) ?_ | refine ite_opt (fun _ => ?_) (fun _ => ?_) | rfl)
def run_s_l07Move : List PV → Option (Bool × List TR)
  | [.v (.int .i64 p), .v (.agg ⟨[.int .i64 m0, .int .i64 m1, .int .i64 m2, .int .i64 m3, .int .i64 m4, .int .i64 m5]⟩), .v (.agg ⟨[.int .i64 a0, .int .i64 a1]⟩)] => some (prB p, enc_a2 (s_l07Move p (m0, m1, m2, m3, m4, m5) (a0, a1)))
  | _ => none
theorem sound_s_l07Move : Sound Tryz.prog 88 run_s_l07Move := by
  refine sound_of de_a2 SO_s_l07Move (by kernel_rfl) Tryz.func88 Tryz.ntmps88 rfl (by kernel_rfl) ?_
  intro W pvs avs rs hargs hrun
  unfold run_s_l07Move at hrun
  split at hrun
  · simp only [Option.some.injEq, Prod.mk.injEq] at hrun
    obtain ⟨hp, rfl⟩ := hrun
    rename_i p m0 m1 m2 m3 m4 m5 a0 a1
    exact ⟨_, _, _, hargs, rfl, (eq_s_l07Move p (m0, m1, m2, m3, m4, m5) (a0, a1)).trans (tot_s_l07Move p (m0, m1, m2, m3, m4, m5) (a0, a1) hp)⟩
  · cases hrun


end

end Go.Proofs.YtoblkbpejfojjaaGreatDoor
