import Derived.Test.YtpffcfiojjgnlaaFe
import Derived.Test.YtpffcfiojjgnlaaProg
set_option linter.unusedSimpArgs false
set_option linter.unusedVariables false
namespace Go.Proofs.Ytpffcfiojjgnlaa
open Go.RowKit
noncomputable section
def S_i_areLines : Sums := ⟨tblS [(67, run_i_isLine)], tblM []⟩
theorem SO_i_areLines : SumsOK Try.prog S_i_areLines := ⟨tblS_ok ⟨⟨Try.call67, sound_i_isLine⟩, True.intro⟩, tblM_ok True.intro⟩
def T_i_areLines_0 (p : Int) (listn : Nat) (listl : List Int) (t9 : Int) : Tab := ⟨[.val (.int .i64 p), .row 4, .junk, .junk, .val (.bool false), .junk, .junk, .row 4, .val (.int .i64 ((listn : Nat) : Int)), .val (.int .i64 t9), .junk, .junk, .junk, .junk, .junk, .junk, .junk, .junk], [(4, .ros listn (.ints listl))]⟩
def X_i_areLines_0 (P : Program) (fu : Nat) (p : Int) (listn : Nat) (listl : List Int) (f : Nat) (t9 : Int) : Option (Bool) := loopK (exec P S_i_areLines 18 (fun _ => fu + 100) (Code.sub [1, 0, 1, 0, 0] (bodyF P 100))) f (T_i_areLines_0 p listn listl t9) (kBlock 0 (kSeq (fun s => exec P S_i_areLines 18 (fun _ => fu + 100) (Code.sub [1, 1] (bodyF P 100)) s (finT P 100 dec_b)) (finT P 100 dec_b)))
def B_i_areLines_0 (p : Int) (listn : Nat) (listl : List Int) (rec0 : Int → Option (Bool)) (t9 : Int) : Option (Bool) :=
  (if (decide (t9 < ((listn : Nat) : Int))) = true then (if (decide (0 ≤ t9) && decide (t9 < ((listn : Nat) : Int))) = true then (if (Nat.ble (t9.toNat * 3 + 3) listl.length) = true then (if (!(i_isLine p (listl.getD (t9.toNat * 3 + 0) 0, listl.getD (t9.toNat * 3 + 1) 0, listl.getD (t9.toNat * 3 + 2) 0))) = true then some false else rec0 (wI (t9 + 1))) else none) else none) else some true)
def L_i_areLines_0 (fu : Nat) (p : Int) (listn : Nat) (listl : List Int) : Nat → Int → Option (Bool)
  | 0, _ => none
  | f + 1, t9 => B_i_areLines_0 p listn listl (L_i_areLines_0 fu p listn listl f) t9
theorem loop_i_areLines_0 (fu : Nat) (p : Int) (listn : Nat) (listl : List Int) : ∀ (f : Nat) (t9 : Int), X_i_areLines_0 Try.prog fu p listn listl f t9 = L_i_areLines_0 fu p listn listl f t9 := by
  intro f
  induction f with
  | zero => intros; rfl
  | succ f ih =>
    intro t9
    have h1 : X_i_areLines_0 Try.prog fu p listn listl (f + 1) t9 = B_i_areLines_0 p listn listl (X_i_areLines_0 Try.prog fu p listn listl f) t9 := by kernel_rfl
    have h2 : X_i_areLines_0 Try.prog fu p listn listl f = L_i_areLines_0 fu p listn listl f := by funext t9; exact ih t9
    rw [h1, h2]
    rfl
def G_i_areLines (p : Int) (listn : Nat) (listl : List Int) (lo0 : Int → Option (Bool)) : Option (Bool) :=
  lo0 0
def Fo_i_areLines (fu : Nat) (p : Int) (listn : Nat) (listl : List Int) : Option (Bool) := G_i_areLines p listn listl (L_i_areLines_0 fu p listn listl (fu + 100))
theorem eqg_i_areLines (fu : Nat) (p : Int) (listn : Nat) (listl : List Int) : execT Try.prog S_i_areLines 100 18 (fun _ => fu + 100) dec_b [.v (.int .i64 p), .s listn (.ints listl)] = G_i_areLines p listn listl (L_i_areLines_0 fu p listn listl (fu + 100)) := by
  have h1 : execT Try.prog S_i_areLines 100 18 (fun _ => fu + 100) dec_b [.v (.int .i64 p), .s listn (.ints listl)] = G_i_areLines p listn listl (X_i_areLines_0 Try.prog fu p listn listl (fu + 100)) := by kernel_rfl
  have c0 : X_i_areLines_0 Try.prog fu p listn listl (fu + 100) = L_i_areLines_0 fu p listn listl (fu + 100) := by funext t9; exact loop_i_areLines_0 fu p listn listl (fu + 100) t9
  rw [h1, c0]
theorem eq_i_areLines (fu : Nat) (p : Int) (listn : Nat) (listl : List Int) : execT Try.prog S_i_areLines 100 18 (fun _ => fu + 100) dec_b [.v (.int .i64 p), .s listn (.ints listl)] = Fo_i_areLines fu p listn listl := eqg_i_areLines fu p listn listl
def i_areLines (p : Int) (l : List P3) : Bool := l.all (fun x => i_isLine p x)
theorem tot_i_areLines (p : Int) (listn : Nat) (listl : List Int) (hp : (lenB listn 3 listl) = true) : Fo_i_areLines listn p listn listl = some (i_areLines p (rows3 listn listl)) := by
  obtain ⟨hl, hn⟩ := lenB_ok hp
  have key : ∀ F, listn < F → (L_i_areLines_0 listn p listn listl) F 0 = some (if (List.range listn).all (fun k => (fun x => i_isLine p x) (listl.getD (k * 3) 0, listl.getD (k * 3 + 1) 0, listl.getD (k * 3 + 2) 0)) = true then true else false) := by
    intro F hF
    refine scan hF (fun f k hk => ?_) fun f => ?_
    · show B_i_areLines_0 p listn listl ((L_i_areLines_0 listn p listn listl) f) (k : Int) = _
      unfold B_i_areLines_0
      rw [if_pos (by simpa using hk), if_pos (by simpa using hk), if_pos (leb (by rw [hl, Int.toNat_natCast]; omega)), wrap_add1 hk (by omega)]
      first | rfl | (rw [wI_eq]; rfl)
    · show B_i_areLines_0 p listn listl ((L_i_areLines_0 listn p listn listl) f) ((listn : Nat) : Int) = _
      unfold B_i_areLines_0
      rw [if_neg (by simp)]
  unfold Fo_i_areLines G_i_areLines
  rw [key _ (by omega)]
  show _ = some (((rows3 listn listl)).all (fun x => i_isLine p x))
  rw [all_rows3 listn listl]
  cases (List.range listn).all (fun k => (fun x => i_isLine p x) (listl.getD (k * 3) 0, listl.getD (k * 3 + 1) 0, listl.getD (k * 3 + 2) 0)) <;> rfl
def run_i_areLines : List PV → Option (Bool × List TR)
  | [.v (.int .i64 p), .s listn (.ints listl)] => some (lenB listn 3 listl, enc_b (i_areLines p (rows3 listn listl)))
  | _ => none
theorem sound_i_areLines : Sound Try.prog 100 run_i_areLines := by
  refine sound_of de_b SO_i_areLines (by kernel_rfl) Try.func100 Try.ntmps100 rfl (by kernel_rfl) ?_
  intro W pvs avs rs hargs hrun
  unfold run_i_areLines at hrun
  split at hrun
  · simp only [Option.some.injEq, Prod.mk.injEq] at hrun
    obtain ⟨hp, rfl⟩ := hrun
    rename_i p listn listl
    exact ⟨_, _, _, hargs, rfl, (eq_i_areLines _ p listn listl).trans (tot_i_areLines p listn listl hp)⟩
  · cases hrun

def S_i_twoLines_c1 : Sums := ⟨tblS [(65, run_i_isColour), (100, run_i_areLines)], tblM []⟩
theorem SO_i_twoLines_c1 : SumsOK Try.prog S_i_twoLines_c1 := ⟨tblS_ok ⟨⟨Try.call65, sound_i_isColour⟩, ⟨Try.call100, sound_i_areLines⟩, True.intro⟩, tblM_ok True.intro⟩
def Fo_i_twoLines_c1 (c0 : Int) (c1 : Int) (c2 : Int × Int × Int) (c3 : Int × Int × Int) : Option (Bool) :=
  (if (i_isColour c0) = true then some (i_areLines c1 [c2, c3]) else some false)
theorem eq_i_twoLines_c1 (c0 : Int) (c1 : Int) (c2 : Int × Int × Int) (c3 : Int × Int × Int) : execT Try.prog S_i_twoLines_c1 130 14 (fun _ => 1000000) dec_b [.p [.int .i64 c0], .p [.int .i64 c1], .p [.int .i64 c2.1, .int .i64 c2.2.1, .int .i64 c2.2.2], .p [.int .i64 c3.1, .int .i64 c3.2.1, .int .i64 c3.2.2]] = Fo_i_twoLines_c1 c0 c1 c2 c3 := by
  kernel_rfl
def i_twoLines_c1 (c0 : Int) (c1 : Int) (c2 : Int × Int × Int) (c3 : Int × Int × Int) : Bool :=
  (if (i_isColour c0) = true then (i_areLines c1 [c2, c3]) else false)
theorem tot_i_twoLines_c1 (c0 : Int) (c1 : Int) (c2 : Int × Int × Int) (c3 : Int × Int × Int) : Fo_i_twoLines_c1 c0 c1 c2 c3 = some (i_twoLines_c1 c0 c1 c2 c3) := by
  unfold Fo_i_twoLines_c1 i_twoLines_c1
  (try simp only [wI_eq])
  repeat' (first | with_reducible rfl | refine ite_opt (fun _ => ?_) (fun _ => ?_) | rfl)
def run_i_twoLines_c1 : List PV → Option (Bool × List TR)
  | [.p [.int .i64 c0], .p [.int .i64 c1], .p [.int .i64 c20, .int .i64 c21, .int .i64 c22], .p [.int .i64 c30, .int .i64 c31, .int .i64 c32]] => some (true, enc_b (i_twoLines_c1 c0 c1 (c20, c21, c22) (c30, c31, c32)))
  | _ => none
theorem sound_i_twoLines_c1 : Sound Try.prog 130 run_i_twoLines_c1 := by
  refine sound_of de_b SO_i_twoLines_c1 (by kernel_rfl) Try.func130 Try.ntmps130 rfl (by kernel_rfl) ?_
  intro W pvs avs rs hargs hrun
  unfold run_i_twoLines_c1 at hrun
  split at hrun
  · simp only [Option.some.injEq, Prod.mk.injEq] at hrun
    obtain ⟨hp, rfl⟩ := hrun
    rename_i c0 c1 c20 c21 c22 c30 c31 c32
    exact ⟨_, _, _, hargs, rfl, (eq_i_twoLines_c1 c0 c1 (c20, c21, c22) (c30, c31, c32)).trans (tot_i_twoLines_c1 c0 c1 (c20, c21, c22) (c30, c31, c32))⟩
  · cases hrun

def S_i_twoLines : Sums := ⟨tblS [(54, run_i_asked), (130, run_i_twoLines_c1), (44, run_i_isNull)], tblM []⟩
theorem SO_i_twoLines : SumsOK Try.prog S_i_twoLines := ⟨tblS_ok ⟨⟨Try.call54, sound_i_asked⟩, ⟨Try.call130, sound_i_twoLines_c1⟩, ⟨Try.call44, sound_i_isNull⟩, True.intro⟩, tblM_ok True.intro⟩
def Fo_i_twoLines (p : Int) (colour : Int) (l : Int × Int × Int) (m : Int × Int × Int) : Option (Int) :=
  (if ((true) || !(i_IsField p)) = true then (if ((i_asked p (true) (i_twoLines_c1 colour p l m)) == 0) = true then (if (prB p) = true then (if (i_isNull p colour l) = true then some 5 else (if (prB p) = true then (if (i_isNull p colour m) = true then some 5 else some (i_asked p (true) (i_twoLines_c1 colour p l m))) else none)) else none) else some (i_asked p (true) (i_twoLines_c1 colour p l m))) else none)
theorem eq_i_twoLines (p : Int) (colour : Int) (l : Int × Int × Int) (m : Int × Int × Int) : execT Try.prog S_i_twoLines 92 28 (fun _ => 1000000) dec_i [.v (.int .i64 p), .v (.int .i64 colour), .v (.agg ⟨[.int .i64 l.1, .int .i64 l.2.1, .int .i64 l.2.2]⟩), .v (.agg ⟨[.int .i64 m.1, .int .i64 m.2.1, .int .i64 m.2.2]⟩)] = Fo_i_twoLines p colour l m := by
  kernel_rfl
def i_twoLines (p : Int) (colour : Int) (l : Int × Int × Int) (m : Int × Int × Int) : Int :=
  (if ((i_asked p (true) (i_twoLines_c1 colour p l m)) == 0) = true then (if (i_isNull p colour l) = true then 5 else (if (i_isNull p colour m) = true then 5 else (i_asked p (true) (i_twoLines_c1 colour p l m)))) else (i_asked p (true) (i_twoLines_c1 colour p l m)))
theorem tot_i_twoLines (p : Int) (colour : Int) (l : Int × Int × Int) (m : Int × Int × Int) : Fo_i_twoLines p colour l m = some (i_twoLines p colour l m) := by
  unfold Fo_i_twoLines i_twoLines
  (try simp only [wI_eq])
  repeat' (first | with_reducible rfl | refine chk_opt (by first | with_reducible rfl | exact Bool.true_or _ | (with_reducible exact asked_prB ‹_›) | (with_reducible exact asked_prB0 ‹_›) | exact mk_ok (by (first | (with_reducible assumption) | (with_reducible exact asked_prB ‹_›) | (with_reducible exact asked_prB0 ‹_›))) | exact and_all (by (first | (with_reducible assumption) | (with_reducible exact asked_prB ‹_›) | (with_reducible exact asked_prB0 ‹_›))) (fun _ => rfl) | exact and_all (by (first | (with_reducible assumption) | (with_reducible exact asked_prB ‹_›) | (with_reducible exact asked_prB0 ‹_›))) (fun _ => by (first | (with_reducible assumption) | (with_reducible exact asked_prB ‹_›) | (with_reducible exact asked_prB0 ‹_›))) | exact and3 (by (first | (with_reducible assumption) | (with_reducible exact asked_prB ‹_›) | (with_reducible exact asked_prB0 ‹_›))) (by (first | (with_reducible assumption) | (with_reducible exact asked_prB ‹_›) | (with_reducible exact asked_prB0 ‹_›))) (by (first | (with_reducible assumption) | (with_reducible exact asked_prB ‹_›) | (with_reducible exact asked_prB0 ‹_›))) | exact and_two (by (first | (with_reducible assumption) | (with_reducible exact asked_prB ‹_›) | (with_reducible exact asked_prB0 ‹_›))) rfl | rfl) ?_ | refine ite_opt (fun _ => ?_) (fun _ => ?_) | rfl)
def run_i_twoLines : List PV → Option (Bool × List TR)
  | [.v (.int .i64 p), .v (.int .i64 colour), .v (.agg ⟨[.int .i64 l0, .int .i64 l1, .int .i64 l2]⟩), .v (.agg ⟨[.int .i64 m0, .int .i64 m1, .int .i64 m2]⟩)] => some (true, enc_i (i_twoLines p colour (l0, l1, l2) (m0, m1, m2)))
  | _ => none
theorem sound_i_twoLines : Sound Try.prog 92 run_i_twoLines := by
  refine sound_of de_i SO_i_twoLines (by kernel_rfl) Try.func92 Try.ntmps92 rfl (by kernel_rfl) ?_
  intro W pvs avs rs hargs hrun
  unfold run_i_twoLines at hrun
  split at hrun
  · simp only [Option.some.injEq, Prod.mk.injEq] at hrun
    obtain ⟨hp, rfl⟩ := hrun
    rename_i p colour l0 l1 l2 m0 m1 m2
    exact ⟨_, _, _, hargs, rfl, (eq_i_twoLines p colour (l0, l1, l2) (m0, m1, m2)).trans (tot_i_twoLines p colour (l0, l1, l2) (m0, m1, m2))⟩
  · cases hrun

theorem twoLines_prB {p : Int} {c : Int} {l m : P3} (h : ¬ (i_twoLines p c l m != 0) = true) : prB p = true := by
  refine Pr_prB (i_IsField_ok ?_)
  have h : i_twoLines p c l m = 0 := by simpa using h
  cases hf : i_IsField p
  · simp [i_twoLines, i_asked, s_l01Field, hf] at h
  · rfl
theorem twoLines_prB0 {p : Int} {c : Int} {l m : P3} (h : (i_twoLines p c l m == 0) = true) : prB p = true := twoLines_prB (by simpa using h)
def S_i_cross : Sums := ⟨tblS [(131, run_i_way), (116, run_i_product), (115, run_i_rest), (58, run_i_divide)], tblM []⟩
theorem SO_i_cross : SumsOK Try.prog S_i_cross := ⟨tblS_ok ⟨⟨Try.call131, sound_i_way⟩, ⟨Try.call116, sound_i_product⟩, ⟨Try.call115, sound_i_rest⟩, ⟨Try.call58, sound_i_divide⟩, True.intro⟩, tblM_ok True.intro⟩
def Fo_i_cross (p : Int) (colour : Int) (l : Int × Int × Int) (m : Int × Int × Int) : Option (Int) :=
  (if (prB p) = true then (if (prB p) = true then (if (prB p) = true then (if (prB p) = true then (if (prB p) = true then (if (prB p) = true then (if (prB p) = true then some (i_divide p (wI ((i_product p colour (i_way p l) (i_way p m)) * (i_product p colour (i_way p l) (i_way p m)))) (i_rest p (wI ((i_product p colour (i_way p l) (i_way p l)) * (i_product p colour (i_way p m) (i_way p m)))))) else none) else none) else none) else none) else none) else none) else none)
theorem eq_i_cross (p : Int) (colour : Int) (l : Int × Int × Int) (m : Int × Int × Int) : execT Try.prog S_i_cross 126 41 (fun _ => 1000000) dec_i [.v (.int .i64 p), .v (.int .i64 colour), .v (.agg ⟨[.int .i64 l.1, .int .i64 l.2.1, .int .i64 l.2.2]⟩), .v (.agg ⟨[.int .i64 m.1, .int .i64 m.2.1, .int .i64 m.2.2]⟩)] = Fo_i_cross p colour l m := by
  kernel_rfl
def i_cross (p : Int) (colour : Int) (l : Int × Int × Int) (m : Int × Int × Int) : Int :=
  (i_divide p (wrap64 ((i_product p colour (i_way p l) (i_way p m)) * (i_product p colour (i_way p l) (i_way p m)))) (i_rest p (wrap64 ((i_product p colour (i_way p l) (i_way p l)) * (i_product p colour (i_way p m) (i_way p m))))))
theorem tot_i_cross (p : Int) (colour : Int) (l : Int × Int × Int) (m : Int × Int × Int) (hp : (prB p) = true) : Fo_i_cross p colour l m = some (i_cross p colour l m) := by
  try have h0 := prB_ne hp
  unfold Fo_i_cross i_cross
  (try simp only [wI_eq])
  repeat' (first | with_reducible rfl | with_reducible refine chk_opt hp ?_ | with_reducible refine chk_opt h0 ?_ | refine chk_opt (and_all hp fun _ => hp) ?_ | refine chk_opt (and_all hp fun _ => rfl) ?_ | refine ite_opt (fun _ => ?_) (fun _ => ?_) | rfl)
def run_i_cross : List PV → Option (Bool × List TR)
  | [.v (.int .i64 p), .v (.int .i64 colour), .v (.agg ⟨[.int .i64 l0, .int .i64 l1, .int .i64 l2]⟩), .v (.agg ⟨[.int .i64 m0, .int .i64 m1, .int .i64 m2]⟩)] => some (prB p, enc_i (i_cross p colour (l0, l1, l2) (m0, m1, m2)))
  | _ => none
theorem sound_i_cross : Sound Try.prog 126 run_i_cross := by
  refine sound_of de_i SO_i_cross (by kernel_rfl) Try.func126 Try.ntmps126 rfl (by kernel_rfl) ?_
  intro W pvs avs rs hargs hrun
  unfold run_i_cross at hrun
  split at hrun
  · simp only [Option.some.injEq, Prod.mk.injEq] at hrun
    obtain ⟨hp, rfl⟩ := hrun
    rename_i p colour l0 l1 l2 m0 m1 m2
    exact ⟨_, _, _, hargs, rfl, (eq_i_cross p colour (l0, l1, l2) (m0, m1, m2)).trans (tot_i_cross p colour (l0, l1, l2) (m0, m1, m2) hp)⟩
  · cases hrun

def S_i_spread : Sums := ⟨tblS [(126, run_i_cross), (115, run_i_rest)], tblM []⟩
theorem SO_i_spread : SumsOK Try.prog S_i_spread := ⟨tblS_ok ⟨⟨Try.call126, sound_i_cross⟩, ⟨Try.call115, sound_i_rest⟩, True.intro⟩, tblM_ok True.intro⟩
def Fo_i_spread (p : Int) (colour : Int) (l : Int × Int × Int) (m : Int × Int × Int) : Option (Int) :=
  (if (prB p) = true then (if (prB p) = true then some (i_rest p (wI (1 - (i_cross p colour l m)))) else none) else none)
theorem eq_i_spread (p : Int) (colour : Int) (l : Int × Int × Int) (m : Int × Int × Int) : execT Try.prog S_i_spread 86 17 (fun _ => 1000000) dec_i [.v (.int .i64 p), .v (.int .i64 colour), .v (.agg ⟨[.int .i64 l.1, .int .i64 l.2.1, .int .i64 l.2.2]⟩), .v (.agg ⟨[.int .i64 m.1, .int .i64 m.2.1, .int .i64 m.2.2]⟩)] = Fo_i_spread p colour l m := by
  kernel_rfl
def i_spread (p : Int) (colour : Int) (l : Int × Int × Int) (m : Int × Int × Int) : Int :=
  (i_rest p (wrap64 (1 - (i_cross p colour l m))))
theorem tot_i_spread (p : Int) (colour : Int) (l : Int × Int × Int) (m : Int × Int × Int) (hp : (prB p) = true) : Fo_i_spread p colour l m = some (i_spread p colour l m) := by
  try have h0 := prB_ne hp
  unfold Fo_i_spread i_spread
  (try simp only [wI_eq])
  repeat' (first | with_reducible rfl | with_reducible refine chk_opt hp ?_ | with_reducible refine chk_opt h0 ?_ | refine chk_opt (and_all hp fun _ => hp) ?_ | refine chk_opt (and_all hp fun _ => rfl) ?_ | refine ite_opt (fun _ => ?_) (fun _ => ?_) | rfl)
def run_i_spread : List PV → Option (Bool × List TR)
  | [.v (.int .i64 p), .v (.int .i64 colour), .v (.agg ⟨[.int .i64 l0, .int .i64 l1, .int .i64 l2]⟩), .v (.agg ⟨[.int .i64 m0, .int .i64 m1, .int .i64 m2]⟩)] => some (prB p, enc_i (i_spread p colour (l0, l1, l2) (m0, m1, m2)))
  | _ => none
theorem sound_i_spread : Sound Try.prog 86 run_i_spread := by
  refine sound_of de_i SO_i_spread (by kernel_rfl) Try.func86 Try.ntmps86 rfl (by kernel_rfl) ?_
  intro W pvs avs rs hargs hrun
  unfold run_i_spread at hrun
  split at hrun
  · simp only [Option.some.injEq, Prod.mk.injEq] at hrun
    obtain ⟨hp, rfl⟩ := hrun
    rename_i p colour l0 l1 l2 m0 m1 m2
    exact ⟨_, _, _, hargs, rfl, (eq_i_spread p colour (l0, l1, l2) (m0, m1, m2)).trans (tot_i_spread p colour (l0, l1, l2) (m0, m1, m2) hp)⟩
  · cases hrun

theorem ispread_b {p : Int} (hp : prB p = true) (c : Int) (a b : P3) : 0 ≤ i_spread p c a b ∧ i_spread p c a b < p := by
  obtain ⟨h1, h2⟩ := prB_Pr hp
  unfold i_spread i_rest
  exact ⟨Int.emod_nonneg _ (by omega), Int.emod_lt_of_pos _ (by omega)⟩
def S_i_SpreadOf : Sums := ⟨tblS [(92, run_i_twoLines), (86, run_i_spread)], tblM []⟩
theorem SO_i_SpreadOf : SumsOK Try.prog S_i_SpreadOf := ⟨tblS_ok ⟨⟨Try.call92, sound_i_twoLines⟩, ⟨Try.call86, sound_i_spread⟩, True.intro⟩, tblM_ok True.intro⟩
def Fo_i_SpreadOf (p : Int) (colour : Int) (l : Int × Int × Int) (m : Int × Int × Int) : Option (Int × Int) :=
  (if ((i_twoLines p colour l m) != 0) = true then some (0, (i_twoLines p colour l m)) else (if (prB p) = true then some ((i_spread p colour l m), 0) else none))
theorem eq_i_SpreadOf (p : Int) (colour : Int) (l : Int × Int × Int) (m : Int × Int × Int) : execT Try.prog S_i_SpreadOf 28 24 (fun _ => 1000000) dec_i_i [.v (.int .i64 p), .v (.int .i64 colour), .v (.agg ⟨[.int .i64 l.1, .int .i64 l.2.1, .int .i64 l.2.2]⟩), .v (.agg ⟨[.int .i64 m.1, .int .i64 m.2.1, .int .i64 m.2.2]⟩)] = Fo_i_SpreadOf p colour l m := by
  kernel_rfl
def i_SpreadOf (p : Int) (colour : Int) (l : Int × Int × Int) (m : Int × Int × Int) : Int × Int :=
  (if ((i_twoLines p colour l m) != 0) = true then (0, (i_twoLines p colour l m)) else ((i_spread p colour l m), 0))
theorem tot_i_SpreadOf (p : Int) (colour : Int) (l : Int × Int × Int) (m : Int × Int × Int) : Fo_i_SpreadOf p colour l m = some (i_SpreadOf p colour l m) := by
  unfold Fo_i_SpreadOf i_SpreadOf
  (try simp only [wI_eq])
  repeat' (first | with_reducible rfl | refine chk_opt (by first | with_reducible rfl | exact Bool.true_or _ | (with_reducible exact twoLines_prB ‹_›) | (with_reducible exact twoLines_prB0 ‹_›) | exact mk_ok (by (first | (with_reducible assumption) | (with_reducible exact twoLines_prB ‹_›) | (with_reducible exact twoLines_prB0 ‹_›))) | exact and_all (by (first | (with_reducible assumption) | (with_reducible exact twoLines_prB ‹_›) | (with_reducible exact twoLines_prB0 ‹_›))) (fun _ => rfl) | exact and_all (by (first | (with_reducible assumption) | (with_reducible exact twoLines_prB ‹_›) | (with_reducible exact twoLines_prB0 ‹_›))) (fun _ => by (first | (with_reducible assumption) | (with_reducible exact twoLines_prB ‹_›) | (with_reducible exact twoLines_prB0 ‹_›))) | exact and3 (by (first | (with_reducible assumption) | (with_reducible exact twoLines_prB ‹_›) | (with_reducible exact twoLines_prB0 ‹_›))) (by (first | (with_reducible assumption) | (with_reducible exact twoLines_prB ‹_›) | (with_reducible exact twoLines_prB0 ‹_›))) (by (first | (with_reducible assumption) | (with_reducible exact twoLines_prB ‹_›) | (with_reducible exact twoLines_prB0 ‹_›))) | exact and_two (by (first | (with_reducible assumption) | (with_reducible exact twoLines_prB ‹_›) | (with_reducible exact twoLines_prB0 ‹_›))) rfl | rfl) ?_ | refine ite_opt (fun _ => ?_) (fun _ => ?_) | rfl)
def run_i_SpreadOf : List PV → Option (Bool × List TR)
  | [.v (.int .i64 p), .v (.int .i64 colour), .v (.agg ⟨[.int .i64 l0, .int .i64 l1, .int .i64 l2]⟩), .v (.agg ⟨[.int .i64 m0, .int .i64 m1, .int .i64 m2]⟩)] => some (true, enc_i_i (i_SpreadOf p colour (l0, l1, l2) (m0, m1, m2)))
  | _ => none
theorem sound_i_SpreadOf : Sound Try.prog 28 run_i_SpreadOf := by
  refine sound_of de_i_i SO_i_SpreadOf (by kernel_rfl) Try.func28 Try.ntmps28 rfl (by kernel_rfl) ?_
  intro W pvs avs rs hargs hrun
  unfold run_i_SpreadOf at hrun
  split at hrun
  · simp only [Option.some.injEq, Prod.mk.injEq] at hrun
    obtain ⟨hp, rfl⟩ := hrun
    rename_i p colour l0 l1 l2 m0 m1 m2
    exact ⟨_, _, _, hargs, rfl, (eq_i_SpreadOf p colour (l0, l1, l2) (m0, m1, m2)).trans (tot_i_SpreadOf p colour (l0, l1, l2) (m0, m1, m2))⟩
  · cases hrun

def S_i_ArePerpendicular_c1 : Sums := ⟨tblS [(65, run_i_isColour), (100, run_i_areLines)], tblM []⟩
theorem SO_i_ArePerpendicular_c1 : SumsOK Try.prog S_i_ArePerpendicular_c1 := ⟨tblS_ok ⟨⟨Try.call65, sound_i_isColour⟩, ⟨Try.call100, sound_i_areLines⟩, True.intro⟩, tblM_ok True.intro⟩
def Fo_i_ArePerpendicular_c1 (c0 : Int) (c1 : Int) (c2 : Int × Int × Int) (c3 : Int × Int × Int) : Option (Bool) :=
  (if (i_isColour c0) = true then some (i_areLines c1 [c2, c3]) else some false)
theorem eq_i_ArePerpendicular_c1 (c0 : Int) (c1 : Int) (c2 : Int × Int × Int) (c3 : Int × Int × Int) : execT Try.prog S_i_ArePerpendicular_c1 99 14 (fun _ => 1000000) dec_b [.p [.int .i64 c0], .p [.int .i64 c1], .p [.int .i64 c2.1, .int .i64 c2.2.1, .int .i64 c2.2.2], .p [.int .i64 c3.1, .int .i64 c3.2.1, .int .i64 c3.2.2]] = Fo_i_ArePerpendicular_c1 c0 c1 c2 c3 := by
  kernel_rfl
def i_ArePerpendicular_c1 (c0 : Int) (c1 : Int) (c2 : Int × Int × Int) (c3 : Int × Int × Int) : Bool :=
  (if (i_isColour c0) = true then (i_areLines c1 [c2, c3]) else false)
theorem tot_i_ArePerpendicular_c1 (c0 : Int) (c1 : Int) (c2 : Int × Int × Int) (c3 : Int × Int × Int) : Fo_i_ArePerpendicular_c1 c0 c1 c2 c3 = some (i_ArePerpendicular_c1 c0 c1 c2 c3) := by
  unfold Fo_i_ArePerpendicular_c1 i_ArePerpendicular_c1
  (try simp only [wI_eq])
  repeat' (first | with_reducible rfl | refine ite_opt (fun _ => ?_) (fun _ => ?_) | rfl)
def run_i_ArePerpendicular_c1 : List PV → Option (Bool × List TR)
  | [.p [.int .i64 c0], .p [.int .i64 c1], .p [.int .i64 c20, .int .i64 c21, .int .i64 c22], .p [.int .i64 c30, .int .i64 c31, .int .i64 c32]] => some (true, enc_b (i_ArePerpendicular_c1 c0 c1 (c20, c21, c22) (c30, c31, c32)))
  | _ => none
theorem sound_i_ArePerpendicular_c1 : Sound Try.prog 99 run_i_ArePerpendicular_c1 := by
  refine sound_of de_b SO_i_ArePerpendicular_c1 (by kernel_rfl) Try.func99 Try.ntmps99 rfl (by kernel_rfl) ?_
  intro W pvs avs rs hargs hrun
  unfold run_i_ArePerpendicular_c1 at hrun
  split at hrun
  · simp only [Option.some.injEq, Prod.mk.injEq] at hrun
    obtain ⟨hp, rfl⟩ := hrun
    rename_i c0 c1 c20 c21 c22 c30 c31 c32
    exact ⟨_, _, _, hargs, rfl, (eq_i_ArePerpendicular_c1 c0 c1 (c20, c21, c22) (c30, c31, c32)).trans (tot_i_ArePerpendicular_c1 c0 c1 (c20, c21, c22) (c30, c31, c32))⟩
  · cases hrun

def S_i_ArePerpendicular : Sums := ⟨tblS [(54, run_i_asked), (99, run_i_ArePerpendicular_c1), (101, run_i_arePerpendicular)], tblM []⟩
theorem SO_i_ArePerpendicular : SumsOK Try.prog S_i_ArePerpendicular := ⟨tblS_ok ⟨⟨Try.call54, sound_i_asked⟩, ⟨Try.call99, sound_i_ArePerpendicular_c1⟩, ⟨Try.call101, sound_i_arePerpendicular⟩, True.intro⟩, tblM_ok True.intro⟩
def Fo_i_ArePerpendicular (p : Int) (colour : Int) (l : Int × Int × Int) (m : Int × Int × Int) : Option (Bool × Int) :=
  (if ((true) || !(i_IsField p)) = true then (if ((i_asked p (true) (i_ArePerpendicular_c1 colour p l m)) != 0) = true then some (false, (i_asked p (true) (i_ArePerpendicular_c1 colour p l m))) else (if (prB p) = true then some ((i_arePerpendicular p colour l m), 0) else none)) else none)
theorem eq_i_ArePerpendicular (p : Int) (colour : Int) (l : Int × Int × Int) (m : Int × Int × Int) : execT Try.prog S_i_ArePerpendicular 32 22 (fun _ => 1000000) dec_b_i [.v (.int .i64 p), .v (.int .i64 colour), .v (.agg ⟨[.int .i64 l.1, .int .i64 l.2.1, .int .i64 l.2.2]⟩), .v (.agg ⟨[.int .i64 m.1, .int .i64 m.2.1, .int .i64 m.2.2]⟩)] = Fo_i_ArePerpendicular p colour l m := by
  kernel_rfl
def i_ArePerpendicular (p : Int) (colour : Int) (l : Int × Int × Int) (m : Int × Int × Int) : Bool × Int :=
  (if ((i_asked p (true) (i_ArePerpendicular_c1 colour p l m)) != 0) = true then (false, (i_asked p (true) (i_ArePerpendicular_c1 colour p l m))) else ((i_arePerpendicular p colour l m), 0))
theorem tot_i_ArePerpendicular (p : Int) (colour : Int) (l : Int × Int × Int) (m : Int × Int × Int) : Fo_i_ArePerpendicular p colour l m = some (i_ArePerpendicular p colour l m) := by
  unfold Fo_i_ArePerpendicular i_ArePerpendicular
  (try simp only [wI_eq])
  repeat' (first | with_reducible rfl | refine chk_opt (by first | with_reducible rfl | exact Bool.true_or _ | (with_reducible exact asked_prB ‹_›) | (with_reducible exact asked_prB0 ‹_›) | exact mk_ok (by (first | (with_reducible assumption) | (with_reducible exact asked_prB ‹_›) | (with_reducible exact asked_prB0 ‹_›))) | exact and_all (by (first | (with_reducible assumption) | (with_reducible exact asked_prB ‹_›) | (with_reducible exact asked_prB0 ‹_›))) (fun _ => rfl) | exact and_all (by (first | (with_reducible assumption) | (with_reducible exact asked_prB ‹_›) | (with_reducible exact asked_prB0 ‹_›))) (fun _ => by (first | (with_reducible assumption) | (with_reducible exact asked_prB ‹_›) | (with_reducible exact asked_prB0 ‹_›))) | exact and3 (by (first | (with_reducible assumption) | (with_reducible exact asked_prB ‹_›) | (with_reducible exact asked_prB0 ‹_›))) (by (first | (with_reducible assumption) | (with_reducible exact asked_prB ‹_›) | (with_reducible exact asked_prB0 ‹_›))) (by (first | (with_reducible assumption) | (with_reducible exact asked_prB ‹_›) | (with_reducible exact asked_prB0 ‹_›))) | exact and_two (by (first | (with_reducible assumption) | (with_reducible exact asked_prB ‹_›) | (with_reducible exact asked_prB0 ‹_›))) rfl | rfl) ?_ | refine ite_opt (fun _ => ?_) (fun _ => ?_) | rfl)
def run_i_ArePerpendicular : List PV → Option (Bool × List TR)
  | [.v (.int .i64 p), .v (.int .i64 colour), .v (.agg ⟨[.int .i64 l0, .int .i64 l1, .int .i64 l2]⟩), .v (.agg ⟨[.int .i64 m0, .int .i64 m1, .int .i64 m2]⟩)] => some (true, enc_b_i (i_ArePerpendicular p colour (l0, l1, l2) (m0, m1, m2)))
  | _ => none
theorem sound_i_ArePerpendicular : Sound Try.prog 32 run_i_ArePerpendicular := by
  refine sound_of de_b_i SO_i_ArePerpendicular (by kernel_rfl) Try.func32 Try.ntmps32 rfl (by kernel_rfl) ?_
  intro W pvs avs rs hargs hrun
  unfold run_i_ArePerpendicular at hrun
  split at hrun
  · simp only [Option.some.injEq, Prod.mk.injEq] at hrun
    obtain ⟨hp, rfl⟩ := hrun
    rename_i p colour l0 l1 l2 m0 m1 m2
    exact ⟨_, _, _, hargs, rfl, (eq_i_ArePerpendicular p colour (l0, l1, l2) (m0, m1, m2)).trans (tot_i_ArePerpendicular p colour (l0, l1, l2) (m0, m1, m2))⟩
  · cases hrun

def S_i_LinesWithSpread_c1 : Sums := ⟨tblS [(65, run_i_isColour), (67, run_i_isLine), (66, run_i_isPoint), (83, run_i_isNumber)], tblM []⟩
theorem SO_i_LinesWithSpread_c1 : SumsOK Try.prog S_i_LinesWithSpread_c1 := ⟨tblS_ok ⟨⟨Try.call65, sound_i_isColour⟩, ⟨Try.call67, sound_i_isLine⟩, ⟨Try.call66, sound_i_isPoint⟩, ⟨Try.call83, sound_i_isNumber⟩, True.intro⟩, tblM_ok True.intro⟩
def Fo_i_LinesWithSpread_c1 (c0 : Int) (c1 : Int) (c2 : Int × Int × Int) (c3 : Int × Int) (c4 : Int) : Option (Bool) :=
  (if (i_isColour c0) = true then (if (i_isLine c1 c2) = true then (if (i_isPoint c1 c3) = true then some (i_isNumber c1 c4) else some false) else some false) else some false)
theorem eq_i_LinesWithSpread_c1 (c0 : Int) (c1 : Int) (c2 : Int × Int × Int) (c3 : Int × Int) (c4 : Int) : execT Try.prog S_i_LinesWithSpread_c1 82 23 (fun _ => 1000000) dec_b [.p [.int .i64 c0], .p [.int .i64 c1], .p [.int .i64 c2.1, .int .i64 c2.2.1, .int .i64 c2.2.2], .p [.int .i64 c3.1, .int .i64 c3.2], .p [.int .i64 c4]] = Fo_i_LinesWithSpread_c1 c0 c1 c2 c3 c4 := by
  kernel_rfl
def i_LinesWithSpread_c1 (c0 : Int) (c1 : Int) (c2 : Int × Int × Int) (c3 : Int × Int) (c4 : Int) : Bool :=
  (if (i_isColour c0) = true then (if (i_isLine c1 c2) = true then (if (i_isPoint c1 c3) = true then (i_isNumber c1 c4) else false) else false) else false)
theorem tot_i_LinesWithSpread_c1 (c0 : Int) (c1 : Int) (c2 : Int × Int × Int) (c3 : Int × Int) (c4 : Int) : Fo_i_LinesWithSpread_c1 c0 c1 c2 c3 c4 = some (i_LinesWithSpread_c1 c0 c1 c2 c3 c4) := by
  unfold Fo_i_LinesWithSpread_c1 i_LinesWithSpread_c1
  (try simp only [wI_eq])
  repeat' (first | with_reducible rfl | refine ite_opt (fun _ => ?_) (fun _ => ?_) | rfl)
def run_i_LinesWithSpread_c1 : List PV → Option (Bool × List TR)
  | [.p [.int .i64 c0], .p [.int .i64 c1], .p [.int .i64 c20, .int .i64 c21, .int .i64 c22], .p [.int .i64 c30, .int .i64 c31], .p [.int .i64 c4]] => some (true, enc_b (i_LinesWithSpread_c1 c0 c1 (c20, c21, c22) (c30, c31) c4))
  | _ => none
theorem sound_i_LinesWithSpread_c1 : Sound Try.prog 82 run_i_LinesWithSpread_c1 := by
  refine sound_of de_b SO_i_LinesWithSpread_c1 (by kernel_rfl) Try.func82 Try.ntmps82 rfl (by kernel_rfl) ?_
  intro W pvs avs rs hargs hrun
  unfold run_i_LinesWithSpread_c1 at hrun
  split at hrun
  · simp only [Option.some.injEq, Prod.mk.injEq] at hrun
    obtain ⟨hp, rfl⟩ := hrun
    rename_i c0 c1 c20 c21 c22 c30 c31 c4
    exact ⟨_, _, _, hargs, rfl, (eq_i_LinesWithSpread_c1 c0 c1 (c20, c21, c22) (c30, c31) c4).trans (tot_i_LinesWithSpread_c1 c0 c1 (c20, c21, c22) (c30, c31) c4)⟩
  · cases hrun

def S_i_LinesWithSpread_c2 : Sums := ⟨tblS [(44, run_i_isNull), (86, run_i_spread)], tblM []⟩
theorem SO_i_LinesWithSpread_c2 : SumsOK Try.prog S_i_LinesWithSpread_c2 := ⟨tblS_ok ⟨⟨Try.call44, sound_i_isNull⟩, ⟨Try.call86, sound_i_spread⟩, True.intro⟩, tblM_ok True.intro⟩
def Fo_i_LinesWithSpread_c2 (m : Int × Int × Int) (c0 : Int) (c1 : Int) (c2 : Int × Int × Int) (c3 : Int) : Option (Bool) :=
  (if (prB c0) = true then (if (!(i_isNull c0 c1 m)) = true then (if (prB c0) = true then some ((i_spread c0 c1 c2 m) == c3) else none) else some false) else none)
theorem eq_i_LinesWithSpread_c2 (m : Int × Int × Int) (c0 : Int) (c1 : Int) (c2 : Int × Int × Int) (c3 : Int) : execT Try.prog S_i_LinesWithSpread_c2 85 21 (fun _ => 1000000) dec_b [.v (.agg ⟨[.int .i64 m.1, .int .i64 m.2.1, .int .i64 m.2.2]⟩), .p [.int .i64 c0], .p [.int .i64 c1], .p [.int .i64 c2.1, .int .i64 c2.2.1, .int .i64 c2.2.2], .p [.int .i64 c3]] = Fo_i_LinesWithSpread_c2 m c0 c1 c2 c3 := by
  kernel_rfl
def i_LinesWithSpread_c2 (m : Int × Int × Int) (c0 : Int) (c1 : Int) (c2 : Int × Int × Int) (c3 : Int) : Bool :=
  (if (!(i_isNull c0 c1 m)) = true then (i_spread c0 c1 c2 m) == c3 else false)
theorem tot_i_LinesWithSpread_c2 (m : Int × Int × Int) (c0 : Int) (c1 : Int) (c2 : Int × Int × Int) (c3 : Int) (hp : (prB c0) = true) : Fo_i_LinesWithSpread_c2 m c0 c1 c2 c3 = some (i_LinesWithSpread_c2 m c0 c1 c2 c3) := by
  try have h0 := prB_ne hp
  unfold Fo_i_LinesWithSpread_c2 i_LinesWithSpread_c2
  (try simp only [wI_eq])
  repeat' (first | with_reducible rfl | with_reducible refine chk_opt hp ?_ | with_reducible refine chk_opt h0 ?_ | refine chk_opt (and_all hp fun _ => hp) ?_ | refine chk_opt (and_all hp fun _ => rfl) ?_ | refine ite_opt (fun _ => ?_) (fun _ => ?_) | rfl)
def run_i_LinesWithSpread_c2 : List PV → Option (Bool × List TR)
  | [.v (.agg ⟨[.int .i64 m0, .int .i64 m1, .int .i64 m2]⟩), .p [.int .i64 c0], .p [.int .i64 c1], .p [.int .i64 c20, .int .i64 c21, .int .i64 c22], .p [.int .i64 c3]] => some (prB c0, enc_b (i_LinesWithSpread_c2 (m0, m1, m2) c0 c1 (c20, c21, c22) c3))
  | _ => none
theorem sound_i_LinesWithSpread_c2 : Sound Try.prog 85 run_i_LinesWithSpread_c2 := by
  refine sound_of de_b SO_i_LinesWithSpread_c2 (by kernel_rfl) Try.func85 Try.ntmps85 rfl (by kernel_rfl) ?_
  intro W pvs avs rs hargs hrun
  unfold run_i_LinesWithSpread_c2 at hrun
  split at hrun
  · simp only [Option.some.injEq, Prod.mk.injEq] at hrun
    obtain ⟨hp, rfl⟩ := hrun
    rename_i m0 m1 m2 c0 c1 c20 c21 c22 c3
    exact ⟨_, _, _, hargs, rfl, (eq_i_LinesWithSpread_c2 (m0, m1, m2) c0 c1 (c20, c21, c22) c3).trans (tot_i_LinesWithSpread_c2 (m0, m1, m2) c0 c1 (c20, c21, c22) c3 hp)⟩
  · cases hrun

def S_i_linesWith : Sums := ⟨tblS [(91, run_i_linesThrough)], tblM []⟩
theorem SO_i_linesWith : SumsOK Try.prog S_i_linesWith := ⟨tblS_ok ⟨⟨Try.call91, sound_i_linesThrough⟩, True.intro⟩, tblM_ok True.intro⟩
def T_i_linesWith_0 (p : Int) (a : Int × Int) (holdsk : (Int × Int × Int) → Bool) (holdsh : (Int × Int × Int) → Bool) (l10 : List Int) (m10 : Nat) (t15 : Int) : Tab := ⟨[.val (.int .i64 p), .val (.agg ⟨[.int .i64 a.1, .int .i64 a.2]⟩), .fn (clo_a3_b holdsk holdsh), .junk, .ptr 16 0, .junk, .val (.slice none 0 0), .row 40, .junk, .junk, .junk, .val (.int .i64 p), .val (.agg ⟨[.int .i64 a.1, .int .i64 a.2]⟩), .row 52, .val (.int .i64 (((i_linesThrough p a).1 : Nat) : Int)), .val (.int .i64 t15), .junk, .junk, .junk, .junk, .junk, .junk, .junk, .junk, .junk, .junk, .junk, .junk], [(16, .box 25 [.val (.int .i64 a.1), .val (.int .i64 a.2)]), (40, .row 29 3 m10 (.ints l10)), (52, .row 29 3 ((i_linesThrough p a).1) (.ints ((i_linesThrough p a).2)))]⟩
def X_i_linesWith_0 (P : Program) (fu : Nat) (p : Int) (a : Int × Int) (holdsk : (Int × Int × Int) → Bool) (holdsh : (Int × Int × Int) → Bool) (f : Nat) (l10 : List Int) (m10 : Nat) (t15 : Int) : Option (Nat × List Int) := loopK (exec P S_i_linesWith 28 (fun _ => fu + 100) (Code.sub [1, 1, 0, 1, 0, 0] (bodyF P 84))) f (T_i_linesWith_0 p a holdsk holdsh l10 m10 t15) (kBlock 0 (kSeq (fun s => exec P S_i_linesWith 28 (fun _ => fu + 100) (Code.sub [1, 1, 1] (bodyF P 84)) s (finT P 84 dec_l29_3)) (finT P 84 dec_l29_3)))
def B_i_linesWith_0 (p : Int) (a : Int × Int) (holdsk : (Int × Int × Int) → Bool) (holdsh : (Int × Int × Int) → Bool) (rec0 : (List Int) → Nat → Int → Option (Nat × List Int)) (l10 : List Int) (m10 : Nat) (t15 : Int) : Option (Nat × List Int) :=
  (if (decide (t15 < (((i_linesThrough p a).1 : Nat) : Int))) = true then (if (decide (0 ≤ t15) && decide (t15 < (((i_linesThrough p a).1 : Nat) : Int))) = true then (if (Nat.ble (t15.toNat * 3 + 3) (((i_linesThrough p a).2).length)) = true then (if (holdsk (((i_linesThrough p a).2).getD (t15.toNat * 3 + 0) 0, ((i_linesThrough p a).2).getD (t15.toNat * 3 + 1) 0, ((i_linesThrough p a).2).getD (t15.toNat * 3 + 2) 0)) = true then (if (holdsh (((i_linesThrough p a).2).getD (t15.toNat * 3 + 0) 0, ((i_linesThrough p a).2).getD (t15.toNat * 3 + 1) 0, ((i_linesThrough p a).2).getD (t15.toNat * 3 + 2) 0)) = true then (if (Nat.ble 1 1 && Nat.ble (m10 + 1) 1000000 && Nat.beq 3 (3)) = true then rec0 (l10 ++ [((i_linesThrough p a).2).getD (t15.toNat * 3 + 0) 0, ((i_linesThrough p a).2).getD (t15.toNat * 3 + 1) 0, ((i_linesThrough p a).2).getD (t15.toNat * 3 + 2) 0]) (m10 + 1) (wI (t15 + 1)) else none) else rec0 l10 m10 (wI (t15 + 1))) else none) else none) else none) else some (m10, l10))
def L_i_linesWith_0 (fu : Nat) (p : Int) (a : Int × Int) (holdsk : (Int × Int × Int) → Bool) (holdsh : (Int × Int × Int) → Bool) : Nat → (List Int) → Nat → Int → Option (Nat × List Int)
  | 0, _, _, _ => none
  | f + 1, l10, m10, t15 => B_i_linesWith_0 p a holdsk holdsh (L_i_linesWith_0 fu p a holdsk holdsh f) l10 m10 t15
theorem loop_i_linesWith_0 (fu : Nat) (p : Int) (a : Int × Int) (holdsk : (Int × Int × Int) → Bool) (holdsh : (Int × Int × Int) → Bool) : ∀ (f : Nat) (l10 : List Int) (m10 : Nat) (t15 : Int), X_i_linesWith_0 Try.prog fu p a holdsk holdsh f l10 m10 t15 = L_i_linesWith_0 fu p a holdsk holdsh f l10 m10 t15 := by
  intro f
  induction f with
  | zero => intros; rfl
  | succ f ih =>
    intro l10 m10 t15
    have h1 : X_i_linesWith_0 Try.prog fu p a holdsk holdsh (f + 1) l10 m10 t15 = B_i_linesWith_0 p a holdsk holdsh (X_i_linesWith_0 Try.prog fu p a holdsk holdsh f) l10 m10 t15 := by kernel_rfl
    have h2 : X_i_linesWith_0 Try.prog fu p a holdsk holdsh f = L_i_linesWith_0 fu p a holdsk holdsh f := by funext l10 m10 t15; exact ih l10 m10 t15
    rw [h1, h2]
    rfl
def G_i_linesWith (p : Int) (a : Int × Int) (holdsk : (Int × Int × Int) → Bool) (holdsh : (Int × Int × Int) → Bool) (lo0 : (List Int) → Nat → Int → Option (Nat × List Int)) : Option (Nat × List Int) :=
  (if (prB p) = true then lo0 [] 0 0 else none)
def Fo_i_linesWith (fu : Nat) (p : Int) (a : Int × Int) (holdsk : (Int × Int × Int) → Bool) (holdsh : (Int × Int × Int) → Bool) : Option (Nat × List Int) := G_i_linesWith p a holdsk holdsh (L_i_linesWith_0 fu p a holdsk holdsh (fu + 100))
theorem eqg_i_linesWith (fu : Nat) (p : Int) (a : Int × Int) (holdsk : (Int × Int × Int) → Bool) (holdsh : (Int × Int × Int) → Bool) : execT Try.prog S_i_linesWith 84 28 (fun _ => fu + 100) dec_l29_3 [.v (.int .i64 p), .v (.agg ⟨[.int .i64 a.1, .int .i64 a.2]⟩), .f (clo_a3_b holdsk holdsh)] = G_i_linesWith p a holdsk holdsh (L_i_linesWith_0 fu p a holdsk holdsh (fu + 100)) := by
  have h1 : execT Try.prog S_i_linesWith 84 28 (fun _ => fu + 100) dec_l29_3 [.v (.int .i64 p), .v (.agg ⟨[.int .i64 a.1, .int .i64 a.2]⟩), .f (clo_a3_b holdsk holdsh)] = G_i_linesWith p a holdsk holdsh (X_i_linesWith_0 Try.prog fu p a holdsk holdsh (fu + 100)) := by kernel_rfl
  have c0 : X_i_linesWith_0 Try.prog fu p a holdsk holdsh (fu + 100) = L_i_linesWith_0 fu p a holdsk holdsh (fu + 100) := by funext l10 m10 t15; exact loop_i_linesWith_0 fu p a holdsk holdsh (fu + 100) l10 m10 t15
  rw [h1, c0]
theorem eq_i_linesWith (fu : Nat) (p : Int) (a : Int × Int) (holdsk : (Int × Int × Int) → Bool) (holdsh : (Int × Int × Int) → Bool) : execT Try.prog S_i_linesWith 84 28 (fun _ => fu + 100) dec_l29_3 [.v (.int .i64 p), .v (.agg ⟨[.int .i64 a.1, .int .i64 a.2]⟩), .f (clo_a3_b holdsk holdsh)] = Fo_i_linesWith fu p a holdsk holdsh := eqg_i_linesWith fu p a holdsk holdsh
def i_linesWith (p : Int) (a : P2) (holdsk holdsh : P3 → Bool) : Nat × List Int := (((linesT p a).filter holdsh).length, flat3 ((linesT p a).filter holdsh))
theorem lo0_i_linesWith (p : Int) (a : P2) (holdsk holdsh : P3 → Bool) (hp : prB p = true) (key : ∀ k, k < (linesT p a).length → holdsk (R3 (flat3 (linesT p a)) k) = true) {F : Nat} (hF : 993 < F) : L_i_linesWith_0 1000000 p a holdsk holdsh F [] 0 0 = some (((linesT p a).filter holdsh).length, flat3 ((linesT p a).filter holdsh)) := by
  have hlen : (linesT p a).length ≤ 993 := linesT_len hp a
  exact gather (flat := flat3) flat3_app rfl (L := fun f l m i => L_i_linesWith_0 1000000 p a holdsk holdsh f l m i) (n := (linesT p a).length) (b := 1) (M := 0) (fun k => if holdsh (R3 (flat3 (linesT p a)) k) = true then [R3 (flat3 (linesT p a)) k] else []) (K := (some (((linesT p a).filter holdsh).length, flat3 ((linesT p a).filter holdsh)))) (l := []) (m := 0) (F := F) (by intro k hk; first | (split <;> simp) | simp_all)
    (fun f k l m hk hm => by
      show B_i_linesWith_0 p a holdsk holdsh (L_i_linesWith_0 1000000 p a holdsk holdsh f) l m (k : Int) = _
      unfold B_i_linesWith_0
      have x0 : holdsk ((flat3 (linesT p a)).getD (k * 3 + 0) 0, (flat3 (linesT p a)).getD (k * 3 + 1) 0, (flat3 (linesT p a)).getD (k * 3 + 2) 0) = true := key k hk
      have e0 : decide (0 ≤ (k : Int)) = true := by simp
      have e1 := cnd hk
      have e3 : (k : Int).toNat = k := Int.toNat_natCast k
      have e4 := row3_ok (flat3_len _) hk
      have e5 : Nat.ble 1 1 = true := rfl
      have e6 : Nat.ble (m + 1) 1000000 = true := leb (by omega)
      rw [show i_linesThrough p a = ((linesT p a).length, flat3 (linesT p a)) from rfl]
      simp only [e0, e1, e3, e4, e5, e6, beq33, x0, Bool.and_true, Bool.true_and, if_true, wrap_add1 hk (by omega)]
      have hq0 : (holdsh ((flat3 (linesT p a)).getD (k * 3 + 0) 0, (flat3 (linesT p a)).getD (k * 3 + 1) 0, (flat3 (linesT p a)).getD (k * 3 + 2) 0)) = (holdsh (R3 (flat3 (linesT p a)) k)) := rfl
      try rw [hq0]
      generalize (holdsh (R3 (flat3 (linesT p a)) k)) = c0
      cases c0 <;> first
        | rfl
        | (simp only [Bool.false_eq_true, Bool.false_and, Bool.and_false, Bool.true_and, if_false, if_true]
           rw [show flat3 [] = [] from rfl, List.append_nil]
           rfl))
    (fun f hm => by
      show B_i_linesWith_0 p a holdsk holdsh (L_i_linesWith_0 1000000 p a holdsk holdsh f) ([] ++ flat3 ((List.range (linesT p a).length).flatMap (fun k => if holdsh (R3 (flat3 (linesT p a)) k) = true then [R3 (flat3 (linesT p a)) k] else []))) (0 + ((List.range (linesT p a).length).flatMap (fun k => if holdsh (R3 (flat3 (linesT p a)) k) = true then [R3 (flat3 (linesT p a)) k] else [])).length) (((linesT p a).length : Nat) : Int) = _
      unfold B_i_linesWith_0
      have hkp : ((List.range ((linesT p a).length)).flatMap fun k => if holdsh (R3 (flat3 (linesT p a)) k) = true then [R3 (flat3 (linesT p a)) k] else []) = (rows3 ((linesT p a).length) (flat3 (linesT p a))).filter (fun zz => holdsh zz) := keep3 ((linesT p a).length) (flat3 (linesT p a)) (fun zz => holdsh zz)
      rw [show i_linesThrough p a = ((linesT p a).length, flat3 (linesT p a)) from rfl]
      rw [if_neg (by simp), hkp, rows3_flat3]
      simp) (by omega) (Nat.le_refl _)
theorem tot_i_linesWith (p : Int) (a : Int × Int) (holdsk : (Int × Int × Int) → Bool) (holdsh : (Int × Int × Int) → Bool) (hp : (prB p && (linesT p a).all holdsk) = true) : Fo_i_linesWith 1000000 p a holdsk holdsh = some (i_linesWith p a holdsk holdsh) := by
  simp only [Bool.and_eq_true] at hp
  obtain ⟨hp, hall⟩ := hp
  have hrow : ∀ k, k < (linesT p a).length → holdsk (R3 (flat3 (linesT p a)) k) = true := by
    intro k hk
    rw [R3_flat, List.getD_eq_getElem?_getD, List.getElem?_eq_getElem hk]
    exact List.all_eq_true.1 hall _ (List.getElem_mem hk)
  unfold Fo_i_linesWith G_i_linesWith
  rw [if_pos hp]
  exact lo0_i_linesWith p a holdsk holdsh hp hrow (by omega)
def run_i_linesWith : List PV → Option (Bool × List TR)
  | [.v (.int .i64 p), .v (.agg ⟨[.int .i64 a0, .int .i64 a1]⟩), .f holdsg] => some (prB p && (linesT p (a0, a1)).all (fun a0 => okV (holdsg [.agg ⟨[.int .i64 a0.1, .int .i64 a0.2.1, .int .i64 a0.2.2]⟩])), enc_l29_3 (i_linesWith p (a0, a1) (fun a0 => okV (holdsg [.agg ⟨[.int .i64 a0.1, .int .i64 a0.2.1, .int .i64 a0.2.2]⟩])) (fun a0 => boolV (holdsg [.agg ⟨[.int .i64 a0.1, .int .i64 a0.2.1, .int .i64 a0.2.2]⟩]))))
  | _ => none
theorem sound_i_linesWith : Sound Try.prog 84 run_i_linesWith := by
  refine sound_of de_l29_3 SO_i_linesWith (by kernel_rfl) Try.func84 Try.ntmps84 rfl (by kernel_rfl) ?_
  intro W pvs avs rs hargs hrun
  unfold run_i_linesWith at hrun
  split at hrun
  · simp only [Option.some.injEq, Prod.mk.injEq] at hrun
    obtain ⟨hp, rfl⟩ := hrun
    rename_i p a0 a1 holdsg
    have hargs := All2.replace (l1 := [_, _]) hargs (y := .f (clo_a3_b _ _)) fun b hb => fn_weaken hb (clo_a3_b_ok _)
    exact ⟨_, _, _, hargs, rfl, (eq_i_linesWith _ p (a0, a1) (fun a0 => okV (holdsg [.agg ⟨[.int .i64 a0.1, .int .i64 a0.2.1, .int .i64 a0.2.2]⟩])) (fun a0 => boolV (holdsg [.agg ⟨[.int .i64 a0.1, .int .i64 a0.2.1, .int .i64 a0.2.2]⟩]))).trans (tot_i_linesWith p (a0, a1) (fun a0 => okV (holdsg [.agg ⟨[.int .i64 a0.1, .int .i64 a0.2.1, .int .i64 a0.2.2]⟩])) (fun a0 => boolV (holdsg [.agg ⟨[.int .i64 a0.1, .int .i64 a0.2.1, .int .i64 a0.2.2]⟩])) hp)⟩
  · cases hrun

def S_i_LinesWithSpread : Sums := ⟨tblS [(54, run_i_asked), (82, run_i_LinesWithSpread_c1), (44, run_i_isNull), (84, run_i_linesWith), (85, run_i_LinesWithSpread_c2)], tblM []⟩
theorem SO_i_LinesWithSpread : SumsOK Try.prog S_i_LinesWithSpread := ⟨tblS_ok ⟨⟨Try.call54, sound_i_asked⟩, ⟨Try.call82, sound_i_LinesWithSpread_c1⟩, ⟨Try.call44, sound_i_isNull⟩, ⟨Try.call84, sound_i_linesWith⟩, ⟨Try.call85, sound_i_LinesWithSpread_c2⟩, True.intro⟩, tblM_ok True.intro⟩
def Fo_i_LinesWithSpread (p : Int) (colour : Int) (l : Int × Int × Int) (a : Int × Int) (s : Int) : Option ((Nat × List Int) × Int) :=
  (if ((true) || !(i_IsField p)) = true then (if ((i_asked p (true) (i_LinesWithSpread_c1 colour p l a s)) != 0) = true then some ((0, []), (i_asked p (true) (i_LinesWithSpread_c1 colour p l a s))) else (if (prB p) = true then (if (i_isNull p colour l) = true then some ((0, []), 5) else (if (prB p && (linesT p a).all (fun a0 => prB p)) = true then some (((i_linesWith p a (fun a0 => prB p) (fun a0 => i_LinesWithSpread_c2 a0 p colour l s)).1, (i_linesWith p a (fun a0 => prB p) (fun a0 => i_LinesWithSpread_c2 a0 p colour l s)).2), 0) else none)) else none)) else none)
theorem eq_i_LinesWithSpread (p : Int) (colour : Int) (l : Int × Int × Int) (a : Int × Int) (s : Int) : execT Try.prog S_i_LinesWithSpread 24 27 (fun _ => 1000000) dec_l29_3_i [.v (.int .i64 p), .v (.int .i64 colour), .v (.agg ⟨[.int .i64 l.1, .int .i64 l.2.1, .int .i64 l.2.2]⟩), .v (.agg ⟨[.int .i64 a.1, .int .i64 a.2]⟩), .v (.int .i64 s)] = Fo_i_LinesWithSpread p colour l a s := by
  kernel_rfl
def i_LinesWithSpread (p : Int) (colour : Int) (l : Int × Int × Int) (a : Int × Int) (s : Int) : (Nat × List Int) × Int :=
  (if ((i_asked p (true) (i_LinesWithSpread_c1 colour p l a s)) != 0) = true then ((0, []), (i_asked p (true) (i_LinesWithSpread_c1 colour p l a s))) else (if (i_isNull p colour l) = true then ((0, []), 5) else (((i_linesWith p a (fun a0 => prB p) (fun a0 => i_LinesWithSpread_c2 a0 p colour l s)).1, (i_linesWith p a (fun a0 => prB p) (fun a0 => i_LinesWithSpread_c2 a0 p colour l s)).2), 0)))
theorem tot_i_LinesWithSpread (p : Int) (colour : Int) (l : Int × Int × Int) (a : Int × Int) (s : Int) : Fo_i_LinesWithSpread p colour l a s = some (i_LinesWithSpread p colour l a s) := by
  unfold Fo_i_LinesWithSpread i_LinesWithSpread
  (try simp only [wI_eq])
  repeat' (first | with_reducible rfl | refine chk_opt (by first | with_reducible rfl | exact Bool.true_or _ | (with_reducible exact asked_prB ‹_›) | (with_reducible exact asked_prB0 ‹_›) | exact mk_ok (by (first | (with_reducible assumption) | (with_reducible exact asked_prB ‹_›) | (with_reducible exact asked_prB0 ‹_›))) | exact and_all (by (first | (with_reducible assumption) | (with_reducible exact asked_prB ‹_›) | (with_reducible exact asked_prB0 ‹_›))) (fun _ => rfl) | exact and_all (by (first | (with_reducible assumption) | (with_reducible exact asked_prB ‹_›) | (with_reducible exact asked_prB0 ‹_›))) (fun _ => by (first | (with_reducible assumption) | (with_reducible exact asked_prB ‹_›) | (with_reducible exact asked_prB0 ‹_›))) | exact and3 (by (first | (with_reducible assumption) | (with_reducible exact asked_prB ‹_›) | (with_reducible exact asked_prB0 ‹_›))) (by (first | (with_reducible assumption) | (with_reducible exact asked_prB ‹_›) | (with_reducible exact asked_prB0 ‹_›))) (by (first | (with_reducible assumption) | (with_reducible exact asked_prB ‹_›) | (with_reducible exact asked_prB0 ‹_›))) | exact and_two (by (first | (with_reducible assumption) | (with_reducible exact asked_prB ‹_›) | (with_reducible exact asked_prB0 ‹_›))) rfl | rfl) ?_ | refine ite_opt (fun _ => ?_) (fun _ => ?_) | rfl)
def run_i_LinesWithSpread : List PV → Option (Bool × List TR)
  | [.v (.int .i64 p), .v (.int .i64 colour), .v (.agg ⟨[.int .i64 l0, .int .i64 l1, .int .i64 l2]⟩), .v (.agg ⟨[.int .i64 a0, .int .i64 a1]⟩), .v (.int .i64 s)] => some (true, enc_l29_3_i (i_LinesWithSpread p colour (l0, l1, l2) (a0, a1) s))
  | _ => none
theorem sound_i_LinesWithSpread : Sound Try.prog 24 run_i_LinesWithSpread := by
  refine sound_of de_l29_3_i SO_i_LinesWithSpread (by kernel_rfl) Try.func24 Try.ntmps24 rfl (by kernel_rfl) ?_
  intro W pvs avs rs hargs hrun
  unfold run_i_LinesWithSpread at hrun
  split at hrun
  · simp only [Option.some.injEq, Prod.mk.injEq] at hrun
    obtain ⟨hp, rfl⟩ := hrun
    rename_i p colour l0 l1 l2 a0 a1 s
    exact ⟨_, _, _, hargs, rfl, (eq_i_LinesWithSpread p colour (l0, l1, l2) (a0, a1) s).trans (tot_i_LinesWithSpread p colour (l0, l1, l2) (a0, a1) s)⟩
  · cases hrun

def S_s_l03Colour : Sums := ⟨tblS [(127, run_s_l01Lines), (74, run_s_l01In)], tblM []⟩
theorem SO_s_l03Colour : SumsOK Try.prog S_s_l03Colour := ⟨tblS_ok ⟨⟨Try.call127, sound_s_l01Lines⟩, ⟨Try.call74, sound_s_l01In⟩, True.intro⟩, tblM_ok True.intro⟩
def Fo_s_l03Colour (p : Int) (colour : Int) (linesn : Nat) (linesl : List Int) : Option (Int) :=
  (if (lenB linesn 3 linesl) = true then (if ((s_l01Lines p (rows3 linesn linesl)) == 0) = true then (if (!(s_l01In colour 0 2)) = true then some 2 else some (s_l01Lines p (rows3 linesn linesl))) else some (s_l01Lines p (rows3 linesn linesl))) else none)
theorem eq_s_l03Colour (p : Int) (colour : Int) (linesn : Nat) (linesl : List Int) : execT Try.prog S_s_l03Colour 87 19 (fun _ => 1000000) dec_i [.v (.int .i64 p), .v (.int .i64 colour), .s linesn (.ints linesl)] = Fo_s_l03Colour p colour linesn linesl := by
  kernel_rfl
def s_l03Colour (p : Int) (colour : Int) (linesn : Nat) (linesl : List Int) : Int :=
  (if ((s_l01Lines p (rows3 linesn linesl)) == 0) = true then (if (!(s_l01In colour 0 2)) = true then 2 else (s_l01Lines p (rows3 linesn linesl))) else (s_l01Lines p (rows3 linesn linesl)))
theorem tot_s_l03Colour (p : Int) (colour : Int) (linesn : Nat) (linesl : List Int) (hp : (lenB linesn 3 linesl) = true) : Fo_s_l03Colour p colour linesn linesl = some (s_l03Colour p colour linesn linesl) := by
  try have h0 := prB_ne hp
  unfold Fo_s_l03Colour s_l03Colour
  (try simp only [wI_eq])
  repeat' (first | with_reducible rfl | with_reducible refine chk_opt hp ?_ | with_reducible refine chk_opt h0 ?_ | refine chk_opt (and_all hp fun _ => hp) ?_ | refine chk_opt (and_all hp fun _ => rfl) ?_ | refine ite_opt (fun _ => ?_) (fun _ => ?_) | rfl)
def run_s_l03Colour : List PV → Option (Bool × List TR)
  | [.v (.int .i64 p), .v (.int .i64 colour), .s linesn (.ints linesl)] => some (lenB linesn 3 linesl, enc_i (s_l03Colour p colour linesn linesl))
  | _ => none
theorem sound_s_l03Colour : Sound Try.prog 87 run_s_l03Colour := by
  refine sound_of de_i SO_s_l03Colour (by kernel_rfl) Try.func87 Try.ntmps87 rfl (by kernel_rfl) ?_
  intro W pvs avs rs hargs hrun
  unfold run_s_l03Colour at hrun
  split at hrun
  · simp only [Option.some.injEq, Prod.mk.injEq] at hrun
    obtain ⟨hp, rfl⟩ := hrun
    rename_i p colour linesn linesl
    exact ⟨_, _, _, hargs, rfl, (eq_s_l03Colour p colour linesn linesl).trans (tot_s_l03Colour p colour linesn linesl hp)⟩
  · cases hrun

theorem l03Colour_prB {p : Int} {c : Int} {n : Nat} {l : List Int} (h : ¬ (s_l03Colour p c n l != 0) = true) : prB p = true := by
  refine Pr_prB (i_IsField_ok ?_)
  have h : s_l03Colour p c n l = 0 := by simpa using h
  cases hf : i_IsField p
  · simp [s_l03Colour, s_l01Lines, s_l01Field, hf] at h
  · rfl
theorem l03Colour_prB0 {p : Int} {c : Int} {n : Nat} {l : List Int} (h : (s_l03Colour p c n l == 0) = true) : prB p = true := l03Colour_prB (by simpa using h)
def S_s_LinesWithSpread : Sums := ⟨tblS [(87, run_s_l03Colour), (88, run_s_l01Code), (89, run_s_l01Numbers), (75, run_s_l03Null), (77, run_s_l03Lines), (78, run_s_l03Spread)], tblM []⟩
theorem SO_s_LinesWithSpread : SumsOK Try.prog S_s_LinesWithSpread := ⟨tblS_ok ⟨⟨Try.call87, sound_s_l03Colour⟩, ⟨Try.call88, sound_s_l01Code⟩, ⟨Try.call89, sound_s_l01Numbers⟩, ⟨Try.call75, sound_s_l03Null⟩, ⟨Try.call77, sound_s_l03Lines⟩, ⟨Try.call78, sound_s_l03Spread⟩, True.intro⟩, tblM_ok True.intro⟩
def T_s_LinesWithSpread_0 (p : Int) (colour : Int) (l : Int × Int × Int) (a : Int × Int) (s : Int) (l48 : List Int) (m48 : Nat) (i : Int) : Tab := ⟨[.val (.int .i64 p), .val (.int .i64 colour), .val (.agg ⟨[.int .i64 l.1, .int .i64 l.2.1, .int .i64 l.2.2]⟩), .val (.agg ⟨[.int .i64 a.1, .int .i64 a.2]⟩), .val (.int .i64 s), .junk, .junk, .ptr 28 0, .ptr 32 0, .junk, .val (.slice none 0 0), .val (.int .i64 0), .val (.int .i64 (s_l01Numbers p [s])), .row 188, .row 192, .val (.int .i64 i), .val (.int .i64 p), .val (.int .i64 colour), .val (.agg ⟨[.int .i64 l.1, .int .i64 l.2.1, .int .i64 l.2.2]⟩), .row 76, .val (.int .i64 (s_l03Colour p colour 1 [l.1, l.2.1, l.2.2])), .val (.int .i64 (s_l03Colour p colour 1 [l.1, l.2.1, l.2.2])), .val (.bool ((s_l03Colour p colour 1 [l.1, l.2.1, l.2.2]) == 0)), .val (.int .i64 p), .val (.agg ⟨[.int .i64 a.1, .int .i64 a.2]⟩), .row 100, .val (.int .i64 (s_l01Code p [a])), .val (.int .i64 (s_l01Code p [a])), .val (.bool ((s_l01Code p [a]) == 0)), .val (.int .i64 p), .val (.int .i64 s), .row 124, .val (.int .i64 (s_l01Numbers p [s])), .val (.int .i64 (s_l01Numbers p [s])), .val (.bool ((s_l01Numbers p [s]) == 0)), .val (.bool true), .val (.int .i64 p), .val (.int .i64 colour), .val (.agg ⟨[.int .i64 l.1, .int .i64 l.2.1, .int .i64 l.2.2]⟩), .val (.bool (s_l03Null p colour l)), .val (.bool (s_l03Null p colour l)), .val (.int .i64 (s_l01Numbers p [s])), .val (.bool ((s_l01Numbers p [s]) != 0)), .junk, .val (.int .i64 p), .val (.int .i64 colour), .val (.agg ⟨[.int .i64 a.1, .int .i64 a.2]⟩), .row 188, .junk, .junk, .junk, .junk, .junk, .junk, .junk, .junk, .junk, .junk, .junk, .junk, .junk, .junk, .junk, .junk, .junk, .junk, .junk, .junk, .junk, .junk, .junk, .junk, .junk], [(28, .box 29 [.val (.int .i64 l.1), .val (.int .i64 l.2.1), .val (.int .i64 l.2.2)]), (32, .box 25 [.val (.int .i64 a.1), .val (.int .i64 a.2)]), (76, .row 29 3 1 (.ints [l.1, l.2.1, l.2.2])), (100, .row 25 2 1 (.ints [a.1, a.2])), (124, .row 2 1 1 (.ints [s])), (188, .row 29 3 ((s_l03Lines p colour a).1) (.ints ((s_l03Lines p colour a).2))), (192, .row 29 3 m48 (.ints l48))]⟩
def T_s_LinesWithSpread_1 (p : Int) (colour : Int) (l : Int × Int × Int) (a : Int × Int) (s : Int) (l48 : List Int) (m48 : Nat) (i : Int) : Tab := ⟨[.val (.int .i64 p), .val (.int .i64 colour), .val (.agg ⟨[.int .i64 l.1, .int .i64 l.2.1, .int .i64 l.2.2]⟩), .val (.agg ⟨[.int .i64 a.1, .int .i64 a.2]⟩), .val (.int .i64 s), .junk, .junk, .ptr 28 0, .ptr 32 0, .junk, .val (.slice none 0 0), .val (.int .i64 0), .val (.int .i64 (s_l01Numbers p [s])), .row 188, .row 192, .val (.int .i64 i), .val (.int .i64 p), .val (.int .i64 colour), .val (.agg ⟨[.int .i64 l.1, .int .i64 l.2.1, .int .i64 l.2.2]⟩), .row 76, .val (.int .i64 (s_l03Colour p colour 1 [l.1, l.2.1, l.2.2])), .val (.int .i64 (s_l03Colour p colour 1 [l.1, l.2.1, l.2.2])), .val (.bool ((s_l03Colour p colour 1 [l.1, l.2.1, l.2.2]) == 0)), .val (.int .i64 p), .val (.agg ⟨[.int .i64 a.1, .int .i64 a.2]⟩), .row 100, .val (.int .i64 (s_l01Code p [a])), .val (.int .i64 (s_l01Code p [a])), .val (.bool ((s_l01Code p [a]) == 0)), .val (.int .i64 p), .val (.int .i64 s), .row 124, .val (.int .i64 (s_l01Numbers p [s])), .val (.int .i64 (s_l01Numbers p [s])), .val (.bool ((s_l01Numbers p [s]) == 0)), .val (.bool false), .val (undef), .val (undef), .val (undef), .val (undef), .val (.bool false), .val (.int .i64 (s_l01Numbers p [s])), .val (.bool ((s_l01Numbers p [s]) != 0)), .junk, .val (.int .i64 p), .val (.int .i64 colour), .val (.agg ⟨[.int .i64 a.1, .int .i64 a.2]⟩), .row 188, .junk, .junk, .junk, .junk, .junk, .junk, .junk, .junk, .junk, .junk, .junk, .junk, .junk, .junk, .junk, .junk, .junk, .junk, .junk, .junk, .junk, .junk, .junk, .junk, .junk], [(28, .box 29 [.val (.int .i64 l.1), .val (.int .i64 l.2.1), .val (.int .i64 l.2.2)]), (32, .box 25 [.val (.int .i64 a.1), .val (.int .i64 a.2)]), (76, .row 29 3 1 (.ints [l.1, l.2.1, l.2.2])), (100, .row 25 2 1 (.ints [a.1, a.2])), (124, .row 2 1 1 (.ints [s])), (188, .row 29 3 ((s_l03Lines p colour a).1) (.ints ((s_l03Lines p colour a).2))), (192, .row 29 3 m48 (.ints l48))]⟩
def T_s_LinesWithSpread_2 (p : Int) (colour : Int) (l : Int × Int × Int) (a : Int × Int) (s : Int) (l48 : List Int) (m48 : Nat) (i : Int) : Tab := ⟨[.val (.int .i64 p), .val (.int .i64 colour), .val (.agg ⟨[.int .i64 l.1, .int .i64 l.2.1, .int .i64 l.2.2]⟩), .val (.agg ⟨[.int .i64 a.1, .int .i64 a.2]⟩), .val (.int .i64 s), .junk, .junk, .ptr 28 0, .ptr 32 0, .junk, .val (.slice none 0 0), .val (.int .i64 0), .val (.int .i64 (s_l01Code p [a])), .row 188, .row 192, .val (.int .i64 i), .val (.int .i64 p), .val (.int .i64 colour), .val (.agg ⟨[.int .i64 l.1, .int .i64 l.2.1, .int .i64 l.2.2]⟩), .row 76, .val (.int .i64 (s_l03Colour p colour 1 [l.1, l.2.1, l.2.2])), .val (.int .i64 (s_l03Colour p colour 1 [l.1, l.2.1, l.2.2])), .val (.bool ((s_l03Colour p colour 1 [l.1, l.2.1, l.2.2]) == 0)), .val (.int .i64 p), .val (.agg ⟨[.int .i64 a.1, .int .i64 a.2]⟩), .row 100, .val (.int .i64 (s_l01Code p [a])), .val (.int .i64 (s_l01Code p [a])), .val (.bool ((s_l01Code p [a]) == 0)), .junk, .junk, .junk, .junk, .val (.int .i64 (s_l01Code p [a])), .val (.bool ((s_l01Code p [a]) == 0)), .val (.bool true), .val (.int .i64 p), .val (.int .i64 colour), .val (.agg ⟨[.int .i64 l.1, .int .i64 l.2.1, .int .i64 l.2.2]⟩), .val (.bool (s_l03Null p colour l)), .val (.bool (s_l03Null p colour l)), .val (.int .i64 (s_l01Code p [a])), .val (.bool ((s_l01Code p [a]) != 0)), .junk, .val (.int .i64 p), .val (.int .i64 colour), .val (.agg ⟨[.int .i64 a.1, .int .i64 a.2]⟩), .row 188, .junk, .junk, .junk, .junk, .junk, .junk, .junk, .junk, .junk, .junk, .junk, .junk, .junk, .junk, .junk, .junk, .junk, .junk, .junk, .junk, .junk, .junk, .junk, .junk, .junk], [(28, .box 29 [.val (.int .i64 l.1), .val (.int .i64 l.2.1), .val (.int .i64 l.2.2)]), (32, .box 25 [.val (.int .i64 a.1), .val (.int .i64 a.2)]), (76, .row 29 3 1 (.ints [l.1, l.2.1, l.2.2])), (100, .row 25 2 1 (.ints [a.1, a.2])), (188, .row 29 3 ((s_l03Lines p colour a).1) (.ints ((s_l03Lines p colour a).2))), (192, .row 29 3 m48 (.ints l48))]⟩
def T_s_LinesWithSpread_3 (p : Int) (colour : Int) (l : Int × Int × Int) (a : Int × Int) (s : Int) (l48 : List Int) (m48 : Nat) (i : Int) : Tab := ⟨[.val (.int .i64 p), .val (.int .i64 colour), .val (.agg ⟨[.int .i64 l.1, .int .i64 l.2.1, .int .i64 l.2.2]⟩), .val (.agg ⟨[.int .i64 a.1, .int .i64 a.2]⟩), .val (.int .i64 s), .junk, .junk, .ptr 28 0, .ptr 32 0, .junk, .val (.slice none 0 0), .val (.int .i64 0), .val (.int .i64 (s_l01Code p [a])), .row 188, .row 192, .val (.int .i64 i), .val (.int .i64 p), .val (.int .i64 colour), .val (.agg ⟨[.int .i64 l.1, .int .i64 l.2.1, .int .i64 l.2.2]⟩), .row 76, .val (.int .i64 (s_l03Colour p colour 1 [l.1, l.2.1, l.2.2])), .val (.int .i64 (s_l03Colour p colour 1 [l.1, l.2.1, l.2.2])), .val (.bool ((s_l03Colour p colour 1 [l.1, l.2.1, l.2.2]) == 0)), .val (.int .i64 p), .val (.agg ⟨[.int .i64 a.1, .int .i64 a.2]⟩), .row 100, .val (.int .i64 (s_l01Code p [a])), .val (.int .i64 (s_l01Code p [a])), .val (.bool ((s_l01Code p [a]) == 0)), .junk, .junk, .junk, .junk, .val (.int .i64 (s_l01Code p [a])), .val (.bool ((s_l01Code p [a]) == 0)), .val (.bool false), .val (undef), .val (undef), .val (undef), .val (undef), .val (.bool false), .val (.int .i64 (s_l01Code p [a])), .val (.bool ((s_l01Code p [a]) != 0)), .junk, .val (.int .i64 p), .val (.int .i64 colour), .val (.agg ⟨[.int .i64 a.1, .int .i64 a.2]⟩), .row 188, .junk, .junk, .junk, .junk, .junk, .junk, .junk, .junk, .junk, .junk, .junk, .junk, .junk, .junk, .junk, .junk, .junk, .junk, .junk, .junk, .junk, .junk, .junk, .junk, .junk], [(28, .box 29 [.val (.int .i64 l.1), .val (.int .i64 l.2.1), .val (.int .i64 l.2.2)]), (32, .box 25 [.val (.int .i64 a.1), .val (.int .i64 a.2)]), (76, .row 29 3 1 (.ints [l.1, l.2.1, l.2.2])), (100, .row 25 2 1 (.ints [a.1, a.2])), (188, .row 29 3 ((s_l03Lines p colour a).1) (.ints ((s_l03Lines p colour a).2))), (192, .row 29 3 m48 (.ints l48))]⟩
def T_s_LinesWithSpread_4 (p : Int) (colour : Int) (l : Int × Int × Int) (a : Int × Int) (s : Int) (l48 : List Int) (m48 : Nat) (i : Int) : Tab := ⟨[.val (.int .i64 p), .val (.int .i64 colour), .val (.agg ⟨[.int .i64 l.1, .int .i64 l.2.1, .int .i64 l.2.2]⟩), .val (.agg ⟨[.int .i64 a.1, .int .i64 a.2]⟩), .val (.int .i64 s), .junk, .junk, .ptr 28 0, .ptr 32 0, .junk, .val (.slice none 0 0), .val (.int .i64 0), .val (.int .i64 (s_l01Numbers p [s])), .row 188, .row 192, .val (.int .i64 i), .val (.int .i64 p), .val (.int .i64 colour), .val (.agg ⟨[.int .i64 l.1, .int .i64 l.2.1, .int .i64 l.2.2]⟩), .row 76, .val (.int .i64 (s_l03Colour p colour 1 [l.1, l.2.1, l.2.2])), .val (.int .i64 (s_l03Colour p colour 1 [l.1, l.2.1, l.2.2])), .val (.bool ((s_l03Colour p colour 1 [l.1, l.2.1, l.2.2]) == 0)), .junk, .junk, .junk, .junk, .val (.int .i64 (s_l03Colour p colour 1 [l.1, l.2.1, l.2.2])), .val (.bool ((s_l03Colour p colour 1 [l.1, l.2.1, l.2.2]) == 0)), .val (.int .i64 p), .val (.int .i64 s), .row 124, .val (.int .i64 (s_l01Numbers p [s])), .val (.int .i64 (s_l01Numbers p [s])), .val (.bool ((s_l01Numbers p [s]) == 0)), .val (.bool true), .val (.int .i64 p), .val (.int .i64 colour), .val (.agg ⟨[.int .i64 l.1, .int .i64 l.2.1, .int .i64 l.2.2]⟩), .val (.bool (s_l03Null p colour l)), .val (.bool (s_l03Null p colour l)), .val (.int .i64 (s_l01Numbers p [s])), .val (.bool ((s_l01Numbers p [s]) != 0)), .junk, .val (.int .i64 p), .val (.int .i64 colour), .val (.agg ⟨[.int .i64 a.1, .int .i64 a.2]⟩), .row 188, .junk, .junk, .junk, .junk, .junk, .junk, .junk, .junk, .junk, .junk, .junk, .junk, .junk, .junk, .junk, .junk, .junk, .junk, .junk, .junk, .junk, .junk, .junk, .junk, .junk], [(28, .box 29 [.val (.int .i64 l.1), .val (.int .i64 l.2.1), .val (.int .i64 l.2.2)]), (32, .box 25 [.val (.int .i64 a.1), .val (.int .i64 a.2)]), (76, .row 29 3 1 (.ints [l.1, l.2.1, l.2.2])), (124, .row 2 1 1 (.ints [s])), (188, .row 29 3 ((s_l03Lines p colour a).1) (.ints ((s_l03Lines p colour a).2))), (192, .row 29 3 m48 (.ints l48))]⟩
def T_s_LinesWithSpread_5 (p : Int) (colour : Int) (l : Int × Int × Int) (a : Int × Int) (s : Int) (l48 : List Int) (m48 : Nat) (i : Int) : Tab := ⟨[.val (.int .i64 p), .val (.int .i64 colour), .val (.agg ⟨[.int .i64 l.1, .int .i64 l.2.1, .int .i64 l.2.2]⟩), .val (.agg ⟨[.int .i64 a.1, .int .i64 a.2]⟩), .val (.int .i64 s), .junk, .junk, .ptr 28 0, .ptr 32 0, .junk, .val (.slice none 0 0), .val (.int .i64 0), .val (.int .i64 (s_l01Numbers p [s])), .row 188, .row 192, .val (.int .i64 i), .val (.int .i64 p), .val (.int .i64 colour), .val (.agg ⟨[.int .i64 l.1, .int .i64 l.2.1, .int .i64 l.2.2]⟩), .row 76, .val (.int .i64 (s_l03Colour p colour 1 [l.1, l.2.1, l.2.2])), .val (.int .i64 (s_l03Colour p colour 1 [l.1, l.2.1, l.2.2])), .val (.bool ((s_l03Colour p colour 1 [l.1, l.2.1, l.2.2]) == 0)), .junk, .junk, .junk, .junk, .val (.int .i64 (s_l03Colour p colour 1 [l.1, l.2.1, l.2.2])), .val (.bool ((s_l03Colour p colour 1 [l.1, l.2.1, l.2.2]) == 0)), .val (.int .i64 p), .val (.int .i64 s), .row 124, .val (.int .i64 (s_l01Numbers p [s])), .val (.int .i64 (s_l01Numbers p [s])), .val (.bool ((s_l01Numbers p [s]) == 0)), .val (.bool false), .val (undef), .val (undef), .val (undef), .val (undef), .val (.bool false), .val (.int .i64 (s_l01Numbers p [s])), .val (.bool ((s_l01Numbers p [s]) != 0)), .junk, .val (.int .i64 p), .val (.int .i64 colour), .val (.agg ⟨[.int .i64 a.1, .int .i64 a.2]⟩), .row 188, .junk, .junk, .junk, .junk, .junk, .junk, .junk, .junk, .junk, .junk, .junk, .junk, .junk, .junk, .junk, .junk, .junk, .junk, .junk, .junk, .junk, .junk, .junk, .junk, .junk], [(28, .box 29 [.val (.int .i64 l.1), .val (.int .i64 l.2.1), .val (.int .i64 l.2.2)]), (32, .box 25 [.val (.int .i64 a.1), .val (.int .i64 a.2)]), (76, .row 29 3 1 (.ints [l.1, l.2.1, l.2.2])), (124, .row 2 1 1 (.ints [s])), (188, .row 29 3 ((s_l03Lines p colour a).1) (.ints ((s_l03Lines p colour a).2))), (192, .row 29 3 m48 (.ints l48))]⟩
def T_s_LinesWithSpread_6 (p : Int) (colour : Int) (l : Int × Int × Int) (a : Int × Int) (s : Int) (l48 : List Int) (m48 : Nat) (i : Int) : Tab := ⟨[.val (.int .i64 p), .val (.int .i64 colour), .val (.agg ⟨[.int .i64 l.1, .int .i64 l.2.1, .int .i64 l.2.2]⟩), .val (.agg ⟨[.int .i64 a.1, .int .i64 a.2]⟩), .val (.int .i64 s), .junk, .junk, .ptr 28 0, .ptr 32 0, .junk, .val (.slice none 0 0), .val (.int .i64 0), .val (.int .i64 (s_l03Colour p colour 1 [l.1, l.2.1, l.2.2])), .row 188, .row 192, .val (.int .i64 i), .val (.int .i64 p), .val (.int .i64 colour), .val (.agg ⟨[.int .i64 l.1, .int .i64 l.2.1, .int .i64 l.2.2]⟩), .row 76, .val (.int .i64 (s_l03Colour p colour 1 [l.1, l.2.1, l.2.2])), .val (.int .i64 (s_l03Colour p colour 1 [l.1, l.2.1, l.2.2])), .val (.bool ((s_l03Colour p colour 1 [l.1, l.2.1, l.2.2]) == 0)), .junk, .junk, .junk, .junk, .val (.int .i64 (s_l03Colour p colour 1 [l.1, l.2.1, l.2.2])), .val (.bool ((s_l03Colour p colour 1 [l.1, l.2.1, l.2.2]) == 0)), .junk, .junk, .junk, .junk, .val (.int .i64 (s_l03Colour p colour 1 [l.1, l.2.1, l.2.2])), .val (.bool ((s_l03Colour p colour 1 [l.1, l.2.1, l.2.2]) == 0)), .val (.bool true), .val (.int .i64 p), .val (.int .i64 colour), .val (.agg ⟨[.int .i64 l.1, .int .i64 l.2.1, .int .i64 l.2.2]⟩), .val (.bool (s_l03Null p colour l)), .val (.bool (s_l03Null p colour l)), .val (.int .i64 (s_l03Colour p colour 1 [l.1, l.2.1, l.2.2])), .val (.bool ((s_l03Colour p colour 1 [l.1, l.2.1, l.2.2]) != 0)), .junk, .val (.int .i64 p), .val (.int .i64 colour), .val (.agg ⟨[.int .i64 a.1, .int .i64 a.2]⟩), .row 188, .junk, .junk, .junk, .junk, .junk, .junk, .junk, .junk, .junk, .junk, .junk, .junk, .junk, .junk, .junk, .junk, .junk, .junk, .junk, .junk, .junk, .junk, .junk, .junk, .junk], [(28, .box 29 [.val (.int .i64 l.1), .val (.int .i64 l.2.1), .val (.int .i64 l.2.2)]), (32, .box 25 [.val (.int .i64 a.1), .val (.int .i64 a.2)]), (76, .row 29 3 1 (.ints [l.1, l.2.1, l.2.2])), (188, .row 29 3 ((s_l03Lines p colour a).1) (.ints ((s_l03Lines p colour a).2))), (192, .row 29 3 m48 (.ints l48))]⟩
def T_s_LinesWithSpread_7 (p : Int) (colour : Int) (l : Int × Int × Int) (a : Int × Int) (s : Int) (l48 : List Int) (m48 : Nat) (i : Int) : Tab := ⟨[.val (.int .i64 p), .val (.int .i64 colour), .val (.agg ⟨[.int .i64 l.1, .int .i64 l.2.1, .int .i64 l.2.2]⟩), .val (.agg ⟨[.int .i64 a.1, .int .i64 a.2]⟩), .val (.int .i64 s), .junk, .junk, .ptr 28 0, .ptr 32 0, .junk, .val (.slice none 0 0), .val (.int .i64 0), .val (.int .i64 (s_l03Colour p colour 1 [l.1, l.2.1, l.2.2])), .row 188, .row 192, .val (.int .i64 i), .val (.int .i64 p), .val (.int .i64 colour), .val (.agg ⟨[.int .i64 l.1, .int .i64 l.2.1, .int .i64 l.2.2]⟩), .row 76, .val (.int .i64 (s_l03Colour p colour 1 [l.1, l.2.1, l.2.2])), .val (.int .i64 (s_l03Colour p colour 1 [l.1, l.2.1, l.2.2])), .val (.bool ((s_l03Colour p colour 1 [l.1, l.2.1, l.2.2]) == 0)), .junk, .junk, .junk, .junk, .val (.int .i64 (s_l03Colour p colour 1 [l.1, l.2.1, l.2.2])), .val (.bool ((s_l03Colour p colour 1 [l.1, l.2.1, l.2.2]) == 0)), .junk, .junk, .junk, .junk, .val (.int .i64 (s_l03Colour p colour 1 [l.1, l.2.1, l.2.2])), .val (.bool ((s_l03Colour p colour 1 [l.1, l.2.1, l.2.2]) == 0)), .val (.bool false), .val (undef), .val (undef), .val (undef), .val (undef), .val (.bool false), .val (.int .i64 (s_l03Colour p colour 1 [l.1, l.2.1, l.2.2])), .val (.bool ((s_l03Colour p colour 1 [l.1, l.2.1, l.2.2]) != 0)), .junk, .val (.int .i64 p), .val (.int .i64 colour), .val (.agg ⟨[.int .i64 a.1, .int .i64 a.2]⟩), .row 188, .junk, .junk, .junk, .junk, .junk, .junk, .junk, .junk, .junk, .junk, .junk, .junk, .junk, .junk, .junk, .junk, .junk, .junk, .junk, .junk, .junk, .junk, .junk, .junk, .junk], [(28, .box 29 [.val (.int .i64 l.1), .val (.int .i64 l.2.1), .val (.int .i64 l.2.2)]), (32, .box 25 [.val (.int .i64 a.1), .val (.int .i64 a.2)]), (76, .row 29 3 1 (.ints [l.1, l.2.1, l.2.2])), (188, .row 29 3 ((s_l03Lines p colour a).1) (.ints ((s_l03Lines p colour a).2))), (192, .row 29 3 m48 (.ints l48))]⟩
def X_s_LinesWithSpread_0 (P : Program) (fu : Nat) (p : Int) (colour : Int) (l : Int × Int × Int) (a : Int × Int) (s : Int) (f : Nat) (l48 : List Int) (m48 : Nat) (i : Int) : Option ((Nat × List Int) × Int) := loopK (exec P S_s_LinesWithSpread 73 (fun _ => fu + 100) (Code.sub [1, 1, 1, 1, 1, 1, 1, 0, 1, 0, 0] (bodyF P 25))) f (T_s_LinesWithSpread_0 p colour l a s l48 m48 i) (kBlock 0 (kSeq (fun s => exec P S_s_LinesWithSpread 73 (fun _ => fu + 100) (Code.sub [1, 1, 1, 1, 1, 1, 1, 1] (bodyF P 25)) s (finT P 25 dec_l29_3_i)) (finT P 25 dec_l29_3_i)))
def B_s_LinesWithSpread_0 (p : Int) (colour : Int) (l : Int × Int × Int) (a : Int × Int) (s : Int) (rec0 : (List Int) → Nat → Int → Option ((Nat × List Int) × Int)) (l48 : List Int) (m48 : Nat) (i : Int) : Option ((Nat × List Int) × Int) :=
  (if (decide (i < (((s_l03Lines p colour a).1 : Nat) : Int))) = true then (if (decide (0 ≤ i) && decide (i < (((s_l03Lines p colour a).1 : Nat) : Int))) = true then (if (Nat.ble (i.toNat * 3 + 3) (((s_l03Lines p colour a).2).length)) = true then (if (prB p) = true then (if ((s_l03Spread p colour l (((s_l03Lines p colour a).2).getD (i.toNat * 3 + 0) 0, ((s_l03Lines p colour a).2).getD (i.toNat * 3 + 1) 0, ((s_l03Lines p colour a).2).getD (i.toNat * 3 + 2) 0)) == s) = true then (if (decide (0 ≤ i) && decide (i < (((s_l03Lines p colour a).1 : Nat) : Int))) = true then (if (Nat.ble (i.toNat * 3 + 3) (((s_l03Lines p colour a).2).length)) = true then (if (Nat.ble 1 1 && Nat.ble (m48 + 1) 1000000 && Nat.beq 3 (3)) = true then rec0 (l48 ++ [((s_l03Lines p colour a).2).getD (i.toNat * 3 + 0) 0, ((s_l03Lines p colour a).2).getD (i.toNat * 3 + 1) 0, ((s_l03Lines p colour a).2).getD (i.toNat * 3 + 2) 0]) (m48 + 1) (wI (i + 1)) else none) else none) else none) else rec0 l48 m48 (wI (i + 1))) else none) else none) else none) else some ((m48, l48), 0))
def L_s_LinesWithSpread_0 (fu : Nat) (p : Int) (colour : Int) (l : Int × Int × Int) (a : Int × Int) (s : Int) : Nat → (List Int) → Nat → Int → Option ((Nat × List Int) × Int)
  | 0, _, _, _ => none
  | f + 1, l48, m48, i => B_s_LinesWithSpread_0 p colour l a s (L_s_LinesWithSpread_0 fu p colour l a s f) l48 m48 i
theorem loop_s_LinesWithSpread_0 (fu : Nat) (p : Int) (colour : Int) (l : Int × Int × Int) (a : Int × Int) (s : Int) : ∀ (f : Nat) (l48 : List Int) (m48 : Nat) (i : Int), X_s_LinesWithSpread_0 Try.prog fu p colour l a s f l48 m48 i = L_s_LinesWithSpread_0 fu p colour l a s f l48 m48 i := by
  intro f
  induction f with
  | zero => intros; rfl
  | succ f ih =>
    intro l48 m48 i
    have h1 : X_s_LinesWithSpread_0 Try.prog fu p colour l a s (f + 1) l48 m48 i = B_s_LinesWithSpread_0 p colour l a s (X_s_LinesWithSpread_0 Try.prog fu p colour l a s f) l48 m48 i := by kernel_rfl
    have h2 : X_s_LinesWithSpread_0 Try.prog fu p colour l a s f = L_s_LinesWithSpread_0 fu p colour l a s f := by funext l48 m48 i; exact ih l48 m48 i
    rw [h1, h2]
    rfl
def X_s_LinesWithSpread_1 (P : Program) (fu : Nat) (p : Int) (colour : Int) (l : Int × Int × Int) (a : Int × Int) (s : Int) (f : Nat) (l48 : List Int) (m48 : Nat) (i : Int) : Option ((Nat × List Int) × Int) := loopK (exec P S_s_LinesWithSpread 73 (fun _ => fu + 100) (Code.sub [1, 1, 1, 1, 1, 1, 1, 0, 1, 0, 0] (bodyF P 25))) f (T_s_LinesWithSpread_1 p colour l a s l48 m48 i) (kBlock 0 (kSeq (fun s => exec P S_s_LinesWithSpread 73 (fun _ => fu + 100) (Code.sub [1, 1, 1, 1, 1, 1, 1, 1] (bodyF P 25)) s (finT P 25 dec_l29_3_i)) (finT P 25 dec_l29_3_i)))
def B_s_LinesWithSpread_1 (p : Int) (colour : Int) (l : Int × Int × Int) (a : Int × Int) (s : Int) (rec1 : (List Int) → Nat → Int → Option ((Nat × List Int) × Int)) (l48 : List Int) (m48 : Nat) (i : Int) : Option ((Nat × List Int) × Int) :=
  (if (decide (i < (((s_l03Lines p colour a).1 : Nat) : Int))) = true then (if (decide (0 ≤ i) && decide (i < (((s_l03Lines p colour a).1 : Nat) : Int))) = true then (if (Nat.ble (i.toNat * 3 + 3) (((s_l03Lines p colour a).2).length)) = true then (if (prB p) = true then (if ((s_l03Spread p colour l (((s_l03Lines p colour a).2).getD (i.toNat * 3 + 0) 0, ((s_l03Lines p colour a).2).getD (i.toNat * 3 + 1) 0, ((s_l03Lines p colour a).2).getD (i.toNat * 3 + 2) 0)) == s) = true then (if (decide (0 ≤ i) && decide (i < (((s_l03Lines p colour a).1 : Nat) : Int))) = true then (if (Nat.ble (i.toNat * 3 + 3) (((s_l03Lines p colour a).2).length)) = true then (if (Nat.ble 1 1 && Nat.ble (m48 + 1) 1000000 && Nat.beq 3 (3)) = true then rec1 (l48 ++ [((s_l03Lines p colour a).2).getD (i.toNat * 3 + 0) 0, ((s_l03Lines p colour a).2).getD (i.toNat * 3 + 1) 0, ((s_l03Lines p colour a).2).getD (i.toNat * 3 + 2) 0]) (m48 + 1) (wI (i + 1)) else none) else none) else none) else rec1 l48 m48 (wI (i + 1))) else none) else none) else none) else some ((m48, l48), 0))
def L_s_LinesWithSpread_1 (fu : Nat) (p : Int) (colour : Int) (l : Int × Int × Int) (a : Int × Int) (s : Int) : Nat → (List Int) → Nat → Int → Option ((Nat × List Int) × Int)
  | 0, _, _, _ => none
  | f + 1, l48, m48, i => B_s_LinesWithSpread_1 p colour l a s (L_s_LinesWithSpread_1 fu p colour l a s f) l48 m48 i
theorem loop_s_LinesWithSpread_1 (fu : Nat) (p : Int) (colour : Int) (l : Int × Int × Int) (a : Int × Int) (s : Int) : ∀ (f : Nat) (l48 : List Int) (m48 : Nat) (i : Int), X_s_LinesWithSpread_1 Try.prog fu p colour l a s f l48 m48 i = L_s_LinesWithSpread_1 fu p colour l a s f l48 m48 i := by
  intro f
  induction f with
  | zero => intros; rfl
  | succ f ih =>
    intro l48 m48 i
    have h1 : X_s_LinesWithSpread_1 Try.prog fu p colour l a s (f + 1) l48 m48 i = B_s_LinesWithSpread_1 p colour l a s (X_s_LinesWithSpread_1 Try.prog fu p colour l a s f) l48 m48 i := by kernel_rfl
    have h2 : X_s_LinesWithSpread_1 Try.prog fu p colour l a s f = L_s_LinesWithSpread_1 fu p colour l a s f := by funext l48 m48 i; exact ih l48 m48 i
    rw [h1, h2]
    rfl
def X_s_LinesWithSpread_2 (P : Program) (fu : Nat) (p : Int) (colour : Int) (l : Int × Int × Int) (a : Int × Int) (s : Int) (f : Nat) (l48 : List Int) (m48 : Nat) (i : Int) : Option ((Nat × List Int) × Int) := loopK (exec P S_s_LinesWithSpread 73 (fun _ => fu + 100) (Code.sub [1, 1, 1, 1, 1, 1, 1, 0, 1, 0, 0] (bodyF P 25))) f (T_s_LinesWithSpread_2 p colour l a s l48 m48 i) (kBlock 0 (kSeq (fun s => exec P S_s_LinesWithSpread 73 (fun _ => fu + 100) (Code.sub [1, 1, 1, 1, 1, 1, 1, 1] (bodyF P 25)) s (finT P 25 dec_l29_3_i)) (finT P 25 dec_l29_3_i)))
def B_s_LinesWithSpread_2 (p : Int) (colour : Int) (l : Int × Int × Int) (a : Int × Int) (s : Int) (rec2 : (List Int) → Nat → Int → Option ((Nat × List Int) × Int)) (l48 : List Int) (m48 : Nat) (i : Int) : Option ((Nat × List Int) × Int) :=
  (if (decide (i < (((s_l03Lines p colour a).1 : Nat) : Int))) = true then (if (decide (0 ≤ i) && decide (i < (((s_l03Lines p colour a).1 : Nat) : Int))) = true then (if (Nat.ble (i.toNat * 3 + 3) (((s_l03Lines p colour a).2).length)) = true then (if (prB p) = true then (if ((s_l03Spread p colour l (((s_l03Lines p colour a).2).getD (i.toNat * 3 + 0) 0, ((s_l03Lines p colour a).2).getD (i.toNat * 3 + 1) 0, ((s_l03Lines p colour a).2).getD (i.toNat * 3 + 2) 0)) == s) = true then (if (decide (0 ≤ i) && decide (i < (((s_l03Lines p colour a).1 : Nat) : Int))) = true then (if (Nat.ble (i.toNat * 3 + 3) (((s_l03Lines p colour a).2).length)) = true then (if (Nat.ble 1 1 && Nat.ble (m48 + 1) 1000000 && Nat.beq 3 (3)) = true then rec2 (l48 ++ [((s_l03Lines p colour a).2).getD (i.toNat * 3 + 0) 0, ((s_l03Lines p colour a).2).getD (i.toNat * 3 + 1) 0, ((s_l03Lines p colour a).2).getD (i.toNat * 3 + 2) 0]) (m48 + 1) (wI (i + 1)) else none) else none) else none) else rec2 l48 m48 (wI (i + 1))) else none) else none) else none) else some ((m48, l48), 0))
def L_s_LinesWithSpread_2 (fu : Nat) (p : Int) (colour : Int) (l : Int × Int × Int) (a : Int × Int) (s : Int) : Nat → (List Int) → Nat → Int → Option ((Nat × List Int) × Int)
  | 0, _, _, _ => none
  | f + 1, l48, m48, i => B_s_LinesWithSpread_2 p colour l a s (L_s_LinesWithSpread_2 fu p colour l a s f) l48 m48 i
theorem loop_s_LinesWithSpread_2 (fu : Nat) (p : Int) (colour : Int) (l : Int × Int × Int) (a : Int × Int) (s : Int) : ∀ (f : Nat) (l48 : List Int) (m48 : Nat) (i : Int), X_s_LinesWithSpread_2 Try.prog fu p colour l a s f l48 m48 i = L_s_LinesWithSpread_2 fu p colour l a s f l48 m48 i := by
  intro f
  induction f with
  | zero => intros; rfl
  | succ f ih =>
    intro l48 m48 i
    have h1 : X_s_LinesWithSpread_2 Try.prog fu p colour l a s (f + 1) l48 m48 i = B_s_LinesWithSpread_2 p colour l a s (X_s_LinesWithSpread_2 Try.prog fu p colour l a s f) l48 m48 i := by kernel_rfl
    have h2 : X_s_LinesWithSpread_2 Try.prog fu p colour l a s f = L_s_LinesWithSpread_2 fu p colour l a s f := by funext l48 m48 i; exact ih l48 m48 i
    rw [h1, h2]
    rfl
def X_s_LinesWithSpread_3 (P : Program) (fu : Nat) (p : Int) (colour : Int) (l : Int × Int × Int) (a : Int × Int) (s : Int) (f : Nat) (l48 : List Int) (m48 : Nat) (i : Int) : Option ((Nat × List Int) × Int) := loopK (exec P S_s_LinesWithSpread 73 (fun _ => fu + 100) (Code.sub [1, 1, 1, 1, 1, 1, 1, 0, 1, 0, 0] (bodyF P 25))) f (T_s_LinesWithSpread_3 p colour l a s l48 m48 i) (kBlock 0 (kSeq (fun s => exec P S_s_LinesWithSpread 73 (fun _ => fu + 100) (Code.sub [1, 1, 1, 1, 1, 1, 1, 1] (bodyF P 25)) s (finT P 25 dec_l29_3_i)) (finT P 25 dec_l29_3_i)))
def B_s_LinesWithSpread_3 (p : Int) (colour : Int) (l : Int × Int × Int) (a : Int × Int) (s : Int) (rec3 : (List Int) → Nat → Int → Option ((Nat × List Int) × Int)) (l48 : List Int) (m48 : Nat) (i : Int) : Option ((Nat × List Int) × Int) :=
  (if (decide (i < (((s_l03Lines p colour a).1 : Nat) : Int))) = true then (if (decide (0 ≤ i) && decide (i < (((s_l03Lines p colour a).1 : Nat) : Int))) = true then (if (Nat.ble (i.toNat * 3 + 3) (((s_l03Lines p colour a).2).length)) = true then (if (prB p) = true then (if ((s_l03Spread p colour l (((s_l03Lines p colour a).2).getD (i.toNat * 3 + 0) 0, ((s_l03Lines p colour a).2).getD (i.toNat * 3 + 1) 0, ((s_l03Lines p colour a).2).getD (i.toNat * 3 + 2) 0)) == s) = true then (if (decide (0 ≤ i) && decide (i < (((s_l03Lines p colour a).1 : Nat) : Int))) = true then (if (Nat.ble (i.toNat * 3 + 3) (((s_l03Lines p colour a).2).length)) = true then (if (Nat.ble 1 1 && Nat.ble (m48 + 1) 1000000 && Nat.beq 3 (3)) = true then rec3 (l48 ++ [((s_l03Lines p colour a).2).getD (i.toNat * 3 + 0) 0, ((s_l03Lines p colour a).2).getD (i.toNat * 3 + 1) 0, ((s_l03Lines p colour a).2).getD (i.toNat * 3 + 2) 0]) (m48 + 1) (wI (i + 1)) else none) else none) else none) else rec3 l48 m48 (wI (i + 1))) else none) else none) else none) else some ((m48, l48), 0))
def L_s_LinesWithSpread_3 (fu : Nat) (p : Int) (colour : Int) (l : Int × Int × Int) (a : Int × Int) (s : Int) : Nat → (List Int) → Nat → Int → Option ((Nat × List Int) × Int)
  | 0, _, _, _ => none
  | f + 1, l48, m48, i => B_s_LinesWithSpread_3 p colour l a s (L_s_LinesWithSpread_3 fu p colour l a s f) l48 m48 i
theorem loop_s_LinesWithSpread_3 (fu : Nat) (p : Int) (colour : Int) (l : Int × Int × Int) (a : Int × Int) (s : Int) : ∀ (f : Nat) (l48 : List Int) (m48 : Nat) (i : Int), X_s_LinesWithSpread_3 Try.prog fu p colour l a s f l48 m48 i = L_s_LinesWithSpread_3 fu p colour l a s f l48 m48 i := by
  intro f
  induction f with
  | zero => intros; rfl
  | succ f ih =>
    intro l48 m48 i
    have h1 : X_s_LinesWithSpread_3 Try.prog fu p colour l a s (f + 1) l48 m48 i = B_s_LinesWithSpread_3 p colour l a s (X_s_LinesWithSpread_3 Try.prog fu p colour l a s f) l48 m48 i := by kernel_rfl
    have h2 : X_s_LinesWithSpread_3 Try.prog fu p colour l a s f = L_s_LinesWithSpread_3 fu p colour l a s f := by funext l48 m48 i; exact ih l48 m48 i
    rw [h1, h2]
    rfl
def X_s_LinesWithSpread_4 (P : Program) (fu : Nat) (p : Int) (colour : Int) (l : Int × Int × Int) (a : Int × Int) (s : Int) (f : Nat) (l48 : List Int) (m48 : Nat) (i : Int) : Option ((Nat × List Int) × Int) := loopK (exec P S_s_LinesWithSpread 73 (fun _ => fu + 100) (Code.sub [1, 1, 1, 1, 1, 1, 1, 0, 1, 0, 0] (bodyF P 25))) f (T_s_LinesWithSpread_4 p colour l a s l48 m48 i) (kBlock 0 (kSeq (fun s => exec P S_s_LinesWithSpread 73 (fun _ => fu + 100) (Code.sub [1, 1, 1, 1, 1, 1, 1, 1] (bodyF P 25)) s (finT P 25 dec_l29_3_i)) (finT P 25 dec_l29_3_i)))
def B_s_LinesWithSpread_4 (p : Int) (colour : Int) (l : Int × Int × Int) (a : Int × Int) (s : Int) (rec4 : (List Int) → Nat → Int → Option ((Nat × List Int) × Int)) (l48 : List Int) (m48 : Nat) (i : Int) : Option ((Nat × List Int) × Int) :=
  (if (decide (i < (((s_l03Lines p colour a).1 : Nat) : Int))) = true then (if (decide (0 ≤ i) && decide (i < (((s_l03Lines p colour a).1 : Nat) : Int))) = true then (if (Nat.ble (i.toNat * 3 + 3) (((s_l03Lines p colour a).2).length)) = true then (if (prB p) = true then (if ((s_l03Spread p colour l (((s_l03Lines p colour a).2).getD (i.toNat * 3 + 0) 0, ((s_l03Lines p colour a).2).getD (i.toNat * 3 + 1) 0, ((s_l03Lines p colour a).2).getD (i.toNat * 3 + 2) 0)) == s) = true then (if (decide (0 ≤ i) && decide (i < (((s_l03Lines p colour a).1 : Nat) : Int))) = true then (if (Nat.ble (i.toNat * 3 + 3) (((s_l03Lines p colour a).2).length)) = true then (if (Nat.ble 1 1 && Nat.ble (m48 + 1) 1000000 && Nat.beq 3 (3)) = true then rec4 (l48 ++ [((s_l03Lines p colour a).2).getD (i.toNat * 3 + 0) 0, ((s_l03Lines p colour a).2).getD (i.toNat * 3 + 1) 0, ((s_l03Lines p colour a).2).getD (i.toNat * 3 + 2) 0]) (m48 + 1) (wI (i + 1)) else none) else none) else none) else rec4 l48 m48 (wI (i + 1))) else none) else none) else none) else some ((m48, l48), 0))
def L_s_LinesWithSpread_4 (fu : Nat) (p : Int) (colour : Int) (l : Int × Int × Int) (a : Int × Int) (s : Int) : Nat → (List Int) → Nat → Int → Option ((Nat × List Int) × Int)
  | 0, _, _, _ => none
  | f + 1, l48, m48, i => B_s_LinesWithSpread_4 p colour l a s (L_s_LinesWithSpread_4 fu p colour l a s f) l48 m48 i
theorem loop_s_LinesWithSpread_4 (fu : Nat) (p : Int) (colour : Int) (l : Int × Int × Int) (a : Int × Int) (s : Int) : ∀ (f : Nat) (l48 : List Int) (m48 : Nat) (i : Int), X_s_LinesWithSpread_4 Try.prog fu p colour l a s f l48 m48 i = L_s_LinesWithSpread_4 fu p colour l a s f l48 m48 i := by
  intro f
  induction f with
  | zero => intros; rfl
  | succ f ih =>
    intro l48 m48 i
    have h1 : X_s_LinesWithSpread_4 Try.prog fu p colour l a s (f + 1) l48 m48 i = B_s_LinesWithSpread_4 p colour l a s (X_s_LinesWithSpread_4 Try.prog fu p colour l a s f) l48 m48 i := by kernel_rfl
    have h2 : X_s_LinesWithSpread_4 Try.prog fu p colour l a s f = L_s_LinesWithSpread_4 fu p colour l a s f := by funext l48 m48 i; exact ih l48 m48 i
    rw [h1, h2]
    rfl
def X_s_LinesWithSpread_5 (P : Program) (fu : Nat) (p : Int) (colour : Int) (l : Int × Int × Int) (a : Int × Int) (s : Int) (f : Nat) (l48 : List Int) (m48 : Nat) (i : Int) : Option ((Nat × List Int) × Int) := loopK (exec P S_s_LinesWithSpread 73 (fun _ => fu + 100) (Code.sub [1, 1, 1, 1, 1, 1, 1, 0, 1, 0, 0] (bodyF P 25))) f (T_s_LinesWithSpread_5 p colour l a s l48 m48 i) (kBlock 0 (kSeq (fun s => exec P S_s_LinesWithSpread 73 (fun _ => fu + 100) (Code.sub [1, 1, 1, 1, 1, 1, 1, 1] (bodyF P 25)) s (finT P 25 dec_l29_3_i)) (finT P 25 dec_l29_3_i)))
def B_s_LinesWithSpread_5 (p : Int) (colour : Int) (l : Int × Int × Int) (a : Int × Int) (s : Int) (rec5 : (List Int) → Nat → Int → Option ((Nat × List Int) × Int)) (l48 : List Int) (m48 : Nat) (i : Int) : Option ((Nat × List Int) × Int) :=
  (if (decide (i < (((s_l03Lines p colour a).1 : Nat) : Int))) = true then (if (decide (0 ≤ i) && decide (i < (((s_l03Lines p colour a).1 : Nat) : Int))) = true then (if (Nat.ble (i.toNat * 3 + 3) (((s_l03Lines p colour a).2).length)) = true then (if (prB p) = true then (if ((s_l03Spread p colour l (((s_l03Lines p colour a).2).getD (i.toNat * 3 + 0) 0, ((s_l03Lines p colour a).2).getD (i.toNat * 3 + 1) 0, ((s_l03Lines p colour a).2).getD (i.toNat * 3 + 2) 0)) == s) = true then (if (decide (0 ≤ i) && decide (i < (((s_l03Lines p colour a).1 : Nat) : Int))) = true then (if (Nat.ble (i.toNat * 3 + 3) (((s_l03Lines p colour a).2).length)) = true then (if (Nat.ble 1 1 && Nat.ble (m48 + 1) 1000000 && Nat.beq 3 (3)) = true then rec5 (l48 ++ [((s_l03Lines p colour a).2).getD (i.toNat * 3 + 0) 0, ((s_l03Lines p colour a).2).getD (i.toNat * 3 + 1) 0, ((s_l03Lines p colour a).2).getD (i.toNat * 3 + 2) 0]) (m48 + 1) (wI (i + 1)) else none) else none) else none) else rec5 l48 m48 (wI (i + 1))) else none) else none) else none) else some ((m48, l48), 0))
def L_s_LinesWithSpread_5 (fu : Nat) (p : Int) (colour : Int) (l : Int × Int × Int) (a : Int × Int) (s : Int) : Nat → (List Int) → Nat → Int → Option ((Nat × List Int) × Int)
  | 0, _, _, _ => none
  | f + 1, l48, m48, i => B_s_LinesWithSpread_5 p colour l a s (L_s_LinesWithSpread_5 fu p colour l a s f) l48 m48 i
theorem loop_s_LinesWithSpread_5 (fu : Nat) (p : Int) (colour : Int) (l : Int × Int × Int) (a : Int × Int) (s : Int) : ∀ (f : Nat) (l48 : List Int) (m48 : Nat) (i : Int), X_s_LinesWithSpread_5 Try.prog fu p colour l a s f l48 m48 i = L_s_LinesWithSpread_5 fu p colour l a s f l48 m48 i := by
  intro f
  induction f with
  | zero => intros; rfl
  | succ f ih =>
    intro l48 m48 i
    have h1 : X_s_LinesWithSpread_5 Try.prog fu p colour l a s (f + 1) l48 m48 i = B_s_LinesWithSpread_5 p colour l a s (X_s_LinesWithSpread_5 Try.prog fu p colour l a s f) l48 m48 i := by kernel_rfl
    have h2 : X_s_LinesWithSpread_5 Try.prog fu p colour l a s f = L_s_LinesWithSpread_5 fu p colour l a s f := by funext l48 m48 i; exact ih l48 m48 i
    rw [h1, h2]
    rfl
def X_s_LinesWithSpread_6 (P : Program) (fu : Nat) (p : Int) (colour : Int) (l : Int × Int × Int) (a : Int × Int) (s : Int) (f : Nat) (l48 : List Int) (m48 : Nat) (i : Int) : Option ((Nat × List Int) × Int) := loopK (exec P S_s_LinesWithSpread 73 (fun _ => fu + 100) (Code.sub [1, 1, 1, 1, 1, 1, 1, 0, 1, 0, 0] (bodyF P 25))) f (T_s_LinesWithSpread_6 p colour l a s l48 m48 i) (kBlock 0 (kSeq (fun s => exec P S_s_LinesWithSpread 73 (fun _ => fu + 100) (Code.sub [1, 1, 1, 1, 1, 1, 1, 1] (bodyF P 25)) s (finT P 25 dec_l29_3_i)) (finT P 25 dec_l29_3_i)))
def B_s_LinesWithSpread_6 (p : Int) (colour : Int) (l : Int × Int × Int) (a : Int × Int) (s : Int) (rec6 : (List Int) → Nat → Int → Option ((Nat × List Int) × Int)) (l48 : List Int) (m48 : Nat) (i : Int) : Option ((Nat × List Int) × Int) :=
  (if (decide (i < (((s_l03Lines p colour a).1 : Nat) : Int))) = true then (if (decide (0 ≤ i) && decide (i < (((s_l03Lines p colour a).1 : Nat) : Int))) = true then (if (Nat.ble (i.toNat * 3 + 3) (((s_l03Lines p colour a).2).length)) = true then (if (prB p) = true then (if ((s_l03Spread p colour l (((s_l03Lines p colour a).2).getD (i.toNat * 3 + 0) 0, ((s_l03Lines p colour a).2).getD (i.toNat * 3 + 1) 0, ((s_l03Lines p colour a).2).getD (i.toNat * 3 + 2) 0)) == s) = true then (if (decide (0 ≤ i) && decide (i < (((s_l03Lines p colour a).1 : Nat) : Int))) = true then (if (Nat.ble (i.toNat * 3 + 3) (((s_l03Lines p colour a).2).length)) = true then (if (Nat.ble 1 1 && Nat.ble (m48 + 1) 1000000 && Nat.beq 3 (3)) = true then rec6 (l48 ++ [((s_l03Lines p colour a).2).getD (i.toNat * 3 + 0) 0, ((s_l03Lines p colour a).2).getD (i.toNat * 3 + 1) 0, ((s_l03Lines p colour a).2).getD (i.toNat * 3 + 2) 0]) (m48 + 1) (wI (i + 1)) else none) else none) else none) else rec6 l48 m48 (wI (i + 1))) else none) else none) else none) else some ((m48, l48), 0))
def L_s_LinesWithSpread_6 (fu : Nat) (p : Int) (colour : Int) (l : Int × Int × Int) (a : Int × Int) (s : Int) : Nat → (List Int) → Nat → Int → Option ((Nat × List Int) × Int)
  | 0, _, _, _ => none
  | f + 1, l48, m48, i => B_s_LinesWithSpread_6 p colour l a s (L_s_LinesWithSpread_6 fu p colour l a s f) l48 m48 i
theorem loop_s_LinesWithSpread_6 (fu : Nat) (p : Int) (colour : Int) (l : Int × Int × Int) (a : Int × Int) (s : Int) : ∀ (f : Nat) (l48 : List Int) (m48 : Nat) (i : Int), X_s_LinesWithSpread_6 Try.prog fu p colour l a s f l48 m48 i = L_s_LinesWithSpread_6 fu p colour l a s f l48 m48 i := by
  intro f
  induction f with
  | zero => intros; rfl
  | succ f ih =>
    intro l48 m48 i
    have h1 : X_s_LinesWithSpread_6 Try.prog fu p colour l a s (f + 1) l48 m48 i = B_s_LinesWithSpread_6 p colour l a s (X_s_LinesWithSpread_6 Try.prog fu p colour l a s f) l48 m48 i := by kernel_rfl
    have h2 : X_s_LinesWithSpread_6 Try.prog fu p colour l a s f = L_s_LinesWithSpread_6 fu p colour l a s f := by funext l48 m48 i; exact ih l48 m48 i
    rw [h1, h2]
    rfl
def X_s_LinesWithSpread_7 (P : Program) (fu : Nat) (p : Int) (colour : Int) (l : Int × Int × Int) (a : Int × Int) (s : Int) (f : Nat) (l48 : List Int) (m48 : Nat) (i : Int) : Option ((Nat × List Int) × Int) := loopK (exec P S_s_LinesWithSpread 73 (fun _ => fu + 100) (Code.sub [1, 1, 1, 1, 1, 1, 1, 0, 1, 0, 0] (bodyF P 25))) f (T_s_LinesWithSpread_7 p colour l a s l48 m48 i) (kBlock 0 (kSeq (fun s => exec P S_s_LinesWithSpread 73 (fun _ => fu + 100) (Code.sub [1, 1, 1, 1, 1, 1, 1, 1] (bodyF P 25)) s (finT P 25 dec_l29_3_i)) (finT P 25 dec_l29_3_i)))
def B_s_LinesWithSpread_7 (p : Int) (colour : Int) (l : Int × Int × Int) (a : Int × Int) (s : Int) (rec7 : (List Int) → Nat → Int → Option ((Nat × List Int) × Int)) (l48 : List Int) (m48 : Nat) (i : Int) : Option ((Nat × List Int) × Int) :=
  (if (decide (i < (((s_l03Lines p colour a).1 : Nat) : Int))) = true then (if (decide (0 ≤ i) && decide (i < (((s_l03Lines p colour a).1 : Nat) : Int))) = true then (if (Nat.ble (i.toNat * 3 + 3) (((s_l03Lines p colour a).2).length)) = true then (if (prB p) = true then (if ((s_l03Spread p colour l (((s_l03Lines p colour a).2).getD (i.toNat * 3 + 0) 0, ((s_l03Lines p colour a).2).getD (i.toNat * 3 + 1) 0, ((s_l03Lines p colour a).2).getD (i.toNat * 3 + 2) 0)) == s) = true then (if (decide (0 ≤ i) && decide (i < (((s_l03Lines p colour a).1 : Nat) : Int))) = true then (if (Nat.ble (i.toNat * 3 + 3) (((s_l03Lines p colour a).2).length)) = true then (if (Nat.ble 1 1 && Nat.ble (m48 + 1) 1000000 && Nat.beq 3 (3)) = true then rec7 (l48 ++ [((s_l03Lines p colour a).2).getD (i.toNat * 3 + 0) 0, ((s_l03Lines p colour a).2).getD (i.toNat * 3 + 1) 0, ((s_l03Lines p colour a).2).getD (i.toNat * 3 + 2) 0]) (m48 + 1) (wI (i + 1)) else none) else none) else none) else rec7 l48 m48 (wI (i + 1))) else none) else none) else none) else some ((m48, l48), 0))
def L_s_LinesWithSpread_7 (fu : Nat) (p : Int) (colour : Int) (l : Int × Int × Int) (a : Int × Int) (s : Int) : Nat → (List Int) → Nat → Int → Option ((Nat × List Int) × Int)
  | 0, _, _, _ => none
  | f + 1, l48, m48, i => B_s_LinesWithSpread_7 p colour l a s (L_s_LinesWithSpread_7 fu p colour l a s f) l48 m48 i
theorem loop_s_LinesWithSpread_7 (fu : Nat) (p : Int) (colour : Int) (l : Int × Int × Int) (a : Int × Int) (s : Int) : ∀ (f : Nat) (l48 : List Int) (m48 : Nat) (i : Int), X_s_LinesWithSpread_7 Try.prog fu p colour l a s f l48 m48 i = L_s_LinesWithSpread_7 fu p colour l a s f l48 m48 i := by
  intro f
  induction f with
  | zero => intros; rfl
  | succ f ih =>
    intro l48 m48 i
    have h1 : X_s_LinesWithSpread_7 Try.prog fu p colour l a s (f + 1) l48 m48 i = B_s_LinesWithSpread_7 p colour l a s (X_s_LinesWithSpread_7 Try.prog fu p colour l a s f) l48 m48 i := by kernel_rfl
    have h2 : X_s_LinesWithSpread_7 Try.prog fu p colour l a s f = L_s_LinesWithSpread_7 fu p colour l a s f := by funext l48 m48 i; exact ih l48 m48 i
    rw [h1, h2]
    rfl
theorem same_s_LinesWithSpread_1 : L_s_LinesWithSpread_1 = L_s_LinesWithSpread_0 := by kernel_rfl
theorem same_s_LinesWithSpread_2 : L_s_LinesWithSpread_2 = L_s_LinesWithSpread_0 := by kernel_rfl
theorem same_s_LinesWithSpread_3 : L_s_LinesWithSpread_3 = L_s_LinesWithSpread_0 := by kernel_rfl
theorem same_s_LinesWithSpread_4 : L_s_LinesWithSpread_4 = L_s_LinesWithSpread_0 := by kernel_rfl
theorem same_s_LinesWithSpread_5 : L_s_LinesWithSpread_5 = L_s_LinesWithSpread_0 := by kernel_rfl
theorem same_s_LinesWithSpread_6 : L_s_LinesWithSpread_6 = L_s_LinesWithSpread_0 := by kernel_rfl
theorem same_s_LinesWithSpread_7 : L_s_LinesWithSpread_7 = L_s_LinesWithSpread_0 := by kernel_rfl
def G_s_LinesWithSpread (p : Int) (colour : Int) (l : Int × Int × Int) (a : Int × Int) (s : Int) (lo0 : (List Int) → Nat → Int → Option ((Nat × List Int) × Int)) (lo1 : (List Int) → Nat → Int → Option ((Nat × List Int) × Int)) (lo2 : (List Int) → Nat → Int → Option ((Nat × List Int) × Int)) (lo3 : (List Int) → Nat → Int → Option ((Nat × List Int) × Int)) (lo4 : (List Int) → Nat → Int → Option ((Nat × List Int) × Int)) (lo5 : (List Int) → Nat → Int → Option ((Nat × List Int) × Int)) (lo6 : (List Int) → Nat → Int → Option ((Nat × List Int) × Int)) (lo7 : (List Int) → Nat → Int → Option ((Nat × List Int) × Int)) : Option ((Nat × List Int) × Int) :=
  (if ((s_l03Colour p colour 1 [l.1, l.2.1, l.2.2]) == 0) = true then (if ((s_l01Code p [a]) == 0) = true then (if ((s_l01Numbers p [s]) == 0) = true then (if (prB p) = true then (if (s_l03Null p colour l) = true then some ((0, []), 5) else (if ((s_l01Numbers p [s]) != 0) = true then some ((0, []), (s_l01Numbers p [s])) else (if (prB p) = true then lo0 [] 0 0 else none))) else none) else (if ((s_l01Numbers p [s]) != 0) = true then some ((0, []), (s_l01Numbers p [s])) else (if (prB p) = true then lo1 [] 0 0 else none))) else (if ((s_l01Code p [a]) == 0) = true then (if (prB p) = true then (if (s_l03Null p colour l) = true then some ((0, []), 5) else (if ((s_l01Code p [a]) != 0) = true then some ((0, []), (s_l01Code p [a])) else (if (prB p) = true then lo2 [] 0 0 else none))) else none) else (if ((s_l01Code p [a]) != 0) = true then some ((0, []), (s_l01Code p [a])) else (if (prB p) = true then lo3 [] 0 0 else none)))) else (if ((s_l03Colour p colour 1 [l.1, l.2.1, l.2.2]) == 0) = true then (if ((s_l01Numbers p [s]) == 0) = true then (if (prB p) = true then (if (s_l03Null p colour l) = true then some ((0, []), 5) else (if ((s_l01Numbers p [s]) != 0) = true then some ((0, []), (s_l01Numbers p [s])) else (if (prB p) = true then lo4 [] 0 0 else none))) else none) else (if ((s_l01Numbers p [s]) != 0) = true then some ((0, []), (s_l01Numbers p [s])) else (if (prB p) = true then lo5 [] 0 0 else none))) else (if ((s_l03Colour p colour 1 [l.1, l.2.1, l.2.2]) == 0) = true then (if (prB p) = true then (if (s_l03Null p colour l) = true then some ((0, []), 5) else (if ((s_l03Colour p colour 1 [l.1, l.2.1, l.2.2]) != 0) = true then some ((0, []), (s_l03Colour p colour 1 [l.1, l.2.1, l.2.2])) else (if (prB p) = true then lo6 [] 0 0 else none))) else none) else (if ((s_l03Colour p colour 1 [l.1, l.2.1, l.2.2]) != 0) = true then some ((0, []), (s_l03Colour p colour 1 [l.1, l.2.1, l.2.2])) else (if (prB p) = true then lo7 [] 0 0 else none)))))
def Fo_s_LinesWithSpread (fu : Nat) (p : Int) (colour : Int) (l : Int × Int × Int) (a : Int × Int) (s : Int) : Option ((Nat × List Int) × Int) := G_s_LinesWithSpread p colour l a s (L_s_LinesWithSpread_0 fu p colour l a s (fu + 100)) (L_s_LinesWithSpread_1 fu p colour l a s (fu + 100)) (L_s_LinesWithSpread_2 fu p colour l a s (fu + 100)) (L_s_LinesWithSpread_3 fu p colour l a s (fu + 100)) (L_s_LinesWithSpread_4 fu p colour l a s (fu + 100)) (L_s_LinesWithSpread_5 fu p colour l a s (fu + 100)) (L_s_LinesWithSpread_6 fu p colour l a s (fu + 100)) (L_s_LinesWithSpread_7 fu p colour l a s (fu + 100))
theorem eqg_s_LinesWithSpread (fu : Nat) (p : Int) (colour : Int) (l : Int × Int × Int) (a : Int × Int) (s : Int) : execT Try.prog S_s_LinesWithSpread 25 73 (fun _ => fu + 100) dec_l29_3_i [.v (.int .i64 p), .v (.int .i64 colour), .v (.agg ⟨[.int .i64 l.1, .int .i64 l.2.1, .int .i64 l.2.2]⟩), .v (.agg ⟨[.int .i64 a.1, .int .i64 a.2]⟩), .v (.int .i64 s)] = G_s_LinesWithSpread p colour l a s (L_s_LinesWithSpread_0 fu p colour l a s (fu + 100)) (L_s_LinesWithSpread_1 fu p colour l a s (fu + 100)) (L_s_LinesWithSpread_2 fu p colour l a s (fu + 100)) (L_s_LinesWithSpread_3 fu p colour l a s (fu + 100)) (L_s_LinesWithSpread_4 fu p colour l a s (fu + 100)) (L_s_LinesWithSpread_5 fu p colour l a s (fu + 100)) (L_s_LinesWithSpread_6 fu p colour l a s (fu + 100)) (L_s_LinesWithSpread_7 fu p colour l a s (fu + 100)) := by
  have h1 : execT Try.prog S_s_LinesWithSpread 25 73 (fun _ => fu + 100) dec_l29_3_i [.v (.int .i64 p), .v (.int .i64 colour), .v (.agg ⟨[.int .i64 l.1, .int .i64 l.2.1, .int .i64 l.2.2]⟩), .v (.agg ⟨[.int .i64 a.1, .int .i64 a.2]⟩), .v (.int .i64 s)] = G_s_LinesWithSpread p colour l a s (X_s_LinesWithSpread_0 Try.prog fu p colour l a s (fu + 100)) (X_s_LinesWithSpread_1 Try.prog fu p colour l a s (fu + 100)) (X_s_LinesWithSpread_2 Try.prog fu p colour l a s (fu + 100)) (X_s_LinesWithSpread_3 Try.prog fu p colour l a s (fu + 100)) (X_s_LinesWithSpread_4 Try.prog fu p colour l a s (fu + 100)) (X_s_LinesWithSpread_5 Try.prog fu p colour l a s (fu + 100)) (X_s_LinesWithSpread_6 Try.prog fu p colour l a s (fu + 100)) (X_s_LinesWithSpread_7 Try.prog fu p colour l a s (fu + 100)) := by kernel_rfl
  have c0 : X_s_LinesWithSpread_0 Try.prog fu p colour l a s (fu + 100) = L_s_LinesWithSpread_0 fu p colour l a s (fu + 100) := by funext l48 m48 i; exact loop_s_LinesWithSpread_0 fu p colour l a s (fu + 100) l48 m48 i
  have c1 : X_s_LinesWithSpread_1 Try.prog fu p colour l a s (fu + 100) = L_s_LinesWithSpread_1 fu p colour l a s (fu + 100) := by funext l48 m48 i; exact loop_s_LinesWithSpread_1 fu p colour l a s (fu + 100) l48 m48 i
  have c2 : X_s_LinesWithSpread_2 Try.prog fu p colour l a s (fu + 100) = L_s_LinesWithSpread_2 fu p colour l a s (fu + 100) := by funext l48 m48 i; exact loop_s_LinesWithSpread_2 fu p colour l a s (fu + 100) l48 m48 i
  have c3 : X_s_LinesWithSpread_3 Try.prog fu p colour l a s (fu + 100) = L_s_LinesWithSpread_3 fu p colour l a s (fu + 100) := by funext l48 m48 i; exact loop_s_LinesWithSpread_3 fu p colour l a s (fu + 100) l48 m48 i
  have c4 : X_s_LinesWithSpread_4 Try.prog fu p colour l a s (fu + 100) = L_s_LinesWithSpread_4 fu p colour l a s (fu + 100) := by funext l48 m48 i; exact loop_s_LinesWithSpread_4 fu p colour l a s (fu + 100) l48 m48 i
  have c5 : X_s_LinesWithSpread_5 Try.prog fu p colour l a s (fu + 100) = L_s_LinesWithSpread_5 fu p colour l a s (fu + 100) := by funext l48 m48 i; exact loop_s_LinesWithSpread_5 fu p colour l a s (fu + 100) l48 m48 i
  have c6 : X_s_LinesWithSpread_6 Try.prog fu p colour l a s (fu + 100) = L_s_LinesWithSpread_6 fu p colour l a s (fu + 100) := by funext l48 m48 i; exact loop_s_LinesWithSpread_6 fu p colour l a s (fu + 100) l48 m48 i
  have c7 : X_s_LinesWithSpread_7 Try.prog fu p colour l a s (fu + 100) = L_s_LinesWithSpread_7 fu p colour l a s (fu + 100) := by funext l48 m48 i; exact loop_s_LinesWithSpread_7 fu p colour l a s (fu + 100) l48 m48 i
  rw [h1, c0, c1, c2, c3, c4, c5, c6, c7]
theorem eq_s_LinesWithSpread (fu : Nat) (p : Int) (colour : Int) (l : Int × Int × Int) (a : Int × Int) (s : Int) : execT Try.prog S_s_LinesWithSpread 25 73 (fun _ => fu + 100) dec_l29_3_i [.v (.int .i64 p), .v (.int .i64 colour), .v (.agg ⟨[.int .i64 l.1, .int .i64 l.2.1, .int .i64 l.2.2]⟩), .v (.agg ⟨[.int .i64 a.1, .int .i64 a.2]⟩), .v (.int .i64 s)] = Fo_s_LinesWithSpread fu p colour l a s := eqg_s_LinesWithSpread fu p colour l a s
def V_s_LinesWithSpread_0 (p : Int) (colour : Int) (l : Int × Int × Int) (a : Int × Int) (s : Int) : (List Int) → Nat → Int → (Nat × List Int) × Int := fun _ _ _ => ((((nonnullL p colour a).filter fun zz => (s_l03Spread p colour l zz == s)).length, flat3 ((nonnullL p colour a).filter fun zz => (s_l03Spread p colour l zz == s))), 0)
theorem lo0_s_LinesWithSpread (p colour : Int) (l9 : P3) (a : P2) (s : Int) (hp : prB p = true) {F : Nat} (hF : 993 < F) : L_s_LinesWithSpread_0 1000000 p colour l9 a s F [] 0 0 = some ((((nonnullL p colour a).filter fun zz => (s_l03Spread p colour l9 zz == s)).length, flat3 ((nonnullL p colour a).filter fun zz => (s_l03Spread p colour l9 zz == s))), 0) := by
  have hlen : (nonnullL p colour a).length ≤ 993 := nonnull_len hp colour a
  exact gather (flat := flat3) flat3_app rfl (L := fun f l m i => L_s_LinesWithSpread_0 1000000 p colour l9 a s f l m i) (n := (nonnullL p colour a).length) (b := 1) (M := 0) (fun k => if (s_l03Spread p colour l9 (R3 (flat3 (nonnullL p colour a)) k) == s) = true then [R3 (flat3 (nonnullL p colour a)) k] else []) (K := (some ((((nonnullL p colour a).filter fun zz => (s_l03Spread p colour l9 zz == s)).length, flat3 ((nonnullL p colour a).filter fun zz => (s_l03Spread p colour l9 zz == s))), 0))) (l := []) (m := 0) (F := F) (by intro k hk; first | (split <;> simp) | simp_all)
    (fun f k l m hk hm => by
      show B_s_LinesWithSpread_0 p colour l9 a s (L_s_LinesWithSpread_0 1000000 p colour l9 a s f) l m (k : Int) = _
      unfold B_s_LinesWithSpread_0
      have x0 : prB p = true := hp
      have e0 : decide (0 ≤ (k : Int)) = true := by simp
      have e1 := cnd hk
      have e3 : (k : Int).toNat = k := Int.toNat_natCast k
      have e4 := row3_ok (flat3_len _) hk
      have e5 : Nat.ble 1 1 = true := rfl
      have e6 : Nat.ble (m + 1) 1000000 = true := leb (by omega)
      rw [show s_l03Lines p colour a = ((nonnullL p colour a).length, flat3 (nonnullL p colour a)) from rfl]
      simp only [e0, e1, e3, e4, e5, e6, beq33, x0, Bool.and_true, Bool.true_and, if_true, wrap_add1 hk (by omega)]
      have hq0 : ((s_l03Spread p colour l9 ((flat3 (nonnullL p colour a)).getD (k * 3 + 0) 0, (flat3 (nonnullL p colour a)).getD (k * 3 + 1) 0, (flat3 (nonnullL p colour a)).getD (k * 3 + 2) 0) == s)) = ((s_l03Spread p colour l9 (R3 (flat3 (nonnullL p colour a)) k) == s)) := rfl
      try rw [hq0]
      generalize ((s_l03Spread p colour l9 (R3 (flat3 (nonnullL p colour a)) k) == s)) = c0
      cases c0 <;> first
        | rfl
        | (simp only [Bool.false_eq_true, Bool.false_and, Bool.and_false, Bool.true_and, if_false, if_true]
           rw [show flat3 [] = [] from rfl, List.append_nil]
           rfl))
    (fun f hm => by
      show B_s_LinesWithSpread_0 p colour l9 a s (L_s_LinesWithSpread_0 1000000 p colour l9 a s f) ([] ++ flat3 ((List.range (nonnullL p colour a).length).flatMap (fun k => if (s_l03Spread p colour l9 (R3 (flat3 (nonnullL p colour a)) k) == s) = true then [R3 (flat3 (nonnullL p colour a)) k] else []))) (0 + ((List.range (nonnullL p colour a).length).flatMap (fun k => if (s_l03Spread p colour l9 (R3 (flat3 (nonnullL p colour a)) k) == s) = true then [R3 (flat3 (nonnullL p colour a)) k] else [])).length) (((nonnullL p colour a).length : Nat) : Int) = _
      unfold B_s_LinesWithSpread_0
      have hkp : ((List.range ((nonnullL p colour a).length)).flatMap fun k => if (s_l03Spread p colour l9 (R3 (flat3 (nonnullL p colour a)) k) == s) = true then [R3 (flat3 (nonnullL p colour a)) k] else []) = (rows3 ((nonnullL p colour a).length) (flat3 (nonnullL p colour a))).filter (fun zz => (s_l03Spread p colour l9 zz == s)) := keep3 ((nonnullL p colour a).length) (flat3 (nonnullL p colour a)) (fun zz => (s_l03Spread p colour l9 zz == s))
      rw [show s_l03Lines p colour a = ((nonnullL p colour a).length, flat3 (nonnullL p colour a)) from rfl]
      rw [if_neg (by simp), hkp, rows3_flat3]
      simp) (by omega) (Nat.le_refl _)

def V_s_LinesWithSpread_1 (p : Int) (colour : Int) (l : Int × Int × Int) (a : Int × Int) (s : Int) : (List Int) → Nat → Int → (Nat × List Int) × Int := fun _ _ _ => ((((nonnullL p colour a).filter fun zz => (s_l03Spread p colour l zz == s)).length, flat3 ((nonnullL p colour a).filter fun zz => (s_l03Spread p colour l zz == s))), 0)
theorem lo1_s_LinesWithSpread (p colour : Int) (l9 : P3) (a : P2) (s : Int) (hp : prB p = true) {F : Nat} (hF : 993 < F) : L_s_LinesWithSpread_1 1000000 p colour l9 a s F [] 0 0 = some ((((nonnullL p colour a).filter fun zz => (s_l03Spread p colour l9 zz == s)).length, flat3 ((nonnullL p colour a).filter fun zz => (s_l03Spread p colour l9 zz == s))), 0) := by
  have hlen : (nonnullL p colour a).length ≤ 993 := nonnull_len hp colour a
  exact gather (flat := flat3) flat3_app rfl (L := fun f l m i => L_s_LinesWithSpread_1 1000000 p colour l9 a s f l m i) (n := (nonnullL p colour a).length) (b := 1) (M := 0) (fun k => if (s_l03Spread p colour l9 (R3 (flat3 (nonnullL p colour a)) k) == s) = true then [R3 (flat3 (nonnullL p colour a)) k] else []) (K := (some ((((nonnullL p colour a).filter fun zz => (s_l03Spread p colour l9 zz == s)).length, flat3 ((nonnullL p colour a).filter fun zz => (s_l03Spread p colour l9 zz == s))), 0))) (l := []) (m := 0) (F := F) (by intro k hk; first | (split <;> simp) | simp_all)
    (fun f k l m hk hm => by
      show B_s_LinesWithSpread_1 p colour l9 a s (L_s_LinesWithSpread_1 1000000 p colour l9 a s f) l m (k : Int) = _
      unfold B_s_LinesWithSpread_1
      have x0 : prB p = true := hp
      have e0 : decide (0 ≤ (k : Int)) = true := by simp
      have e1 := cnd hk
      have e3 : (k : Int).toNat = k := Int.toNat_natCast k
      have e4 := row3_ok (flat3_len _) hk
      have e5 : Nat.ble 1 1 = true := rfl
      have e6 : Nat.ble (m + 1) 1000000 = true := leb (by omega)
      rw [show s_l03Lines p colour a = ((nonnullL p colour a).length, flat3 (nonnullL p colour a)) from rfl]
      simp only [e0, e1, e3, e4, e5, e6, beq33, x0, Bool.and_true, Bool.true_and, if_true, wrap_add1 hk (by omega)]
      have hq0 : ((s_l03Spread p colour l9 ((flat3 (nonnullL p colour a)).getD (k * 3 + 0) 0, (flat3 (nonnullL p colour a)).getD (k * 3 + 1) 0, (flat3 (nonnullL p colour a)).getD (k * 3 + 2) 0) == s)) = ((s_l03Spread p colour l9 (R3 (flat3 (nonnullL p colour a)) k) == s)) := rfl
      try rw [hq0]
      generalize ((s_l03Spread p colour l9 (R3 (flat3 (nonnullL p colour a)) k) == s)) = c0
      cases c0 <;> first
        | rfl
        | (simp only [Bool.false_eq_true, Bool.false_and, Bool.and_false, Bool.true_and, if_false, if_true]
           rw [show flat3 [] = [] from rfl, List.append_nil]
           rfl))
    (fun f hm => by
      show B_s_LinesWithSpread_1 p colour l9 a s (L_s_LinesWithSpread_1 1000000 p colour l9 a s f) ([] ++ flat3 ((List.range (nonnullL p colour a).length).flatMap (fun k => if (s_l03Spread p colour l9 (R3 (flat3 (nonnullL p colour a)) k) == s) = true then [R3 (flat3 (nonnullL p colour a)) k] else []))) (0 + ((List.range (nonnullL p colour a).length).flatMap (fun k => if (s_l03Spread p colour l9 (R3 (flat3 (nonnullL p colour a)) k) == s) = true then [R3 (flat3 (nonnullL p colour a)) k] else [])).length) (((nonnullL p colour a).length : Nat) : Int) = _
      unfold B_s_LinesWithSpread_1
      have hkp : ((List.range ((nonnullL p colour a).length)).flatMap fun k => if (s_l03Spread p colour l9 (R3 (flat3 (nonnullL p colour a)) k) == s) = true then [R3 (flat3 (nonnullL p colour a)) k] else []) = (rows3 ((nonnullL p colour a).length) (flat3 (nonnullL p colour a))).filter (fun zz => (s_l03Spread p colour l9 zz == s)) := keep3 ((nonnullL p colour a).length) (flat3 (nonnullL p colour a)) (fun zz => (s_l03Spread p colour l9 zz == s))
      rw [show s_l03Lines p colour a = ((nonnullL p colour a).length, flat3 (nonnullL p colour a)) from rfl]
      rw [if_neg (by simp), hkp, rows3_flat3]
      simp) (by omega) (Nat.le_refl _)

def V_s_LinesWithSpread_2 (p : Int) (colour : Int) (l : Int × Int × Int) (a : Int × Int) (s : Int) : (List Int) → Nat → Int → (Nat × List Int) × Int := fun _ _ _ => ((((nonnullL p colour a).filter fun zz => (s_l03Spread p colour l zz == s)).length, flat3 ((nonnullL p colour a).filter fun zz => (s_l03Spread p colour l zz == s))), 0)
theorem lo2_s_LinesWithSpread (p colour : Int) (l9 : P3) (a : P2) (s : Int) (hp : prB p = true) {F : Nat} (hF : 993 < F) : L_s_LinesWithSpread_2 1000000 p colour l9 a s F [] 0 0 = some ((((nonnullL p colour a).filter fun zz => (s_l03Spread p colour l9 zz == s)).length, flat3 ((nonnullL p colour a).filter fun zz => (s_l03Spread p colour l9 zz == s))), 0) := by
  have hlen : (nonnullL p colour a).length ≤ 993 := nonnull_len hp colour a
  exact gather (flat := flat3) flat3_app rfl (L := fun f l m i => L_s_LinesWithSpread_2 1000000 p colour l9 a s f l m i) (n := (nonnullL p colour a).length) (b := 1) (M := 0) (fun k => if (s_l03Spread p colour l9 (R3 (flat3 (nonnullL p colour a)) k) == s) = true then [R3 (flat3 (nonnullL p colour a)) k] else []) (K := (some ((((nonnullL p colour a).filter fun zz => (s_l03Spread p colour l9 zz == s)).length, flat3 ((nonnullL p colour a).filter fun zz => (s_l03Spread p colour l9 zz == s))), 0))) (l := []) (m := 0) (F := F) (by intro k hk; first | (split <;> simp) | simp_all)
    (fun f k l m hk hm => by
      show B_s_LinesWithSpread_2 p colour l9 a s (L_s_LinesWithSpread_2 1000000 p colour l9 a s f) l m (k : Int) = _
      unfold B_s_LinesWithSpread_2
      have x0 : prB p = true := hp
      have e0 : decide (0 ≤ (k : Int)) = true := by simp
      have e1 := cnd hk
      have e3 : (k : Int).toNat = k := Int.toNat_natCast k
      have e4 := row3_ok (flat3_len _) hk
      have e5 : Nat.ble 1 1 = true := rfl
      have e6 : Nat.ble (m + 1) 1000000 = true := leb (by omega)
      rw [show s_l03Lines p colour a = ((nonnullL p colour a).length, flat3 (nonnullL p colour a)) from rfl]
      simp only [e0, e1, e3, e4, e5, e6, beq33, x0, Bool.and_true, Bool.true_and, if_true, wrap_add1 hk (by omega)]
      have hq0 : ((s_l03Spread p colour l9 ((flat3 (nonnullL p colour a)).getD (k * 3 + 0) 0, (flat3 (nonnullL p colour a)).getD (k * 3 + 1) 0, (flat3 (nonnullL p colour a)).getD (k * 3 + 2) 0) == s)) = ((s_l03Spread p colour l9 (R3 (flat3 (nonnullL p colour a)) k) == s)) := rfl
      try rw [hq0]
      generalize ((s_l03Spread p colour l9 (R3 (flat3 (nonnullL p colour a)) k) == s)) = c0
      cases c0 <;> first
        | rfl
        | (simp only [Bool.false_eq_true, Bool.false_and, Bool.and_false, Bool.true_and, if_false, if_true]
           rw [show flat3 [] = [] from rfl, List.append_nil]
           rfl))
    (fun f hm => by
      show B_s_LinesWithSpread_2 p colour l9 a s (L_s_LinesWithSpread_2 1000000 p colour l9 a s f) ([] ++ flat3 ((List.range (nonnullL p colour a).length).flatMap (fun k => if (s_l03Spread p colour l9 (R3 (flat3 (nonnullL p colour a)) k) == s) = true then [R3 (flat3 (nonnullL p colour a)) k] else []))) (0 + ((List.range (nonnullL p colour a).length).flatMap (fun k => if (s_l03Spread p colour l9 (R3 (flat3 (nonnullL p colour a)) k) == s) = true then [R3 (flat3 (nonnullL p colour a)) k] else [])).length) (((nonnullL p colour a).length : Nat) : Int) = _
      unfold B_s_LinesWithSpread_2
      have hkp : ((List.range ((nonnullL p colour a).length)).flatMap fun k => if (s_l03Spread p colour l9 (R3 (flat3 (nonnullL p colour a)) k) == s) = true then [R3 (flat3 (nonnullL p colour a)) k] else []) = (rows3 ((nonnullL p colour a).length) (flat3 (nonnullL p colour a))).filter (fun zz => (s_l03Spread p colour l9 zz == s)) := keep3 ((nonnullL p colour a).length) (flat3 (nonnullL p colour a)) (fun zz => (s_l03Spread p colour l9 zz == s))
      rw [show s_l03Lines p colour a = ((nonnullL p colour a).length, flat3 (nonnullL p colour a)) from rfl]
      rw [if_neg (by simp), hkp, rows3_flat3]
      simp) (by omega) (Nat.le_refl _)

def V_s_LinesWithSpread_3 (p : Int) (colour : Int) (l : Int × Int × Int) (a : Int × Int) (s : Int) : (List Int) → Nat → Int → (Nat × List Int) × Int := fun _ _ _ => ((((nonnullL p colour a).filter fun zz => (s_l03Spread p colour l zz == s)).length, flat3 ((nonnullL p colour a).filter fun zz => (s_l03Spread p colour l zz == s))), 0)
theorem lo3_s_LinesWithSpread (p colour : Int) (l9 : P3) (a : P2) (s : Int) (hp : prB p = true) {F : Nat} (hF : 993 < F) : L_s_LinesWithSpread_3 1000000 p colour l9 a s F [] 0 0 = some ((((nonnullL p colour a).filter fun zz => (s_l03Spread p colour l9 zz == s)).length, flat3 ((nonnullL p colour a).filter fun zz => (s_l03Spread p colour l9 zz == s))), 0) := by
  have hlen : (nonnullL p colour a).length ≤ 993 := nonnull_len hp colour a
  exact gather (flat := flat3) flat3_app rfl (L := fun f l m i => L_s_LinesWithSpread_3 1000000 p colour l9 a s f l m i) (n := (nonnullL p colour a).length) (b := 1) (M := 0) (fun k => if (s_l03Spread p colour l9 (R3 (flat3 (nonnullL p colour a)) k) == s) = true then [R3 (flat3 (nonnullL p colour a)) k] else []) (K := (some ((((nonnullL p colour a).filter fun zz => (s_l03Spread p colour l9 zz == s)).length, flat3 ((nonnullL p colour a).filter fun zz => (s_l03Spread p colour l9 zz == s))), 0))) (l := []) (m := 0) (F := F) (by intro k hk; first | (split <;> simp) | simp_all)
    (fun f k l m hk hm => by
      show B_s_LinesWithSpread_3 p colour l9 a s (L_s_LinesWithSpread_3 1000000 p colour l9 a s f) l m (k : Int) = _
      unfold B_s_LinesWithSpread_3
      have x0 : prB p = true := hp
      have e0 : decide (0 ≤ (k : Int)) = true := by simp
      have e1 := cnd hk
      have e3 : (k : Int).toNat = k := Int.toNat_natCast k
      have e4 := row3_ok (flat3_len _) hk
      have e5 : Nat.ble 1 1 = true := rfl
      have e6 : Nat.ble (m + 1) 1000000 = true := leb (by omega)
      rw [show s_l03Lines p colour a = ((nonnullL p colour a).length, flat3 (nonnullL p colour a)) from rfl]
      simp only [e0, e1, e3, e4, e5, e6, beq33, x0, Bool.and_true, Bool.true_and, if_true, wrap_add1 hk (by omega)]
      have hq0 : ((s_l03Spread p colour l9 ((flat3 (nonnullL p colour a)).getD (k * 3 + 0) 0, (flat3 (nonnullL p colour a)).getD (k * 3 + 1) 0, (flat3 (nonnullL p colour a)).getD (k * 3 + 2) 0) == s)) = ((s_l03Spread p colour l9 (R3 (flat3 (nonnullL p colour a)) k) == s)) := rfl
      try rw [hq0]
      generalize ((s_l03Spread p colour l9 (R3 (flat3 (nonnullL p colour a)) k) == s)) = c0
      cases c0 <;> first
        | rfl
        | (simp only [Bool.false_eq_true, Bool.false_and, Bool.and_false, Bool.true_and, if_false, if_true]
           rw [show flat3 [] = [] from rfl, List.append_nil]
           rfl))
    (fun f hm => by
      show B_s_LinesWithSpread_3 p colour l9 a s (L_s_LinesWithSpread_3 1000000 p colour l9 a s f) ([] ++ flat3 ((List.range (nonnullL p colour a).length).flatMap (fun k => if (s_l03Spread p colour l9 (R3 (flat3 (nonnullL p colour a)) k) == s) = true then [R3 (flat3 (nonnullL p colour a)) k] else []))) (0 + ((List.range (nonnullL p colour a).length).flatMap (fun k => if (s_l03Spread p colour l9 (R3 (flat3 (nonnullL p colour a)) k) == s) = true then [R3 (flat3 (nonnullL p colour a)) k] else [])).length) (((nonnullL p colour a).length : Nat) : Int) = _
      unfold B_s_LinesWithSpread_3
      have hkp : ((List.range ((nonnullL p colour a).length)).flatMap fun k => if (s_l03Spread p colour l9 (R3 (flat3 (nonnullL p colour a)) k) == s) = true then [R3 (flat3 (nonnullL p colour a)) k] else []) = (rows3 ((nonnullL p colour a).length) (flat3 (nonnullL p colour a))).filter (fun zz => (s_l03Spread p colour l9 zz == s)) := keep3 ((nonnullL p colour a).length) (flat3 (nonnullL p colour a)) (fun zz => (s_l03Spread p colour l9 zz == s))
      rw [show s_l03Lines p colour a = ((nonnullL p colour a).length, flat3 (nonnullL p colour a)) from rfl]
      rw [if_neg (by simp), hkp, rows3_flat3]
      simp) (by omega) (Nat.le_refl _)

def V_s_LinesWithSpread_4 (p : Int) (colour : Int) (l : Int × Int × Int) (a : Int × Int) (s : Int) : (List Int) → Nat → Int → (Nat × List Int) × Int := fun _ _ _ => ((((nonnullL p colour a).filter fun zz => (s_l03Spread p colour l zz == s)).length, flat3 ((nonnullL p colour a).filter fun zz => (s_l03Spread p colour l zz == s))), 0)
theorem lo4_s_LinesWithSpread (p colour : Int) (l9 : P3) (a : P2) (s : Int) (hp : prB p = true) {F : Nat} (hF : 993 < F) : L_s_LinesWithSpread_4 1000000 p colour l9 a s F [] 0 0 = some ((((nonnullL p colour a).filter fun zz => (s_l03Spread p colour l9 zz == s)).length, flat3 ((nonnullL p colour a).filter fun zz => (s_l03Spread p colour l9 zz == s))), 0) := by
  have hlen : (nonnullL p colour a).length ≤ 993 := nonnull_len hp colour a
  exact gather (flat := flat3) flat3_app rfl (L := fun f l m i => L_s_LinesWithSpread_4 1000000 p colour l9 a s f l m i) (n := (nonnullL p colour a).length) (b := 1) (M := 0) (fun k => if (s_l03Spread p colour l9 (R3 (flat3 (nonnullL p colour a)) k) == s) = true then [R3 (flat3 (nonnullL p colour a)) k] else []) (K := (some ((((nonnullL p colour a).filter fun zz => (s_l03Spread p colour l9 zz == s)).length, flat3 ((nonnullL p colour a).filter fun zz => (s_l03Spread p colour l9 zz == s))), 0))) (l := []) (m := 0) (F := F) (by intro k hk; first | (split <;> simp) | simp_all)
    (fun f k l m hk hm => by
      show B_s_LinesWithSpread_4 p colour l9 a s (L_s_LinesWithSpread_4 1000000 p colour l9 a s f) l m (k : Int) = _
      unfold B_s_LinesWithSpread_4
      have x0 : prB p = true := hp
      have e0 : decide (0 ≤ (k : Int)) = true := by simp
      have e1 := cnd hk
      have e3 : (k : Int).toNat = k := Int.toNat_natCast k
      have e4 := row3_ok (flat3_len _) hk
      have e5 : Nat.ble 1 1 = true := rfl
      have e6 : Nat.ble (m + 1) 1000000 = true := leb (by omega)
      rw [show s_l03Lines p colour a = ((nonnullL p colour a).length, flat3 (nonnullL p colour a)) from rfl]
      simp only [e0, e1, e3, e4, e5, e6, beq33, x0, Bool.and_true, Bool.true_and, if_true, wrap_add1 hk (by omega)]
      have hq0 : ((s_l03Spread p colour l9 ((flat3 (nonnullL p colour a)).getD (k * 3 + 0) 0, (flat3 (nonnullL p colour a)).getD (k * 3 + 1) 0, (flat3 (nonnullL p colour a)).getD (k * 3 + 2) 0) == s)) = ((s_l03Spread p colour l9 (R3 (flat3 (nonnullL p colour a)) k) == s)) := rfl
      try rw [hq0]
      generalize ((s_l03Spread p colour l9 (R3 (flat3 (nonnullL p colour a)) k) == s)) = c0
      cases c0 <;> first
        | rfl
        | (simp only [Bool.false_eq_true, Bool.false_and, Bool.and_false, Bool.true_and, if_false, if_true]
           rw [show flat3 [] = [] from rfl, List.append_nil]
           rfl))
    (fun f hm => by
      show B_s_LinesWithSpread_4 p colour l9 a s (L_s_LinesWithSpread_4 1000000 p colour l9 a s f) ([] ++ flat3 ((List.range (nonnullL p colour a).length).flatMap (fun k => if (s_l03Spread p colour l9 (R3 (flat3 (nonnullL p colour a)) k) == s) = true then [R3 (flat3 (nonnullL p colour a)) k] else []))) (0 + ((List.range (nonnullL p colour a).length).flatMap (fun k => if (s_l03Spread p colour l9 (R3 (flat3 (nonnullL p colour a)) k) == s) = true then [R3 (flat3 (nonnullL p colour a)) k] else [])).length) (((nonnullL p colour a).length : Nat) : Int) = _
      unfold B_s_LinesWithSpread_4
      have hkp : ((List.range ((nonnullL p colour a).length)).flatMap fun k => if (s_l03Spread p colour l9 (R3 (flat3 (nonnullL p colour a)) k) == s) = true then [R3 (flat3 (nonnullL p colour a)) k] else []) = (rows3 ((nonnullL p colour a).length) (flat3 (nonnullL p colour a))).filter (fun zz => (s_l03Spread p colour l9 zz == s)) := keep3 ((nonnullL p colour a).length) (flat3 (nonnullL p colour a)) (fun zz => (s_l03Spread p colour l9 zz == s))
      rw [show s_l03Lines p colour a = ((nonnullL p colour a).length, flat3 (nonnullL p colour a)) from rfl]
      rw [if_neg (by simp), hkp, rows3_flat3]
      simp) (by omega) (Nat.le_refl _)

def V_s_LinesWithSpread_5 (p : Int) (colour : Int) (l : Int × Int × Int) (a : Int × Int) (s : Int) : (List Int) → Nat → Int → (Nat × List Int) × Int := fun _ _ _ => ((((nonnullL p colour a).filter fun zz => (s_l03Spread p colour l zz == s)).length, flat3 ((nonnullL p colour a).filter fun zz => (s_l03Spread p colour l zz == s))), 0)
theorem lo5_s_LinesWithSpread (p colour : Int) (l9 : P3) (a : P2) (s : Int) (hp : prB p = true) {F : Nat} (hF : 993 < F) : L_s_LinesWithSpread_5 1000000 p colour l9 a s F [] 0 0 = some ((((nonnullL p colour a).filter fun zz => (s_l03Spread p colour l9 zz == s)).length, flat3 ((nonnullL p colour a).filter fun zz => (s_l03Spread p colour l9 zz == s))), 0) := by
  have hlen : (nonnullL p colour a).length ≤ 993 := nonnull_len hp colour a
  exact gather (flat := flat3) flat3_app rfl (L := fun f l m i => L_s_LinesWithSpread_5 1000000 p colour l9 a s f l m i) (n := (nonnullL p colour a).length) (b := 1) (M := 0) (fun k => if (s_l03Spread p colour l9 (R3 (flat3 (nonnullL p colour a)) k) == s) = true then [R3 (flat3 (nonnullL p colour a)) k] else []) (K := (some ((((nonnullL p colour a).filter fun zz => (s_l03Spread p colour l9 zz == s)).length, flat3 ((nonnullL p colour a).filter fun zz => (s_l03Spread p colour l9 zz == s))), 0))) (l := []) (m := 0) (F := F) (by intro k hk; first | (split <;> simp) | simp_all)
    (fun f k l m hk hm => by
      show B_s_LinesWithSpread_5 p colour l9 a s (L_s_LinesWithSpread_5 1000000 p colour l9 a s f) l m (k : Int) = _
      unfold B_s_LinesWithSpread_5
      have x0 : prB p = true := hp
      have e0 : decide (0 ≤ (k : Int)) = true := by simp
      have e1 := cnd hk
      have e3 : (k : Int).toNat = k := Int.toNat_natCast k
      have e4 := row3_ok (flat3_len _) hk
      have e5 : Nat.ble 1 1 = true := rfl
      have e6 : Nat.ble (m + 1) 1000000 = true := leb (by omega)
      rw [show s_l03Lines p colour a = ((nonnullL p colour a).length, flat3 (nonnullL p colour a)) from rfl]
      simp only [e0, e1, e3, e4, e5, e6, beq33, x0, Bool.and_true, Bool.true_and, if_true, wrap_add1 hk (by omega)]
      have hq0 : ((s_l03Spread p colour l9 ((flat3 (nonnullL p colour a)).getD (k * 3 + 0) 0, (flat3 (nonnullL p colour a)).getD (k * 3 + 1) 0, (flat3 (nonnullL p colour a)).getD (k * 3 + 2) 0) == s)) = ((s_l03Spread p colour l9 (R3 (flat3 (nonnullL p colour a)) k) == s)) := rfl
      try rw [hq0]
      generalize ((s_l03Spread p colour l9 (R3 (flat3 (nonnullL p colour a)) k) == s)) = c0
      cases c0 <;> first
        | rfl
        | (simp only [Bool.false_eq_true, Bool.false_and, Bool.and_false, Bool.true_and, if_false, if_true]
           rw [show flat3 [] = [] from rfl, List.append_nil]
           rfl))
    (fun f hm => by
      show B_s_LinesWithSpread_5 p colour l9 a s (L_s_LinesWithSpread_5 1000000 p colour l9 a s f) ([] ++ flat3 ((List.range (nonnullL p colour a).length).flatMap (fun k => if (s_l03Spread p colour l9 (R3 (flat3 (nonnullL p colour a)) k) == s) = true then [R3 (flat3 (nonnullL p colour a)) k] else []))) (0 + ((List.range (nonnullL p colour a).length).flatMap (fun k => if (s_l03Spread p colour l9 (R3 (flat3 (nonnullL p colour a)) k) == s) = true then [R3 (flat3 (nonnullL p colour a)) k] else [])).length) (((nonnullL p colour a).length : Nat) : Int) = _
      unfold B_s_LinesWithSpread_5
      have hkp : ((List.range ((nonnullL p colour a).length)).flatMap fun k => if (s_l03Spread p colour l9 (R3 (flat3 (nonnullL p colour a)) k) == s) = true then [R3 (flat3 (nonnullL p colour a)) k] else []) = (rows3 ((nonnullL p colour a).length) (flat3 (nonnullL p colour a))).filter (fun zz => (s_l03Spread p colour l9 zz == s)) := keep3 ((nonnullL p colour a).length) (flat3 (nonnullL p colour a)) (fun zz => (s_l03Spread p colour l9 zz == s))
      rw [show s_l03Lines p colour a = ((nonnullL p colour a).length, flat3 (nonnullL p colour a)) from rfl]
      rw [if_neg (by simp), hkp, rows3_flat3]
      simp) (by omega) (Nat.le_refl _)

def V_s_LinesWithSpread_6 (p : Int) (colour : Int) (l : Int × Int × Int) (a : Int × Int) (s : Int) : (List Int) → Nat → Int → (Nat × List Int) × Int := fun _ _ _ => ((((nonnullL p colour a).filter fun zz => (s_l03Spread p colour l zz == s)).length, flat3 ((nonnullL p colour a).filter fun zz => (s_l03Spread p colour l zz == s))), 0)
theorem lo6_s_LinesWithSpread (p colour : Int) (l9 : P3) (a : P2) (s : Int) (hp : prB p = true) {F : Nat} (hF : 993 < F) : L_s_LinesWithSpread_6 1000000 p colour l9 a s F [] 0 0 = some ((((nonnullL p colour a).filter fun zz => (s_l03Spread p colour l9 zz == s)).length, flat3 ((nonnullL p colour a).filter fun zz => (s_l03Spread p colour l9 zz == s))), 0) := by
  have hlen : (nonnullL p colour a).length ≤ 993 := nonnull_len hp colour a
  exact gather (flat := flat3) flat3_app rfl (L := fun f l m i => L_s_LinesWithSpread_6 1000000 p colour l9 a s f l m i) (n := (nonnullL p colour a).length) (b := 1) (M := 0) (fun k => if (s_l03Spread p colour l9 (R3 (flat3 (nonnullL p colour a)) k) == s) = true then [R3 (flat3 (nonnullL p colour a)) k] else []) (K := (some ((((nonnullL p colour a).filter fun zz => (s_l03Spread p colour l9 zz == s)).length, flat3 ((nonnullL p colour a).filter fun zz => (s_l03Spread p colour l9 zz == s))), 0))) (l := []) (m := 0) (F := F) (by intro k hk; first | (split <;> simp) | simp_all)
    (fun f k l m hk hm => by
      show B_s_LinesWithSpread_6 p colour l9 a s (L_s_LinesWithSpread_6 1000000 p colour l9 a s f) l m (k : Int) = _
      unfold B_s_LinesWithSpread_6
      have x0 : prB p = true := hp
      have e0 : decide (0 ≤ (k : Int)) = true := by simp
      have e1 := cnd hk
      have e3 : (k : Int).toNat = k := Int.toNat_natCast k
      have e4 := row3_ok (flat3_len _) hk
      have e5 : Nat.ble 1 1 = true := rfl
      have e6 : Nat.ble (m + 1) 1000000 = true := leb (by omega)
      rw [show s_l03Lines p colour a = ((nonnullL p colour a).length, flat3 (nonnullL p colour a)) from rfl]
      simp only [e0, e1, e3, e4, e5, e6, beq33, x0, Bool.and_true, Bool.true_and, if_true, wrap_add1 hk (by omega)]
      have hq0 : ((s_l03Spread p colour l9 ((flat3 (nonnullL p colour a)).getD (k * 3 + 0) 0, (flat3 (nonnullL p colour a)).getD (k * 3 + 1) 0, (flat3 (nonnullL p colour a)).getD (k * 3 + 2) 0) == s)) = ((s_l03Spread p colour l9 (R3 (flat3 (nonnullL p colour a)) k) == s)) := rfl
      try rw [hq0]
      generalize ((s_l03Spread p colour l9 (R3 (flat3 (nonnullL p colour a)) k) == s)) = c0
      cases c0 <;> first
        | rfl
        | (simp only [Bool.false_eq_true, Bool.false_and, Bool.and_false, Bool.true_and, if_false, if_true]
           rw [show flat3 [] = [] from rfl, List.append_nil]
           rfl))
    (fun f hm => by
      show B_s_LinesWithSpread_6 p colour l9 a s (L_s_LinesWithSpread_6 1000000 p colour l9 a s f) ([] ++ flat3 ((List.range (nonnullL p colour a).length).flatMap (fun k => if (s_l03Spread p colour l9 (R3 (flat3 (nonnullL p colour a)) k) == s) = true then [R3 (flat3 (nonnullL p colour a)) k] else []))) (0 + ((List.range (nonnullL p colour a).length).flatMap (fun k => if (s_l03Spread p colour l9 (R3 (flat3 (nonnullL p colour a)) k) == s) = true then [R3 (flat3 (nonnullL p colour a)) k] else [])).length) (((nonnullL p colour a).length : Nat) : Int) = _
      unfold B_s_LinesWithSpread_6
      have hkp : ((List.range ((nonnullL p colour a).length)).flatMap fun k => if (s_l03Spread p colour l9 (R3 (flat3 (nonnullL p colour a)) k) == s) = true then [R3 (flat3 (nonnullL p colour a)) k] else []) = (rows3 ((nonnullL p colour a).length) (flat3 (nonnullL p colour a))).filter (fun zz => (s_l03Spread p colour l9 zz == s)) := keep3 ((nonnullL p colour a).length) (flat3 (nonnullL p colour a)) (fun zz => (s_l03Spread p colour l9 zz == s))
      rw [show s_l03Lines p colour a = ((nonnullL p colour a).length, flat3 (nonnullL p colour a)) from rfl]
      rw [if_neg (by simp), hkp, rows3_flat3]
      simp) (by omega) (Nat.le_refl _)

def V_s_LinesWithSpread_7 (p : Int) (colour : Int) (l : Int × Int × Int) (a : Int × Int) (s : Int) : (List Int) → Nat → Int → (Nat × List Int) × Int := fun _ _ _ => ((((nonnullL p colour a).filter fun zz => (s_l03Spread p colour l zz == s)).length, flat3 ((nonnullL p colour a).filter fun zz => (s_l03Spread p colour l zz == s))), 0)
theorem lo7_s_LinesWithSpread (p colour : Int) (l9 : P3) (a : P2) (s : Int) (hp : prB p = true) {F : Nat} (hF : 993 < F) : L_s_LinesWithSpread_7 1000000 p colour l9 a s F [] 0 0 = some ((((nonnullL p colour a).filter fun zz => (s_l03Spread p colour l9 zz == s)).length, flat3 ((nonnullL p colour a).filter fun zz => (s_l03Spread p colour l9 zz == s))), 0) := by
  have hlen : (nonnullL p colour a).length ≤ 993 := nonnull_len hp colour a
  exact gather (flat := flat3) flat3_app rfl (L := fun f l m i => L_s_LinesWithSpread_7 1000000 p colour l9 a s f l m i) (n := (nonnullL p colour a).length) (b := 1) (M := 0) (fun k => if (s_l03Spread p colour l9 (R3 (flat3 (nonnullL p colour a)) k) == s) = true then [R3 (flat3 (nonnullL p colour a)) k] else []) (K := (some ((((nonnullL p colour a).filter fun zz => (s_l03Spread p colour l9 zz == s)).length, flat3 ((nonnullL p colour a).filter fun zz => (s_l03Spread p colour l9 zz == s))), 0))) (l := []) (m := 0) (F := F) (by intro k hk; first | (split <;> simp) | simp_all)
    (fun f k l m hk hm => by
      show B_s_LinesWithSpread_7 p colour l9 a s (L_s_LinesWithSpread_7 1000000 p colour l9 a s f) l m (k : Int) = _
      unfold B_s_LinesWithSpread_7
      have x0 : prB p = true := hp
      have e0 : decide (0 ≤ (k : Int)) = true := by simp
      have e1 := cnd hk
      have e3 : (k : Int).toNat = k := Int.toNat_natCast k
      have e4 := row3_ok (flat3_len _) hk
      have e5 : Nat.ble 1 1 = true := rfl
      have e6 : Nat.ble (m + 1) 1000000 = true := leb (by omega)
      rw [show s_l03Lines p colour a = ((nonnullL p colour a).length, flat3 (nonnullL p colour a)) from rfl]
      simp only [e0, e1, e3, e4, e5, e6, beq33, x0, Bool.and_true, Bool.true_and, if_true, wrap_add1 hk (by omega)]
      have hq0 : ((s_l03Spread p colour l9 ((flat3 (nonnullL p colour a)).getD (k * 3 + 0) 0, (flat3 (nonnullL p colour a)).getD (k * 3 + 1) 0, (flat3 (nonnullL p colour a)).getD (k * 3 + 2) 0) == s)) = ((s_l03Spread p colour l9 (R3 (flat3 (nonnullL p colour a)) k) == s)) := rfl
      try rw [hq0]
      generalize ((s_l03Spread p colour l9 (R3 (flat3 (nonnullL p colour a)) k) == s)) = c0
      cases c0 <;> first
        | rfl
        | (simp only [Bool.false_eq_true, Bool.false_and, Bool.and_false, Bool.true_and, if_false, if_true]
           rw [show flat3 [] = [] from rfl, List.append_nil]
           rfl))
    (fun f hm => by
      show B_s_LinesWithSpread_7 p colour l9 a s (L_s_LinesWithSpread_7 1000000 p colour l9 a s f) ([] ++ flat3 ((List.range (nonnullL p colour a).length).flatMap (fun k => if (s_l03Spread p colour l9 (R3 (flat3 (nonnullL p colour a)) k) == s) = true then [R3 (flat3 (nonnullL p colour a)) k] else []))) (0 + ((List.range (nonnullL p colour a).length).flatMap (fun k => if (s_l03Spread p colour l9 (R3 (flat3 (nonnullL p colour a)) k) == s) = true then [R3 (flat3 (nonnullL p colour a)) k] else [])).length) (((nonnullL p colour a).length : Nat) : Int) = _
      unfold B_s_LinesWithSpread_7
      have hkp : ((List.range ((nonnullL p colour a).length)).flatMap fun k => if (s_l03Spread p colour l9 (R3 (flat3 (nonnullL p colour a)) k) == s) = true then [R3 (flat3 (nonnullL p colour a)) k] else []) = (rows3 ((nonnullL p colour a).length) (flat3 (nonnullL p colour a))).filter (fun zz => (s_l03Spread p colour l9 zz == s)) := keep3 ((nonnullL p colour a).length) (flat3 (nonnullL p colour a)) (fun zz => (s_l03Spread p colour l9 zz == s))
      rw [show s_l03Lines p colour a = ((nonnullL p colour a).length, flat3 (nonnullL p colour a)) from rfl]
      rw [if_neg (by simp), hkp, rows3_flat3]
      simp) (by omega) (Nat.le_refl _)

def s_LinesWithSpread (p : Int) (colour : Int) (l : Int × Int × Int) (a : Int × Int) (s : Int) : (Nat × List Int) × Int :=
  (if ((s_l03Colour p colour 1 [l.1, l.2.1, l.2.2]) == 0) = true then (if ((s_l01Code p [a]) == 0) = true then (if ((s_l01Numbers p [s]) == 0) = true then (if (s_l03Null p colour l) = true then ((0, []), 5) else (if ((s_l01Numbers p [s]) != 0) = true then ((0, []), (s_l01Numbers p [s])) else V_s_LinesWithSpread_0 p colour l a s [] 0 0)) else (if ((s_l01Numbers p [s]) != 0) = true then ((0, []), (s_l01Numbers p [s])) else V_s_LinesWithSpread_1 p colour l a s [] 0 0)) else (if ((s_l01Code p [a]) == 0) = true then (if (s_l03Null p colour l) = true then ((0, []), 5) else (if ((s_l01Code p [a]) != 0) = true then ((0, []), (s_l01Code p [a])) else V_s_LinesWithSpread_2 p colour l a s [] 0 0)) else (if ((s_l01Code p [a]) != 0) = true then ((0, []), (s_l01Code p [a])) else V_s_LinesWithSpread_3 p colour l a s [] 0 0))) else (if ((s_l03Colour p colour 1 [l.1, l.2.1, l.2.2]) == 0) = true then (if ((s_l01Numbers p [s]) == 0) = true then (if (s_l03Null p colour l) = true then ((0, []), 5) else (if ((s_l01Numbers p [s]) != 0) = true then ((0, []), (s_l01Numbers p [s])) else V_s_LinesWithSpread_4 p colour l a s [] 0 0)) else (if ((s_l01Numbers p [s]) != 0) = true then ((0, []), (s_l01Numbers p [s])) else V_s_LinesWithSpread_5 p colour l a s [] 0 0)) else (if ((s_l03Colour p colour 1 [l.1, l.2.1, l.2.2]) == 0) = true then (if (s_l03Null p colour l) = true then ((0, []), 5) else (if ((s_l03Colour p colour 1 [l.1, l.2.1, l.2.2]) != 0) = true then ((0, []), (s_l03Colour p colour 1 [l.1, l.2.1, l.2.2])) else V_s_LinesWithSpread_6 p colour l a s [] 0 0)) else (if ((s_l03Colour p colour 1 [l.1, l.2.1, l.2.2]) != 0) = true then ((0, []), (s_l03Colour p colour 1 [l.1, l.2.1, l.2.2])) else V_s_LinesWithSpread_7 p colour l a s [] 0 0))))
theorem tot_s_LinesWithSpread (p : Int) (colour : Int) (l : Int × Int × Int) (a : Int × Int) (s : Int) : Fo_s_LinesWithSpread 1000000 p colour l a s = some (s_LinesWithSpread p colour l a s) := by
  unfold Fo_s_LinesWithSpread G_s_LinesWithSpread s_LinesWithSpread
  (try simp only [wI_eq])
  repeat' (first | with_reducible rfl | refine chk_opt (by first | with_reducible rfl | exact Bool.true_or _ | (with_reducible exact l01Code_prB ‹_›) | (with_reducible exact l01Code_prB0 ‹_›) | (with_reducible exact l01Numbers_prB ‹_›) | (with_reducible exact l01Numbers_prB0 ‹_›) | (with_reducible exact l03Colour_prB ‹_›) | (with_reducible exact l03Colour_prB0 ‹_›) | exact mk_ok (by (first | (with_reducible assumption) | (with_reducible exact l01Code_prB ‹_›) | (with_reducible exact l01Code_prB0 ‹_›) | (with_reducible exact l01Numbers_prB ‹_›) | (with_reducible exact l01Numbers_prB0 ‹_›) | (with_reducible exact l03Colour_prB ‹_›) | (with_reducible exact l03Colour_prB0 ‹_›))) | exact and_all (by (first | (with_reducible assumption) | (with_reducible exact l01Code_prB ‹_›) | (with_reducible exact l01Code_prB0 ‹_›) | (with_reducible exact l01Numbers_prB ‹_›) | (with_reducible exact l01Numbers_prB0 ‹_›) | (with_reducible exact l03Colour_prB ‹_›) | (with_reducible exact l03Colour_prB0 ‹_›))) (fun _ => rfl) | exact and_all (by (first | (with_reducible assumption) | (with_reducible exact l01Code_prB ‹_›) | (with_reducible exact l01Code_prB0 ‹_›) | (with_reducible exact l01Numbers_prB ‹_›) | (with_reducible exact l01Numbers_prB0 ‹_›) | (with_reducible exact l03Colour_prB ‹_›) | (with_reducible exact l03Colour_prB0 ‹_›))) (fun _ => by (first | (with_reducible assumption) | (with_reducible exact l01Code_prB ‹_›) | (with_reducible exact l01Code_prB0 ‹_›) | (with_reducible exact l01Numbers_prB ‹_›) | (with_reducible exact l01Numbers_prB0 ‹_›) | (with_reducible exact l03Colour_prB ‹_›) | (with_reducible exact l03Colour_prB0 ‹_›))) | exact and3 (by (first | (with_reducible assumption) | (with_reducible exact l01Code_prB ‹_›) | (with_reducible exact l01Code_prB0 ‹_›) | (with_reducible exact l01Numbers_prB ‹_›) | (with_reducible exact l01Numbers_prB0 ‹_›) | (with_reducible exact l03Colour_prB ‹_›) | (with_reducible exact l03Colour_prB0 ‹_›))) (by (first | (with_reducible assumption) | (with_reducible exact l01Code_prB ‹_›) | (with_reducible exact l01Code_prB0 ‹_›) | (with_reducible exact l01Numbers_prB ‹_›) | (with_reducible exact l01Numbers_prB0 ‹_›) | (with_reducible exact l03Colour_prB ‹_›) | (with_reducible exact l03Colour_prB0 ‹_›))) (by (first | (with_reducible assumption) | (with_reducible exact l01Code_prB ‹_›) | (with_reducible exact l01Code_prB0 ‹_›) | (with_reducible exact l01Numbers_prB ‹_›) | (with_reducible exact l01Numbers_prB0 ‹_›) | (with_reducible exact l03Colour_prB ‹_›) | (with_reducible exact l03Colour_prB0 ‹_›))) | exact and_two (by (first | (with_reducible assumption) | (with_reducible exact l01Code_prB ‹_›) | (with_reducible exact l01Code_prB0 ‹_›) | (with_reducible exact l01Numbers_prB ‹_›) | (with_reducible exact l01Numbers_prB0 ‹_›) | (with_reducible exact l03Colour_prB ‹_›) | (with_reducible exact l03Colour_prB0 ‹_›))) rfl | rfl) ?_ | refine ite_opt (fun _ => ?_) (fun _ => ?_) | exact lo0_s_LinesWithSpread _ _ _ _ _ (by (first | (with_reducible assumption) | (with_reducible exact l01Code_prB ‹_›) | (with_reducible exact l01Code_prB0 ‹_›) | (with_reducible exact l01Numbers_prB ‹_›) | (with_reducible exact l01Numbers_prB0 ‹_›) | (with_reducible exact l03Colour_prB ‹_›) | (with_reducible exact l03Colour_prB0 ‹_›))) (by omega) | exact lo1_s_LinesWithSpread _ _ _ _ _ (by (first | (with_reducible assumption) | (with_reducible exact l01Code_prB ‹_›) | (with_reducible exact l01Code_prB0 ‹_›) | (with_reducible exact l01Numbers_prB ‹_›) | (with_reducible exact l01Numbers_prB0 ‹_›) | (with_reducible exact l03Colour_prB ‹_›) | (with_reducible exact l03Colour_prB0 ‹_›))) (by omega) | exact lo2_s_LinesWithSpread _ _ _ _ _ (by (first | (with_reducible assumption) | (with_reducible exact l01Code_prB ‹_›) | (with_reducible exact l01Code_prB0 ‹_›) | (with_reducible exact l01Numbers_prB ‹_›) | (with_reducible exact l01Numbers_prB0 ‹_›) | (with_reducible exact l03Colour_prB ‹_›) | (with_reducible exact l03Colour_prB0 ‹_›))) (by omega) | exact lo3_s_LinesWithSpread _ _ _ _ _ (by (first | (with_reducible assumption) | (with_reducible exact l01Code_prB ‹_›) | (with_reducible exact l01Code_prB0 ‹_›) | (with_reducible exact l01Numbers_prB ‹_›) | (with_reducible exact l01Numbers_prB0 ‹_›) | (with_reducible exact l03Colour_prB ‹_›) | (with_reducible exact l03Colour_prB0 ‹_›))) (by omega) | exact lo4_s_LinesWithSpread _ _ _ _ _ (by (first | (with_reducible assumption) | (with_reducible exact l01Code_prB ‹_›) | (with_reducible exact l01Code_prB0 ‹_›) | (with_reducible exact l01Numbers_prB ‹_›) | (with_reducible exact l01Numbers_prB0 ‹_›) | (with_reducible exact l03Colour_prB ‹_›) | (with_reducible exact l03Colour_prB0 ‹_›))) (by omega) | exact lo5_s_LinesWithSpread _ _ _ _ _ (by (first | (with_reducible assumption) | (with_reducible exact l01Code_prB ‹_›) | (with_reducible exact l01Code_prB0 ‹_›) | (with_reducible exact l01Numbers_prB ‹_›) | (with_reducible exact l01Numbers_prB0 ‹_›) | (with_reducible exact l03Colour_prB ‹_›) | (with_reducible exact l03Colour_prB0 ‹_›))) (by omega) | exact lo6_s_LinesWithSpread _ _ _ _ _ (by (first | (with_reducible assumption) | (with_reducible exact l01Code_prB ‹_›) | (with_reducible exact l01Code_prB0 ‹_›) | (with_reducible exact l01Numbers_prB ‹_›) | (with_reducible exact l01Numbers_prB0 ‹_›) | (with_reducible exact l03Colour_prB ‹_›) | (with_reducible exact l03Colour_prB0 ‹_›))) (by omega) | exact lo7_s_LinesWithSpread _ _ _ _ _ (by (first | (with_reducible assumption) | (with_reducible exact l01Code_prB ‹_›) | (with_reducible exact l01Code_prB0 ‹_›) | (with_reducible exact l01Numbers_prB ‹_›) | (with_reducible exact l01Numbers_prB0 ‹_›) | (with_reducible exact l03Colour_prB ‹_›) | (with_reducible exact l03Colour_prB0 ‹_›))) (by omega) | rfl)
def run_s_LinesWithSpread : List PV → Option (Bool × List TR)
  | [.v (.int .i64 p), .v (.int .i64 colour), .v (.agg ⟨[.int .i64 l0, .int .i64 l1, .int .i64 l2]⟩), .v (.agg ⟨[.int .i64 a0, .int .i64 a1]⟩), .v (.int .i64 s)] => some (true, enc_l29_3_i (s_LinesWithSpread p colour (l0, l1, l2) (a0, a1) s))
  | _ => none
theorem sound_s_LinesWithSpread : Sound Try.prog 25 run_s_LinesWithSpread := by
  refine sound_of de_l29_3_i SO_s_LinesWithSpread (by kernel_rfl) Try.func25 Try.ntmps25 rfl (by kernel_rfl) ?_
  intro W pvs avs rs hargs hrun
  unfold run_s_LinesWithSpread at hrun
  split at hrun
  · simp only [Option.some.injEq, Prod.mk.injEq] at hrun
    obtain ⟨hp, rfl⟩ := hrun
    rename_i p colour l0 l1 l2 a0 a1 s
    exact ⟨_, _, _, hargs, rfl, (eq_s_LinesWithSpread _ p colour (l0, l1, l2) (a0, a1) s).trans (tot_s_LinesWithSpread p colour (l0, l1, l2) (a0, a1) s)⟩
  · cases hrun

def S_i_CountBySpread_c1 : Sums := ⟨tblS [(65, run_i_isColour), (67, run_i_isLine)], tblM []⟩
theorem SO_i_CountBySpread_c1 : SumsOK Try.prog S_i_CountBySpread_c1 := ⟨tblS_ok ⟨⟨Try.call65, sound_i_isColour⟩, ⟨Try.call67, sound_i_isLine⟩, True.intro⟩, tblM_ok True.intro⟩
def Fo_i_CountBySpread_c1 (c0 : Int) (c1 : Int) (c2 : Int × Int × Int) : Option (Bool) :=
  (if (i_isColour c0) = true then some (i_isLine c1 c2) else some false)
theorem eq_i_CountBySpread_c1 (c0 : Int) (c1 : Int) (c2 : Int × Int × Int) : execT Try.prog S_i_CountBySpread_c1 90 11 (fun _ => 1000000) dec_b [.p [.int .i64 c0], .p [.int .i64 c1], .p [.int .i64 c2.1, .int .i64 c2.2.1, .int .i64 c2.2.2]] = Fo_i_CountBySpread_c1 c0 c1 c2 := by
  kernel_rfl
def i_CountBySpread_c1 (c0 : Int) (c1 : Int) (c2 : Int × Int × Int) : Bool :=
  (if (i_isColour c0) = true then (i_isLine c1 c2) else false)
theorem tot_i_CountBySpread_c1 (c0 : Int) (c1 : Int) (c2 : Int × Int × Int) : Fo_i_CountBySpread_c1 c0 c1 c2 = some (i_CountBySpread_c1 c0 c1 c2) := by
  unfold Fo_i_CountBySpread_c1 i_CountBySpread_c1
  (try simp only [wI_eq])
  repeat' (first | with_reducible rfl | refine ite_opt (fun _ => ?_) (fun _ => ?_) | rfl)
def run_i_CountBySpread_c1 : List PV → Option (Bool × List TR)
  | [.p [.int .i64 c0], .p [.int .i64 c1], .p [.int .i64 c20, .int .i64 c21, .int .i64 c22]] => some (true, enc_b (i_CountBySpread_c1 c0 c1 (c20, c21, c22)))
  | _ => none
theorem sound_i_CountBySpread_c1 : Sound Try.prog 90 run_i_CountBySpread_c1 := by
  refine sound_of de_b SO_i_CountBySpread_c1 (by kernel_rfl) Try.func90 Try.ntmps90 rfl (by kernel_rfl) ?_
  intro W pvs avs rs hargs hrun
  unfold run_i_CountBySpread_c1 at hrun
  split at hrun
  · simp only [Option.some.injEq, Prod.mk.injEq] at hrun
    obtain ⟨hp, rfl⟩ := hrun
    rename_i c0 c1 c20 c21 c22
    exact ⟨_, _, _, hargs, rfl, (eq_i_CountBySpread_c1 c0 c1 (c20, c21, c22)).trans (tot_i_CountBySpread_c1 c0 c1 (c20, c21, c22))⟩
  · cases hrun

def S_i_CountBySpread : Sums := ⟨tblS [(54, run_i_asked), (90, run_i_CountBySpread_c1), (44, run_i_isNull), (91, run_i_linesThrough), (86, run_i_spread)], tblM []⟩
theorem SO_i_CountBySpread : SumsOK Try.prog S_i_CountBySpread := ⟨tblS_ok ⟨⟨Try.call54, sound_i_asked⟩, ⟨Try.call90, sound_i_CountBySpread_c1⟩, ⟨Try.call44, sound_i_isNull⟩, ⟨Try.call91, sound_i_linesThrough⟩, ⟨Try.call86, sound_i_spread⟩, True.intro⟩, tblM_ok True.intro⟩
def T_i_CountBySpread_0 (p : Int) (colour : Int) (l : Int × Int × Int) (l23 : List Int) (t28 : Int) : Tab := ⟨[.val (.int .i64 p), .val (.int .i64 colour), .val (.agg ⟨[.int .i64 l.1, .int .i64 l.2.1, .int .i64 l.2.2]⟩), .ptr 12 0, .ptr 16 0, .ptr 20 0, .val (.slice none 0 0), .val (.int .i64 0), .val (.int .i64 (i_asked p (true) (i_CountBySpread_c1 colour p l))), .row 92, .junk, .junk, .val (.int .i64 p), .clo 90 [16, 12, 20], .val (.int .i64 (i_asked p (true) (i_CountBySpread_c1 colour p l))), .val (.int .i64 (i_asked p (true) (i_CountBySpread_c1 colour p l))), .val (.bool ((i_asked p (true) (i_CountBySpread_c1 colour p l)) != 0)), .junk, .val (.int .i64 p), .val (.int .i64 colour), .val (.agg ⟨[.int .i64 l.1, .int .i64 l.2.1, .int .i64 l.2.2]⟩), .val (.bool (i_isNull p colour l)), .val (.int .i64 p), .row 92, .val (.int .i64 p), .val (.agg ⟨[.int .i64 0, .int .i64 0]⟩), .row 104, .val (.int .i64 (((i_linesThrough p (0, 0)).1 : Nat) : Int)), .val (.int .i64 t28), .junk, .junk, .junk, .junk, .junk, .junk, .junk, .junk, .junk, .junk, .junk, .junk, .junk, .junk, .junk, .junk, .junk, .junk, .junk, .junk], [(12, .box 2 [.val (.int .i64 p)]), (16, .box 2 [.val (.int .i64 colour)]), (20, .box 29 [.val (.int .i64 l.1), .val (.int .i64 l.2.1), .val (.int .i64 l.2.2)]), (92, .row 2 1 p.toNat (.ints l23)), (104, .row 29 3 ((i_linesThrough p (0, 0)).1) (.ints ((i_linesThrough p (0, 0)).2)))]⟩
def X_i_CountBySpread_0 (P : Program) (fu : Nat) (p : Int) (colour : Int) (l : Int × Int × Int) (f : Nat) (l23 : List Int) (t28 : Int) : Option ((Nat × List Int) × Int) := loopK (exec P S_i_CountBySpread 49 (fun _ => fu + 100) (Code.sub [1, 1, 1, 1, 0, 1, 0, 0] (bodyF P 27))) f (T_i_CountBySpread_0 p colour l l23 t28) (kBlock 0 (kSeq (fun s => exec P S_i_CountBySpread 49 (fun _ => fu + 100) (Code.sub [1, 1, 1, 1, 1] (bodyF P 27)) s (finT P 27 dec_l2_1_i)) (finT P 27 dec_l2_1_i)))
def B_i_CountBySpread_0 (p : Int) (colour : Int) (l : Int × Int × Int) (rec0 : (List Int) → Int → Option ((Nat × List Int) × Int)) (l23 : List Int) (t28 : Int) : Option ((Nat × List Int) × Int) :=
  (if (decide (t28 < (((i_linesThrough p (0, 0)).1 : Nat) : Int))) = true then (if (decide (0 ≤ t28) && decide (t28 < (((i_linesThrough p (0, 0)).1 : Nat) : Int))) = true then (if (Nat.ble (t28.toNat * 3 + 3) (((i_linesThrough p (0, 0)).2).length)) = true then (if (prB p) = true then (if (!(i_isNull p colour (((i_linesThrough p (0, 0)).2).getD (t28.toNat * 3 + 0) 0, ((i_linesThrough p (0, 0)).2).getD (t28.toNat * 3 + 1) 0, ((i_linesThrough p (0, 0)).2).getD (t28.toNat * 3 + 2) 0))) = true then (if (prB p) = true then (if (decide (0 ≤ (i_spread p colour l (((i_linesThrough p (0, 0)).2).getD (t28.toNat * 3 + 0) 0, ((i_linesThrough p (0, 0)).2).getD (t28.toNat * 3 + 1) 0, ((i_linesThrough p (0, 0)).2).getD (t28.toNat * 3 + 2) 0))) && decide ((i_spread p colour l (((i_linesThrough p (0, 0)).2).getD (t28.toNat * 3 + 0) 0, ((i_linesThrough p (0, 0)).2).getD (t28.toNat * 3 + 1) 0, ((i_linesThrough p (0, 0)).2).getD (t28.toNat * 3 + 2) 0)) < ((p.toNat : Nat) : Int))) = true then (if (Nat.ble (((i_spread p colour l (((i_linesThrough p (0, 0)).2).getD (t28.toNat * 3 + 0) 0, ((i_linesThrough p (0, 0)).2).getD (t28.toNat * 3 + 1) 0, ((i_linesThrough p (0, 0)).2).getD (t28.toNat * 3 + 2) 0)).toNat) * 1 + 1) l23.length) = true then (if (decide (0 ≤ (i_spread p colour l (((i_linesThrough p (0, 0)).2).getD (t28.toNat * 3 + 0) 0, ((i_linesThrough p (0, 0)).2).getD (t28.toNat * 3 + 1) 0, ((i_linesThrough p (0, 0)).2).getD (t28.toNat * 3 + 2) 0))) && decide ((i_spread p colour l (((i_linesThrough p (0, 0)).2).getD (t28.toNat * 3 + 0) 0, ((i_linesThrough p (0, 0)).2).getD (t28.toNat * 3 + 1) 0, ((i_linesThrough p (0, 0)).2).getD (t28.toNat * 3 + 2) 0)) < ((p.toNat : Nat) : Int))) = true then (if (Nat.ble (((i_spread p colour l (((i_linesThrough p (0, 0)).2).getD (t28.toNat * 3 + 0) 0, ((i_linesThrough p (0, 0)).2).getD (t28.toNat * 3 + 1) 0, ((i_linesThrough p (0, 0)).2).getD (t28.toNat * 3 + 2) 0)).toNat) * 1 + 1) l23.length) = true then rec0 (l23.set (((i_spread p colour l (((i_linesThrough p (0, 0)).2).getD (t28.toNat * 3 + 0) 0, ((i_linesThrough p (0, 0)).2).getD (t28.toNat * 3 + 1) 0, ((i_linesThrough p (0, 0)).2).getD (t28.toNat * 3 + 2) 0)).toNat) * 1 + 0) (wI ((l23.getD (((i_spread p colour l (((i_linesThrough p (0, 0)).2).getD (t28.toNat * 3 + 0) 0, ((i_linesThrough p (0, 0)).2).getD (t28.toNat * 3 + 1) 0, ((i_linesThrough p (0, 0)).2).getD (t28.toNat * 3 + 2) 0)).toNat) * 1) 0) + 1))) (wI (t28 + 1)) else none) else none) else none) else none) else none) else rec0 l23 (wI (t28 + 1))) else none) else none) else none) else some ((p.toNat, l23), 0))
def L_i_CountBySpread_0 (fu : Nat) (p : Int) (colour : Int) (l : Int × Int × Int) : Nat → (List Int) → Int → Option ((Nat × List Int) × Int)
  | 0, _, _ => none
  | f + 1, l23, t28 => B_i_CountBySpread_0 p colour l (L_i_CountBySpread_0 fu p colour l f) l23 t28
theorem loop_i_CountBySpread_0 (fu : Nat) (p : Int) (colour : Int) (l : Int × Int × Int) : ∀ (f : Nat) (l23 : List Int) (t28 : Int), X_i_CountBySpread_0 Try.prog fu p colour l f l23 t28 = L_i_CountBySpread_0 fu p colour l f l23 t28 := by
  intro f
  induction f with
  | zero => intros; rfl
  | succ f ih =>
    intro l23 t28
    have h1 : X_i_CountBySpread_0 Try.prog fu p colour l (f + 1) l23 t28 = B_i_CountBySpread_0 p colour l (X_i_CountBySpread_0 Try.prog fu p colour l f) l23 t28 := by kernel_rfl
    have h2 : X_i_CountBySpread_0 Try.prog fu p colour l f = L_i_CountBySpread_0 fu p colour l f := by funext l23 t28; exact ih l23 t28
    rw [h1, h2]
    rfl
def G_i_CountBySpread (p : Int) (colour : Int) (l : Int × Int × Int) (lo0 : (List Int) → Int → Option ((Nat × List Int) × Int)) : Option ((Nat × List Int) × Int) :=
  (if ((true) || !(i_IsField p)) = true then (if ((i_asked p (true) (i_CountBySpread_c1 colour p l)) != 0) = true then some ((0, []), (i_asked p (true) (i_CountBySpread_c1 colour p l))) else (if (prB p) = true then (if (i_isNull p colour l) = true then some ((0, []), 5) else (if (decide (0 ≤ p) && decide (p ≤ 2000000) && p == p) = true then (if (prB p) = true then lo0 (List.replicate p.toNat 0) 0 else none) else none)) else none)) else none)
def Fo_i_CountBySpread (fu : Nat) (p : Int) (colour : Int) (l : Int × Int × Int) : Option ((Nat × List Int) × Int) := G_i_CountBySpread p colour l (L_i_CountBySpread_0 fu p colour l (fu + 100))
theorem eqg_i_CountBySpread (fu : Nat) (p : Int) (colour : Int) (l : Int × Int × Int) : execT Try.prog S_i_CountBySpread 27 49 (fun _ => fu + 100) dec_l2_1_i [.v (.int .i64 p), .v (.int .i64 colour), .v (.agg ⟨[.int .i64 l.1, .int .i64 l.2.1, .int .i64 l.2.2]⟩)] = G_i_CountBySpread p colour l (L_i_CountBySpread_0 fu p colour l (fu + 100)) := by
  have h1 : execT Try.prog S_i_CountBySpread 27 49 (fun _ => fu + 100) dec_l2_1_i [.v (.int .i64 p), .v (.int .i64 colour), .v (.agg ⟨[.int .i64 l.1, .int .i64 l.2.1, .int .i64 l.2.2]⟩)] = G_i_CountBySpread p colour l (X_i_CountBySpread_0 Try.prog fu p colour l (fu + 100)) := by kernel_rfl
  have c0 : X_i_CountBySpread_0 Try.prog fu p colour l (fu + 100) = L_i_CountBySpread_0 fu p colour l (fu + 100) := by funext l23 t28; exact loop_i_CountBySpread_0 fu p colour l (fu + 100) l23 t28
  rw [h1, c0]
theorem eq_i_CountBySpread (fu : Nat) (p : Int) (colour : Int) (l : Int × Int × Int) : execT Try.prog S_i_CountBySpread 27 49 (fun _ => fu + 100) dec_l2_1_i [.v (.int .i64 p), .v (.int .i64 colour), .v (.agg ⟨[.int .i64 l.1, .int .i64 l.2.1, .int .i64 l.2.2]⟩)] = Fo_i_CountBySpread fu p colour l := eqg_i_CountBySpread fu p colour l
def V_i_CountBySpread_0 (p : Int) (colour : Int) (l : Int × Int × Int) : (List Int) → Int → (Nat × List Int) × Int := fun _ _ => ((p.toNat, (((linesT p (0, 0)).filter fun zz => (!(i_isNull p colour zz)))).foldl (fun s zz => bump s (i_spread p colour l zz).toNat) (List.replicate p.toNat 0)), 0)
theorem lo0_i_CountBySpread (p colour : Int) (l : P3) (hp : prB p = true) {F : Nat} (hF : 993 < F) : L_i_CountBySpread_0 1000000 p colour l F (List.replicate p.toNat 0) 0 = some ((p.toNat, (((linesT p (0, 0)).filter fun zz => (!(i_isNull p colour zz)))).foldl (fun s zz => bump s (i_spread p colour l zz).toNat) (List.replicate p.toNat 0)), 0) := by
  have hlen : (linesT p (0, 0)).length ≤ 993 := linesT_len hp (0, 0)
  obtain ⟨h1, h0, hpn⟩ := prB_nat hp
  have h := bumps (L := fun f s i => L_i_CountBySpread_0 1000000 p colour l f s i) (n := (linesT p (0, 0)).length) (N := p.toNat) (row := R3 (flat3 (linesT p (0, 0)))) (q := fun zz => (!(i_isNull p colour zz))) (f := fun zz => (i_spread p colour l zz).toNat) (K := fun s => some ((p.toNat, s), 0)) (F := F) (l := (List.replicate p.toNat 0)) (by omega) (by simp)
    (fun f k s hk hs => by
      show B_i_CountBySpread_0 p colour l (L_i_CountBySpread_0 1000000 p colour l f) s (k : Int) = _
      unfold B_i_CountBySpread_0
      have e0 : decide (0 ≤ (k : Int)) = true := by simp
      have e1 := cnd hk
      have e3 : (k : Int).toNat = k := Int.toNat_natCast k
      have e4 := row3_ok (flat3_len _) hk
      have hr : ((flat3 (linesT p (0, 0))).getD (k * 3 + 0) 0, (flat3 (linesT p (0, 0))).getD (k * 3 + 1) 0, (flat3 (linesT p (0, 0))).getD (k * 3 + 2) 0) = R3 (flat3 (linesT p (0, 0))) k := rfl
      rw [show i_linesThrough p (0, 0) = ((linesT p (0, 0)).length, flat3 (linesT p (0, 0))) from rfl]
      simp only [hr]
      have b1 : decide (0 ≤ i_spread p colour l (R3 (flat3 (linesT p (0, 0))) k)) = true := by have := (ispread_b hp colour l (R3 (flat3 (linesT p (0, 0))) k)).1; simpa using this
      have b2 : decide (i_spread p colour l (R3 (flat3 (linesT p (0, 0))) k) < ((p.toNat : Nat) : Int)) = true := by have := (ispread_b hp colour l (R3 (flat3 (linesT p (0, 0))) k)).2; simp; omega
      have b3 : Nat.ble ((i_spread p colour l (R3 (flat3 (linesT p (0, 0))) k)).toNat * 1 + 1) s.length = true := leb (by simp at b1 b2; omega)
      simp only [e0, e1, e3, e4, hp, hr, b1, b2, b3, Bool.and_true, Bool.true_and, if_true, wrap_add1 hk (by omega)]
      generalize ((!(i_isNull p colour (R3 (flat3 (linesT p (0, 0))) k)))) = c
      cases c <;> simp [bump, Nat.mul_one])
    (fun f s => by
      show B_i_CountBySpread_0 p colour l (L_i_CountBySpread_0 1000000 p colour l f) s (((linesT p (0, 0)).length : Nat) : Int) = _
      unfold B_i_CountBySpread_0
      rw [show i_linesThrough p (0, 0) = ((linesT p (0, 0)).length, flat3 (linesT p (0, 0))) from rfl]
      rw [if_neg (by simp)])
  rw [← rows3_R, rows3_flat3] at h
  exact h

def i_CountBySpread (p : Int) (colour : Int) (l : Int × Int × Int) : (Nat × List Int) × Int :=
  (if ((i_asked p (true) (i_CountBySpread_c1 colour p l)) != 0) = true then ((0, []), (i_asked p (true) (i_CountBySpread_c1 colour p l))) else (if (i_isNull p colour l) = true then ((0, []), 5) else V_i_CountBySpread_0 p colour l (List.replicate p.toNat 0) 0))
theorem tot_i_CountBySpread (p : Int) (colour : Int) (l : Int × Int × Int) : Fo_i_CountBySpread 1000000 p colour l = some (i_CountBySpread p colour l) := by
  unfold Fo_i_CountBySpread G_i_CountBySpread i_CountBySpread
  (try simp only [wI_eq])
  repeat' (first | with_reducible rfl | refine chk_opt (by first | with_reducible rfl | exact Bool.true_or _ | (with_reducible exact asked_prB ‹_›) | (with_reducible exact asked_prB0 ‹_›) | exact mk_ok (by (first | (with_reducible assumption) | (with_reducible exact asked_prB ‹_›) | (with_reducible exact asked_prB0 ‹_›))) | exact and_all (by (first | (with_reducible assumption) | (with_reducible exact asked_prB ‹_›) | (with_reducible exact asked_prB0 ‹_›))) (fun _ => rfl) | exact and_all (by (first | (with_reducible assumption) | (with_reducible exact asked_prB ‹_›) | (with_reducible exact asked_prB0 ‹_›))) (fun _ => by (first | (with_reducible assumption) | (with_reducible exact asked_prB ‹_›) | (with_reducible exact asked_prB0 ‹_›))) | exact and3 (by (first | (with_reducible assumption) | (with_reducible exact asked_prB ‹_›) | (with_reducible exact asked_prB0 ‹_›))) (by (first | (with_reducible assumption) | (with_reducible exact asked_prB ‹_›) | (with_reducible exact asked_prB0 ‹_›))) (by (first | (with_reducible assumption) | (with_reducible exact asked_prB ‹_›) | (with_reducible exact asked_prB0 ‹_›))) | exact and_two (by (first | (with_reducible assumption) | (with_reducible exact asked_prB ‹_›) | (with_reducible exact asked_prB0 ‹_›))) rfl | rfl) ?_ | refine ite_opt (fun _ => ?_) (fun _ => ?_) | exact lo0_i_CountBySpread _ _ _ (by (first | (with_reducible assumption) | (with_reducible exact asked_prB ‹_›) | (with_reducible exact asked_prB0 ‹_›))) (by omega) | rfl)
def run_i_CountBySpread : List PV → Option (Bool × List TR)
  | [.v (.int .i64 p), .v (.int .i64 colour), .v (.agg ⟨[.int .i64 l0, .int .i64 l1, .int .i64 l2]⟩)] => some (true, enc_l2_1_i (i_CountBySpread p colour (l0, l1, l2)))
  | _ => none
theorem sound_i_CountBySpread : Sound Try.prog 27 run_i_CountBySpread := by
  refine sound_of de_l2_1_i SO_i_CountBySpread (by kernel_rfl) Try.func27 Try.ntmps27 rfl (by kernel_rfl) ?_
  intro W pvs avs rs hargs hrun
  unfold run_i_CountBySpread at hrun
  split at hrun
  · simp only [Option.some.injEq, Prod.mk.injEq] at hrun
    obtain ⟨hp, rfl⟩ := hrun
    rename_i p colour l0 l1 l2
    exact ⟨_, _, _, hargs, rfl, (eq_i_CountBySpread _ p colour (l0, l1, l2)).trans (tot_i_CountBySpread p colour (l0, l1, l2))⟩
  · cases hrun

def S_s_CountBySpread : Sums := ⟨tblS [(87, run_s_l03Colour), (75, run_s_l03Null), (77, run_s_l03Lines), (78, run_s_l03Spread)], tblM []⟩
theorem SO_s_CountBySpread : SumsOK Try.prog S_s_CountBySpread := ⟨tblS_ok ⟨⟨Try.call87, sound_s_l03Colour⟩, ⟨Try.call75, sound_s_l03Null⟩, ⟨Try.call77, sound_s_l03Lines⟩, ⟨Try.call78, sound_s_l03Spread⟩, True.intro⟩, tblM_ok True.intro⟩
def T_s_CountBySpread_0 (p : Int) (colour : Int) (l : Int × Int × Int) (l33 : List Int) (i : Int) : Tab := ⟨[.val (.int .i64 p), .val (.int .i64 colour), .val (.agg ⟨[.int .i64 l.1, .int .i64 l.2.1, .int .i64 l.2.2]⟩), .junk, .junk, .ptr 20 0, .val (.slice none 0 0), .val (.int .i64 0), .val (.int .i64 (s_l03Colour p colour 1 [l.1, l.2.1, l.2.2])), .row 124, .row 132, .val (.int .i64 i), .val (.int .i64 p), .val (.int .i64 colour), .val (.agg ⟨[.int .i64 l.1, .int .i64 l.2.1, .int .i64 l.2.2]⟩), .row 60, .val (.int .i64 (s_l03Colour p colour 1 [l.1, l.2.1, l.2.2])), .val (.int .i64 (s_l03Colour p colour 1 [l.1, l.2.1, l.2.2])), .val (.bool ((s_l03Colour p colour 1 [l.1, l.2.1, l.2.2]) == 0)), .val (.bool true), .val (.int .i64 p), .val (.int .i64 colour), .val (.agg ⟨[.int .i64 l.1, .int .i64 l.2.1, .int .i64 l.2.2]⟩), .val (.bool (s_l03Null p colour l)), .val (.bool (s_l03Null p colour l)), .val (.int .i64 (s_l03Colour p colour 1 [l.1, l.2.1, l.2.2])), .val (.bool ((s_l03Colour p colour 1 [l.1, l.2.1, l.2.2]) != 0)), .junk, .val (.int .i64 p), .val (.int .i64 colour), .val (.agg ⟨[.int .i64 0, .int .i64 0]⟩), .row 124, .val (.int .i64 p), .row 132, .junk, .junk, .junk, .junk, .junk, .junk, .junk, .junk, .junk, .junk, .junk, .junk, .junk, .junk, .junk, .junk, .junk, .junk, .junk, .junk], [(20, .box 29 [.val (.int .i64 l.1), .val (.int .i64 l.2.1), .val (.int .i64 l.2.2)]), (60, .row 29 3 1 (.ints [l.1, l.2.1, l.2.2])), (124, .row 29 3 ((s_l03Lines p colour (0, 0)).1) (.ints ((s_l03Lines p colour (0, 0)).2))), (132, .row 2 1 p.toNat (.ints l33))]⟩
def T_s_CountBySpread_1 (p : Int) (colour : Int) (l : Int × Int × Int) (l33 : List Int) (i : Int) : Tab := ⟨[.val (.int .i64 p), .val (.int .i64 colour), .val (.agg ⟨[.int .i64 l.1, .int .i64 l.2.1, .int .i64 l.2.2]⟩), .junk, .junk, .ptr 20 0, .val (.slice none 0 0), .val (.int .i64 0), .val (.int .i64 (s_l03Colour p colour 1 [l.1, l.2.1, l.2.2])), .row 124, .row 132, .val (.int .i64 i), .val (.int .i64 p), .val (.int .i64 colour), .val (.agg ⟨[.int .i64 l.1, .int .i64 l.2.1, .int .i64 l.2.2]⟩), .row 60, .val (.int .i64 (s_l03Colour p colour 1 [l.1, l.2.1, l.2.2])), .val (.int .i64 (s_l03Colour p colour 1 [l.1, l.2.1, l.2.2])), .val (.bool ((s_l03Colour p colour 1 [l.1, l.2.1, l.2.2]) == 0)), .val (.bool false), .val (undef), .val (undef), .val (undef), .val (undef), .val (.bool false), .val (.int .i64 (s_l03Colour p colour 1 [l.1, l.2.1, l.2.2])), .val (.bool ((s_l03Colour p colour 1 [l.1, l.2.1, l.2.2]) != 0)), .junk, .val (.int .i64 p), .val (.int .i64 colour), .val (.agg ⟨[.int .i64 0, .int .i64 0]⟩), .row 124, .val (.int .i64 p), .row 132, .junk, .junk, .junk, .junk, .junk, .junk, .junk, .junk, .junk, .junk, .junk, .junk, .junk, .junk, .junk, .junk, .junk, .junk, .junk, .junk], [(20, .box 29 [.val (.int .i64 l.1), .val (.int .i64 l.2.1), .val (.int .i64 l.2.2)]), (60, .row 29 3 1 (.ints [l.1, l.2.1, l.2.2])), (124, .row 29 3 ((s_l03Lines p colour (0, 0)).1) (.ints ((s_l03Lines p colour (0, 0)).2))), (132, .row 2 1 p.toNat (.ints l33))]⟩
def X_s_CountBySpread_0 (P : Program) (fu : Nat) (p : Int) (colour : Int) (l : Int × Int × Int) (f : Nat) (l33 : List Int) (i : Int) : Option ((Nat × List Int) × Int) := loopK (exec P S_s_CountBySpread 54 (fun _ => fu + 100) (Code.sub [1, 1, 1, 1, 1, 0, 1, 0, 0] (bodyF P 34))) f (T_s_CountBySpread_0 p colour l l33 i) (kBlock 0 (kSeq (fun s => exec P S_s_CountBySpread 54 (fun _ => fu + 100) (Code.sub [1, 1, 1, 1, 1, 1] (bodyF P 34)) s (finT P 34 dec_l2_1_i)) (finT P 34 dec_l2_1_i)))
def B_s_CountBySpread_0 (p : Int) (colour : Int) (l : Int × Int × Int) (rec0 : (List Int) → Int → Option ((Nat × List Int) × Int)) (l33 : List Int) (i : Int) : Option ((Nat × List Int) × Int) :=
  (if (decide (i < (((s_l03Lines p colour (0, 0)).1 : Nat) : Int))) = true then (if (decide (0 ≤ i) && decide (i < (((s_l03Lines p colour (0, 0)).1 : Nat) : Int))) = true then (if (Nat.ble (i.toNat * 3 + 3) (((s_l03Lines p colour (0, 0)).2).length)) = true then (if (prB p) = true then (if (decide (0 ≤ (s_l03Spread p colour l (((s_l03Lines p colour (0, 0)).2).getD (i.toNat * 3 + 0) 0, ((s_l03Lines p colour (0, 0)).2).getD (i.toNat * 3 + 1) 0, ((s_l03Lines p colour (0, 0)).2).getD (i.toNat * 3 + 2) 0))) && decide ((s_l03Spread p colour l (((s_l03Lines p colour (0, 0)).2).getD (i.toNat * 3 + 0) 0, ((s_l03Lines p colour (0, 0)).2).getD (i.toNat * 3 + 1) 0, ((s_l03Lines p colour (0, 0)).2).getD (i.toNat * 3 + 2) 0)) < ((p.toNat : Nat) : Int))) = true then (if (Nat.ble (((s_l03Spread p colour l (((s_l03Lines p colour (0, 0)).2).getD (i.toNat * 3 + 0) 0, ((s_l03Lines p colour (0, 0)).2).getD (i.toNat * 3 + 1) 0, ((s_l03Lines p colour (0, 0)).2).getD (i.toNat * 3 + 2) 0)).toNat) * 1 + 1) l33.length) = true then (if (decide (0 ≤ (s_l03Spread p colour l (((s_l03Lines p colour (0, 0)).2).getD (i.toNat * 3 + 0) 0, ((s_l03Lines p colour (0, 0)).2).getD (i.toNat * 3 + 1) 0, ((s_l03Lines p colour (0, 0)).2).getD (i.toNat * 3 + 2) 0))) && decide ((s_l03Spread p colour l (((s_l03Lines p colour (0, 0)).2).getD (i.toNat * 3 + 0) 0, ((s_l03Lines p colour (0, 0)).2).getD (i.toNat * 3 + 1) 0, ((s_l03Lines p colour (0, 0)).2).getD (i.toNat * 3 + 2) 0)) < ((p.toNat : Nat) : Int))) = true then (if (Nat.ble (((s_l03Spread p colour l (((s_l03Lines p colour (0, 0)).2).getD (i.toNat * 3 + 0) 0, ((s_l03Lines p colour (0, 0)).2).getD (i.toNat * 3 + 1) 0, ((s_l03Lines p colour (0, 0)).2).getD (i.toNat * 3 + 2) 0)).toNat) * 1 + 1) l33.length) = true then rec0 (l33.set (((s_l03Spread p colour l (((s_l03Lines p colour (0, 0)).2).getD (i.toNat * 3 + 0) 0, ((s_l03Lines p colour (0, 0)).2).getD (i.toNat * 3 + 1) 0, ((s_l03Lines p colour (0, 0)).2).getD (i.toNat * 3 + 2) 0)).toNat) * 1 + 0) (wI ((l33.getD (((s_l03Spread p colour l (((s_l03Lines p colour (0, 0)).2).getD (i.toNat * 3 + 0) 0, ((s_l03Lines p colour (0, 0)).2).getD (i.toNat * 3 + 1) 0, ((s_l03Lines p colour (0, 0)).2).getD (i.toNat * 3 + 2) 0)).toNat) * 1) 0) + 1))) (wI (i + 1)) else none) else none) else none) else none) else none) else none) else none) else some ((p.toNat, l33), 0))
def L_s_CountBySpread_0 (fu : Nat) (p : Int) (colour : Int) (l : Int × Int × Int) : Nat → (List Int) → Int → Option ((Nat × List Int) × Int)
  | 0, _, _ => none
  | f + 1, l33, i => B_s_CountBySpread_0 p colour l (L_s_CountBySpread_0 fu p colour l f) l33 i
theorem loop_s_CountBySpread_0 (fu : Nat) (p : Int) (colour : Int) (l : Int × Int × Int) : ∀ (f : Nat) (l33 : List Int) (i : Int), X_s_CountBySpread_0 Try.prog fu p colour l f l33 i = L_s_CountBySpread_0 fu p colour l f l33 i := by
  intro f
  induction f with
  | zero => intros; rfl
  | succ f ih =>
    intro l33 i
    have h1 : X_s_CountBySpread_0 Try.prog fu p colour l (f + 1) l33 i = B_s_CountBySpread_0 p colour l (X_s_CountBySpread_0 Try.prog fu p colour l f) l33 i := by kernel_rfl
    have h2 : X_s_CountBySpread_0 Try.prog fu p colour l f = L_s_CountBySpread_0 fu p colour l f := by funext l33 i; exact ih l33 i
    rw [h1, h2]
    rfl
def X_s_CountBySpread_1 (P : Program) (fu : Nat) (p : Int) (colour : Int) (l : Int × Int × Int) (f : Nat) (l33 : List Int) (i : Int) : Option ((Nat × List Int) × Int) := loopK (exec P S_s_CountBySpread 54 (fun _ => fu + 100) (Code.sub [1, 1, 1, 1, 1, 0, 1, 0, 0] (bodyF P 34))) f (T_s_CountBySpread_1 p colour l l33 i) (kBlock 0 (kSeq (fun s => exec P S_s_CountBySpread 54 (fun _ => fu + 100) (Code.sub [1, 1, 1, 1, 1, 1] (bodyF P 34)) s (finT P 34 dec_l2_1_i)) (finT P 34 dec_l2_1_i)))
def B_s_CountBySpread_1 (p : Int) (colour : Int) (l : Int × Int × Int) (rec1 : (List Int) → Int → Option ((Nat × List Int) × Int)) (l33 : List Int) (i : Int) : Option ((Nat × List Int) × Int) :=
  (if (decide (i < (((s_l03Lines p colour (0, 0)).1 : Nat) : Int))) = true then (if (decide (0 ≤ i) && decide (i < (((s_l03Lines p colour (0, 0)).1 : Nat) : Int))) = true then (if (Nat.ble (i.toNat * 3 + 3) (((s_l03Lines p colour (0, 0)).2).length)) = true then (if (prB p) = true then (if (decide (0 ≤ (s_l03Spread p colour l (((s_l03Lines p colour (0, 0)).2).getD (i.toNat * 3 + 0) 0, ((s_l03Lines p colour (0, 0)).2).getD (i.toNat * 3 + 1) 0, ((s_l03Lines p colour (0, 0)).2).getD (i.toNat * 3 + 2) 0))) && decide ((s_l03Spread p colour l (((s_l03Lines p colour (0, 0)).2).getD (i.toNat * 3 + 0) 0, ((s_l03Lines p colour (0, 0)).2).getD (i.toNat * 3 + 1) 0, ((s_l03Lines p colour (0, 0)).2).getD (i.toNat * 3 + 2) 0)) < ((p.toNat : Nat) : Int))) = true then (if (Nat.ble (((s_l03Spread p colour l (((s_l03Lines p colour (0, 0)).2).getD (i.toNat * 3 + 0) 0, ((s_l03Lines p colour (0, 0)).2).getD (i.toNat * 3 + 1) 0, ((s_l03Lines p colour (0, 0)).2).getD (i.toNat * 3 + 2) 0)).toNat) * 1 + 1) l33.length) = true then (if (decide (0 ≤ (s_l03Spread p colour l (((s_l03Lines p colour (0, 0)).2).getD (i.toNat * 3 + 0) 0, ((s_l03Lines p colour (0, 0)).2).getD (i.toNat * 3 + 1) 0, ((s_l03Lines p colour (0, 0)).2).getD (i.toNat * 3 + 2) 0))) && decide ((s_l03Spread p colour l (((s_l03Lines p colour (0, 0)).2).getD (i.toNat * 3 + 0) 0, ((s_l03Lines p colour (0, 0)).2).getD (i.toNat * 3 + 1) 0, ((s_l03Lines p colour (0, 0)).2).getD (i.toNat * 3 + 2) 0)) < ((p.toNat : Nat) : Int))) = true then (if (Nat.ble (((s_l03Spread p colour l (((s_l03Lines p colour (0, 0)).2).getD (i.toNat * 3 + 0) 0, ((s_l03Lines p colour (0, 0)).2).getD (i.toNat * 3 + 1) 0, ((s_l03Lines p colour (0, 0)).2).getD (i.toNat * 3 + 2) 0)).toNat) * 1 + 1) l33.length) = true then rec1 (l33.set (((s_l03Spread p colour l (((s_l03Lines p colour (0, 0)).2).getD (i.toNat * 3 + 0) 0, ((s_l03Lines p colour (0, 0)).2).getD (i.toNat * 3 + 1) 0, ((s_l03Lines p colour (0, 0)).2).getD (i.toNat * 3 + 2) 0)).toNat) * 1 + 0) (wI ((l33.getD (((s_l03Spread p colour l (((s_l03Lines p colour (0, 0)).2).getD (i.toNat * 3 + 0) 0, ((s_l03Lines p colour (0, 0)).2).getD (i.toNat * 3 + 1) 0, ((s_l03Lines p colour (0, 0)).2).getD (i.toNat * 3 + 2) 0)).toNat) * 1) 0) + 1))) (wI (i + 1)) else none) else none) else none) else none) else none) else none) else none) else some ((p.toNat, l33), 0))
def L_s_CountBySpread_1 (fu : Nat) (p : Int) (colour : Int) (l : Int × Int × Int) : Nat → (List Int) → Int → Option ((Nat × List Int) × Int)
  | 0, _, _ => none
  | f + 1, l33, i => B_s_CountBySpread_1 p colour l (L_s_CountBySpread_1 fu p colour l f) l33 i
theorem loop_s_CountBySpread_1 (fu : Nat) (p : Int) (colour : Int) (l : Int × Int × Int) : ∀ (f : Nat) (l33 : List Int) (i : Int), X_s_CountBySpread_1 Try.prog fu p colour l f l33 i = L_s_CountBySpread_1 fu p colour l f l33 i := by
  intro f
  induction f with
  | zero => intros; rfl
  | succ f ih =>
    intro l33 i
    have h1 : X_s_CountBySpread_1 Try.prog fu p colour l (f + 1) l33 i = B_s_CountBySpread_1 p colour l (X_s_CountBySpread_1 Try.prog fu p colour l f) l33 i := by kernel_rfl
    have h2 : X_s_CountBySpread_1 Try.prog fu p colour l f = L_s_CountBySpread_1 fu p colour l f := by funext l33 i; exact ih l33 i
    rw [h1, h2]
    rfl
theorem same_s_CountBySpread_1 : L_s_CountBySpread_1 = L_s_CountBySpread_0 := by kernel_rfl
def G_s_CountBySpread (p : Int) (colour : Int) (l : Int × Int × Int) (lo0 : (List Int) → Int → Option ((Nat × List Int) × Int)) (lo1 : (List Int) → Int → Option ((Nat × List Int) × Int)) : Option ((Nat × List Int) × Int) :=
  (if ((s_l03Colour p colour 1 [l.1, l.2.1, l.2.2]) == 0) = true then (if (prB p) = true then (if (s_l03Null p colour l) = true then some ((0, []), 5) else (if ((s_l03Colour p colour 1 [l.1, l.2.1, l.2.2]) != 0) = true then some ((0, []), (s_l03Colour p colour 1 [l.1, l.2.1, l.2.2])) else (if (prB p) = true then (if (decide (0 ≤ p) && decide (p ≤ 2000000) && p == p) = true then lo0 (List.replicate p.toNat 0) 0 else none) else none))) else none) else (if ((s_l03Colour p colour 1 [l.1, l.2.1, l.2.2]) != 0) = true then some ((0, []), (s_l03Colour p colour 1 [l.1, l.2.1, l.2.2])) else (if (prB p) = true then (if (decide (0 ≤ p) && decide (p ≤ 2000000) && p == p) = true then lo1 (List.replicate p.toNat 0) 0 else none) else none)))
def Fo_s_CountBySpread (fu : Nat) (p : Int) (colour : Int) (l : Int × Int × Int) : Option ((Nat × List Int) × Int) := G_s_CountBySpread p colour l (L_s_CountBySpread_0 fu p colour l (fu + 100)) (L_s_CountBySpread_1 fu p colour l (fu + 100))
theorem eqg_s_CountBySpread (fu : Nat) (p : Int) (colour : Int) (l : Int × Int × Int) : execT Try.prog S_s_CountBySpread 34 54 (fun _ => fu + 100) dec_l2_1_i [.v (.int .i64 p), .v (.int .i64 colour), .v (.agg ⟨[.int .i64 l.1, .int .i64 l.2.1, .int .i64 l.2.2]⟩)] = G_s_CountBySpread p colour l (L_s_CountBySpread_0 fu p colour l (fu + 100)) (L_s_CountBySpread_1 fu p colour l (fu + 100)) := by
  have h1 : execT Try.prog S_s_CountBySpread 34 54 (fun _ => fu + 100) dec_l2_1_i [.v (.int .i64 p), .v (.int .i64 colour), .v (.agg ⟨[.int .i64 l.1, .int .i64 l.2.1, .int .i64 l.2.2]⟩)] = G_s_CountBySpread p colour l (X_s_CountBySpread_0 Try.prog fu p colour l (fu + 100)) (X_s_CountBySpread_1 Try.prog fu p colour l (fu + 100)) := by kernel_rfl
  have c0 : X_s_CountBySpread_0 Try.prog fu p colour l (fu + 100) = L_s_CountBySpread_0 fu p colour l (fu + 100) := by funext l33 i; exact loop_s_CountBySpread_0 fu p colour l (fu + 100) l33 i
  have c1 : X_s_CountBySpread_1 Try.prog fu p colour l (fu + 100) = L_s_CountBySpread_1 fu p colour l (fu + 100) := by funext l33 i; exact loop_s_CountBySpread_1 fu p colour l (fu + 100) l33 i
  rw [h1, c0, c1]
theorem eq_s_CountBySpread (fu : Nat) (p : Int) (colour : Int) (l : Int × Int × Int) : execT Try.prog S_s_CountBySpread 34 54 (fun _ => fu + 100) dec_l2_1_i [.v (.int .i64 p), .v (.int .i64 colour), .v (.agg ⟨[.int .i64 l.1, .int .i64 l.2.1, .int .i64 l.2.2]⟩)] = Fo_s_CountBySpread fu p colour l := eqg_s_CountBySpread fu p colour l
def V_s_CountBySpread_0 (p : Int) (colour : Int) (l : Int × Int × Int) : (List Int) → Int → (Nat × List Int) × Int := fun _ _ => ((p.toNat, (nonnullL p colour (0, 0)).foldl (fun s zz => bump s (s_l03Spread p colour l zz).toNat) (List.replicate p.toNat 0)), 0)
theorem lo0_s_CountBySpread (p colour : Int) (l : P3) (hp : prB p = true) {F : Nat} (hF : 993 < F) : L_s_CountBySpread_0 1000000 p colour l F (List.replicate p.toNat 0) 0 = some ((p.toNat, (nonnullL p colour (0, 0)).foldl (fun s zz => bump s (s_l03Spread p colour l zz).toNat) (List.replicate p.toNat 0)), 0) := by
  have hlen : (nonnullL p colour (0, 0)).length ≤ 993 := nonnull_len hp colour (0, 0)
  obtain ⟨h1, h0, hpn⟩ := prB_nat hp
  have h := bumps (L := fun f s i => L_s_CountBySpread_0 1000000 p colour l f s i) (n := (nonnullL p colour (0, 0)).length) (N := p.toNat) (row := R3 (flat3 (nonnullL p colour (0, 0)))) (q := fun zz => true) (f := fun zz => (s_l03Spread p colour l zz).toNat) (K := fun s => some ((p.toNat, s), 0)) (F := F) (l := (List.replicate p.toNat 0)) (by omega) (by simp)
    (fun f k s hk hs => by
      show B_s_CountBySpread_0 p colour l (L_s_CountBySpread_0 1000000 p colour l f) s (k : Int) = _
      unfold B_s_CountBySpread_0
      have e0 : decide (0 ≤ (k : Int)) = true := by simp
      have e1 := cnd hk
      have e3 : (k : Int).toNat = k := Int.toNat_natCast k
      have e4 := row3_ok (flat3_len _) hk
      have hr : ((flat3 (nonnullL p colour (0, 0))).getD (k * 3 + 0) 0, (flat3 (nonnullL p colour (0, 0))).getD (k * 3 + 1) 0, (flat3 (nonnullL p colour (0, 0))).getD (k * 3 + 2) 0) = R3 (flat3 (nonnullL p colour (0, 0))) k := rfl
      rw [show s_l03Lines p colour (0, 0) = ((nonnullL p colour (0, 0)).length, flat3 (nonnullL p colour (0, 0))) from rfl]
      simp only [hr]
      have b1 : decide (0 ≤ s_l03Spread p colour l (R3 (flat3 (nonnullL p colour (0, 0))) k)) = true := by have := (sspread_b hp colour l (R3 (flat3 (nonnullL p colour (0, 0))) k)).1; simpa using this
      have b2 : decide (s_l03Spread p colour l (R3 (flat3 (nonnullL p colour (0, 0))) k) < ((p.toNat : Nat) : Int)) = true := by have := (sspread_b hp colour l (R3 (flat3 (nonnullL p colour (0, 0))) k)).2; simp; omega
      have b3 : Nat.ble ((s_l03Spread p colour l (R3 (flat3 (nonnullL p colour (0, 0))) k)).toNat * 1 + 1) s.length = true := leb (by simp at b1 b2; omega)
      simp only [e0, e1, e3, e4, hp, hr, b1, b2, b3, Bool.and_true, Bool.true_and, if_true, wrap_add1 hk (by omega)]
      simp [bump, Nat.mul_one])
    (fun f s => by
      show B_s_CountBySpread_0 p colour l (L_s_CountBySpread_0 1000000 p colour l f) s (((nonnullL p colour (0, 0)).length : Nat) : Int) = _
      unfold B_s_CountBySpread_0
      rw [show s_l03Lines p colour (0, 0) = ((nonnullL p colour (0, 0)).length, flat3 (nonnullL p colour (0, 0))) from rfl]
      rw [if_neg (by simp)])
  rw [← rows3_R, rows3_flat3] at h
  rw [filter_yes] at h
  exact h

def V_s_CountBySpread_1 (p : Int) (colour : Int) (l : Int × Int × Int) : (List Int) → Int → (Nat × List Int) × Int := fun _ _ => ((p.toNat, (nonnullL p colour (0, 0)).foldl (fun s zz => bump s (s_l03Spread p colour l zz).toNat) (List.replicate p.toNat 0)), 0)
theorem lo1_s_CountBySpread (p colour : Int) (l : P3) (hp : prB p = true) {F : Nat} (hF : 993 < F) : L_s_CountBySpread_1 1000000 p colour l F (List.replicate p.toNat 0) 0 = some ((p.toNat, (nonnullL p colour (0, 0)).foldl (fun s zz => bump s (s_l03Spread p colour l zz).toNat) (List.replicate p.toNat 0)), 0) := by
  have hlen : (nonnullL p colour (0, 0)).length ≤ 993 := nonnull_len hp colour (0, 0)
  obtain ⟨h1, h0, hpn⟩ := prB_nat hp
  have h := bumps (L := fun f s i => L_s_CountBySpread_1 1000000 p colour l f s i) (n := (nonnullL p colour (0, 0)).length) (N := p.toNat) (row := R3 (flat3 (nonnullL p colour (0, 0)))) (q := fun zz => true) (f := fun zz => (s_l03Spread p colour l zz).toNat) (K := fun s => some ((p.toNat, s), 0)) (F := F) (l := (List.replicate p.toNat 0)) (by omega) (by simp)
    (fun f k s hk hs => by
      show B_s_CountBySpread_1 p colour l (L_s_CountBySpread_1 1000000 p colour l f) s (k : Int) = _
      unfold B_s_CountBySpread_1
      have e0 : decide (0 ≤ (k : Int)) = true := by simp
      have e1 := cnd hk
      have e3 : (k : Int).toNat = k := Int.toNat_natCast k
      have e4 := row3_ok (flat3_len _) hk
      have hr : ((flat3 (nonnullL p colour (0, 0))).getD (k * 3 + 0) 0, (flat3 (nonnullL p colour (0, 0))).getD (k * 3 + 1) 0, (flat3 (nonnullL p colour (0, 0))).getD (k * 3 + 2) 0) = R3 (flat3 (nonnullL p colour (0, 0))) k := rfl
      rw [show s_l03Lines p colour (0, 0) = ((nonnullL p colour (0, 0)).length, flat3 (nonnullL p colour (0, 0))) from rfl]
      simp only [hr]
      have b1 : decide (0 ≤ s_l03Spread p colour l (R3 (flat3 (nonnullL p colour (0, 0))) k)) = true := by have := (sspread_b hp colour l (R3 (flat3 (nonnullL p colour (0, 0))) k)).1; simpa using this
      have b2 : decide (s_l03Spread p colour l (R3 (flat3 (nonnullL p colour (0, 0))) k) < ((p.toNat : Nat) : Int)) = true := by have := (sspread_b hp colour l (R3 (flat3 (nonnullL p colour (0, 0))) k)).2; simp; omega
      have b3 : Nat.ble ((s_l03Spread p colour l (R3 (flat3 (nonnullL p colour (0, 0))) k)).toNat * 1 + 1) s.length = true := leb (by simp at b1 b2; omega)
      simp only [e0, e1, e3, e4, hp, hr, b1, b2, b3, Bool.and_true, Bool.true_and, if_true, wrap_add1 hk (by omega)]
      simp [bump, Nat.mul_one])
    (fun f s => by
      show B_s_CountBySpread_1 p colour l (L_s_CountBySpread_1 1000000 p colour l f) s (((nonnullL p colour (0, 0)).length : Nat) : Int) = _
      unfold B_s_CountBySpread_1
      rw [show s_l03Lines p colour (0, 0) = ((nonnullL p colour (0, 0)).length, flat3 (nonnullL p colour (0, 0))) from rfl]
      rw [if_neg (by simp)])
  rw [← rows3_R, rows3_flat3] at h
  rw [filter_yes] at h
  exact h

def s_CountBySpread (p : Int) (colour : Int) (l : Int × Int × Int) : (Nat × List Int) × Int :=
  (if ((s_l03Colour p colour 1 [l.1, l.2.1, l.2.2]) == 0) = true then (if (s_l03Null p colour l) = true then ((0, []), 5) else (if ((s_l03Colour p colour 1 [l.1, l.2.1, l.2.2]) != 0) = true then ((0, []), (s_l03Colour p colour 1 [l.1, l.2.1, l.2.2])) else V_s_CountBySpread_0 p colour l (List.replicate p.toNat 0) 0)) else (if ((s_l03Colour p colour 1 [l.1, l.2.1, l.2.2]) != 0) = true then ((0, []), (s_l03Colour p colour 1 [l.1, l.2.1, l.2.2])) else V_s_CountBySpread_1 p colour l (List.replicate p.toNat 0) 0))
theorem tot_s_CountBySpread (p : Int) (colour : Int) (l : Int × Int × Int) : Fo_s_CountBySpread 1000000 p colour l = some (s_CountBySpread p colour l) := by
  unfold Fo_s_CountBySpread G_s_CountBySpread s_CountBySpread
  (try simp only [wI_eq])
  repeat' (first | with_reducible rfl | refine chk_opt (by first | with_reducible rfl | exact Bool.true_or _ | (with_reducible exact l03Colour_prB ‹_›) | (with_reducible exact l03Colour_prB0 ‹_›) | exact mk_ok (by (first | (with_reducible assumption) | (with_reducible exact l03Colour_prB ‹_›) | (with_reducible exact l03Colour_prB0 ‹_›))) | exact and_all (by (first | (with_reducible assumption) | (with_reducible exact l03Colour_prB ‹_›) | (with_reducible exact l03Colour_prB0 ‹_›))) (fun _ => rfl) | exact and_all (by (first | (with_reducible assumption) | (with_reducible exact l03Colour_prB ‹_›) | (with_reducible exact l03Colour_prB0 ‹_›))) (fun _ => by (first | (with_reducible assumption) | (with_reducible exact l03Colour_prB ‹_›) | (with_reducible exact l03Colour_prB0 ‹_›))) | exact and3 (by (first | (with_reducible assumption) | (with_reducible exact l03Colour_prB ‹_›) | (with_reducible exact l03Colour_prB0 ‹_›))) (by (first | (with_reducible assumption) | (with_reducible exact l03Colour_prB ‹_›) | (with_reducible exact l03Colour_prB0 ‹_›))) (by (first | (with_reducible assumption) | (with_reducible exact l03Colour_prB ‹_›) | (with_reducible exact l03Colour_prB0 ‹_›))) | exact and_two (by (first | (with_reducible assumption) | (with_reducible exact l03Colour_prB ‹_›) | (with_reducible exact l03Colour_prB0 ‹_›))) rfl | rfl) ?_ | refine ite_opt (fun _ => ?_) (fun _ => ?_) | exact lo0_s_CountBySpread _ _ _ (by (first | (with_reducible assumption) | (with_reducible exact l03Colour_prB ‹_›) | (with_reducible exact l03Colour_prB0 ‹_›))) (by omega) | exact lo1_s_CountBySpread _ _ _ (by (first | (with_reducible assumption) | (with_reducible exact l03Colour_prB ‹_›) | (with_reducible exact l03Colour_prB0 ‹_›))) (by omega) | rfl)
def run_s_CountBySpread : List PV → Option (Bool × List TR)
  | [.v (.int .i64 p), .v (.int .i64 colour), .v (.agg ⟨[.int .i64 l0, .int .i64 l1, .int .i64 l2]⟩)] => some (true, enc_l2_1_i (s_CountBySpread p colour (l0, l1, l2)))
  | _ => none
theorem sound_s_CountBySpread : Sound Try.prog 34 run_s_CountBySpread := by
  refine sound_of de_l2_1_i SO_s_CountBySpread (by kernel_rfl) Try.func34 Try.ntmps34 rfl (by kernel_rfl) ?_
  intro W pvs avs rs hargs hrun
  unfold run_s_CountBySpread at hrun
  split at hrun
  · simp only [Option.some.injEq, Prod.mk.injEq] at hrun
    obtain ⟨hp, rfl⟩ := hrun
    rename_i p colour l0 l1 l2
    exact ⟨_, _, _, hargs, rfl, (eq_s_CountBySpread _ p colour (l0, l1, l2)).trans (tot_s_CountBySpread p colour (l0, l1, l2))⟩
  · cases hrun

def S_i_areParallel : Sums := ⟨tblS [(115, run_i_rest)], tblM []⟩
theorem SO_i_areParallel : SumsOK Try.prog S_i_areParallel := ⟨tblS_ok ⟨⟨Try.call115, sound_i_rest⟩, True.intro⟩, tblM_ok True.intro⟩
def Fo_i_areParallel (p : Int) (l : Int × Int × Int) (m : Int × Int × Int) : Option (Bool) :=
  (if (prB p) = true then some ((i_rest p (wI ((wI (l.1 * m.2.1)) - (wI (l.2.1 * m.1))))) == 0) else none)
theorem eq_i_areParallel (p : Int) (l : Int × Int × Int) (m : Int × Int × Int) : execT Try.prog S_i_areParallel 94 21 (fun _ => 1000000) dec_b [.v (.int .i64 p), .v (.agg ⟨[.int .i64 l.1, .int .i64 l.2.1, .int .i64 l.2.2]⟩), .v (.agg ⟨[.int .i64 m.1, .int .i64 m.2.1, .int .i64 m.2.2]⟩)] = Fo_i_areParallel p l m := by
  kernel_rfl
def i_areParallel (p : Int) (l : Int × Int × Int) (m : Int × Int × Int) : Bool :=
  (i_rest p (wrap64 ((wrap64 (l.1 * m.2.1)) - (wrap64 (l.2.1 * m.1))))) == 0
theorem tot_i_areParallel (p : Int) (l : Int × Int × Int) (m : Int × Int × Int) (hp : (prB p) = true) : Fo_i_areParallel p l m = some (i_areParallel p l m) := by
  try have h0 := prB_ne hp
  unfold Fo_i_areParallel i_areParallel
  (try simp only [wI_eq])
  repeat' (first | with_reducible rfl | with_reducible refine chk_opt hp ?_ | with_reducible refine chk_opt h0 ?_ | refine chk_opt (and_all hp fun _ => hp) ?_ | refine chk_opt (and_all hp fun _ => rfl) ?_ | refine ite_opt (fun _ => ?_) (fun _ => ?_) | rfl)
def run_i_areParallel : List PV → Option (Bool × List TR)
  | [.v (.int .i64 p), .v (.agg ⟨[.int .i64 l0, .int .i64 l1, .int .i64 l2]⟩), .v (.agg ⟨[.int .i64 m0, .int .i64 m1, .int .i64 m2]⟩)] => some (prB p, enc_b (i_areParallel p (l0, l1, l2) (m0, m1, m2)))
  | _ => none
theorem sound_i_areParallel : Sound Try.prog 94 run_i_areParallel := by
  refine sound_of de_b SO_i_areParallel (by kernel_rfl) Try.func94 Try.ntmps94 rfl (by kernel_rfl) ?_
  intro W pvs avs rs hargs hrun
  unfold run_i_areParallel at hrun
  split at hrun
  · simp only [Option.some.injEq, Prod.mk.injEq] at hrun
    obtain ⟨hp, rfl⟩ := hrun
    rename_i p l0 l1 l2 m0 m1 m2
    exact ⟨_, _, _, hargs, rfl, (eq_i_areParallel p (l0, l1, l2) (m0, m1, m2)).trans (tot_i_areParallel p (l0, l1, l2) (m0, m1, m2) hp)⟩
  · cases hrun

def S_i_BisectorsOf_c1 : Sums := ⟨tblS [(44, run_i_isNull), (86, run_i_spread)], tblM []⟩
theorem SO_i_BisectorsOf_c1 : SumsOK Try.prog S_i_BisectorsOf_c1 := ⟨tblS_ok ⟨⟨Try.call44, sound_i_isNull⟩, ⟨Try.call86, sound_i_spread⟩, True.intro⟩, tblM_ok True.intro⟩
def Fo_i_BisectorsOf_c1 (n_ : Int × Int × Int) (c0 : Int) (c1 : Int) (c2 : Int × Int × Int) (c3 : Int × Int × Int) : Option (Bool) :=
  (if (prB c0) = true then (if (!(i_isNull c0 c1 n_)) = true then (if (prB c0) = true then (if (prB c0) = true then some ((i_spread c0 c1 c2 n_) == (i_spread c0 c1 c3 n_)) else none) else none) else some false) else none)
theorem eq_i_BisectorsOf_c1 (n_ : Int × Int × Int) (c0 : Int) (c1 : Int) (c2 : Int × Int × Int) (c3 : Int × Int × Int) : execT Try.prog S_i_BisectorsOf_c1 96 25 (fun _ => 1000000) dec_b [.v (.agg ⟨[.int .i64 n_.1, .int .i64 n_.2.1, .int .i64 n_.2.2]⟩), .p [.int .i64 c0], .p [.int .i64 c1], .p [.int .i64 c2.1, .int .i64 c2.2.1, .int .i64 c2.2.2], .p [.int .i64 c3.1, .int .i64 c3.2.1, .int .i64 c3.2.2]] = Fo_i_BisectorsOf_c1 n_ c0 c1 c2 c3 := by
  kernel_rfl
def i_BisectorsOf_c1 (n_ : Int × Int × Int) (c0 : Int) (c1 : Int) (c2 : Int × Int × Int) (c3 : Int × Int × Int) : Bool :=
  (if (!(i_isNull c0 c1 n_)) = true then (i_spread c0 c1 c2 n_) == (i_spread c0 c1 c3 n_) else false)
theorem tot_i_BisectorsOf_c1 (n_ : Int × Int × Int) (c0 : Int) (c1 : Int) (c2 : Int × Int × Int) (c3 : Int × Int × Int) (hp : (prB c0) = true) : Fo_i_BisectorsOf_c1 n_ c0 c1 c2 c3 = some (i_BisectorsOf_c1 n_ c0 c1 c2 c3) := by
  try have h0 := prB_ne hp
  unfold Fo_i_BisectorsOf_c1 i_BisectorsOf_c1
  (try simp only [wI_eq])
  repeat' (first | with_reducible rfl | with_reducible refine chk_opt hp ?_ | with_reducible refine chk_opt h0 ?_ | refine chk_opt (and_all hp fun _ => hp) ?_ | refine chk_opt (and_all hp fun _ => rfl) ?_ | refine ite_opt (fun _ => ?_) (fun _ => ?_) | rfl)
def run_i_BisectorsOf_c1 : List PV → Option (Bool × List TR)
  | [.v (.agg ⟨[.int .i64 n_0, .int .i64 n_1, .int .i64 n_2]⟩), .p [.int .i64 c0], .p [.int .i64 c1], .p [.int .i64 c20, .int .i64 c21, .int .i64 c22], .p [.int .i64 c30, .int .i64 c31, .int .i64 c32]] => some (prB c0, enc_b (i_BisectorsOf_c1 (n_0, n_1, n_2) c0 c1 (c20, c21, c22) (c30, c31, c32)))
  | _ => none
theorem sound_i_BisectorsOf_c1 : Sound Try.prog 96 run_i_BisectorsOf_c1 := by
  refine sound_of de_b SO_i_BisectorsOf_c1 (by kernel_rfl) Try.func96 Try.ntmps96 rfl (by kernel_rfl) ?_
  intro W pvs avs rs hargs hrun
  unfold run_i_BisectorsOf_c1 at hrun
  split at hrun
  · simp only [Option.some.injEq, Prod.mk.injEq] at hrun
    obtain ⟨hp, rfl⟩ := hrun
    rename_i n_0 n_1 n_2 c0 c1 c20 c21 c22 c30 c31 c32
    exact ⟨_, _, _, hargs, rfl, (eq_i_BisectorsOf_c1 (n_0, n_1, n_2) c0 c1 (c20, c21, c22) (c30, c31, c32)).trans (tot_i_BisectorsOf_c1 (n_0, n_1, n_2) c0 c1 (c20, c21, c22) (c30, c31, c32) hp)⟩
  · cases hrun

def S_i_BisectorsOf : Sums := ⟨tblS [(92, run_i_twoLines), (94, run_i_areParallel), (95, run_i_meet), (84, run_i_linesWith), (96, run_i_BisectorsOf_c1)], tblM []⟩
theorem SO_i_BisectorsOf : SumsOK Try.prog S_i_BisectorsOf := ⟨tblS_ok ⟨⟨Try.call92, sound_i_twoLines⟩, ⟨Try.call94, sound_i_areParallel⟩, ⟨Try.call95, sound_i_meet⟩, ⟨Try.call84, sound_i_linesWith⟩, ⟨Try.call96, sound_i_BisectorsOf_c1⟩, True.intro⟩, tblM_ok True.intro⟩
def Fo_i_BisectorsOf (p : Int) (colour : Int) (l : Int × Int × Int) (m : Int × Int × Int) : Option ((Nat × List Int) × Int) :=
  (if ((i_twoLines p colour l m) != 0) = true then some ((0, []), (i_twoLines p colour l m)) else (if (prB p) = true then (if (i_areParallel p l m) = true then some ((0, []), 5) else (if (prB p) = true then (if (prB p && (linesT p (i_meet p l m)).all (fun a0 => prB p)) = true then some (((i_linesWith p (i_meet p l m) (fun a0 => prB p) (fun a0 => i_BisectorsOf_c1 a0 p colour l m)).1, (i_linesWith p (i_meet p l m) (fun a0 => prB p) (fun a0 => i_BisectorsOf_c1 a0 p colour l m)).2), 0) else none) else none)) else none))
theorem eq_i_BisectorsOf (p : Int) (colour : Int) (l : Int × Int × Int) (m : Int × Int × Int) : execT Try.prog S_i_BisectorsOf 30 30 (fun _ => 1000000) dec_l29_3_i [.v (.int .i64 p), .v (.int .i64 colour), .v (.agg ⟨[.int .i64 l.1, .int .i64 l.2.1, .int .i64 l.2.2]⟩), .v (.agg ⟨[.int .i64 m.1, .int .i64 m.2.1, .int .i64 m.2.2]⟩)] = Fo_i_BisectorsOf p colour l m := by
  kernel_rfl
def i_BisectorsOf (p : Int) (colour : Int) (l : Int × Int × Int) (m : Int × Int × Int) : (Nat × List Int) × Int :=
  (if ((i_twoLines p colour l m) != 0) = true then ((0, []), (i_twoLines p colour l m)) else (if (i_areParallel p l m) = true then ((0, []), 5) else (((i_linesWith p (i_meet p l m) (fun a0 => prB p) (fun a0 => i_BisectorsOf_c1 a0 p colour l m)).1, (i_linesWith p (i_meet p l m) (fun a0 => prB p) (fun a0 => i_BisectorsOf_c1 a0 p colour l m)).2), 0)))
theorem tot_i_BisectorsOf (p : Int) (colour : Int) (l : Int × Int × Int) (m : Int × Int × Int) : Fo_i_BisectorsOf p colour l m = some (i_BisectorsOf p colour l m) := by
  unfold Fo_i_BisectorsOf i_BisectorsOf
  (try simp only [wI_eq])
  repeat' (first | with_reducible rfl | refine chk_opt (by first | with_reducible rfl | exact Bool.true_or _ | (with_reducible exact twoLines_prB ‹_›) | (with_reducible exact twoLines_prB0 ‹_›) | exact mk_ok (by (first | (with_reducible assumption) | (with_reducible exact twoLines_prB ‹_›) | (with_reducible exact twoLines_prB0 ‹_›))) | exact and_all (by (first | (with_reducible assumption) | (with_reducible exact twoLines_prB ‹_›) | (with_reducible exact twoLines_prB0 ‹_›))) (fun _ => rfl) | exact and_all (by (first | (with_reducible assumption) | (with_reducible exact twoLines_prB ‹_›) | (with_reducible exact twoLines_prB0 ‹_›))) (fun _ => by (first | (with_reducible assumption) | (with_reducible exact twoLines_prB ‹_›) | (with_reducible exact twoLines_prB0 ‹_›))) | exact and3 (by (first | (with_reducible assumption) | (with_reducible exact twoLines_prB ‹_›) | (with_reducible exact twoLines_prB0 ‹_›))) (by (first | (with_reducible assumption) | (with_reducible exact twoLines_prB ‹_›) | (with_reducible exact twoLines_prB0 ‹_›))) (by (first | (with_reducible assumption) | (with_reducible exact twoLines_prB ‹_›) | (with_reducible exact twoLines_prB0 ‹_›))) | exact and_two (by (first | (with_reducible assumption) | (with_reducible exact twoLines_prB ‹_›) | (with_reducible exact twoLines_prB0 ‹_›))) rfl | rfl) ?_ | refine ite_opt (fun _ => ?_) (fun _ => ?_) | rfl)
def run_i_BisectorsOf : List PV → Option (Bool × List TR)
  | [.v (.int .i64 p), .v (.int .i64 colour), .v (.agg ⟨[.int .i64 l0, .int .i64 l1, .int .i64 l2]⟩), .v (.agg ⟨[.int .i64 m0, .int .i64 m1, .int .i64 m2]⟩)] => some (true, enc_l29_3_i (i_BisectorsOf p colour (l0, l1, l2) (m0, m1, m2)))
  | _ => none
theorem sound_i_BisectorsOf : Sound Try.prog 30 run_i_BisectorsOf := by
  refine sound_of de_l29_3_i SO_i_BisectorsOf (by kernel_rfl) Try.func30 Try.ntmps30 rfl (by kernel_rfl) ?_
  intro W pvs avs rs hargs hrun
  unfold run_i_BisectorsOf at hrun
  split at hrun
  · simp only [Option.some.injEq, Prod.mk.injEq] at hrun
    obtain ⟨hp, rfl⟩ := hrun
    rename_i p colour l0 l1 l2 m0 m1 m2
    exact ⟨_, _, _, hargs, rfl, (eq_i_BisectorsOf p colour (l0, l1, l2) (m0, m1, m2)).trans (tot_i_BisectorsOf p colour (l0, l1, l2) (m0, m1, m2))⟩
  · cases hrun

def S_s_l03Both : Sums := ⟨tblS [(87, run_s_l03Colour), (75, run_s_l03Null)], tblM []⟩
theorem SO_s_l03Both : SumsOK Try.prog S_s_l03Both := ⟨tblS_ok ⟨⟨Try.call87, sound_s_l03Colour⟩, ⟨Try.call75, sound_s_l03Null⟩, True.intro⟩, tblM_ok True.intro⟩
def Fo_s_l03Both (p : Int) (colour : Int) (l : Int × Int × Int) (m : Int × Int × Int) : Option (Int) :=
  (if ((s_l03Colour p colour 2 [l.1, l.2.1, l.2.2, m.1, m.2.1, m.2.2]) == 0) = true then (if (prB p) = true then (if (s_l03Null p colour l) = true then some 5 else (if (prB p) = true then (if (s_l03Null p colour m) = true then some 5 else some (s_l03Colour p colour 2 [l.1, l.2.1, l.2.2, m.1, m.2.1, m.2.2])) else none)) else none) else some (s_l03Colour p colour 2 [l.1, l.2.1, l.2.2, m.1, m.2.1, m.2.2]))
theorem eq_s_l03Both (p : Int) (colour : Int) (l : Int × Int × Int) (m : Int × Int × Int) : execT Try.prog S_s_l03Both 97 31 (fun _ => 1000000) dec_i [.v (.int .i64 p), .v (.int .i64 colour), .v (.agg ⟨[.int .i64 l.1, .int .i64 l.2.1, .int .i64 l.2.2]⟩), .v (.agg ⟨[.int .i64 m.1, .int .i64 m.2.1, .int .i64 m.2.2]⟩)] = Fo_s_l03Both p colour l m := by
  kernel_rfl
def s_l03Both (p : Int) (colour : Int) (l : Int × Int × Int) (m : Int × Int × Int) : Int :=
  (if ((s_l03Colour p colour 2 [l.1, l.2.1, l.2.2, m.1, m.2.1, m.2.2]) == 0) = true then (if (s_l03Null p colour l) = true then 5 else (if (s_l03Null p colour m) = true then 5 else (s_l03Colour p colour 2 [l.1, l.2.1, l.2.2, m.1, m.2.1, m.2.2]))) else (s_l03Colour p colour 2 [l.1, l.2.1, l.2.2, m.1, m.2.1, m.2.2]))
theorem tot_s_l03Both (p : Int) (colour : Int) (l : Int × Int × Int) (m : Int × Int × Int) : Fo_s_l03Both p colour l m = some (s_l03Both p colour l m) := by
  unfold Fo_s_l03Both s_l03Both
  (try simp only [wI_eq])
  repeat' (first | with_reducible rfl | refine chk_opt (by first | with_reducible rfl | exact Bool.true_or _ | (with_reducible exact l03Colour_prB ‹_›) | (with_reducible exact l03Colour_prB0 ‹_›) | exact mk_ok (by (first | (with_reducible assumption) | (with_reducible exact l03Colour_prB ‹_›) | (with_reducible exact l03Colour_prB0 ‹_›))) | exact and_all (by (first | (with_reducible assumption) | (with_reducible exact l03Colour_prB ‹_›) | (with_reducible exact l03Colour_prB0 ‹_›))) (fun _ => rfl) | exact and_all (by (first | (with_reducible assumption) | (with_reducible exact l03Colour_prB ‹_›) | (with_reducible exact l03Colour_prB0 ‹_›))) (fun _ => by (first | (with_reducible assumption) | (with_reducible exact l03Colour_prB ‹_›) | (with_reducible exact l03Colour_prB0 ‹_›))) | exact and3 (by (first | (with_reducible assumption) | (with_reducible exact l03Colour_prB ‹_›) | (with_reducible exact l03Colour_prB0 ‹_›))) (by (first | (with_reducible assumption) | (with_reducible exact l03Colour_prB ‹_›) | (with_reducible exact l03Colour_prB0 ‹_›))) (by (first | (with_reducible assumption) | (with_reducible exact l03Colour_prB ‹_›) | (with_reducible exact l03Colour_prB0 ‹_›))) | exact and_two (by (first | (with_reducible assumption) | (with_reducible exact l03Colour_prB ‹_›) | (with_reducible exact l03Colour_prB0 ‹_›))) rfl | rfl) ?_ | refine ite_opt (fun _ => ?_) (fun _ => ?_) | rfl)
def run_s_l03Both : List PV → Option (Bool × List TR)
  | [.v (.int .i64 p), .v (.int .i64 colour), .v (.agg ⟨[.int .i64 l0, .int .i64 l1, .int .i64 l2]⟩), .v (.agg ⟨[.int .i64 m0, .int .i64 m1, .int .i64 m2]⟩)] => some (true, enc_i (s_l03Both p colour (l0, l1, l2) (m0, m1, m2)))
  | _ => none
theorem sound_s_l03Both : Sound Try.prog 97 run_s_l03Both := by
  refine sound_of de_i SO_s_l03Both (by kernel_rfl) Try.func97 Try.ntmps97 rfl (by kernel_rfl) ?_
  intro W pvs avs rs hargs hrun
  unfold run_s_l03Both at hrun
  split at hrun
  · simp only [Option.some.injEq, Prod.mk.injEq] at hrun
    obtain ⟨hp, rfl⟩ := hrun
    rename_i p colour l0 l1 l2 m0 m1 m2
    exact ⟨_, _, _, hargs, rfl, (eq_s_l03Both p colour (l0, l1, l2) (m0, m1, m2)).trans (tot_s_l03Both p colour (l0, l1, l2) (m0, m1, m2))⟩
  · cases hrun

theorem l03Both_prB {p : Int} {c : Int} {l m : P3} (h : ¬ (s_l03Both p c l m != 0) = true) : prB p = true := by
  refine Pr_prB (i_IsField_ok ?_)
  have h : s_l03Both p c l m = 0 := by simpa using h
  cases hf : i_IsField p
  · simp [s_l03Both, s_l03Colour, s_l01Lines, s_l01Field, hf] at h
  · rfl
theorem l03Both_prB0 {p : Int} {c : Int} {l m : P3} (h : (s_l03Both p c l m == 0) = true) : prB p = true := l03Both_prB (by simpa using h)
def S_s_BisectorsOf : Sums := ⟨tblS [(97, run_s_l03Both), (98, run_s_l01Meet), (77, run_s_l03Lines), (78, run_s_l03Spread)], tblM []⟩
theorem SO_s_BisectorsOf : SumsOK Try.prog S_s_BisectorsOf := ⟨tblS_ok ⟨⟨Try.call97, sound_s_l03Both⟩, ⟨Try.call98, sound_s_l01Meet⟩, ⟨Try.call77, sound_s_l03Lines⟩, ⟨Try.call78, sound_s_l03Spread⟩, True.intro⟩, tblM_ok True.intro⟩
def T_s_BisectorsOf_0 (p : Int) (colour : Int) (l : Int × Int × Int) (m : Int × Int × Int) (l37 : List Int) (m37 : Nat) (i : Int) : Tab := ⟨[.val (.int .i64 p), .val (.int .i64 colour), .val (.agg ⟨[.int .i64 l.1, .int .i64 l.2.1, .int .i64 l.2.2]⟩), .val (.agg ⟨[.int .i64 m.1, .int .i64 m.2.1, .int .i64 m.2.2]⟩), .junk, .junk, .ptr 24 0, .ptr 28 0, .val (.slice none 0 0), .val (.int .i64 0), .val (.int .i64 (s_l03Both p colour l m)), .ptr 44 0, .val (.bool ((s_l01Meet p l m).2)), .row 144, .row 148, .val (.int .i64 i), .val (.int .i64 p), .val (.int .i64 colour), .val (.agg ⟨[.int .i64 l.1, .int .i64 l.2.1, .int .i64 l.2.2]⟩), .val (.agg ⟨[.int .i64 m.1, .int .i64 m.2.1, .int .i64 m.2.2]⟩), .val (.int .i64 (s_l03Both p colour l m)), .val (.int .i64 (s_l03Both p colour l m)), .val (.bool ((s_l03Both p colour l m) != 0)), .junk, .junk, .val (.int .i64 p), .val (.agg ⟨[.int .i64 l.1, .int .i64 l.2.1, .int .i64 l.2.2]⟩), .val (.agg ⟨[.int .i64 m.1, .int .i64 m.2.1, .int .i64 m.2.2]⟩), .junk, .val (.agg ⟨[.int .i64 (((s_l01Meet p l m).1).1), .int .i64 (((s_l01Meet p l m).1).2)]⟩), .val (.bool ((s_l01Meet p l m).2)), .val (.bool ((s_l01Meet p l m).2)), .val (.bool (!((s_l01Meet p l m).2))), .val (.int .i64 p), .val (.int .i64 colour), .val (.agg ⟨[.int .i64 (((s_l01Meet p l m).1).1), .int .i64 (((s_l01Meet p l m).1).2)]⟩), .row 144, .junk, .junk, .junk, .junk, .junk, .junk, .junk, .junk, .junk, .junk, .junk, .junk, .junk, .junk, .junk, .junk, .junk, .junk, .junk, .junk, .junk, .junk, .junk, .junk, .junk, .junk, .junk, .junk, .junk, .junk, .junk, .junk], [(24, .box 29 [.val (.int .i64 l.1), .val (.int .i64 l.2.1), .val (.int .i64 l.2.2)]), (28, .box 29 [.val (.int .i64 m.1), .val (.int .i64 m.2.1), .val (.int .i64 m.2.2)]), (44, .box 25 [.val (.int .i64 (((s_l01Meet p l m).1).1)), .val (.int .i64 (((s_l01Meet p l m).1).2))]), (144, .row 29 3 ((s_l03Lines p colour ((s_l01Meet p l m).1)).1) (.ints ((s_l03Lines p colour ((s_l01Meet p l m).1)).2))), (148, .row 29 3 m37 (.ints l37))]⟩
def X_s_BisectorsOf_0 (P : Program) (fu : Nat) (p : Int) (colour : Int) (l : Int × Int × Int) (m : Int × Int × Int) (f : Nat) (l37 : List Int) (m37 : Nat) (i : Int) : Option ((Nat × List Int) × Int) := loopK (exec P S_s_BisectorsOf 69 (fun _ => fu + 100) (Code.sub [1, 1, 1, 1, 1, 0, 1, 0, 0] (bodyF P 31))) f (T_s_BisectorsOf_0 p colour l m l37 m37 i) (kBlock 0 (kSeq (fun s => exec P S_s_BisectorsOf 69 (fun _ => fu + 100) (Code.sub [1, 1, 1, 1, 1, 1] (bodyF P 31)) s (finT P 31 dec_l29_3_i)) (finT P 31 dec_l29_3_i)))
def B_s_BisectorsOf_0 (p : Int) (colour : Int) (l : Int × Int × Int) (m : Int × Int × Int) (rec0 : (List Int) → Nat → Int → Option ((Nat × List Int) × Int)) (l37 : List Int) (m37 : Nat) (i : Int) : Option ((Nat × List Int) × Int) :=
  (if (decide (i < (((s_l03Lines p colour ((s_l01Meet p l m).1)).1 : Nat) : Int))) = true then (if (decide (0 ≤ i) && decide (i < (((s_l03Lines p colour ((s_l01Meet p l m).1)).1 : Nat) : Int))) = true then (if (Nat.ble (i.toNat * 3 + 3) (((s_l03Lines p colour ((s_l01Meet p l m).1)).2).length)) = true then (if (prB p) = true then (if (decide (0 ≤ i) && decide (i < (((s_l03Lines p colour ((s_l01Meet p l m).1)).1 : Nat) : Int))) = true then (if (Nat.ble (i.toNat * 3 + 3) (((s_l03Lines p colour ((s_l01Meet p l m).1)).2).length)) = true then (if (prB p) = true then (if ((s_l03Spread p colour l (((s_l03Lines p colour ((s_l01Meet p l m).1)).2).getD (i.toNat * 3 + 0) 0, ((s_l03Lines p colour ((s_l01Meet p l m).1)).2).getD (i.toNat * 3 + 1) 0, ((s_l03Lines p colour ((s_l01Meet p l m).1)).2).getD (i.toNat * 3 + 2) 0)) == (s_l03Spread p colour m (((s_l03Lines p colour ((s_l01Meet p l m).1)).2).getD (i.toNat * 3 + 0) 0, ((s_l03Lines p colour ((s_l01Meet p l m).1)).2).getD (i.toNat * 3 + 1) 0, ((s_l03Lines p colour ((s_l01Meet p l m).1)).2).getD (i.toNat * 3 + 2) 0))) = true then (if (decide (0 ≤ i) && decide (i < (((s_l03Lines p colour ((s_l01Meet p l m).1)).1 : Nat) : Int))) = true then (if (Nat.ble (i.toNat * 3 + 3) (((s_l03Lines p colour ((s_l01Meet p l m).1)).2).length)) = true then (if (Nat.ble 1 1 && Nat.ble (m37 + 1) 1000000 && Nat.beq 3 (3)) = true then rec0 (l37 ++ [((s_l03Lines p colour ((s_l01Meet p l m).1)).2).getD (i.toNat * 3 + 0) 0, ((s_l03Lines p colour ((s_l01Meet p l m).1)).2).getD (i.toNat * 3 + 1) 0, ((s_l03Lines p colour ((s_l01Meet p l m).1)).2).getD (i.toNat * 3 + 2) 0]) (m37 + 1) (wI (i + 1)) else none) else none) else none) else rec0 l37 m37 (wI (i + 1))) else none) else none) else none) else none) else none) else none) else some ((m37, l37), 0))
def L_s_BisectorsOf_0 (fu : Nat) (p : Int) (colour : Int) (l : Int × Int × Int) (m : Int × Int × Int) : Nat → (List Int) → Nat → Int → Option ((Nat × List Int) × Int)
  | 0, _, _, _ => none
  | f + 1, l37, m37, i => B_s_BisectorsOf_0 p colour l m (L_s_BisectorsOf_0 fu p colour l m f) l37 m37 i
theorem loop_s_BisectorsOf_0 (fu : Nat) (p : Int) (colour : Int) (l : Int × Int × Int) (m : Int × Int × Int) : ∀ (f : Nat) (l37 : List Int) (m37 : Nat) (i : Int), X_s_BisectorsOf_0 Try.prog fu p colour l m f l37 m37 i = L_s_BisectorsOf_0 fu p colour l m f l37 m37 i := by
  intro f
  induction f with
  | zero => intros; rfl
  | succ f ih =>
    intro l37 m37 i
    have h1 : X_s_BisectorsOf_0 Try.prog fu p colour l m (f + 1) l37 m37 i = B_s_BisectorsOf_0 p colour l m (X_s_BisectorsOf_0 Try.prog fu p colour l m f) l37 m37 i := by kernel_rfl
    have h2 : X_s_BisectorsOf_0 Try.prog fu p colour l m f = L_s_BisectorsOf_0 fu p colour l m f := by funext l37 m37 i; exact ih l37 m37 i
    rw [h1, h2]
    rfl
def G_s_BisectorsOf (p : Int) (colour : Int) (l : Int × Int × Int) (m : Int × Int × Int) (lo0 : (List Int) → Nat → Int → Option ((Nat × List Int) × Int)) : Option ((Nat × List Int) × Int) :=
  (if ((s_l03Both p colour l m) != 0) = true then some ((0, []), (s_l03Both p colour l m)) else (if (prB p) = true then (if (!((s_l01Meet p l m).2)) = true then some ((0, []), 5) else (if (prB p) = true then lo0 [] 0 0 else none)) else none))
def Fo_s_BisectorsOf (fu : Nat) (p : Int) (colour : Int) (l : Int × Int × Int) (m : Int × Int × Int) : Option ((Nat × List Int) × Int) := G_s_BisectorsOf p colour l m (L_s_BisectorsOf_0 fu p colour l m (fu + 100))
theorem eqg_s_BisectorsOf (fu : Nat) (p : Int) (colour : Int) (l : Int × Int × Int) (m : Int × Int × Int) : execT Try.prog S_s_BisectorsOf 31 69 (fun _ => fu + 100) dec_l29_3_i [.v (.int .i64 p), .v (.int .i64 colour), .v (.agg ⟨[.int .i64 l.1, .int .i64 l.2.1, .int .i64 l.2.2]⟩), .v (.agg ⟨[.int .i64 m.1, .int .i64 m.2.1, .int .i64 m.2.2]⟩)] = G_s_BisectorsOf p colour l m (L_s_BisectorsOf_0 fu p colour l m (fu + 100)) := by
  have h1 : execT Try.prog S_s_BisectorsOf 31 69 (fun _ => fu + 100) dec_l29_3_i [.v (.int .i64 p), .v (.int .i64 colour), .v (.agg ⟨[.int .i64 l.1, .int .i64 l.2.1, .int .i64 l.2.2]⟩), .v (.agg ⟨[.int .i64 m.1, .int .i64 m.2.1, .int .i64 m.2.2]⟩)] = G_s_BisectorsOf p colour l m (X_s_BisectorsOf_0 Try.prog fu p colour l m (fu + 100)) := by kernel_rfl
  have c0 : X_s_BisectorsOf_0 Try.prog fu p colour l m (fu + 100) = L_s_BisectorsOf_0 fu p colour l m (fu + 100) := by funext l37 m37 i; exact loop_s_BisectorsOf_0 fu p colour l m (fu + 100) l37 m37 i
  rw [h1, c0]
theorem eq_s_BisectorsOf (fu : Nat) (p : Int) (colour : Int) (l : Int × Int × Int) (m : Int × Int × Int) : execT Try.prog S_s_BisectorsOf 31 69 (fun _ => fu + 100) dec_l29_3_i [.v (.int .i64 p), .v (.int .i64 colour), .v (.agg ⟨[.int .i64 l.1, .int .i64 l.2.1, .int .i64 l.2.2]⟩), .v (.agg ⟨[.int .i64 m.1, .int .i64 m.2.1, .int .i64 m.2.2]⟩)] = Fo_s_BisectorsOf fu p colour l m := eqg_s_BisectorsOf fu p colour l m
def V_s_BisectorsOf_0 (p : Int) (colour : Int) (l : Int × Int × Int) (m : Int × Int × Int) : (List Int) → Nat → Int → (Nat × List Int) × Int := fun _ _ _ => ((((nonnullL p colour (s_l01Meet p l m).1).filter fun zz => (s_l03Spread p colour l zz == s_l03Spread p colour m zz)).length, flat3 ((nonnullL p colour (s_l01Meet p l m).1).filter fun zz => (s_l03Spread p colour l zz == s_l03Spread p colour m zz))), 0)
theorem lo0_s_BisectorsOf (p colour : Int) (l9 m9 : P3) (hp : prB p = true) {F : Nat} (hF : 993 < F) : L_s_BisectorsOf_0 1000000 p colour l9 m9 F [] 0 0 = some ((((nonnullL p colour (s_l01Meet p l9 m9).1).filter fun zz => (s_l03Spread p colour l9 zz == s_l03Spread p colour m9 zz)).length, flat3 ((nonnullL p colour (s_l01Meet p l9 m9).1).filter fun zz => (s_l03Spread p colour l9 zz == s_l03Spread p colour m9 zz))), 0) := by
  have hlen : (nonnullL p colour (s_l01Meet p l9 m9).1).length ≤ 993 := nonnull_len hp colour (s_l01Meet p l9 m9).1
  exact gather (flat := flat3) flat3_app rfl (L := fun f l m i => L_s_BisectorsOf_0 1000000 p colour l9 m9 f l m i) (n := (nonnullL p colour (s_l01Meet p l9 m9).1).length) (b := 1) (M := 0) (fun k => if (s_l03Spread p colour l9 (R3 (flat3 (nonnullL p colour (s_l01Meet p l9 m9).1)) k) == s_l03Spread p colour m9 (R3 (flat3 (nonnullL p colour (s_l01Meet p l9 m9).1)) k)) = true then [R3 (flat3 (nonnullL p colour (s_l01Meet p l9 m9).1)) k] else []) (K := (some ((((nonnullL p colour (s_l01Meet p l9 m9).1).filter fun zz => (s_l03Spread p colour l9 zz == s_l03Spread p colour m9 zz)).length, flat3 ((nonnullL p colour (s_l01Meet p l9 m9).1).filter fun zz => (s_l03Spread p colour l9 zz == s_l03Spread p colour m9 zz))), 0))) (l := []) (m := 0) (F := F) (by intro k hk; first | (split <;> simp) | simp_all)
    (fun f k l m hk hm => by
      show B_s_BisectorsOf_0 p colour l9 m9 (L_s_BisectorsOf_0 1000000 p colour l9 m9 f) l m (k : Int) = _
      unfold B_s_BisectorsOf_0
      have x0 : prB p = true := hp
      have e0 : decide (0 ≤ (k : Int)) = true := by simp
      have e1 := cnd hk
      have e3 : (k : Int).toNat = k := Int.toNat_natCast k
      have e4 := row3_ok (flat3_len _) hk
      have e5 : Nat.ble 1 1 = true := rfl
      have e6 : Nat.ble (m + 1) 1000000 = true := leb (by omega)
      rw [show s_l03Lines p colour (s_l01Meet p l9 m9).1 = ((nonnullL p colour (s_l01Meet p l9 m9).1).length, flat3 (nonnullL p colour (s_l01Meet p l9 m9).1)) from rfl]
      simp only [e0, e1, e3, e4, e5, e6, beq33, x0, Bool.and_true, Bool.true_and, if_true, wrap_add1 hk (by omega)]
      have hq0 : ((s_l03Spread p colour l9 ((flat3 (nonnullL p colour (s_l01Meet p l9 m9).1)).getD (k * 3 + 0) 0, (flat3 (nonnullL p colour (s_l01Meet p l9 m9).1)).getD (k * 3 + 1) 0, (flat3 (nonnullL p colour (s_l01Meet p l9 m9).1)).getD (k * 3 + 2) 0) == s_l03Spread p colour m9 ((flat3 (nonnullL p colour (s_l01Meet p l9 m9).1)).getD (k * 3 + 0) 0, (flat3 (nonnullL p colour (s_l01Meet p l9 m9).1)).getD (k * 3 + 1) 0, (flat3 (nonnullL p colour (s_l01Meet p l9 m9).1)).getD (k * 3 + 2) 0))) = ((s_l03Spread p colour l9 (R3 (flat3 (nonnullL p colour (s_l01Meet p l9 m9).1)) k) == s_l03Spread p colour m9 (R3 (flat3 (nonnullL p colour (s_l01Meet p l9 m9).1)) k))) := rfl
      try rw [hq0]
      generalize ((s_l03Spread p colour l9 (R3 (flat3 (nonnullL p colour (s_l01Meet p l9 m9).1)) k) == s_l03Spread p colour m9 (R3 (flat3 (nonnullL p colour (s_l01Meet p l9 m9).1)) k))) = c0
      cases c0 <;> first
        | rfl
        | (simp only [Bool.false_eq_true, Bool.false_and, Bool.and_false, Bool.true_and, if_false, if_true]
           rw [show flat3 [] = [] from rfl, List.append_nil]
           rfl))
    (fun f hm => by
      show B_s_BisectorsOf_0 p colour l9 m9 (L_s_BisectorsOf_0 1000000 p colour l9 m9 f) ([] ++ flat3 ((List.range (nonnullL p colour (s_l01Meet p l9 m9).1).length).flatMap (fun k => if (s_l03Spread p colour l9 (R3 (flat3 (nonnullL p colour (s_l01Meet p l9 m9).1)) k) == s_l03Spread p colour m9 (R3 (flat3 (nonnullL p colour (s_l01Meet p l9 m9).1)) k)) = true then [R3 (flat3 (nonnullL p colour (s_l01Meet p l9 m9).1)) k] else []))) (0 + ((List.range (nonnullL p colour (s_l01Meet p l9 m9).1).length).flatMap (fun k => if (s_l03Spread p colour l9 (R3 (flat3 (nonnullL p colour (s_l01Meet p l9 m9).1)) k) == s_l03Spread p colour m9 (R3 (flat3 (nonnullL p colour (s_l01Meet p l9 m9).1)) k)) = true then [R3 (flat3 (nonnullL p colour (s_l01Meet p l9 m9).1)) k] else [])).length) (((nonnullL p colour (s_l01Meet p l9 m9).1).length : Nat) : Int) = _
      unfold B_s_BisectorsOf_0
      have hkp : ((List.range ((nonnullL p colour (s_l01Meet p l9 m9).1).length)).flatMap fun k => if (s_l03Spread p colour l9 (R3 (flat3 (nonnullL p colour (s_l01Meet p l9 m9).1)) k) == s_l03Spread p colour m9 (R3 (flat3 (nonnullL p colour (s_l01Meet p l9 m9).1)) k)) = true then [R3 (flat3 (nonnullL p colour (s_l01Meet p l9 m9).1)) k] else []) = (rows3 ((nonnullL p colour (s_l01Meet p l9 m9).1).length) (flat3 (nonnullL p colour (s_l01Meet p l9 m9).1))).filter (fun zz => (s_l03Spread p colour l9 zz == s_l03Spread p colour m9 zz)) := keep3 ((nonnullL p colour (s_l01Meet p l9 m9).1).length) (flat3 (nonnullL p colour (s_l01Meet p l9 m9).1)) (fun zz => (s_l03Spread p colour l9 zz == s_l03Spread p colour m9 zz))
      rw [show s_l03Lines p colour (s_l01Meet p l9 m9).1 = ((nonnullL p colour (s_l01Meet p l9 m9).1).length, flat3 (nonnullL p colour (s_l01Meet p l9 m9).1)) from rfl]
      rw [if_neg (by simp), hkp, rows3_flat3]
      simp) (by omega) (Nat.le_refl _)

def s_BisectorsOf (p : Int) (colour : Int) (l : Int × Int × Int) (m : Int × Int × Int) : (Nat × List Int) × Int :=
  (if ((s_l03Both p colour l m) != 0) = true then ((0, []), (s_l03Both p colour l m)) else (if (!((s_l01Meet p l m).2)) = true then ((0, []), 5) else V_s_BisectorsOf_0 p colour l m [] 0 0))
theorem tot_s_BisectorsOf (p : Int) (colour : Int) (l : Int × Int × Int) (m : Int × Int × Int) : Fo_s_BisectorsOf 1000000 p colour l m = some (s_BisectorsOf p colour l m) := by
  unfold Fo_s_BisectorsOf G_s_BisectorsOf s_BisectorsOf
  (try simp only [wI_eq])
  repeat' (first | with_reducible rfl | refine chk_opt (by first | with_reducible rfl | exact Bool.true_or _ | (with_reducible exact l03Both_prB ‹_›) | (with_reducible exact l03Both_prB0 ‹_›) | exact mk_ok (by (first | (with_reducible assumption) | (with_reducible exact l03Both_prB ‹_›) | (with_reducible exact l03Both_prB0 ‹_›))) | exact and_all (by (first | (with_reducible assumption) | (with_reducible exact l03Both_prB ‹_›) | (with_reducible exact l03Both_prB0 ‹_›))) (fun _ => rfl) | exact and_all (by (first | (with_reducible assumption) | (with_reducible exact l03Both_prB ‹_›) | (with_reducible exact l03Both_prB0 ‹_›))) (fun _ => by (first | (with_reducible assumption) | (with_reducible exact l03Both_prB ‹_›) | (with_reducible exact l03Both_prB0 ‹_›))) | exact and3 (by (first | (with_reducible assumption) | (with_reducible exact l03Both_prB ‹_›) | (with_reducible exact l03Both_prB0 ‹_›))) (by (first | (with_reducible assumption) | (with_reducible exact l03Both_prB ‹_›) | (with_reducible exact l03Both_prB0 ‹_›))) (by (first | (with_reducible assumption) | (with_reducible exact l03Both_prB ‹_›) | (with_reducible exact l03Both_prB0 ‹_›))) | exact and_two (by (first | (with_reducible assumption) | (with_reducible exact l03Both_prB ‹_›) | (with_reducible exact l03Both_prB0 ‹_›))) rfl | rfl) ?_ | refine ite_opt (fun _ => ?_) (fun _ => ?_) | exact lo0_s_BisectorsOf _ _ _ _ (by (first | (with_reducible assumption) | (with_reducible exact l03Both_prB ‹_›) | (with_reducible exact l03Both_prB0 ‹_›))) (by omega) | rfl)
def run_s_BisectorsOf : List PV → Option (Bool × List TR)
  | [.v (.int .i64 p), .v (.int .i64 colour), .v (.agg ⟨[.int .i64 l0, .int .i64 l1, .int .i64 l2]⟩), .v (.agg ⟨[.int .i64 m0, .int .i64 m1, .int .i64 m2]⟩)] => some (true, enc_l29_3_i (s_BisectorsOf p colour (l0, l1, l2) (m0, m1, m2)))
  | _ => none
theorem sound_s_BisectorsOf : Sound Try.prog 31 run_s_BisectorsOf := by
  refine sound_of de_l29_3_i SO_s_BisectorsOf (by kernel_rfl) Try.func31 Try.ntmps31 rfl (by kernel_rfl) ?_
  intro W pvs avs rs hargs hrun
  unfold run_s_BisectorsOf at hrun
  split at hrun
  · simp only [Option.some.injEq, Prod.mk.injEq] at hrun
    obtain ⟨hp, rfl⟩ := hrun
    rename_i p colour l0 l1 l2 m0 m1 m2
    exact ⟨_, _, _, hargs, rfl, (eq_s_BisectorsOf _ p colour (l0, l1, l2) (m0, m1, m2)).trans (tot_s_BisectorsOf p colour (l0, l1, l2) (m0, m1, m2))⟩
  · cases hrun


end

end Go.Proofs.Ytpffcfiojjgnlaa
