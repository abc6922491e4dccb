import Derived.Test.YtjpckmpeahinkaaFa
import Derived.Test.YtjpckmpeahinkaaProg
set_option linter.unusedSimpArgs false
set_option linter.unusedVariables false
namespace Go.Proofs.Ytjpckmpeahinkaa
open Go.RowKit
def dec_a3_i : List TR → Option ((Int × Int × Int) × Int)
  | [.v (.agg ⟨[.int .i64 x0_0, .int .i64 x0_1, .int .i64 x0_2]⟩), .v (.int .i64 x1)] => some ((x0_0, x0_1, x0_2), x1)
  | _ => none
def enc_a3_i : (Int × Int × Int) × Int → List TR
  | ((x0_0, x0_1, x0_2), x1) => [.v (.agg ⟨[.int .i64 x0_0, .int .i64 x0_1, .int .i64 x0_2]⟩), .v (.int .i64 x1)]
theorem de_a3_i (rs : List TR) (x : (Int × Int × Int) × Int) (h : dec_a3_i rs = some x) : rs = enc_a3_i x := by
  unfold dec_a3_i at h
  split at h
  · simp only [Option.some.injEq] at h
    subst h
    rfl
  · cases h
def S_i_ConicPoints_c1 : Sums := ⟨tblS [(52, run_i_isConic)], tblM []⟩
theorem SO_i_ConicPoints_c1 : SumsOK Try.prog S_i_ConicPoints_c1 := ⟨tblS_ok ⟨⟨Try.call52, sound_i_isConic⟩, True.intro⟩, tblM_ok True.intro⟩
def Fo_i_ConicPoints_c1 (c0 : Int) (c1 : Int × Int × Int × Int × Int × Int) : Option (Bool) :=
  some (i_isConic c0 c1)
theorem eq_i_ConicPoints_c1 (c0 : Int) (c1 : Int × Int × Int × Int × Int × Int) : execT Try.prog S_i_ConicPoints_c1 67 6 (fun _ => 1000000) dec_b [.p [.int .i64 c0], .p [.int .i64 c1.1, .int .i64 c1.2.1, .int .i64 c1.2.2.1, .int .i64 c1.2.2.2.1, .int .i64 c1.2.2.2.2.1, .int .i64 c1.2.2.2.2.2]] = Fo_i_ConicPoints_c1 c0 c1 := by
  kernel_rfl
def i_ConicPoints_c1 (c0 : Int) (c1 : Int × Int × Int × Int × Int × Int) : Bool :=
  (i_isConic c0 c1)
theorem tot_i_ConicPoints_c1 (c0 : Int) (c1 : Int × Int × Int × Int × Int × Int) : Fo_i_ConicPoints_c1 c0 c1 = some (i_ConicPoints_c1 c0 c1) := by
  unfold Fo_i_ConicPoints_c1 i_ConicPoints_c1
  (try simp only [wI_eq])
  repeat' (first | with_reducible rfl | refine ite_opt (fun _ => ?_) (fun _ => ?_) | rfl)
def run_i_ConicPoints_c1 : List PV → Option (Bool × List TR)
  | [.p [.int .i64 c0], .p [.int .i64 c10, .int .i64 c11, .int .i64 c12, .int .i64 c13, .int .i64 c14, .int .i64 c15]] => some (true, enc_b (i_ConicPoints_c1 c0 (c10, c11, c12, c13, c14, c15)))
  | _ => none
theorem sound_i_ConicPoints_c1 : Sound Try.prog 67 run_i_ConicPoints_c1 := by
  refine sound_of de_b SO_i_ConicPoints_c1 (by kernel_rfl) Try.func67 Try.ntmps67 rfl (by kernel_rfl) ?_
  intro W pvs avs rs hargs hrun
  unfold run_i_ConicPoints_c1 at hrun
  split at hrun
  · simp only [Option.some.injEq, Prod.mk.injEq] at hrun
    obtain ⟨hp, rfl⟩ := hrun
    rename_i c0 c10 c11 c12 c13 c14 c15
    exact ⟨_, _, _, hargs, rfl, (eq_i_ConicPoints_c1 c0 (c10, c11, c12, c13, c14, c15)).trans (tot_i_ConicPoints_c1 c0 (c10, c11, c12, c13, c14, c15))⟩
  · cases hrun

def S_i_ConicPoints_c2 : Sums := ⟨tblS [(70, run_i_isOnConic)], tblM []⟩
theorem SO_i_ConicPoints_c2 : SumsOK Try.prog S_i_ConicPoints_c2 := ⟨tblS_ok ⟨⟨Try.call70, sound_i_isOnConic⟩, True.intro⟩, tblM_ok True.intro⟩
def Fo_i_ConicPoints_c2 (a : Int × Int) (c0 : Int) (c1 : Int × Int × Int × Int × Int × Int) : Option (Bool) :=
  (if (prB c0) = true then some (i_isOnConic c0 a c1) else none)
theorem eq_i_ConicPoints_c2 (a : Int × Int) (c0 : Int) (c1 : Int × Int × Int × Int × Int × Int) : execT Try.prog S_i_ConicPoints_c2 69 9 (fun _ => 1000000) dec_b [.v (.agg ⟨[.int .i64 a.1, .int .i64 a.2]⟩), .p [.int .i64 c0], .p [.int .i64 c1.1, .int .i64 c1.2.1, .int .i64 c1.2.2.1, .int .i64 c1.2.2.2.1, .int .i64 c1.2.2.2.2.1, .int .i64 c1.2.2.2.2.2]] = Fo_i_ConicPoints_c2 a c0 c1 := by
  kernel_rfl
def i_ConicPoints_c2 (a : Int × Int) (c0 : Int) (c1 : Int × Int × Int × Int × Int × Int) : Bool :=
  (i_isOnConic c0 a c1)
theorem tot_i_ConicPoints_c2 (a : Int × Int) (c0 : Int) (c1 : Int × Int × Int × Int × Int × Int) (hp : (prB c0) = true) : Fo_i_ConicPoints_c2 a c0 c1 = some (i_ConicPoints_c2 a c0 c1) := by
  try have h0 := prB_ne hp
  unfold Fo_i_ConicPoints_c2 i_ConicPoints_c2
  (try simp only [wI_eq])
  repeat' (first | with_reducible rfl | with_reducible refine chk_opt hp ?_ | with_reducible refine chk_opt h0 ?_ | refine chk_opt (and_all hp fun _ => hp) ?_ | refine chk_opt (and_all hp fun _ => rfl) ?_ | refine ite_opt (fun _ => ?_) (fun _ => ?_) | rfl)
def run_i_ConicPoints_c2 : List PV → Option (Bool × List TR)
  | [.v (.agg ⟨[.int .i64 a0, .int .i64 a1]⟩), .p [.int .i64 c0], .p [.int .i64 c10, .int .i64 c11, .int .i64 c12, .int .i64 c13, .int .i64 c14, .int .i64 c15]] => some (prB c0, enc_b (i_ConicPoints_c2 (a0, a1) c0 (c10, c11, c12, c13, c14, c15)))
  | _ => none
theorem sound_i_ConicPoints_c2 : Sound Try.prog 69 run_i_ConicPoints_c2 := by
  refine sound_of de_b SO_i_ConicPoints_c2 (by kernel_rfl) Try.func69 Try.ntmps69 rfl (by kernel_rfl) ?_
  intro W pvs avs rs hargs hrun
  unfold run_i_ConicPoints_c2 at hrun
  split at hrun
  · simp only [Option.some.injEq, Prod.mk.injEq] at hrun
    obtain ⟨hp, rfl⟩ := hrun
    rename_i a0 a1 c0 c10 c11 c12 c13 c14 c15
    exact ⟨_, _, _, hargs, rfl, (eq_i_ConicPoints_c2 (a0, a1) c0 (c10, c11, c12, c13, c14, c15)).trans (tot_i_ConicPoints_c2 (a0, a1) c0 (c10, c11, c12, c13, c14, c15) hp)⟩
  · cases hrun

def clo_a2_b (k : (Int × Int) → Bool) (h : (Int × Int) → Bool) : List Value → Option (Bool × Value)
  | [.agg ⟨[.int .i64 a0_0, .int .i64 a0_1]⟩] => some (k (a0_0, a0_1), .bool (h (a0_0, a0_1)))
  | _ => none
theorem clo_a2_b_ok (g : List Value → Option (Bool × Value)) : ∀ args r, clo_a2_b (fun a0 => okV (g [.agg ⟨[.int .i64 a0.1, .int .i64 a0.2]⟩])) (fun a0 => boolV (g [.agg ⟨[.int .i64 a0.1, .int .i64 a0.2]⟩])) args = some (true, r) → g args = some (true, r) := by
  intro args r h
  unfold clo_a2_b at h
  split at h
  · simp only [Option.some.injEq, Prod.mk.injEq] at h
    obtain ⟨h1, rfl⟩ := h
    exact okV_some h1
  · cases h
def S_i_pointsWith : Sums := ⟨tblS [(79, run_i_allPoints)], tblM []⟩
theorem SO_i_pointsWith : SumsOK Try.prog S_i_pointsWith := ⟨tblS_ok ⟨⟨Try.call79, sound_i_allPoints⟩, True.intro⟩, tblM_ok True.intro⟩
def T_i_pointsWith_0 (p : Int) (holdsk : (Int × Int) → Bool) (holdsh : (Int × Int) → Bool) (l8 : List Int) (m8 : Nat) (t12 : Int) : Tab := ⟨[.val (.int .i64 p), .fn (clo_a2_b holdsk holdsh), .junk, .junk, .val (.slice none 0 0), .row 32, .junk, .junk, .junk, .val (.int .i64 p), .row 40, .val (.int .i64 (((i_allPoints p).1 : Nat) : Int)), .val (.int .i64 t12), .junk, .junk, .junk, .junk, .junk, .junk, .junk, .junk, .junk, .junk, .junk, .junk], [(32, .row 47 2 m8 (.ints l8)), (40, .row 47 2 ((i_allPoints p).1) (.ints ((i_allPoints p).2)))]⟩
def X_i_pointsWith_0 (P : Program) (fu : Nat) (p : Int) (holdsk : (Int × Int) → Bool) (holdsh : (Int × Int) → Bool) (f : Nat) (l8 : List Int) (m8 : Nat) (t12 : Int) : Option (Nat × List Int) := loopK (exec P S_i_pointsWith 25 (fun _ => fu + 100) (Code.sub [1, 1, 0, 1, 0, 0] (bodyF P 68))) f (T_i_pointsWith_0 p holdsk holdsh l8 m8 t12) (kBlock 0 (kSeq (fun s => exec P S_i_pointsWith 25 (fun _ => fu + 100) (Code.sub [1, 1, 1] (bodyF P 68)) s (finT P 68 dec_l47_2)) (finT P 68 dec_l47_2)))
def B_i_pointsWith_0 (p : Int) (holdsk : (Int × Int) → Bool) (holdsh : (Int × Int) → Bool) (rec0 : (List Int) → Nat → Int → Option (Nat × List Int)) (l8 : List Int) (m8 : Nat) (t12 : Int) : Option (Nat × List Int) :=
  (if (decide (t12 < (((i_allPoints p).1 : Nat) : Int))) = true then (if (decide (0 ≤ t12) && decide (t12 < (((i_allPoints p).1 : Nat) : Int))) = true then (if (Nat.ble (t12.toNat * 2 + 2) (((i_allPoints p).2).length)) = true then (if (holdsk (((i_allPoints p).2).getD (t12.toNat * 2 + 0) 0, ((i_allPoints p).2).getD (t12.toNat * 2 + 1) 0)) = true then (if (holdsh (((i_allPoints p).2).getD (t12.toNat * 2 + 0) 0, ((i_allPoints p).2).getD (t12.toNat * 2 + 1) 0)) = true then (if (Nat.ble 1 1 && Nat.ble (m8 + 1) 1000000 && Nat.beq 2 (2)) = true then rec0 (l8 ++ [((i_allPoints p).2).getD (t12.toNat * 2 + 0) 0, ((i_allPoints p).2).getD (t12.toNat * 2 + 1) 0]) (m8 + 1) (wI (t12 + 1)) else none) else rec0 l8 m8 (wI (t12 + 1))) else none) else none) else none) else some (m8, l8))
def L_i_pointsWith_0 (fu : Nat) (p : Int) (holdsk : (Int × Int) → Bool) (holdsh : (Int × Int) → Bool) : Nat → (List Int) → Nat → Int → Option (Nat × List Int)
  | 0, _, _, _ => none
  | f + 1, l8, m8, t12 => B_i_pointsWith_0 p holdsk holdsh (L_i_pointsWith_0 fu p holdsk holdsh f) l8 m8 t12
theorem loop_i_pointsWith_0 (fu : Nat) (p : Int) (holdsk : (Int × Int) → Bool) (holdsh : (Int × Int) → Bool) : ∀ (f : Nat) (l8 : List Int) (m8 : Nat) (t12 : Int), X_i_pointsWith_0 Try.prog fu p holdsk holdsh f l8 m8 t12 = L_i_pointsWith_0 fu p holdsk holdsh f l8 m8 t12 := by
  intro f
  induction f with
  | zero => intros; rfl
  | succ f ih =>
    intro l8 m8 t12
    have h1 : X_i_pointsWith_0 Try.prog fu p holdsk holdsh (f + 1) l8 m8 t12 = B_i_pointsWith_0 p holdsk holdsh (X_i_pointsWith_0 Try.prog fu p holdsk holdsh f) l8 m8 t12 := by kernel_rfl
    have h2 : X_i_pointsWith_0 Try.prog fu p holdsk holdsh f = L_i_pointsWith_0 fu p holdsk holdsh f := by funext l8 m8 t12; exact ih l8 m8 t12
    rw [h1, h2]
    rfl
def G_i_pointsWith (p : Int) (holdsk : (Int × Int) → Bool) (holdsh : (Int × Int) → Bool) (lo0 : (List Int) → Nat → Int → Option (Nat × List Int)) : Option (Nat × List Int) :=
  (if (prB p) = true then lo0 [] 0 0 else none)
def Fo_i_pointsWith (fu : Nat) (p : Int) (holdsk : (Int × Int) → Bool) (holdsh : (Int × Int) → Bool) : Option (Nat × List Int) := G_i_pointsWith p holdsk holdsh (L_i_pointsWith_0 fu p holdsk holdsh (fu + 100))
theorem eqg_i_pointsWith (fu : Nat) (p : Int) (holdsk : (Int × Int) → Bool) (holdsh : (Int × Int) → Bool) : execT Try.prog S_i_pointsWith 68 25 (fun _ => fu + 100) dec_l47_2 [.v (.int .i64 p), .f (clo_a2_b holdsk holdsh)] = G_i_pointsWith p holdsk holdsh (L_i_pointsWith_0 fu p holdsk holdsh (fu + 100)) := by
  have h1 : execT Try.prog S_i_pointsWith 68 25 (fun _ => fu + 100) dec_l47_2 [.v (.int .i64 p), .f (clo_a2_b holdsk holdsh)] = G_i_pointsWith p holdsk holdsh (X_i_pointsWith_0 Try.prog fu p holdsk holdsh (fu + 100)) := by kernel_rfl
  have c0 : X_i_pointsWith_0 Try.prog fu p holdsk holdsh (fu + 100) = L_i_pointsWith_0 fu p holdsk holdsh (fu + 100) := by funext l8 m8 t12; exact loop_i_pointsWith_0 fu p holdsk holdsh (fu + 100) l8 m8 t12
  rw [h1, c0]
theorem eq_i_pointsWith (fu : Nat) (p : Int) (holdsk : (Int × Int) → Bool) (holdsh : (Int × Int) → Bool) : execT Try.prog S_i_pointsWith 68 25 (fun _ => fu + 100) dec_l47_2 [.v (.int .i64 p), .f (clo_a2_b holdsk holdsh)] = Fo_i_pointsWith fu p holdsk holdsh := eqg_i_pointsWith fu p holdsk holdsh
def i_pointsWith (p : Int) (holdsk holdsh : P2 → Bool) : Nat × List Int := (((pts p).filter holdsh).length, flat2 ((pts p).filter holdsh))
theorem lo0_i_pointsWith (p : Int) (holdsk holdsh : P2 → Bool) (hp : prB p = true) (hall : ∀ k, k < (pts p).length → holdsk (R2 (flat2 (pts p)) k) = true) {F : Nat} (hF : 993 < F) : L_i_pointsWith_0 1000000 p holdsk holdsh F [] 0 0 = some (((pts p).filter fun zz => holdsh zz).length, flat2 ((pts p).filter fun zz => holdsh zz)) := by
  have hlen : (pts p).length ≤ 961 := pts_len hp
  exact gather (flat := flat2) flat2_app rfl (L := fun f l m i => L_i_pointsWith_0 1000000 p holdsk holdsh f l m i) (n := (pts p).length) (b := 1) (M := 0) (fun k => if (holdsh (R2 (flat2 (pts p)) k)) = true then [R2 (flat2 (pts p)) k] else []) (K := (some (((pts p).filter fun zz => holdsh zz).length, flat2 ((pts p).filter fun zz => holdsh zz)))) (l := []) (m := 0) (F := F) (by intro k hk; first | (split <;> simp) | simp_all)
    (fun f k l m hk hm => by
      show B_i_pointsWith_0 p holdsk holdsh (L_i_pointsWith_0 1000000 p holdsk holdsh f) l m (k : Int) = _
      unfold B_i_pointsWith_0
      have x0 : holdsk ((flat2 (pts p)).getD (k * 2 + 0) 0, (flat2 (pts p)).getD (k * 2 + 1) 0) = true := hall k hk
      have e0 : decide (0 ≤ (k : Int)) = true := by simp
      have e1 := cnd hk
      have e3 : (k : Int).toNat = k := Int.toNat_natCast k
      have e4 := row2_ok (flat2_len _) hk
      have e5 : Nat.ble 1 1 = true := rfl
      have e6 : Nat.ble (m + 1) 1000000 = true := leb (by omega)
      rw [show i_allPoints p = ((pts p).length, flat2 (pts p)) from rfl]
      simp only [e0, e1, e3, e4, e5, e6, beq22, x0, Bool.and_true, Bool.true_and, if_true, wrap_add1 hk (by omega)]
      have hq0 : ((holdsh ((flat2 (pts p)).getD (k * 2 + 0) 0, (flat2 (pts p)).getD (k * 2 + 1) 0))) = ((holdsh (R2 (flat2 (pts p)) k))) := rfl
      try rw [hq0]
      generalize ((holdsh (R2 (flat2 (pts p)) k))) = c0
      cases c0 <;> first
        | rfl
        | (simp only [Bool.false_eq_true, Bool.false_and, Bool.and_false, Bool.true_and, if_false, if_true]
           rw [show flat2 [] = [] from rfl, List.append_nil]
           rfl))
    (fun f hm => by
      show B_i_pointsWith_0 p holdsk holdsh (L_i_pointsWith_0 1000000 p holdsk holdsh f) ([] ++ flat2 ((List.range (pts p).length).flatMap (fun k => if (holdsh (R2 (flat2 (pts p)) k)) = true then [R2 (flat2 (pts p)) k] else []))) (0 + ((List.range (pts p).length).flatMap (fun k => if (holdsh (R2 (flat2 (pts p)) k)) = true then [R2 (flat2 (pts p)) k] else [])).length) (((pts p).length : Nat) : Int) = _
      unfold B_i_pointsWith_0
      have hkp : ((List.range ((pts p).length)).flatMap fun k => if (holdsh (R2 (flat2 (pts p)) k)) = true then [R2 (flat2 (pts p)) k] else []) = (rows2 ((pts p).length) (flat2 (pts p))).filter (fun zz => (holdsh zz)) := keep2 ((pts p).length) (flat2 (pts p)) (fun zz => (holdsh zz))
      rw [show i_allPoints p = ((pts p).length, flat2 (pts p)) from rfl]
      rw [if_neg (by simp), hkp, rows2_flat2]
      simp) (by omega) (Nat.le_refl _)

theorem tot_i_pointsWith (p : Int) (holdsk : (Int × Int) → Bool) (holdsh : (Int × Int) → Bool) (hp : (prB p && (pts p).all holdsk) = true) : Fo_i_pointsWith 1000000 p holdsk holdsh = some (i_pointsWith p holdsk holdsh) := by
  simp only [Bool.and_eq_true] at hp
  obtain ⟨hp, hall⟩ := hp
  unfold Fo_i_pointsWith G_i_pointsWith
  rw [if_pos hp]
  refine lo0_i_pointsWith p holdsk holdsh hp ?_ (by omega)
  intro k hk
  rw [R2_flat, List.getD_eq_getElem?_getD, List.getElem?_eq_getElem hk]
  exact List.all_eq_true.1 hall _ (List.getElem_mem hk)
def run_i_pointsWith : List PV → Option (Bool × List TR)
  | [.v (.int .i64 p), .f holdsg] => some (prB p && (pts p).all (fun a0 => okV (holdsg [.agg ⟨[.int .i64 a0.1, .int .i64 a0.2]⟩])), enc_l47_2 (i_pointsWith p (fun a0 => okV (holdsg [.agg ⟨[.int .i64 a0.1, .int .i64 a0.2]⟩])) (fun a0 => boolV (holdsg [.agg ⟨[.int .i64 a0.1, .int .i64 a0.2]⟩]))))
  | _ => none
theorem sound_i_pointsWith : Sound Try.prog 68 run_i_pointsWith := by
  refine sound_of de_l47_2 SO_i_pointsWith (by kernel_rfl) Try.func68 Try.ntmps68 rfl (by kernel_rfl) ?_
  intro W pvs avs rs hargs hrun
  unfold run_i_pointsWith at hrun
  split at hrun
  · simp only [Option.some.injEq, Prod.mk.injEq] at hrun
    obtain ⟨hp, rfl⟩ := hrun
    rename_i p holdsg
    have hargs := All2.replace (l1 := [_]) hargs (y := .f (clo_a2_b _ _)) fun b hb => fn_weaken hb (clo_a2_b_ok _)
    exact ⟨_, _, _, hargs, rfl, (eq_i_pointsWith _ p (fun a0 => okV (holdsg [.agg ⟨[.int .i64 a0.1, .int .i64 a0.2]⟩])) (fun a0 => boolV (holdsg [.agg ⟨[.int .i64 a0.1, .int .i64 a0.2]⟩]))).trans (tot_i_pointsWith p (fun a0 => okV (holdsg [.agg ⟨[.int .i64 a0.1, .int .i64 a0.2]⟩])) (fun a0 => boolV (holdsg [.agg ⟨[.int .i64 a0.1, .int .i64 a0.2]⟩])) hp)⟩
  · cases hrun

def dec_l47_2_i : List TR → Option ((Nat × List Int) × Int)
  | [.s 47 2 n0 (.ints x0), .v (.int .i64 x1)] => some ((n0, x0), x1)
  | _ => none
def enc_l47_2_i : (Nat × List Int) × Int → List TR
  | ((n0, x0), x1) => [.s 47 2 n0 (.ints x0), .v (.int .i64 x1)]
theorem de_l47_2_i (rs : List TR) (x : (Nat × List Int) × Int) (h : dec_l47_2_i rs = some x) : rs = enc_l47_2_i x := by
  unfold dec_l47_2_i at h
  split at h
  · simp only [Option.some.injEq] at h
    subst h
    rfl
  · cases h
def S_i_ConicPoints : Sums := ⟨tblS [(55, run_i_asked), (67, run_i_ConicPoints_c1), (68, run_i_pointsWith), (69, run_i_ConicPoints_c2)], tblM []⟩
theorem SO_i_ConicPoints : SumsOK Try.prog S_i_ConicPoints := ⟨tblS_ok ⟨⟨Try.call55, sound_i_asked⟩, ⟨Try.call67, sound_i_ConicPoints_c1⟩, ⟨Try.call68, sound_i_pointsWith⟩, ⟨Try.call69, sound_i_ConicPoints_c2⟩, True.intro⟩, tblM_ok True.intro⟩
def Fo_i_ConicPoints (p : Int) (k : Int × Int × Int × Int × Int × Int) : Option ((Nat × List Int) × Int) :=
  (if ((true) || !(i_IsField p)) = true then (if ((i_asked p (true) (i_ConicPoints_c1 p k)) != 0) = true then some ((0, []), (i_asked p (true) (i_ConicPoints_c1 p k))) else (if (prB p && (pts p).all (fun a0 => prB p)) = true then some (((i_pointsWith p (fun a0 => prB p) (fun a0 => i_ConicPoints_c2 a0 p k)).1, (i_pointsWith p (fun a0 => prB p) (fun a0 => i_ConicPoints_c2 a0 p k)).2), 0) else none)) else none)
theorem eq_i_ConicPoints (p : Int) (k : Int × Int × Int × Int × Int × Int) : execT Try.prog S_i_ConicPoints 27 16 (fun _ => 1000000) dec_l47_2_i [.v (.int .i64 p), .v (.agg ⟨[.int .i64 k.1, .int .i64 k.2.1, .int .i64 k.2.2.1, .int .i64 k.2.2.2.1, .int .i64 k.2.2.2.2.1, .int .i64 k.2.2.2.2.2]⟩)] = Fo_i_ConicPoints p k := by
  kernel_rfl
def i_ConicPoints (p : Int) (k : Int × Int × Int × Int × Int × Int) : (Nat × List Int) × Int :=
  (if ((i_asked p (true) (i_ConicPoints_c1 p k)) != 0) = true then ((0, []), (i_asked p (true) (i_ConicPoints_c1 p k))) else (((i_pointsWith p (fun a0 => prB p) (fun a0 => i_ConicPoints_c2 a0 p k)).1, (i_pointsWith p (fun a0 => prB p) (fun a0 => i_ConicPoints_c2 a0 p k)).2), 0))
theorem tot_i_ConicPoints (p : Int) (k : Int × Int × Int × Int × Int × Int) : Fo_i_ConicPoints p k = some (i_ConicPoints p k) := by
  unfold Fo_i_ConicPoints i_ConicPoints
  (try simp only [wI_eq])
  repeat' (first | with_reducible rfl | refine chk_opt (by first | with_reducible rfl | exact Bool.true_or _ | (with_reducible exact asked_prB ‹_›) | (with_reducible exact l09Code_prB ‹_›) | (with_reducible exact l01Code_prB ‹_›) | (with_reducible exact l01Numbers_prB ‹_›) | (with_reducible exact l01Lines_prB ‹_›) | (with_reducible exact asked_prB0 ‹_›) | (with_reducible exact l09Code_prB0 ‹_›) | (with_reducible exact l01Code_prB0 ‹_›) | (with_reducible exact l01Numbers_prB0 ‹_›) | (with_reducible exact l01Lines_prB0 ‹_›) | (with_reducible exact field_prB ‹_›) | (with_reducible exact field_prB0 ‹_›) | (with_reducible exact l08Code_prB ‹_›) | (with_reducible exact l08Code_prB0 ‹_›) | (with_reducible exact l08Given_prB ‹_›) | (with_reducible exact l08Given_prB0 ‹_›) | (with_reducible exact l02Code_prB ‹_›) | (with_reducible exact l02Code_prB0 ‹_›) | (with_reducible exact l04Code_prB ‹_›) | (with_reducible exact l04Code_prB0 ‹_›) | (with_reducible exact triangle_prB ‹_›) | (with_reducible exact triangle_prB0 ‹_›) | (with_reducible exact l01Both_prB ‹_›) | (with_reducible exact l01Both_prB0 ‹_›) | (with_reducible exact sfield_prB0 ‹_›) | exact mk_ok (by (first | (with_reducible assumption) | (with_reducible exact asked_prB ‹_›) | (with_reducible exact l09Code_prB ‹_›) | (with_reducible exact l01Code_prB ‹_›) | (with_reducible exact l01Numbers_prB ‹_›) | (with_reducible exact l01Lines_prB ‹_›) | (with_reducible exact asked_prB0 ‹_›) | (with_reducible exact l09Code_prB0 ‹_›) | (with_reducible exact l01Code_prB0 ‹_›) | (with_reducible exact l01Numbers_prB0 ‹_›) | (with_reducible exact l01Lines_prB0 ‹_›) | (with_reducible exact field_prB ‹_›) | (with_reducible exact field_prB0 ‹_›) | (with_reducible exact l08Code_prB ‹_›) | (with_reducible exact l08Code_prB0 ‹_›) | (with_reducible exact l08Given_prB ‹_›) | (with_reducible exact l08Given_prB0 ‹_›) | (with_reducible exact l02Code_prB ‹_›) | (with_reducible exact l02Code_prB0 ‹_›) | (with_reducible exact l04Code_prB ‹_›) | (with_reducible exact l04Code_prB0 ‹_›) | (with_reducible exact triangle_prB ‹_›) | (with_reducible exact triangle_prB0 ‹_›) | (with_reducible exact l01Both_prB ‹_›) | (with_reducible exact l01Both_prB0 ‹_›) | (with_reducible exact sfield_prB0 ‹_›))) | exact and_all (by (first | (with_reducible assumption) | (with_reducible exact asked_prB ‹_›) | (with_reducible exact l09Code_prB ‹_›) | (with_reducible exact l01Code_prB ‹_›) | (with_reducible exact l01Numbers_prB ‹_›) | (with_reducible exact l01Lines_prB ‹_›) | (with_reducible exact asked_prB0 ‹_›) | (with_reducible exact l09Code_prB0 ‹_›) | (with_reducible exact l01Code_prB0 ‹_›) | (with_reducible exact l01Numbers_prB0 ‹_›) | (with_reducible exact l01Lines_prB0 ‹_›) | (with_reducible exact field_prB ‹_›) | (with_reducible exact field_prB0 ‹_›) | (with_reducible exact l08Code_prB ‹_›) | (with_reducible exact l08Code_prB0 ‹_›) | (with_reducible exact l08Given_prB ‹_›) | (with_reducible exact l08Given_prB0 ‹_›) | (with_reducible exact l02Code_prB ‹_›) | (with_reducible exact l02Code_prB0 ‹_›) | (with_reducible exact l04Code_prB ‹_›) | (with_reducible exact l04Code_prB0 ‹_›) | (with_reducible exact triangle_prB ‹_›) | (with_reducible exact triangle_prB0 ‹_›) | (with_reducible exact l01Both_prB ‹_›) | (with_reducible exact l01Both_prB0 ‹_›) | (with_reducible exact sfield_prB0 ‹_›))) (fun _ => rfl) | exact and_all (by (first | (with_reducible assumption) | (with_reducible exact asked_prB ‹_›) | (with_reducible exact l09Code_prB ‹_›) | (with_reducible exact l01Code_prB ‹_›) | (with_reducible exact l01Numbers_prB ‹_›) | (with_reducible exact l01Lines_prB ‹_›) | (with_reducible exact asked_prB0 ‹_›) | (with_reducible exact l09Code_prB0 ‹_›) | (with_reducible exact l01Code_prB0 ‹_›) | (with_reducible exact l01Numbers_prB0 ‹_›) | (with_reducible exact l01Lines_prB0 ‹_›) | (with_reducible exact field_prB ‹_›) | (with_reducible exact field_prB0 ‹_›) | (with_reducible exact l08Code_prB ‹_›) | (with_reducible exact l08Code_prB0 ‹_›) | (with_reducible exact l08Given_prB ‹_›) | (with_reducible exact l08Given_prB0 ‹_›) | (with_reducible exact l02Code_prB ‹_›) | (with_reducible exact l02Code_prB0 ‹_›) | (with_reducible exact l04Code_prB ‹_›) | (with_reducible exact l04Code_prB0 ‹_›) | (with_reducible exact triangle_prB ‹_›) | (with_reducible exact triangle_prB0 ‹_›) | (with_reducible exact l01Both_prB ‹_›) | (with_reducible exact l01Both_prB0 ‹_›) | (with_reducible exact sfield_prB0 ‹_›))) (fun _ => by (first | (with_reducible assumption) | (with_reducible exact asked_prB ‹_›) | (with_reducible exact l09Code_prB ‹_›) | (with_reducible exact l01Code_prB ‹_›) | (with_reducible exact l01Numbers_prB ‹_›) | (with_reducible exact l01Lines_prB ‹_›) | (with_reducible exact asked_prB0 ‹_›) | (with_reducible exact l09Code_prB0 ‹_›) | (with_reducible exact l01Code_prB0 ‹_›) | (with_reducible exact l01Numbers_prB0 ‹_›) | (with_reducible exact l01Lines_prB0 ‹_›) | (with_reducible exact field_prB ‹_›) | (with_reducible exact field_prB0 ‹_›) | (with_reducible exact l08Code_prB ‹_›) | (with_reducible exact l08Code_prB0 ‹_›) | (with_reducible exact l08Given_prB ‹_›) | (with_reducible exact l08Given_prB0 ‹_›) | (with_reducible exact l02Code_prB ‹_›) | (with_reducible exact l02Code_prB0 ‹_›) | (with_reducible exact l04Code_prB ‹_›) | (with_reducible exact l04Code_prB0 ‹_›) | (with_reducible exact triangle_prB ‹_›) | (with_reducible exact triangle_prB0 ‹_›) | (with_reducible exact l01Both_prB ‹_›) | (with_reducible exact l01Both_prB0 ‹_›) | (with_reducible exact sfield_prB0 ‹_›))) | exact and3 (by (first | (with_reducible assumption) | (with_reducible exact asked_prB ‹_›) | (with_reducible exact l09Code_prB ‹_›) | (with_reducible exact l01Code_prB ‹_›) | (with_reducible exact l01Numbers_prB ‹_›) | (with_reducible exact l01Lines_prB ‹_›) | (with_reducible exact asked_prB0 ‹_›) | (with_reducible exact l09Code_prB0 ‹_›) | (with_reducible exact l01Code_prB0 ‹_›) | (with_reducible exact l01Numbers_prB0 ‹_›) | (with_reducible exact l01Lines_prB0 ‹_›) | (with_reducible exact field_prB ‹_›) | (with_reducible exact field_prB0 ‹_›) | (with_reducible exact l08Code_prB ‹_›) | (with_reducible exact l08Code_prB0 ‹_›) | (with_reducible exact l08Given_prB ‹_›) | (with_reducible exact l08Given_prB0 ‹_›) | (with_reducible exact l02Code_prB ‹_›) | (with_reducible exact l02Code_prB0 ‹_›) | (with_reducible exact l04Code_prB ‹_›) | (with_reducible exact l04Code_prB0 ‹_›) | (with_reducible exact triangle_prB ‹_›) | (with_reducible exact triangle_prB0 ‹_›) | (with_reducible exact l01Both_prB ‹_›) | (with_reducible exact l01Both_prB0 ‹_›) | (with_reducible exact sfield_prB0 ‹_›))) (by (first | (with_reducible assumption) | (with_reducible exact asked_prB ‹_›) | (with_reducible exact l09Code_prB ‹_›) | (with_reducible exact l01Code_prB ‹_›) | (with_reducible exact l01Numbers_prB ‹_›) | (with_reducible exact l01Lines_prB ‹_›) | (with_reducible exact asked_prB0 ‹_›) | (with_reducible exact l09Code_prB0 ‹_›) | (with_reducible exact l01Code_prB0 ‹_›) | (with_reducible exact l01Numbers_prB0 ‹_›) | (with_reducible exact l01Lines_prB0 ‹_›) | (with_reducible exact field_prB ‹_›) | (with_reducible exact field_prB0 ‹_›) | (with_reducible exact l08Code_prB ‹_›) | (with_reducible exact l08Code_prB0 ‹_›) | (with_reducible exact l08Given_prB ‹_›) | (with_reducible exact l08Given_prB0 ‹_›) | (with_reducible exact l02Code_prB ‹_›) | (with_reducible exact l02Code_prB0 ‹_›) | (with_reducible exact l04Code_prB ‹_›) | (with_reducible exact l04Code_prB0 ‹_›) | (with_reducible exact triangle_prB ‹_›) | (with_reducible exact triangle_prB0 ‹_›) | (with_reducible exact l01Both_prB ‹_›) | (with_reducible exact l01Both_prB0 ‹_›) | (with_reducible exact sfield_prB0 ‹_›))) (by (first | (with_reducible assumption) | (with_reducible exact asked_prB ‹_›) | (with_reducible exact l09Code_prB ‹_›) | (with_reducible exact l01Code_prB ‹_›) | (with_reducible exact l01Numbers_prB ‹_›) | (with_reducible exact l01Lines_prB ‹_›) | (with_reducible exact asked_prB0 ‹_›) | (with_reducible exact l09Code_prB0 ‹_›) | (with_reducible exact l01Code_prB0 ‹_›) | (with_reducible exact l01Numbers_prB0 ‹_›) | (with_reducible exact l01Lines_prB0 ‹_›) | (with_reducible exact field_prB ‹_›) | (with_reducible exact field_prB0 ‹_›) | (with_reducible exact l08Code_prB ‹_›) | (with_reducible exact l08Code_prB0 ‹_›) | (with_reducible exact l08Given_prB ‹_›) | (with_reducible exact l08Given_prB0 ‹_›) | (with_reducible exact l02Code_prB ‹_›) | (with_reducible exact l02Code_prB0 ‹_›) | (with_reducible exact l04Code_prB ‹_›) | (with_reducible exact l04Code_prB0 ‹_›) | (with_reducible exact triangle_prB ‹_›) | (with_reducible exact triangle_prB0 ‹_›) | (with_reducible exact l01Both_prB ‹_›) | (with_reducible exact l01Both_prB0 ‹_›) | (with_reducible exact sfield_prB0 ‹_›))) | rfl) ?_ | refine ite_opt (fun _ => ?_) (fun _ => ?_) | rfl)
def run_i_ConicPoints : List PV → Option (Bool × List TR)
  | [.v (.int .i64 p), .v (.agg ⟨[.int .i64 k0, .int .i64 k1, .int .i64 k2, .int .i64 k3, .int .i64 k4, .int .i64 k5]⟩)] => some (true, enc_l47_2_i (i_ConicPoints p (k0, k1, k2, k3, k4, k5)))
  | _ => none
theorem sound_i_ConicPoints : Sound Try.prog 27 run_i_ConicPoints := by
  refine sound_of de_l47_2_i SO_i_ConicPoints (by kernel_rfl) Try.func27 Try.ntmps27 rfl (by kernel_rfl) ?_
  intro W pvs avs rs hargs hrun
  unfold run_i_ConicPoints at hrun
  split at hrun
  · simp only [Option.some.injEq, Prod.mk.injEq] at hrun
    obtain ⟨hp, rfl⟩ := hrun
    rename_i p k0 k1 k2 k3 k4 k5
    exact ⟨_, _, _, hargs, rfl, (eq_i_ConicPoints p (k0, k1, k2, k3, k4, k5)).trans (tot_i_ConicPoints p (k0, k1, k2, k3, k4, k5))⟩
  · cases hrun

def S_s_l08Points : Sums := ⟨tblS [(81, run_s_l08Value)], tblM []⟩
theorem SO_s_l08Points : SumsOK Try.prog S_s_l08Points := ⟨tblS_ok ⟨⟨Try.call81, sound_s_l08Value⟩, True.intro⟩, tblM_ok True.intro⟩
def T_s_l08Points_2 (p : Int) (k : Int × Int × Int × Int × Int × Int) (l9 : List Int) (m9 : Nat) (x : Int) : Tab := ⟨[.val (.int .i64 p), .val (.agg ⟨[.int .i64 k.1, .int .i64 k.2.1, .int .i64 k.2.2.1, .int .i64 k.2.2.2.1, .int .i64 k.2.2.2.2.1, .int .i64 k.2.2.2.2.2]⟩), .junk, .ptr 12 0, .val (.slice none 0 0), .row 36, .val (.int .i64 x), .junk, .junk, .junk, .junk, .junk, .junk, .junk, .junk, .junk, .junk, .junk, .junk, .junk, .junk, .junk, .junk, .junk, .junk, .junk, .junk, .junk, .junk, .junk, .junk, .junk, .junk], [(12, .box 25 [.val (.int .i64 k.1), .val (.int .i64 k.2.1), .val (.int .i64 k.2.2.1), .val (.int .i64 k.2.2.2.1), .val (.int .i64 k.2.2.2.2.1), .val (.int .i64 k.2.2.2.2.2)]), (36, .row 47 2 m9 (.ints l9))]⟩
def T_s_l08Points_3 (p : Int) (k : Int × Int × Int × Int × Int × Int) (l9 : List Int) (m9 : Nat) (x : Int) (l9' : List Int) (m9' : Nat) (y : Int) : Tab := ⟨[.val (.int .i64 p), .val (.agg ⟨[.int .i64 k.1, .int .i64 k.2.1, .int .i64 k.2.2.1, .int .i64 k.2.2.2.1, .int .i64 k.2.2.2.2.1, .int .i64 k.2.2.2.2.2]⟩), .junk, .ptr 12 0, .val (.slice none 0 0), .row 36, .val (.int .i64 x), .val (.int .i64 y), .junk, .junk, .val (.int .i64 x), .val (.int .i64 p), .val (.bool (decide (x < p))), .junk, .junk, .junk, .junk, .junk, .junk, .junk, .junk, .junk, .junk, .junk, .junk, .junk, .junk, .junk, .junk, .junk, .junk, .junk, .junk], [(12, .box 25 [.val (.int .i64 k.1), .val (.int .i64 k.2.1), .val (.int .i64 k.2.2.1), .val (.int .i64 k.2.2.2.1), .val (.int .i64 k.2.2.2.2.1), .val (.int .i64 k.2.2.2.2.2)]), (36, .row 47 2 m9' (.ints l9'))]⟩
def X_s_l08Points_3 (P : Program) (fu : Nat) (p : Int) (k : Int × Int × Int × Int × Int × Int) (l9 : List Int) (m9 : Nat) (x : Int) (rc2 : Tab → Option (Nat × List Int)) (f : Nat) (l9' : List Int) (m9' : Nat) (y : Int) : Option (Nat × List Int) := loopK (exec P S_s_l08Points 33 (fuelOf fu []) (Code.sub [1, 1, 0, 1, 0, 0, 1, 0, 0, 1, 0, 0] (bodyF P 66))) f (T_s_l08Points_3 p k l9 m9 x l9' m9' y) (kBlock 2 (kBlock 1 (kSeq (fun s => exec P S_s_l08Points 33 (fuelOf fu []) (Code.sub [1, 1, 0, 1, 0, 0, 1, 1] (bodyF P 66)) s (kLoop rc2 (T_s_l08Points_2 p k l9 m9 x) (kBlock 0 (kSeq (fun s => exec P S_s_l08Points 33 (fuelOf fu []) (Code.sub [1, 1, 1] (bodyF P 66)) s (finT P 66 dec_l47_2)) (finT P 66 dec_l47_2))))) (kLoop rc2 (T_s_l08Points_2 p k l9 m9 x) (kBlock 0 (kSeq (fun s => exec P S_s_l08Points 33 (fuelOf fu []) (Code.sub [1, 1, 1] (bodyF P 66)) s (finT P 66 dec_l47_2)) (finT P 66 dec_l47_2)))))))
def B_s_l08Points_3 (p : Int) (k : Int × Int × Int × Int × Int × Int) (l9 : List Int) (m9 : Nat) (x : Int) (rec2 : (List Int) → Nat → Int → Option (Nat × List Int)) (rec3 : (List Int) → Nat → Int → Option (Nat × List Int)) (l9' : List Int) (m9' : Nat) (y : Int) : Option (Nat × List Int) :=
  (if (decide (y < p)) = true then (if (prB p) = true then (if ((s_l08Value p k (x, y)) == 0) = true then (if (Nat.ble 1 1 && Nat.ble (m9' + 1) 1000000 && Nat.beq 2 (2)) = true then rec3 (l9' ++ [x, y]) (m9' + 1) (wI (y + 1)) else none) else rec3 l9' m9' (wI (y + 1))) else none) else rec2 l9' m9' (wI (x + 1)))
def L_s_l08Points_3 (fu : Nat) (p : Int) (k : Int × Int × Int × Int × Int × Int) (l9 : List Int) (m9 : Nat) (x : Int) (rec2 : (List Int) → Nat → Int → Option (Nat × List Int)) : Nat → (List Int) → Nat → Int → Option (Nat × List Int)
  | 0, _, _, _ => none
  | f + 1, l9', m9', y => B_s_l08Points_3 p k l9 m9 x rec2 (L_s_l08Points_3 fu p k l9 m9 x rec2 f) l9' m9' y
theorem loop_s_l08Points_3 (fu : Nat) (p : Int) (k : Int × Int × Int × Int × Int × Int) (l9 : List Int) (m9 : Nat) (x : Int) (rc2 : Tab → Option (Nat × List Int)) : ∀ (f : Nat) (l9' : List Int) (m9' : Nat) (y : Int), X_s_l08Points_3 Try.prog fu p k l9 m9 x rc2 f l9' m9' y = L_s_l08Points_3 fu p k l9 m9 x (fun l9 m9 x => rc2 (T_s_l08Points_2 p k l9 m9 x)) f l9' m9' y := by
  intro f
  induction f with
  | zero => intros; rfl
  | succ f ih =>
    intro l9' m9' y
    have h1 : X_s_l08Points_3 Try.prog fu p k l9 m9 x rc2 (f + 1) l9' m9' y = B_s_l08Points_3 p k l9 m9 x (fun l9 m9 x => rc2 (T_s_l08Points_2 p k l9 m9 x)) (X_s_l08Points_3 Try.prog fu p k l9 m9 x rc2 f) l9' m9' y := by kernel_rfl
    have h2 : X_s_l08Points_3 Try.prog fu p k l9 m9 x rc2 f = L_s_l08Points_3 fu p k l9 m9 x (fun l9 m9 x => rc2 (T_s_l08Points_2 p k l9 m9 x)) f := by funext l9' m9' y; exact ih l9' m9' y
    rw [h1, h2]
    rfl
def X_s_l08Points_2 (P : Program) (fu : Nat) (p : Int) (k : Int × Int × Int × Int × Int × Int) (f : Nat) (l9 : List Int) (m9 : Nat) (x : Int) : Option (Nat × List Int) := loopK (exec P S_s_l08Points 33 (fuelOf fu []) (Code.sub [1, 1, 0, 1, 0, 0] (bodyF P 66))) f (T_s_l08Points_2 p k l9 m9 x) (kBlock 0 (kSeq (fun s => exec P S_s_l08Points 33 (fuelOf fu []) (Code.sub [1, 1, 1] (bodyF P 66)) s (finT P 66 dec_l47_2)) (finT P 66 dec_l47_2)))
def B_s_l08Points_2 (p : Int) (k : Int × Int × Int × Int × Int × Int) (lo3 : (List Int) → Nat → Int → Option (Nat × List Int)) (rec2 : (List Int) → Nat → Int → Option (Nat × List Int)) (l9 : List Int) (m9 : Nat) (x : Int) : Option (Nat × List Int) :=
  (if (decide (x < p)) = true then lo3 l9 m9 0 else some (m9, l9))
def L_s_l08Points_2 (fu : Nat) (p : Int) (k : Int × Int × Int × Int × Int × Int) : Nat → (List Int) → Nat → Int → Option (Nat × List Int)
  | 0, _, _, _ => none
  | f + 1, l9, m9, x => B_s_l08Points_2 p k (L_s_l08Points_3 fu p k l9 m9 x (L_s_l08Points_2 fu p k f) fu) (L_s_l08Points_2 fu p k f) l9 m9 x
theorem loop_s_l08Points_2 (fu : Nat) (p : Int) (k : Int × Int × Int × Int × Int × Int) : ∀ (f : Nat) (l9 : List Int) (m9 : Nat) (x : Int), X_s_l08Points_2 Try.prog fu p k f l9 m9 x = L_s_l08Points_2 fu p k f l9 m9 x := by
  intro f
  induction f with
  | zero => intros; rfl
  | succ f ih =>
    intro l9 m9 x
    have h1 : X_s_l08Points_2 Try.prog fu p k (f + 1) l9 m9 x = B_s_l08Points_2 p k (X_s_l08Points_3 Try.prog fu p k l9 m9 x (fun t => loopK (exec Try.prog S_s_l08Points 33 (fuelOf fu []) (Code.sub [1, 1, 0, 1, 0, 0] (bodyF Try.prog 66))) f t (kBlock 0 (kSeq (fun s => exec Try.prog S_s_l08Points 33 (fuelOf fu []) (Code.sub [1, 1, 1] (bodyF Try.prog 66)) s (finT Try.prog 66 dec_l47_2)) (finT Try.prog 66 dec_l47_2)))) fu) (X_s_l08Points_2 Try.prog fu p k f) l9 m9 x := by kernel_rfl
    have h2 : X_s_l08Points_2 Try.prog fu p k f = L_s_l08Points_2 fu p k f := by funext l9 m9 x; exact ih l9 m9 x
    have c3 : (X_s_l08Points_3 Try.prog fu p k l9 m9 x (fun t => loopK (exec Try.prog S_s_l08Points 33 (fuelOf fu []) (Code.sub [1, 1, 0, 1, 0, 0] (bodyF Try.prog 66))) f t (kBlock 0 (kSeq (fun s => exec Try.prog S_s_l08Points 33 (fuelOf fu []) (Code.sub [1, 1, 1] (bodyF Try.prog 66)) s (finT Try.prog 66 dec_l47_2)) (finT Try.prog 66 dec_l47_2)))) fu) = L_s_l08Points_3 fu p k l9 m9 x (X_s_l08Points_2 Try.prog fu p k f) fu := by funext l9' m9' y; exact loop_s_l08Points_3 fu p k l9 m9 x (fun t => loopK (exec Try.prog S_s_l08Points 33 (fuelOf fu []) (Code.sub [1, 1, 0, 1, 0, 0] (bodyF Try.prog 66))) f t (kBlock 0 (kSeq (fun s => exec Try.prog S_s_l08Points 33 (fuelOf fu []) (Code.sub [1, 1, 1] (bodyF Try.prog 66)) s (finT Try.prog 66 dec_l47_2)) (finT Try.prog 66 dec_l47_2)))) fu l9' m9' y
    rw [h1, c3, h2]
    rfl
def G_s_l08Points (p : Int) (k : Int × Int × Int × Int × Int × Int) (lo2 : (List Int) → Nat → Int → Option (Nat × List Int)) : Option (Nat × List Int) :=
  lo2 [] 0 0
def Fo_s_l08Points (fu : Nat) (p : Int) (k : Int × Int × Int × Int × Int × Int) : Option (Nat × List Int) := G_s_l08Points p k (L_s_l08Points_2 fu p k fu)
theorem eqg_s_l08Points (fu : Nat) (p : Int) (k : Int × Int × Int × Int × Int × Int) : execT Try.prog S_s_l08Points 66 33 (fuelOf fu []) dec_l47_2 [.v (.int .i64 p), .v (.agg ⟨[.int .i64 k.1, .int .i64 k.2.1, .int .i64 k.2.2.1, .int .i64 k.2.2.2.1, .int .i64 k.2.2.2.2.1, .int .i64 k.2.2.2.2.2]⟩)] = G_s_l08Points p k (L_s_l08Points_2 fu p k fu) := by
  have h1 : execT Try.prog S_s_l08Points 66 33 (fuelOf fu []) dec_l47_2 [.v (.int .i64 p), .v (.agg ⟨[.int .i64 k.1, .int .i64 k.2.1, .int .i64 k.2.2.1, .int .i64 k.2.2.2.1, .int .i64 k.2.2.2.2.1, .int .i64 k.2.2.2.2.2]⟩)] = G_s_l08Points p k (X_s_l08Points_2 Try.prog fu p k fu) := by kernel_rfl
  have c2 : X_s_l08Points_2 Try.prog fu p k fu = L_s_l08Points_2 fu p k fu := by funext l9 m9 x; exact loop_s_l08Points_2 fu p k fu l9 m9 x
  rw [h1, c2]
theorem eq_s_l08Points (fu : Nat) (p : Int) (k : Int × Int × Int × Int × Int × Int) : execT Try.prog S_s_l08Points 66 33 (fuelOf fu []) dec_l47_2 [.v (.int .i64 p), .v (.agg ⟨[.int .i64 k.1, .int .i64 k.2.1, .int .i64 k.2.2.1, .int .i64 k.2.2.2.1, .int .i64 k.2.2.2.2.1, .int .i64 k.2.2.2.2.2]⟩)] = Fo_s_l08Points fu p k := eqg_s_l08Points fu p k
def s_l08Points (p : Int) (k_ : P6) : Nat × List Int := (((pts p).filter fun zz => (s_l08Value p k_ zz == 0)).length, flat2 ((pts p).filter fun zz => (s_l08Value p k_ zz == 0)))
theorem lo3_s_l08Points {p : Int} (hp : prB p = true) (k_ : P6) (fu : Nat) (l11 : List Int) (m11 : Nat) (x : Int) (rec2 : List Int → Nat → Int → Option (Nat × List Int)) {F m : Nat} {l : List Int} (hF : p.toNat < F) (hm : m ≤ 100000) :
    L_s_l08Points_3 fu p k_ l11 m11 x rec2 F l m 0 = rec2 (l ++ flat2 ((List.range p.toNat).flatMap (fun y : Nat => if (s_l08Value p k_ (x, (y : Int)) == 0) = true then [((x : Int), (y : Int))] else []))) (m + ((List.range p.toNat).flatMap (fun y : Nat => if (s_l08Value p k_ (x, (y : Int)) == 0) = true then [((x : Int), (y : Int))] else [])).length) (wI (x + 1)) := by
  obtain ⟨h1, h0, hpn⟩ := prB_nat hp
  exact gather (flat := flat2) flat2_app rfl (L := fun f l m i => L_s_l08Points_3 fu p k_ l11 m11 x rec2 f l m i) (n := p.toNat) (b := 1) (M := 100000) ((fun y : Nat => if (s_l08Value p k_ (x, (y : Int)) == 0) = true then [((x : Int), (y : Int))] else [])) (K := (rec2 (l ++ flat2 ((List.range p.toNat).flatMap (fun y : Nat => if (s_l08Value p k_ (x, (y : Int)) == 0) = true then [((x : Int), (y : Int))] else []))) (m + ((List.range p.toNat).flatMap (fun y : Nat => if (s_l08Value p k_ (x, (y : Int)) == 0) = true then [((x : Int), (y : Int))] else [])).length) (wI (x + 1)))) (l := l) (m := m) (F := F) (by intro k hk; first | (split <;> simp) | simp_all)
    (fun f k l m hk hm => by
      show B_s_l08Points_3 p k_ l11 m11 x rec2 (L_s_l08Points_3 fu p k_ l11 m11 x rec2 f) l m (k : Int) = _
      unfold B_s_l08Points_3
      have x0 : prB p = true := hp
      simp only [cndp hk, x0, if_true, wrap_add1 hk (by omega), show (Nat.ble 1 1 && Nat.ble (m + 1) 1000000 && Nat.beq 2 2) = true from by simp; omega]
      generalize ((s_l08Value p k_ (x, (k : Int)) == 0)) = c0
      cases c0 <;> first
        | rfl
        | (simp only [Bool.false_eq_true, Bool.false_and, Bool.and_false, Bool.true_and, if_false, if_true]
           rw [show flat2 [] = [] from rfl, List.append_nil]
           rfl))
    (fun f hm => by
      show B_s_l08Points_3 p k_ l11 m11 x rec2 (L_s_l08Points_3 fu p k_ l11 m11 x rec2 f) (l ++ flat2 ((List.range p.toNat).flatMap ((fun y : Nat => if (s_l08Value p k_ (x, (y : Int)) == 0) = true then [((x : Int), (y : Int))] else [])))) (m + ((List.range p.toNat).flatMap ((fun y : Nat => if (s_l08Value p k_ (x, (y : Int)) == 0) = true then [((x : Int), (y : Int))] else []))).length) ((p.toNat : Nat) : Int) = _
      unfold B_s_l08Points_3
      rw [if_neg (by simp; omega)]) hF hm
theorem lo2_s_l08Points {p : Int} (hp : prB p = true) (k_ : P6) {F : Nat} (hF : p.toNat < F) : L_s_l08Points_2 1000000 p k_ F [] 0 0 = (some (((pts p).filter fun zz => (s_l08Value p k_ zz == 0)).length, flat2 ((pts p).filter fun zz => (s_l08Value p k_ zz == 0)))) := by
  obtain ⟨h1, h0, hpn⟩ := prB_nat hp
  exact gather (flat := flat2) flat2_app rfl (L := fun f l m i => L_s_l08Points_2 1000000 p k_ f l m i) (n := p.toNat) (b := 31) (M := 0) ((fun x : Nat => (List.range p.toNat).flatMap (fun y : Nat => if (s_l08Value p k_ ((x : Int), (y : Int)) == 0) = true then [(((x : Int) : Int), (y : Int))] else []))) (K := (some (((pts p).filter fun zz => (s_l08Value p k_ zz == 0)).length, flat2 ((pts p).filter fun zz => (s_l08Value p k_ zz == 0))))) (l := []) (m := 0) (F := F) (by intro k hk; refine Nat.le_trans (len_flatMap_le (b := 1) fun j _ => ?_) (by omega); first | (split <;> simp) | simp)
    (fun f k l m hk hm => by
      show B_s_l08Points_2 p k_ (L_s_l08Points_3 1000000 p k_ l m (k : Int) (L_s_l08Points_2 1000000 p k_ f) 1000000) (L_s_l08Points_2 1000000 p k_ f) l m (k : Int) = _
      unfold B_s_l08Points_2
      rw [if_pos (cndp hk), lo3_s_l08Points hp _ _ _ _ _ _ (by omega) (by omega), wrap_add1 hk (by omega)])
    (fun f hm => by
      show B_s_l08Points_2 p k_ (L_s_l08Points_3 1000000 p k_ ([] ++ flat2 ((List.range p.toNat).flatMap ((fun x : Nat => (List.range p.toNat).flatMap (fun y : Nat => if (s_l08Value p k_ ((x : Int), (y : Int)) == 0) = true then [(((x : Int) : Int), (y : Int))] else []))))) (0 + ((List.range p.toNat).flatMap ((fun x : Nat => (List.range p.toNat).flatMap (fun y : Nat => if (s_l08Value p k_ ((x : Int), (y : Int)) == 0) = true then [(((x : Int) : Int), (y : Int))] else [])))).length) ((p.toNat : Nat) : Int) (L_s_l08Points_2 1000000 p k_ f) 1000000) (L_s_l08Points_2 1000000 p k_ f) ([] ++ flat2 ((List.range p.toNat).flatMap ((fun x : Nat => (List.range p.toNat).flatMap (fun y : Nat => if (s_l08Value p k_ ((x : Int), (y : Int)) == 0) = true then [(((x : Int) : Int), (y : Int))] else []))))) (0 + ((List.range p.toNat).flatMap ((fun x : Nat => (List.range p.toNat).flatMap (fun y : Nat => if (s_l08Value p k_ ((x : Int), (y : Int)) == 0) = true then [(((x : Int) : Int), (y : Int))] else [])))).length) ((p.toNat : Nat) : Int) = _
      unfold B_s_l08Points_2
      have hkp : ((List.range p.toNat).flatMap (fun x : Nat => (List.range p.toNat).flatMap (fun y : Nat => if (s_l08Value p k_ ((x : Int), (y : Int)) == 0) = true then [(((x : Int) : Int), (y : Int))] else []))) = (pts p).filter (fun zz => (s_l08Value p k_ zz == 0)) := grid_filter p.toNat (fun zz => (s_l08Value p k_ zz == 0))
      rw [if_neg (by simp; omega), hkp]
      simp) hF (Nat.le_refl _)

theorem tot_s_l08Points (p : Int) (k : Int × Int × Int × Int × Int × Int) (hp : (prB p) = true) : Fo_s_l08Points 1000000 p k = some (s_l08Points p k) := by
  unfold Fo_s_l08Points G_s_l08Points
  have h1 := (prB_nat hp).1
  exact lo2_s_l08Points hp _ (by omega)
def run_s_l08Points : List PV → Option (Bool × List TR)
  | [.v (.int .i64 p), .v (.agg ⟨[.int .i64 k0, .int .i64 k1, .int .i64 k2, .int .i64 k3, .int .i64 k4, .int .i64 k5]⟩)] => some (prB p, enc_l47_2 (s_l08Points p (k0, k1, k2, k3, k4, k5)))
  | _ => none
theorem sound_s_l08Points : Sound Try.prog 66 run_s_l08Points := by
  refine sound_of de_l47_2 SO_s_l08Points (by kernel_rfl) Try.func66 Try.ntmps66 rfl (by kernel_rfl) ?_
  intro W pvs avs rs hargs hrun
  unfold run_s_l08Points at hrun
  split at hrun
  · simp only [Option.some.injEq, Prod.mk.injEq] at hrun
    obtain ⟨hp, rfl⟩ := hrun
    rename_i p k0 k1 k2 k3 k4 k5
    exact ⟨_, _, _, hargs, rfl, (eq_s_l08Points _ p (k0, k1, k2, k3, k4, k5)).trans (tot_s_l08Points p (k0, k1, k2, k3, k4, k5) hp)⟩
  · cases hrun

def S_s_ConicPoints : Sums := ⟨tblS [(53, run_s_l08Code), (66, run_s_l08Points)], tblM []⟩
theorem SO_s_ConicPoints : SumsOK Try.prog S_s_ConicPoints := ⟨tblS_ok ⟨⟨Try.call53, sound_s_l08Code⟩, ⟨Try.call66, sound_s_l08Points⟩, True.intro⟩, tblM_ok True.intro⟩
def Fo_s_ConicPoints (p : Int) (k : Int × Int × Int × Int × Int × Int) : Option ((Nat × List Int) × Int) :=
  (if ((s_l08Code p k) != 0) = true then some ((0, []), (s_l08Code p k)) else (if (prB p) = true then some (((s_l08Points p k).1, (s_l08Points p k).2), 0) else none))
theorem eq_s_ConicPoints (p : Int) (k : Int × Int × Int × Int × Int × Int) : execT Try.prog S_s_ConicPoints 26 16 (fun _ => 1000000) dec_l47_2_i [.v (.int .i64 p), .v (.agg ⟨[.int .i64 k.1, .int .i64 k.2.1, .int .i64 k.2.2.1, .int .i64 k.2.2.2.1, .int .i64 k.2.2.2.2.1, .int .i64 k.2.2.2.2.2]⟩)] = Fo_s_ConicPoints p k := by
  kernel_rfl
def s_ConicPoints (p : Int) (k : Int × Int × Int × Int × Int × Int) : (Nat × List Int) × Int :=
  (if ((s_l08Code p k) != 0) = true then ((0, []), (s_l08Code p k)) else (((s_l08Points p k).1, (s_l08Points p k).2), 0))
theorem tot_s_ConicPoints (p : Int) (k : Int × Int × Int × Int × Int × Int) : Fo_s_ConicPoints p k = some (s_ConicPoints p k) := by
  unfold Fo_s_ConicPoints s_ConicPoints
  (try simp only [wI_eq])
  repeat' (first | with_reducible rfl | refine chk_opt (by first | with_reducible rfl | exact Bool.true_or _ | (with_reducible exact asked_prB ‹_›) | (with_reducible exact l09Code_prB ‹_›) | (with_reducible exact l01Code_prB ‹_›) | (with_reducible exact l01Numbers_prB ‹_›) | (with_reducible exact l01Lines_prB ‹_›) | (with_reducible exact asked_prB0 ‹_›) | (with_reducible exact l09Code_prB0 ‹_›) | (with_reducible exact l01Code_prB0 ‹_›) | (with_reducible exact l01Numbers_prB0 ‹_›) | (with_reducible exact l01Lines_prB0 ‹_›) | (with_reducible exact field_prB ‹_›) | (with_reducible exact field_prB0 ‹_›) | (with_reducible exact l08Code_prB ‹_›) | (with_reducible exact l08Code_prB0 ‹_›) | (with_reducible exact l08Given_prB ‹_›) | (with_reducible exact l08Given_prB0 ‹_›) | (with_reducible exact l02Code_prB ‹_›) | (with_reducible exact l02Code_prB0 ‹_›) | (with_reducible exact l04Code_prB ‹_›) | (with_reducible exact l04Code_prB0 ‹_›) | (with_reducible exact triangle_prB ‹_›) | (with_reducible exact triangle_prB0 ‹_›) | (with_reducible exact l01Both_prB ‹_›) | (with_reducible exact l01Both_prB0 ‹_›) | (with_reducible exact sfield_prB0 ‹_›) | exact mk_ok (by (first | (with_reducible assumption) | (with_reducible exact asked_prB ‹_›) | (with_reducible exact l09Code_prB ‹_›) | (with_reducible exact l01Code_prB ‹_›) | (with_reducible exact l01Numbers_prB ‹_›) | (with_reducible exact l01Lines_prB ‹_›) | (with_reducible exact asked_prB0 ‹_›) | (with_reducible exact l09Code_prB0 ‹_›) | (with_reducible exact l01Code_prB0 ‹_›) | (with_reducible exact l01Numbers_prB0 ‹_›) | (with_reducible exact l01Lines_prB0 ‹_›) | (with_reducible exact field_prB ‹_›) | (with_reducible exact field_prB0 ‹_›) | (with_reducible exact l08Code_prB ‹_›) | (with_reducible exact l08Code_prB0 ‹_›) | (with_reducible exact l08Given_prB ‹_›) | (with_reducible exact l08Given_prB0 ‹_›) | (with_reducible exact l02Code_prB ‹_›) | (with_reducible exact l02Code_prB0 ‹_›) | (with_reducible exact l04Code_prB ‹_›) | (with_reducible exact l04Code_prB0 ‹_›) | (with_reducible exact triangle_prB ‹_›) | (with_reducible exact triangle_prB0 ‹_›) | (with_reducible exact l01Both_prB ‹_›) | (with_reducible exact l01Both_prB0 ‹_›) | (with_reducible exact sfield_prB0 ‹_›))) | exact and_all (by (first | (with_reducible assumption) | (with_reducible exact asked_prB ‹_›) | (with_reducible exact l09Code_prB ‹_›) | (with_reducible exact l01Code_prB ‹_›) | (with_reducible exact l01Numbers_prB ‹_›) | (with_reducible exact l01Lines_prB ‹_›) | (with_reducible exact asked_prB0 ‹_›) | (with_reducible exact l09Code_prB0 ‹_›) | (with_reducible exact l01Code_prB0 ‹_›) | (with_reducible exact l01Numbers_prB0 ‹_›) | (with_reducible exact l01Lines_prB0 ‹_›) | (with_reducible exact field_prB ‹_›) | (with_reducible exact field_prB0 ‹_›) | (with_reducible exact l08Code_prB ‹_›) | (with_reducible exact l08Code_prB0 ‹_›) | (with_reducible exact l08Given_prB ‹_›) | (with_reducible exact l08Given_prB0 ‹_›) | (with_reducible exact l02Code_prB ‹_›) | (with_reducible exact l02Code_prB0 ‹_›) | (with_reducible exact l04Code_prB ‹_›) | (with_reducible exact l04Code_prB0 ‹_›) | (with_reducible exact triangle_prB ‹_›) | (with_reducible exact triangle_prB0 ‹_›) | (with_reducible exact l01Both_prB ‹_›) | (with_reducible exact l01Both_prB0 ‹_›) | (with_reducible exact sfield_prB0 ‹_›))) (fun _ => rfl) | exact and_all (by (first | (with_reducible assumption) | (with_reducible exact asked_prB ‹_›) | (with_reducible exact l09Code_prB ‹_›) | (with_reducible exact l01Code_prB ‹_›) | (with_reducible exact l01Numbers_prB ‹_›) | (with_reducible exact l01Lines_prB ‹_›) | (with_reducible exact asked_prB0 ‹_›) | (with_reducible exact l09Code_prB0 ‹_›) | (with_reducible exact l01Code_prB0 ‹_›) | (with_reducible exact l01Numbers_prB0 ‹_›) | (with_reducible exact l01Lines_prB0 ‹_›) | (with_reducible exact field_prB ‹_›) | (with_reducible exact field_prB0 ‹_›) | (with_reducible exact l08Code_prB ‹_›) | (with_reducible exact l08Code_prB0 ‹_›) | (with_reducible exact l08Given_prB ‹_›) | (with_reducible exact l08Given_prB0 ‹_›) | (with_reducible exact l02Code_prB ‹_›) | (with_reducible exact l02Code_prB0 ‹_›) | (with_reducible exact l04Code_prB ‹_›) | (with_reducible exact l04Code_prB0 ‹_›) | (with_reducible exact triangle_prB ‹_›) | (with_reducible exact triangle_prB0 ‹_›) | (with_reducible exact l01Both_prB ‹_›) | (with_reducible exact l01Both_prB0 ‹_›) | (with_reducible exact sfield_prB0 ‹_›))) (fun _ => by (first | (with_reducible assumption) | (with_reducible exact asked_prB ‹_›) | (with_reducible exact l09Code_prB ‹_›) | (with_reducible exact l01Code_prB ‹_›) | (with_reducible exact l01Numbers_prB ‹_›) | (with_reducible exact l01Lines_prB ‹_›) | (with_reducible exact asked_prB0 ‹_›) | (with_reducible exact l09Code_prB0 ‹_›) | (with_reducible exact l01Code_prB0 ‹_›) | (with_reducible exact l01Numbers_prB0 ‹_›) | (with_reducible exact l01Lines_prB0 ‹_›) | (with_reducible exact field_prB ‹_›) | (with_reducible exact field_prB0 ‹_›) | (with_reducible exact l08Code_prB ‹_›) | (with_reducible exact l08Code_prB0 ‹_›) | (with_reducible exact l08Given_prB ‹_›) | (with_reducible exact l08Given_prB0 ‹_›) | (with_reducible exact l02Code_prB ‹_›) | (with_reducible exact l02Code_prB0 ‹_›) | (with_reducible exact l04Code_prB ‹_›) | (with_reducible exact l04Code_prB0 ‹_›) | (with_reducible exact triangle_prB ‹_›) | (with_reducible exact triangle_prB0 ‹_›) | (with_reducible exact l01Both_prB ‹_›) | (with_reducible exact l01Both_prB0 ‹_›) | (with_reducible exact sfield_prB0 ‹_›))) | exact and3 (by (first | (with_reducible assumption) | (with_reducible exact asked_prB ‹_›) | (with_reducible exact l09Code_prB ‹_›) | (with_reducible exact l01Code_prB ‹_›) | (with_reducible exact l01Numbers_prB ‹_›) | (with_reducible exact l01Lines_prB ‹_›) | (with_reducible exact asked_prB0 ‹_›) | (with_reducible exact l09Code_prB0 ‹_›) | (with_reducible exact l01Code_prB0 ‹_›) | (with_reducible exact l01Numbers_prB0 ‹_›) | (with_reducible exact l01Lines_prB0 ‹_›) | (with_reducible exact field_prB ‹_›) | (with_reducible exact field_prB0 ‹_›) | (with_reducible exact l08Code_prB ‹_›) | (with_reducible exact l08Code_prB0 ‹_›) | (with_reducible exact l08Given_prB ‹_›) | (with_reducible exact l08Given_prB0 ‹_›) | (with_reducible exact l02Code_prB ‹_›) | (with_reducible exact l02Code_prB0 ‹_›) | (with_reducible exact l04Code_prB ‹_›) | (with_reducible exact l04Code_prB0 ‹_›) | (with_reducible exact triangle_prB ‹_›) | (with_reducible exact triangle_prB0 ‹_›) | (with_reducible exact l01Both_prB ‹_›) | (with_reducible exact l01Both_prB0 ‹_›) | (with_reducible exact sfield_prB0 ‹_›))) (by (first | (with_reducible assumption) | (with_reducible exact asked_prB ‹_›) | (with_reducible exact l09Code_prB ‹_›) | (with_reducible exact l01Code_prB ‹_›) | (with_reducible exact l01Numbers_prB ‹_›) | (with_reducible exact l01Lines_prB ‹_›) | (with_reducible exact asked_prB0 ‹_›) | (with_reducible exact l09Code_prB0 ‹_›) | (with_reducible exact l01Code_prB0 ‹_›) | (with_reducible exact l01Numbers_prB0 ‹_›) | (with_reducible exact l01Lines_prB0 ‹_›) | (with_reducible exact field_prB ‹_›) | (with_reducible exact field_prB0 ‹_›) | (with_reducible exact l08Code_prB ‹_›) | (with_reducible exact l08Code_prB0 ‹_›) | (with_reducible exact l08Given_prB ‹_›) | (with_reducible exact l08Given_prB0 ‹_›) | (with_reducible exact l02Code_prB ‹_›) | (with_reducible exact l02Code_prB0 ‹_›) | (with_reducible exact l04Code_prB ‹_›) | (with_reducible exact l04Code_prB0 ‹_›) | (with_reducible exact triangle_prB ‹_›) | (with_reducible exact triangle_prB0 ‹_›) | (with_reducible exact l01Both_prB ‹_›) | (with_reducible exact l01Both_prB0 ‹_›) | (with_reducible exact sfield_prB0 ‹_›))) (by (first | (with_reducible assumption) | (with_reducible exact asked_prB ‹_›) | (with_reducible exact l09Code_prB ‹_›) | (with_reducible exact l01Code_prB ‹_›) | (with_reducible exact l01Numbers_prB ‹_›) | (with_reducible exact l01Lines_prB ‹_›) | (with_reducible exact asked_prB0 ‹_›) | (with_reducible exact l09Code_prB0 ‹_›) | (with_reducible exact l01Code_prB0 ‹_›) | (with_reducible exact l01Numbers_prB0 ‹_›) | (with_reducible exact l01Lines_prB0 ‹_›) | (with_reducible exact field_prB ‹_›) | (with_reducible exact field_prB0 ‹_›) | (with_reducible exact l08Code_prB ‹_›) | (with_reducible exact l08Code_prB0 ‹_›) | (with_reducible exact l08Given_prB ‹_›) | (with_reducible exact l08Given_prB0 ‹_›) | (with_reducible exact l02Code_prB ‹_›) | (with_reducible exact l02Code_prB0 ‹_›) | (with_reducible exact l04Code_prB ‹_›) | (with_reducible exact l04Code_prB0 ‹_›) | (with_reducible exact triangle_prB ‹_›) | (with_reducible exact triangle_prB0 ‹_›) | (with_reducible exact l01Both_prB ‹_›) | (with_reducible exact l01Both_prB0 ‹_›) | (with_reducible exact sfield_prB0 ‹_›))) | rfl) ?_ | refine ite_opt (fun _ => ?_) (fun _ => ?_) | rfl)
def run_s_ConicPoints : List PV → Option (Bool × List TR)
  | [.v (.int .i64 p), .v (.agg ⟨[.int .i64 k0, .int .i64 k1, .int .i64 k2, .int .i64 k3, .int .i64 k4, .int .i64 k5]⟩)] => some (true, enc_l47_2_i (s_ConicPoints p (k0, k1, k2, k3, k4, k5)))
  | _ => none
theorem sound_s_ConicPoints : Sound Try.prog 26 run_s_ConicPoints := by
  refine sound_of de_l47_2_i SO_s_ConicPoints (by kernel_rfl) Try.func26 Try.ntmps26 rfl (by kernel_rfl) ?_
  intro W pvs avs rs hargs hrun
  unfold run_s_ConicPoints at hrun
  split at hrun
  · simp only [Option.some.injEq, Prod.mk.injEq] at hrun
    obtain ⟨hp, rfl⟩ := hrun
    rename_i p k0 k1 k2 k3 k4 k5
    exact ⟨_, _, _, hargs, rfl, (eq_s_ConicPoints p (k0, k1, k2, k3, k4, k5)).trans (tot_s_ConicPoints p (k0, k1, k2, k3, k4, k5))⟩
  · cases hrun


end Go.Proofs.Ytjpckmpeahinkaa
