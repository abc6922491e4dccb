import Derived.Test.YtgadfldmbpgimaaFa
import Derived.Test.YtgadfldmbpgimaaProg
set_option linter.unusedSimpArgs false
set_option linter.unusedVariables false
namespace Go.Proofs.Ytgadfldmbpgimaa
open Go.RowKit
def S_i_pointsAt_c1 : Sums := ⟨tblS [(53, run_i_quadrance)], tblM []⟩
theorem SO_i_pointsAt_c1 : SumsOK Try.prog S_i_pointsAt_c1 := ⟨tblS_ok ⟨⟨Try.call53, sound_i_quadrance⟩, True.intro⟩, tblM_ok True.intro⟩
def Fo_i_pointsAt_c1 (b : Int × Int) (c0 : Int) (c1 : Int) (c2 : Int × Int) (c3 : Int) : Option (Bool) :=
  (if (prB c0) = true then some ((i_quadrance c0 c1 c2 b) == c3) else none)
theorem eq_i_pointsAt_c1 (b : Int × Int) (c0 : Int) (c1 : Int) (c2 : Int × Int) (c3 : Int) : execT Try.prog S_i_pointsAt_c1 86 14 1000000 dec_b [.v (.agg ⟨[.int .i64 b.1, .int .i64 b.2]⟩), .p [.int .i64 c0], .p [.int .i64 c1], .p [.int .i64 c2.1, .int .i64 c2.2], .p [.int .i64 c3]] = Fo_i_pointsAt_c1 b c0 c1 c2 c3 := by
  kernel_rfl
def i_pointsAt_c1 (b : Int × Int) (c0 : Int) (c1 : Int) (c2 : Int × Int) (c3 : Int) : Bool :=
  (i_quadrance c0 c1 c2 b) == c3
theorem tot_i_pointsAt_c1 (b : Int × Int) (c0 : Int) (c1 : Int) (c2 : Int × Int) (c3 : Int) (hp : (prB c0) = true) : Fo_i_pointsAt_c1 b c0 c1 c2 c3 = some (i_pointsAt_c1 b c0 c1 c2 c3) := by
  try have h0 := prB_ne hp
  unfold Fo_i_pointsAt_c1 i_pointsAt_c1
  (try simp only [wI_eq])
  repeat' (first | with_reducible rfl | with_reducible refine chk_opt hp ?_ | with_reducible refine chk_opt h0 ?_ | refine chk_opt (and_all hp fun _ => hp) ?_ | refine chk_opt (and_all hp fun _ => rfl) ?_ | refine ite_opt (fun _ => ?_) (fun _ => ?_) | rfl)
def run_i_pointsAt_c1 : List PV → Option (Bool × List TR)
  | [.v (.agg ⟨[.int .i64 b0, .int .i64 b1]⟩), .p [.int .i64 c0], .p [.int .i64 c1], .p [.int .i64 c20, .int .i64 c21], .p [.int .i64 c3]] => some (prB c0, enc_b (i_pointsAt_c1 (b0, b1) c0 c1 (c20, c21) c3))
  | _ => none
theorem sound_i_pointsAt_c1 : Sound Try.prog 86 run_i_pointsAt_c1 := by
  refine sound_of de_b SO_i_pointsAt_c1 (by kernel_rfl) Try.func86 Try.ntmps86 rfl (by kernel_rfl) ?_
  intro W pvs avs rs hargs hrun
  unfold run_i_pointsAt_c1 at hrun
  split at hrun
  · simp only [Option.some.injEq, Prod.mk.injEq] at hrun
    obtain ⟨hp, rfl⟩ := hrun
    rename_i b0 b1 c0 c1 c20 c21 c3
    exact ⟨_, _, _, hargs, rfl, (eq_i_pointsAt_c1 (b0, b1) c0 c1 (c20, c21) c3).trans (tot_i_pointsAt_c1 (b0, b1) c0 c1 (c20, c21) c3 hp)⟩
  · cases hrun

def clo_a2_b (k : (Int × Int) → Bool) (h : (Int × Int) → Bool) : List Value → Option (Bool × Value)
  | [.agg ⟨[.int .i64 a0_0, .int .i64 a0_1]⟩] => some (k (a0_0, a0_1), .bool (h (a0_0, a0_1)))
  | _ => none
theorem clo_a2_b_ok (g : List Value → Option (Bool × Value)) : ∀ args r, clo_a2_b (fun a0 => okV (g [.agg ⟨[.int .i64 a0.1, .int .i64 a0.2]⟩])) (fun a0 => boolV (g [.agg ⟨[.int .i64 a0.1, .int .i64 a0.2]⟩])) args = some (true, r) → g args = some (true, r) := by
  intro args r h
  unfold clo_a2_b at h
  split at h
  · simp only [Option.some.injEq, Prod.mk.injEq] at h
    obtain ⟨h1, rfl⟩ := h
    exact okV_some h1
  · cases h
def S_i_pointsWith : Sums := ⟨tblS [(104, run_i_allPoints)], tblM []⟩
theorem SO_i_pointsWith : SumsOK Try.prog S_i_pointsWith := ⟨tblS_ok ⟨⟨Try.call104, sound_i_allPoints⟩, True.intro⟩, tblM_ok True.intro⟩
def T_i_pointsWith_0 (p : Int) (holdsk : (Int × Int) → Bool) (holdsh : (Int × Int) → Bool) (l8 : List Int) (m8 : Nat) (t12 : Int) : Tab := ⟨[.val (.int .i64 p), .fn (clo_a2_b holdsk holdsh), .junk, .junk, .val (.slice none 0 0), .row 32, .junk, .junk, .junk, .val (.int .i64 p), .row 40, .val (.int .i64 (((i_allPoints p).1 : Nat) : Int)), .val (.int .i64 t12), .junk, .junk, .junk, .junk, .junk, .junk, .junk, .junk, .junk, .junk, .junk, .junk], [(32, .row 30 2 m8 (.ints l8)), (40, .row 30 2 ((i_allPoints p).1) (.ints ((i_allPoints p).2)))]⟩
def X_i_pointsWith_0 (P : Program) (fu : Nat) (p : Int) (holdsk : (Int × Int) → Bool) (holdsh : (Int × Int) → Bool) (f : Nat) (l8 : List Int) (m8 : Nat) (t12 : Int) : Option (Nat × List Int) := loopK (exec P S_i_pointsWith 25 (fu + 100) (Code.sub [1, 1, 0, 1, 0, 0] (bodyF P 85))) f (T_i_pointsWith_0 p holdsk holdsh l8 m8 t12) (kBlock 0 (kSeq (fun s => exec P S_i_pointsWith 25 (fu + 100) (Code.sub [1, 1, 1] (bodyF P 85)) s (finT P 85 dec_l30_2)) (finT P 85 dec_l30_2)))
def B_i_pointsWith_0 (p : Int) (holdsk : (Int × Int) → Bool) (holdsh : (Int × Int) → Bool) (rec0 : (List Int) → Nat → Int → Option (Nat × List Int)) (l8 : List Int) (m8 : Nat) (t12 : Int) : Option (Nat × List Int) :=
  (if (decide (t12 < (((i_allPoints p).1 : Nat) : Int))) = true then (if (decide (0 ≤ t12) && decide (t12 < (((i_allPoints p).1 : Nat) : Int))) = true then (if (Nat.ble (t12.toNat * 2 + 2) (((i_allPoints p).2).length)) = true then (if (holdsk (((i_allPoints p).2).getD (t12.toNat * 2 + 0) 0, ((i_allPoints p).2).getD (t12.toNat * 2 + 1) 0)) = true then (if (holdsh (((i_allPoints p).2).getD (t12.toNat * 2 + 0) 0, ((i_allPoints p).2).getD (t12.toNat * 2 + 1) 0)) = true then (if (Nat.ble 1 1 && Nat.ble (m8 + 1) 1000000 && Nat.beq 2 (2)) = true then rec0 (l8 ++ [((i_allPoints p).2).getD (t12.toNat * 2 + 0) 0, ((i_allPoints p).2).getD (t12.toNat * 2 + 1) 0]) (m8 + 1) (wI (t12 + 1)) else none) else rec0 l8 m8 (wI (t12 + 1))) else none) else none) else none) else some (m8, l8))
def L_i_pointsWith_0 (fu : Nat) (p : Int) (holdsk : (Int × Int) → Bool) (holdsh : (Int × Int) → Bool) : Nat → (List Int) → Nat → Int → Option (Nat × List Int)
  | 0, _, _, _ => none
  | f + 1, l8, m8, t12 => B_i_pointsWith_0 p holdsk holdsh (L_i_pointsWith_0 fu p holdsk holdsh f) l8 m8 t12
theorem loop_i_pointsWith_0 (fu : Nat) (p : Int) (holdsk : (Int × Int) → Bool) (holdsh : (Int × Int) → Bool) : ∀ (f : Nat) (l8 : List Int) (m8 : Nat) (t12 : Int), X_i_pointsWith_0 Try.prog fu p holdsk holdsh f l8 m8 t12 = L_i_pointsWith_0 fu p holdsk holdsh f l8 m8 t12 := by
  intro f
  induction f with
  | zero => intros; rfl
  | succ f ih =>
    intro l8 m8 t12
    have h1 : X_i_pointsWith_0 Try.prog fu p holdsk holdsh (f + 1) l8 m8 t12 = B_i_pointsWith_0 p holdsk holdsh (X_i_pointsWith_0 Try.prog fu p holdsk holdsh f) l8 m8 t12 := by kernel_rfl
    have h2 : X_i_pointsWith_0 Try.prog fu p holdsk holdsh f = L_i_pointsWith_0 fu p holdsk holdsh f := by funext l8 m8 t12; exact ih l8 m8 t12
    rw [h1, h2]
    rfl
def G_i_pointsWith (p : Int) (holdsk : (Int × Int) → Bool) (holdsh : (Int × Int) → Bool) (lo0 : (List Int) → Nat → Int → Option (Nat × List Int)) : Option (Nat × List Int) :=
  (if (prB p) = true then lo0 [] 0 0 else none)
def Fo_i_pointsWith (fu : Nat) (p : Int) (holdsk : (Int × Int) → Bool) (holdsh : (Int × Int) → Bool) : Option (Nat × List Int) := G_i_pointsWith p holdsk holdsh (L_i_pointsWith_0 fu p holdsk holdsh (fu + 100))
theorem eqg_i_pointsWith (fu : Nat) (p : Int) (holdsk : (Int × Int) → Bool) (holdsh : (Int × Int) → Bool) : execT Try.prog S_i_pointsWith 85 25 (fu + 100) dec_l30_2 [.v (.int .i64 p), .f (clo_a2_b holdsk holdsh)] = G_i_pointsWith p holdsk holdsh (L_i_pointsWith_0 fu p holdsk holdsh (fu + 100)) := by
  have h1 : execT Try.prog S_i_pointsWith 85 25 (fu + 100) dec_l30_2 [.v (.int .i64 p), .f (clo_a2_b holdsk holdsh)] = G_i_pointsWith p holdsk holdsh (X_i_pointsWith_0 Try.prog fu p holdsk holdsh (fu + 100)) := by kernel_rfl
  have c0 : X_i_pointsWith_0 Try.prog fu p holdsk holdsh (fu + 100) = L_i_pointsWith_0 fu p holdsk holdsh (fu + 100) := by funext l8 m8 t12; exact loop_i_pointsWith_0 fu p holdsk holdsh (fu + 100) l8 m8 t12
  rw [h1, c0]
theorem eq_i_pointsWith (fu : Nat) (p : Int) (holdsk : (Int × Int) → Bool) (holdsh : (Int × Int) → Bool) : execT Try.prog S_i_pointsWith 85 25 (fu + 100) dec_l30_2 [.v (.int .i64 p), .f (clo_a2_b holdsk holdsh)] = Fo_i_pointsWith fu p holdsk holdsh := eqg_i_pointsWith fu p holdsk holdsh
def i_pointsWith (p : Int) (holdsk holdsh : P2 → Bool) : Nat × List Int := (((pts p).filter holdsh).length, flat2 ((pts p).filter holdsh))
theorem lo0_i_pointsWith (p : Int) (holdsk holdsh : P2 → Bool) (hp : prB p = true) (hall : ∀ k, k < (pts p).length → holdsk (R2 (flat2 (pts p)) k) = true) {F : Nat} (hF : 993 < F) : L_i_pointsWith_0 1000000 p holdsk holdsh F [] 0 0 = some (((pts p).filter fun zz => holdsh zz).length, flat2 ((pts p).filter fun zz => holdsh zz)) := by
  have hlen : (pts p).length ≤ 961 := pts_len hp
  exact gather (flat := flat2) flat2_app rfl (L := fun f l m i => L_i_pointsWith_0 1000000 p holdsk holdsh f l m i) (n := (pts p).length) (b := 1) (M := 0) (fun k => if (holdsh (R2 (flat2 (pts p)) k)) = true then [R2 (flat2 (pts p)) k] else []) (K := (some (((pts p).filter fun zz => holdsh zz).length, flat2 ((pts p).filter fun zz => holdsh zz)))) (l := []) (m := 0) (F := F) (by intro k hk; first | (split <;> simp) | simp_all)
    (fun f k l m hk hm => by
      show B_i_pointsWith_0 p holdsk holdsh (L_i_pointsWith_0 1000000 p holdsk holdsh f) l m (k : Int) = _
      unfold B_i_pointsWith_0
      have x0 : holdsk ((flat2 (pts p)).getD (k * 2 + 0) 0, (flat2 (pts p)).getD (k * 2 + 1) 0) = true := hall k hk
      have e0 : decide (0 ≤ (k : Int)) = true := by simp
      have e1 := cnd hk
      have e3 : (k : Int).toNat = k := Int.toNat_natCast k
      have e4 := row2_ok (flat2_len _) hk
      have e5 : Nat.ble 1 1 = true := rfl
      have e6 : Nat.ble (m + 1) 1000000 = true := leb (by omega)
      rw [show i_allPoints p = ((pts p).length, flat2 (pts p)) from rfl]
      simp only [e0, e1, e3, e4, e5, e6, beq22, x0, Bool.and_true, Bool.true_and, if_true, wrap_add1 hk (by omega)]
      have hq0 : ((holdsh ((flat2 (pts p)).getD (k * 2 + 0) 0, (flat2 (pts p)).getD (k * 2 + 1) 0))) = ((holdsh (R2 (flat2 (pts p)) k))) := rfl
      try rw [hq0]
      generalize ((holdsh (R2 (flat2 (pts p)) k))) = c0
      cases c0 <;> first
        | rfl
        | (simp only [Bool.false_eq_true, Bool.false_and, Bool.and_false, Bool.true_and, if_false, if_true]
           rw [show flat2 [] = [] from rfl, List.append_nil]
           rfl))
    (fun f hm => by
      show B_i_pointsWith_0 p holdsk holdsh (L_i_pointsWith_0 1000000 p holdsk holdsh f) ([] ++ flat2 ((List.range (pts p).length).flatMap (fun k => if (holdsh (R2 (flat2 (pts p)) k)) = true then [R2 (flat2 (pts p)) k] else []))) (0 + ((List.range (pts p).length).flatMap (fun k => if (holdsh (R2 (flat2 (pts p)) k)) = true then [R2 (flat2 (pts p)) k] else [])).length) (((pts p).length : Nat) : Int) = _
      unfold B_i_pointsWith_0
      have hkp : ((List.range ((pts p).length)).flatMap fun k => if (holdsh (R2 (flat2 (pts p)) k)) = true then [R2 (flat2 (pts p)) k] else []) = (rows2 ((pts p).length) (flat2 (pts p))).filter (fun zz => (holdsh zz)) := keep2 ((pts p).length) (flat2 (pts p)) (fun zz => (holdsh zz))
      rw [show i_allPoints p = ((pts p).length, flat2 (pts p)) from rfl]
      rw [if_neg (by simp), hkp, rows2_flat2]
      simp) (by omega) (Nat.le_refl _)

theorem tot_i_pointsWith (p : Int) (holdsk : (Int × Int) → Bool) (holdsh : (Int × Int) → Bool) (hp : (prB p && (pts p).all holdsk) = true) : Fo_i_pointsWith 1000000 p holdsk holdsh = some (i_pointsWith p holdsk holdsh) := by
  simp only [Bool.and_eq_true] at hp
  obtain ⟨hp, hall⟩ := hp
  unfold Fo_i_pointsWith G_i_pointsWith
  rw [if_pos hp]
  refine lo0_i_pointsWith p holdsk holdsh hp ?_ (by omega)
  intro k hk
  rw [R2_flat, List.getD_eq_getElem?_getD, List.getElem?_eq_getElem hk]
  exact List.all_eq_true.1 hall _ (List.getElem_mem hk)
def run_i_pointsWith : List PV → Option (Bool × List TR)
  | [.v (.int .i64 p), .f holdsg] => some (prB p && (pts p).all (fun a0 => okV (holdsg [.agg ⟨[.int .i64 a0.1, .int .i64 a0.2]⟩])), enc_l30_2 (i_pointsWith p (fun a0 => okV (holdsg [.agg ⟨[.int .i64 a0.1, .int .i64 a0.2]⟩])) (fun a0 => boolV (holdsg [.agg ⟨[.int .i64 a0.1, .int .i64 a0.2]⟩]))))
  | _ => none
theorem sound_i_pointsWith : Sound Try.prog 85 run_i_pointsWith := by
  refine sound_of de_l30_2 SO_i_pointsWith (by kernel_rfl) Try.func85 Try.ntmps85 rfl (by kernel_rfl) ?_
  intro W pvs avs rs hargs hrun
  unfold run_i_pointsWith at hrun
  split at hrun
  · simp only [Option.some.injEq, Prod.mk.injEq] at hrun
    obtain ⟨hp, rfl⟩ := hrun
    rename_i p holdsg
    have hargs := All2.replace (l1 := [_]) hargs (y := .f (clo_a2_b _ _)) fun b hb => fn_weaken hb (clo_a2_b_ok _)
    exact ⟨_, _, _, hargs, rfl, (eq_i_pointsWith _ p (fun a0 => okV (holdsg [.agg ⟨[.int .i64 a0.1, .int .i64 a0.2]⟩])) (fun a0 => boolV (holdsg [.agg ⟨[.int .i64 a0.1, .int .i64 a0.2]⟩]))).trans (tot_i_pointsWith p (fun a0 => okV (holdsg [.agg ⟨[.int .i64 a0.1, .int .i64 a0.2]⟩])) (fun a0 => boolV (holdsg [.agg ⟨[.int .i64 a0.1, .int .i64 a0.2]⟩])) hp)⟩
  · cases hrun

def S_i_pointsAt : Sums := ⟨tblS [(85, run_i_pointsWith), (86, run_i_pointsAt_c1)], tblM []⟩
theorem SO_i_pointsAt : SumsOK Try.prog S_i_pointsAt := ⟨tblS_ok ⟨⟨Try.call85, sound_i_pointsWith⟩, ⟨Try.call86, sound_i_pointsAt_c1⟩, True.intro⟩, tblM_ok True.intro⟩
def Fo_i_pointsAt (p : Int) (colour : Int) (a : Int × Int) (q : Int) : Option (Nat × List Int) :=
  (if (prB p && (pts p).all (fun a0 => prB p)) = true then some ((i_pointsWith p (fun a0 => prB p) (fun a0 => i_pointsAt_c1 a0 p colour a q)).1, (i_pointsWith p (fun a0 => prB p) (fun a0 => i_pointsAt_c1 a0 p colour a q)).2) else none)
theorem eq_i_pointsAt (p : Int) (colour : Int) (a : Int × Int) (q : Int) : execT Try.prog S_i_pointsAt 47 12 1000000 dec_l30_2 [.v (.int .i64 p), .v (.int .i64 colour), .v (.agg ⟨[.int .i64 a.1, .int .i64 a.2]⟩), .v (.int .i64 q)] = Fo_i_pointsAt p colour a q := by
  kernel_rfl
def i_pointsAt (p : Int) (colour : Int) (a : Int × Int) (q : Int) : Nat × List Int :=
  ((i_pointsWith p (fun a0 => prB p) (fun a0 => i_pointsAt_c1 a0 p colour a q)).1, (i_pointsWith p (fun a0 => prB p) (fun a0 => i_pointsAt_c1 a0 p colour a q)).2)
theorem tot_i_pointsAt (p : Int) (colour : Int) (a : Int × Int) (q : Int) (hp : (prB p) = true) : Fo_i_pointsAt p colour a q = some (i_pointsAt p colour a q) := by
  try have h0 := prB_ne hp
  unfold Fo_i_pointsAt i_pointsAt
  (try simp only [wI_eq])
  repeat' (first | with_reducible rfl | with_reducible refine chk_opt hp ?_ | with_reducible refine chk_opt h0 ?_ | refine chk_opt (and_all hp fun _ => hp) ?_ | refine chk_opt (and_all hp fun _ => rfl) ?_ | refine ite_opt (fun _ => ?_) (fun _ => ?_) | rfl)
def run_i_pointsAt : List PV → Option (Bool × List TR)
  | [.v (.int .i64 p), .v (.int .i64 colour), .v (.agg ⟨[.int .i64 a0, .int .i64 a1]⟩), .v (.int .i64 q)] => some (prB p, enc_l30_2 (i_pointsAt p colour (a0, a1) q))
  | _ => none
theorem sound_i_pointsAt : Sound Try.prog 47 run_i_pointsAt := by
  refine sound_of de_l30_2 SO_i_pointsAt (by kernel_rfl) Try.func47 Try.ntmps47 rfl (by kernel_rfl) ?_
  intro W pvs avs rs hargs hrun
  unfold run_i_pointsAt at hrun
  split at hrun
  · simp only [Option.some.injEq, Prod.mk.injEq] at hrun
    obtain ⟨hp, rfl⟩ := hrun
    rename_i p colour a0 a1 q
    exact ⟨_, _, _, hargs, rfl, (eq_i_pointsAt p colour (a0, a1) q).trans (tot_i_pointsAt p colour (a0, a1) q hp)⟩
  · cases hrun

def dec_l2_1_i : List TR → Option ((Nat × List Int) × Int)
  | [.s 2 1 n0 (.ints x0), .v (.int .i64 x1)] => some ((n0, x0), x1)
  | _ => none
def enc_l2_1_i : (Nat × List Int) × Int → List TR
  | ((n0, x0), x1) => [.s 2 1 n0 (.ints x0), .v (.int .i64 x1)]
theorem de_l2_1_i (rs : List TR) (x : (Nat × List Int) × Int) (h : dec_l2_1_i rs = some x) : rs = enc_l2_1_i x := by
  unfold dec_l2_1_i at h
  split at h
  · simp only [Option.some.injEq] at h
    subst h
    rfl
  · cases h
def S_i_UnitCounts : Sums := ⟨tblS [(46, run_i_IsField), (47, run_i_pointsAt)], tblM []⟩
theorem SO_i_UnitCounts : SumsOK Try.prog S_i_UnitCounts := ⟨tblS_ok ⟨⟨Try.call46, sound_i_IsField⟩, ⟨Try.call47, sound_i_pointsAt⟩, True.intro⟩, tblM_ok True.intro⟩
def Fo_i_UnitCounts (p : Int) : Option ((Nat × List Int) × Int) :=
  (if (!(i_IsField p)) = true then some ((0, []), 1) else (if (prB p) = true then (if (prB p) = true then (if (prB p) = true then some ((3, [(((i_pointsAt p 0 (0, 0) 1).1 : Nat) : Int), (((i_pointsAt p 1 (0, 0) 1).1 : Nat) : Int), (((i_pointsAt p 2 (0, 0) 1).1 : Nat) : Int)]), 0) else none) else none) else none))
theorem eq_i_UnitCounts (p : Int) : execT Try.prog S_i_UnitCounts 14 23 1000000 dec_l2_1_i [.v (.int .i64 p)] = Fo_i_UnitCounts p := by
  kernel_rfl
def i_UnitCounts (p : Int) : (Nat × List Int) × Int :=
  (if (!(i_IsField p)) = true then ((0, []), 1) else ((3, [(((i_pointsAt p 0 (0, 0) 1).1 : Nat) : Int), (((i_pointsAt p 1 (0, 0) 1).1 : Nat) : Int), (((i_pointsAt p 2 (0, 0) 1).1 : Nat) : Int)]), 0))
theorem tot_i_UnitCounts (p : Int) : Fo_i_UnitCounts p = some (i_UnitCounts p) := by
  unfold Fo_i_UnitCounts i_UnitCounts
  (try simp only [wI_eq])
  repeat' (first | with_reducible rfl | refine chk_opt (by first | with_reducible rfl | exact Bool.true_or _ | (with_reducible exact asked_prB ‹_›) | (with_reducible exact l09Code_prB ‹_›) | (with_reducible exact l01Code_prB ‹_›) | (with_reducible exact l01Numbers_prB ‹_›) | (with_reducible exact l01Lines_prB ‹_›) | (with_reducible exact asked_prB0 ‹_›) | (with_reducible exact l09Code_prB0 ‹_›) | (with_reducible exact l01Code_prB0 ‹_›) | (with_reducible exact l01Numbers_prB0 ‹_›) | (with_reducible exact l01Lines_prB0 ‹_›) | (with_reducible exact field_prB ‹_›) | (with_reducible exact field_prB0 ‹_›) | (with_reducible exact l08Code_prB ‹_›) | (with_reducible exact l08Code_prB0 ‹_›) | (with_reducible exact l08Given_prB ‹_›) | (with_reducible exact l08Given_prB0 ‹_›) | (with_reducible exact l02Code_prB ‹_›) | (with_reducible exact l02Code_prB0 ‹_›) | (with_reducible exact l04Code_prB ‹_›) | (with_reducible exact l04Code_prB0 ‹_›) | (with_reducible exact triangle_prB ‹_›) | (with_reducible exact triangle_prB0 ‹_›) | (with_reducible exact l01Both_prB ‹_›) | (with_reducible exact l01Both_prB0 ‹_›) | (with_reducible exact sfield_prB0 ‹_›) | exact mk_ok (by (first | (with_reducible assumption) | (with_reducible exact asked_prB ‹_›) | (with_reducible exact l09Code_prB ‹_›) | (with_reducible exact l01Code_prB ‹_›) | (with_reducible exact l01Numbers_prB ‹_›) | (with_reducible exact l01Lines_prB ‹_›) | (with_reducible exact asked_prB0 ‹_›) | (with_reducible exact l09Code_prB0 ‹_›) | (with_reducible exact l01Code_prB0 ‹_›) | (with_reducible exact l01Numbers_prB0 ‹_›) | (with_reducible exact l01Lines_prB0 ‹_›) | (with_reducible exact field_prB ‹_›) | (with_reducible exact field_prB0 ‹_›) | (with_reducible exact l08Code_prB ‹_›) | (with_reducible exact l08Code_prB0 ‹_›) | (with_reducible exact l08Given_prB ‹_›) | (with_reducible exact l08Given_prB0 ‹_›) | (with_reducible exact l02Code_prB ‹_›) | (with_reducible exact l02Code_prB0 ‹_›) | (with_reducible exact l04Code_prB ‹_›) | (with_reducible exact l04Code_prB0 ‹_›) | (with_reducible exact triangle_prB ‹_›) | (with_reducible exact triangle_prB0 ‹_›) | (with_reducible exact l01Both_prB ‹_›) | (with_reducible exact l01Both_prB0 ‹_›) | (with_reducible exact sfield_prB0 ‹_›))) | exact and_all (by (first | (with_reducible assumption) | (with_reducible exact asked_prB ‹_›) | (with_reducible exact l09Code_prB ‹_›) | (with_reducible exact l01Code_prB ‹_›) | (with_reducible exact l01Numbers_prB ‹_›) | (with_reducible exact l01Lines_prB ‹_›) | (with_reducible exact asked_prB0 ‹_›) | (with_reducible exact l09Code_prB0 ‹_›) | (with_reducible exact l01Code_prB0 ‹_›) | (with_reducible exact l01Numbers_prB0 ‹_›) | (with_reducible exact l01Lines_prB0 ‹_›) | (with_reducible exact field_prB ‹_›) | (with_reducible exact field_prB0 ‹_›) | (with_reducible exact l08Code_prB ‹_›) | (with_reducible exact l08Code_prB0 ‹_›) | (with_reducible exact l08Given_prB ‹_›) | (with_reducible exact l08Given_prB0 ‹_›) | (with_reducible exact l02Code_prB ‹_›) | (with_reducible exact l02Code_prB0 ‹_›) | (with_reducible exact l04Code_prB ‹_›) | (with_reducible exact l04Code_prB0 ‹_›) | (with_reducible exact triangle_prB ‹_›) | (with_reducible exact triangle_prB0 ‹_›) | (with_reducible exact l01Both_prB ‹_›) | (with_reducible exact l01Both_prB0 ‹_›) | (with_reducible exact sfield_prB0 ‹_›))) (fun _ => rfl) | exact and_all (by (first | (with_reducible assumption) | (with_reducible exact asked_prB ‹_›) | (with_reducible exact l09Code_prB ‹_›) | (with_reducible exact l01Code_prB ‹_›) | (with_reducible exact l01Numbers_prB ‹_›) | (with_reducible exact l01Lines_prB ‹_›) | (with_reducible exact asked_prB0 ‹_›) | (with_reducible exact l09Code_prB0 ‹_›) | (with_reducible exact l01Code_prB0 ‹_›) | (with_reducible exact l01Numbers_prB0 ‹_›) | (with_reducible exact l01Lines_prB0 ‹_›) | (with_reducible exact field_prB ‹_›) | (with_reducible exact field_prB0 ‹_›) | (with_reducible exact l08Code_prB ‹_›) | (with_reducible exact l08Code_prB0 ‹_›) | (with_reducible exact l08Given_prB ‹_›) | (with_reducible exact l08Given_prB0 ‹_›) | (with_reducible exact l02Code_prB ‹_›) | (with_reducible exact l02Code_prB0 ‹_›) | (with_reducible exact l04Code_prB ‹_›) | (with_reducible exact l04Code_prB0 ‹_›) | (with_reducible exact triangle_prB ‹_›) | (with_reducible exact triangle_prB0 ‹_›) | (with_reducible exact l01Both_prB ‹_›) | (with_reducible exact l01Both_prB0 ‹_›) | (with_reducible exact sfield_prB0 ‹_›))) (fun _ => by (first | (with_reducible assumption) | (with_reducible exact asked_prB ‹_›) | (with_reducible exact l09Code_prB ‹_›) | (with_reducible exact l01Code_prB ‹_›) | (with_reducible exact l01Numbers_prB ‹_›) | (with_reducible exact l01Lines_prB ‹_›) | (with_reducible exact asked_prB0 ‹_›) | (with_reducible exact l09Code_prB0 ‹_›) | (with_reducible exact l01Code_prB0 ‹_›) | (with_reducible exact l01Numbers_prB0 ‹_›) | (with_reducible exact l01Lines_prB0 ‹_›) | (with_reducible exact field_prB ‹_›) | (with_reducible exact field_prB0 ‹_›) | (with_reducible exact l08Code_prB ‹_›) | (with_reducible exact l08Code_prB0 ‹_›) | (with_reducible exact l08Given_prB ‹_›) | (with_reducible exact l08Given_prB0 ‹_›) | (with_reducible exact l02Code_prB ‹_›) | (with_reducible exact l02Code_prB0 ‹_›) | (with_reducible exact l04Code_prB ‹_›) | (with_reducible exact l04Code_prB0 ‹_›) | (with_reducible exact triangle_prB ‹_›) | (with_reducible exact triangle_prB0 ‹_›) | (with_reducible exact l01Both_prB ‹_›) | (with_reducible exact l01Both_prB0 ‹_›) | (with_reducible exact sfield_prB0 ‹_›))) | exact and3 (by (first | (with_reducible assumption) | (with_reducible exact asked_prB ‹_›) | (with_reducible exact l09Code_prB ‹_›) | (with_reducible exact l01Code_prB ‹_›) | (with_reducible exact l01Numbers_prB ‹_›) | (with_reducible exact l01Lines_prB ‹_›) | (with_reducible exact asked_prB0 ‹_›) | (with_reducible exact l09Code_prB0 ‹_›) | (with_reducible exact l01Code_prB0 ‹_›) | (with_reducible exact l01Numbers_prB0 ‹_›) | (with_reducible exact l01Lines_prB0 ‹_›) | (with_reducible exact field_prB ‹_›) | (with_reducible exact field_prB0 ‹_›) | (with_reducible exact l08Code_prB ‹_›) | (with_reducible exact l08Code_prB0 ‹_›) | (with_reducible exact l08Given_prB ‹_›) | (with_reducible exact l08Given_prB0 ‹_›) | (with_reducible exact l02Code_prB ‹_›) | (with_reducible exact l02Code_prB0 ‹_›) | (with_reducible exact l04Code_prB ‹_›) | (with_reducible exact l04Code_prB0 ‹_›) | (with_reducible exact triangle_prB ‹_›) | (with_reducible exact triangle_prB0 ‹_›) | (with_reducible exact l01Both_prB ‹_›) | (with_reducible exact l01Both_prB0 ‹_›) | (with_reducible exact sfield_prB0 ‹_›))) (by (first | (with_reducible assumption) | (with_reducible exact asked_prB ‹_›) | (with_reducible exact l09Code_prB ‹_›) | (with_reducible exact l01Code_prB ‹_›) | (with_reducible exact l01Numbers_prB ‹_›) | (with_reducible exact l01Lines_prB ‹_›) | (with_reducible exact asked_prB0 ‹_›) | (with_reducible exact l09Code_prB0 ‹_›) | (with_reducible exact l01Code_prB0 ‹_›) | (with_reducible exact l01Numbers_prB0 ‹_›) | (with_reducible exact l01Lines_prB0 ‹_›) | (with_reducible exact field_prB ‹_›) | (with_reducible exact field_prB0 ‹_›) | (with_reducible exact l08Code_prB ‹_›) | (with_reducible exact l08Code_prB0 ‹_›) | (with_reducible exact l08Given_prB ‹_›) | (with_reducible exact l08Given_prB0 ‹_›) | (with_reducible exact l02Code_prB ‹_›) | (with_reducible exact l02Code_prB0 ‹_›) | (with_reducible exact l04Code_prB ‹_›) | (with_reducible exact l04Code_prB0 ‹_›) | (with_reducible exact triangle_prB ‹_›) | (with_reducible exact triangle_prB0 ‹_›) | (with_reducible exact l01Both_prB ‹_›) | (with_reducible exact l01Both_prB0 ‹_›) | (with_reducible exact sfield_prB0 ‹_›))) (by (first | (with_reducible assumption) | (with_reducible exact asked_prB ‹_›) | (with_reducible exact l09Code_prB ‹_›) | (with_reducible exact l01Code_prB ‹_›) | (with_reducible exact l01Numbers_prB ‹_›) | (with_reducible exact l01Lines_prB ‹_›) | (with_reducible exact asked_prB0 ‹_›) | (with_reducible exact l09Code_prB0 ‹_›) | (with_reducible exact l01Code_prB0 ‹_›) | (with_reducible exact l01Numbers_prB0 ‹_›) | (with_reducible exact l01Lines_prB0 ‹_›) | (with_reducible exact field_prB ‹_›) | (with_reducible exact field_prB0 ‹_›) | (with_reducible exact l08Code_prB ‹_›) | (with_reducible exact l08Code_prB0 ‹_›) | (with_reducible exact l08Given_prB ‹_›) | (with_reducible exact l08Given_prB0 ‹_›) | (with_reducible exact l02Code_prB ‹_›) | (with_reducible exact l02Code_prB0 ‹_›) | (with_reducible exact l04Code_prB ‹_›) | (with_reducible exact l04Code_prB0 ‹_›) | (with_reducible exact triangle_prB ‹_›) | (with_reducible exact triangle_prB0 ‹_›) | (with_reducible exact l01Both_prB ‹_›) | (with_reducible exact l01Both_prB0 ‹_›) | (with_reducible exact sfield_prB0 ‹_›))) | rfl) ?_ | refine ite_opt (fun _ => ?_) (fun _ => ?_) | rfl)
def run_i_UnitCounts : List PV → Option (Bool × List TR)
  | [.v (.int .i64 p)] => some (true, enc_l2_1_i (i_UnitCounts p))
  | _ => none
theorem sound_i_UnitCounts : Sound Try.prog 14 run_i_UnitCounts := by
  refine sound_of de_l2_1_i SO_i_UnitCounts (by kernel_rfl) Try.func14 Try.ntmps14 rfl (by kernel_rfl) ?_
  intro W pvs avs rs hargs hrun
  unfold run_i_UnitCounts at hrun
  split at hrun
  · simp only [Option.some.injEq, Prod.mk.injEq] at hrun
    obtain ⟨hp, rfl⟩ := hrun
    rename_i p
    exact ⟨_, _, _, hargs, rfl, (eq_i_UnitCounts p).trans (tot_i_UnitCounts p)⟩
  · cases hrun

def S_s_l02At : Sums := ⟨tblS [(49, run_s_l02Quadrance)], tblM []⟩
theorem SO_s_l02At : SumsOK Try.prog S_s_l02At := ⟨tblS_ok ⟨⟨Try.call49, sound_s_l02Quadrance⟩, True.intro⟩, tblM_ok True.intro⟩
def T_s_l02At_2 (p : Int) (colour : Int) (a : Int × Int) (q : Int) (l13 : List Int) (m13 : Nat) (x : Int) : Tab := ⟨[.val (.int .i64 p), .val (.int .i64 colour), .val (.agg ⟨[.int .i64 a.1, .int .i64 a.2]⟩), .val (.int .i64 q), .junk, .junk, .ptr 24 0, .junk, .val (.slice none 0 0), .row 52, .val (.int .i64 x), .junk, .junk, .junk, .junk, .junk, .junk, .junk, .junk, .junk, .junk, .junk, .junk, .junk, .junk, .junk, .junk, .junk, .junk, .junk, .junk, .junk, .junk, .junk, .junk, .junk, .junk, .junk, .junk], [(24, .box 30 [.val (.int .i64 a.1), .val (.int .i64 a.2)]), (52, .row 30 2 m13 (.ints l13))]⟩
def T_s_l02At_3 (p : Int) (colour : Int) (a : Int × Int) (q : Int) (l13 : List Int) (m13 : Nat) (x : Int) (l13' : List Int) (m13' : Nat) (y : Int) : Tab := ⟨[.val (.int .i64 p), .val (.int .i64 colour), .val (.agg ⟨[.int .i64 a.1, .int .i64 a.2]⟩), .val (.int .i64 q), .junk, .junk, .ptr 24 0, .junk, .val (.slice none 0 0), .row 52, .val (.int .i64 x), .val (.int .i64 y), .junk, .junk, .val (.int .i64 x), .val (.int .i64 p), .val (.bool (decide (x < p))), .junk, .junk, .junk, .junk, .junk, .junk, .junk, .junk, .junk, .junk, .junk, .junk, .junk, .junk, .junk, .junk, .junk, .junk, .junk, .junk, .junk, .junk], [(24, .box 30 [.val (.int .i64 a.1), .val (.int .i64 a.2)]), (52, .row 30 2 m13' (.ints l13'))]⟩
def X_s_l02At_3 (P : Program) (fu : Nat) (p : Int) (colour : Int) (a : Int × Int) (q : Int) (l13 : List Int) (m13 : Nat) (x : Int) (rc2 : Tab → Option (Nat × List Int)) (f : Nat) (l13' : List Int) (m13' : Nat) (y : Int) : Option (Nat × List Int) := loopK (exec P S_s_l02At 39 fu (Code.sub [1, 1, 0, 1, 0, 0, 1, 0, 0, 1, 0, 0] (bodyF P 45))) f (T_s_l02At_3 p colour a q l13 m13 x l13' m13' y) (kBlock 2 (kBlock 1 (kSeq (fun s => exec P S_s_l02At 39 fu (Code.sub [1, 1, 0, 1, 0, 0, 1, 1] (bodyF P 45)) s (kLoop rc2 (T_s_l02At_2 p colour a q l13 m13 x) (kBlock 0 (kSeq (fun s => exec P S_s_l02At 39 fu (Code.sub [1, 1, 1] (bodyF P 45)) s (finT P 45 dec_l30_2)) (finT P 45 dec_l30_2))))) (kLoop rc2 (T_s_l02At_2 p colour a q l13 m13 x) (kBlock 0 (kSeq (fun s => exec P S_s_l02At 39 fu (Code.sub [1, 1, 1] (bodyF P 45)) s (finT P 45 dec_l30_2)) (finT P 45 dec_l30_2)))))))
def B_s_l02At_3 (p : Int) (colour : Int) (a : Int × Int) (q : Int) (l13 : List Int) (m13 : Nat) (x : Int) (rec2 : (List Int) → Nat → Int → Option (Nat × List Int)) (rec3 : (List Int) → Nat → Int → Option (Nat × List Int)) (l13' : List Int) (m13' : Nat) (y : Int) : Option (Nat × List Int) :=
  (if (decide (y < p)) = true then (if (prB p) = true then (if ((s_l02Quadrance p colour a (x, y)) == q) = true then (if (Nat.ble 1 1 && Nat.ble (m13' + 1) 1000000 && Nat.beq 2 (2)) = true then rec3 (l13' ++ [x, y]) (m13' + 1) (wI (y + 1)) else none) else rec3 l13' m13' (wI (y + 1))) else none) else rec2 l13' m13' (wI (x + 1)))
def L_s_l02At_3 (fu : Nat) (p : Int) (colour : Int) (a : Int × Int) (q : Int) (l13 : List Int) (m13 : Nat) (x : Int) (rec2 : (List Int) → Nat → Int → Option (Nat × List Int)) : Nat → (List Int) → Nat → Int → Option (Nat × List Int)
  | 0, _, _, _ => none
  | f + 1, l13', m13', y => B_s_l02At_3 p colour a q l13 m13 x rec2 (L_s_l02At_3 fu p colour a q l13 m13 x rec2 f) l13' m13' y
theorem loop_s_l02At_3 (fu : Nat) (p : Int) (colour : Int) (a : Int × Int) (q : Int) (l13 : List Int) (m13 : Nat) (x : Int) (rc2 : Tab → Option (Nat × List Int)) : ∀ (f : Nat) (l13' : List Int) (m13' : Nat) (y : Int), X_s_l02At_3 Try.prog fu p colour a q l13 m13 x rc2 f l13' m13' y = L_s_l02At_3 fu p colour a q l13 m13 x (fun l13 m13 x => rc2 (T_s_l02At_2 p colour a q l13 m13 x)) f l13' m13' y := by
  intro f
  induction f with
  | zero => intros; rfl
  | succ f ih =>
    intro l13' m13' y
    have h1 : X_s_l02At_3 Try.prog fu p colour a q l13 m13 x rc2 (f + 1) l13' m13' y = B_s_l02At_3 p colour a q l13 m13 x (fun l13 m13 x => rc2 (T_s_l02At_2 p colour a q l13 m13 x)) (X_s_l02At_3 Try.prog fu p colour a q l13 m13 x rc2 f) l13' m13' y := by kernel_rfl
    have h2 : X_s_l02At_3 Try.prog fu p colour a q l13 m13 x rc2 f = L_s_l02At_3 fu p colour a q l13 m13 x (fun l13 m13 x => rc2 (T_s_l02At_2 p colour a q l13 m13 x)) f := by funext l13' m13' y; exact ih l13' m13' y
    rw [h1, h2]
    rfl
def X_s_l02At_2 (P : Program) (fu : Nat) (p : Int) (colour : Int) (a : Int × Int) (q : Int) (f : Nat) (l13 : List Int) (m13 : Nat) (x : Int) : Option (Nat × List Int) := loopK (exec P S_s_l02At 39 fu (Code.sub [1, 1, 0, 1, 0, 0] (bodyF P 45))) f (T_s_l02At_2 p colour a q l13 m13 x) (kBlock 0 (kSeq (fun s => exec P S_s_l02At 39 fu (Code.sub [1, 1, 1] (bodyF P 45)) s (finT P 45 dec_l30_2)) (finT P 45 dec_l30_2)))
def B_s_l02At_2 (p : Int) (colour : Int) (a : Int × Int) (q : Int) (lo3 : (List Int) → Nat → Int → Option (Nat × List Int)) (rec2 : (List Int) → Nat → Int → Option (Nat × List Int)) (l13 : List Int) (m13 : Nat) (x : Int) : Option (Nat × List Int) :=
  (if (decide (x < p)) = true then lo3 l13 m13 0 else some (m13, l13))
def L_s_l02At_2 (fu : Nat) (p : Int) (colour : Int) (a : Int × Int) (q : Int) : Nat → (List Int) → Nat → Int → Option (Nat × List Int)
  | 0, _, _, _ => none
  | f + 1, l13, m13, x => B_s_l02At_2 p colour a q (L_s_l02At_3 fu p colour a q l13 m13 x (L_s_l02At_2 fu p colour a q f) fu) (L_s_l02At_2 fu p colour a q f) l13 m13 x
theorem loop_s_l02At_2 (fu : Nat) (p : Int) (colour : Int) (a : Int × Int) (q : Int) : ∀ (f : Nat) (l13 : List Int) (m13 : Nat) (x : Int), X_s_l02At_2 Try.prog fu p colour a q f l13 m13 x = L_s_l02At_2 fu p colour a q f l13 m13 x := by
  intro f
  induction f with
  | zero => intros; rfl
  | succ f ih =>
    intro l13 m13 x
    have h1 : X_s_l02At_2 Try.prog fu p colour a q (f + 1) l13 m13 x = B_s_l02At_2 p colour a q (X_s_l02At_3 Try.prog fu p colour a q l13 m13 x (fun t => loopK (exec Try.prog S_s_l02At 39 fu (Code.sub [1, 1, 0, 1, 0, 0] (bodyF Try.prog 45))) f t (kBlock 0 (kSeq (fun s => exec Try.prog S_s_l02At 39 fu (Code.sub [1, 1, 1] (bodyF Try.prog 45)) s (finT Try.prog 45 dec_l30_2)) (finT Try.prog 45 dec_l30_2)))) fu) (X_s_l02At_2 Try.prog fu p colour a q f) l13 m13 x := by kernel_rfl
    have h2 : X_s_l02At_2 Try.prog fu p colour a q f = L_s_l02At_2 fu p colour a q f := by funext l13 m13 x; exact ih l13 m13 x
    have c3 : (X_s_l02At_3 Try.prog fu p colour a q l13 m13 x (fun t => loopK (exec Try.prog S_s_l02At 39 fu (Code.sub [1, 1, 0, 1, 0, 0] (bodyF Try.prog 45))) f t (kBlock 0 (kSeq (fun s => exec Try.prog S_s_l02At 39 fu (Code.sub [1, 1, 1] (bodyF Try.prog 45)) s (finT Try.prog 45 dec_l30_2)) (finT Try.prog 45 dec_l30_2)))) fu) = L_s_l02At_3 fu p colour a q l13 m13 x (X_s_l02At_2 Try.prog fu p colour a q f) fu := by funext l13' m13' y; exact loop_s_l02At_3 fu p colour a q l13 m13 x (fun t => loopK (exec Try.prog S_s_l02At 39 fu (Code.sub [1, 1, 0, 1, 0, 0] (bodyF Try.prog 45))) f t (kBlock 0 (kSeq (fun s => exec Try.prog S_s_l02At 39 fu (Code.sub [1, 1, 1] (bodyF Try.prog 45)) s (finT Try.prog 45 dec_l30_2)) (finT Try.prog 45 dec_l30_2)))) fu l13' m13' y
    rw [h1, c3, h2]
    rfl
def G_s_l02At (p : Int) (colour : Int) (a : Int × Int) (q : Int) (lo2 : (List Int) → Nat → Int → Option (Nat × List Int)) : Option (Nat × List Int) :=
  lo2 [] 0 0
def Fo_s_l02At (fu : Nat) (p : Int) (colour : Int) (a : Int × Int) (q : Int) : Option (Nat × List Int) := G_s_l02At p colour a q (L_s_l02At_2 fu p colour a q fu)
theorem eqg_s_l02At (fu : Nat) (p : Int) (colour : Int) (a : Int × Int) (q : Int) : execT Try.prog S_s_l02At 45 39 fu dec_l30_2 [.v (.int .i64 p), .v (.int .i64 colour), .v (.agg ⟨[.int .i64 a.1, .int .i64 a.2]⟩), .v (.int .i64 q)] = G_s_l02At p colour a q (L_s_l02At_2 fu p colour a q fu) := by
  have h1 : execT Try.prog S_s_l02At 45 39 fu dec_l30_2 [.v (.int .i64 p), .v (.int .i64 colour), .v (.agg ⟨[.int .i64 a.1, .int .i64 a.2]⟩), .v (.int .i64 q)] = G_s_l02At p colour a q (X_s_l02At_2 Try.prog fu p colour a q fu) := by kernel_rfl
  have c2 : X_s_l02At_2 Try.prog fu p colour a q fu = L_s_l02At_2 fu p colour a q fu := by funext l13 m13 x; exact loop_s_l02At_2 fu p colour a q fu l13 m13 x
  rw [h1, c2]
theorem eq_s_l02At (fu : Nat) (p : Int) (colour : Int) (a : Int × Int) (q : Int) : execT Try.prog S_s_l02At 45 39 fu dec_l30_2 [.v (.int .i64 p), .v (.int .i64 colour), .v (.agg ⟨[.int .i64 a.1, .int .i64 a.2]⟩), .v (.int .i64 q)] = Fo_s_l02At fu p colour a q := eqg_s_l02At fu p colour a q
def s_l02At (p colour : Int) (a : P2) (q : Int) : Nat × List Int := (((pts p).filter fun zz => (s_l02Quadrance p colour a zz == q)).length, flat2 ((pts p).filter fun zz => (s_l02Quadrance p colour a zz == q)))
theorem lo3_s_l02At {p : Int} (hp : prB p = true) (colour : Int) (a : P2) (q : Int) (fu : Nat) (l13 : List Int) (m13 : Nat) (x : Int) (rec2 : List Int → Nat → Int → Option (Nat × List Int)) {F m : Nat} {l : List Int} (hF : p.toNat < F) (hm : m ≤ 100000) :
    L_s_l02At_3 fu p colour a q l13 m13 x rec2 F l m 0 = rec2 (l ++ flat2 ((List.range p.toNat).flatMap (fun y : Nat => if (s_l02Quadrance p colour a (x, (y : Int)) == q) = true then [((x : Int), (y : Int))] else []))) (m + ((List.range p.toNat).flatMap (fun y : Nat => if (s_l02Quadrance p colour a (x, (y : Int)) == q) = true then [((x : Int), (y : Int))] else [])).length) (wI (x + 1)) := by
  obtain ⟨h1, h0, hpn⟩ := prB_nat hp
  exact gather (flat := flat2) flat2_app rfl (L := fun f l m i => L_s_l02At_3 fu p colour a q l13 m13 x rec2 f l m i) (n := p.toNat) (b := 1) (M := 100000) ((fun y : Nat => if (s_l02Quadrance p colour a (x, (y : Int)) == q) = true then [((x : Int), (y : Int))] else [])) (K := (rec2 (l ++ flat2 ((List.range p.toNat).flatMap (fun y : Nat => if (s_l02Quadrance p colour a (x, (y : Int)) == q) = true then [((x : Int), (y : Int))] else []))) (m + ((List.range p.toNat).flatMap (fun y : Nat => if (s_l02Quadrance p colour a (x, (y : Int)) == q) = true then [((x : Int), (y : Int))] else [])).length) (wI (x + 1)))) (l := l) (m := m) (F := F) (by intro k hk; first | (split <;> simp) | simp_all)
    (fun f k l m hk hm => by
      show B_s_l02At_3 p colour a q l13 m13 x rec2 (L_s_l02At_3 fu p colour a q l13 m13 x rec2 f) l m (k : Int) = _
      unfold B_s_l02At_3
      have x0 : prB p = true := hp
      simp only [cndp hk, x0, if_true, wrap_add1 hk (by omega), show (Nat.ble 1 1 && Nat.ble (m + 1) 1000000 && Nat.beq 2 2) = true from by simp; omega]
      generalize ((s_l02Quadrance p colour a (x, (k : Int)) == q)) = c0
      cases c0 <;> first
        | rfl
        | (simp only [Bool.false_eq_true, Bool.false_and, Bool.and_false, Bool.true_and, if_false, if_true]
           rw [show flat2 [] = [] from rfl, List.append_nil]
           rfl))
    (fun f hm => by
      show B_s_l02At_3 p colour a q l13 m13 x rec2 (L_s_l02At_3 fu p colour a q l13 m13 x rec2 f) (l ++ flat2 ((List.range p.toNat).flatMap ((fun y : Nat => if (s_l02Quadrance p colour a (x, (y : Int)) == q) = true then [((x : Int), (y : Int))] else [])))) (m + ((List.range p.toNat).flatMap ((fun y : Nat => if (s_l02Quadrance p colour a (x, (y : Int)) == q) = true then [((x : Int), (y : Int))] else []))).length) ((p.toNat : Nat) : Int) = _
      unfold B_s_l02At_3
      rw [if_neg (by simp; omega)]) hF hm
theorem lo2_s_l02At {p : Int} (hp : prB p = true) (colour : Int) (a : P2) (q : Int) {F : Nat} (hF : p.toNat < F) : L_s_l02At_2 1000000 p colour a q F [] 0 0 = (some (((pts p).filter fun zz => (s_l02Quadrance p colour a zz == q)).length, flat2 ((pts p).filter fun zz => (s_l02Quadrance p colour a zz == q)))) := by
  obtain ⟨h1, h0, hpn⟩ := prB_nat hp
  exact gather (flat := flat2) flat2_app rfl (L := fun f l m i => L_s_l02At_2 1000000 p colour a q f l m i) (n := p.toNat) (b := 31) (M := 0) ((fun x : Nat => (List.range p.toNat).flatMap (fun y : Nat => if (s_l02Quadrance p colour a ((x : Int), (y : Int)) == q) = true then [(((x : Int) : Int), (y : Int))] else []))) (K := (some (((pts p).filter fun zz => (s_l02Quadrance p colour a zz == q)).length, flat2 ((pts p).filter fun zz => (s_l02Quadrance p colour a zz == q))))) (l := []) (m := 0) (F := F) (by intro k hk; refine Nat.le_trans (len_flatMap_le (b := 1) fun j _ => ?_) (by omega); first | (split <;> simp) | simp)
    (fun f k l m hk hm => by
      show B_s_l02At_2 p colour a q (L_s_l02At_3 1000000 p colour a q l m (k : Int) (L_s_l02At_2 1000000 p colour a q f) 1000000) (L_s_l02At_2 1000000 p colour a q f) l m (k : Int) = _
      unfold B_s_l02At_2
      rw [if_pos (cndp hk), lo3_s_l02At hp _ _ _ _ _ _ _ _ (by omega) (by omega), wrap_add1 hk (by omega)])
    (fun f hm => by
      show B_s_l02At_2 p colour a q (L_s_l02At_3 1000000 p colour a q ([] ++ flat2 ((List.range p.toNat).flatMap ((fun x : Nat => (List.range p.toNat).flatMap (fun y : Nat => if (s_l02Quadrance p colour a ((x : Int), (y : Int)) == q) = true then [(((x : Int) : Int), (y : Int))] else []))))) (0 + ((List.range p.toNat).flatMap ((fun x : Nat => (List.range p.toNat).flatMap (fun y : Nat => if (s_l02Quadrance p colour a ((x : Int), (y : Int)) == q) = true then [(((x : Int) : Int), (y : Int))] else [])))).length) ((p.toNat : Nat) : Int) (L_s_l02At_2 1000000 p colour a q f) 1000000) (L_s_l02At_2 1000000 p colour a q f) ([] ++ flat2 ((List.range p.toNat).flatMap ((fun x : Nat => (List.range p.toNat).flatMap (fun y : Nat => if (s_l02Quadrance p colour a ((x : Int), (y : Int)) == q) = true then [(((x : Int) : Int), (y : Int))] else []))))) (0 + ((List.range p.toNat).flatMap ((fun x : Nat => (List.range p.toNat).flatMap (fun y : Nat => if (s_l02Quadrance p colour a ((x : Int), (y : Int)) == q) = true then [(((x : Int) : Int), (y : Int))] else [])))).length) ((p.toNat : Nat) : Int) = _
      unfold B_s_l02At_2
      have hkp : ((List.range p.toNat).flatMap (fun x : Nat => (List.range p.toNat).flatMap (fun y : Nat => if (s_l02Quadrance p colour a ((x : Int), (y : Int)) == q) = true then [(((x : Int) : Int), (y : Int))] else []))) = (pts p).filter (fun zz => (s_l02Quadrance p colour a zz == q)) := grid_filter p.toNat (fun zz => (s_l02Quadrance p colour a zz == q))
      rw [if_neg (by simp; omega), hkp]
      simp) hF (Nat.le_refl _)

theorem tot_s_l02At (p : Int) (colour : Int) (a : Int × Int) (q : Int) (hp : (prB p) = true) : Fo_s_l02At 1000000 p colour a q = some (s_l02At p colour a q) := by
  unfold Fo_s_l02At G_s_l02At
  have h1 := (prB_nat hp).1
  exact lo2_s_l02At hp _ _ _ (by omega)
def run_s_l02At : List PV → Option (Bool × List TR)
  | [.v (.int .i64 p), .v (.int .i64 colour), .v (.agg ⟨[.int .i64 a0, .int .i64 a1]⟩), .v (.int .i64 q)] => some (prB p, enc_l30_2 (s_l02At p colour (a0, a1) q))
  | _ => none
theorem sound_s_l02At : Sound Try.prog 45 run_s_l02At := by
  refine sound_of de_l30_2 SO_s_l02At (by kernel_rfl) Try.func45 Try.ntmps45 rfl (by kernel_rfl) ?_
  intro W pvs avs rs hargs hrun
  unfold run_s_l02At at hrun
  split at hrun
  · simp only [Option.some.injEq, Prod.mk.injEq] at hrun
    obtain ⟨hp, rfl⟩ := hrun
    rename_i p colour a0 a1 q
    exact ⟨_, _, _, hargs, rfl, (eq_s_l02At _ p colour (a0, a1) q).trans (tot_s_l02At p colour (a0, a1) q hp)⟩
  · cases hrun

def S_s_UnitCounts : Sums := ⟨tblS [(44, run_s_l01Field), (45, run_s_l02At)], tblM []⟩
theorem SO_s_UnitCounts : SumsOK Try.prog S_s_UnitCounts := ⟨tblS_ok ⟨⟨Try.call44, sound_s_l01Field⟩, ⟨Try.call45, sound_s_l02At⟩, True.intro⟩, tblM_ok True.intro⟩
def Fo_s_UnitCounts (p : Int) : Option ((Nat × List Int) × Int) :=
  (if (!(s_l01Field p)) = true then some ((0, []), 1) else (if (prB p) = true then (if (prB p) = true then (if (prB p) = true then some ((3, [(((s_l02At p 0 (0, 0) 1).1 : Nat) : Int), (((s_l02At p 1 (0, 0) 1).1 : Nat) : Int), (((s_l02At p 2 (0, 0) 1).1 : Nat) : Int)]), 0) else none) else none) else none))
theorem eq_s_UnitCounts (p : Int) : execT Try.prog S_s_UnitCounts 13 23 1000000 dec_l2_1_i [.v (.int .i64 p)] = Fo_s_UnitCounts p := by
  kernel_rfl
def s_UnitCounts (p : Int) : (Nat × List Int) × Int :=
  (if (!(s_l01Field p)) = true then ((0, []), 1) else ((3, [(((s_l02At p 0 (0, 0) 1).1 : Nat) : Int), (((s_l02At p 1 (0, 0) 1).1 : Nat) : Int), (((s_l02At p 2 (0, 0) 1).1 : Nat) : Int)]), 0))
theorem tot_s_UnitCounts (p : Int) : Fo_s_UnitCounts p = some (s_UnitCounts p) := by
  unfold Fo_s_UnitCounts s_UnitCounts
  (try simp only [wI_eq])
  repeat' (first | with_reducible rfl | refine chk_opt (by first | with_reducible rfl | exact Bool.true_or _ | (with_reducible exact asked_prB ‹_›) | (with_reducible exact l09Code_prB ‹_›) | (with_reducible exact l01Code_prB ‹_›) | (with_reducible exact l01Numbers_prB ‹_›) | (with_reducible exact l01Lines_prB ‹_›) | (with_reducible exact asked_prB0 ‹_›) | (with_reducible exact l09Code_prB0 ‹_›) | (with_reducible exact l01Code_prB0 ‹_›) | (with_reducible exact l01Numbers_prB0 ‹_›) | (with_reducible exact l01Lines_prB0 ‹_›) | (with_reducible exact field_prB ‹_›) | (with_reducible exact field_prB0 ‹_›) | (with_reducible exact l08Code_prB ‹_›) | (with_reducible exact l08Code_prB0 ‹_›) | (with_reducible exact l08Given_prB ‹_›) | (with_reducible exact l08Given_prB0 ‹_›) | (with_reducible exact l02Code_prB ‹_›) | (with_reducible exact l02Code_prB0 ‹_›) | (with_reducible exact l04Code_prB ‹_›) | (with_reducible exact l04Code_prB0 ‹_›) | (with_reducible exact triangle_prB ‹_›) | (with_reducible exact triangle_prB0 ‹_›) | (with_reducible exact l01Both_prB ‹_›) | (with_reducible exact l01Both_prB0 ‹_›) | (with_reducible exact sfield_prB0 ‹_›) | exact mk_ok (by (first | (with_reducible assumption) | (with_reducible exact asked_prB ‹_›) | (with_reducible exact l09Code_prB ‹_›) | (with_reducible exact l01Code_prB ‹_›) | (with_reducible exact l01Numbers_prB ‹_›) | (with_reducible exact l01Lines_prB ‹_›) | (with_reducible exact asked_prB0 ‹_›) | (with_reducible exact l09Code_prB0 ‹_›) | (with_reducible exact l01Code_prB0 ‹_›) | (with_reducible exact l01Numbers_prB0 ‹_›) | (with_reducible exact l01Lines_prB0 ‹_›) | (with_reducible exact field_prB ‹_›) | (with_reducible exact field_prB0 ‹_›) | (with_reducible exact l08Code_prB ‹_›) | (with_reducible exact l08Code_prB0 ‹_›) | (with_reducible exact l08Given_prB ‹_›) | (with_reducible exact l08Given_prB0 ‹_›) | (with_reducible exact l02Code_prB ‹_›) | (with_reducible exact l02Code_prB0 ‹_›) | (with_reducible exact l04Code_prB ‹_›) | (with_reducible exact l04Code_prB0 ‹_›) | (with_reducible exact triangle_prB ‹_›) | (with_reducible exact triangle_prB0 ‹_›) | (with_reducible exact l01Both_prB ‹_›) | (with_reducible exact l01Both_prB0 ‹_›) | (with_reducible exact sfield_prB0 ‹_›))) | exact and_all (by (first | (with_reducible assumption) | (with_reducible exact asked_prB ‹_›) | (with_reducible exact l09Code_prB ‹_›) | (with_reducible exact l01Code_prB ‹_›) | (with_reducible exact l01Numbers_prB ‹_›) | (with_reducible exact l01Lines_prB ‹_›) | (with_reducible exact asked_prB0 ‹_›) | (with_reducible exact l09Code_prB0 ‹_›) | (with_reducible exact l01Code_prB0 ‹_›) | (with_reducible exact l01Numbers_prB0 ‹_›) | (with_reducible exact l01Lines_prB0 ‹_›) | (with_reducible exact field_prB ‹_›) | (with_reducible exact field_prB0 ‹_›) | (with_reducible exact l08Code_prB ‹_›) | (with_reducible exact l08Code_prB0 ‹_›) | (with_reducible exact l08Given_prB ‹_›) | (with_reducible exact l08Given_prB0 ‹_›) | (with_reducible exact l02Code_prB ‹_›) | (with_reducible exact l02Code_prB0 ‹_›) | (with_reducible exact l04Code_prB ‹_›) | (with_reducible exact l04Code_prB0 ‹_›) | (with_reducible exact triangle_prB ‹_›) | (with_reducible exact triangle_prB0 ‹_›) | (with_reducible exact l01Both_prB ‹_›) | (with_reducible exact l01Both_prB0 ‹_›) | (with_reducible exact sfield_prB0 ‹_›))) (fun _ => rfl) | exact and_all (by (first | (with_reducible assumption) | (with_reducible exact asked_prB ‹_›) | (with_reducible exact l09Code_prB ‹_›) | (with_reducible exact l01Code_prB ‹_›) | (with_reducible exact l01Numbers_prB ‹_›) | (with_reducible exact l01Lines_prB ‹_›) | (with_reducible exact asked_prB0 ‹_›) | (with_reducible exact l09Code_prB0 ‹_›) | (with_reducible exact l01Code_prB0 ‹_›) | (with_reducible exact l01Numbers_prB0 ‹_›) | (with_reducible exact l01Lines_prB0 ‹_›) | (with_reducible exact field_prB ‹_›) | (with_reducible exact field_prB0 ‹_›) | (with_reducible exact l08Code_prB ‹_›) | (with_reducible exact l08Code_prB0 ‹_›) | (with_reducible exact l08Given_prB ‹_›) | (with_reducible exact l08Given_prB0 ‹_›) | (with_reducible exact l02Code_prB ‹_›) | (with_reducible exact l02Code_prB0 ‹_›) | (with_reducible exact l04Code_prB ‹_›) | (with_reducible exact l04Code_prB0 ‹_›) | (with_reducible exact triangle_prB ‹_›) | (with_reducible exact triangle_prB0 ‹_›) | (with_reducible exact l01Both_prB ‹_›) | (with_reducible exact l01Both_prB0 ‹_›) | (with_reducible exact sfield_prB0 ‹_›))) (fun _ => by (first | (with_reducible assumption) | (with_reducible exact asked_prB ‹_›) | (with_reducible exact l09Code_prB ‹_›) | (with_reducible exact l01Code_prB ‹_›) | (with_reducible exact l01Numbers_prB ‹_›) | (with_reducible exact l01Lines_prB ‹_›) | (with_reducible exact asked_prB0 ‹_›) | (with_reducible exact l09Code_prB0 ‹_›) | (with_reducible exact l01Code_prB0 ‹_›) | (with_reducible exact l01Numbers_prB0 ‹_›) | (with_reducible exact l01Lines_prB0 ‹_›) | (with_reducible exact field_prB ‹_›) | (with_reducible exact field_prB0 ‹_›) | (with_reducible exact l08Code_prB ‹_›) | (with_reducible exact l08Code_prB0 ‹_›) | (with_reducible exact l08Given_prB ‹_›) | (with_reducible exact l08Given_prB0 ‹_›) | (with_reducible exact l02Code_prB ‹_›) | (with_reducible exact l02Code_prB0 ‹_›) | (with_reducible exact l04Code_prB ‹_›) | (with_reducible exact l04Code_prB0 ‹_›) | (with_reducible exact triangle_prB ‹_›) | (with_reducible exact triangle_prB0 ‹_›) | (with_reducible exact l01Both_prB ‹_›) | (with_reducible exact l01Both_prB0 ‹_›) | (with_reducible exact sfield_prB0 ‹_›))) | exact and3 (by (first | (with_reducible assumption) | (with_reducible exact asked_prB ‹_›) | (with_reducible exact l09Code_prB ‹_›) | (with_reducible exact l01Code_prB ‹_›) | (with_reducible exact l01Numbers_prB ‹_›) | (with_reducible exact l01Lines_prB ‹_›) | (with_reducible exact asked_prB0 ‹_›) | (with_reducible exact l09Code_prB0 ‹_›) | (with_reducible exact l01Code_prB0 ‹_›) | (with_reducible exact l01Numbers_prB0 ‹_›) | (with_reducible exact l01Lines_prB0 ‹_›) | (with_reducible exact field_prB ‹_›) | (with_reducible exact field_prB0 ‹_›) | (with_reducible exact l08Code_prB ‹_›) | (with_reducible exact l08Code_prB0 ‹_›) | (with_reducible exact l08Given_prB ‹_›) | (with_reducible exact l08Given_prB0 ‹_›) | (with_reducible exact l02Code_prB ‹_›) | (with_reducible exact l02Code_prB0 ‹_›) | (with_reducible exact l04Code_prB ‹_›) | (with_reducible exact l04Code_prB0 ‹_›) | (with_reducible exact triangle_prB ‹_›) | (with_reducible exact triangle_prB0 ‹_›) | (with_reducible exact l01Both_prB ‹_›) | (with_reducible exact l01Both_prB0 ‹_›) | (with_reducible exact sfield_prB0 ‹_›))) (by (first | (with_reducible assumption) | (with_reducible exact asked_prB ‹_›) | (with_reducible exact l09Code_prB ‹_›) | (with_reducible exact l01Code_prB ‹_›) | (with_reducible exact l01Numbers_prB ‹_›) | (with_reducible exact l01Lines_prB ‹_›) | (with_reducible exact asked_prB0 ‹_›) | (with_reducible exact l09Code_prB0 ‹_›) | (with_reducible exact l01Code_prB0 ‹_›) | (with_reducible exact l01Numbers_prB0 ‹_›) | (with_reducible exact l01Lines_prB0 ‹_›) | (with_reducible exact field_prB ‹_›) | (with_reducible exact field_prB0 ‹_›) | (with_reducible exact l08Code_prB ‹_›) | (with_reducible exact l08Code_prB0 ‹_›) | (with_reducible exact l08Given_prB ‹_›) | (with_reducible exact l08Given_prB0 ‹_›) | (with_reducible exact l02Code_prB ‹_›) | (with_reducible exact l02Code_prB0 ‹_›) | (with_reducible exact l04Code_prB ‹_›) | (with_reducible exact l04Code_prB0 ‹_›) | (with_reducible exact triangle_prB ‹_›) | (with_reducible exact triangle_prB0 ‹_›) | (with_reducible exact l01Both_prB ‹_›) | (with_reducible exact l01Both_prB0 ‹_›) | (with_reducible exact sfield_prB0 ‹_›))) (by (first | (with_reducible assumption) | (with_reducible exact asked_prB ‹_›) | (with_reducible exact l09Code_prB ‹_›) | (with_reducible exact l01Code_prB ‹_›) | (with_reducible exact l01Numbers_prB ‹_›) | (with_reducible exact l01Lines_prB ‹_›) | (with_reducible exact asked_prB0 ‹_›) | (with_reducible exact l09Code_prB0 ‹_›) | (with_reducible exact l01Code_prB0 ‹_›) | (with_reducible exact l01Numbers_prB0 ‹_›) | (with_reducible exact l01Lines_prB0 ‹_›) | (with_reducible exact field_prB ‹_›) | (with_reducible exact field_prB0 ‹_›) | (with_reducible exact l08Code_prB ‹_›) | (with_reducible exact l08Code_prB0 ‹_›) | (with_reducible exact l08Given_prB ‹_›) | (with_reducible exact l08Given_prB0 ‹_›) | (with_reducible exact l02Code_prB ‹_›) | (with_reducible exact l02Code_prB0 ‹_›) | (with_reducible exact l04Code_prB ‹_›) | (with_reducible exact l04Code_prB0 ‹_›) | (with_reducible exact triangle_prB ‹_›) | (with_reducible exact triangle_prB0 ‹_›) | (with_reducible exact l01Both_prB ‹_›) | (with_reducible exact l01Both_prB0 ‹_›) | (with_reducible exact sfield_prB0 ‹_›))) | rfl) ?_ | refine ite_opt (fun _ => ?_) (fun _ => ?_) | rfl)
def run_s_UnitCounts : List PV → Option (Bool × List TR)
  | [.v (.int .i64 p)] => some (true, enc_l2_1_i (s_UnitCounts p))
  | _ => none
theorem sound_s_UnitCounts : Sound Try.prog 13 run_s_UnitCounts := by
  refine sound_of de_l2_1_i SO_s_UnitCounts (by kernel_rfl) Try.func13 Try.ntmps13 rfl (by kernel_rfl) ?_
  intro W pvs avs rs hargs hrun
  unfold run_s_UnitCounts at hrun
  split at hrun
  · simp only [Option.some.injEq, Prod.mk.injEq] at hrun
    obtain ⟨hp, rfl⟩ := hrun
    rename_i p
    exact ⟨_, _, _, hargs, rfl, (eq_s_UnitCounts p).trans (tot_s_UnitCounts p)⟩
  · cases hrun


end Go.Proofs.Ytgadfldmbpgimaa
