import Derived.Test.YtpopgdmnajngjaaFe
import Derived.Test.YtpopgdmnajngjaaProg
set_option linter.unusedSimpArgs false
set_option linter.unusedVariables false
namespace Go.Proofs.Ytpopgdmnajngjaa
open Go.RowKit
noncomputable section
def S_i_pointsAt_c1 : Sums := ⟨tblS [(72, run_i_quadrance)], tblM []⟩
theorem SO_i_pointsAt_c1 : SumsOK Try.prog S_i_pointsAt_c1 := ⟨tblS_ok ⟨⟨Try.call72, sound_i_quadrance⟩, True.intro⟩, tblM_ok True.intro⟩
def Fo_i_pointsAt_c1 (b : Int × Int) (c0 : Int) (c1 : Int) (c2 : Int × Int) (c3 : Int) : Option (Bool) :=
  (if (prB c0) = true then some ((i_quadrance c0 c1 c2 b) == c3) else none)
theorem eq_i_pointsAt_c1 (b : Int × Int) (c0 : Int) (c1 : Int) (c2 : Int × Int) (c3 : Int) : execT Try.prog S_i_pointsAt_c1 102 14 (fun _ => 1000000) dec_b [.v (.agg ⟨[.int .i64 b.1, .int .i64 b.2]⟩), .p [.int .i64 c0], .p [.int .i64 c1], .p [.int .i64 c2.1, .int .i64 c2.2], .p [.int .i64 c3]] = Fo_i_pointsAt_c1 b c0 c1 c2 c3 := by
  kernel_rfl
def i_pointsAt_c1 (b : Int × Int) (c0 : Int) (c1 : Int) (c2 : Int × Int) (c3 : Int) : Bool :=
  (i_quadrance c0 c1 c2 b) == c3
theorem tot_i_pointsAt_c1 (b : Int × Int) (c0 : Int) (c1 : Int) (c2 : Int × Int) (c3 : Int) (hp : (prB c0) = true) : Fo_i_pointsAt_c1 b c0 c1 c2 c3 = some (i_pointsAt_c1 b c0 c1 c2 c3) := by
  try have h0 := prB_ne hp
  unfold Fo_i_pointsAt_c1 i_pointsAt_c1
  (try simp only [wI_eq])
  repeat' (first | with_reducible rfl | with_reducible refine chk_opt hp ?_ | with_reducible refine chk_opt h0 ?_ | refine chk_opt (and_all hp fun _ => hp) ?_ | refine chk_opt (and_all hp fun _ => rfl) ?_ | refine ite_opt (fun _ => ?_) (fun _ => ?_) | rfl)
def run_i_pointsAt_c1 : List PV → Option (Bool × List TR)
  | [.v (.agg ⟨[.int .i64 b0, .int .i64 b1]⟩), .p [.int .i64 c0], .p [.int .i64 c1], .p [.int .i64 c20, .int .i64 c21], .p [.int .i64 c3]] => some (prB c0, enc_b (i_pointsAt_c1 (b0, b1) c0 c1 (c20, c21) c3))
  | _ => none
theorem sound_i_pointsAt_c1 : Sound Try.prog 102 run_i_pointsAt_c1 := by
  refine sound_of de_b SO_i_pointsAt_c1 (by kernel_rfl) Try.func102 Try.ntmps102 rfl (by kernel_rfl) ?_
  intro W pvs avs rs hargs hrun
  unfold run_i_pointsAt_c1 at hrun
  split at hrun
  · simp only [Option.some.injEq, Prod.mk.injEq] at hrun
    obtain ⟨hp, rfl⟩ := hrun
    rename_i b0 b1 c0 c1 c20 c21 c3
    exact ⟨_, _, _, hargs, rfl, (eq_i_pointsAt_c1 (b0, b1) c0 c1 (c20, c21) c3).trans (tot_i_pointsAt_c1 (b0, b1) c0 c1 (c20, c21) c3 hp)⟩
  · cases hrun

def S_i_pointsWith : Sums := ⟨tblS [(130, run_i_allPoints)], tblM []⟩
theorem SO_i_pointsWith : SumsOK Try.prog S_i_pointsWith := ⟨tblS_ok ⟨⟨Try.call130, sound_i_allPoints⟩, True.intro⟩, tblM_ok True.intro⟩
def T_i_pointsWith_0 (p : Int) (holdsk : (Int × Int) → Bool) (holdsh : (Int × Int) → Bool) (l8 : List Int) (m8 : Nat) (t12 : Int) : Tab := ⟨[.val (.int .i64 p), .fn (clo_a2_b holdsk holdsh), .junk, .junk, .val (.slice none 0 0), .row 32, .junk, .junk, .junk, .val (.int .i64 p), .row 40, .val (.int .i64 (((i_allPoints p).1 : Nat) : Int)), .val (.int .i64 t12), .junk, .junk, .junk, .junk, .junk, .junk, .junk, .junk, .junk, .junk, .junk, .junk], [(32, .row 30 2 m8 (.ints l8)), (40, .row 30 2 ((i_allPoints p).1) (.ints ((i_allPoints p).2)))]⟩
def X_i_pointsWith_0 (P : Program) (fu : Nat) (p : Int) (holdsk : (Int × Int) → Bool) (holdsh : (Int × Int) → Bool) (f : Nat) (l8 : List Int) (m8 : Nat) (t12 : Int) : Option (Nat × List Int) := loopK (exec P S_i_pointsWith 25 (fun _ => fu + 100) (Code.sub [1, 1, 0, 1, 0, 0] (bodyF P 101))) f (T_i_pointsWith_0 p holdsk holdsh l8 m8 t12) (kBlock 0 (kSeq (fun s => exec P S_i_pointsWith 25 (fun _ => fu + 100) (Code.sub [1, 1, 1] (bodyF P 101)) s (finT P 101 dec_l30_2)) (finT P 101 dec_l30_2)))
def B_i_pointsWith_0 (p : Int) (holdsk : (Int × Int) → Bool) (holdsh : (Int × Int) → Bool) (rec0 : (List Int) → Nat → Int → Option (Nat × List Int)) (l8 : List Int) (m8 : Nat) (t12 : Int) : Option (Nat × List Int) :=
  (if (decide (t12 < (((i_allPoints p).1 : Nat) : Int))) = true then (if (decide (0 ≤ t12) && decide (t12 < (((i_allPoints p).1 : Nat) : Int))) = true then (if (Nat.ble (t12.toNat * 2 + 2) (((i_allPoints p).2).length)) = true then (if (holdsk (((i_allPoints p).2).getD (t12.toNat * 2 + 0) 0, ((i_allPoints p).2).getD (t12.toNat * 2 + 1) 0)) = true then (if (holdsh (((i_allPoints p).2).getD (t12.toNat * 2 + 0) 0, ((i_allPoints p).2).getD (t12.toNat * 2 + 1) 0)) = true then (if (Nat.ble 1 1 && Nat.ble (m8 + 1) 1000000 && Nat.beq 2 (2)) = true then rec0 (l8 ++ [((i_allPoints p).2).getD (t12.toNat * 2 + 0) 0, ((i_allPoints p).2).getD (t12.toNat * 2 + 1) 0]) (m8 + 1) (wI (t12 + 1)) else none) else rec0 l8 m8 (wI (t12 + 1))) else none) else none) else none) else some (m8, l8))
def L_i_pointsWith_0 (fu : Nat) (p : Int) (holdsk : (Int × Int) → Bool) (holdsh : (Int × Int) → Bool) : Nat → (List Int) → Nat → Int → Option (Nat × List Int)
  | 0, _, _, _ => none
  | f + 1, l8, m8, t12 => B_i_pointsWith_0 p holdsk holdsh (L_i_pointsWith_0 fu p holdsk holdsh f) l8 m8 t12
theorem loop_i_pointsWith_0 (fu : Nat) (p : Int) (holdsk : (Int × Int) → Bool) (holdsh : (Int × Int) → Bool) : ∀ (f : Nat) (l8 : List Int) (m8 : Nat) (t12 : Int), X_i_pointsWith_0 Try.prog fu p holdsk holdsh f l8 m8 t12 = L_i_pointsWith_0 fu p holdsk holdsh f l8 m8 t12 := by
  intro f
  induction f with
  | zero => intros; rfl
  | succ f ih =>
    intro l8 m8 t12
    have h1 : X_i_pointsWith_0 Try.prog fu p holdsk holdsh (f + 1) l8 m8 t12 = B_i_pointsWith_0 p holdsk holdsh (X_i_pointsWith_0 Try.prog fu p holdsk holdsh f) l8 m8 t12 := by kernel_rfl
    have h2 : X_i_pointsWith_0 Try.prog fu p holdsk holdsh f = L_i_pointsWith_0 fu p holdsk holdsh f := by funext l8 m8 t12; exact ih l8 m8 t12
    rw [h1, h2]
    rfl
def G_i_pointsWith (p : Int) (holdsk : (Int × Int) → Bool) (holdsh : (Int × Int) → Bool) (lo0 : (List Int) → Nat → Int → Option (Nat × List Int)) : Option (Nat × List Int) :=
  (if (prB p) = true then lo0 [] 0 0 else none)
def Fo_i_pointsWith (fu : Nat) (p : Int) (holdsk : (Int × Int) → Bool) (holdsh : (Int × Int) → Bool) : Option (Nat × List Int) := G_i_pointsWith p holdsk holdsh (L_i_pointsWith_0 fu p holdsk holdsh (fu + 100))
theorem eqg_i_pointsWith (fu : Nat) (p : Int) (holdsk : (Int × Int) → Bool) (holdsh : (Int × Int) → Bool) : execT Try.prog S_i_pointsWith 101 25 (fun _ => fu + 100) dec_l30_2 [.v (.int .i64 p), .f (clo_a2_b holdsk holdsh)] = G_i_pointsWith p holdsk holdsh (L_i_pointsWith_0 fu p holdsk holdsh (fu + 100)) := by
  have h1 : execT Try.prog S_i_pointsWith 101 25 (fun _ => fu + 100) dec_l30_2 [.v (.int .i64 p), .f (clo_a2_b holdsk holdsh)] = G_i_pointsWith p holdsk holdsh (X_i_pointsWith_0 Try.prog fu p holdsk holdsh (fu + 100)) := by kernel_rfl
  have c0 : X_i_pointsWith_0 Try.prog fu p holdsk holdsh (fu + 100) = L_i_pointsWith_0 fu p holdsk holdsh (fu + 100) := by funext l8 m8 t12; exact loop_i_pointsWith_0 fu p holdsk holdsh (fu + 100) l8 m8 t12
  rw [h1, c0]
theorem eq_i_pointsWith (fu : Nat) (p : Int) (holdsk : (Int × Int) → Bool) (holdsh : (Int × Int) → Bool) : execT Try.prog S_i_pointsWith 101 25 (fun _ => fu + 100) dec_l30_2 [.v (.int .i64 p), .f (clo_a2_b holdsk holdsh)] = Fo_i_pointsWith fu p holdsk holdsh := eqg_i_pointsWith fu p holdsk holdsh
def i_pointsWith (p : Int) (holdsk holdsh : P2 → Bool) : Nat × List Int := (((pts p).filter holdsh).length, flat2 ((pts p).filter holdsh))
theorem lo0_i_pointsWith (p : Int) (holdsk holdsh : P2 → Bool) (hp : prB p = true) (hall : ∀ k, k < (pts p).length → holdsk (R2 (flat2 (pts p)) k) = true) {F : Nat} (hF : 993 < F) : L_i_pointsWith_0 1000000 p holdsk holdsh F [] 0 0 = some (((pts p).filter fun zz => holdsh zz).length, flat2 ((pts p).filter fun zz => holdsh zz)) := by
  have hlen : (pts p).length ≤ 961 := pts_len hp
  exact gather (flat := flat2) flat2_app rfl (L := fun f l m i => L_i_pointsWith_0 1000000 p holdsk holdsh f l m i) (n := (pts p).length) (b := 1) (M := 0) (fun k => if (holdsh (R2 (flat2 (pts p)) k)) = true then [R2 (flat2 (pts p)) k] else []) (K := (some (((pts p).filter fun zz => holdsh zz).length, flat2 ((pts p).filter fun zz => holdsh zz)))) (l := []) (m := 0) (F := F) (by intro k hk; first | (split <;> simp) | simp_all)
    (fun f k l m hk hm => by
      show B_i_pointsWith_0 p holdsk holdsh (L_i_pointsWith_0 1000000 p holdsk holdsh f) l m (k : Int) = _
      unfold B_i_pointsWith_0
      have x0 : holdsk ((flat2 (pts p)).getD (k * 2 + 0) 0, (flat2 (pts p)).getD (k * 2 + 1) 0) = true := hall k hk
      have e0 : decide (0 ≤ (k : Int)) = true := by simp
      have e1 := cnd hk
      have e3 : (k : Int).toNat = k := Int.toNat_natCast k
      have e4 := row2_ok (flat2_len _) hk
      have e5 : Nat.ble 1 1 = true := rfl
      have e6 : Nat.ble (m + 1) 1000000 = true := leb (by omega)
      rw [show i_allPoints p = ((pts p).length, flat2 (pts p)) from rfl]
      simp only [e0, e1, e3, e4, e5, e6, beq22, x0, Bool.and_true, Bool.true_and, if_true, wrap_add1 hk (by omega)]
      have hq0 : ((holdsh ((flat2 (pts p)).getD (k * 2 + 0) 0, (flat2 (pts p)).getD (k * 2 + 1) 0))) = ((holdsh (R2 (flat2 (pts p)) k))) := rfl
      try rw [hq0]
      generalize ((holdsh (R2 (flat2 (pts p)) k))) = c0
      cases c0 <;> first
        | rfl
        | (simp only [Bool.false_eq_true, Bool.false_and, Bool.and_false, Bool.true_and, if_false, if_true]
           rw [show flat2 [] = [] from rfl, List.append_nil]
           rfl))
    (fun f hm => by
      show B_i_pointsWith_0 p holdsk holdsh (L_i_pointsWith_0 1000000 p holdsk holdsh f) ([] ++ flat2 ((List.range (pts p).length).flatMap (fun k => if (holdsh (R2 (flat2 (pts p)) k)) = true then [R2 (flat2 (pts p)) k] else []))) (0 + ((List.range (pts p).length).flatMap (fun k => if (holdsh (R2 (flat2 (pts p)) k)) = true then [R2 (flat2 (pts p)) k] else [])).length) (((pts p).length : Nat) : Int) = _
      unfold B_i_pointsWith_0
      have hkp : ((List.range ((pts p).length)).flatMap fun k => if (holdsh (R2 (flat2 (pts p)) k)) = true then [R2 (flat2 (pts p)) k] else []) = (rows2 ((pts p).length) (flat2 (pts p))).filter (fun zz => (holdsh zz)) := keep2 ((pts p).length) (flat2 (pts p)) (fun zz => (holdsh zz))
      rw [show i_allPoints p = ((pts p).length, flat2 (pts p)) from rfl]
      rw [if_neg (by simp), hkp, rows2_flat2]
      simp) (by omega) (Nat.le_refl _)

theorem tot_i_pointsWith (p : Int) (holdsk : (Int × Int) → Bool) (holdsh : (Int × Int) → Bool) (hp : (prB p && (pts p).all holdsk) = true) : Fo_i_pointsWith 1000000 p holdsk holdsh = some (i_pointsWith p holdsk holdsh) := by
  simp only [Bool.and_eq_true] at hp
  obtain ⟨hp, hall⟩ := hp
  unfold Fo_i_pointsWith G_i_pointsWith
  rw [if_pos hp]
  refine lo0_i_pointsWith p holdsk holdsh hp ?_ (by omega)
  intro k hk
  rw [R2_flat, List.getD_eq_getElem?_getD, List.getElem?_eq_getElem hk]
  exact List.all_eq_true.1 hall _ (List.getElem_mem hk)
def run_i_pointsWith : List PV → Option (Bool × List TR)
  | [.v (.int .i64 p), .f holdsg] => some (prB p && (pts p).all (fun a0 => okV (holdsg [.agg ⟨[.int .i64 a0.1, .int .i64 a0.2]⟩])), enc_l30_2 (i_pointsWith p (fun a0 => okV (holdsg [.agg ⟨[.int .i64 a0.1, .int .i64 a0.2]⟩])) (fun a0 => boolV (holdsg [.agg ⟨[.int .i64 a0.1, .int .i64 a0.2]⟩]))))
  | _ => none
theorem sound_i_pointsWith : Sound Try.prog 101 run_i_pointsWith := by
  refine sound_of de_l30_2 SO_i_pointsWith (by kernel_rfl) Try.func101 Try.ntmps101 rfl (by kernel_rfl) ?_
  intro W pvs avs rs hargs hrun
  unfold run_i_pointsWith at hrun
  split at hrun
  · simp only [Option.some.injEq, Prod.mk.injEq] at hrun
    obtain ⟨hp, rfl⟩ := hrun
    rename_i p holdsg
    have hargs := All2.replace (l1 := [_]) hargs (y := .f (clo_a2_b _ _)) fun b hb => fn_weaken hb (clo_a2_b_ok _)
    exact ⟨_, _, _, hargs, rfl, (eq_i_pointsWith _ p (fun a0 => okV (holdsg [.agg ⟨[.int .i64 a0.1, .int .i64 a0.2]⟩])) (fun a0 => boolV (holdsg [.agg ⟨[.int .i64 a0.1, .int .i64 a0.2]⟩]))).trans (tot_i_pointsWith p (fun a0 => okV (holdsg [.agg ⟨[.int .i64 a0.1, .int .i64 a0.2]⟩])) (fun a0 => boolV (holdsg [.agg ⟨[.int .i64 a0.1, .int .i64 a0.2]⟩])) hp)⟩
  · cases hrun

def S_i_pointsAt : Sums := ⟨tblS [(101, run_i_pointsWith), (102, run_i_pointsAt_c1)], tblM []⟩
theorem SO_i_pointsAt : SumsOK Try.prog S_i_pointsAt := ⟨tblS_ok ⟨⟨Try.call101, sound_i_pointsWith⟩, ⟨Try.call102, sound_i_pointsAt_c1⟩, True.intro⟩, tblM_ok True.intro⟩
def Fo_i_pointsAt (p : Int) (colour : Int) (a : Int × Int) (q : Int) : Option (Nat × List Int) :=
  (if (prB p && (pts p).all (fun a0 => prB p)) = true then some ((i_pointsWith p (fun a0 => prB p) (fun a0 => i_pointsAt_c1 a0 p colour a q)).1, (i_pointsWith p (fun a0 => prB p) (fun a0 => i_pointsAt_c1 a0 p colour a q)).2) else none)
theorem eq_i_pointsAt (p : Int) (colour : Int) (a : Int × Int) (q : Int) : execT Try.prog S_i_pointsAt 46 12 (fun _ => 1000000) dec_l30_2 [.v (.int .i64 p), .v (.int .i64 colour), .v (.agg ⟨[.int .i64 a.1, .int .i64 a.2]⟩), .v (.int .i64 q)] = Fo_i_pointsAt p colour a q := by
  kernel_rfl
def i_pointsAt (p : Int) (colour : Int) (a : Int × Int) (q : Int) : Nat × List Int :=
  ((i_pointsWith p (fun a0 => prB p) (fun a0 => i_pointsAt_c1 a0 p colour a q)).1, (i_pointsWith p (fun a0 => prB p) (fun a0 => i_pointsAt_c1 a0 p colour a q)).2)
theorem tot_i_pointsAt (p : Int) (colour : Int) (a : Int × Int) (q : Int) (hp : (prB p) = true) : Fo_i_pointsAt p colour a q = some (i_pointsAt p colour a q) := by
  try have h0 := prB_ne hp
  unfold Fo_i_pointsAt i_pointsAt
  (try simp only [wI_eq])
  repeat' (first | with_reducible rfl | with_reducible refine chk_opt hp ?_ | with_reducible refine chk_opt h0 ?_ | refine chk_opt (and_all hp fun _ => hp) ?_ | refine chk_opt (and_all hp fun _ => rfl) ?_ | refine ite_opt (fun _ => ?_) (fun _ => ?_) | rfl)
def run_i_pointsAt : List PV → Option (Bool × List TR)
  | [.v (.int .i64 p), .v (.int .i64 colour), .v (.agg ⟨[.int .i64 a0, .int .i64 a1]⟩), .v (.int .i64 q)] => some (prB p, enc_l30_2 (i_pointsAt p colour (a0, a1) q))
  | _ => none
theorem sound_i_pointsAt : Sound Try.prog 46 run_i_pointsAt := by
  refine sound_of de_l30_2 SO_i_pointsAt (by kernel_rfl) Try.func46 Try.ntmps46 rfl (by kernel_rfl) ?_
  intro W pvs avs rs hargs hrun
  unfold run_i_pointsAt at hrun
  split at hrun
  · simp only [Option.some.injEq, Prod.mk.injEq] at hrun
    obtain ⟨hp, rfl⟩ := hrun
    rename_i p colour a0 a1 q
    exact ⟨_, _, _, hargs, rfl, (eq_i_pointsAt p colour (a0, a1) q).trans (tot_i_pointsAt p colour (a0, a1) q hp)⟩
  · cases hrun

def S_i_UnitCounts : Sums := ⟨tblS [(45, run_i_IsField), (46, run_i_pointsAt)], tblM []⟩
theorem SO_i_UnitCounts : SumsOK Try.prog S_i_UnitCounts := ⟨tblS_ok ⟨⟨Try.call45, sound_i_IsField⟩, ⟨Try.call46, sound_i_pointsAt⟩, True.intro⟩, tblM_ok True.intro⟩
def Fo_i_UnitCounts (p : Int) : Option ((Nat × List Int) × Int) :=
  (if (!(i_IsField p)) = true then some ((0, []), 1) else (if (prB p) = true then (if (prB p) = true then (if (prB p) = true then some ((3, [(((i_pointsAt p 0 (0, 0) 1).1 : Nat) : Int), (((i_pointsAt p 1 (0, 0) 1).1 : Nat) : Int), (((i_pointsAt p 2 (0, 0) 1).1 : Nat) : Int)]), 0) else none) else none) else none))
theorem eq_i_UnitCounts (p : Int) : execT Try.prog S_i_UnitCounts 7 23 (fun _ => 1000000) dec_l2_1_i [.v (.int .i64 p)] = Fo_i_UnitCounts p := by
  kernel_rfl
def i_UnitCounts (p : Int) : (Nat × List Int) × Int :=
  (if (!(i_IsField p)) = true then ((0, []), 1) else ((3, [(((i_pointsAt p 0 (0, 0) 1).1 : Nat) : Int), (((i_pointsAt p 1 (0, 0) 1).1 : Nat) : Int), (((i_pointsAt p 2 (0, 0) 1).1 : Nat) : Int)]), 0))
theorem tot_i_UnitCounts (p : Int) : Fo_i_UnitCounts p = some (i_UnitCounts p) := by
  unfold Fo_i_UnitCounts i_UnitCounts
  (try simp only [wI_eq])
  repeat' (first | with_reducible rfl | refine chk_opt (by first | with_reducible rfl | exact Bool.true_or _ | (with_reducible exact field_prB ‹_›) | (with_reducible exact field_prB0 ‹_›) | exact mk_ok (by (first | (with_reducible assumption) | (with_reducible exact field_prB ‹_›) | (with_reducible exact field_prB0 ‹_›))) | exact and_all (by (first | (with_reducible assumption) | (with_reducible exact field_prB ‹_›) | (with_reducible exact field_prB0 ‹_›))) (fun _ => rfl) | exact and_all (by (first | (with_reducible assumption) | (with_reducible exact field_prB ‹_›) | (with_reducible exact field_prB0 ‹_›))) (fun _ => by (first | (with_reducible assumption) | (with_reducible exact field_prB ‹_›) | (with_reducible exact field_prB0 ‹_›))) | exact and3 (by (first | (with_reducible assumption) | (with_reducible exact field_prB ‹_›) | (with_reducible exact field_prB0 ‹_›))) (by (first | (with_reducible assumption) | (with_reducible exact field_prB ‹_›) | (with_reducible exact field_prB0 ‹_›))) (by (first | (with_reducible assumption) | (with_reducible exact field_prB ‹_›) | (with_reducible exact field_prB0 ‹_›))) | exact and_two (by (first | (with_reducible assumption) | (with_reducible exact field_prB ‹_›) | (with_reducible exact field_prB0 ‹_›))) rfl | rfl) ?_ | refine ite_opt (fun _ => ?_) (fun _ => ?_) | rfl)
def run_i_UnitCounts : List PV → Option (Bool × List TR)
  | [.v (.int .i64 p)] => some (true, enc_l2_1_i (i_UnitCounts p))
  | _ => none
theorem sound_i_UnitCounts : Sound Try.prog 7 run_i_UnitCounts := by
  refine sound_of de_l2_1_i SO_i_UnitCounts (by kernel_rfl) Try.func7 Try.ntmps7 rfl (by kernel_rfl) ?_
  intro W pvs avs rs hargs hrun
  unfold run_i_UnitCounts at hrun
  split at hrun
  · simp only [Option.some.injEq, Prod.mk.injEq] at hrun
    obtain ⟨hp, rfl⟩ := hrun
    rename_i p
    exact ⟨_, _, _, hargs, rfl, (eq_i_UnitCounts p).trans (tot_i_UnitCounts p)⟩
  · cases hrun

def S_s_UnitCounts : Sums := ⟨tblS [(47, run_s_l01Field), (48, run_s_l02At)], tblM []⟩
theorem SO_s_UnitCounts : SumsOK Try.prog S_s_UnitCounts := ⟨tblS_ok ⟨⟨Try.call47, sound_s_l01Field⟩, ⟨Try.call48, sound_s_l02At⟩, True.intro⟩, tblM_ok True.intro⟩
def Fo_s_UnitCounts (p : Int) : Option ((Nat × List Int) × Int) :=
  (if (!(s_l01Field p)) = true then some ((0, []), 1) else (if (prB p) = true then (if (prB p) = true then (if (prB p) = true then some ((3, [(((s_l02At p 0 (0, 0) 1).1 : Nat) : Int), (((s_l02At p 1 (0, 0) 1).1 : Nat) : Int), (((s_l02At p 2 (0, 0) 1).1 : Nat) : Int)]), 0) else none) else none) else none))
theorem eq_s_UnitCounts (p : Int) : execT Try.prog S_s_UnitCounts 8 23 (fun _ => 1000000) dec_l2_1_i [.v (.int .i64 p)] = Fo_s_UnitCounts p := by
  kernel_rfl
def s_UnitCounts (p : Int) : (Nat × List Int) × Int :=
  (if (!(s_l01Field p)) = true then ((0, []), 1) else ((3, [(((s_l02At p 0 (0, 0) 1).1 : Nat) : Int), (((s_l02At p 1 (0, 0) 1).1 : Nat) : Int), (((s_l02At p 2 (0, 0) 1).1 : Nat) : Int)]), 0))
theorem tot_s_UnitCounts (p : Int) : Fo_s_UnitCounts p = some (s_UnitCounts p) := by
  unfold Fo_s_UnitCounts s_UnitCounts
  (try simp only [wI_eq])
  repeat' (first | with_reducible rfl | refine chk_opt (by first | with_reducible rfl | exact Bool.true_or _ | (with_reducible exact sfield_prB0 ‹_›) | exact mk_ok (by (first | (with_reducible assumption) | (with_reducible exact sfield_prB0 ‹_›))) | exact and_all (by (first | (with_reducible assumption) | (with_reducible exact sfield_prB0 ‹_›))) (fun _ => rfl) | exact and_all (by (first | (with_reducible assumption) | (with_reducible exact sfield_prB0 ‹_›))) (fun _ => by (first | (with_reducible assumption) | (with_reducible exact sfield_prB0 ‹_›))) | exact and3 (by (first | (with_reducible assumption) | (with_reducible exact sfield_prB0 ‹_›))) (by (first | (with_reducible assumption) | (with_reducible exact sfield_prB0 ‹_›))) (by (first | (with_reducible assumption) | (with_reducible exact sfield_prB0 ‹_›))) | exact and_two (by (first | (with_reducible assumption) | (with_reducible exact sfield_prB0 ‹_›))) rfl | rfl) ?_ | refine ite_opt (fun _ => ?_) (fun _ => ?_) | rfl)
def run_s_UnitCounts : List PV → Option (Bool × List TR)
  | [.v (.int .i64 p)] => some (true, enc_l2_1_i (s_UnitCounts p))
  | _ => none
theorem sound_s_UnitCounts : Sound Try.prog 8 run_s_UnitCounts := by
  refine sound_of de_l2_1_i SO_s_UnitCounts (by kernel_rfl) Try.func8 Try.ntmps8 rfl (by kernel_rfl) ?_
  intro W pvs avs rs hargs hrun
  unfold run_s_UnitCounts at hrun
  split at hrun
  · simp only [Option.some.injEq, Prod.mk.injEq] at hrun
    obtain ⟨hp, rfl⟩ := hrun
    rename_i p
    exact ⟨_, _, _, hargs, rfl, (eq_s_UnitCounts p).trans (tot_s_UnitCounts p)⟩
  · cases hrun

def S_i_FootOf_c1 : Sums := ⟨tblS [(75, run_i_isColour), (98, run_i_isPoint), (55, run_i_isLine)], tblM []⟩
theorem SO_i_FootOf_c1 : SumsOK Try.prog S_i_FootOf_c1 := ⟨tblS_ok ⟨⟨Try.call75, sound_i_isColour⟩, ⟨Try.call98, sound_i_isPoint⟩, ⟨Try.call55, sound_i_isLine⟩, True.intro⟩, tblM_ok True.intro⟩
def Fo_i_FootOf_c1 (c0 : Int) (c1 : Int) (c2 : Int × Int) (c3 : Int × Int × Int) : Option (Bool) :=
  (if (i_isColour c0) = true then (if (i_isPoint c1 c2) = true then some (i_isLine c1 c3) else some false) else some false)
theorem eq_i_FootOf_c1 (c0 : Int) (c1 : Int) (c2 : Int × Int) (c3 : Int × Int × Int) : execT Try.prog S_i_FootOf_c1 110 17 (fun _ => 1000000) dec_b [.p [.int .i64 c0], .p [.int .i64 c1], .p [.int .i64 c2.1, .int .i64 c2.2], .p [.int .i64 c3.1, .int .i64 c3.2.1, .int .i64 c3.2.2]] = Fo_i_FootOf_c1 c0 c1 c2 c3 := by
  kernel_rfl
def i_FootOf_c1 (c0 : Int) (c1 : Int) (c2 : Int × Int) (c3 : Int × Int × Int) : Bool :=
  (if (i_isColour c0) = true then (if (i_isPoint c1 c2) = true then (i_isLine c1 c3) else false) else false)
theorem tot_i_FootOf_c1 (c0 : Int) (c1 : Int) (c2 : Int × Int) (c3 : Int × Int × Int) : Fo_i_FootOf_c1 c0 c1 c2 c3 = some (i_FootOf_c1 c0 c1 c2 c3) := by
  unfold Fo_i_FootOf_c1 i_FootOf_c1
  (try simp only [wI_eq])
  repeat' (first | with_reducible rfl | refine ite_opt (fun _ => ?_) (fun _ => ?_) | rfl)
def run_i_FootOf_c1 : List PV → Option (Bool × List TR)
  | [.p [.int .i64 c0], .p [.int .i64 c1], .p [.int .i64 c20, .int .i64 c21], .p [.int .i64 c30, .int .i64 c31, .int .i64 c32]] => some (true, enc_b (i_FootOf_c1 c0 c1 (c20, c21) (c30, c31, c32)))
  | _ => none
theorem sound_i_FootOf_c1 : Sound Try.prog 110 run_i_FootOf_c1 := by
  refine sound_of de_b SO_i_FootOf_c1 (by kernel_rfl) Try.func110 Try.ntmps110 rfl (by kernel_rfl) ?_
  intro W pvs avs rs hargs hrun
  unfold run_i_FootOf_c1 at hrun
  split at hrun
  · simp only [Option.some.injEq, Prod.mk.injEq] at hrun
    obtain ⟨hp, rfl⟩ := hrun
    rename_i c0 c1 c20 c21 c30 c31 c32
    exact ⟨_, _, _, hargs, rfl, (eq_i_FootOf_c1 c0 c1 (c20, c21) (c30, c31, c32)).trans (tot_i_FootOf_c1 c0 c1 (c20, c21) (c30, c31, c32))⟩
  · cases hrun

def S_i_FootOf : Sums := ⟨tblS [(53, run_i_asked), (110, run_i_FootOf_c1), (58, run_i_isNull), (111, run_i_foot)], tblM []⟩
theorem SO_i_FootOf : SumsOK Try.prog S_i_FootOf := ⟨tblS_ok ⟨⟨Try.call53, sound_i_asked⟩, ⟨Try.call110, sound_i_FootOf_c1⟩, ⟨Try.call58, sound_i_isNull⟩, ⟨Try.call111, sound_i_foot⟩, True.intro⟩, tblM_ok True.intro⟩
def Fo_i_FootOf (p : Int) (colour : Int) (a : Int × Int) (l : Int × Int × Int) : Option ((Int × Int) × Int) :=
  (if ((true) || !(i_IsField p)) = true then (if ((i_asked p (true) (i_FootOf_c1 colour p a l)) != 0) = true then some ((0, 0), (i_asked p (true) (i_FootOf_c1 colour p a l))) else (if (prB p) = true then (if (i_isNull p colour l) = true then some ((0, 0), 5) else (if (prB p) = true then some ((i_foot p colour a l), 0) else none)) else none)) else none)
theorem eq_i_FootOf (p : Int) (colour : Int) (a : Int × Int) (l : Int × Int × Int) : execT Try.prog S_i_FootOf 50 28 (fun _ => 1000000) dec_a2_i [.v (.int .i64 p), .v (.int .i64 colour), .v (.agg ⟨[.int .i64 a.1, .int .i64 a.2]⟩), .v (.agg ⟨[.int .i64 l.1, .int .i64 l.2.1, .int .i64 l.2.2]⟩)] = Fo_i_FootOf p colour a l := by
  kernel_rfl
def i_FootOf (p : Int) (colour : Int) (a : Int × Int) (l : Int × Int × Int) : (Int × Int) × Int :=
  (if ((i_asked p (true) (i_FootOf_c1 colour p a l)) != 0) = true then ((0, 0), (i_asked p (true) (i_FootOf_c1 colour p a l))) else (if (i_isNull p colour l) = true then ((0, 0), 5) else ((i_foot p colour a l), 0)))
theorem tot_i_FootOf (p : Int) (colour : Int) (a : Int × Int) (l : Int × Int × Int) : Fo_i_FootOf p colour a l = some (i_FootOf p colour a l) := by
  unfold Fo_i_FootOf i_FootOf
  (try simp only [wI_eq])
  repeat' (first | with_reducible rfl | refine chk_opt (by first | with_reducible rfl | exact Bool.true_or _ | (with_reducible exact asked_prB ‹_›) | (with_reducible exact asked_prB0 ‹_›) | exact mk_ok (by (first | (with_reducible assumption) | (with_reducible exact asked_prB ‹_›) | (with_reducible exact asked_prB0 ‹_›))) | exact and_all (by (first | (with_reducible assumption) | (with_reducible exact asked_prB ‹_›) | (with_reducible exact asked_prB0 ‹_›))) (fun _ => rfl) | exact and_all (by (first | (with_reducible assumption) | (with_reducible exact asked_prB ‹_›) | (with_reducible exact asked_prB0 ‹_›))) (fun _ => by (first | (with_reducible assumption) | (with_reducible exact asked_prB ‹_›) | (with_reducible exact asked_prB0 ‹_›))) | exact and3 (by (first | (with_reducible assumption) | (with_reducible exact asked_prB ‹_›) | (with_reducible exact asked_prB0 ‹_›))) (by (first | (with_reducible assumption) | (with_reducible exact asked_prB ‹_›) | (with_reducible exact asked_prB0 ‹_›))) (by (first | (with_reducible assumption) | (with_reducible exact asked_prB ‹_›) | (with_reducible exact asked_prB0 ‹_›))) | exact and_two (by (first | (with_reducible assumption) | (with_reducible exact asked_prB ‹_›) | (with_reducible exact asked_prB0 ‹_›))) rfl | rfl) ?_ | refine ite_opt (fun _ => ?_) (fun _ => ?_) | rfl)
def run_i_FootOf : List PV → Option (Bool × List TR)
  | [.v (.int .i64 p), .v (.int .i64 colour), .v (.agg ⟨[.int .i64 a0, .int .i64 a1]⟩), .v (.agg ⟨[.int .i64 l0, .int .i64 l1, .int .i64 l2]⟩)] => some (true, enc_a2_i (i_FootOf p colour (a0, a1) (l0, l1, l2)))
  | _ => none
theorem sound_i_FootOf : Sound Try.prog 50 run_i_FootOf := by
  refine sound_of de_a2_i SO_i_FootOf (by kernel_rfl) Try.func50 Try.ntmps50 rfl (by kernel_rfl) ?_
  intro W pvs avs rs hargs hrun
  unfold run_i_FootOf at hrun
  split at hrun
  · simp only [Option.some.injEq, Prod.mk.injEq] at hrun
    obtain ⟨hp, rfl⟩ := hrun
    rename_i p colour a0 a1 l0 l1 l2
    exact ⟨_, _, _, hargs, rfl, (eq_i_FootOf p colour (a0, a1) (l0, l1, l2)).trans (tot_i_FootOf p colour (a0, a1) (l0, l1, l2))⟩
  · cases hrun

def S_i_ThreeFeet : Sums := ⟨tblS [(50, run_i_FootOf)], tblM []⟩
theorem SO_i_ThreeFeet : SumsOK Try.prog S_i_ThreeFeet := ⟨tblS_ok ⟨⟨Try.call50, sound_i_FootOf⟩, True.intro⟩, tblM_ok True.intro⟩
def Fo_i_ThreeFeet (p : Int) (a : Int × Int) (l : Int × Int × Int) : Option ((Nat × List Int) × Int) :=
  (if (((i_FootOf p 0 a l).2) != 0) = true then some ((0, []), (i_FootOf p 0 a l).2) else (if (((i_FootOf p 1 a l).2) != 0) = true then some ((0, []), (i_FootOf p 1 a l).2) else (if (((i_FootOf p 2 a l).2) != 0) = true then some ((0, []), (i_FootOf p 2 a l).2) else some ((3, [((i_FootOf p 0 a l).1).1, ((i_FootOf p 0 a l).1).2, ((i_FootOf p 1 a l).1).1, ((i_FootOf p 1 a l).1).2, ((i_FootOf p 2 a l).1).1, ((i_FootOf p 2 a l).1).2]), 0))))
theorem eq_i_ThreeFeet (p : Int) (a : Int × Int) (l : Int × Int × Int) : execT Try.prog S_i_ThreeFeet 11 33 (fun _ => 1000000) dec_l30_2_i [.v (.int .i64 p), .v (.agg ⟨[.int .i64 a.1, .int .i64 a.2]⟩), .v (.agg ⟨[.int .i64 l.1, .int .i64 l.2.1, .int .i64 l.2.2]⟩)] = Fo_i_ThreeFeet p a l := by
  kernel_rfl
def i_ThreeFeet (p : Int) (a : Int × Int) (l : Int × Int × Int) : (Nat × List Int) × Int :=
  (if (((i_FootOf p 0 a l).2) != 0) = true then ((0, []), (i_FootOf p 0 a l).2) else (if (((i_FootOf p 1 a l).2) != 0) = true then ((0, []), (i_FootOf p 1 a l).2) else (if (((i_FootOf p 2 a l).2) != 0) = true then ((0, []), (i_FootOf p 2 a l).2) else ((3, [((i_FootOf p 0 a l).1).1, ((i_FootOf p 0 a l).1).2, ((i_FootOf p 1 a l).1).1, ((i_FootOf p 1 a l).1).2, ((i_FootOf p 2 a l).1).1, ((i_FootOf p 2 a l).1).2]), 0))))
theorem tot_i_ThreeFeet (p : Int) (a : Int × Int) (l : Int × Int × Int) : Fo_i_ThreeFeet p a l = some (i_ThreeFeet p a l) := by
  unfold Fo_i_ThreeFeet i_ThreeFeet
  (try simp only [wI_eq])
  repeat' (first | with_reducible rfl | refine ite_opt (fun _ => ?_) (fun _ => ?_) | rfl)
def run_i_ThreeFeet : List PV → Option (Bool × List TR)
  | [.v (.int .i64 p), .v (.agg ⟨[.int .i64 a0, .int .i64 a1]⟩), .v (.agg ⟨[.int .i64 l0, .int .i64 l1, .int .i64 l2]⟩)] => some (true, enc_l30_2_i (i_ThreeFeet p (a0, a1) (l0, l1, l2)))
  | _ => none
theorem sound_i_ThreeFeet : Sound Try.prog 11 run_i_ThreeFeet := by
  refine sound_of de_l30_2_i SO_i_ThreeFeet (by kernel_rfl) Try.func11 Try.ntmps11 rfl (by kernel_rfl) ?_
  intro W pvs avs rs hargs hrun
  unfold run_i_ThreeFeet at hrun
  split at hrun
  · simp only [Option.some.injEq, Prod.mk.injEq] at hrun
    obtain ⟨hp, rfl⟩ := hrun
    rename_i p a0 a1 l0 l1 l2
    exact ⟨_, _, _, hargs, rfl, (eq_i_ThreeFeet p (a0, a1) (l0, l1, l2)).trans (tot_i_ThreeFeet p (a0, a1) (l0, l1, l2))⟩
  · cases hrun

def S_s_ThreeFeet : Sums := ⟨tblS [(51, run_s_l01Both), (52, run_s_l02Foot)], tblM []⟩
theorem SO_s_ThreeFeet : SumsOK Try.prog S_s_ThreeFeet := ⟨tblS_ok ⟨⟨Try.call51, sound_s_l01Both⟩, ⟨Try.call52, sound_s_l02Foot⟩, True.intro⟩, tblM_ok True.intro⟩
def Fo_s_ThreeFeet (p : Int) (a : Int × Int) (l : Int × Int × Int) : Option ((Nat × List Int) × Int) :=
  (if ((s_l01Both p a l) != 0) = true then some ((0, []), (s_l01Both p a l)) else (if (prB p) = true then (if (!((s_l02Foot p 0 a l).2)) = true then some ((0, []), 5) else (if (prB p) = true then (if (!((s_l02Foot p 1 a l).2)) = true then some ((0, []), 5) else (if (prB p) = true then (if (!((s_l02Foot p 2 a l).2)) = true then some ((0, []), 5) else some ((3, [((s_l02Foot p 0 a l).1).1, ((s_l02Foot p 0 a l).1).2, ((s_l02Foot p 1 a l).1).1, ((s_l02Foot p 1 a l).1).2, ((s_l02Foot p 2 a l).1).1, ((s_l02Foot p 2 a l).1).2]), 0)) else none)) else none)) else none))
theorem eq_s_ThreeFeet (p : Int) (a : Int × Int) (l : Int × Int × Int) : execT Try.prog S_s_ThreeFeet 12 40 (fun _ => 1000000) dec_l30_2_i [.v (.int .i64 p), .v (.agg ⟨[.int .i64 a.1, .int .i64 a.2]⟩), .v (.agg ⟨[.int .i64 l.1, .int .i64 l.2.1, .int .i64 l.2.2]⟩)] = Fo_s_ThreeFeet p a l := by
  kernel_rfl
def s_ThreeFeet (p : Int) (a : Int × Int) (l : Int × Int × Int) : (Nat × List Int) × Int :=
  (if ((s_l01Both p a l) != 0) = true then ((0, []), (s_l01Both p a l)) else (if (!((s_l02Foot p 0 a l).2)) = true then ((0, []), 5) else (if (!((s_l02Foot p 1 a l).2)) = true then ((0, []), 5) else (if (!((s_l02Foot p 2 a l).2)) = true then ((0, []), 5) else ((3, [((s_l02Foot p 0 a l).1).1, ((s_l02Foot p 0 a l).1).2, ((s_l02Foot p 1 a l).1).1, ((s_l02Foot p 1 a l).1).2, ((s_l02Foot p 2 a l).1).1, ((s_l02Foot p 2 a l).1).2]), 0)))))
theorem tot_s_ThreeFeet (p : Int) (a : Int × Int) (l : Int × Int × Int) : Fo_s_ThreeFeet p a l = some (s_ThreeFeet p a l) := by
  unfold Fo_s_ThreeFeet s_ThreeFeet
  (try simp only [wI_eq])
  repeat' (first | with_reducible rfl | refine chk_opt (by first | with_reducible rfl | exact Bool.true_or _ | (with_reducible exact l01Both_prB ‹_›) | (with_reducible exact l01Both_prB0 ‹_›) | exact mk_ok (by (first | (with_reducible assumption) | (with_reducible exact l01Both_prB ‹_›) | (with_reducible exact l01Both_prB0 ‹_›))) | exact and_all (by (first | (with_reducible assumption) | (with_reducible exact l01Both_prB ‹_›) | (with_reducible exact l01Both_prB0 ‹_›))) (fun _ => rfl) | exact and_all (by (first | (with_reducible assumption) | (with_reducible exact l01Both_prB ‹_›) | (with_reducible exact l01Both_prB0 ‹_›))) (fun _ => by (first | (with_reducible assumption) | (with_reducible exact l01Both_prB ‹_›) | (with_reducible exact l01Both_prB0 ‹_›))) | exact and3 (by (first | (with_reducible assumption) | (with_reducible exact l01Both_prB ‹_›) | (with_reducible exact l01Both_prB0 ‹_›))) (by (first | (with_reducible assumption) | (with_reducible exact l01Both_prB ‹_›) | (with_reducible exact l01Both_prB0 ‹_›))) (by (first | (with_reducible assumption) | (with_reducible exact l01Both_prB ‹_›) | (with_reducible exact l01Both_prB0 ‹_›))) | exact and_two (by (first | (with_reducible assumption) | (with_reducible exact l01Both_prB ‹_›) | (with_reducible exact l01Both_prB0 ‹_›))) rfl | rfl) ?_ | refine ite_opt (fun _ => ?_) (fun _ => ?_) | rfl)
def run_s_ThreeFeet : List PV → Option (Bool × List TR)
  | [.v (.int .i64 p), .v (.agg ⟨[.int .i64 a0, .int .i64 a1]⟩), .v (.agg ⟨[.int .i64 l0, .int .i64 l1, .int .i64 l2]⟩)] => some (true, enc_l30_2_i (s_ThreeFeet p (a0, a1) (l0, l1, l2)))
  | _ => none
theorem sound_s_ThreeFeet : Sound Try.prog 12 run_s_ThreeFeet := by
  refine sound_of de_l30_2_i SO_s_ThreeFeet (by kernel_rfl) Try.func12 Try.ntmps12 rfl (by kernel_rfl) ?_
  intro W pvs avs rs hargs hrun
  unfold run_s_ThreeFeet at hrun
  split at hrun
  · simp only [Option.some.injEq, Prod.mk.injEq] at hrun
    obtain ⟨hp, rfl⟩ := hrun
    rename_i p a0 a1 l0 l1 l2
    exact ⟨_, _, _, hargs, rfl, (eq_s_ThreeFeet p (a0, a1) (l0, l1, l2)).trans (tot_s_ThreeFeet p (a0, a1) (l0, l1, l2))⟩
  · cases hrun

def S_i_NullColours_c1 : Sums := ⟨tblS [(55, run_i_isLine)], tblM []⟩
theorem SO_i_NullColours_c1 : SumsOK Try.prog S_i_NullColours_c1 := ⟨tblS_ok ⟨⟨Try.call55, sound_i_isLine⟩, True.intro⟩, tblM_ok True.intro⟩
def Fo_i_NullColours_c1 (c0 : Int) (c1 : Int × Int × Int) : Option (Bool) :=
  some (i_isLine c0 c1)
theorem eq_i_NullColours_c1 (c0 : Int) (c1 : Int × Int × Int) : execT Try.prog S_i_NullColours_c1 54 6 (fun _ => 1000000) dec_b [.p [.int .i64 c0], .p [.int .i64 c1.1, .int .i64 c1.2.1, .int .i64 c1.2.2]] = Fo_i_NullColours_c1 c0 c1 := by
  kernel_rfl
def i_NullColours_c1 (c0 : Int) (c1 : Int × Int × Int) : Bool :=
  (i_isLine c0 c1)
theorem tot_i_NullColours_c1 (c0 : Int) (c1 : Int × Int × Int) : Fo_i_NullColours_c1 c0 c1 = some (i_NullColours_c1 c0 c1) := by
  unfold Fo_i_NullColours_c1 i_NullColours_c1
  (try simp only [wI_eq])
  repeat' (first | with_reducible rfl | refine ite_opt (fun _ => ?_) (fun _ => ?_) | rfl)
def run_i_NullColours_c1 : List PV → Option (Bool × List TR)
  | [.p [.int .i64 c0], .p [.int .i64 c10, .int .i64 c11, .int .i64 c12]] => some (true, enc_b (i_NullColours_c1 c0 (c10, c11, c12)))
  | _ => none
theorem sound_i_NullColours_c1 : Sound Try.prog 54 run_i_NullColours_c1 := by
  refine sound_of de_b SO_i_NullColours_c1 (by kernel_rfl) Try.func54 Try.ntmps54 rfl (by kernel_rfl) ?_
  intro W pvs avs rs hargs hrun
  unfold run_i_NullColours_c1 at hrun
  split at hrun
  · simp only [Option.some.injEq, Prod.mk.injEq] at hrun
    obtain ⟨hp, rfl⟩ := hrun
    rename_i c0 c10 c11 c12
    exact ⟨_, _, _, hargs, rfl, (eq_i_NullColours_c1 c0 (c10, c11, c12)).trans (tot_i_NullColours_c1 c0 (c10, c11, c12))⟩
  · cases hrun

def S_i_NullColours_c2 : Sums := ⟨tblS [(58, run_i_isNull)], tblM []⟩
theorem SO_i_NullColours_c2 : SumsOK Try.prog S_i_NullColours_c2 := ⟨tblS_ok ⟨⟨Try.call58, sound_i_isNull⟩, True.intro⟩, tblM_ok True.intro⟩
def Fo_i_NullColours_c2 (colour : Int) (c0 : Int) (c1 : Int × Int × Int) : Option (Bool) :=
  (if (prB c0) = true then some (i_isNull c0 colour c1) else none)
theorem eq_i_NullColours_c2 (colour : Int) (c0 : Int) (c1 : Int × Int × Int) : execT Try.prog S_i_NullColours_c2 57 9 (fun _ => 1000000) dec_b [.v (.int .i64 colour), .p [.int .i64 c0], .p [.int .i64 c1.1, .int .i64 c1.2.1, .int .i64 c1.2.2]] = Fo_i_NullColours_c2 colour c0 c1 := by
  kernel_rfl
def i_NullColours_c2 (colour : Int) (c0 : Int) (c1 : Int × Int × Int) : Bool :=
  (i_isNull c0 colour c1)
theorem tot_i_NullColours_c2 (colour : Int) (c0 : Int) (c1 : Int × Int × Int) (hp : (prB c0) = true) : Fo_i_NullColours_c2 colour c0 c1 = some (i_NullColours_c2 colour c0 c1) := by
  try have h0 := prB_ne hp
  unfold Fo_i_NullColours_c2 i_NullColours_c2
  (try simp only [wI_eq])
  repeat' (first | with_reducible rfl | with_reducible refine chk_opt hp ?_ | with_reducible refine chk_opt h0 ?_ | refine chk_opt (and_all hp fun _ => hp) ?_ | refine chk_opt (and_all hp fun _ => rfl) ?_ | refine ite_opt (fun _ => ?_) (fun _ => ?_) | rfl)
def run_i_NullColours_c2 : List PV → Option (Bool × List TR)
  | [.v (.int .i64 colour), .p [.int .i64 c0], .p [.int .i64 c10, .int .i64 c11, .int .i64 c12]] => some (prB c0, enc_b (i_NullColours_c2 colour c0 (c10, c11, c12)))
  | _ => none
theorem sound_i_NullColours_c2 : Sound Try.prog 57 run_i_NullColours_c2 := by
  refine sound_of de_b SO_i_NullColours_c2 (by kernel_rfl) Try.func57 Try.ntmps57 rfl (by kernel_rfl) ?_
  intro W pvs avs rs hargs hrun
  unfold run_i_NullColours_c2 at hrun
  split at hrun
  · simp only [Option.some.injEq, Prod.mk.injEq] at hrun
    obtain ⟨hp, rfl⟩ := hrun
    rename_i colour c0 c10 c11 c12
    exact ⟨_, _, _, hargs, rfl, (eq_i_NullColours_c2 colour c0 (c10, c11, c12)).trans (tot_i_NullColours_c2 colour c0 (c10, c11, c12) hp)⟩
  · cases hrun

def S_i_coloursWith : Sums := ⟨tblS [], tblM []⟩
theorem SO_i_coloursWith : SumsOK Try.prog S_i_coloursWith := ⟨tblS_ok True.intro, tblM_ok True.intro⟩
def Fo_i_coloursWith (holdsk : Int → Bool) (holdsh : Int → Bool) : Option (Nat × List Int) :=
  (if (holdsk 0) = true then (if (holdsh 0) = true then (if (holdsk 1) = true then (if (holdsh 1) = true then (if (holdsk 2) = true then (if (holdsh 2) = true then some (3, [0, 1, 2]) else some (2, [0, 1])) else none) else (if (holdsk 2) = true then (if (holdsh 2) = true then some (2, [0, 2]) else some (1, [0])) else none)) else none) else (if (holdsk 1) = true then (if (holdsh 1) = true then (if (holdsk 2) = true then (if (holdsh 2) = true then some (2, [1, 2]) else some (1, [1])) else none) else (if (holdsk 2) = true then (if (holdsh 2) = true then some (1, [2]) else some (0, [])) else none)) else none)) else none)
theorem eq_i_coloursWith (holdsk : Int → Bool) (holdsh : Int → Bool) : execT Try.prog S_i_coloursWith 56 18 (fun _ => 1000000) dec_l2_1 [.f (clo_i_b holdsk holdsh)] = Fo_i_coloursWith holdsk holdsh := by
  kernel_rfl
def i_coloursWith (holdsk : Int → Bool) (holdsh : Int → Bool) : Nat × List Int :=
  (if (holdsh 0) = true then (if (holdsh 1) = true then (if (holdsh 2) = true then (3, [0, 1, 2]) else (2, [0, 1])) else (if (holdsh 2) = true then (2, [0, 2]) else (1, [0]))) else (if (holdsh 1) = true then (if (holdsh 2) = true then (2, [1, 2]) else (1, [1])) else (if (holdsh 2) = true then (1, [2]) else (0, []))))
theorem tot_i_coloursWith (holdsk : Int → Bool) (holdsh : Int → Bool) (hp : (holdsk 0 && holdsk 1 && holdsk 2) = true) : Fo_i_coloursWith holdsk holdsh = some (i_coloursWith holdsk holdsh) := by
  simp only [Bool.and_eq_true] at hp
  obtain ⟨⟨h0, h1⟩, h2⟩ := hp
  unfold Fo_i_coloursWith i_coloursWith
  simp only [h0, h1, h2, if_true]
  repeat' split
  all_goals rfl
def run_i_coloursWith : List PV → Option (Bool × List TR)
  | [.f holdsg] => some ((fun a0 => okV (holdsg [.int .i64 a0])) 0 && (fun a0 => okV (holdsg [.int .i64 a0])) 1 && (fun a0 => okV (holdsg [.int .i64 a0])) 2, enc_l2_1 (i_coloursWith (fun a0 => okV (holdsg [.int .i64 a0])) (fun a0 => boolV (holdsg [.int .i64 a0]))))
  | _ => none
theorem sound_i_coloursWith : Sound Try.prog 56 run_i_coloursWith := by
  refine sound_of de_l2_1 SO_i_coloursWith (by kernel_rfl) Try.func56 Try.ntmps56 rfl (by kernel_rfl) ?_
  intro W pvs avs rs hargs hrun
  unfold run_i_coloursWith at hrun
  split at hrun
  · simp only [Option.some.injEq, Prod.mk.injEq] at hrun
    obtain ⟨hp, rfl⟩ := hrun
    rename_i holdsg
    have hargs := All2.replace (l1 := []) hargs (y := .f (clo_i_b _ _)) fun b hb => fn_weaken hb (clo_i_b_ok _)
    exact ⟨_, _, _, hargs, rfl, (eq_i_coloursWith (fun a0 => okV (holdsg [.int .i64 a0])) (fun a0 => boolV (holdsg [.int .i64 a0]))).trans (tot_i_coloursWith (fun a0 => okV (holdsg [.int .i64 a0])) (fun a0 => boolV (holdsg [.int .i64 a0])) hp)⟩
  · cases hrun

def S_i_NullColours : Sums := ⟨tblS [(53, run_i_asked), (54, run_i_NullColours_c1), (56, run_i_coloursWith), (57, run_i_NullColours_c2)], tblM []⟩
theorem SO_i_NullColours : SumsOK Try.prog S_i_NullColours := ⟨tblS_ok ⟨⟨Try.call53, sound_i_asked⟩, ⟨Try.call54, sound_i_NullColours_c1⟩, ⟨Try.call56, sound_i_coloursWith⟩, ⟨Try.call57, sound_i_NullColours_c2⟩, True.intro⟩, tblM_ok True.intro⟩
def Fo_i_NullColours (p : Int) (l : Int × Int × Int) : Option ((Nat × List Int) × Int) :=
  (if ((true) || !(i_IsField p)) = true then (if ((i_asked p (true) (i_NullColours_c1 p l)) != 0) = true then some ((0, []), (i_asked p (true) (i_NullColours_c1 p l))) else (if ((fun a0 => prB p) 0 && (fun a0 => prB p) 1 && (fun a0 => prB p) 2) = true then some (((i_coloursWith (fun a0 => prB p) (fun a0 => i_NullColours_c2 a0 p l)).1, (i_coloursWith (fun a0 => prB p) (fun a0 => i_NullColours_c2 a0 p l)).2), 0) else none)) else none)
theorem eq_i_NullColours (p : Int) (l : Int × Int × Int) : execT Try.prog S_i_NullColours 14 15 (fun _ => 1000000) dec_l2_1_i [.v (.int .i64 p), .v (.agg ⟨[.int .i64 l.1, .int .i64 l.2.1, .int .i64 l.2.2]⟩)] = Fo_i_NullColours p l := by
  kernel_rfl
def i_NullColours (p : Int) (l : Int × Int × Int) : (Nat × List Int) × Int :=
  (if ((i_asked p (true) (i_NullColours_c1 p l)) != 0) = true then ((0, []), (i_asked p (true) (i_NullColours_c1 p l))) else (((i_coloursWith (fun a0 => prB p) (fun a0 => i_NullColours_c2 a0 p l)).1, (i_coloursWith (fun a0 => prB p) (fun a0 => i_NullColours_c2 a0 p l)).2), 0))
theorem tot_i_NullColours (p : Int) (l : Int × Int × Int) : Fo_i_NullColours p l = some (i_NullColours p l) := by
  unfold Fo_i_NullColours i_NullColours
  (try simp only [wI_eq])
  repeat' (first | with_reducible rfl | refine chk_opt (by first | with_reducible rfl | exact Bool.true_or _ | (with_reducible exact asked_prB ‹_›) | (with_reducible exact asked_prB0 ‹_›) | exact mk_ok (by (first | (with_reducible assumption) | (with_reducible exact asked_prB ‹_›) | (with_reducible exact asked_prB0 ‹_›))) | exact and_all (by (first | (with_reducible assumption) | (with_reducible exact asked_prB ‹_›) | (with_reducible exact asked_prB0 ‹_›))) (fun _ => rfl) | exact and_all (by (first | (with_reducible assumption) | (with_reducible exact asked_prB ‹_›) | (with_reducible exact asked_prB0 ‹_›))) (fun _ => by (first | (with_reducible assumption) | (with_reducible exact asked_prB ‹_›) | (with_reducible exact asked_prB0 ‹_›))) | exact and3 (by (first | (with_reducible assumption) | (with_reducible exact asked_prB ‹_›) | (with_reducible exact asked_prB0 ‹_›))) (by (first | (with_reducible assumption) | (with_reducible exact asked_prB ‹_›) | (with_reducible exact asked_prB0 ‹_›))) (by (first | (with_reducible assumption) | (with_reducible exact asked_prB ‹_›) | (with_reducible exact asked_prB0 ‹_›))) | exact and_two (by (first | (with_reducible assumption) | (with_reducible exact asked_prB ‹_›) | (with_reducible exact asked_prB0 ‹_›))) rfl | rfl) ?_ | refine ite_opt (fun _ => ?_) (fun _ => ?_) | rfl)
def run_i_NullColours : List PV → Option (Bool × List TR)
  | [.v (.int .i64 p), .v (.agg ⟨[.int .i64 l0, .int .i64 l1, .int .i64 l2]⟩)] => some (true, enc_l2_1_i (i_NullColours p (l0, l1, l2)))
  | _ => none
theorem sound_i_NullColours : Sound Try.prog 14 run_i_NullColours := by
  refine sound_of de_l2_1_i SO_i_NullColours (by kernel_rfl) Try.func14 Try.ntmps14 rfl (by kernel_rfl) ?_
  intro W pvs avs rs hargs hrun
  unfold run_i_NullColours at hrun
  split at hrun
  · simp only [Option.some.injEq, Prod.mk.injEq] at hrun
    obtain ⟨hp, rfl⟩ := hrun
    rename_i p l0 l1 l2
    exact ⟨_, _, _, hargs, rfl, (eq_i_NullColours p (l0, l1, l2)).trans (tot_i_NullColours p (l0, l1, l2))⟩
  · cases hrun

def S_s_NullColours : Sums := ⟨tblS [(59, run_s_l01Lines), (60, run_s_l02Perpendicular)], tblM []⟩
theorem SO_s_NullColours : SumsOK Try.prog S_s_NullColours := ⟨tblS_ok ⟨⟨Try.call59, sound_s_l01Lines⟩, ⟨Try.call60, sound_s_l02Perpendicular⟩, True.intro⟩, tblM_ok True.intro⟩
def Fo_s_NullColours (p : Int) (l : Int × Int × Int) : Option ((Nat × List Int) × Int) :=
  (if ((s_l01Lines p [l]) != 0) = true then some ((0, []), (s_l01Lines p [l])) else (if (prB p) = true then (if (s_l02Perpendicular p 0 l l) = true then (if (prB p) = true then (if (s_l02Perpendicular p 1 l l) = true then (if (prB p) = true then (if (s_l02Perpendicular p 2 l l) = true then some ((3, [0, 1, 2]), 0) else some ((2, [0, 1]), 0)) else none) else (if (prB p) = true then (if (s_l02Perpendicular p 2 l l) = true then some ((2, [0, 2]), 0) else some ((1, [0]), 0)) else none)) else none) else (if (prB p) = true then (if (s_l02Perpendicular p 1 l l) = true then (if (prB p) = true then (if (s_l02Perpendicular p 2 l l) = true then some ((2, [1, 2]), 0) else some ((1, [1]), 0)) else none) else (if (prB p) = true then (if (s_l02Perpendicular p 2 l l) = true then some ((1, [2]), 0) else some ((0, []), 0)) else none)) else none)) else none))
theorem eq_s_NullColours (p : Int) (l : Int × Int × Int) : execT Try.prog S_s_NullColours 15 31 (fun _ => 1000000) dec_l2_1_i [.v (.int .i64 p), .v (.agg ⟨[.int .i64 l.1, .int .i64 l.2.1, .int .i64 l.2.2]⟩)] = Fo_s_NullColours p l := by
  kernel_rfl
def s_NullColours (p : Int) (l : Int × Int × Int) : (Nat × List Int) × Int :=
  (if ((s_l01Lines p [l]) != 0) = true then ((0, []), (s_l01Lines p [l])) else (if (s_l02Perpendicular p 0 l l) = true then (if (s_l02Perpendicular p 1 l l) = true then (if (s_l02Perpendicular p 2 l l) = true then ((3, [0, 1, 2]), 0) else ((2, [0, 1]), 0)) else (if (s_l02Perpendicular p 2 l l) = true then ((2, [0, 2]), 0) else ((1, [0]), 0))) else (if (s_l02Perpendicular p 1 l l) = true then (if (s_l02Perpendicular p 2 l l) = true then ((2, [1, 2]), 0) else ((1, [1]), 0)) else (if (s_l02Perpendicular p 2 l l) = true then ((1, [2]), 0) else ((0, []), 0)))))
theorem tot_s_NullColours (p : Int) (l : Int × Int × Int) : Fo_s_NullColours p l = some (s_NullColours p l) := by
  unfold Fo_s_NullColours s_NullColours
  (try simp only [wI_eq])
  repeat' (first | with_reducible rfl | refine chk_opt (by first | with_reducible rfl | exact Bool.true_or _ | (with_reducible exact l01Lines_prB ‹_›) | (with_reducible exact l01Lines_prB0 ‹_›) | exact mk_ok (by (first | (with_reducible assumption) | (with_reducible exact l01Lines_prB ‹_›) | (with_reducible exact l01Lines_prB0 ‹_›))) | exact and_all (by (first | (with_reducible assumption) | (with_reducible exact l01Lines_prB ‹_›) | (with_reducible exact l01Lines_prB0 ‹_›))) (fun _ => rfl) | exact and_all (by (first | (with_reducible assumption) | (with_reducible exact l01Lines_prB ‹_›) | (with_reducible exact l01Lines_prB0 ‹_›))) (fun _ => by (first | (with_reducible assumption) | (with_reducible exact l01Lines_prB ‹_›) | (with_reducible exact l01Lines_prB0 ‹_›))) | exact and3 (by (first | (with_reducible assumption) | (with_reducible exact l01Lines_prB ‹_›) | (with_reducible exact l01Lines_prB0 ‹_›))) (by (first | (with_reducible assumption) | (with_reducible exact l01Lines_prB ‹_›) | (with_reducible exact l01Lines_prB0 ‹_›))) (by (first | (with_reducible assumption) | (with_reducible exact l01Lines_prB ‹_›) | (with_reducible exact l01Lines_prB0 ‹_›))) | exact and_two (by (first | (with_reducible assumption) | (with_reducible exact l01Lines_prB ‹_›) | (with_reducible exact l01Lines_prB0 ‹_›))) rfl | rfl) ?_ | refine ite_opt (fun _ => ?_) (fun _ => ?_) | rfl)
def run_s_NullColours : List PV → Option (Bool × List TR)
  | [.v (.int .i64 p), .v (.agg ⟨[.int .i64 l0, .int .i64 l1, .int .i64 l2]⟩)] => some (true, enc_l2_1_i (s_NullColours p (l0, l1, l2)))
  | _ => none
theorem sound_s_NullColours : Sound Try.prog 15 run_s_NullColours := by
  refine sound_of de_l2_1_i SO_s_NullColours (by kernel_rfl) Try.func15 Try.ntmps15 rfl (by kernel_rfl) ?_
  intro W pvs avs rs hargs hrun
  unfold run_s_NullColours at hrun
  split at hrun
  · simp only [Option.some.injEq, Prod.mk.injEq] at hrun
    obtain ⟨hp, rfl⟩ := hrun
    rename_i p l0 l1 l2
    exact ⟨_, _, _, hargs, rfl, (eq_s_NullColours p (l0, l1, l2)).trans (tot_s_NullColours p (l0, l1, l2))⟩
  · cases hrun

def S_i_RightColours_c1 : Sums := ⟨tblS [(63, run_i_arePoints)], tblM []⟩
theorem SO_i_RightColours_c1 : SumsOK Try.prog S_i_RightColours_c1 := ⟨tblS_ok ⟨⟨Try.call63, sound_i_arePoints⟩, True.intro⟩, tblM_ok True.intro⟩
def Fo_i_RightColours_c1 (c0 : Int) (c1 : Int × Int) (c2 : Int × Int) (c3 : Int × Int) : Option (Bool) :=
  some (i_arePoints c0 [c1, c2, c3])
theorem eq_i_RightColours_c1 (c0 : Int) (c1 : Int × Int) (c2 : Int × Int) (c3 : Int × Int) : execT Try.prog S_i_RightColours_c1 62 11 (fun _ => 1000000) dec_b [.p [.int .i64 c0], .p [.int .i64 c1.1, .int .i64 c1.2], .p [.int .i64 c2.1, .int .i64 c2.2], .p [.int .i64 c3.1, .int .i64 c3.2]] = Fo_i_RightColours_c1 c0 c1 c2 c3 := by
  kernel_rfl
def i_RightColours_c1 (c0 : Int) (c1 : Int × Int) (c2 : Int × Int) (c3 : Int × Int) : Bool :=
  (i_arePoints c0 [c1, c2, c3])
theorem tot_i_RightColours_c1 (c0 : Int) (c1 : Int × Int) (c2 : Int × Int) (c3 : Int × Int) : Fo_i_RightColours_c1 c0 c1 c2 c3 = some (i_RightColours_c1 c0 c1 c2 c3) := by
  unfold Fo_i_RightColours_c1 i_RightColours_c1
  (try simp only [wI_eq])
  repeat' (first | with_reducible rfl | refine ite_opt (fun _ => ?_) (fun _ => ?_) | rfl)
def run_i_RightColours_c1 : List PV → Option (Bool × List TR)
  | [.p [.int .i64 c0], .p [.int .i64 c10, .int .i64 c11], .p [.int .i64 c20, .int .i64 c21], .p [.int .i64 c30, .int .i64 c31]] => some (true, enc_b (i_RightColours_c1 c0 (c10, c11) (c20, c21) (c30, c31)))
  | _ => none
theorem sound_i_RightColours_c1 : Sound Try.prog 62 run_i_RightColours_c1 := by
  refine sound_of de_b SO_i_RightColours_c1 (by kernel_rfl) Try.func62 Try.ntmps62 rfl (by kernel_rfl) ?_
  intro W pvs avs rs hargs hrun
  unfold run_i_RightColours_c1 at hrun
  split at hrun
  · simp only [Option.some.injEq, Prod.mk.injEq] at hrun
    obtain ⟨hp, rfl⟩ := hrun
    rename_i c0 c10 c11 c20 c21 c30 c31
    exact ⟨_, _, _, hargs, rfl, (eq_i_RightColours_c1 c0 (c10, c11) (c20, c21) (c30, c31)).trans (tot_i_RightColours_c1 c0 (c10, c11) (c20, c21) (c30, c31))⟩
  · cases hrun

def S_i_RightColours_c2 : Sums := ⟨tblS [(65, run_i_isRight)], tblM []⟩
theorem SO_i_RightColours_c2 : SumsOK Try.prog S_i_RightColours_c2 := ⟨tblS_ok ⟨⟨Try.call65, sound_i_isRight⟩, True.intro⟩, tblM_ok True.intro⟩
def Fo_i_RightColours_c2 (colour : Int) (c0 : Int) (c1 : Int × Int) (c2 : Int × Int) (c3 : Int × Int) : Option (Bool) :=
  (if (prB c0) = true then some (i_isRight c0 colour c1 c2 c3) else none)
theorem eq_i_RightColours_c2 (colour : Int) (c0 : Int) (c1 : Int × Int) (c2 : Int × Int) (c3 : Int × Int) : execT Try.prog S_i_RightColours_c2 64 13 (fun _ => 1000000) dec_b [.v (.int .i64 colour), .p [.int .i64 c0], .p [.int .i64 c1.1, .int .i64 c1.2], .p [.int .i64 c2.1, .int .i64 c2.2], .p [.int .i64 c3.1, .int .i64 c3.2]] = Fo_i_RightColours_c2 colour c0 c1 c2 c3 := by
  kernel_rfl
def i_RightColours_c2 (colour : Int) (c0 : Int) (c1 : Int × Int) (c2 : Int × Int) (c3 : Int × Int) : Bool :=
  (i_isRight c0 colour c1 c2 c3)
theorem tot_i_RightColours_c2 (colour : Int) (c0 : Int) (c1 : Int × Int) (c2 : Int × Int) (c3 : Int × Int) (hp : (prB c0) = true) : Fo_i_RightColours_c2 colour c0 c1 c2 c3 = some (i_RightColours_c2 colour c0 c1 c2 c3) := by
  try have h0 := prB_ne hp
  unfold Fo_i_RightColours_c2 i_RightColours_c2
  (try simp only [wI_eq])
  repeat' (first | with_reducible rfl | with_reducible refine chk_opt hp ?_ | with_reducible refine chk_opt h0 ?_ | refine chk_opt (and_all hp fun _ => hp) ?_ | refine chk_opt (and_all hp fun _ => rfl) ?_ | refine ite_opt (fun _ => ?_) (fun _ => ?_) | rfl)
def run_i_RightColours_c2 : List PV → Option (Bool × List TR)
  | [.v (.int .i64 colour), .p [.int .i64 c0], .p [.int .i64 c10, .int .i64 c11], .p [.int .i64 c20, .int .i64 c21], .p [.int .i64 c30, .int .i64 c31]] => some (prB c0, enc_b (i_RightColours_c2 colour c0 (c10, c11) (c20, c21) (c30, c31)))
  | _ => none
theorem sound_i_RightColours_c2 : Sound Try.prog 64 run_i_RightColours_c2 := by
  refine sound_of de_b SO_i_RightColours_c2 (by kernel_rfl) Try.func64 Try.ntmps64 rfl (by kernel_rfl) ?_
  intro W pvs avs rs hargs hrun
  unfold run_i_RightColours_c2 at hrun
  split at hrun
  · simp only [Option.some.injEq, Prod.mk.injEq] at hrun
    obtain ⟨hp, rfl⟩ := hrun
    rename_i colour c0 c10 c11 c20 c21 c30 c31
    exact ⟨_, _, _, hargs, rfl, (eq_i_RightColours_c2 colour c0 (c10, c11) (c20, c21) (c30, c31)).trans (tot_i_RightColours_c2 colour c0 (c10, c11) (c20, c21) (c30, c31) hp)⟩
  · cases hrun

def S_i_RightColours : Sums := ⟨tblS [(53, run_i_asked), (62, run_i_RightColours_c1), (56, run_i_coloursWith), (64, run_i_RightColours_c2)], tblM []⟩
theorem SO_i_RightColours : SumsOK Try.prog S_i_RightColours := ⟨tblS_ok ⟨⟨Try.call53, sound_i_asked⟩, ⟨Try.call62, sound_i_RightColours_c1⟩, ⟨Try.call56, sound_i_coloursWith⟩, ⟨Try.call64, sound_i_RightColours_c2⟩, True.intro⟩, tblM_ok True.intro⟩
def Fo_i_RightColours (p : Int) (a : Int × Int) (b : Int × Int) (c : Int × Int) : Option ((Nat × List Int) × Int) :=
  (if ((true) || !(i_IsField p)) = true then (if ((i_asked p (true) (i_RightColours_c1 p a b c)) != 0) = true then some ((0, []), (i_asked p (true) (i_RightColours_c1 p a b c))) else (if ((fun a0 => prB p) 0 && (fun a0 => prB p) 1 && (fun a0 => prB p) 2) = true then some (((i_coloursWith (fun a0 => prB p) (fun a0 => i_RightColours_c2 a0 p a b c)).1, (i_coloursWith (fun a0 => prB p) (fun a0 => i_RightColours_c2 a0 p a b c)).2), 0) else none)) else none)
theorem eq_i_RightColours (p : Int) (a : Int × Int) (b : Int × Int) (c : Int × Int) : execT Try.prog S_i_RightColours 17 19 (fun _ => 1000000) dec_l2_1_i [.v (.int .i64 p), .v (.agg ⟨[.int .i64 a.1, .int .i64 a.2]⟩), .v (.agg ⟨[.int .i64 b.1, .int .i64 b.2]⟩), .v (.agg ⟨[.int .i64 c.1, .int .i64 c.2]⟩)] = Fo_i_RightColours p a b c := by
  kernel_rfl
def i_RightColours (p : Int) (a : Int × Int) (b : Int × Int) (c : Int × Int) : (Nat × List Int) × Int :=
  (if ((i_asked p (true) (i_RightColours_c1 p a b c)) != 0) = true then ((0, []), (i_asked p (true) (i_RightColours_c1 p a b c))) else (((i_coloursWith (fun a0 => prB p) (fun a0 => i_RightColours_c2 a0 p a b c)).1, (i_coloursWith (fun a0 => prB p) (fun a0 => i_RightColours_c2 a0 p a b c)).2), 0))
theorem tot_i_RightColours (p : Int) (a : Int × Int) (b : Int × Int) (c : Int × Int) : Fo_i_RightColours p a b c = some (i_RightColours p a b c) := by
  unfold Fo_i_RightColours i_RightColours
  (try simp only [wI_eq])
  repeat' (first | with_reducible rfl | refine chk_opt (by first | with_reducible rfl | exact Bool.true_or _ | (with_reducible exact asked_prB ‹_›) | (with_reducible exact asked_prB0 ‹_›) | exact mk_ok (by (first | (with_reducible assumption) | (with_reducible exact asked_prB ‹_›) | (with_reducible exact asked_prB0 ‹_›))) | exact and_all (by (first | (with_reducible assumption) | (with_reducible exact asked_prB ‹_›) | (with_reducible exact asked_prB0 ‹_›))) (fun _ => rfl) | exact and_all (by (first | (with_reducible assumption) | (with_reducible exact asked_prB ‹_›) | (with_reducible exact asked_prB0 ‹_›))) (fun _ => by (first | (with_reducible assumption) | (with_reducible exact asked_prB ‹_›) | (with_reducible exact asked_prB0 ‹_›))) | exact and3 (by (first | (with_reducible assumption) | (with_reducible exact asked_prB ‹_›) | (with_reducible exact asked_prB0 ‹_›))) (by (first | (with_reducible assumption) | (with_reducible exact asked_prB ‹_›) | (with_reducible exact asked_prB0 ‹_›))) (by (first | (with_reducible assumption) | (with_reducible exact asked_prB ‹_›) | (with_reducible exact asked_prB0 ‹_›))) | exact and_two (by (first | (with_reducible assumption) | (with_reducible exact asked_prB ‹_›) | (with_reducible exact asked_prB0 ‹_›))) rfl | rfl) ?_ | refine ite_opt (fun _ => ?_) (fun _ => ?_) | rfl)
def run_i_RightColours : List PV → Option (Bool × List TR)
  | [.v (.int .i64 p), .v (.agg ⟨[.int .i64 a0, .int .i64 a1]⟩), .v (.agg ⟨[.int .i64 b0, .int .i64 b1]⟩), .v (.agg ⟨[.int .i64 c0, .int .i64 c1]⟩)] => some (true, enc_l2_1_i (i_RightColours p (a0, a1) (b0, b1) (c0, c1)))
  | _ => none
theorem sound_i_RightColours : Sound Try.prog 17 run_i_RightColours := by
  refine sound_of de_l2_1_i SO_i_RightColours (by kernel_rfl) Try.func17 Try.ntmps17 rfl (by kernel_rfl) ?_
  intro W pvs avs rs hargs hrun
  unfold run_i_RightColours at hrun
  split at hrun
  · simp only [Option.some.injEq, Prod.mk.injEq] at hrun
    obtain ⟨hp, rfl⟩ := hrun
    rename_i p a0 a1 b0 b1 c0 c1
    exact ⟨_, _, _, hargs, rfl, (eq_i_RightColours p (a0, a1) (b0, b1) (c0, c1)).trans (tot_i_RightColours p (a0, a1) (b0, b1) (c0, c1))⟩
  · cases hrun

def S_s_RightColours : Sums := ⟨tblS [(66, run_s_l01Code), (68, run_s_l01Minus), (67, run_s_l02Product)], tblM []⟩
theorem SO_s_RightColours : SumsOK Try.prog S_s_RightColours := ⟨tblS_ok ⟨⟨Try.call66, sound_s_l01Code⟩, ⟨Try.call68, sound_s_l01Minus⟩, ⟨Try.call67, sound_s_l02Product⟩, True.intro⟩, tblM_ok True.intro⟩
def Fo_s_RightColours (p : Int) (a : Int × Int) (b : Int × Int) (c : Int × Int) : Option ((Nat × List Int) × Int) :=
  (if ((s_l01Code p [a, b, c]) != 0) = true then some ((0, []), (s_l01Code p [a, b, c])) else (if (prB p) = true then (if (prB p) = true then (if (prB p) = true then (if ((s_l02Product p 0 (s_l01Minus p b a) (s_l01Minus p c a)) == 0) = true then (if (prB p) = true then (if (prB p) = true then (if (prB p) = true then (if ((s_l02Product p 1 (s_l01Minus p b a) (s_l01Minus p c a)) == 0) = true then (if (prB p) = true then (if (prB p) = true then (if (prB p) = true then (if ((s_l02Product p 2 (s_l01Minus p b a) (s_l01Minus p c a)) == 0) = true then some ((3, [0, 1, 2]), 0) else some ((2, [0, 1]), 0)) else none) else none) else none) else (if (prB p) = true then (if (prB p) = true then (if (prB p) = true then (if ((s_l02Product p 2 (s_l01Minus p b a) (s_l01Minus p c a)) == 0) = true then some ((2, [0, 2]), 0) else some ((1, [0]), 0)) else none) else none) else none)) else none) else none) else none) else (if (prB p) = true then (if (prB p) = true then (if (prB p) = true then (if ((s_l02Product p 1 (s_l01Minus p b a) (s_l01Minus p c a)) == 0) = true then (if (prB p) = true then (if (prB p) = true then (if (prB p) = true then (if ((s_l02Product p 2 (s_l01Minus p b a) (s_l01Minus p c a)) == 0) = true then some ((2, [1, 2]), 0) else some ((1, [1]), 0)) else none) else none) else none) else (if (prB p) = true then (if (prB p) = true then (if (prB p) = true then (if ((s_l02Product p 2 (s_l01Minus p b a) (s_l01Minus p c a)) == 0) = true then some ((1, [2]), 0) else some ((0, []), 0)) else none) else none) else none)) else none) else none) else none)) else none) else none) else none))
theorem eq_s_RightColours (p : Int) (a : Int × Int) (b : Int × Int) (c : Int × Int) : execT Try.prog S_s_RightColours 18 44 (fun _ => 1000000) dec_l2_1_i [.v (.int .i64 p), .v (.agg ⟨[.int .i64 a.1, .int .i64 a.2]⟩), .v (.agg ⟨[.int .i64 b.1, .int .i64 b.2]⟩), .v (.agg ⟨[.int .i64 c.1, .int .i64 c.2]⟩)] = Fo_s_RightColours p a b c := by
  kernel_rfl
def s_RightColours (p : Int) (a : Int × Int) (b : Int × Int) (c : Int × Int) : (Nat × List Int) × Int :=
  (if ((s_l01Code p [a, b, c]) != 0) = true then ((0, []), (s_l01Code p [a, b, c])) else (if ((s_l02Product p 0 (s_l01Minus p b a) (s_l01Minus p c a)) == 0) = true then (if ((s_l02Product p 1 (s_l01Minus p b a) (s_l01Minus p c a)) == 0) = true then (if ((s_l02Product p 2 (s_l01Minus p b a) (s_l01Minus p c a)) == 0) = true then ((3, [0, 1, 2]), 0) else ((2, [0, 1]), 0)) else (if ((s_l02Product p 2 (s_l01Minus p b a) (s_l01Minus p c a)) == 0) = true then ((2, [0, 2]), 0) else ((1, [0]), 0))) else (if ((s_l02Product p 1 (s_l01Minus p b a) (s_l01Minus p c a)) == 0) = true then (if ((s_l02Product p 2 (s_l01Minus p b a) (s_l01Minus p c a)) == 0) = true then ((2, [1, 2]), 0) else ((1, [1]), 0)) else (if ((s_l02Product p 2 (s_l01Minus p b a) (s_l01Minus p c a)) == 0) = true then ((1, [2]), 0) else ((0, []), 0)))))
theorem tot_s_RightColours (p : Int) (a : Int × Int) (b : Int × Int) (c : Int × Int) : Fo_s_RightColours p a b c = some (s_RightColours p a b c) := by
  unfold Fo_s_RightColours s_RightColours
  (try simp only [wI_eq])
  repeat' (first | with_reducible rfl | refine chk_opt (by first | with_reducible rfl | exact Bool.true_or _ | (with_reducible exact l01Code_prB ‹_›) | (with_reducible exact l01Code_prB0 ‹_›) | exact mk_ok (by (first | (with_reducible assumption) | (with_reducible exact l01Code_prB ‹_›) | (with_reducible exact l01Code_prB0 ‹_›))) | exact and_all (by (first | (with_reducible assumption) | (with_reducible exact l01Code_prB ‹_›) | (with_reducible exact l01Code_prB0 ‹_›))) (fun _ => rfl) | exact and_all (by (first | (with_reducible assumption) | (with_reducible exact l01Code_prB ‹_›) | (with_reducible exact l01Code_prB0 ‹_›))) (fun _ => by (first | (with_reducible assumption) | (with_reducible exact l01Code_prB ‹_›) | (with_reducible exact l01Code_prB0 ‹_›))) | exact and3 (by (first | (with_reducible assumption) | (with_reducible exact l01Code_prB ‹_›) | (with_reducible exact l01Code_prB0 ‹_›))) (by (first | (with_reducible assumption) | (with_reducible exact l01Code_prB ‹_›) | (with_reducible exact l01Code_prB0 ‹_›))) (by (first | (with_reducible assumption) | (with_reducible exact l01Code_prB ‹_›) | (with_reducible exact l01Code_prB0 ‹_›))) | exact and_two (by (first | (with_reducible assumption) | (with_reducible exact l01Code_prB ‹_›) | (with_reducible exact l01Code_prB0 ‹_›))) rfl | rfl) ?_ | refine ite_opt (fun _ => ?_) (fun _ => ?_) | rfl)
def run_s_RightColours : List PV → Option (Bool × List TR)
  | [.v (.int .i64 p), .v (.agg ⟨[.int .i64 a0, .int .i64 a1]⟩), .v (.agg ⟨[.int .i64 b0, .int .i64 b1]⟩), .v (.agg ⟨[.int .i64 c0, .int .i64 c1]⟩)] => some (true, enc_l2_1_i (s_RightColours p (a0, a1) (b0, b1) (c0, c1)))
  | _ => none
theorem sound_s_RightColours : Sound Try.prog 18 run_s_RightColours := by
  refine sound_of de_l2_1_i SO_s_RightColours (by kernel_rfl) Try.func18 Try.ntmps18 rfl (by kernel_rfl) ?_
  intro W pvs avs rs hargs hrun
  unfold run_s_RightColours at hrun
  split at hrun
  · simp only [Option.some.injEq, Prod.mk.injEq] at hrun
    obtain ⟨hp, rfl⟩ := hrun
    rename_i p a0 a1 b0 b1 c0 c1
    exact ⟨_, _, _, hargs, rfl, (eq_s_RightColours p (a0, a1) (b0, b1) (c0, c1)).trans (tot_s_RightColours p (a0, a1) (b0, b1) (c0, c1))⟩
  · cases hrun

def S_i_EqualColours_c1 : Sums := ⟨tblS [(63, run_i_arePoints)], tblM []⟩
theorem SO_i_EqualColours_c1 : SumsOK Try.prog S_i_EqualColours_c1 := ⟨tblS_ok ⟨⟨Try.call63, sound_i_arePoints⟩, True.intro⟩, tblM_ok True.intro⟩
def Fo_i_EqualColours_c1 (c0 : Int) (c1 : Int × Int) (c2 : Int × Int) (c3 : Int × Int) : Option (Bool) :=
  some (i_arePoints c0 [c1, c2, c3])
theorem eq_i_EqualColours_c1 (c0 : Int) (c1 : Int × Int) (c2 : Int × Int) (c3 : Int × Int) : execT Try.prog S_i_EqualColours_c1 70 11 (fun _ => 1000000) dec_b [.p [.int .i64 c0], .p [.int .i64 c1.1, .int .i64 c1.2], .p [.int .i64 c2.1, .int .i64 c2.2], .p [.int .i64 c3.1, .int .i64 c3.2]] = Fo_i_EqualColours_c1 c0 c1 c2 c3 := by
  kernel_rfl
def i_EqualColours_c1 (c0 : Int) (c1 : Int × Int) (c2 : Int × Int) (c3 : Int × Int) : Bool :=
  (i_arePoints c0 [c1, c2, c3])
theorem tot_i_EqualColours_c1 (c0 : Int) (c1 : Int × Int) (c2 : Int × Int) (c3 : Int × Int) : Fo_i_EqualColours_c1 c0 c1 c2 c3 = some (i_EqualColours_c1 c0 c1 c2 c3) := by
  unfold Fo_i_EqualColours_c1 i_EqualColours_c1
  (try simp only [wI_eq])
  repeat' (first | with_reducible rfl | refine ite_opt (fun _ => ?_) (fun _ => ?_) | rfl)
def run_i_EqualColours_c1 : List PV → Option (Bool × List TR)
  | [.p [.int .i64 c0], .p [.int .i64 c10, .int .i64 c11], .p [.int .i64 c20, .int .i64 c21], .p [.int .i64 c30, .int .i64 c31]] => some (true, enc_b (i_EqualColours_c1 c0 (c10, c11) (c20, c21) (c30, c31)))
  | _ => none
theorem sound_i_EqualColours_c1 : Sound Try.prog 70 run_i_EqualColours_c1 := by
  refine sound_of de_b SO_i_EqualColours_c1 (by kernel_rfl) Try.func70 Try.ntmps70 rfl (by kernel_rfl) ?_
  intro W pvs avs rs hargs hrun
  unfold run_i_EqualColours_c1 at hrun
  split at hrun
  · simp only [Option.some.injEq, Prod.mk.injEq] at hrun
    obtain ⟨hp, rfl⟩ := hrun
    rename_i c0 c10 c11 c20 c21 c30 c31
    exact ⟨_, _, _, hargs, rfl, (eq_i_EqualColours_c1 c0 (c10, c11) (c20, c21) (c30, c31)).trans (tot_i_EqualColours_c1 c0 (c10, c11) (c20, c21) (c30, c31))⟩
  · cases hrun

def S_i_EqualColours_c2 : Sums := ⟨tblS [(72, run_i_quadrance)], tblM []⟩
theorem SO_i_EqualColours_c2 : SumsOK Try.prog S_i_EqualColours_c2 := ⟨tblS_ok ⟨⟨Try.call72, sound_i_quadrance⟩, True.intro⟩, tblM_ok True.intro⟩
def Fo_i_EqualColours_c2 (colour : Int) (c0 : Int) (c1 : Int × Int) (c2 : Int × Int) (c3 : Int × Int) : Option (Bool) :=
  (if (prB c0) = true then (if (prB c0) = true then some ((i_quadrance c0 colour c1 c2) == (i_quadrance c0 colour c1 c3)) else none) else none)
theorem eq_i_EqualColours_c2 (colour : Int) (c0 : Int) (c1 : Int × Int) (c2 : Int × Int) (c3 : Int × Int) : execT Try.prog S_i_EqualColours_c2 71 18 (fun _ => 1000000) dec_b [.v (.int .i64 colour), .p [.int .i64 c0], .p [.int .i64 c1.1, .int .i64 c1.2], .p [.int .i64 c2.1, .int .i64 c2.2], .p [.int .i64 c3.1, .int .i64 c3.2]] = Fo_i_EqualColours_c2 colour c0 c1 c2 c3 := by
  kernel_rfl
def i_EqualColours_c2 (colour : Int) (c0 : Int) (c1 : Int × Int) (c2 : Int × Int) (c3 : Int × Int) : Bool :=
  (i_quadrance c0 colour c1 c2) == (i_quadrance c0 colour c1 c3)
theorem tot_i_EqualColours_c2 (colour : Int) (c0 : Int) (c1 : Int × Int) (c2 : Int × Int) (c3 : Int × Int) (hp : (prB c0) = true) : Fo_i_EqualColours_c2 colour c0 c1 c2 c3 = some (i_EqualColours_c2 colour c0 c1 c2 c3) := by
  try have h0 := prB_ne hp
  unfold Fo_i_EqualColours_c2 i_EqualColours_c2
  (try simp only [wI_eq])
  repeat' (first | with_reducible rfl | with_reducible refine chk_opt hp ?_ | with_reducible refine chk_opt h0 ?_ | refine chk_opt (and_all hp fun _ => hp) ?_ | refine chk_opt (and_all hp fun _ => rfl) ?_ | refine ite_opt (fun _ => ?_) (fun _ => ?_) | rfl)
def run_i_EqualColours_c2 : List PV → Option (Bool × List TR)
  | [.v (.int .i64 colour), .p [.int .i64 c0], .p [.int .i64 c10, .int .i64 c11], .p [.int .i64 c20, .int .i64 c21], .p [.int .i64 c30, .int .i64 c31]] => some (prB c0, enc_b (i_EqualColours_c2 colour c0 (c10, c11) (c20, c21) (c30, c31)))
  | _ => none
theorem sound_i_EqualColours_c2 : Sound Try.prog 71 run_i_EqualColours_c2 := by
  refine sound_of de_b SO_i_EqualColours_c2 (by kernel_rfl) Try.func71 Try.ntmps71 rfl (by kernel_rfl) ?_
  intro W pvs avs rs hargs hrun
  unfold run_i_EqualColours_c2 at hrun
  split at hrun
  · simp only [Option.some.injEq, Prod.mk.injEq] at hrun
    obtain ⟨hp, rfl⟩ := hrun
    rename_i colour c0 c10 c11 c20 c21 c30 c31
    exact ⟨_, _, _, hargs, rfl, (eq_i_EqualColours_c2 colour c0 (c10, c11) (c20, c21) (c30, c31)).trans (tot_i_EqualColours_c2 colour c0 (c10, c11) (c20, c21) (c30, c31) hp)⟩
  · cases hrun

def S_i_EqualColours : Sums := ⟨tblS [(53, run_i_asked), (70, run_i_EqualColours_c1), (56, run_i_coloursWith), (71, run_i_EqualColours_c2)], tblM []⟩
theorem SO_i_EqualColours : SumsOK Try.prog S_i_EqualColours := ⟨tblS_ok ⟨⟨Try.call53, sound_i_asked⟩, ⟨Try.call70, sound_i_EqualColours_c1⟩, ⟨Try.call56, sound_i_coloursWith⟩, ⟨Try.call71, sound_i_EqualColours_c2⟩, True.intro⟩, tblM_ok True.intro⟩
def Fo_i_EqualColours (p : Int) (a : Int × Int) (b : Int × Int) (c : Int × Int) : Option ((Nat × List Int) × Int) :=
  (if ((true) || !(i_IsField p)) = true then (if ((i_asked p (true) (i_EqualColours_c1 p a b c)) != 0) = true then some ((0, []), (i_asked p (true) (i_EqualColours_c1 p a b c))) else (if ((fun a0 => prB p) 0 && (fun a0 => prB p) 1 && (fun a0 => prB p) 2) = true then some (((i_coloursWith (fun a0 => prB p) (fun a0 => i_EqualColours_c2 a0 p a b c)).1, (i_coloursWith (fun a0 => prB p) (fun a0 => i_EqualColours_c2 a0 p a b c)).2), 0) else none)) else none)
theorem eq_i_EqualColours (p : Int) (a : Int × Int) (b : Int × Int) (c : Int × Int) : execT Try.prog S_i_EqualColours 20 19 (fun _ => 1000000) dec_l2_1_i [.v (.int .i64 p), .v (.agg ⟨[.int .i64 a.1, .int .i64 a.2]⟩), .v (.agg ⟨[.int .i64 b.1, .int .i64 b.2]⟩), .v (.agg ⟨[.int .i64 c.1, .int .i64 c.2]⟩)] = Fo_i_EqualColours p a b c := by
  kernel_rfl
def i_EqualColours (p : Int) (a : Int × Int) (b : Int × Int) (c : Int × Int) : (Nat × List Int) × Int :=
  (if ((i_asked p (true) (i_EqualColours_c1 p a b c)) != 0) = true then ((0, []), (i_asked p (true) (i_EqualColours_c1 p a b c))) else (((i_coloursWith (fun a0 => prB p) (fun a0 => i_EqualColours_c2 a0 p a b c)).1, (i_coloursWith (fun a0 => prB p) (fun a0 => i_EqualColours_c2 a0 p a b c)).2), 0))
theorem tot_i_EqualColours (p : Int) (a : Int × Int) (b : Int × Int) (c : Int × Int) : Fo_i_EqualColours p a b c = some (i_EqualColours p a b c) := by
  unfold Fo_i_EqualColours i_EqualColours
  (try simp only [wI_eq])
  repeat' (first | with_reducible rfl | refine chk_opt (by first | with_reducible rfl | exact Bool.true_or _ | (with_reducible exact asked_prB ‹_›) | (with_reducible exact asked_prB0 ‹_›) | exact mk_ok (by (first | (with_reducible assumption) | (with_reducible exact asked_prB ‹_›) | (with_reducible exact asked_prB0 ‹_›))) | exact and_all (by (first | (with_reducible assumption) | (with_reducible exact asked_prB ‹_›) | (with_reducible exact asked_prB0 ‹_›))) (fun _ => rfl) | exact and_all (by (first | (with_reducible assumption) | (with_reducible exact asked_prB ‹_›) | (with_reducible exact asked_prB0 ‹_›))) (fun _ => by (first | (with_reducible assumption) | (with_reducible exact asked_prB ‹_›) | (with_reducible exact asked_prB0 ‹_›))) | exact and3 (by (first | (with_reducible assumption) | (with_reducible exact asked_prB ‹_›) | (with_reducible exact asked_prB0 ‹_›))) (by (first | (with_reducible assumption) | (with_reducible exact asked_prB ‹_›) | (with_reducible exact asked_prB0 ‹_›))) (by (first | (with_reducible assumption) | (with_reducible exact asked_prB ‹_›) | (with_reducible exact asked_prB0 ‹_›))) | exact and_two (by (first | (with_reducible assumption) | (with_reducible exact asked_prB ‹_›) | (with_reducible exact asked_prB0 ‹_›))) rfl | rfl) ?_ | refine ite_opt (fun _ => ?_) (fun _ => ?_) | rfl)
def run_i_EqualColours : List PV → Option (Bool × List TR)
  | [.v (.int .i64 p), .v (.agg ⟨[.int .i64 a0, .int .i64 a1]⟩), .v (.agg ⟨[.int .i64 b0, .int .i64 b1]⟩), .v (.agg ⟨[.int .i64 c0, .int .i64 c1]⟩)] => some (true, enc_l2_1_i (i_EqualColours p (a0, a1) (b0, b1) (c0, c1)))
  | _ => none
theorem sound_i_EqualColours : Sound Try.prog 20 run_i_EqualColours := by
  refine sound_of de_l2_1_i SO_i_EqualColours (by kernel_rfl) Try.func20 Try.ntmps20 rfl (by kernel_rfl) ?_
  intro W pvs avs rs hargs hrun
  unfold run_i_EqualColours at hrun
  split at hrun
  · simp only [Option.some.injEq, Prod.mk.injEq] at hrun
    obtain ⟨hp, rfl⟩ := hrun
    rename_i p a0 a1 b0 b1 c0 c1
    exact ⟨_, _, _, hargs, rfl, (eq_i_EqualColours p (a0, a1) (b0, b1) (c0, c1)).trans (tot_i_EqualColours p (a0, a1) (b0, b1) (c0, c1))⟩
  · cases hrun

def S_s_EqualColours : Sums := ⟨tblS [(66, run_s_l01Code), (73, run_s_l02Quadrance)], tblM []⟩
theorem SO_s_EqualColours : SumsOK Try.prog S_s_EqualColours := ⟨tblS_ok ⟨⟨Try.call66, sound_s_l01Code⟩, ⟨Try.call73, sound_s_l02Quadrance⟩, True.intro⟩, tblM_ok True.intro⟩
def Fo_s_EqualColours (p : Int) (a : Int × Int) (b : Int × Int) (c : Int × Int) : Option ((Nat × List Int) × Int) :=
  (if ((s_l01Code p [a, b, c]) != 0) = true then some ((0, []), (s_l01Code p [a, b, c])) else (if (prB p) = true then (if (prB p) = true then (if ((s_l02Quadrance p 0 a b) == (s_l02Quadrance p 0 a c)) = true then (if (prB p) = true then (if (prB p) = true then (if ((s_l02Quadrance p 1 a b) == (s_l02Quadrance p 1 a c)) = true then (if (prB p) = true then (if (prB p) = true then (if ((s_l02Quadrance p 2 a b) == (s_l02Quadrance p 2 a c)) = true then some ((3, [0, 1, 2]), 0) else some ((2, [0, 1]), 0)) else none) else none) else (if (prB p) = true then (if (prB p) = true then (if ((s_l02Quadrance p 2 a b) == (s_l02Quadrance p 2 a c)) = true then some ((2, [0, 2]), 0) else some ((1, [0]), 0)) else none) else none)) else none) else none) else (if (prB p) = true then (if (prB p) = true then (if ((s_l02Quadrance p 1 a b) == (s_l02Quadrance p 1 a c)) = true then (if (prB p) = true then (if (prB p) = true then (if ((s_l02Quadrance p 2 a b) == (s_l02Quadrance p 2 a c)) = true then some ((2, [1, 2]), 0) else some ((1, [1]), 0)) else none) else none) else (if (prB p) = true then (if (prB p) = true then (if ((s_l02Quadrance p 2 a b) == (s_l02Quadrance p 2 a c)) = true then some ((1, [2]), 0) else some ((0, []), 0)) else none) else none)) else none) else none)) else none) else none))
theorem eq_s_EqualColours (p : Int) (a : Int × Int) (b : Int × Int) (c : Int × Int) : execT Try.prog S_s_EqualColours 21 43 (fun _ => 1000000) dec_l2_1_i [.v (.int .i64 p), .v (.agg ⟨[.int .i64 a.1, .int .i64 a.2]⟩), .v (.agg ⟨[.int .i64 b.1, .int .i64 b.2]⟩), .v (.agg ⟨[.int .i64 c.1, .int .i64 c.2]⟩)] = Fo_s_EqualColours p a b c := by
  kernel_rfl
def s_EqualColours (p : Int) (a : Int × Int) (b : Int × Int) (c : Int × Int) : (Nat × List Int) × Int :=
  (if ((s_l01Code p [a, b, c]) != 0) = true then ((0, []), (s_l01Code p [a, b, c])) else (if ((s_l02Quadrance p 0 a b) == (s_l02Quadrance p 0 a c)) = true then (if ((s_l02Quadrance p 1 a b) == (s_l02Quadrance p 1 a c)) = true then (if ((s_l02Quadrance p 2 a b) == (s_l02Quadrance p 2 a c)) = true then ((3, [0, 1, 2]), 0) else ((2, [0, 1]), 0)) else (if ((s_l02Quadrance p 2 a b) == (s_l02Quadrance p 2 a c)) = true then ((2, [0, 2]), 0) else ((1, [0]), 0))) else (if ((s_l02Quadrance p 1 a b) == (s_l02Quadrance p 1 a c)) = true then (if ((s_l02Quadrance p 2 a b) == (s_l02Quadrance p 2 a c)) = true then ((2, [1, 2]), 0) else ((1, [1]), 0)) else (if ((s_l02Quadrance p 2 a b) == (s_l02Quadrance p 2 a c)) = true then ((1, [2]), 0) else ((0, []), 0)))))
theorem tot_s_EqualColours (p : Int) (a : Int × Int) (b : Int × Int) (c : Int × Int) : Fo_s_EqualColours p a b c = some (s_EqualColours p a b c) := by
  unfold Fo_s_EqualColours s_EqualColours
  (try simp only [wI_eq])
  repeat' (first | with_reducible rfl | refine chk_opt (by first | with_reducible rfl | exact Bool.true_or _ | (with_reducible exact l01Code_prB ‹_›) | (with_reducible exact l01Code_prB0 ‹_›) | exact mk_ok (by (first | (with_reducible assumption) | (with_reducible exact l01Code_prB ‹_›) | (with_reducible exact l01Code_prB0 ‹_›))) | exact and_all (by (first | (with_reducible assumption) | (with_reducible exact l01Code_prB ‹_›) | (with_reducible exact l01Code_prB0 ‹_›))) (fun _ => rfl) | exact and_all (by (first | (with_reducible assumption) | (with_reducible exact l01Code_prB ‹_›) | (with_reducible exact l01Code_prB0 ‹_›))) (fun _ => by (first | (with_reducible assumption) | (with_reducible exact l01Code_prB ‹_›) | (with_reducible exact l01Code_prB0 ‹_›))) | exact and3 (by (first | (with_reducible assumption) | (with_reducible exact l01Code_prB ‹_›) | (with_reducible exact l01Code_prB0 ‹_›))) (by (first | (with_reducible assumption) | (with_reducible exact l01Code_prB ‹_›) | (with_reducible exact l01Code_prB0 ‹_›))) (by (first | (with_reducible assumption) | (with_reducible exact l01Code_prB ‹_›) | (with_reducible exact l01Code_prB0 ‹_›))) | exact and_two (by (first | (with_reducible assumption) | (with_reducible exact l01Code_prB ‹_›) | (with_reducible exact l01Code_prB0 ‹_›))) rfl | rfl) ?_ | refine ite_opt (fun _ => ?_) (fun _ => ?_) | rfl)
def run_s_EqualColours : List PV → Option (Bool × List TR)
  | [.v (.int .i64 p), .v (.agg ⟨[.int .i64 a0, .int .i64 a1]⟩), .v (.agg ⟨[.int .i64 b0, .int .i64 b1]⟩), .v (.agg ⟨[.int .i64 c0, .int .i64 c1]⟩)] => some (true, enc_l2_1_i (s_EqualColours p (a0, a1) (b0, b1) (c0, c1)))
  | _ => none
theorem sound_s_EqualColours : Sound Try.prog 21 run_s_EqualColours := by
  refine sound_of de_l2_1_i SO_s_EqualColours (by kernel_rfl) Try.func21 Try.ntmps21 rfl (by kernel_rfl) ?_
  intro W pvs avs rs hargs hrun
  unfold run_s_EqualColours at hrun
  split at hrun
  · simp only [Option.some.injEq, Prod.mk.injEq] at hrun
    obtain ⟨hp, rfl⟩ := hrun
    rename_i p a0 a1 b0 b1 c0 c1
    exact ⟨_, _, _, hargs, rfl, (eq_s_EqualColours p (a0, a1) (b0, b1) (c0, c1)).trans (tot_s_EqualColours p (a0, a1) (b0, b1) (c0, c1))⟩
  · cases hrun

def S_i_HasRightAngle_c1 : Sums := ⟨tblS [(75, run_i_isColour), (63, run_i_arePoints)], tblM []⟩
theorem SO_i_HasRightAngle_c1 : SumsOK Try.prog S_i_HasRightAngle_c1 := ⟨tblS_ok ⟨⟨Try.call75, sound_i_isColour⟩, ⟨Try.call63, sound_i_arePoints⟩, True.intro⟩, tblM_ok True.intro⟩
def Fo_i_HasRightAngle_c1 (c0 : Int) (c1 : Int) (c2 : Int × Int) (c3 : Int × Int) (c4 : Int × Int) : Option (Bool) :=
  (if (i_isColour c0) = true then some (i_arePoints c1 [c2, c3, c4]) else some false)
theorem eq_i_HasRightAngle_c1 (c0 : Int) (c1 : Int) (c2 : Int × Int) (c3 : Int × Int) (c4 : Int × Int) : execT Try.prog S_i_HasRightAngle_c1 74 16 (fun _ => 1000000) dec_b [.p [.int .i64 c0], .p [.int .i64 c1], .p [.int .i64 c2.1, .int .i64 c2.2], .p [.int .i64 c3.1, .int .i64 c3.2], .p [.int .i64 c4.1, .int .i64 c4.2]] = Fo_i_HasRightAngle_c1 c0 c1 c2 c3 c4 := by
  kernel_rfl
def i_HasRightAngle_c1 (c0 : Int) (c1 : Int) (c2 : Int × Int) (c3 : Int × Int) (c4 : Int × Int) : Bool :=
  (if (i_isColour c0) = true then (i_arePoints c1 [c2, c3, c4]) else false)
theorem tot_i_HasRightAngle_c1 (c0 : Int) (c1 : Int) (c2 : Int × Int) (c3 : Int × Int) (c4 : Int × Int) : Fo_i_HasRightAngle_c1 c0 c1 c2 c3 c4 = some (i_HasRightAngle_c1 c0 c1 c2 c3 c4) := by
  unfold Fo_i_HasRightAngle_c1 i_HasRightAngle_c1
  (try simp only [wI_eq])
  repeat' (first | with_reducible rfl | refine ite_opt (fun _ => ?_) (fun _ => ?_) | rfl)
def run_i_HasRightAngle_c1 : List PV → Option (Bool × List TR)
  | [.p [.int .i64 c0], .p [.int .i64 c1], .p [.int .i64 c20, .int .i64 c21], .p [.int .i64 c30, .int .i64 c31], .p [.int .i64 c40, .int .i64 c41]] => some (true, enc_b (i_HasRightAngle_c1 c0 c1 (c20, c21) (c30, c31) (c40, c41)))
  | _ => none
theorem sound_i_HasRightAngle_c1 : Sound Try.prog 74 run_i_HasRightAngle_c1 := by
  refine sound_of de_b SO_i_HasRightAngle_c1 (by kernel_rfl) Try.func74 Try.ntmps74 rfl (by kernel_rfl) ?_
  intro W pvs avs rs hargs hrun
  unfold run_i_HasRightAngle_c1 at hrun
  split at hrun
  · simp only [Option.some.injEq, Prod.mk.injEq] at hrun
    obtain ⟨hp, rfl⟩ := hrun
    rename_i c0 c1 c20 c21 c30 c31 c40 c41
    exact ⟨_, _, _, hargs, rfl, (eq_i_HasRightAngle_c1 c0 c1 (c20, c21) (c30, c31) (c40, c41)).trans (tot_i_HasRightAngle_c1 c0 c1 (c20, c21) (c30, c31) (c40, c41))⟩
  · cases hrun

def S_i_HasRightAngle : Sums := ⟨tblS [(53, run_i_asked), (74, run_i_HasRightAngle_c1), (65, run_i_isRight)], tblM []⟩
theorem SO_i_HasRightAngle : SumsOK Try.prog S_i_HasRightAngle := ⟨tblS_ok ⟨⟨Try.call53, sound_i_asked⟩, ⟨Try.call74, sound_i_HasRightAngle_c1⟩, ⟨Try.call65, sound_i_isRight⟩, True.intro⟩, tblM_ok True.intro⟩
def Fo_i_HasRightAngle (p : Int) (colour : Int) (a : Int × Int) (b : Int × Int) (c : Int × Int) : Option (Bool × Int) :=
  (if ((true) || !(i_IsField p)) = true then (if ((i_asked p (true) (i_HasRightAngle_c1 colour p a b c)) != 0) = true then some (false, (i_asked p (true) (i_HasRightAngle_c1 colour p a b c))) else (if (prB p) = true then some ((i_isRight p colour a b c), 0) else none)) else none)
theorem eq_i_HasRightAngle (p : Int) (colour : Int) (a : Int × Int) (b : Int × Int) (c : Int × Int) : execT Try.prog S_i_HasRightAngle 22 25 (fun _ => 1000000) dec_b_i [.v (.int .i64 p), .v (.int .i64 colour), .v (.agg ⟨[.int .i64 a.1, .int .i64 a.2]⟩), .v (.agg ⟨[.int .i64 b.1, .int .i64 b.2]⟩), .v (.agg ⟨[.int .i64 c.1, .int .i64 c.2]⟩)] = Fo_i_HasRightAngle p colour a b c := by
  kernel_rfl
def i_HasRightAngle (p : Int) (colour : Int) (a : Int × Int) (b : Int × Int) (c : Int × Int) : Bool × Int :=
  (if ((i_asked p (true) (i_HasRightAngle_c1 colour p a b c)) != 0) = true then (false, (i_asked p (true) (i_HasRightAngle_c1 colour p a b c))) else ((i_isRight p colour a b c), 0))
theorem tot_i_HasRightAngle (p : Int) (colour : Int) (a : Int × Int) (b : Int × Int) (c : Int × Int) : Fo_i_HasRightAngle p colour a b c = some (i_HasRightAngle p colour a b c) := by
  unfold Fo_i_HasRightAngle i_HasRightAngle
  (try simp only [wI_eq])
  repeat' (first | with_reducible rfl | refine chk_opt (by first | with_reducible rfl | exact Bool.true_or _ | (with_reducible exact asked_prB ‹_›) | (with_reducible exact asked_prB0 ‹_›) | exact mk_ok (by (first | (with_reducible assumption) | (with_reducible exact asked_prB ‹_›) | (with_reducible exact asked_prB0 ‹_›))) | exact and_all (by (first | (with_reducible assumption) | (with_reducible exact asked_prB ‹_›) | (with_reducible exact asked_prB0 ‹_›))) (fun _ => rfl) | exact and_all (by (first | (with_reducible assumption) | (with_reducible exact asked_prB ‹_›) | (with_reducible exact asked_prB0 ‹_›))) (fun _ => by (first | (with_reducible assumption) | (with_reducible exact asked_prB ‹_›) | (with_reducible exact asked_prB0 ‹_›))) | exact and3 (by (first | (with_reducible assumption) | (with_reducible exact asked_prB ‹_›) | (with_reducible exact asked_prB0 ‹_›))) (by (first | (with_reducible assumption) | (with_reducible exact asked_prB ‹_›) | (with_reducible exact asked_prB0 ‹_›))) (by (first | (with_reducible assumption) | (with_reducible exact asked_prB ‹_›) | (with_reducible exact asked_prB0 ‹_›))) | exact and_two (by (first | (with_reducible assumption) | (with_reducible exact asked_prB ‹_›) | (with_reducible exact asked_prB0 ‹_›))) rfl | rfl) ?_ | refine ite_opt (fun _ => ?_) (fun _ => ?_) | rfl)
def run_i_HasRightAngle : List PV → Option (Bool × List TR)
  | [.v (.int .i64 p), .v (.int .i64 colour), .v (.agg ⟨[.int .i64 a0, .int .i64 a1]⟩), .v (.agg ⟨[.int .i64 b0, .int .i64 b1]⟩), .v (.agg ⟨[.int .i64 c0, .int .i64 c1]⟩)] => some (true, enc_b_i (i_HasRightAngle p colour (a0, a1) (b0, b1) (c0, c1)))
  | _ => none
theorem sound_i_HasRightAngle : Sound Try.prog 22 run_i_HasRightAngle := by
  refine sound_of de_b_i SO_i_HasRightAngle (by kernel_rfl) Try.func22 Try.ntmps22 rfl (by kernel_rfl) ?_
  intro W pvs avs rs hargs hrun
  unfold run_i_HasRightAngle at hrun
  split at hrun
  · simp only [Option.some.injEq, Prod.mk.injEq] at hrun
    obtain ⟨hp, rfl⟩ := hrun
    rename_i p colour a0 a1 b0 b1 c0 c1
    exact ⟨_, _, _, hargs, rfl, (eq_i_HasRightAngle p colour (a0, a1) (b0, b1) (c0, c1)).trans (tot_i_HasRightAngle p colour (a0, a1) (b0, b1) (c0, c1))⟩
  · cases hrun

def S_i_Quadrance_c1 : Sums := ⟨tblS [(75, run_i_isColour), (63, run_i_arePoints)], tblM []⟩
theorem SO_i_Quadrance_c1 : SumsOK Try.prog S_i_Quadrance_c1 := ⟨tblS_ok ⟨⟨Try.call75, sound_i_isColour⟩, ⟨Try.call63, sound_i_arePoints⟩, True.intro⟩, tblM_ok True.intro⟩
def Fo_i_Quadrance_c1 (c0 : Int) (c1 : Int) (c2 : Int × Int) (c3 : Int × Int) : Option (Bool) :=
  (if (i_isColour c0) = true then some (i_arePoints c1 [c2, c3]) else some false)
theorem eq_i_Quadrance_c1 (c0 : Int) (c1 : Int) (c2 : Int × Int) (c3 : Int × Int) : execT Try.prog S_i_Quadrance_c1 76 14 (fun _ => 1000000) dec_b [.p [.int .i64 c0], .p [.int .i64 c1], .p [.int .i64 c2.1, .int .i64 c2.2], .p [.int .i64 c3.1, .int .i64 c3.2]] = Fo_i_Quadrance_c1 c0 c1 c2 c3 := by
  kernel_rfl
def i_Quadrance_c1 (c0 : Int) (c1 : Int) (c2 : Int × Int) (c3 : Int × Int) : Bool :=
  (if (i_isColour c0) = true then (i_arePoints c1 [c2, c3]) else false)
theorem tot_i_Quadrance_c1 (c0 : Int) (c1 : Int) (c2 : Int × Int) (c3 : Int × Int) : Fo_i_Quadrance_c1 c0 c1 c2 c3 = some (i_Quadrance_c1 c0 c1 c2 c3) := by
  unfold Fo_i_Quadrance_c1 i_Quadrance_c1
  (try simp only [wI_eq])
  repeat' (first | with_reducible rfl | refine ite_opt (fun _ => ?_) (fun _ => ?_) | rfl)
def run_i_Quadrance_c1 : List PV → Option (Bool × List TR)
  | [.p [.int .i64 c0], .p [.int .i64 c1], .p [.int .i64 c20, .int .i64 c21], .p [.int .i64 c30, .int .i64 c31]] => some (true, enc_b (i_Quadrance_c1 c0 c1 (c20, c21) (c30, c31)))
  | _ => none
theorem sound_i_Quadrance_c1 : Sound Try.prog 76 run_i_Quadrance_c1 := by
  refine sound_of de_b SO_i_Quadrance_c1 (by kernel_rfl) Try.func76 Try.ntmps76 rfl (by kernel_rfl) ?_
  intro W pvs avs rs hargs hrun
  unfold run_i_Quadrance_c1 at hrun
  split at hrun
  · simp only [Option.some.injEq, Prod.mk.injEq] at hrun
    obtain ⟨hp, rfl⟩ := hrun
    rename_i c0 c1 c20 c21 c30 c31
    exact ⟨_, _, _, hargs, rfl, (eq_i_Quadrance_c1 c0 c1 (c20, c21) (c30, c31)).trans (tot_i_Quadrance_c1 c0 c1 (c20, c21) (c30, c31))⟩
  · cases hrun

def S_i_Quadrance : Sums := ⟨tblS [(53, run_i_asked), (76, run_i_Quadrance_c1), (72, run_i_quadrance)], tblM []⟩
theorem SO_i_Quadrance : SumsOK Try.prog S_i_Quadrance := ⟨tblS_ok ⟨⟨Try.call53, sound_i_asked⟩, ⟨Try.call76, sound_i_Quadrance_c1⟩, ⟨Try.call72, sound_i_quadrance⟩, True.intro⟩, tblM_ok True.intro⟩
def Fo_i_Quadrance (p : Int) (colour : Int) (a : Int × Int) (b : Int × Int) : Option (Int × Int) :=
  (if ((true) || !(i_IsField p)) = true then (if ((i_asked p (true) (i_Quadrance_c1 colour p a b)) != 0) = true then some (0, (i_asked p (true) (i_Quadrance_c1 colour p a b))) else (if (prB p) = true then some ((i_quadrance p colour a b), 0) else none)) else none)
theorem eq_i_Quadrance (p : Int) (colour : Int) (a : Int × Int) (b : Int × Int) : execT Try.prog S_i_Quadrance 24 22 (fun _ => 1000000) dec_i_i [.v (.int .i64 p), .v (.int .i64 colour), .v (.agg ⟨[.int .i64 a.1, .int .i64 a.2]⟩), .v (.agg ⟨[.int .i64 b.1, .int .i64 b.2]⟩)] = Fo_i_Quadrance p colour a b := by
  kernel_rfl
def i_Quadrance (p : Int) (colour : Int) (a : Int × Int) (b : Int × Int) : Int × Int :=
  (if ((i_asked p (true) (i_Quadrance_c1 colour p a b)) != 0) = true then (0, (i_asked p (true) (i_Quadrance_c1 colour p a b))) else ((i_quadrance p colour a b), 0))
theorem tot_i_Quadrance (p : Int) (colour : Int) (a : Int × Int) (b : Int × Int) : Fo_i_Quadrance p colour a b = some (i_Quadrance p colour a b) := by
  unfold Fo_i_Quadrance i_Quadrance
  (try simp only [wI_eq])
  repeat' (first | with_reducible rfl | refine chk_opt (by first | with_reducible rfl | exact Bool.true_or _ | (with_reducible exact asked_prB ‹_›) | (with_reducible exact asked_prB0 ‹_›) | exact mk_ok (by (first | (with_reducible assumption) | (with_reducible exact asked_prB ‹_›) | (with_reducible exact asked_prB0 ‹_›))) | exact and_all (by (first | (with_reducible assumption) | (with_reducible exact asked_prB ‹_›) | (with_reducible exact asked_prB0 ‹_›))) (fun _ => rfl) | exact and_all (by (first | (with_reducible assumption) | (with_reducible exact asked_prB ‹_›) | (with_reducible exact asked_prB0 ‹_›))) (fun _ => by (first | (with_reducible assumption) | (with_reducible exact asked_prB ‹_›) | (with_reducible exact asked_prB0 ‹_›))) | exact and3 (by (first | (with_reducible assumption) | (with_reducible exact asked_prB ‹_›) | (with_reducible exact asked_prB0 ‹_›))) (by (first | (with_reducible assumption) | (with_reducible exact asked_prB ‹_›) | (with_reducible exact asked_prB0 ‹_›))) (by (first | (with_reducible assumption) | (with_reducible exact asked_prB ‹_›) | (with_reducible exact asked_prB0 ‹_›))) | exact and_two (by (first | (with_reducible assumption) | (with_reducible exact asked_prB ‹_›) | (with_reducible exact asked_prB0 ‹_›))) rfl | rfl) ?_ | refine ite_opt (fun _ => ?_) (fun _ => ?_) | rfl)
def run_i_Quadrance : List PV → Option (Bool × List TR)
  | [.v (.int .i64 p), .v (.int .i64 colour), .v (.agg ⟨[.int .i64 a0, .int .i64 a1]⟩), .v (.agg ⟨[.int .i64 b0, .int .i64 b1]⟩)] => some (true, enc_i_i (i_Quadrance p colour (a0, a1) (b0, b1)))
  | _ => none
theorem sound_i_Quadrance : Sound Try.prog 24 run_i_Quadrance := by
  refine sound_of de_i_i SO_i_Quadrance (by kernel_rfl) Try.func24 Try.ntmps24 rfl (by kernel_rfl) ?_
  intro W pvs avs rs hargs hrun
  unfold run_i_Quadrance at hrun
  split at hrun
  · simp only [Option.some.injEq, Prod.mk.injEq] at hrun
    obtain ⟨hp, rfl⟩ := hrun
    rename_i p colour a0 a1 b0 b1
    exact ⟨_, _, _, hargs, rfl, (eq_i_Quadrance p colour (a0, a1) (b0, b1)).trans (tot_i_Quadrance p colour (a0, a1) (b0, b1))⟩
  · cases hrun


end

end Go.Proofs.Ytpopgdmnajngjaa
