import Derived.Test.YtoblkbpejfojjaaGreatDoorFf
import Derived.Test.YtoblkbpejfojjaaGreatDoorProg
set_option linter.unusedSimpArgs false
set_option linter.unusedVariables false
namespace Go.Proofs.YtoblkbpejfojjaaGreatDoor
open Go.RowKit
noncomputable section
def S_i_meet : Sums := ⟨tblS [(57, run_i_rest), (161, run_i_divide)], tblM []⟩
theorem SO_i_meet : SumsOK Tryz.prog S_i_meet := ⟨tblS_ok ⟨⟨Tryz.call57, sound_i_rest⟩, ⟨Tryz.call161, sound_i_divide⟩, True.intro⟩, tblM_ok True.intro⟩
def Fo_i_meet (p : Int) (l : Int × Int × Int) (m : Int × Int × Int) : Option (Int × Int) :=
  (if (prB p) = true then (if (prB p) = true then (if (prB p) = true then (if (prB p) = true then (if (prB p) = true then some ((i_divide p (i_rest p (wI ((wI (l.2.1 * m.2.2)) - (wI (l.2.2 * m.2.1))))) (i_rest p (wI ((wI (l.1 * m.2.1)) - (wI (l.2.1 * m.1)))))), (i_divide p (i_rest p (wI ((wI (l.2.2 * m.1)) - (wI (l.1 * m.2.2))))) (i_rest p (wI ((wI (l.1 * m.2.1)) - (wI (l.2.1 * m.1))))))) else none) else none) else none) else none) else none)
theorem eq_i_meet (p : Int) (l : Int × Int × Int) (m : Int × Int × Int) : execT Tryz.prog S_i_meet 148 54 (fun _ => 1000000) dec_a2 [.v (.int .i64 p), .v (.agg ⟨[.int .i64 l.1, .int .i64 l.2.1, .int .i64 l.2.2]⟩), .v (.agg ⟨[.int .i64 m.1, .int .i64 m.2.1, .int .i64 m.2.2]⟩)] = Fo_i_meet p l m := by
  kernel_rfl
def i_meet (p : Int) (l : Int × Int × Int) (m : Int × Int × Int) : Int × Int :=
  ((i_divide p (i_rest p (wrap64 ((wrap64 (l.2.1 * m.2.2)) - (wrap64 (l.2.2 * m.2.1))))) (i_rest p (wrap64 ((wrap64 (l.1 * m.2.1)) - (wrap64 (l.2.1 * m.1)))))), (i_divide p (i_rest p (wrap64 ((wrap64 (l.2.2 * m.1)) - (wrap64 (l.1 * m.2.2))))) (i_rest p (wrap64 ((wrap64 (l.1 * m.2.1)) - (wrap64 (l.2.1 * m.1)))))))
theorem tot_i_meet (p : Int) (l : Int × Int × Int) (m : Int × Int × Int) (hp : (prB p) = true) : Fo_i_meet p l m = some (i_meet p l m) := by
  try have h0 := prB_ne hp
  unfold Fo_i_meet i_meet
  (try simp only [wI_eq])
  repeat' (first | with_reducible rfl | with_reducible refine chk_opt hp ?_ | with_reducible refine chk_opt h0 ?_ | refine chk_opt (and_all hp fun _ => hp) ?_ | refine chk_opt (and_all hp fun _ => rfl) ?_ | refine ite_opt (fun _ => ?_) (fun _ => ?_) | rfl)
def run_i_meet : List PV → Option (Bool × List TR)
  | [.v (.int .i64 p), .v (.agg ⟨[.int .i64 l0, .int .i64 l1, .int .i64 l2]⟩), .v (.agg ⟨[.int .i64 m0, .int .i64 m1, .int .i64 m2]⟩)] => some (prB p, enc_a2 (i_meet p (l0, l1, l2) (m0, m1, m2)))
  | _ => none
theorem sound_i_meet : Sound Tryz.prog 148 run_i_meet := by
  refine sound_of de_a2 SO_i_meet (by kernel_rfl) Tryz.func148 Tryz.ntmps148 rfl (by kernel_rfl) ?_
  intro W pvs avs rs hargs hrun
  unfold run_i_meet at hrun
  split at hrun
  · simp only [Option.some.injEq, Prod.mk.injEq] at hrun
    obtain ⟨hp, rfl⟩ := hrun
    rename_i p l0 l1 l2 m0 m1 m2
    exact ⟨_, _, _, hargs, rfl, (eq_i_meet p (l0, l1, l2) (m0, m1, m2)).trans (tot_i_meet p (l0, l1, l2) (m0, m1, m2) hp)⟩
  · cases hrun

def S_i_linesThrough : Sums := ⟨tblS [(57, run_i_rest)], tblM []⟩
theorem SO_i_linesThrough : SumsOK Tryz.prog S_i_linesThrough := ⟨tblS_ok ⟨⟨Tryz.call57, sound_i_rest⟩, True.intro⟩, tblM_ok True.intro⟩
def T_i_linesThrough_0 (p : Int) (a : Int × Int) (l13 : List Int) (m13 : Nat) (b : Int) : Tab := ⟨[.val (.int .i64 p), .val (.agg ⟨[.int .i64 a.1, .int .i64 a.2]⟩), .junk, .ptr 12 0, .val (.slice none 0 0), .row 52, .val (.int .i64 b), .val (.int .i64 p), .ptr 12 1, .val (.int .i64 a.2), .val (.int .i64 (wI (0 - a.2))), .val (.int .i64 (i_rest p (wI (0 - a.2)))), .val (.agg ⟨[.int .i64 0, .int .i64 1, .int .i64 (i_rest p (wI (0 - a.2)))]⟩), .junk, .junk, .junk, .junk, .junk, .junk, .junk, .junk, .junk, .junk, .junk, .junk, .junk, .junk, .junk, .junk, .junk, .junk, .junk, .junk, .junk, .junk], [(12, .box 26 [.val (.int .i64 a.1), .val (.int .i64 a.2)]), (52, .row 45 3 m13 (.ints l13))]⟩
def X_i_linesThrough_0 (P : Program) (fu : Nat) (p : Int) (a : Int × Int) (f : Nat) (l13 : List Int) (m13 : Nat) (b : Int) : Option (Nat × List Int) := loopK (exec P S_i_linesThrough 35 (fun _ => fu + 100) (Code.sub [1, 1, 0, 1, 0, 0] (bodyF P 162))) f (T_i_linesThrough_0 p a l13 m13 b) (kBlock 0 (kSeq (fun zs9 => exec P S_i_linesThrough 35 (fun _ => fu + 100) (Code.sub [1, 1, 1] (bodyF P 162)) zs9 (finT P 162 dec_l45_3)) (finT P 162 dec_l45_3)))
def B_i_linesThrough_0 (p : Int) (a : Int × Int) (rec0 : (List Int) → Nat → Int → Option (Nat × List Int)) (l13 : List Int) (m13 : Nat) (b : Int) : Option (Nat × List Int) :=
  (if (decide (b < p)) = true then (if (prB p) = true then (if (Nat.ble 0 1 && Nat.ble (m13 + 1) 1000000 && Nat.beq 3 (3)) = true then rec0 (l13 ++ [1, b, (i_rest p (wI ((wI (0 - a.1)) - (wI (b * a.2)))))]) (m13 + 1) (wI (b + 1)) else none) else none) else some (m13, l13))
def L_i_linesThrough_0 (fu : Nat) (p : Int) (a : Int × Int) : Nat → (List Int) → Nat → Int → Option (Nat × List Int)
  | 0, _, _, _ => none
  | f + 1, l13, m13, b => B_i_linesThrough_0 p a (L_i_linesThrough_0 fu p a f) l13 m13 b
theorem loop_i_linesThrough_0 (fu : Nat) (p : Int) (a : Int × Int) : ∀ (f : Nat) (l13 : List Int) (m13 : Nat) (b : Int), X_i_linesThrough_0 Tryz.prog fu p a f l13 m13 b = L_i_linesThrough_0 fu p a f l13 m13 b := by
  intro f
  induction f with
  | zero => intros; rfl
  | succ f ih =>
    intro l13 m13 b
    have h1 : X_i_linesThrough_0 Tryz.prog fu p a (f + 1) l13 m13 b = B_i_linesThrough_0 p a (X_i_linesThrough_0 Tryz.prog fu p a f) l13 m13 b := by kernel_rfl
    have h2 : X_i_linesThrough_0 Tryz.prog fu p a f = L_i_linesThrough_0 fu p a f := by funext l13 m13 b; exact ih l13 m13 b
    rw [h1, h2]
    rfl
def G_i_linesThrough (p : Int) (a : Int × Int) (lo0 : (List Int) → Nat → Int → Option (Nat × List Int)) : Option (Nat × List Int) :=
  (if (prB p) = true then lo0 [0, 1, (i_rest p (wI (0 - a.2)))] 1 0 else none)
def Fo_i_linesThrough (fu : Nat) (p : Int) (a : Int × Int) : Option (Nat × List Int) := G_i_linesThrough p a (L_i_linesThrough_0 fu p a (fu + 100))
theorem eqg_i_linesThrough (fu : Nat) (p : Int) (a : Int × Int) : execT Tryz.prog S_i_linesThrough 162 35 (fun _ => fu + 100) dec_l45_3 [.v (.int .i64 p), .v (.agg ⟨[.int .i64 a.1, .int .i64 a.2]⟩)] = G_i_linesThrough p a (L_i_linesThrough_0 fu p a (fu + 100)) := by
  have h1 : execT Tryz.prog S_i_linesThrough 162 35 (fun _ => fu + 100) dec_l45_3 [.v (.int .i64 p), .v (.agg ⟨[.int .i64 a.1, .int .i64 a.2]⟩)] = G_i_linesThrough p a (X_i_linesThrough_0 Tryz.prog fu p a (fu + 100)) := by kernel_rfl
  have c0 : X_i_linesThrough_0 Tryz.prog fu p a (fu + 100) = L_i_linesThrough_0 fu p a (fu + 100) := by funext l13 m13 b; exact loop_i_linesThrough_0 fu p a (fu + 100) l13 m13 b
  rw [h1, c0]
theorem eq_i_linesThrough (fu : Nat) (p : Int) (a : Int × Int) : execT Tryz.prog S_i_linesThrough 162 35 (fun _ => fu + 100) dec_l45_3 [.v (.int .i64 p), .v (.agg ⟨[.int .i64 a.1, .int .i64 a.2]⟩)] = Fo_i_linesThrough fu p a := eqg_i_linesThrough fu p a
def linesT (p : Int) (a : P2) : List P3 := ((0, 1, i_rest p (wrap64 (0 - a.2))) :: ((List.range p.toNat).map fun b : Nat => ((1 : Int), (b : Int), i_rest p (wrap64 (wrap64 (0 - a.1) - wrap64 ((b : Int) * a.2))))))
def i_linesThrough (p : Int) (a : P2) : Nat × List Int := ((linesT p a).length, flat3 (linesT p a))
theorem linesT_len {p : Int} (hp : prB p = true) (a : P2) : (linesT p a).length ≤ 993 := by
  have h1 := (prB_nat hp).1
  unfold linesT
  simp; omega

theorem tot_i_linesThrough (p : Int) (a : Int × Int) (hp : (prB p) = true) : Fo_i_linesThrough 1000000 p a = some (i_linesThrough p a) := by
  obtain ⟨h1, h0, hpn⟩ := prB_nat hp
  unfold Fo_i_linesThrough G_i_linesThrough
  rw [if_pos hp]
  refine (gather (flat := flat3) flat3_app rfl (L := fun f l m i => L_i_linesThrough_0 1000000 p a f l m i) (n := p.toNat) (b := 1) (M := 1) (fun b : Nat => [((1 : Int), (b : Int), i_rest p (wrap64 (wrap64 (0 - a.1) - wrap64 ((b : Int) * a.2))))]) (K := (some (i_linesThrough p a))) (l := [0, 1, i_rest p (wI (0 - a.2))]) (m := 1) (F := (1000000 + 100)) (by intro k hk; first | (split <;> simp) | simp_all)
    (fun f k l m hk hm => by
      show B_i_linesThrough_0 p a (L_i_linesThrough_0 1000000 p a f) l m (k : Int) = _
      unfold B_i_linesThrough_0
      simp only [cndp hk, hp, if_true, wI_eq]
      rw [if_pos (by simp; omega), show wrap64 ((k : Int) + 1) = ((k + 1 : Nat) : Int) from by rw [← wI_eq]; exact wrap_add1 hk (by omega)]
      rfl)
    (fun f hm => by
      show B_i_linesThrough_0 p a (L_i_linesThrough_0 1000000 p a f) ([0, 1, i_rest p (wI (0 - a.2))] ++ flat3 ((List.range p.toNat).flatMap (fun b : Nat => [((1 : Int), (b : Int), i_rest p (wrap64 (wrap64 (0 - a.1) - wrap64 ((b : Int) * a.2))))]))) (1 + ((List.range p.toNat).flatMap (fun b : Nat => [((1 : Int), (b : Int), i_rest p (wrap64 (wrap64 (0 - a.1) - wrap64 ((b : Int) * a.2))))])).length) ((p.toNat : Nat) : Int) = _
      unfold B_i_linesThrough_0
      rw [if_neg (by simp; omega), flatMap_one]
      refine congrArg some (Prod.ext ?_ ?_)
      · simp [i_linesThrough, linesT]; omega
      · simp only [wI_eq]
        rfl) (by omega) (Nat.le_refl _)).trans ?_
  rfl
def run_i_linesThrough : List PV → Option (Bool × List TR)
  | [.v (.int .i64 p), .v (.agg ⟨[.int .i64 a0, .int .i64 a1]⟩)] => some (prB p, enc_l45_3 (i_linesThrough p (a0, a1)))
  | _ => none
theorem sound_i_linesThrough : Sound Tryz.prog 162 run_i_linesThrough := by
  refine sound_of de_l45_3 SO_i_linesThrough (by kernel_rfl) Tryz.func162 Tryz.ntmps162 rfl (by kernel_rfl) ?_
  intro W pvs avs rs hargs hrun
  unfold run_i_linesThrough at hrun
  split at hrun
  · simp only [Option.some.injEq, Prod.mk.injEq] at hrun
    obtain ⟨hp, rfl⟩ := hrun
    rename_i p a0 a1
    exact ⟨_, _, _, hargs, rfl, (eq_i_linesThrough _ p (a0, a1)).trans (tot_i_linesThrough p (a0, a1) hp)⟩
  · cases hrun

def S_i_arePerpendicular : Sums := ⟨tblS [(80, run_i_way), (137, run_i_product)], tblM []⟩
theorem SO_i_arePerpendicular : SumsOK Tryz.prog S_i_arePerpendicular := ⟨tblS_ok ⟨⟨Tryz.call80, sound_i_way⟩, ⟨Tryz.call137, sound_i_product⟩, True.intro⟩, tblM_ok True.intro⟩
def Fo_i_arePerpendicular (p : Int) (colour : Int) (l : Int × Int × Int) (m : Int × Int × Int) : Option (Bool) :=
  (if (prB p) = true then (if (prB p) = true then (if (prB p) = true then some ((i_product p colour (i_way p l) (i_way p m)) == 0) else none) else none) else none)
theorem eq_i_arePerpendicular (p : Int) (colour : Int) (l : Int × Int × Int) (m : Int × Int × Int) : execT Tryz.prog S_i_arePerpendicular 147 19 (fun _ => 1000000) dec_b [.v (.int .i64 p), .v (.int .i64 colour), .v (.agg ⟨[.int .i64 l.1, .int .i64 l.2.1, .int .i64 l.2.2]⟩), .v (.agg ⟨[.int .i64 m.1, .int .i64 m.2.1, .int .i64 m.2.2]⟩)] = Fo_i_arePerpendicular p colour l m := by
  kernel_rfl
def i_arePerpendicular (p : Int) (colour : Int) (l : Int × Int × Int) (m : Int × Int × Int) : Bool :=
  (i_product p colour (i_way p l) (i_way p m)) == 0
theorem tot_i_arePerpendicular (p : Int) (colour : Int) (l : Int × Int × Int) (m : Int × Int × Int) (hp : (prB p) = true) : Fo_i_arePerpendicular p colour l m = some (i_arePerpendicular p colour l m) := by
  try have h0 := prB_ne hp
  unfold Fo_i_arePerpendicular i_arePerpendicular
  (try simp only [wI_eq])
  repeat' (first | with_reducible rfl | with_reducible refine chk_opt hp ?_ | with_reducible refine chk_opt h0 ?_ | refine chk_opt (and_all hp fun _ => hp) ?_ | refine chk_opt (and_all hp fun _ => rfl) ?_ | refine ite_opt (fun _ => ?_) (fun _ => ?_) | rfl)
def run_i_arePerpendicular : List PV → Option (Bool × List TR)
  | [.v (.int .i64 p), .v (.int .i64 colour), .v (.agg ⟨[.int .i64 l0, .int .i64 l1, .int .i64 l2]⟩), .v (.agg ⟨[.int .i64 m0, .int .i64 m1, .int .i64 m2]⟩)] => some (prB p, enc_b (i_arePerpendicular p colour (l0, l1, l2) (m0, m1, m2)))
  | _ => none
theorem sound_i_arePerpendicular : Sound Tryz.prog 147 run_i_arePerpendicular := by
  refine sound_of de_b SO_i_arePerpendicular (by kernel_rfl) Tryz.func147 Tryz.ntmps147 rfl (by kernel_rfl) ?_
  intro W pvs avs rs hargs hrun
  unfold run_i_arePerpendicular at hrun
  split at hrun
  · simp only [Option.some.injEq, Prod.mk.injEq] at hrun
    obtain ⟨hp, rfl⟩ := hrun
    rename_i p colour l0 l1 l2 m0 m1 m2
    exact ⟨_, _, _, hargs, rfl, (eq_i_arePerpendicular p colour (l0, l1, l2) (m0, m1, m2)).trans (tot_i_arePerpendicular p colour (l0, l1, l2) (m0, m1, m2) hp)⟩
  · cases hrun

def S_i_perpendicular : Sums := ⟨tblS [(162, run_i_linesThrough), (147, run_i_arePerpendicular)], tblM []⟩
theorem SO_i_perpendicular : SumsOK Tryz.prog S_i_perpendicular := ⟨tblS_ok ⟨⟨Tryz.call162, sound_i_linesThrough⟩, ⟨Tryz.call147, sound_i_arePerpendicular⟩, True.intro⟩, tblM_ok True.intro⟩
def T_i_perpendicular_0 (p : Int) (colour : Int) (l : Int × Int × Int) (a : Int × Int) (t15 : Int) : Tab := ⟨[.val (.int .i64 p), .val (.int .i64 colour), .val (.agg ⟨[.int .i64 l.1, .int .i64 l.2.1, .int .i64 l.2.2]⟩), .val (.agg ⟨[.int .i64 a.1, .int .i64 a.2]⟩), .junk, .junk, .ptr 24 0, .ptr 28 0, .ptr 32 0, .junk, .junk, .val (.int .i64 p), .val (.agg ⟨[.int .i64 a.1, .int .i64 a.2]⟩), .row 52, .val (.int .i64 (((i_linesThrough p a).1 : Nat) : Int)), .val (.int .i64 t15), .junk, .junk, .junk, .junk, .junk, .junk, .junk, .junk, .junk, .junk, .junk], [(24, .box 45 [.val (.int .i64 l.1), .val (.int .i64 l.2.1), .val (.int .i64 l.2.2)]), (28, .box 26 [.val (.int .i64 a.1), .val (.int .i64 a.2)]), (32, .box 45 [.val (.int .i64 0), .val (.int .i64 0), .val (.int .i64 0)]), (52, .row 45 3 ((i_linesThrough p a).1) (.ints ((i_linesThrough p a).2)))]⟩
def X_i_perpendicular_0 (P : Program) (fu : Nat) (p : Int) (colour : Int) (l : Int × Int × Int) (a : Int × Int) (f : Nat) (t15 : Int) : Option (Int × Int × Int) := loopK (exec P S_i_perpendicular 27 (fun _ => fu + 100) (Code.sub [1, 0, 1, 0, 0] (bodyF P 149))) f (T_i_perpendicular_0 p colour l a t15) (kBlock 0 (kSeq (fun zs9 => exec P S_i_perpendicular 27 (fun _ => fu + 100) (Code.sub [1, 1] (bodyF P 149)) zs9 (finT P 149 dec_a3)) (finT P 149 dec_a3)))
def B_i_perpendicular_0 (p : Int) (colour : Int) (l : Int × Int × Int) (a : Int × Int) (rec0 : Int → Option (Int × Int × Int)) (t15 : Int) : Option (Int × Int × Int) :=
  (if (decide (t15 < (((i_linesThrough p a).1 : Nat) : Int))) = true then (if (decide (0 ≤ t15) && decide (t15 < (((i_linesThrough p a).1 : Nat) : Int))) = true then (if (Nat.ble (t15.toNat * 3 + 3) (((i_linesThrough p a).2).length)) = true then (if (prB p) = true then (if (i_arePerpendicular p colour l (((i_linesThrough p a).2).getD (t15.toNat * 3 + 0) 0, ((i_linesThrough p a).2).getD (t15.toNat * 3 + 1) 0, ((i_linesThrough p a).2).getD (t15.toNat * 3 + 2) 0)) = true then some (((i_linesThrough p a).2).getD (t15.toNat * 3 + 0) 0, ((i_linesThrough p a).2).getD (t15.toNat * 3 + 1) 0, ((i_linesThrough p a).2).getD (t15.toNat * 3 + 2) 0) else rec0 (wI (t15 + 1))) else none) else none) else none) else some (0, 0, 0))
def L_i_perpendicular_0 (fu : Nat) (p : Int) (colour : Int) (l : Int × Int × Int) (a : Int × Int) : Nat → Int → Option (Int × Int × Int)
  | 0, _ => none
  | f + 1, t15 => B_i_perpendicular_0 p colour l a (L_i_perpendicular_0 fu p colour l a f) t15
theorem loop_i_perpendicular_0 (fu : Nat) (p : Int) (colour : Int) (l : Int × Int × Int) (a : Int × Int) : ∀ (f : Nat) (t15 : Int), X_i_perpendicular_0 Tryz.prog fu p colour l a f t15 = L_i_perpendicular_0 fu p colour l a f t15 := by
  intro f
  induction f with
  | zero => intros; rfl
  | succ f ih =>
    intro t15
    have h1 : X_i_perpendicular_0 Tryz.prog fu p colour l a (f + 1) t15 = B_i_perpendicular_0 p colour l a (X_i_perpendicular_0 Tryz.prog fu p colour l a f) t15 := by kernel_rfl
    have h2 : X_i_perpendicular_0 Tryz.prog fu p colour l a f = L_i_perpendicular_0 fu p colour l a f := by funext t15; exact ih t15
    rw [h1, h2]
    rfl
def G_i_perpendicular (p : Int) (colour : Int) (l : Int × Int × Int) (a : Int × Int) (lo0 : Int → Option (Int × Int × Int)) : Option (Int × Int × Int) :=
  (if (prB p) = true then lo0 0 else none)
def Fo_i_perpendicular (fu : Nat) (p : Int) (colour : Int) (l : Int × Int × Int) (a : Int × Int) : Option (Int × Int × Int) := G_i_perpendicular p colour l a (L_i_perpendicular_0 fu p colour l a (fu + 100))
theorem eqg_i_perpendicular (fu : Nat) (p : Int) (colour : Int) (l : Int × Int × Int) (a : Int × Int) : execT Tryz.prog S_i_perpendicular 149 27 (fun _ => fu + 100) dec_a3 [.v (.int .i64 p), .v (.int .i64 colour), .v (.agg ⟨[.int .i64 l.1, .int .i64 l.2.1, .int .i64 l.2.2]⟩), .v (.agg ⟨[.int .i64 a.1, .int .i64 a.2]⟩)] = G_i_perpendicular p colour l a (L_i_perpendicular_0 fu p colour l a (fu + 100)) := by
  have h1 : execT Tryz.prog S_i_perpendicular 149 27 (fun _ => fu + 100) dec_a3 [.v (.int .i64 p), .v (.int .i64 colour), .v (.agg ⟨[.int .i64 l.1, .int .i64 l.2.1, .int .i64 l.2.2]⟩), .v (.agg ⟨[.int .i64 a.1, .int .i64 a.2]⟩)] = G_i_perpendicular p colour l a (X_i_perpendicular_0 Tryz.prog fu p colour l a (fu + 100)) := by kernel_rfl
  have c0 : X_i_perpendicular_0 Tryz.prog fu p colour l a (fu + 100) = L_i_perpendicular_0 fu p colour l a (fu + 100) := by funext t15; exact loop_i_perpendicular_0 fu p colour l a (fu + 100) t15
  rw [h1, c0]
theorem eq_i_perpendicular (fu : Nat) (p : Int) (colour : Int) (l : Int × Int × Int) (a : Int × Int) : execT Tryz.prog S_i_perpendicular 149 27 (fun _ => fu + 100) dec_a3 [.v (.int .i64 p), .v (.int .i64 colour), .v (.agg ⟨[.int .i64 l.1, .int .i64 l.2.1, .int .i64 l.2.2]⟩), .v (.agg ⟨[.int .i64 a.1, .int .i64 a.2]⟩)] = Fo_i_perpendicular fu p colour l a := eqg_i_perpendicular fu p colour l a
def i_perpendicular (p colour : Int) (l : P3) (a : P2) : P3 := (((linesT p a).findSome? fun zz => if i_arePerpendicular p colour l zz = true then some zz else none)).getD (0, 0, 0)
theorem lo0_i_perpendicular (p colour : Int) (l : P3) (a : P2) (hp : prB p = true) {F : Nat} (hF : 993 < F) : L_i_perpendicular_0 1000000 p colour l a F 0 = some ((((linesT p a).findSome? fun zz => if i_arePerpendicular p colour l zz = true then some (zz) else none)).getD (0, 0, 0)) := by
  have hlen : (linesT p a).length ≤ 993 := linesT_len hp a
  have h := seek (L := fun f i => L_i_perpendicular_0 1000000 p colour l a f i) (n := (linesT p a).length) (F := F) (q := fun k => if i_arePerpendicular p colour l (R3 (flat3 (linesT p a)) k) = true then some ((R3 (flat3 (linesT p a)) k)) else none) (e := (0, 0, 0)) (by omega)
    (fun f k hk => by
      show B_i_perpendicular_0 p colour l a (L_i_perpendicular_0 1000000 p colour l a f) (k : Int) = _
      unfold B_i_perpendicular_0
      have e0 : decide (0 ≤ (k : Int)) = true := by simp
      have e1 := cnd hk
      have e3 : (k : Int).toNat = k := Int.toNat_natCast k
      have e4 := row3_ok (flat3_len _) hk
      rw [show i_linesThrough p a = ((linesT p a).length, flat3 (linesT p a)) from rfl]
      simp only [e0, e1, e3, e4, hp, Bool.and_true, Bool.true_and, if_true, wrap_add1 hk (by omega)]
      have hr : ((flat3 (linesT p a)).getD (k * 3 + 0) 0, (flat3 (linesT p a)).getD (k * 3 + 1) 0, (flat3 (linesT p a)).getD (k * 3 + 2) 0) = R3 (flat3 (linesT p a)) k := rfl
      try simp only [hr]
      generalize (i_arePerpendicular p colour l (R3 (flat3 (linesT p a)) k)) = c0
      cases c0 <;> rfl)
    (fun f => by
      show B_i_perpendicular_0 p colour l a (L_i_perpendicular_0 1000000 p colour l a f) (((linesT p a).length : Nat) : Int) = _
      unfold B_i_perpendicular_0
      rw [show i_linesThrough p a = ((linesT p a).length, flat3 (linesT p a)) from rfl]
      rw [if_neg (by simp)])
  have h2 := find_row (linesT p a) (0, 0, 0) (fun zz => if i_arePerpendicular p colour l zz = true then some (zz) else none)
  rw [← h2]
  simp only [← R3_flat]
  exact h

theorem tot_i_perpendicular (p : Int) (colour : Int) (l : Int × Int × Int) (a : Int × Int) (hp : (prB p) = true) : Fo_i_perpendicular 1000000 p colour l a = some (i_perpendicular p colour l a) := by
  unfold Fo_i_perpendicular G_i_perpendicular
  rw [if_pos hp]
  exact lo0_i_perpendicular p colour l a hp (by omega)
def run_i_perpendicular : List PV → Option (Bool × List TR)
  | [.v (.int .i64 p), .v (.int .i64 colour), .v (.agg ⟨[.int .i64 l0, .int .i64 l1, .int .i64 l2]⟩), .v (.agg ⟨[.int .i64 a0, .int .i64 a1]⟩)] => some (prB p, enc_a3 (i_perpendicular p colour (l0, l1, l2) (a0, a1)))
  | _ => none
theorem sound_i_perpendicular : Sound Tryz.prog 149 run_i_perpendicular := by
  refine sound_of de_a3 SO_i_perpendicular (by kernel_rfl) Tryz.func149 Tryz.ntmps149 rfl (by kernel_rfl) ?_
  intro W pvs avs rs hargs hrun
  unfold run_i_perpendicular at hrun
  split at hrun
  · simp only [Option.some.injEq, Prod.mk.injEq] at hrun
    obtain ⟨hp, rfl⟩ := hrun
    rename_i p colour l0 l1 l2 a0 a1
    exact ⟨_, _, _, hargs, rfl, (eq_i_perpendicular _ p colour (l0, l1, l2) (a0, a1)).trans (tot_i_perpendicular p colour (l0, l1, l2) (a0, a1) hp)⟩
  · cases hrun

def S_i_isNull : Sums := ⟨tblS [(147, run_i_arePerpendicular)], tblM []⟩
theorem SO_i_isNull : SumsOK Tryz.prog S_i_isNull := ⟨tblS_ok ⟨⟨Tryz.call147, sound_i_arePerpendicular⟩, True.intro⟩, tblM_ok True.intro⟩
def Fo_i_isNull (p : Int) (colour : Int) (l : Int × Int × Int) : Option (Bool) :=
  (if (prB p) = true then some (i_arePerpendicular p colour l l) else none)
theorem eq_i_isNull (p : Int) (colour : Int) (l : Int × Int × Int) : execT Tryz.prog S_i_isNull 103 12 (fun _ => 1000000) dec_b [.v (.int .i64 p), .v (.int .i64 colour), .v (.agg ⟨[.int .i64 l.1, .int .i64 l.2.1, .int .i64 l.2.2]⟩)] = Fo_i_isNull p colour l := by
  kernel_rfl
def i_isNull (p : Int) (colour : Int) (l : Int × Int × Int) : Bool :=
  (i_arePerpendicular p colour l l)
theorem tot_i_isNull (p : Int) (colour : Int) (l : Int × Int × Int) (hp : (prB p) = true) : Fo_i_isNull p colour l = some (i_isNull p colour l) := by
  try have h0 := prB_ne hp
  unfold Fo_i_isNull i_isNull
  (try simp only [wI_eq])
  repeat' (first | with_reducible rfl | with_reducible refine chk_opt hp ?_ | with_reducible refine chk_opt h0 ?_ | refine chk_opt (and_all hp fun _ => hp) ?_ | refine chk_opt (and_all hp fun _ => rfl) ?_ | refine ite_opt (fun _ => ?_) (fun _ => ?_) | rfl)
def run_i_isNull : List PV → Option (Bool × List TR)
  | [.v (.int .i64 p), .v (.int .i64 colour), .v (.agg ⟨[.int .i64 l0, .int .i64 l1, .int .i64 l2]⟩)] => some (prB p, enc_b (i_isNull p colour (l0, l1, l2)))
  | _ => none
theorem sound_i_isNull : Sound Tryz.prog 103 run_i_isNull := by
  refine sound_of de_b SO_i_isNull (by kernel_rfl) Tryz.func103 Tryz.ntmps103 rfl (by kernel_rfl) ?_
  intro W pvs avs rs hargs hrun
  unfold run_i_isNull at hrun
  split at hrun
  · simp only [Option.some.injEq, Prod.mk.injEq] at hrun
    obtain ⟨hp, rfl⟩ := hrun
    rename_i p colour l0 l1 l2
    exact ⟨_, _, _, hargs, rfl, (eq_i_isNull p colour (l0, l1, l2)).trans (tot_i_isNull p colour (l0, l1, l2) hp)⟩
  · cases hrun

def S_i_foot : Sums := ⟨tblS [(149, run_i_perpendicular), (148, run_i_meet)], tblM []⟩
theorem SO_i_foot : SumsOK Tryz.prog S_i_foot := ⟨tblS_ok ⟨⟨Tryz.call149, sound_i_perpendicular⟩, ⟨Tryz.call148, sound_i_meet⟩, True.intro⟩, tblM_ok True.intro⟩
def Fo_i_foot (p : Int) (colour : Int) (a : Int × Int) (l : Int × Int × Int) : Option (Int × Int) :=
  (if (prB p) = true then (if (prB p) = true then some (i_meet p l (i_perpendicular p colour l a)) else none) else none)
theorem eq_i_foot (p : Int) (colour : Int) (a : Int × Int) (l : Int × Int × Int) : execT Tryz.prog S_i_foot 107 17 (fun _ => 1000000) dec_a2 [.v (.int .i64 p), .v (.int .i64 colour), .v (.agg ⟨[.int .i64 a.1, .int .i64 a.2]⟩), .v (.agg ⟨[.int .i64 l.1, .int .i64 l.2.1, .int .i64 l.2.2]⟩)] = Fo_i_foot p colour a l := by
  kernel_rfl
def i_foot (p : Int) (colour : Int) (a : Int × Int) (l : Int × Int × Int) : Int × Int :=
  (i_meet p l (i_perpendicular p colour l a))
theorem tot_i_foot (p : Int) (colour : Int) (a : Int × Int) (l : Int × Int × Int) (hp : (prB p) = true) : Fo_i_foot p colour a l = some (i_foot p colour a l) := by
  try have h0 := prB_ne hp
  unfold Fo_i_foot i_foot
  (try simp only [wI_eq])
  repeat' (first | with_reducible rfl | with_reducible refine chk_opt hp ?_ | with_reducible refine chk_opt h0 ?_ | refine chk_opt (and_all hp fun _ => hp) ?_ | refine chk_opt (and_all hp fun _ => rfl) ?_ | refine ite_opt (fun _ => ?_) (fun _ => ?_) | rfl)
def run_i_foot : List PV → Option (Bool × List TR)
  | [.v (.int .i64 p), .v (.int .i64 colour), .v (.agg ⟨[.int .i64 a0, .int .i64 a1]⟩), .v (.agg ⟨[.int .i64 l0, .int .i64 l1, .int .i64 l2]⟩)] => some (prB p, enc_a2 (i_foot p colour (a0, a1) (l0, l1, l2)))
  | _ => none
theorem sound_i_foot : Sound Tryz.prog 107 run_i_foot := by
  refine sound_of de_a2 SO_i_foot (by kernel_rfl) Tryz.func107 Tryz.ntmps107 rfl (by kernel_rfl) ?_
  intro W pvs avs rs hargs hrun
  unfold run_i_foot at hrun
  split at hrun
  · simp only [Option.some.injEq, Prod.mk.injEq] at hrun
    obtain ⟨hp, rfl⟩ := hrun
    rename_i p colour a0 a1 l0 l1 l2
    exact ⟨_, _, _, hargs, rfl, (eq_i_foot p colour (a0, a1) (l0, l1, l2)).trans (tot_i_foot p colour (a0, a1) (l0, l1, l2) hp)⟩
  · cases hrun

def S_i_through : Sums := ⟨tblS [(139, run_i_makeLine)], tblM []⟩
theorem SO_i_through : SumsOK Tryz.prog S_i_through := ⟨tblS_ok ⟨⟨Tryz.call139, sound_i_makeLine⟩, True.intro⟩, tblM_ok True.intro⟩
def Fo_i_through (p : Int) (a : Int × Int) (way : Int × Int) : Option (Int × Int × Int) :=
  (if (prB p) = true then some (i_makeLine p way.2 (wI (0 - way.1)) (wI (0 - (wI ((wI (way.2 * a.1)) + (wI ((wI (0 - way.1)) * a.2))))))) else none)
theorem eq_i_through (p : Int) (a : Int × Int) (way : Int × Int) : execT Tryz.prog S_i_through 78 28 (fun _ => 1000000) dec_a3 [.v (.int .i64 p), .v (.agg ⟨[.int .i64 a.1, .int .i64 a.2]⟩), .v (.agg ⟨[.int .i64 way.1, .int .i64 way.2]⟩)] = Fo_i_through p a way := by
  kernel_rfl
def i_through (p : Int) (a : Int × Int) (way : Int × Int) : Int × Int × Int :=
  (i_makeLine p way.2 (wrap64 (0 - way.1)) (wrap64 (0 - (wrap64 ((wrap64 (way.2 * a.1)) + (wrap64 ((wrap64 (0 - way.1)) * a.2)))))))
theorem tot_i_through (p : Int) (a : Int × Int) (way : Int × Int) (hp : (prB p) = true) : Fo_i_through p a way = some (i_through p a way) := by
  try have h0 := prB_ne hp
  unfold Fo_i_through i_through
  (try simp only [wI_eq])
  repeat' (first | with_reducible rfl | with_reducible refine chk_opt hp ?_ | with_reducible refine chk_opt h0 ?_ | refine chk_opt (and_all hp fun _ => hp) ?_ | refine chk_opt (and_all hp fun _ => rfl) ?_ | refine ite_opt (fun _ => ?_) (fun _ => ?_) | rfl)
def run_i_through : List PV → Option (Bool × List TR)
  | [.v (.int .i64 p), .v (.agg ⟨[.int .i64 a0, .int .i64 a1]⟩), .v (.agg ⟨[.int .i64 way0, .int .i64 way1]⟩)] => some (prB p, enc_a3 (i_through p (a0, a1) (way0, way1)))
  | _ => none
theorem sound_i_through : Sound Tryz.prog 78 run_i_through := by
  refine sound_of de_a3 SO_i_through (by kernel_rfl) Tryz.func78 Tryz.ntmps78 rfl (by kernel_rfl) ?_
  intro W pvs avs rs hargs hrun
  unfold run_i_through at hrun
  split at hrun
  · simp only [Option.some.injEq, Prod.mk.injEq] at hrun
    obtain ⟨hp, rfl⟩ := hrun
    rename_i p a0 a1 way0 way1
    exact ⟨_, _, _, hargs, rfl, (eq_i_through p (a0, a1) (way0, way1)).trans (tot_i_through p (a0, a1) (way0, way1) hp)⟩
  · cases hrun

def S_i_lineThrough : Sums := ⟨tblS [(58, run_i_less), (78, run_i_through)], tblM []⟩
theorem SO_i_lineThrough : SumsOK Tryz.prog S_i_lineThrough := ⟨tblS_ok ⟨⟨Tryz.call58, sound_i_less⟩, ⟨Tryz.call78, sound_i_through⟩, True.intro⟩, tblM_ok True.intro⟩
def Fo_i_lineThrough (p : Int) (a : Int × Int) (b : Int × Int) : Option (Int × Int × Int) :=
  (if (prB p) = true then (if (prB p) = true then some (i_through p a (i_less p b a)) else none) else none)
theorem eq_i_lineThrough (p : Int) (a : Int × Int) (b : Int × Int) : execT Tryz.prog S_i_lineThrough 75 14 (fun _ => 1000000) dec_a3 [.v (.int .i64 p), .v (.agg ⟨[.int .i64 a.1, .int .i64 a.2]⟩), .v (.agg ⟨[.int .i64 b.1, .int .i64 b.2]⟩)] = Fo_i_lineThrough p a b := by
  kernel_rfl
def i_lineThrough (p : Int) (a : Int × Int) (b : Int × Int) : Int × Int × Int :=
  (i_through p a (i_less p b a))
theorem tot_i_lineThrough (p : Int) (a : Int × Int) (b : Int × Int) (hp : (prB p) = true) : Fo_i_lineThrough p a b = some (i_lineThrough p a b) := by
  try have h0 := prB_ne hp
  unfold Fo_i_lineThrough i_lineThrough
  (try simp only [wI_eq])
  repeat' (first | with_reducible rfl | with_reducible refine chk_opt hp ?_ | with_reducible refine chk_opt h0 ?_ | refine chk_opt (and_all hp fun _ => hp) ?_ | refine chk_opt (and_all hp fun _ => rfl) ?_ | refine ite_opt (fun _ => ?_) (fun _ => ?_) | rfl)
def run_i_lineThrough : List PV → Option (Bool × List TR)
  | [.v (.int .i64 p), .v (.agg ⟨[.int .i64 a0, .int .i64 a1]⟩), .v (.agg ⟨[.int .i64 b0, .int .i64 b1]⟩)] => some (prB p, enc_a3 (i_lineThrough p (a0, a1) (b0, b1)))
  | _ => none
theorem sound_i_lineThrough : Sound Tryz.prog 75 run_i_lineThrough := by
  refine sound_of de_a3 SO_i_lineThrough (by kernel_rfl) Tryz.func75 Tryz.ntmps75 rfl (by kernel_rfl) ?_
  intro W pvs avs rs hargs hrun
  unfold run_i_lineThrough at hrun
  split at hrun
  · simp only [Option.some.injEq, Prod.mk.injEq] at hrun
    obtain ⟨hp, rfl⟩ := hrun
    rename_i p a0 a1 b0 b1
    exact ⟨_, _, _, hargs, rfl, (eq_i_lineThrough p (a0, a1) (b0, b1)).trans (tot_i_lineThrough p (a0, a1) (b0, b1) hp)⟩
  · cases hrun

def S_s_l01Through : Sums := ⟨tblS [(143, run_s_l01Normal)], tblM []⟩
theorem SO_s_l01Through : SumsOK Tryz.prog S_s_l01Through := ⟨tblS_ok ⟨⟨Tryz.call143, sound_s_l01Normal⟩, True.intro⟩, tblM_ok True.intro⟩
def Fo_s_l01Through (p : Int) (a : Int × Int) (b : Int × Int) : Option (Int × Int × Int) :=
  (if (prB p) = true then some (s_l01Normal p (wI (a.2 - b.2)) (wI (b.1 - a.1)) (wI ((wI (a.1 * b.2)) - (wI (b.1 * a.2))))) else none)
theorem eq_s_l01Through (p : Int) (a : Int × Int) (b : Int × Int) : execT Tryz.prog S_s_l01Through 96 30 (fun _ => 1000000) dec_a3 [.v (.int .i64 p), .v (.agg ⟨[.int .i64 a.1, .int .i64 a.2]⟩), .v (.agg ⟨[.int .i64 b.1, .int .i64 b.2]⟩)] = Fo_s_l01Through p a b := by
  kernel_rfl
def s_l01Through (p : Int) (a : Int × Int) (b : Int × Int) : Int × Int × Int :=
  (s_l01Normal p (wrap64 (a.2 - b.2)) (wrap64 (b.1 - a.1)) (wrap64 ((wrap64 (a.1 * b.2)) - (wrap64 (b.1 * a.2)))))
theorem tot_s_l01Through (p : Int) (a : Int × Int) (b : Int × Int) (hp : (prB p) = true) : Fo_s_l01Through p a b = some (s_l01Through p a b) := by
  try have h0 := prB_ne hp
  unfold Fo_s_l01Through s_l01Through
  (try simp only [wI_eq])
  repeat' (first | with_reducible rfl | with_reducible refine chk_opt hp ?_ | with_reducible refine chk_opt h0 ?_ | refine chk_opt (and_all hp fun _ => hp) ?_ | refine chk_opt (and_all hp fun _ => rfl) ?_ | refine ite_opt (fun _ => ?_) (fun _ => ?_) | rfl)
def run_s_l01Through : List PV → Option (Bool × List TR)
  | [.v (.int .i64 p), .v (.agg ⟨[.int .i64 a0, .int .i64 a1]⟩), .v (.agg ⟨[.int .i64 b0, .int .i64 b1]⟩)] => some (prB p, enc_a3 (s_l01Through p (a0, a1) (b0, b1)))
  | _ => none
theorem sound_s_l01Through : Sound Tryz.prog 96 run_s_l01Through := by
  refine sound_of de_a3 SO_s_l01Through (by kernel_rfl) Tryz.func96 Tryz.ntmps96 rfl (by kernel_rfl) ?_
  intro W pvs avs rs hargs hrun
  unfold run_s_l01Through at hrun
  split at hrun
  · simp only [Option.some.injEq, Prod.mk.injEq] at hrun
    obtain ⟨hp, rfl⟩ := hrun
    rename_i p a0 a1 b0 b1
    exact ⟨_, _, _, hargs, rfl, (eq_s_l01Through p (a0, a1) (b0, b1)).trans (tot_s_l01Through p (a0, a1) (b0, b1) hp)⟩
  · cases hrun

def S_i_KindOfMove : Sums := ⟨tblS [(47, run_i_moveAsked), (48, run_i_always), (52, run_i_fixedPoints), (53, run_i_sign)], tblM []⟩
theorem SO_i_KindOfMove : SumsOK Tryz.prog S_i_KindOfMove := ⟨tblS_ok ⟨⟨Tryz.call47, sound_i_moveAsked⟩, ⟨Tryz.call48, sound_i_always⟩, ⟨Tryz.call52, sound_i_fixedPoints⟩, ⟨Tryz.call53, sound_i_sign⟩, True.intro⟩, tblM_ok True.intro⟩
def Fo_i_KindOfMove (p : Int) (colour : Int) (m : Int × Int × Int × Int × Int × Int) : Option (Int × Int) :=
  (if ((i_moveAsked p colour m (true) (i_always)) != 0) = true then some (0, (i_moveAsked p colour m (true) (i_always))) else (if (prB p) = true then (if (m == (1, 0, 0, 1, 0, 0)) = true then some (0, 0) else (if ((m.1, m.2.1, m.2.2.1, m.2.2.2.1) == (1, 0, 0, 1)) = true then some (1, 0) else (if (prB p) = true then (if ((i_sign p (m.1, m.2.1, m.2.2.1, m.2.2.2.1)) == 1) = true then (if (decide ((((i_fixedPoints p m).1 : Nat) : Int) > 0)) = true then some (2, 0) else (if (prB p) = true then (if ((i_sign p (m.1, m.2.1, m.2.2.1, m.2.2.2.1)) != 1) = true then (if (decide ((((i_fixedPoints p m).1 : Nat) : Int) > 0)) = true then some (3, 0) else some (4, 0)) else some (4, 0)) else none)) else (if (prB p) = true then (if ((i_sign p (m.1, m.2.1, m.2.2.1, m.2.2.2.1)) != 1) = true then (if (decide ((((i_fixedPoints p m).1 : Nat) : Int) > 0)) = true then some (3, 0) else some (4, 0)) else some (4, 0)) else none)) else none))) else none))
theorem eq_i_KindOfMove (p : Int) (colour : Int) (m : Int × Int × Int × Int × Int × Int) : execT Tryz.prog S_i_KindOfMove 9 50 (fun _ => 1000000) dec_i_i [.v (.int .i64 p), .v (.int .i64 colour), .v (.agg ⟨[.int .i64 m.1, .int .i64 m.2.1, .int .i64 m.2.2.1, .int .i64 m.2.2.2.1, .int .i64 m.2.2.2.2.1, .int .i64 m.2.2.2.2.2]⟩)] = Fo_i_KindOfMove p colour m := by
  kernel_rfl
def i_KindOfMove (p : Int) (colour : Int) (m : Int × Int × Int × Int × Int × Int) : Int × Int :=
  (if ((i_moveAsked p colour m (true) (i_always)) != 0) = true then (0, (i_moveAsked p colour m (true) (i_always))) else (if (m == (1, 0, 0, 1, 0, 0)) = true then (0, 0) else (if ((m.1, m.2.1, m.2.2.1, m.2.2.2.1) == (1, 0, 0, 1)) = true then (1, 0) else (if ((i_sign p (m.1, m.2.1, m.2.2.1, m.2.2.2.1)) == 1) = true then (if (decide ((((i_fixedPoints p m).1 : Nat) : Int) > 0)) = true then (2, 0) else (if ((i_sign p (m.1, m.2.1, m.2.2.1, m.2.2.2.1)) != 1) = true then (if (decide ((((i_fixedPoints p m).1 : Nat) : Int) > 0)) = true then (3, 0) else (4, 0)) else (4, 0))) else (if ((i_sign p (m.1, m.2.1, m.2.2.1, m.2.2.2.1)) != 1) = true then (if (decide ((((i_fixedPoints p m).1 : Nat) : Int) > 0)) = true then (3, 0) else (4, 0)) else (4, 0))))))
theorem tot_i_KindOfMove (p : Int) (colour : Int) (m : Int × Int × Int × Int × Int × Int) : Fo_i_KindOfMove p colour m = some (i_KindOfMove p colour m) := by
  unfold Fo_i_KindOfMove i_KindOfMove
  (try simp only [wI_eq])
  repeat' (first | with_reducible rfl | refine chk_opt (by first | with_reducible rfl | exact Bool.true_or _ | (with_reducible exact moveAsked_prB ‹_›) | (with_reducible exact moveAsked_prB0 ‹_›) | exact mk_ok (by (first | (with_reducible assumption) | (with_reducible exact moveAsked_prB ‹_›) | (with_reducible exact moveAsked_prB0 ‹_›))) | exact and_all (by (first | (with_reducible assumption) | (with_reducible exact moveAsked_prB ‹_›) | (with_reducible exact moveAsked_prB0 ‹_›))) (fun _ => rfl) | exact and_all (by (first | (with_reducible assumption) | (with_reducible exact moveAsked_prB ‹_›) | (with_reducible exact moveAsked_prB0 ‹_›))) (fun _ => by (first | (with_reducible assumption) | (with_reducible exact moveAsked_prB ‹_›) | (with_reducible exact moveAsked_prB0 ‹_›))) | exact and3 (by (first | (with_reducible assumption) | (with_reducible exact moveAsked_prB ‹_›) | (with_reducible exact moveAsked_prB0 ‹_›))) (by (first | (with_reducible assumption) | (with_reducible exact moveAsked_prB ‹_›) | (with_reducible exact moveAsked_prB0 ‹_›))) (by (first | (with_reducible assumption) | (with_reducible exact moveAsked_prB ‹_›) | (with_reducible exact moveAsked_prB0 ‹_›))) | exact and_two (by (first | (with_reducible assumption) | (with_reducible exact moveAsked_prB ‹_›) | (with_reducible exact moveAsked_prB0 ‹_›))) rfl | rfl) ?_ | refine ite_opt (fun _ => ?_) (fun _ => ?_) | rfl)
def run_i_KindOfMove : List PV → Option (Bool × List TR)
  | [.v (.int .i64 p), .v (.int .i64 colour), .v (.agg ⟨[.int .i64 m0, .int .i64 m1, .int .i64 m2, .int .i64 m3, .int .i64 m4, .int .i64 m5]⟩)] => some (true, enc_i_i (i_KindOfMove p colour (m0, m1, m2, m3, m4, m5)))
  | _ => none
theorem sound_i_KindOfMove : Sound Tryz.prog 9 run_i_KindOfMove := by
  refine sound_of de_i_i SO_i_KindOfMove (by kernel_rfl) Tryz.func9 Tryz.ntmps9 rfl (by kernel_rfl) ?_
  intro W pvs avs rs hargs hrun
  unfold run_i_KindOfMove at hrun
  split at hrun
  · simp only [Option.some.injEq, Prod.mk.injEq] at hrun
    obtain ⟨hp, rfl⟩ := hrun
    rename_i p colour m0 m1 m2 m3 m4 m5
    exact ⟨_, _, _, hargs, rfl, (eq_i_KindOfMove p colour (m0, m1, m2, m3, m4, m5)).trans (tot_i_KindOfMove p colour (m0, m1, m2, m3, m4, m5))⟩
  · cases hrun

def S_s_KindOfMove : Sums := ⟨tblS [(50, run_s_l07Code), (54, run_s_l07Sign), (55, run_s_l07Fixed)], tblM []⟩
theorem SO_s_KindOfMove : SumsOK Tryz.prog S_s_KindOfMove := ⟨tblS_ok ⟨⟨Tryz.call50, sound_s_l07Code⟩, ⟨Tryz.call54, sound_s_l07Sign⟩, ⟨Tryz.call55, sound_s_l07Fixed⟩, True.intro⟩, tblM_ok True.intro⟩
def Fo_s_KindOfMove (p : Int) (colour : Int) (m : Int × Int × Int × Int × Int × Int) : Option (Int × Int) :=
  (if ((s_l07Code p colour m) != 0) = true then some (0, (s_l07Code p colour m)) else (if ((m.1, m.2.1, m.2.2.1, m.2.2.2.1) == (1, 0, 0, 1)) = true then (if (m.2.2.2.2 == (0, 0)) = true then some (0, 0) else (if ((m.1, m.2.1, m.2.2.1, m.2.2.2.1) == (1, 0, 0, 1)) = true then some (1, 0) else (if (prB p) = true then (if ((s_l07Sign p m) == 1) = true then some (2, 0) else (if (prB p) = true then (if (decide ((((s_l07Fixed p m).1 : Nat) : Int) > 0)) = true then some (3, 0) else some (4, 0)) else none)) else none))) else (if ((m.1, m.2.1, m.2.2.1, m.2.2.2.1) == (1, 0, 0, 1)) = true then some (1, 0) else (if (prB p) = true then (if ((s_l07Sign p m) == 1) = true then some (2, 0) else (if (prB p) = true then (if (decide ((((s_l07Fixed p m).1 : Nat) : Int) > 0)) = true then some (3, 0) else some (4, 0)) else none)) else none))))
theorem eq_s_KindOfMove (p : Int) (colour : Int) (m : Int × Int × Int × Int × Int × Int) : execT Tryz.prog S_s_KindOfMove 10 43 (fun _ => 1000000) dec_i_i [.v (.int .i64 p), .v (.int .i64 colour), .v (.agg ⟨[.int .i64 m.1, .int .i64 m.2.1, .int .i64 m.2.2.1, .int .i64 m.2.2.2.1, .int .i64 m.2.2.2.2.1, .int .i64 m.2.2.2.2.2]⟩)] = Fo_s_KindOfMove p colour m := by
  kernel_rfl
def s_KindOfMove (p : Int) (colour : Int) (m : Int × Int × Int × Int × Int × Int) : Int × Int :=
  (if ((s_l07Code p colour m) != 0) = true then (0, (s_l07Code p colour m)) else (if ((m.1, m.2.1, m.2.2.1, m.2.2.2.1) == (1, 0, 0, 1)) = true then (if (m.2.2.2.2 == (0, 0)) = true then (0, 0) else (if ((m.1, m.2.1, m.2.2.1, m.2.2.2.1) == (1, 0, 0, 1)) = true then (1, 0) else (if ((s_l07Sign p m) == 1) = true then (2, 0) else (if (decide ((((s_l07Fixed p m).1 : Nat) : Int) > 0)) = true then (3, 0) else (4, 0))))) else (if ((m.1, m.2.1, m.2.2.1, m.2.2.2.1) == (1, 0, 0, 1)) = true then (1, 0) else (if ((s_l07Sign p m) == 1) = true then (2, 0) else (if (decide ((((s_l07Fixed p m).1 : Nat) : Int) > 0)) = true then (3, 0) else (4, 0))))))
theorem tot_s_KindOfMove (p : Int) (colour : Int) (m : Int × Int × Int × Int × Int × Int) : Fo_s_KindOfMove p colour m = some (s_KindOfMove p colour m) := by
  unfold Fo_s_KindOfMove s_KindOfMove
  (try simp only [wI_eq])
  repeat' (first | with_reducible rfl | refine chk_opt (by first | with_reducible rfl | exact Bool.true_or _ | (with_reducible exact l07Code_prB ‹_›) | (with_reducible exact l07Code_prB0 ‹_›) | exact mk_ok (by (first | (with_reducible assumption) | (with_reducible exact l07Code_prB ‹_›) | (with_reducible exact l07Code_prB0 ‹_›))) | exact and_all (by (first | (with_reducible assumption) | (with_reducible exact l07Code_prB ‹_›) | (with_reducible exact l07Code_prB0 ‹_›))) (fun _ => rfl) | exact and_all (by (first | (with_reducible assumption) | (with_reducible exact l07Code_prB ‹_›) | (with_reducible exact l07Code_prB0 ‹_›))) (fun _ => by (first | (with_reducible assumption) | (with_reducible exact l07Code_prB ‹_›) | (with_reducible exact l07Code_prB0 ‹_›))) | exact and3 (by (first | (with_reducible assumption) | (with_reducible exact l07Code_prB ‹_›) | (with_reducible exact l07Code_prB0 ‹_›))) (by (first | (with_reducible assumption) | (with_reducible exact l07Code_prB ‹_›) | (with_reducible exact l07Code_prB0 ‹_›))) (by (first | (with_reducible assumption) | (with_reducible exact l07Code_prB ‹_›) | (with_reducible exact l07Code_prB0 ‹_›))) | exact and_two (by (first | (with_reducible assumption) | (with_reducible exact l07Code_prB ‹_›) | (with_reducible exact l07Code_prB0 ‹_›))) rfl | rfl) ?_ | refine ite_opt (fun _ => ?_) (fun _ => ?_) | rfl)
def run_s_KindOfMove : List PV → Option (Bool × List TR)
  | [.v (.int .i64 p), .v (.int .i64 colour), .v (.agg ⟨[.int .i64 m0, .int .i64 m1, .int .i64 m2, .int .i64 m3, .int .i64 m4, .int .i64 m5]⟩)] => some (true, enc_i_i (s_KindOfMove p colour (m0, m1, m2, m3, m4, m5)))
  | _ => none
theorem sound_s_KindOfMove : Sound Tryz.prog 10 run_s_KindOfMove := by
  refine sound_of de_i_i SO_s_KindOfMove (by kernel_rfl) Tryz.func10 Tryz.ntmps10 rfl (by kernel_rfl) ?_
  intro W pvs avs rs hargs hrun
  unfold run_s_KindOfMove at hrun
  split at hrun
  · simp only [Option.some.injEq, Prod.mk.injEq] at hrun
    obtain ⟨hp, rfl⟩ := hrun
    rename_i p colour m0 m1 m2 m3 m4 m5
    exact ⟨_, _, _, hargs, rfl, (eq_s_KindOfMove p colour (m0, m1, m2, m3, m4, m5)).trans (tot_s_KindOfMove p colour (m0, m1, m2, m3, m4, m5))⟩
  · cases hrun

def S_i_InverseMove : Sums := ⟨tblS [(47, run_i_moveAsked), (48, run_i_always), (53, run_i_sign), (56, run_i_inverse), (57, run_i_rest), (59, run_i_turned), (58, run_i_less)], tblM []⟩
theorem SO_i_InverseMove : SumsOK Tryz.prog S_i_InverseMove := ⟨tblS_ok ⟨⟨Tryz.call47, sound_i_moveAsked⟩, ⟨Tryz.call48, sound_i_always⟩, ⟨Tryz.call53, sound_i_sign⟩, ⟨Tryz.call56, sound_i_inverse⟩, ⟨Tryz.call57, sound_i_rest⟩, ⟨Tryz.call59, sound_i_turned⟩, ⟨Tryz.call58, sound_i_less⟩, True.intro⟩, tblM_ok True.intro⟩
def Fo_i_InverseMove (p : Int) (colour : Int) (m : Int × Int × Int × Int × Int × Int) : Option ((Int × Int × Int × Int × Int × Int) × Int) :=
  (if ((i_moveAsked p colour m (true) (i_always)) != 0) = true then some ((0, 0, 0, 0, 0, 0), (i_moveAsked p colour m (true) (i_always))) else (if (prB p) = true then (if (prB p) = true then (if (prB p) = true then (if (prB p) = true then (if (prB p) = true then (if (prB p) = true then (if (prB p) = true then (if (prB p) = true then some (((i_rest p (wI ((i_inverse p (i_sign p (m.1, m.2.1, m.2.2.1, m.2.2.2.1))) * m.2.2.2.1))), (i_rest p (wI ((wI (0 - (i_inverse p (i_sign p (m.1, m.2.1, m.2.2.1, m.2.2.2.1))))) * m.2.1))), (i_rest p (wI ((wI (0 - (i_inverse p (i_sign p (m.1, m.2.1, m.2.2.1, m.2.2.2.1))))) * m.2.2.1))), (i_rest p (wI ((i_inverse p (i_sign p (m.1, m.2.1, m.2.2.1, m.2.2.2.1))) * m.1))), (i_less p (0, 0) (i_turned p ((i_rest p (wI ((i_inverse p (i_sign p (m.1, m.2.1, m.2.2.1, m.2.2.2.1))) * m.2.2.2.1))), (i_rest p (wI ((wI (0 - (i_inverse p (i_sign p (m.1, m.2.1, m.2.2.1, m.2.2.2.1))))) * m.2.1))), (i_rest p (wI ((wI (0 - (i_inverse p (i_sign p (m.1, m.2.1, m.2.2.1, m.2.2.2.1))))) * m.2.2.1))), (i_rest p (wI ((i_inverse p (i_sign p (m.1, m.2.1, m.2.2.1, m.2.2.2.1))) * m.1)))) m.2.2.2.2)).1, (i_less p (0, 0) (i_turned p ((i_rest p (wI ((i_inverse p (i_sign p (m.1, m.2.1, m.2.2.1, m.2.2.2.1))) * m.2.2.2.1))), (i_rest p (wI ((wI (0 - (i_inverse p (i_sign p (m.1, m.2.1, m.2.2.1, m.2.2.2.1))))) * m.2.1))), (i_rest p (wI ((wI (0 - (i_inverse p (i_sign p (m.1, m.2.1, m.2.2.1, m.2.2.2.1))))) * m.2.2.1))), (i_rest p (wI ((i_inverse p (i_sign p (m.1, m.2.1, m.2.2.1, m.2.2.2.1))) * m.1)))) m.2.2.2.2)).2), 0) else none) else none) else none) else none) else none) else none) else none) else none))
theorem eq_i_InverseMove (p : Int) (colour : Int) (m : Int × Int × Int × Int × Int × Int) : execT Tryz.prog S_i_InverseMove 11 64 (fun _ => 1000000) dec_a6_i [.v (.int .i64 p), .v (.int .i64 colour), .v (.agg ⟨[.int .i64 m.1, .int .i64 m.2.1, .int .i64 m.2.2.1, .int .i64 m.2.2.2.1, .int .i64 m.2.2.2.2.1, .int .i64 m.2.2.2.2.2]⟩)] = Fo_i_InverseMove p colour m := by
  kernel_rfl
def i_InverseMove (p : Int) (colour : Int) (m : Int × Int × Int × Int × Int × Int) : (Int × Int × Int × Int × Int × Int) × Int :=
  (if ((i_moveAsked p colour m (true) (i_always)) != 0) = true then ((0, 0, 0, 0, 0, 0), (i_moveAsked p colour m (true) (i_always))) else (((i_rest p (wrap64 ((i_inverse p (i_sign p (m.1, m.2.1, m.2.2.1, m.2.2.2.1))) * m.2.2.2.1))), (i_rest p (wrap64 ((wrap64 (0 - (i_inverse p (i_sign p (m.1, m.2.1, m.2.2.1, m.2.2.2.1))))) * m.2.1))), (i_rest p (wrap64 ((wrap64 (0 - (i_inverse p (i_sign p (m.1, m.2.1, m.2.2.1, m.2.2.2.1))))) * m.2.2.1))), (i_rest p (wrap64 ((i_inverse p (i_sign p (m.1, m.2.1, m.2.2.1, m.2.2.2.1))) * m.1))), (i_less p (0, 0) (i_turned p ((i_rest p (wrap64 ((i_inverse p (i_sign p (m.1, m.2.1, m.2.2.1, m.2.2.2.1))) * m.2.2.2.1))), (i_rest p (wrap64 ((wrap64 (0 - (i_inverse p (i_sign p (m.1, m.2.1, m.2.2.1, m.2.2.2.1))))) * m.2.1))), (i_rest p (wrap64 ((wrap64 (0 - (i_inverse p (i_sign p (m.1, m.2.1, m.2.2.1, m.2.2.2.1))))) * m.2.2.1))), (i_rest p (wrap64 ((i_inverse p (i_sign p (m.1, m.2.1, m.2.2.1, m.2.2.2.1))) * m.1)))) m.2.2.2.2)).1, (i_less p (0, 0) (i_turned p ((i_rest p (wrap64 ((i_inverse p (i_sign p (m.1, m.2.1, m.2.2.1, m.2.2.2.1))) * m.2.2.2.1))), (i_rest p (wrap64 ((wrap64 (0 - (i_inverse p (i_sign p (m.1, m.2.1, m.2.2.1, m.2.2.2.1))))) * m.2.1))), (i_rest p (wrap64 ((wrap64 (0 - (i_inverse p (i_sign p (m.1, m.2.1, m.2.2.1, m.2.2.2.1))))) * m.2.2.1))), (i_rest p (wrap64 ((i_inverse p (i_sign p (m.1, m.2.1, m.2.2.1, m.2.2.2.1))) * m.1)))) m.2.2.2.2)).2), 0))
theorem tot_i_InverseMove (p : Int) (colour : Int) (m : Int × Int × Int × Int × Int × Int) : Fo_i_InverseMove p colour m = some (i_InverseMove p colour m) := by
  unfold Fo_i_InverseMove i_InverseMove
  (try simp only [wI_eq])
  repeat' (first | with_reducible rfl | refine chk_opt (by first | with_reducible rfl | exact Bool.true_or _ | (with_reducible exact moveAsked_prB ‹_›) | (with_reducible exact moveAsked_prB0 ‹_›) | exact mk_ok (by (first | (with_reducible assumption) | (with_reducible exact moveAsked_prB ‹_›) | (with_reducible exact moveAsked_prB0 ‹_›))) | exact and_all (by (first | (with_reducible assumption) | (with_reducible exact moveAsked_prB ‹_›) | (with_reducible exact moveAsked_prB0 ‹_›))) (fun _ => rfl) | exact and_all (by (first | (with_reducible assumption) | (with_reducible exact moveAsked_prB ‹_›) | (with_reducible exact moveAsked_prB0 ‹_›))) (fun _ => by (first | (with_reducible assumption) | (with_reducible exact moveAsked_prB ‹_›) | (with_reducible exact moveAsked_prB0 ‹_›))) | exact and3 (by (first | (with_reducible assumption) | (with_reducible exact moveAsked_prB ‹_›) | (with_reducible exact moveAsked_prB0 ‹_›))) (by (first | (with_reducible assumption) | (with_reducible exact moveAsked_prB ‹_›) | (with_reducible exact moveAsked_prB0 ‹_›))) (by (first | (with_reducible assumption) | (with_reducible exact moveAsked_prB ‹_›) | (with_reducible exact moveAsked_prB0 ‹_›))) | exact and_two (by (first | (with_reducible assumption) | (with_reducible exact moveAsked_prB ‹_›) | (with_reducible exact moveAsked_prB0 ‹_›))) rfl | rfl) ?_ | refine ite_opt (fun _ => ?_) (fun _ => ?_) | rfl)
def run_i_InverseMove : List PV → Option (Bool × List TR)
  | [.v (.int .i64 p), .v (.int .i64 colour), .v (.agg ⟨[.int .i64 m0, .int .i64 m1, .int .i64 m2, .int .i64 m3, .int .i64 m4, .int .i64 m5]⟩)] => some (true, enc_a6_i (i_InverseMove p colour (m0, m1, m2, m3, m4, m5)))
  | _ => none
theorem sound_i_InverseMove : Sound Tryz.prog 11 run_i_InverseMove := by
  refine sound_of de_a6_i SO_i_InverseMove (by kernel_rfl) Tryz.func11 Tryz.ntmps11 rfl (by kernel_rfl) ?_
  intro W pvs avs rs hargs hrun
  unfold run_i_InverseMove at hrun
  split at hrun
  · simp only [Option.some.injEq, Prod.mk.injEq] at hrun
    obtain ⟨hp, rfl⟩ := hrun
    rename_i p colour m0 m1 m2 m3 m4 m5
    exact ⟨_, _, _, hargs, rfl, (eq_i_InverseMove p colour (m0, m1, m2, m3, m4, m5)).trans (tot_i_InverseMove p colour (m0, m1, m2, m3, m4, m5))⟩
  · cases hrun

def S_s_l07Inverse : Sums := ⟨tblS [(54, run_s_l07Sign), (134, run_s_l01Mod), (130, run_s_l07Lead), (129, run_s_l01Minus)], tblM []⟩
theorem SO_s_l07Inverse : SumsOK Tryz.prog S_s_l07Inverse := ⟨tblS_ok ⟨⟨Tryz.call54, sound_s_l07Sign⟩, ⟨Tryz.call134, sound_s_l01Mod⟩, ⟨Tryz.call130, sound_s_l07Lead⟩, ⟨Tryz.call129, sound_s_l01Minus⟩, True.intro⟩, tblM_ok True.intro⟩
def Fo_s_l07Inverse (p : Int) (m : Int × Int × Int × Int × Int × Int) : Option (Int × Int × Int × Int × Int × Int) :=
  (if (prB p) = true then (if (prB p) = true then (if (prB p) = true then (if (prB p) = true then (if (prB p) = true then (if (prB p) = true then (if (prB p) = true then some ((s_l01Mod (wI ((s_l07Sign p m) * m.2.2.2.1)) p), (s_l01Mod (wI ((wI (0 - (s_l07Sign p m))) * m.2.1)) p), (s_l01Mod (wI ((wI (0 - (s_l07Sign p m))) * m.2.2.1)) p), (s_l01Mod (wI ((s_l07Sign p m) * m.1)) p), (s_l01Minus p (0, 0) (s_l07Lead p ((s_l01Mod (wI ((s_l07Sign p m) * m.2.2.2.1)) p), (s_l01Mod (wI ((wI (0 - (s_l07Sign p m))) * m.2.1)) p), (s_l01Mod (wI ((wI (0 - (s_l07Sign p m))) * m.2.2.1)) p), (s_l01Mod (wI ((s_l07Sign p m) * m.1)) p), 0, 0) m.2.2.2.2)).1, (s_l01Minus p (0, 0) (s_l07Lead p ((s_l01Mod (wI ((s_l07Sign p m) * m.2.2.2.1)) p), (s_l01Mod (wI ((wI (0 - (s_l07Sign p m))) * m.2.1)) p), (s_l01Mod (wI ((wI (0 - (s_l07Sign p m))) * m.2.2.1)) p), (s_l01Mod (wI ((s_l07Sign p m) * m.1)) p), 0, 0) m.2.2.2.2)).2) else none) else none) else none) else none) else none) else none) else none)
theorem eq_s_l07Inverse (p : Int) (m : Int × Int × Int × Int × Int × Int) : execT Tryz.prog S_s_l07Inverse 60 52 (fun _ => 1000000) dec_a6 [.v (.int .i64 p), .v (.agg ⟨[.int .i64 m.1, .int .i64 m.2.1, .int .i64 m.2.2.1, .int .i64 m.2.2.2.1, .int .i64 m.2.2.2.2.1, .int .i64 m.2.2.2.2.2]⟩)] = Fo_s_l07Inverse p m := by
  kernel_rfl
def s_l07Inverse (p : Int) (m : Int × Int × Int × Int × Int × Int) : Int × Int × Int × Int × Int × Int :=
  ((s_l01Mod (wrap64 ((s_l07Sign p m) * m.2.2.2.1)) p), (s_l01Mod (wrap64 ((wrap64 (0 - (s_l07Sign p m))) * m.2.1)) p), (s_l01Mod (wrap64 ((wrap64 (0 - (s_l07Sign p m))) * m.2.2.1)) p), (s_l01Mod (wrap64 ((s_l07Sign p m) * m.1)) p), (s_l01Minus p (0, 0) (s_l07Lead p ((s_l01Mod (wrap64 ((s_l07Sign p m) * m.2.2.2.1)) p), (s_l01Mod (wrap64 ((wrap64 (0 - (s_l07Sign p m))) * m.2.1)) p), (s_l01Mod (wrap64 ((wrap64 (0 - (s_l07Sign p m))) * m.2.2.1)) p), (s_l01Mod (wrap64 ((s_l07Sign p m) * m.1)) p), 0, 0) m.2.2.2.2)).1, (s_l01Minus p (0, 0) (s_l07Lead p ((s_l01Mod (wrap64 ((s_l07Sign p m) * m.2.2.2.1)) p), (s_l01Mod (wrap64 ((wrap64 (0 - (s_l07Sign p m))) * m.2.1)) p), (s_l01Mod (wrap64 ((wrap64 (0 - (s_l07Sign p m))) * m.2.2.1)) p), (s_l01Mod (wrap64 ((s_l07Sign p m) * m.1)) p), 0, 0) m.2.2.2.2)).2)
theorem tot_s_l07Inverse (p : Int) (m : Int × Int × Int × Int × Int × Int) (hp : (prB p) = true) : Fo_s_l07Inverse p m = some (s_l07Inverse p m) := by
  try have h0 := prB_ne hp
  unfold Fo_s_l07Inverse s_l07Inverse
  (try simp only [wI_eq])
  repeat' (first | with_reducible rfl | with_reducible refine chk_opt hp ?_ | with_reducible refine chk_opt h0 ?_ | refine chk_opt (and_all hp fun _ => hp) ?_ | refine chk_opt (and_all hp fun _ => rfl) ?_ | refine ite_opt (fun _ => ?_) (fun _ => ?_) | rfl)
def run_s_l07Inverse : List PV → Option (Bool × List TR)
  | [.v (.int .i64 p), .v (.agg ⟨[.int .i64 m0, .int .i64 m1, .int .i64 m2, .int .i64 m3, .int .i64 m4, .int .i64 m5]⟩)] => some (prB p, enc_a6 (s_l07Inverse p (m0, m1, m2, m3, m4, m5)))
  | _ => none
theorem sound_s_l07Inverse : Sound Tryz.prog 60 run_s_l07Inverse := by
  refine sound_of de_a6 SO_s_l07Inverse (by kernel_rfl) Tryz.func60 Tryz.ntmps60 rfl (by kernel_rfl) ?_
  intro W pvs avs rs hargs hrun
  unfold run_s_l07Inverse at hrun
  split at hrun
  · simp only [Option.some.injEq, Prod.mk.injEq] at hrun
    obtain ⟨hp, rfl⟩ := hrun
    rename_i p m0 m1 m2 m3 m4 m5
    exact ⟨_, _, _, hargs, rfl, (eq_s_l07Inverse p (m0, m1, m2, m3, m4, m5)).trans (tot_s_l07Inverse p (m0, m1, m2, m3, m4, m5) hp)⟩
  · cases hrun

def S_s_InverseMove : Sums := ⟨tblS [(50, run_s_l07Code), (60, run_s_l07Inverse)], tblM []⟩
theorem SO_s_InverseMove : SumsOK Tryz.prog S_s_InverseMove := ⟨tblS_ok ⟨⟨Tryz.call50, sound_s_l07Code⟩, ⟨Tryz.call60, sound_s_l07Inverse⟩, True.intro⟩, tblM_ok True.intro⟩
def Fo_s_InverseMove (p : Int) (colour : Int) (m : Int × Int × Int × Int × Int × Int) : Option ((Int × Int × Int × Int × Int × Int) × Int) :=
  (if ((s_l07Code p colour m) != 0) = true then some ((0, 0, 0, 0, 0, 0), (s_l07Code p colour m)) else (if (prB p) = true then some ((s_l07Inverse p m), 0) else none))
theorem eq_s_InverseMove (p : Int) (colour : Int) (m : Int × Int × Int × Int × Int × Int) : execT Tryz.prog S_s_InverseMove 12 20 (fun _ => 1000000) dec_a6_i [.v (.int .i64 p), .v (.int .i64 colour), .v (.agg ⟨[.int .i64 m.1, .int .i64 m.2.1, .int .i64 m.2.2.1, .int .i64 m.2.2.2.1, .int .i64 m.2.2.2.2.1, .int .i64 m.2.2.2.2.2]⟩)] = Fo_s_InverseMove p colour m := by
  kernel_rfl
def s_InverseMove (p : Int) (colour : Int) (m : Int × Int × Int × Int × Int × Int) : (Int × Int × Int × Int × Int × Int) × Int :=
  (if ((s_l07Code p colour m) != 0) = true then ((0, 0, 0, 0, 0, 0), (s_l07Code p colour m)) else ((s_l07Inverse p m), 0))
theorem tot_s_InverseMove (p : Int) (colour : Int) (m : Int × Int × Int × Int × Int × Int) : Fo_s_InverseMove p colour m = some (s_InverseMove p colour m) := by
  unfold Fo_s_InverseMove s_InverseMove
  (try simp only [wI_eq])
  repeat' (first | with_reducible rfl | refine chk_opt (by first | with_reducible rfl | exact Bool.true_or _ | (with_reducible exact l07Code_prB ‹_›) | (with_reducible exact l07Code_prB0 ‹_›) | exact mk_ok (by (first | (with_reducible assumption) | (with_reducible exact l07Code_prB ‹_›) | (with_reducible exact l07Code_prB0 ‹_›))) | exact and_all (by (first | (with_reducible assumption) | (with_reducible exact l07Code_prB ‹_›) | (with_reducible exact l07Code_prB0 ‹_›))) (fun _ => rfl) | exact and_all (by (first | (with_reducible assumption) | (with_reducible exact l07Code_prB ‹_›) | (with_reducible exact l07Code_prB0 ‹_›))) (fun _ => by (first | (with_reducible assumption) | (with_reducible exact l07Code_prB ‹_›) | (with_reducible exact l07Code_prB0 ‹_›))) | exact and3 (by (first | (with_reducible assumption) | (with_reducible exact l07Code_prB ‹_›) | (with_reducible exact l07Code_prB0 ‹_›))) (by (first | (with_reducible assumption) | (with_reducible exact l07Code_prB ‹_›) | (with_reducible exact l07Code_prB0 ‹_›))) (by (first | (with_reducible assumption) | (with_reducible exact l07Code_prB ‹_›) | (with_reducible exact l07Code_prB0 ‹_›))) | exact and_two (by (first | (with_reducible assumption) | (with_reducible exact l07Code_prB ‹_›) | (with_reducible exact l07Code_prB0 ‹_›))) rfl | rfl) ?_ | refine ite_opt (fun _ => ?_) (fun _ => ?_) | rfl)
def run_s_InverseMove : List PV → Option (Bool × List TR)
  | [.v (.int .i64 p), .v (.int .i64 colour), .v (.agg ⟨[.int .i64 m0, .int .i64 m1, .int .i64 m2, .int .i64 m3, .int .i64 m4, .int .i64 m5]⟩)] => some (true, enc_a6_i (s_InverseMove p colour (m0, m1, m2, m3, m4, m5)))
  | _ => none
theorem sound_s_InverseMove : Sound Tryz.prog 12 run_s_InverseMove := by
  refine sound_of de_a6_i SO_s_InverseMove (by kernel_rfl) Tryz.func12 Tryz.ntmps12 rfl (by kernel_rfl) ?_
  intro W pvs avs rs hargs hrun
  unfold run_s_InverseMove at hrun
  split at hrun
  · simp only [Option.some.injEq, Prod.mk.injEq] at hrun
    obtain ⟨hp, rfl⟩ := hrun
    rename_i p colour m0 m1 m2 m3 m4 m5
    exact ⟨_, _, _, hargs, rfl, (eq_s_InverseMove p colour (m0, m1, m2, m3, m4, m5)).trans (tot_s_InverseMove p colour (m0, m1, m2, m3, m4, m5))⟩
  · cases hrun

def S_i_IsMove_c1 : Sums := ⟨tblS [(63, run_i_isColour), (64, run_i_isMap)], tblM []⟩
theorem SO_i_IsMove_c1 : SumsOK Tryz.prog S_i_IsMove_c1 := ⟨tblS_ok ⟨⟨Tryz.call63, sound_i_isColour⟩, ⟨Tryz.call64, sound_i_isMap⟩, True.intro⟩, tblM_ok True.intro⟩
def Fo_i_IsMove_c1 (c0 : Int) (c1 : Int) (c2 : Int × Int × Int × Int × Int × Int) : Option (Bool) :=
  (if (i_isColour c0) = true then some (i_isMap c1 c2) else some false)
theorem eq_i_IsMove_c1 (c0 : Int) (c1 : Int) (c2 : Int × Int × Int × Int × Int × Int) : execT Tryz.prog S_i_IsMove_c1 62 11 (fun _ => 1000000) dec_b [.p [.int .i64 c0], .p [.int .i64 c1], .p [.int .i64 c2.1, .int .i64 c2.2.1, .int .i64 c2.2.2.1, .int .i64 c2.2.2.2.1, .int .i64 c2.2.2.2.2.1, .int .i64 c2.2.2.2.2.2]] = Fo_i_IsMove_c1 c0 c1 c2 := by
  kernel_rfl
def i_IsMove_c1 (c0 : Int) (c1 : Int) (c2 : Int × Int × Int × Int × Int × Int) : Bool :=
  (if (i_isColour c0) = true then (i_isMap c1 c2) else false)
theorem tot_i_IsMove_c1 (c0 : Int) (c1 : Int) (c2 : Int × Int × Int × Int × Int × Int) : Fo_i_IsMove_c1 c0 c1 c2 = some (i_IsMove_c1 c0 c1 c2) := by
  unfold Fo_i_IsMove_c1 i_IsMove_c1
  (try simp only [wI_eq])
  repeat' (first | with_reducible rfl | refine ite_opt (fun _ => ?_) (fun _ => ?_) | rfl)
def run_i_IsMove_c1 : List PV → Option (Bool × List TR)
  | [.p [.int .i64 c0], .p [.int .i64 c1], .p [.int .i64 c20, .int .i64 c21, .int .i64 c22, .int .i64 c23, .int .i64 c24, .int .i64 c25]] => some (true, enc_b (i_IsMove_c1 c0 c1 (c20, c21, c22, c23, c24, c25)))
  | _ => none
theorem sound_i_IsMove_c1 : Sound Tryz.prog 62 run_i_IsMove_c1 := by
  refine sound_of de_b SO_i_IsMove_c1 (by kernel_rfl) Tryz.func62 Tryz.ntmps62 rfl (by kernel_rfl) ?_
  intro W pvs avs rs hargs hrun
  unfold run_i_IsMove_c1 at hrun
  split at hrun
  · simp only [Option.some.injEq, Prod.mk.injEq] at hrun
    obtain ⟨hp, rfl⟩ := hrun
    rename_i c0 c1 c20 c21 c22 c23 c24 c25
    exact ⟨_, _, _, hargs, rfl, (eq_i_IsMove_c1 c0 c1 (c20, c21, c22, c23, c24, c25)).trans (tot_i_IsMove_c1 c0 c1 (c20, c21, c22, c23, c24, c25))⟩
  · cases hrun

def S_i_IsMove : Sums := ⟨tblS [(61, run_i_asked), (62, run_i_IsMove_c1), (65, run_i_keeps)], tblM []⟩
theorem SO_i_IsMove : SumsOK Tryz.prog S_i_IsMove := ⟨tblS_ok ⟨⟨Tryz.call61, sound_i_asked⟩, ⟨Tryz.call62, sound_i_IsMove_c1⟩, ⟨Tryz.call65, sound_i_keeps⟩, True.intro⟩, tblM_ok True.intro⟩
def Fo_i_IsMove (p : Int) (colour : Int) (m : Int × Int × Int × Int × Int × Int) : Option (Bool × Int) :=
  (if ((true) || !(i_IsField p)) = true then (if ((i_asked p (true) (i_IsMove_c1 colour p m)) != 0) = true then some (false, (i_asked p (true) (i_IsMove_c1 colour p m))) else (if (prB p) = true then some ((i_keeps p colour (m.1, m.2.1, m.2.2.1, m.2.2.2.1)), 0) else none)) else none)
theorem eq_i_IsMove (p : Int) (colour : Int) (m : Int × Int × Int × Int × Int × Int) : execT Tryz.prog S_i_IsMove 13 20 (fun _ => 1000000) dec_b_i [.v (.int .i64 p), .v (.int .i64 colour), .v (.agg ⟨[.int .i64 m.1, .int .i64 m.2.1, .int .i64 m.2.2.1, .int .i64 m.2.2.2.1, .int .i64 m.2.2.2.2.1, .int .i64 m.2.2.2.2.2]⟩)] = Fo_i_IsMove p colour m := by
  kernel_rfl
def i_IsMove (p : Int) (colour : Int) (m : Int × Int × Int × Int × Int × Int) : Bool × Int :=
  (if ((i_asked p (true) (i_IsMove_c1 colour p m)) != 0) = true then (false, (i_asked p (true) (i_IsMove_c1 colour p m))) else ((i_keeps p colour (m.1, m.2.1, m.2.2.1, m.2.2.2.1)), 0))
theorem tot_i_IsMove (p : Int) (colour : Int) (m : Int × Int × Int × Int × Int × Int) : Fo_i_IsMove p colour m = some (i_IsMove p colour m) := by
  unfold Fo_i_IsMove i_IsMove
  (try simp only [wI_eq])
  repeat' (first | with_reducible rfl | refine chk_opt (by first | with_reducible rfl | exact Bool.true_or _ | (with_reducible exact asked_prB ‹_›) | (with_reducible exact asked_prB0 ‹_›) | exact mk_ok (by (first | (with_reducible assumption) | (with_reducible exact asked_prB ‹_›) | (with_reducible exact asked_prB0 ‹_›))) | exact and_all (by (first | (with_reducible assumption) | (with_reducible exact asked_prB ‹_›) | (with_reducible exact asked_prB0 ‹_›))) (fun _ => rfl) | exact and_all (by (first | (with_reducible assumption) | (with_reducible exact asked_prB ‹_›) | (with_reducible exact asked_prB0 ‹_›))) (fun _ => by (first | (with_reducible assumption) | (with_reducible exact asked_prB ‹_›) | (with_reducible exact asked_prB0 ‹_›))) | exact and3 (by (first | (with_reducible assumption) | (with_reducible exact asked_prB ‹_›) | (with_reducible exact asked_prB0 ‹_›))) (by (first | (with_reducible assumption) | (with_reducible exact asked_prB ‹_›) | (with_reducible exact asked_prB0 ‹_›))) (by (first | (with_reducible assumption) | (with_reducible exact asked_prB ‹_›) | (with_reducible exact asked_prB0 ‹_›))) | exact and_two (by (first | (with_reducible assumption) | (with_reducible exact asked_prB ‹_›) | (with_reducible exact asked_prB0 ‹_›))) rfl | rfl) ?_ | refine ite_opt (fun _ => ?_) (fun _ => ?_) | rfl)
def run_i_IsMove : List PV → Option (Bool × List TR)
  | [.v (.int .i64 p), .v (.int .i64 colour), .v (.agg ⟨[.int .i64 m0, .int .i64 m1, .int .i64 m2, .int .i64 m3, .int .i64 m4, .int .i64 m5]⟩)] => some (true, enc_b_i (i_IsMove p colour (m0, m1, m2, m3, m4, m5)))
  | _ => none
theorem sound_i_IsMove : Sound Tryz.prog 13 run_i_IsMove := by
  refine sound_of de_b_i SO_i_IsMove (by kernel_rfl) Tryz.func13 Tryz.ntmps13 rfl (by kernel_rfl) ?_
  intro W pvs avs rs hargs hrun
  unfold run_i_IsMove at hrun
  split at hrun
  · simp only [Option.some.injEq, Prod.mk.injEq] at hrun
    obtain ⟨hp, rfl⟩ := hrun
    rename_i p colour m0 m1 m2 m3 m4 m5
    exact ⟨_, _, _, hargs, rfl, (eq_i_IsMove p colour (m0, m1, m2, m3, m4, m5)).trans (tot_i_IsMove p colour (m0, m1, m2, m3, m4, m5))⟩
  · cases hrun

def S_s_IsMove : Sums := ⟨tblS [(50, run_s_l07Code)], tblM []⟩
theorem SO_s_IsMove : SumsOK Tryz.prog S_s_IsMove := ⟨tblS_ok ⟨⟨Tryz.call50, sound_s_l07Code⟩, True.intro⟩, tblM_ok True.intro⟩
def Fo_s_IsMove (p : Int) (colour : Int) (m : Int × Int × Int × Int × Int × Int) : Option (Bool × Int) :=
  (if ((s_l07Code p colour m) == 5) = true then some (false, 0) else some ((s_l07Code p colour m) == 0, (s_l07Code p colour m)))
theorem eq_s_IsMove (p : Int) (colour : Int) (m : Int × Int × Int × Int × Int × Int) : execT Tryz.prog S_s_IsMove 14 18 (fun _ => 1000000) dec_b_i [.v (.int .i64 p), .v (.int .i64 colour), .v (.agg ⟨[.int .i64 m.1, .int .i64 m.2.1, .int .i64 m.2.2.1, .int .i64 m.2.2.2.1, .int .i64 m.2.2.2.2.1, .int .i64 m.2.2.2.2.2]⟩)] = Fo_s_IsMove p colour m := by
  kernel_rfl
def s_IsMove (p : Int) (colour : Int) (m : Int × Int × Int × Int × Int × Int) : Bool × Int :=
  (if ((s_l07Code p colour m) == 5) = true then (false, 0) else ((s_l07Code p colour m) == 0, (s_l07Code p colour m)))
theorem tot_s_IsMove (p : Int) (colour : Int) (m : Int × Int × Int × Int × Int × Int) : Fo_s_IsMove p colour m = some (s_IsMove p colour m) := by
  unfold Fo_s_IsMove s_IsMove
  (try simp only [wI_eq])
  repeat' (first | with_reducible rfl | refine ite_opt (fun _ => ?_) (fun _ => ?_) | rfl)
def run_s_IsMove : List PV → Option (Bool × List TR)
  | [.v (.int .i64 p), .v (.int .i64 colour), .v (.agg ⟨[.int .i64 m0, .int .i64 m1, .int .i64 m2, .int .i64 m3, .int .i64 m4, .int .i64 m5]⟩)] => some (true, enc_b_i (s_IsMove p colour (m0, m1, m2, m3, m4, m5)))
  | _ => none
theorem sound_s_IsMove : Sound Tryz.prog 14 run_s_IsMove := by
  refine sound_of de_b_i SO_s_IsMove (by kernel_rfl) Tryz.func14 Tryz.ntmps14 rfl (by kernel_rfl) ?_
  intro W pvs avs rs hargs hrun
  unfold run_s_IsMove at hrun
  split at hrun
  · simp only [Option.some.injEq, Prod.mk.injEq] at hrun
    obtain ⟨hp, rfl⟩ := hrun
    rename_i p colour m0 m1 m2 m3 m4 m5
    exact ⟨_, _, _, hargs, rfl, (eq_s_IsMove p colour (m0, m1, m2, m3, m4, m5)).trans (tot_s_IsMove p colour (m0, m1, m2, m3, m4, m5))⟩
  · cases hrun

def S_i_ProductOfMoves_c1 : Sums := ⟨tblS [(64, run_i_isMap)], tblM []⟩
theorem SO_i_ProductOfMoves_c1 : SumsOK Tryz.prog S_i_ProductOfMoves_c1 := ⟨tblS_ok ⟨⟨Tryz.call64, sound_i_isMap⟩, True.intro⟩, tblM_ok True.intro⟩
def Fo_i_ProductOfMoves_c1 (c0 : Int) (c1 : Int × Int × Int × Int × Int × Int) (c2 : Int × Int × Int × Int × Int × Int) : Option (Bool) :=
  (if (i_isMap c0 c1) = true then some (i_isMap c0 c2) else some false)
theorem eq_i_ProductOfMoves_c1 (c0 : Int) (c1 : Int × Int × Int × Int × Int × Int) (c2 : Int × Int × Int × Int × Int × Int) : execT Tryz.prog S_i_ProductOfMoves_c1 66 12 (fun _ => 1000000) dec_b [.p [.int .i64 c0], .p [.int .i64 c1.1, .int .i64 c1.2.1, .int .i64 c1.2.2.1, .int .i64 c1.2.2.2.1, .int .i64 c1.2.2.2.2.1, .int .i64 c1.2.2.2.2.2], .p [.int .i64 c2.1, .int .i64 c2.2.1, .int .i64 c2.2.2.1, .int .i64 c2.2.2.2.1, .int .i64 c2.2.2.2.2.1, .int .i64 c2.2.2.2.2.2]] = Fo_i_ProductOfMoves_c1 c0 c1 c2 := by
  kernel_rfl
def i_ProductOfMoves_c1 (c0 : Int) (c1 : Int × Int × Int × Int × Int × Int) (c2 : Int × Int × Int × Int × Int × Int) : Bool :=
  (if (i_isMap c0 c1) = true then (i_isMap c0 c2) else false)
theorem tot_i_ProductOfMoves_c1 (c0 : Int) (c1 : Int × Int × Int × Int × Int × Int) (c2 : Int × Int × Int × Int × Int × Int) : Fo_i_ProductOfMoves_c1 c0 c1 c2 = some (i_ProductOfMoves_c1 c0 c1 c2) := by
  unfold Fo_i_ProductOfMoves_c1 i_ProductOfMoves_c1
  (try simp only [wI_eq])
  repeat' (first | with_reducible rfl | refine ite_opt (fun _ => ?_) (fun _ => ?_) | rfl)
def run_i_ProductOfMoves_c1 : List PV → Option (Bool × List TR)
  | [.p [.int .i64 c0], .p [.int .i64 c10, .int .i64 c11, .int .i64 c12, .int .i64 c13, .int .i64 c14, .int .i64 c15], .p [.int .i64 c20, .int .i64 c21, .int .i64 c22, .int .i64 c23, .int .i64 c24, .int .i64 c25]] => some (true, enc_b (i_ProductOfMoves_c1 c0 (c10, c11, c12, c13, c14, c15) (c20, c21, c22, c23, c24, c25)))
  | _ => none
theorem sound_i_ProductOfMoves_c1 : Sound Tryz.prog 66 run_i_ProductOfMoves_c1 := by
  refine sound_of de_b SO_i_ProductOfMoves_c1 (by kernel_rfl) Tryz.func66 Tryz.ntmps66 rfl (by kernel_rfl) ?_
  intro W pvs avs rs hargs hrun
  unfold run_i_ProductOfMoves_c1 at hrun
  split at hrun
  · simp only [Option.some.injEq, Prod.mk.injEq] at hrun
    obtain ⟨hp, rfl⟩ := hrun
    rename_i c0 c10 c11 c12 c13 c14 c15 c20 c21 c22 c23 c24 c25
    exact ⟨_, _, _, hargs, rfl, (eq_i_ProductOfMoves_c1 c0 (c10, c11, c12, c13, c14, c15) (c20, c21, c22, c23, c24, c25)).trans (tot_i_ProductOfMoves_c1 c0 (c10, c11, c12, c13, c14, c15) (c20, c21, c22, c23, c24, c25))⟩
  · cases hrun

def S_i_ProductOfMoves : Sums := ⟨tblS [(61, run_i_asked), (66, run_i_ProductOfMoves_c1), (49, run_i_then)], tblM []⟩
theorem SO_i_ProductOfMoves : SumsOK Tryz.prog S_i_ProductOfMoves := ⟨tblS_ok ⟨⟨Tryz.call61, sound_i_asked⟩, ⟨Tryz.call66, sound_i_ProductOfMoves_c1⟩, ⟨Tryz.call49, sound_i_then⟩, True.intro⟩, tblM_ok True.intro⟩
def Fo_i_ProductOfMoves (p : Int) (m : Int × Int × Int × Int × Int × Int) (n_ : Int × Int × Int × Int × Int × Int) : Option ((Int × Int × Int × Int × Int × Int) × Int) :=
  (if ((true) || !(i_IsField p)) = true then (if ((i_asked p (true) (i_ProductOfMoves_c1 p m n_)) != 0) = true then some ((0, 0, 0, 0, 0, 0), (i_asked p (true) (i_ProductOfMoves_c1 p m n_))) else (if (prB p) = true then some ((i_then p m n_), 0) else none)) else none)
theorem eq_i_ProductOfMoves (p : Int) (m : Int × Int × Int × Int × Int × Int) (n_ : Int × Int × Int × Int × Int × Int) : execT Tryz.prog S_i_ProductOfMoves 15 20 (fun _ => 1000000) dec_a6_i [.v (.int .i64 p), .v (.agg ⟨[.int .i64 m.1, .int .i64 m.2.1, .int .i64 m.2.2.1, .int .i64 m.2.2.2.1, .int .i64 m.2.2.2.2.1, .int .i64 m.2.2.2.2.2]⟩), .v (.agg ⟨[.int .i64 n_.1, .int .i64 n_.2.1, .int .i64 n_.2.2.1, .int .i64 n_.2.2.2.1, .int .i64 n_.2.2.2.2.1, .int .i64 n_.2.2.2.2.2]⟩)] = Fo_i_ProductOfMoves p m n_ := by
  kernel_rfl
def i_ProductOfMoves (p : Int) (m : Int × Int × Int × Int × Int × Int) (n_ : Int × Int × Int × Int × Int × Int) : (Int × Int × Int × Int × Int × Int) × Int :=
  (if ((i_asked p (true) (i_ProductOfMoves_c1 p m n_)) != 0) = true then ((0, 0, 0, 0, 0, 0), (i_asked p (true) (i_ProductOfMoves_c1 p m n_))) else ((i_then p m n_), 0))
theorem tot_i_ProductOfMoves (p : Int) (m : Int × Int × Int × Int × Int × Int) (n_ : Int × Int × Int × Int × Int × Int) : Fo_i_ProductOfMoves p m n_ = some (i_ProductOfMoves p m n_) := by
  unfold Fo_i_ProductOfMoves i_ProductOfMoves
  (try simp only [wI_eq])
  repeat' (first | with_reducible rfl | refine chk_opt (by first | with_reducible rfl | exact Bool.true_or _ | (with_reducible exact asked_prB ‹_›) | (with_reducible exact asked_prB0 ‹_›) | exact mk_ok (by (first | (with_reducible assumption) | (with_reducible exact asked_prB ‹_›) | (with_reducible exact asked_prB0 ‹_›))) | exact and_all (by (first | (with_reducible assumption) | (with_reducible exact asked_prB ‹_›) | (with_reducible exact asked_prB0 ‹_›))) (fun _ => rfl) | exact and_all (by (first | (with_reducible assumption) | (with_reducible exact asked_prB ‹_›) | (with_reducible exact asked_prB0 ‹_›))) (fun _ => by (first | (with_reducible assumption) | (with_reducible exact asked_prB ‹_›) | (with_reducible exact asked_prB0 ‹_›))) | exact and3 (by (first | (with_reducible assumption) | (with_reducible exact asked_prB ‹_›) | (with_reducible exact asked_prB0 ‹_›))) (by (first | (with_reducible assumption) | (with_reducible exact asked_prB ‹_›) | (with_reducible exact asked_prB0 ‹_›))) (by (first | (with_reducible assumption) | (with_reducible exact asked_prB ‹_›) | (with_reducible exact asked_prB0 ‹_›))) | exact and_two (by (first | (with_reducible assumption) | (with_reducible exact asked_prB ‹_›) | (with_reducible exact asked_prB0 ‹_›))) rfl | rfl) ?_ | refine ite_opt (fun _ => ?_) (fun _ => ?_) | rfl)
def run_i_ProductOfMoves : List PV → Option (Bool × List TR)
  | [.v (.int .i64 p), .v (.agg ⟨[.int .i64 m0, .int .i64 m1, .int .i64 m2, .int .i64 m3, .int .i64 m4, .int .i64 m5]⟩), .v (.agg ⟨[.int .i64 n_0, .int .i64 n_1, .int .i64 n_2, .int .i64 n_3, .int .i64 n_4, .int .i64 n_5]⟩)] => some (true, enc_a6_i (i_ProductOfMoves p (m0, m1, m2, m3, m4, m5) (n_0, n_1, n_2, n_3, n_4, n_5)))
  | _ => none
theorem sound_i_ProductOfMoves : Sound Tryz.prog 15 run_i_ProductOfMoves := by
  refine sound_of de_a6_i SO_i_ProductOfMoves (by kernel_rfl) Tryz.func15 Tryz.ntmps15 rfl (by kernel_rfl) ?_
  intro W pvs avs rs hargs hrun
  unfold run_i_ProductOfMoves at hrun
  split at hrun
  · simp only [Option.some.injEq, Prod.mk.injEq] at hrun
    obtain ⟨hp, rfl⟩ := hrun
    rename_i p m0 m1 m2 m3 m4 m5 n_0 n_1 n_2 n_3 n_4 n_5
    exact ⟨_, _, _, hargs, rfl, (eq_i_ProductOfMoves p (m0, m1, m2, m3, m4, m5) (n_0, n_1, n_2, n_3, n_4, n_5)).trans (tot_i_ProductOfMoves p (m0, m1, m2, m3, m4, m5) (n_0, n_1, n_2, n_3, n_4, n_5))⟩
  · cases hrun

def S_s_ProductOfMoves : Sums := ⟨tblS [(86, run_s_l07Maps), (51, run_s_l07Times)], tblM []⟩
theorem SO_s_ProductOfMoves : SumsOK Tryz.prog S_s_ProductOfMoves := ⟨tblS_ok ⟨⟨Tryz.call86, sound_s_l07Maps⟩, ⟨Tryz.call51, sound_s_l07Times⟩, True.intro⟩, tblM_ok True.intro⟩
def Fo_s_ProductOfMoves (p : Int) (m : Int × Int × Int × Int × Int × Int) (n_ : Int × Int × Int × Int × Int × Int) : Option ((Int × Int × Int × Int × Int × Int) × Int) :=
  (if ((s_l07Maps p [m, n_]) != 0) = true then some ((0, 0, 0, 0, 0, 0), (s_l07Maps p [m, n_])) else (if (prB p) = true then some ((s_l07Times p m n_), 0) else none))
theorem eq_s_ProductOfMoves (p : Int) (m : Int × Int × Int × Int × Int × Int) (n_ : Int × Int × Int × Int × Int × Int) : execT Tryz.prog S_s_ProductOfMoves 26 22 (fun _ => 1000000) dec_a6_i [.v (.int .i64 p), .v (.agg ⟨[.int .i64 m.1, .int .i64 m.2.1, .int .i64 m.2.2.1, .int .i64 m.2.2.2.1, .int .i64 m.2.2.2.2.1, .int .i64 m.2.2.2.2.2]⟩), .v (.agg ⟨[.int .i64 n_.1, .int .i64 n_.2.1, .int .i64 n_.2.2.1, .int .i64 n_.2.2.2.1, .int .i64 n_.2.2.2.2.1, .int .i64 n_.2.2.2.2.2]⟩)] = Fo_s_ProductOfMoves p m n_ := by
  kernel_rfl
def s_ProductOfMoves (p : Int) (m : Int × Int × Int × Int × Int × Int) (n_ : Int × Int × Int × Int × Int × Int) : (Int × Int × Int × Int × Int × Int) × Int :=
  (if ((s_l07Maps p [m, n_]) != 0) = true then ((0, 0, 0, 0, 0, 0), (s_l07Maps p [m, n_])) else ((s_l07Times p m n_), 0))
theorem tot_s_ProductOfMoves (p : Int) (m : Int × Int × Int × Int × Int × Int) (n_ : Int × Int × Int × Int × Int × Int) : Fo_s_ProductOfMoves p m n_ = some (s_ProductOfMoves p m n_) := by
  unfold Fo_s_ProductOfMoves s_ProductOfMoves
  (try simp only [wI_eq])
  repeat' (first | with_reducible rfl | refine chk_opt (by first | with_reducible rfl | exact Bool.true_or _ | (with_reducible exact l07Maps_prB ‹_›) | (with_reducible exact l07Maps_prB0 ‹_›) | exact mk_ok (by (first | (with_reducible assumption) | (with_reducible exact l07Maps_prB ‹_›) | (with_reducible exact l07Maps_prB0 ‹_›))) | exact and_all (by (first | (with_reducible assumption) | (with_reducible exact l07Maps_prB ‹_›) | (with_reducible exact l07Maps_prB0 ‹_›))) (fun _ => rfl) | exact and_all (by (first | (with_reducible assumption) | (with_reducible exact l07Maps_prB ‹_›) | (with_reducible exact l07Maps_prB0 ‹_›))) (fun _ => by (first | (with_reducible assumption) | (with_reducible exact l07Maps_prB ‹_›) | (with_reducible exact l07Maps_prB0 ‹_›))) | exact and3 (by (first | (with_reducible assumption) | (with_reducible exact l07Maps_prB ‹_›) | (with_reducible exact l07Maps_prB0 ‹_›))) (by (first | (with_reducible assumption) | (with_reducible exact l07Maps_prB ‹_›) | (with_reducible exact l07Maps_prB0 ‹_›))) (by (first | (with_reducible assumption) | (with_reducible exact l07Maps_prB ‹_›) | (with_reducible exact l07Maps_prB0 ‹_›))) | exact and_two (by (first | (with_reducible assumption) | (with_reducible exact l07Maps_prB ‹_›) | (with_reducible exact l07Maps_prB0 ‹_›))) rfl | rfl) ?_ | refine ite_opt (fun _ => ?_) (fun _ => ?_) | rfl)
def run_s_ProductOfMoves : List PV → Option (Bool × List TR)
  | [.v (.int .i64 p), .v (.agg ⟨[.int .i64 m0, .int .i64 m1, .int .i64 m2, .int .i64 m3, .int .i64 m4, .int .i64 m5]⟩), .v (.agg ⟨[.int .i64 n_0, .int .i64 n_1, .int .i64 n_2, .int .i64 n_3, .int .i64 n_4, .int .i64 n_5]⟩)] => some (true, enc_a6_i (s_ProductOfMoves p (m0, m1, m2, m3, m4, m5) (n_0, n_1, n_2, n_3, n_4, n_5)))
  | _ => none
theorem sound_s_ProductOfMoves : Sound Tryz.prog 26 run_s_ProductOfMoves := by
  refine sound_of de_a6_i SO_s_ProductOfMoves (by kernel_rfl) Tryz.func26 Tryz.ntmps26 rfl (by kernel_rfl) ?_
  intro W pvs avs rs hargs hrun
  unfold run_s_ProductOfMoves at hrun
  split at hrun
  · simp only [Option.some.injEq, Prod.mk.injEq] at hrun
    obtain ⟨hp, rfl⟩ := hrun
    rename_i p m0 m1 m2 m3 m4 m5 n_0 n_1 n_2 n_3 n_4 n_5
    exact ⟨_, _, _, hargs, rfl, (eq_s_ProductOfMoves p (m0, m1, m2, m3, m4, m5) (n_0, n_1, n_2, n_3, n_4, n_5)).trans (tot_s_ProductOfMoves p (m0, m1, m2, m3, m4, m5) (n_0, n_1, n_2, n_3, n_4, n_5))⟩
  · cases hrun

def S_i_FixedPoints_c1 : Sums := ⟨tblS [(64, run_i_isMap)], tblM []⟩
theorem SO_i_FixedPoints_c1 : SumsOK Tryz.prog S_i_FixedPoints_c1 := ⟨tblS_ok ⟨⟨Tryz.call64, sound_i_isMap⟩, True.intro⟩, tblM_ok True.intro⟩
def Fo_i_FixedPoints_c1 (c0 : Int) (c1 : Int × Int × Int × Int × Int × Int) : Option (Bool) :=
  some (i_isMap c0 c1)
theorem eq_i_FixedPoints_c1 (c0 : Int) (c1 : Int × Int × Int × Int × Int × Int) : execT Tryz.prog S_i_FixedPoints_c1 67 6 (fun _ => 1000000) dec_b [.p [.int .i64 c0], .p [.int .i64 c1.1, .int .i64 c1.2.1, .int .i64 c1.2.2.1, .int .i64 c1.2.2.2.1, .int .i64 c1.2.2.2.2.1, .int .i64 c1.2.2.2.2.2]] = Fo_i_FixedPoints_c1 c0 c1 := by
  kernel_rfl
def i_FixedPoints_c1 (c0 : Int) (c1 : Int × Int × Int × Int × Int × Int) : Bool :=
  (i_isMap c0 c1)
theorem tot_i_FixedPoints_c1 (c0 : Int) (c1 : Int × Int × Int × Int × Int × Int) : Fo_i_FixedPoints_c1 c0 c1 = some (i_FixedPoints_c1 c0 c1) := by
  unfold Fo_i_FixedPoints_c1 i_FixedPoints_c1
  (try simp only [wI_eq])
  repeat' (first | with_reducible rfl | refine ite_opt (fun _ => ?_) (fun _ => ?_) | rfl)
def run_i_FixedPoints_c1 : List PV → Option (Bool × List TR)
  | [.p [.int .i64 c0], .p [.int .i64 c10, .int .i64 c11, .int .i64 c12, .int .i64 c13, .int .i64 c14, .int .i64 c15]] => some (true, enc_b (i_FixedPoints_c1 c0 (c10, c11, c12, c13, c14, c15)))
  | _ => none
theorem sound_i_FixedPoints_c1 : Sound Tryz.prog 67 run_i_FixedPoints_c1 := by
  refine sound_of de_b SO_i_FixedPoints_c1 (by kernel_rfl) Tryz.func67 Tryz.ntmps67 rfl (by kernel_rfl) ?_
  intro W pvs avs rs hargs hrun
  unfold run_i_FixedPoints_c1 at hrun
  split at hrun
  · simp only [Option.some.injEq, Prod.mk.injEq] at hrun
    obtain ⟨hp, rfl⟩ := hrun
    rename_i c0 c10 c11 c12 c13 c14 c15
    exact ⟨_, _, _, hargs, rfl, (eq_i_FixedPoints_c1 c0 (c10, c11, c12, c13, c14, c15)).trans (tot_i_FixedPoints_c1 c0 (c10, c11, c12, c13, c14, c15))⟩
  · cases hrun

def S_i_FixedPoints : Sums := ⟨tblS [(61, run_i_asked), (67, run_i_FixedPoints_c1), (52, run_i_fixedPoints)], tblM []⟩
theorem SO_i_FixedPoints : SumsOK Tryz.prog S_i_FixedPoints := ⟨tblS_ok ⟨⟨Tryz.call61, sound_i_asked⟩, ⟨Tryz.call67, sound_i_FixedPoints_c1⟩, ⟨Tryz.call52, sound_i_fixedPoints⟩, True.intro⟩, tblM_ok True.intro⟩
def Fo_i_FixedPoints (p : Int) (m : Int × Int × Int × Int × Int × Int) : Option ((Nat × List Int) × Int) :=
  (if ((true) || !(i_IsField p)) = true then (if ((i_asked p (true) (i_FixedPoints_c1 p m)) != 0) = true then some ((0, []), (i_asked p (true) (i_FixedPoints_c1 p m))) else (if (prB p) = true then some (((i_fixedPoints p m).1, (i_fixedPoints p m).2), 0) else none)) else none)
theorem eq_i_FixedPoints (p : Int) (m : Int × Int × Int × Int × Int × Int) : execT Tryz.prog S_i_FixedPoints 16 16 (fun _ => 1000000) dec_l26_2_i [.v (.int .i64 p), .v (.agg ⟨[.int .i64 m.1, .int .i64 m.2.1, .int .i64 m.2.2.1, .int .i64 m.2.2.2.1, .int .i64 m.2.2.2.2.1, .int .i64 m.2.2.2.2.2]⟩)] = Fo_i_FixedPoints p m := by
  kernel_rfl
def i_FixedPoints (p : Int) (m : Int × Int × Int × Int × Int × Int) : (Nat × List Int) × Int :=
  (if ((i_asked p (true) (i_FixedPoints_c1 p m)) != 0) = true then ((0, []), (i_asked p (true) (i_FixedPoints_c1 p m))) else (((i_fixedPoints p m).1, (i_fixedPoints p m).2), 0))
theorem tot_i_FixedPoints (p : Int) (m : Int × Int × Int × Int × Int × Int) : Fo_i_FixedPoints p m = some (i_FixedPoints p m) := by
  unfold Fo_i_FixedPoints i_FixedPoints
  (try simp only [wI_eq])
  repeat' (first | with_reducible rfl | refine chk_opt (by first | with_reducible rfl | exact Bool.true_or _ | (with_reducible exact asked_prB ‹_›) | (with_reducible exact asked_prB0 ‹_›) | exact mk_ok (by (first | (with_reducible assumption) | (with_reducible exact asked_prB ‹_›) | (with_reducible exact asked_prB0 ‹_›))) | exact and_all (by (first | (with_reducible assumption) | (with_reducible exact asked_prB ‹_›) | (with_reducible exact asked_prB0 ‹_›))) (fun _ => rfl) | exact and_all (by (first | (with_reducible assumption) | (with_reducible exact asked_prB ‹_›) | (with_reducible exact asked_prB0 ‹_›))) (fun _ => by (first | (with_reducible assumption) | (with_reducible exact asked_prB ‹_›) | (with_reducible exact asked_prB0 ‹_›))) | exact and3 (by (first | (with_reducible assumption) | (with_reducible exact asked_prB ‹_›) | (with_reducible exact asked_prB0 ‹_›))) (by (first | (with_reducible assumption) | (with_reducible exact asked_prB ‹_›) | (with_reducible exact asked_prB0 ‹_›))) (by (first | (with_reducible assumption) | (with_reducible exact asked_prB ‹_›) | (with_reducible exact asked_prB0 ‹_›))) | exact and_two (by (first | (with_reducible assumption) | (with_reducible exact asked_prB ‹_›) | (with_reducible exact asked_prB0 ‹_›))) rfl | rfl) ?_ | refine ite_opt (fun _ => ?_) (fun _ => ?_) | rfl)
def run_i_FixedPoints : List PV → Option (Bool × List TR)
  | [.v (.int .i64 p), .v (.agg ⟨[.int .i64 m0, .int .i64 m1, .int .i64 m2, .int .i64 m3, .int .i64 m4, .int .i64 m5]⟩)] => some (true, enc_l26_2_i (i_FixedPoints p (m0, m1, m2, m3, m4, m5)))
  | _ => none
theorem sound_i_FixedPoints : Sound Tryz.prog 16 run_i_FixedPoints := by
  refine sound_of de_l26_2_i SO_i_FixedPoints (by kernel_rfl) Tryz.func16 Tryz.ntmps16 rfl (by kernel_rfl) ?_
  intro W pvs avs rs hargs hrun
  unfold run_i_FixedPoints at hrun
  split at hrun
  · simp only [Option.some.injEq, Prod.mk.injEq] at hrun
    obtain ⟨hp, rfl⟩ := hrun
    rename_i p m0 m1 m2 m3 m4 m5
    exact ⟨_, _, _, hargs, rfl, (eq_i_FixedPoints p (m0, m1, m2, m3, m4, m5)).trans (tot_i_FixedPoints p (m0, m1, m2, m3, m4, m5))⟩
  · cases hrun

def S_s_FixedPoints : Sums := ⟨tblS [(86, run_s_l07Maps), (55, run_s_l07Fixed)], tblM []⟩
theorem SO_s_FixedPoints : SumsOK Tryz.prog S_s_FixedPoints := ⟨tblS_ok ⟨⟨Tryz.call86, sound_s_l07Maps⟩, ⟨Tryz.call55, sound_s_l07Fixed⟩, True.intro⟩, tblM_ok True.intro⟩
def Fo_s_FixedPoints (p : Int) (m : Int × Int × Int × Int × Int × Int) : Option ((Nat × List Int) × Int) :=
  (if ((s_l07Maps p [m]) != 0) = true then some ((0, []), (s_l07Maps p [m])) else (if (prB p) = true then some (((s_l07Fixed p m).1, (s_l07Fixed p m).2), 0) else none))
theorem eq_s_FixedPoints (p : Int) (m : Int × Int × Int × Int × Int × Int) : execT Tryz.prog S_s_FixedPoints 28 17 (fun _ => 1000000) dec_l26_2_i [.v (.int .i64 p), .v (.agg ⟨[.int .i64 m.1, .int .i64 m.2.1, .int .i64 m.2.2.1, .int .i64 m.2.2.2.1, .int .i64 m.2.2.2.2.1, .int .i64 m.2.2.2.2.2]⟩)] = Fo_s_FixedPoints p m := by
  kernel_rfl
def s_FixedPoints (p : Int) (m : Int × Int × Int × Int × Int × Int) : (Nat × List Int) × Int :=
  (if ((s_l07Maps p [m]) != 0) = true then ((0, []), (s_l07Maps p [m])) else (((s_l07Fixed p m).1, (s_l07Fixed p m).2), 0))
theorem tot_s_FixedPoints (p : Int) (m : Int × Int × Int × Int × Int × Int) : Fo_s_FixedPoints p m = some (s_FixedPoints p m) := by
  unfold Fo_s_FixedPoints s_FixedPoints
  (try simp only [wI_eq])
  repeat' (first | with_reducible rfl | refine chk_opt (by first | with_reducible rfl | exact Bool.true_or _ | (with_reducible exact l07Maps_prB ‹_›) | (with_reducible exact l07Maps_prB0 ‹_›) | exact mk_ok (by (first | (with_reducible assumption) | (with_reducible exact l07Maps_prB ‹_›) | (with_reducible exact l07Maps_prB0 ‹_›))) | exact and_all (by (first | (with_reducible assumption) | (with_reducible exact l07Maps_prB ‹_›) | (with_reducible exact l07Maps_prB0 ‹_›))) (fun _ => rfl) | exact and_all (by (first | (with_reducible assumption) | (with_reducible exact l07Maps_prB ‹_›) | (with_reducible exact l07Maps_prB0 ‹_›))) (fun _ => by (first | (with_reducible assumption) | (with_reducible exact l07Maps_prB ‹_›) | (with_reducible exact l07Maps_prB0 ‹_›))) | exact and3 (by (first | (with_reducible assumption) | (with_reducible exact l07Maps_prB ‹_›) | (with_reducible exact l07Maps_prB0 ‹_›))) (by (first | (with_reducible assumption) | (with_reducible exact l07Maps_prB ‹_›) | (with_reducible exact l07Maps_prB0 ‹_›))) (by (first | (with_reducible assumption) | (with_reducible exact l07Maps_prB ‹_›) | (with_reducible exact l07Maps_prB0 ‹_›))) | exact and_two (by (first | (with_reducible assumption) | (with_reducible exact l07Maps_prB ‹_›) | (with_reducible exact l07Maps_prB0 ‹_›))) rfl | rfl) ?_ | refine ite_opt (fun _ => ?_) (fun _ => ?_) | rfl)
def run_s_FixedPoints : List PV → Option (Bool × List TR)
  | [.v (.int .i64 p), .v (.agg ⟨[.int .i64 m0, .int .i64 m1, .int .i64 m2, .int .i64 m3, .int .i64 m4, .int .i64 m5]⟩)] => some (true, enc_l26_2_i (s_FixedPoints p (m0, m1, m2, m3, m4, m5)))
  | _ => none
theorem sound_s_FixedPoints : Sound Tryz.prog 28 run_s_FixedPoints := by
  refine sound_of de_l26_2_i SO_s_FixedPoints (by kernel_rfl) Tryz.func28 Tryz.ntmps28 rfl (by kernel_rfl) ?_
  intro W pvs avs rs hargs hrun
  unfold run_s_FixedPoints at hrun
  split at hrun
  · simp only [Option.some.injEq, Prod.mk.injEq] at hrun
    obtain ⟨hp, rfl⟩ := hrun
    rename_i p m0 m1 m2 m3 m4 m5
    exact ⟨_, _, _, hargs, rfl, (eq_s_FixedPoints p (m0, m1, m2, m3, m4, m5)).trans (tot_s_FixedPoints p (m0, m1, m2, m3, m4, m5))⟩
  · cases hrun

def S_i_MovePoint_c1 : Sums := ⟨tblS [(64, run_i_isMap), (69, run_i_isPoint)], tblM []⟩
theorem SO_i_MovePoint_c1 : SumsOK Tryz.prog S_i_MovePoint_c1 := ⟨tblS_ok ⟨⟨Tryz.call64, sound_i_isMap⟩, ⟨Tryz.call69, sound_i_isPoint⟩, True.intro⟩, tblM_ok True.intro⟩
def Fo_i_MovePoint_c1 (c0 : Int) (c1 : Int × Int × Int × Int × Int × Int) (c2 : Int × Int) : Option (Bool) :=
  (if (i_isMap c0 c1) = true then some (i_isPoint c0 c2) else some false)
theorem eq_i_MovePoint_c1 (c0 : Int) (c1 : Int × Int × Int × Int × Int × Int) (c2 : Int × Int) : execT Tryz.prog S_i_MovePoint_c1 68 12 (fun _ => 1000000) dec_b [.p [.int .i64 c0], .p [.int .i64 c1.1, .int .i64 c1.2.1, .int .i64 c1.2.2.1, .int .i64 c1.2.2.2.1, .int .i64 c1.2.2.2.2.1, .int .i64 c1.2.2.2.2.2], .p [.int .i64 c2.1, .int .i64 c2.2]] = Fo_i_MovePoint_c1 c0 c1 c2 := by
  kernel_rfl
def i_MovePoint_c1 (c0 : Int) (c1 : Int × Int × Int × Int × Int × Int) (c2 : Int × Int) : Bool :=
  (if (i_isMap c0 c1) = true then (i_isPoint c0 c2) else false)
theorem tot_i_MovePoint_c1 (c0 : Int) (c1 : Int × Int × Int × Int × Int × Int) (c2 : Int × Int) : Fo_i_MovePoint_c1 c0 c1 c2 = some (i_MovePoint_c1 c0 c1 c2) := by
  unfold Fo_i_MovePoint_c1 i_MovePoint_c1
  (try simp only [wI_eq])
  repeat' (first | with_reducible rfl | refine ite_opt (fun _ => ?_) (fun _ => ?_) | rfl)
def run_i_MovePoint_c1 : List PV → Option (Bool × List TR)
  | [.p [.int .i64 c0], .p [.int .i64 c10, .int .i64 c11, .int .i64 c12, .int .i64 c13, .int .i64 c14, .int .i64 c15], .p [.int .i64 c20, .int .i64 c21]] => some (true, enc_b (i_MovePoint_c1 c0 (c10, c11, c12, c13, c14, c15) (c20, c21)))
  | _ => none
theorem sound_i_MovePoint_c1 : Sound Tryz.prog 68 run_i_MovePoint_c1 := by
  refine sound_of de_b SO_i_MovePoint_c1 (by kernel_rfl) Tryz.func68 Tryz.ntmps68 rfl (by kernel_rfl) ?_
  intro W pvs avs rs hargs hrun
  unfold run_i_MovePoint_c1 at hrun
  split at hrun
  · simp only [Option.some.injEq, Prod.mk.injEq] at hrun
    obtain ⟨hp, rfl⟩ := hrun
    rename_i c0 c10 c11 c12 c13 c14 c15 c20 c21
    exact ⟨_, _, _, hargs, rfl, (eq_i_MovePoint_c1 c0 (c10, c11, c12, c13, c14, c15) (c20, c21)).trans (tot_i_MovePoint_c1 c0 (c10, c11, c12, c13, c14, c15) (c20, c21))⟩
  · cases hrun

def S_i_MovePoint : Sums := ⟨tblS [(61, run_i_asked), (68, run_i_MovePoint_c1), (70, run_i_moved)], tblM []⟩
theorem SO_i_MovePoint : SumsOK Tryz.prog S_i_MovePoint := ⟨tblS_ok ⟨⟨Tryz.call61, sound_i_asked⟩, ⟨Tryz.call68, sound_i_MovePoint_c1⟩, ⟨Tryz.call70, sound_i_moved⟩, True.intro⟩, tblM_ok True.intro⟩
def Fo_i_MovePoint (p : Int) (m : Int × Int × Int × Int × Int × Int) (a : Int × Int) : Option ((Int × Int) × Int) :=
  (if ((true) || !(i_IsField p)) = true then (if ((i_asked p (true) (i_MovePoint_c1 p m a)) != 0) = true then some ((0, 0), (i_asked p (true) (i_MovePoint_c1 p m a))) else (if (prB p) = true then some ((i_moved p m a), 0) else none)) else none)
theorem eq_i_MovePoint (p : Int) (m : Int × Int × Int × Int × Int × Int) (a : Int × Int) : execT Tryz.prog S_i_MovePoint 17 20 (fun _ => 1000000) dec_a2_i [.v (.int .i64 p), .v (.agg ⟨[.int .i64 m.1, .int .i64 m.2.1, .int .i64 m.2.2.1, .int .i64 m.2.2.2.1, .int .i64 m.2.2.2.2.1, .int .i64 m.2.2.2.2.2]⟩), .v (.agg ⟨[.int .i64 a.1, .int .i64 a.2]⟩)] = Fo_i_MovePoint p m a := by
  kernel_rfl
def i_MovePoint (p : Int) (m : Int × Int × Int × Int × Int × Int) (a : Int × Int) : (Int × Int) × Int :=
  (if ((i_asked p (true) (i_MovePoint_c1 p m a)) != 0) = true then ((0, 0), (i_asked p (true) (i_MovePoint_c1 p m a))) else ((i_moved p m a), 0))
theorem tot_i_MovePoint (p : Int) (m : Int × Int × Int × Int × Int × Int) (a : Int × Int) : Fo_i_MovePoint p m a = some (i_MovePoint p m a) := by
  unfold Fo_i_MovePoint i_MovePoint
  (try simp only [wI_eq])
  repeat' (first | with_reducible rfl | refine chk_opt (by first | with_reducible rfl | exact Bool.true_or _ | (with_reducible exact asked_prB ‹_›) | (with_reducible exact asked_prB0 ‹_›) | exact mk_ok (by (first | (with_reducible assumption) | (with_reducible exact asked_prB ‹_›) | (with_reducible exact asked_prB0 ‹_›))) | exact and_all (by (first | (with_reducible assumption) | (with_reducible exact asked_prB ‹_›) | (with_reducible exact asked_prB0 ‹_›))) (fun _ => rfl) | exact and_all (by (first | (with_reducible assumption) | (with_reducible exact asked_prB ‹_›) | (with_reducible exact asked_prB0 ‹_›))) (fun _ => by (first | (with_reducible assumption) | (with_reducible exact asked_prB ‹_›) | (with_reducible exact asked_prB0 ‹_›))) | exact and3 (by (first | (with_reducible assumption) | (with_reducible exact asked_prB ‹_›) | (with_reducible exact asked_prB0 ‹_›))) (by (first | (with_reducible assumption) | (with_reducible exact asked_prB ‹_›) | (with_reducible exact asked_prB0 ‹_›))) (by (first | (with_reducible assumption) | (with_reducible exact asked_prB ‹_›) | (with_reducible exact asked_prB0 ‹_›))) | exact and_two (by (first | (with_reducible assumption) | (with_reducible exact asked_prB ‹_›) | (with_reducible exact asked_prB0 ‹_›))) rfl | rfl) ?_ | refine ite_opt (fun _ => ?_) (fun _ => ?_) | rfl)
def run_i_MovePoint : List PV → Option (Bool × List TR)
  | [.v (.int .i64 p), .v (.agg ⟨[.int .i64 m0, .int .i64 m1, .int .i64 m2, .int .i64 m3, .int .i64 m4, .int .i64 m5]⟩), .v (.agg ⟨[.int .i64 a0, .int .i64 a1]⟩)] => some (true, enc_a2_i (i_MovePoint p (m0, m1, m2, m3, m4, m5) (a0, a1)))
  | _ => none
theorem sound_i_MovePoint : Sound Tryz.prog 17 run_i_MovePoint := by
  refine sound_of de_a2_i SO_i_MovePoint (by kernel_rfl) Tryz.func17 Tryz.ntmps17 rfl (by kernel_rfl) ?_
  intro W pvs avs rs hargs hrun
  unfold run_i_MovePoint at hrun
  split at hrun
  · simp only [Option.some.injEq, Prod.mk.injEq] at hrun
    obtain ⟨hp, rfl⟩ := hrun
    rename_i p m0 m1 m2 m3 m4 m5 a0 a1
    exact ⟨_, _, _, hargs, rfl, (eq_i_MovePoint p (m0, m1, m2, m3, m4, m5) (a0, a1)).trans (tot_i_MovePoint p (m0, m1, m2, m3, m4, m5) (a0, a1))⟩
  · cases hrun

def S_s_MovePoint : Sums := ⟨tblS [(86, run_s_l07Maps), (87, run_s_l01Code), (88, run_s_l07Move)], tblM []⟩
theorem SO_s_MovePoint : SumsOK Tryz.prog S_s_MovePoint := ⟨tblS_ok ⟨⟨Tryz.call86, sound_s_l07Maps⟩, ⟨Tryz.call87, sound_s_l01Code⟩, ⟨Tryz.call88, sound_s_l07Move⟩, True.intro⟩, tblM_ok True.intro⟩
def Fo_s_MovePoint (p : Int) (m : Int × Int × Int × Int × Int × Int) (a : Int × Int) : Option ((Int × Int) × Int) :=
  (if ((s_l07Maps p [m]) == 0) = true then (if ((s_l01Code p [a]) != 0) = true then some ((0, 0), (s_l01Code p [a])) else (if (prB p) = true then some ((s_l07Move p m a), 0) else none)) else (if ((s_l07Maps p [m]) != 0) = true then some ((0, 0), (s_l07Maps p [m])) else (if (prB p) = true then some ((s_l07Move p m a), 0) else none)))
theorem eq_s_MovePoint (p : Int) (m : Int × Int × Int × Int × Int × Int) (a : Int × Int) : execT Tryz.prog S_s_MovePoint 22 27 (fun _ => 1000000) dec_a2_i [.v (.int .i64 p), .v (.agg ⟨[.int .i64 m.1, .int .i64 m.2.1, .int .i64 m.2.2.1, .int .i64 m.2.2.2.1, .int .i64 m.2.2.2.2.1, .int .i64 m.2.2.2.2.2]⟩), .v (.agg ⟨[.int .i64 a.1, .int .i64 a.2]⟩)] = Fo_s_MovePoint p m a := by
  kernel_rfl
def s_MovePoint (p : Int) (m : Int × Int × Int × Int × Int × Int) (a : Int × Int) : (Int × Int) × Int :=
  (if ((s_l07Maps p [m]) == 0) = true then (if ((s_l01Code p [a]) != 0) = true then ((0, 0), (s_l01Code p [a])) else ((s_l07Move p m a), 0)) else (if ((s_l07Maps p [m]) != 0) = true then ((0, 0), (s_l07Maps p [m])) else ((s_l07Move p m a), 0)))
theorem tot_s_MovePoint (p : Int) (m : Int × Int × Int × Int × Int × Int) (a : Int × Int) : Fo_s_MovePoint p m a = some (s_MovePoint p m a) := by
  unfold Fo_s_MovePoint s_MovePoint
  (try simp only [wI_eq])
  repeat' (first | with_reducible rfl | refine chk_opt (by first | with_reducible rfl | exact Bool.true_or _ | (with_reducible exact l01Code_prB ‹_›) | (with_reducible exact l01Code_prB0 ‹_›) | (with_reducible exact l07Maps_prB ‹_›) | (with_reducible exact l07Maps_prB0 ‹_›) | exact mk_ok (by (first | (with_reducible assumption) | (with_reducible exact l01Code_prB ‹_›) | (with_reducible exact l01Code_prB0 ‹_›) | (with_reducible exact l07Maps_prB ‹_›) | (with_reducible exact l07Maps_prB0 ‹_›))) | exact and_all (by (first | (with_reducible assumption) | (with_reducible exact l01Code_prB ‹_›) | (with_reducible exact l01Code_prB0 ‹_›) | (with_reducible exact l07Maps_prB ‹_›) | (with_reducible exact l07Maps_prB0 ‹_›))) (fun _ => rfl) | exact and_all (by (first | (with_reducible assumption) | (with_reducible exact l01Code_prB ‹_›) | (with_reducible exact l01Code_prB0 ‹_›) | (with_reducible exact l07Maps_prB ‹_›) | (with_reducible exact l07Maps_prB0 ‹_›))) (fun _ => by (first | (with_reducible assumption) | (with_reducible exact l01Code_prB ‹_›) | (with_reducible exact l01Code_prB0 ‹_›) | (with_reducible exact l07Maps_prB ‹_›) | (with_reducible exact l07Maps_prB0 ‹_›))) | exact and3 (by (first | (with_reducible assumption) | (with_reducible exact l01Code_prB ‹_›) | (with_reducible exact l01Code_prB0 ‹_›) | (with_reducible exact l07Maps_prB ‹_›) | (with_reducible exact l07Maps_prB0 ‹_›))) (by (first | (with_reducible assumption) | (with_reducible exact l01Code_prB ‹_›) | (with_reducible exact l01Code_prB0 ‹_›) | (with_reducible exact l07Maps_prB ‹_›) | (with_reducible exact l07Maps_prB0 ‹_›))) (by (first | (with_reducible assumption) | (with_reducible exact l01Code_prB ‹_›) | (with_reducible exact l01Code_prB0 ‹_›) | (with_reducible exact l07Maps_prB ‹_›) | (with_reducible exact l07Maps_prB0 ‹_›))) | exact and_two (by (first | (with_reducible assumption) | (with_reducible exact l01Code_prB ‹_›) | (with_reducible exact l01Code_prB0 ‹_›) | (with_reducible exact l07Maps_prB ‹_›) | (with_reducible exact l07Maps_prB0 ‹_›))) rfl | rfl) ?_ | refine ite_opt (fun _ => ?_) (fun _ => ?_) | rfl)
def run_s_MovePoint : List PV → Option (Bool × List TR)
  | [.v (.int .i64 p), .v (.agg ⟨[.int .i64 m0, .int .i64 m1, .int .i64 m2, .int .i64 m3, .int .i64 m4, .int .i64 m5]⟩), .v (.agg ⟨[.int .i64 a0, .int .i64 a1]⟩)] => some (true, enc_a2_i (s_MovePoint p (m0, m1, m2, m3, m4, m5) (a0, a1)))
  | _ => none
theorem sound_s_MovePoint : Sound Tryz.prog 22 run_s_MovePoint := by
  refine sound_of de_a2_i SO_s_MovePoint (by kernel_rfl) Tryz.func22 Tryz.ntmps22 rfl (by kernel_rfl) ?_
  intro W pvs avs rs hargs hrun
  unfold run_s_MovePoint at hrun
  split at hrun
  · simp only [Option.some.injEq, Prod.mk.injEq] at hrun
    obtain ⟨hp, rfl⟩ := hrun
    rename_i p m0 m1 m2 m3 m4 m5 a0 a1
    exact ⟨_, _, _, hargs, rfl, (eq_s_MovePoint p (m0, m1, m2, m3, m4, m5) (a0, a1)).trans (tot_s_MovePoint p (m0, m1, m2, m3, m4, m5) (a0, a1))⟩
  · cases hrun

def S_i_Quadrance_c1 : Sums := ⟨tblS [(63, run_i_isColour), (72, run_i_arePoints)], tblM []⟩
theorem SO_i_Quadrance_c1 : SumsOK Tryz.prog S_i_Quadrance_c1 := ⟨tblS_ok ⟨⟨Tryz.call63, sound_i_isColour⟩, ⟨Tryz.call72, sound_i_arePoints⟩, True.intro⟩, tblM_ok True.intro⟩
def Fo_i_Quadrance_c1 (c0 : Int) (c1 : Int) (c2 : Int × Int) (c3 : Int × Int) : Option (Bool) :=
  (if (i_isColour c0) = true then some (i_arePoints c1 [c2, c3]) else some false)
theorem eq_i_Quadrance_c1 (c0 : Int) (c1 : Int) (c2 : Int × Int) (c3 : Int × Int) : execT Tryz.prog S_i_Quadrance_c1 71 14 (fun _ => 1000000) dec_b [.p [.int .i64 c0], .p [.int .i64 c1], .p [.int .i64 c2.1, .int .i64 c2.2], .p [.int .i64 c3.1, .int .i64 c3.2]] = Fo_i_Quadrance_c1 c0 c1 c2 c3 := by
  kernel_rfl
def i_Quadrance_c1 (c0 : Int) (c1 : Int) (c2 : Int × Int) (c3 : Int × Int) : Bool :=
  (if (i_isColour c0) = true then (i_arePoints c1 [c2, c3]) else false)
theorem tot_i_Quadrance_c1 (c0 : Int) (c1 : Int) (c2 : Int × Int) (c3 : Int × Int) : Fo_i_Quadrance_c1 c0 c1 c2 c3 = some (i_Quadrance_c1 c0 c1 c2 c3) := by
  unfold Fo_i_Quadrance_c1 i_Quadrance_c1
  (try simp only [wI_eq])
  repeat' (first | with_reducible rfl | refine ite_opt (fun _ => ?_) (fun _ => ?_) | rfl)
def run_i_Quadrance_c1 : List PV → Option (Bool × List TR)
  | [.p [.int .i64 c0], .p [.int .i64 c1], .p [.int .i64 c20, .int .i64 c21], .p [.int .i64 c30, .int .i64 c31]] => some (true, enc_b (i_Quadrance_c1 c0 c1 (c20, c21) (c30, c31)))
  | _ => none
theorem sound_i_Quadrance_c1 : Sound Tryz.prog 71 run_i_Quadrance_c1 := by
  refine sound_of de_b SO_i_Quadrance_c1 (by kernel_rfl) Tryz.func71 Tryz.ntmps71 rfl (by kernel_rfl) ?_
  intro W pvs avs rs hargs hrun
  unfold run_i_Quadrance_c1 at hrun
  split at hrun
  · simp only [Option.some.injEq, Prod.mk.injEq] at hrun
    obtain ⟨hp, rfl⟩ := hrun
    rename_i c0 c1 c20 c21 c30 c31
    exact ⟨_, _, _, hargs, rfl, (eq_i_Quadrance_c1 c0 c1 (c20, c21) (c30, c31)).trans (tot_i_Quadrance_c1 c0 c1 (c20, c21) (c30, c31))⟩
  · cases hrun

def S_i_Quadrance : Sums := ⟨tblS [(61, run_i_asked), (71, run_i_Quadrance_c1), (73, run_i_quadrance)], tblM []⟩
theorem SO_i_Quadrance : SumsOK Tryz.prog S_i_Quadrance := ⟨tblS_ok ⟨⟨Tryz.call61, sound_i_asked⟩, ⟨Tryz.call71, sound_i_Quadrance_c1⟩, ⟨Tryz.call73, sound_i_quadrance⟩, True.intro⟩, tblM_ok True.intro⟩
def Fo_i_Quadrance (p : Int) (colour : Int) (a : Int × Int) (b : Int × Int) : Option (Int × Int) :=
  (if ((true) || !(i_IsField p)) = true then (if ((i_asked p (true) (i_Quadrance_c1 colour p a b)) != 0) = true then some (0, (i_asked p (true) (i_Quadrance_c1 colour p a b))) else (if (prB p) = true then some ((i_quadrance p colour a b), 0) else none)) else none)
theorem eq_i_Quadrance (p : Int) (colour : Int) (a : Int × Int) (b : Int × Int) : execT Tryz.prog S_i_Quadrance 18 22 (fun _ => 1000000) dec_i_i [.v (.int .i64 p), .v (.int .i64 colour), .v (.agg ⟨[.int .i64 a.1, .int .i64 a.2]⟩), .v (.agg ⟨[.int .i64 b.1, .int .i64 b.2]⟩)] = Fo_i_Quadrance p colour a b := by
  kernel_rfl
def i_Quadrance (p : Int) (colour : Int) (a : Int × Int) (b : Int × Int) : Int × Int :=
  (if ((i_asked p (true) (i_Quadrance_c1 colour p a b)) != 0) = true then (0, (i_asked p (true) (i_Quadrance_c1 colour p a b))) else ((i_quadrance p colour a b), 0))
theorem tot_i_Quadrance (p : Int) (colour : Int) (a : Int × Int) (b : Int × Int) : Fo_i_Quadrance p colour a b = some (i_Quadrance p colour a b) := by
  unfold Fo_i_Quadrance i_Quadrance
  (try simp only [wI_eq])
  repeat' (first | with_reducible rfl | refine chk_opt (by first | with_reducible rfl | exact Bool.true_or _ | (with_reducible exact asked_prB ‹_›) | (with_reducible exact asked_prB0 ‹_›) | exact mk_ok (by (first | (with_reducible assumption) | (with_reducible exact asked_prB ‹_›) | (with_reducible exact asked_prB0 ‹_›))) | exact and_all (by (first | (with_reducible assumption) | (with_reducible exact asked_prB ‹_›) | (with_reducible exact asked_prB0 ‹_›))) (fun _ => rfl) | exact and_all (by (first | (with_reducible assumption) | (with_reducible exact asked_prB ‹_›) | (with_reducible exact asked_prB0 ‹_›))) (fun _ => by (first | (with_reducible assumption) | (with_reducible exact asked_prB ‹_›) | (with_reducible exact asked_prB0 ‹_›))) | exact and3 (by (first | (with_reducible assumption) | (with_reducible exact asked_prB ‹_›) | (with_reducible exact asked_prB0 ‹_›))) (by (first | (with_reducible assumption) | (with_reducible exact asked_prB ‹_›) | (with_reducible exact asked_prB0 ‹_›))) (by (first | (with_reducible assumption) | (with_reducible exact asked_prB ‹_›) | (with_reducible exact asked_prB0 ‹_›))) | exact and_two (by (first | (with_reducible assumption) | (with_reducible exact asked_prB ‹_›) | (with_reducible exact asked_prB0 ‹_›))) rfl | rfl) ?_ | refine ite_opt (fun _ => ?_) (fun _ => ?_) | rfl)
def run_i_Quadrance : List PV → Option (Bool × List TR)
  | [.v (.int .i64 p), .v (.int .i64 colour), .v (.agg ⟨[.int .i64 a0, .int .i64 a1]⟩), .v (.agg ⟨[.int .i64 b0, .int .i64 b1]⟩)] => some (true, enc_i_i (i_Quadrance p colour (a0, a1) (b0, b1)))
  | _ => none
theorem sound_i_Quadrance : Sound Tryz.prog 18 run_i_Quadrance := by
  refine sound_of de_i_i SO_i_Quadrance (by kernel_rfl) Tryz.func18 Tryz.ntmps18 rfl (by kernel_rfl) ?_
  intro W pvs avs rs hargs hrun
  unfold run_i_Quadrance at hrun
  split at hrun
  · simp only [Option.some.injEq, Prod.mk.injEq] at hrun
    obtain ⟨hp, rfl⟩ := hrun
    rename_i p colour a0 a1 b0 b1
    exact ⟨_, _, _, hargs, rfl, (eq_i_Quadrance p colour (a0, a1) (b0, b1)).trans (tot_i_Quadrance p colour (a0, a1) (b0, b1))⟩
  · cases hrun

def S_i_LineThrough_c1 : Sums := ⟨tblS [(72, run_i_arePoints)], tblM []⟩
theorem SO_i_LineThrough_c1 : SumsOK Tryz.prog S_i_LineThrough_c1 := ⟨tblS_ok ⟨⟨Tryz.call72, sound_i_arePoints⟩, True.intro⟩, tblM_ok True.intro⟩
def Fo_i_LineThrough_c1 (c0 : Int) (c1 : Int × Int) (c2 : Int × Int) : Option (Bool) :=
  some (i_arePoints c0 [c1, c2])
theorem eq_i_LineThrough_c1 (c0 : Int) (c1 : Int × Int) (c2 : Int × Int) : execT Tryz.prog S_i_LineThrough_c1 74 9 (fun _ => 1000000) dec_b [.p [.int .i64 c0], .p [.int .i64 c1.1, .int .i64 c1.2], .p [.int .i64 c2.1, .int .i64 c2.2]] = Fo_i_LineThrough_c1 c0 c1 c2 := by
  kernel_rfl
def i_LineThrough_c1 (c0 : Int) (c1 : Int × Int) (c2 : Int × Int) : Bool :=
  (i_arePoints c0 [c1, c2])
theorem tot_i_LineThrough_c1 (c0 : Int) (c1 : Int × Int) (c2 : Int × Int) : Fo_i_LineThrough_c1 c0 c1 c2 = some (i_LineThrough_c1 c0 c1 c2) := by
  unfold Fo_i_LineThrough_c1 i_LineThrough_c1
  (try simp only [wI_eq])
  repeat' (first | with_reducible rfl | refine ite_opt (fun _ => ?_) (fun _ => ?_) | rfl)
def run_i_LineThrough_c1 : List PV → Option (Bool × List TR)
  | [.p [.int .i64 c0], .p [.int .i64 c10, .int .i64 c11], .p [.int .i64 c20, .int .i64 c21]] => some (true, enc_b (i_LineThrough_c1 c0 (c10, c11) (c20, c21)))
  | _ => none
theorem sound_i_LineThrough_c1 : Sound Tryz.prog 74 run_i_LineThrough_c1 := by
  refine sound_of de_b SO_i_LineThrough_c1 (by kernel_rfl) Tryz.func74 Tryz.ntmps74 rfl (by kernel_rfl) ?_
  intro W pvs avs rs hargs hrun
  unfold run_i_LineThrough_c1 at hrun
  split at hrun
  · simp only [Option.some.injEq, Prod.mk.injEq] at hrun
    obtain ⟨hp, rfl⟩ := hrun
    rename_i c0 c10 c11 c20 c21
    exact ⟨_, _, _, hargs, rfl, (eq_i_LineThrough_c1 c0 (c10, c11) (c20, c21)).trans (tot_i_LineThrough_c1 c0 (c10, c11) (c20, c21))⟩
  · cases hrun

def S_i_LineThrough : Sums := ⟨tblS [(61, run_i_asked), (74, run_i_LineThrough_c1), (75, run_i_lineThrough)], tblM []⟩
theorem SO_i_LineThrough : SumsOK Tryz.prog S_i_LineThrough := ⟨tblS_ok ⟨⟨Tryz.call61, sound_i_asked⟩, ⟨Tryz.call74, sound_i_LineThrough_c1⟩, ⟨Tryz.call75, sound_i_lineThrough⟩, True.intro⟩, tblM_ok True.intro⟩
def Fo_i_LineThrough (p : Int) (a : Int × Int) (b : Int × Int) : Option ((Int × Int × Int) × Int) :=
  (if ((true) || !(i_IsField p)) = true then (if ((i_asked p (true) (i_LineThrough_c1 p a b)) != 0) = true then some ((0, 0, 0), (i_asked p (true) (i_LineThrough_c1 p a b))) else (if (a == b) = true then some ((0, 0, 0), 5) else (if (prB p) = true then some ((i_lineThrough p a b), 0) else none))) else none)
theorem eq_i_LineThrough (p : Int) (a : Int × Int) (b : Int × Int) : execT Tryz.prog S_i_LineThrough 19 24 (fun _ => 1000000) dec_a3_i [.v (.int .i64 p), .v (.agg ⟨[.int .i64 a.1, .int .i64 a.2]⟩), .v (.agg ⟨[.int .i64 b.1, .int .i64 b.2]⟩)] = Fo_i_LineThrough p a b := by
  kernel_rfl
def i_LineThrough (p : Int) (a : Int × Int) (b : Int × Int) : (Int × Int × Int) × Int :=
  (if ((i_asked p (true) (i_LineThrough_c1 p a b)) != 0) = true then ((0, 0, 0), (i_asked p (true) (i_LineThrough_c1 p a b))) else (if (a == b) = true then ((0, 0, 0), 5) else ((i_lineThrough p a b), 0)))
theorem tot_i_LineThrough (p : Int) (a : Int × Int) (b : Int × Int) : Fo_i_LineThrough p a b = some (i_LineThrough p a b) := by
  unfold Fo_i_LineThrough i_LineThrough
  (try simp only [wI_eq])
  repeat' (first | with_reducible rfl | refine chk_opt (by first | with_reducible rfl | exact Bool.true_or _ | (with_reducible exact asked_prB ‹_›) | (with_reducible exact asked_prB0 ‹_›) | exact mk_ok (by (first | (with_reducible assumption) | (with_reducible exact asked_prB ‹_›) | (with_reducible exact asked_prB0 ‹_›))) | exact and_all (by (first | (with_reducible assumption) | (with_reducible exact asked_prB ‹_›) | (with_reducible exact asked_prB0 ‹_›))) (fun _ => rfl) | exact and_all (by (first | (with_reducible assumption) | (with_reducible exact asked_prB ‹_›) | (with_reducible exact asked_prB0 ‹_›))) (fun _ => by (first | (with_reducible assumption) | (with_reducible exact asked_prB ‹_›) | (with_reducible exact asked_prB0 ‹_›))) | exact and3 (by (first | (with_reducible assumption) | (with_reducible exact asked_prB ‹_›) | (with_reducible exact asked_prB0 ‹_›))) (by (first | (with_reducible assumption) | (with_reducible exact asked_prB ‹_›) | (with_reducible exact asked_prB0 ‹_›))) (by (first | (with_reducible assumption) | (with_reducible exact asked_prB ‹_›) | (with_reducible exact asked_prB0 ‹_›))) | exact and_two (by (first | (with_reducible assumption) | (with_reducible exact asked_prB ‹_›) | (with_reducible exact asked_prB0 ‹_›))) rfl | rfl) ?_ | refine ite_opt (fun _ => ?_) (fun _ => ?_) | rfl)
def run_i_LineThrough : List PV → Option (Bool × List TR)
  | [.v (.int .i64 p), .v (.agg ⟨[.int .i64 a0, .int .i64 a1]⟩), .v (.agg ⟨[.int .i64 b0, .int .i64 b1]⟩)] => some (true, enc_a3_i (i_LineThrough p (a0, a1) (b0, b1)))
  | _ => none
theorem sound_i_LineThrough : Sound Tryz.prog 19 run_i_LineThrough := by
  refine sound_of de_a3_i SO_i_LineThrough (by kernel_rfl) Tryz.func19 Tryz.ntmps19 rfl (by kernel_rfl) ?_
  intro W pvs avs rs hargs hrun
  unfold run_i_LineThrough at hrun
  split at hrun
  · simp only [Option.some.injEq, Prod.mk.injEq] at hrun
    obtain ⟨hp, rfl⟩ := hrun
    rename_i p a0 a1 b0 b1
    exact ⟨_, _, _, hargs, rfl, (eq_i_LineThrough p (a0, a1) (b0, b1)).trans (tot_i_LineThrough p (a0, a1) (b0, b1))⟩
  · cases hrun

def S_i_MoveLine_c1 : Sums := ⟨tblS [(77, run_i_isLine)], tblM []⟩
theorem SO_i_MoveLine_c1 : SumsOK Tryz.prog S_i_MoveLine_c1 := ⟨tblS_ok ⟨⟨Tryz.call77, sound_i_isLine⟩, True.intro⟩, tblM_ok True.intro⟩
def Fo_i_MoveLine_c1 (c0 : Int) (c1 : Int × Int × Int) : Option (Bool) :=
  some (i_isLine c0 c1)
theorem eq_i_MoveLine_c1 (c0 : Int) (c1 : Int × Int × Int) : execT Tryz.prog S_i_MoveLine_c1 76 6 (fun _ => 1000000) dec_b [.p [.int .i64 c0], .p [.int .i64 c1.1, .int .i64 c1.2.1, .int .i64 c1.2.2]] = Fo_i_MoveLine_c1 c0 c1 := by
  kernel_rfl
def i_MoveLine_c1 (c0 : Int) (c1 : Int × Int × Int) : Bool :=
  (i_isLine c0 c1)
theorem tot_i_MoveLine_c1 (c0 : Int) (c1 : Int × Int × Int) : Fo_i_MoveLine_c1 c0 c1 = some (i_MoveLine_c1 c0 c1) := by
  unfold Fo_i_MoveLine_c1 i_MoveLine_c1
  (try simp only [wI_eq])
  repeat' (first | with_reducible rfl | refine ite_opt (fun _ => ?_) (fun _ => ?_) | rfl)
def run_i_MoveLine_c1 : List PV → Option (Bool × List TR)
  | [.p [.int .i64 c0], .p [.int .i64 c10, .int .i64 c11, .int .i64 c12]] => some (true, enc_b (i_MoveLine_c1 c0 (c10, c11, c12)))
  | _ => none
theorem sound_i_MoveLine_c1 : Sound Tryz.prog 76 run_i_MoveLine_c1 := by
  refine sound_of de_b SO_i_MoveLine_c1 (by kernel_rfl) Tryz.func76 Tryz.ntmps76 rfl (by kernel_rfl) ?_
  intro W pvs avs rs hargs hrun
  unfold run_i_MoveLine_c1 at hrun
  split at hrun
  · simp only [Option.some.injEq, Prod.mk.injEq] at hrun
    obtain ⟨hp, rfl⟩ := hrun
    rename_i c0 c10 c11 c12
    exact ⟨_, _, _, hargs, rfl, (eq_i_MoveLine_c1 c0 (c10, c11, c12)).trans (tot_i_MoveLine_c1 c0 (c10, c11, c12))⟩
  · cases hrun

def S_i_onLine : Sums := ⟨tblS [(57, run_i_rest)], tblM []⟩
theorem SO_i_onLine : SumsOK Tryz.prog S_i_onLine := ⟨tblS_ok ⟨⟨Tryz.call57, sound_i_rest⟩, True.intro⟩, tblM_ok True.intro⟩
def Fo_i_onLine (p : Int) (l : Int × Int × Int) : Option (Int × Int) :=
  (if (l.1 == 1) = true then (if (prB p) = true then some ((i_rest p (wI (0 - l.2.2))), 0) else none) else (if (prB p) = true then some (0, (i_rest p (wI (0 - l.2.2)))) else none))
theorem eq_i_onLine (p : Int) (l : Int × Int × Int) : execT Tryz.prog S_i_onLine 79 20 (fun _ => 1000000) dec_a2 [.v (.int .i64 p), .v (.agg ⟨[.int .i64 l.1, .int .i64 l.2.1, .int .i64 l.2.2]⟩)] = Fo_i_onLine p l := by
  kernel_rfl
def i_onLine (p : Int) (l : Int × Int × Int) : Int × Int :=
  (if (l.1 == 1) = true then ((i_rest p (wrap64 (0 - l.2.2))), 0) else (0, (i_rest p (wrap64 (0 - l.2.2)))))
theorem tot_i_onLine (p : Int) (l : Int × Int × Int) (hp : (prB p) = true) : Fo_i_onLine p l = some (i_onLine p l) := by
  try have h0 := prB_ne hp
  unfold Fo_i_onLine i_onLine
  (try simp only [wI_eq])
  repeat' (first | with_reducible rfl | with_reducible refine chk_opt hp ?_ | with_reducible refine chk_opt h0 ?_ | refine chk_opt (and_all hp fun _ => hp) ?_ | refine chk_opt (and_all hp fun _ => rfl) ?_ | refine ite_opt (fun _ => ?_) (fun _ => ?_) | rfl)
def run_i_onLine : List PV → Option (Bool × List TR)
  | [.v (.int .i64 p), .v (.agg ⟨[.int .i64 l0, .int .i64 l1, .int .i64 l2]⟩)] => some (prB p, enc_a2 (i_onLine p (l0, l1, l2)))
  | _ => none
theorem sound_i_onLine : Sound Tryz.prog 79 run_i_onLine := by
  refine sound_of de_a2 SO_i_onLine (by kernel_rfl) Tryz.func79 Tryz.ntmps79 rfl (by kernel_rfl) ?_
  intro W pvs avs rs hargs hrun
  unfold run_i_onLine at hrun
  split at hrun
  · simp only [Option.some.injEq, Prod.mk.injEq] at hrun
    obtain ⟨hp, rfl⟩ := hrun
    rename_i p l0 l1 l2
    exact ⟨_, _, _, hargs, rfl, (eq_i_onLine p (l0, l1, l2)).trans (tot_i_onLine p (l0, l1, l2) hp)⟩
  · cases hrun

def S_i_MoveLine : Sums := ⟨tblS [(47, run_i_moveAsked), (76, run_i_MoveLine_c1), (79, run_i_onLine), (70, run_i_moved), (80, run_i_way), (59, run_i_turned), (78, run_i_through)], tblM []⟩
theorem SO_i_MoveLine : SumsOK Tryz.prog S_i_MoveLine := ⟨tblS_ok ⟨⟨Tryz.call47, sound_i_moveAsked⟩, ⟨Tryz.call76, sound_i_MoveLine_c1⟩, ⟨Tryz.call79, sound_i_onLine⟩, ⟨Tryz.call70, sound_i_moved⟩, ⟨Tryz.call80, sound_i_way⟩, ⟨Tryz.call59, sound_i_turned⟩, ⟨Tryz.call78, sound_i_through⟩, True.intro⟩, tblM_ok True.intro⟩
def Fo_i_MoveLine (p : Int) (colour : Int) (m : Int × Int × Int × Int × Int × Int) (l : Int × Int × Int) : Option ((Int × Int × Int) × Int) :=
  (if ((i_moveAsked p colour m (true) (i_MoveLine_c1 p l)) != 0) = true then some ((0, 0, 0), (i_moveAsked p colour m (true) (i_MoveLine_c1 p l))) else (if (prB p) = true then (if (prB p) = true then (if (prB p) = true then (if (prB p) = true then (if (prB p) = true then some ((i_through p (i_moved p m (i_onLine p l)) (i_turned p (m.1, m.2.1, m.2.2.1, m.2.2.2.1) (i_way p l))), 0) else none) else none) else none) else none) else none))
theorem eq_i_MoveLine (p : Int) (colour : Int) (m : Int × Int × Int × Int × Int × Int) (l : Int × Int × Int) : execT Tryz.prog S_i_MoveLine 20 35 (fun _ => 1000000) dec_a3_i [.v (.int .i64 p), .v (.int .i64 colour), .v (.agg ⟨[.int .i64 m.1, .int .i64 m.2.1, .int .i64 m.2.2.1, .int .i64 m.2.2.2.1, .int .i64 m.2.2.2.2.1, .int .i64 m.2.2.2.2.2]⟩), .v (.agg ⟨[.int .i64 l.1, .int .i64 l.2.1, .int .i64 l.2.2]⟩)] = Fo_i_MoveLine p colour m l := by
  kernel_rfl
def i_MoveLine (p : Int) (colour : Int) (m : Int × Int × Int × Int × Int × Int) (l : Int × Int × Int) : (Int × Int × Int) × Int :=
  (if ((i_moveAsked p colour m (true) (i_MoveLine_c1 p l)) != 0) = true then ((0, 0, 0), (i_moveAsked p colour m (true) (i_MoveLine_c1 p l))) else ((i_through p (i_moved p m (i_onLine p l)) (i_turned p (m.1, m.2.1, m.2.2.1, m.2.2.2.1) (i_way p l))), 0))
theorem tot_i_MoveLine (p : Int) (colour : Int) (m : Int × Int × Int × Int × Int × Int) (l : Int × Int × Int) : Fo_i_MoveLine p colour m l = some (i_MoveLine p colour m l) := by
  unfold Fo_i_MoveLine i_MoveLine
  (try simp only [wI_eq])
  repeat' (first | with_reducible rfl | refine chk_opt (by first | with_reducible rfl | exact Bool.true_or _ | (with_reducible exact moveAsked_prB ‹_›) | (with_reducible exact moveAsked_prB0 ‹_›) | exact mk_ok (by (first | (with_reducible assumption) | (with_reducible exact moveAsked_prB ‹_›) | (with_reducible exact moveAsked_prB0 ‹_›))) | exact and_all (by (first | (with_reducible assumption) | (with_reducible exact moveAsked_prB ‹_›) | (with_reducible exact moveAsked_prB0 ‹_›))) (fun _ => rfl) | exact and_all (by (first | (with_reducible assumption) | (with_reducible exact moveAsked_prB ‹_›) | (with_reducible exact moveAsked_prB0 ‹_›))) (fun _ => by (first | (with_reducible assumption) | (with_reducible exact moveAsked_prB ‹_›) | (with_reducible exact moveAsked_prB0 ‹_›))) | exact and3 (by (first | (with_reducible assumption) | (with_reducible exact moveAsked_prB ‹_›) | (with_reducible exact moveAsked_prB0 ‹_›))) (by (first | (with_reducible assumption) | (with_reducible exact moveAsked_prB ‹_›) | (with_reducible exact moveAsked_prB0 ‹_›))) (by (first | (with_reducible assumption) | (with_reducible exact moveAsked_prB ‹_›) | (with_reducible exact moveAsked_prB0 ‹_›))) | exact and_two (by (first | (with_reducible assumption) | (with_reducible exact moveAsked_prB ‹_›) | (with_reducible exact moveAsked_prB0 ‹_›))) rfl | rfl) ?_ | refine ite_opt (fun _ => ?_) (fun _ => ?_) | rfl)
def run_i_MoveLine : List PV → Option (Bool × List TR)
  | [.v (.int .i64 p), .v (.int .i64 colour), .v (.agg ⟨[.int .i64 m0, .int .i64 m1, .int .i64 m2, .int .i64 m3, .int .i64 m4, .int .i64 m5]⟩), .v (.agg ⟨[.int .i64 l0, .int .i64 l1, .int .i64 l2]⟩)] => some (true, enc_a3_i (i_MoveLine p colour (m0, m1, m2, m3, m4, m5) (l0, l1, l2)))
  | _ => none
theorem sound_i_MoveLine : Sound Tryz.prog 20 run_i_MoveLine := by
  refine sound_of de_a3_i SO_i_MoveLine (by kernel_rfl) Tryz.func20 Tryz.ntmps20 rfl (by kernel_rfl) ?_
  intro W pvs avs rs hargs hrun
  unfold run_i_MoveLine at hrun
  split at hrun
  · simp only [Option.some.injEq, Prod.mk.injEq] at hrun
    obtain ⟨hp, rfl⟩ := hrun
    rename_i p colour m0 m1 m2 m3 m4 m5 l0 l1 l2
    exact ⟨_, _, _, hargs, rfl, (eq_i_MoveLine p colour (m0, m1, m2, m3, m4, m5) (l0, l1, l2)).trans (tot_i_MoveLine p colour (m0, m1, m2, m3, m4, m5) (l0, l1, l2))⟩
  · cases hrun

def S_s_l07Two : Sums := ⟨tblS [(134, run_s_l01Mod), (142, run_s_l02Direction), (141, run_s_l01Plus)], tblM []⟩
theorem SO_s_l07Two : SumsOK Tryz.prog S_s_l07Two := ⟨tblS_ok ⟨⟨Tryz.call134, sound_s_l01Mod⟩, ⟨Tryz.call142, sound_s_l02Direction⟩, ⟨Tryz.call141, sound_s_l01Plus⟩, True.intro⟩, tblM_ok True.intro⟩
def Fo_s_l07Two (p : Int) (l : Int × Int × Int) : Option ((Int × Int) × Int × Int) :=
  (if (l.1 == 1) = true then (if (prB p) = true then (if (prB p) = true then (if (prB p) = true then some (((s_l01Mod (wI (0 - l.2.2)) p), 0), (s_l01Plus p ((s_l01Mod (wI (0 - l.2.2)) p), 0) (s_l02Direction p l))) else none) else none) else none) else (if (prB p) = true then (if (prB p) = true then (if (prB p) = true then some ((0, (s_l01Mod (wI (0 - l.2.2)) p)), (s_l01Plus p (0, (s_l01Mod (wI (0 - l.2.2)) p)) (s_l02Direction p l))) else none) else none) else none))
theorem eq_s_l07Two (p : Int) (l : Int × Int × Int) : execT Tryz.prog S_s_l07Two 95 30 (fun _ => 1000000) dec_a2_a2 [.v (.int .i64 p), .v (.agg ⟨[.int .i64 l.1, .int .i64 l.2.1, .int .i64 l.2.2]⟩)] = Fo_s_l07Two p l := by
  kernel_rfl
def s_l07Two (p : Int) (l : Int × Int × Int) : (Int × Int) × Int × Int :=
  (if (l.1 == 1) = true then (((s_l01Mod (wrap64 (0 - l.2.2)) p), 0), (s_l01Plus p ((s_l01Mod (wrap64 (0 - l.2.2)) p), 0) (s_l02Direction p l))) else ((0, (s_l01Mod (wrap64 (0 - l.2.2)) p)), (s_l01Plus p (0, (s_l01Mod (wrap64 (0 - l.2.2)) p)) (s_l02Direction p l))))
theorem tot_s_l07Two (p : Int) (l : Int × Int × Int) (hp : (prB p) = true) : Fo_s_l07Two p l = some (s_l07Two p l) := by
  try have h0 := prB_ne hp
  unfold Fo_s_l07Two s_l07Two
  (try simp only [wI_eq])
  repeat' (first | with_reducible rfl | with_reducible refine chk_opt hp ?_ | with_reducible refine chk_opt h0 ?_ | refine chk_opt (and_all hp fun _ => hp) ?_ | refine chk_opt (and_all hp fun _ => rfl) ?_ | refine ite_opt (fun _ => ?_) (fun _ => ?_) | rfl)
def run_s_l07Two : List PV → Option (Bool × List TR)
  | [.v (.int .i64 p), .v (.agg ⟨[.int .i64 l0, .int .i64 l1, .int .i64 l2]⟩)] => some (prB p, enc_a2_a2 (s_l07Two p (l0, l1, l2)))
  | _ => none
theorem sound_s_l07Two : Sound Tryz.prog 95 run_s_l07Two := by
  refine sound_of de_a2_a2 SO_s_l07Two (by kernel_rfl) Tryz.func95 Tryz.ntmps95 rfl (by kernel_rfl) ?_
  intro W pvs avs rs hargs hrun
  unfold run_s_l07Two at hrun
  split at hrun
  · simp only [Option.some.injEq, Prod.mk.injEq] at hrun
    obtain ⟨hp, rfl⟩ := hrun
    rename_i p l0 l1 l2
    exact ⟨_, _, _, hargs, rfl, (eq_s_l07Two p (l0, l1, l2)).trans (tot_s_l07Two p (l0, l1, l2) hp)⟩
  · cases hrun

def S_s_MoveLine : Sums := ⟨tblS [(91, run_s_l01Field), (92, run_s_l01Line), (93, run_s_l07Is), (94, run_s_l01In), (50, run_s_l07Code), (95, run_s_l07Two), (88, run_s_l07Move), (96, run_s_l01Through)], tblM []⟩
theorem SO_s_MoveLine : SumsOK Tryz.prog S_s_MoveLine := ⟨tblS_ok ⟨⟨Tryz.call91, sound_s_l01Field⟩, ⟨Tryz.call92, sound_s_l01Line⟩, ⟨Tryz.call93, sound_s_l07Is⟩, ⟨Tryz.call94, sound_s_l01In⟩, ⟨Tryz.call50, sound_s_l07Code⟩, ⟨Tryz.call95, sound_s_l07Two⟩, ⟨Tryz.call88, sound_s_l07Move⟩, ⟨Tryz.call96, sound_s_l01Through⟩, True.intro⟩, tblM_ok True.intro⟩
def Fo_s_MoveLine (p : Int) (colour : Int) (m : Int × Int × Int × Int × Int × Int) (l : Int × Int × Int) : Option ((Int × Int × Int) × Int) :=
  (if (s_l01Field p) = true then (if (!(s_l01Line p l)) = true then some ((0, 0, 0), 2) else (if (!(s_l07Is p m)) = true then some ((0, 0, 0), 2) else (if (!(s_l01In colour 0 2)) = true then some ((0, 0, 0), 2) else (if ((s_l07Code p colour m) != 0) = true then some ((0, 0, 0), (s_l07Code p colour m)) else (if (prB p) = true then (if (prB p) = true then (if (prB p) = true then (if (prB p) = true then some ((s_l01Through p (s_l07Move p m ((s_l07Two p l).1)) (s_l07Move p m ((s_l07Two p l).2))), 0) else none) else none) else none) else none))))) else (if ((s_l07Code p colour m) != 0) = true then some ((0, 0, 0), (s_l07Code p colour m)) else (if (prB p) = true then (if (prB p) = true then (if (prB p) = true then (if (prB p) = true then some ((s_l01Through p (s_l07Move p m ((s_l07Two p l).1)) (s_l07Move p m ((s_l07Two p l).2))), 0) else none) else none) else none) else none)))
theorem eq_s_MoveLine (p : Int) (colour : Int) (m : Int × Int × Int × Int × Int × Int) (l : Int × Int × Int) : execT Tryz.prog S_s_MoveLine 24 57 (fun _ => 1000000) dec_a3_i [.v (.int .i64 p), .v (.int .i64 colour), .v (.agg ⟨[.int .i64 m.1, .int .i64 m.2.1, .int .i64 m.2.2.1, .int .i64 m.2.2.2.1, .int .i64 m.2.2.2.2.1, .int .i64 m.2.2.2.2.2]⟩), .v (.agg ⟨[.int .i64 l.1, .int .i64 l.2.1, .int .i64 l.2.2]⟩)] = Fo_s_MoveLine p colour m l := by
  kernel_rfl
def s_MoveLine (p : Int) (colour : Int) (m : Int × Int × Int × Int × Int × Int) (l : Int × Int × Int) : (Int × Int × Int) × Int :=
  (if (s_l01Field p) = true then (if (!(s_l01Line p l)) = true then ((0, 0, 0), 2) else (if (!(s_l07Is p m)) = true then ((0, 0, 0), 2) else (if (!(s_l01In colour 0 2)) = true then ((0, 0, 0), 2) else (if ((s_l07Code p colour m) != 0) = true then ((0, 0, 0), (s_l07Code p colour m)) else ((s_l01Through p (s_l07Move p m ((s_l07Two p l).1)) (s_l07Move p m ((s_l07Two p l).2))), 0))))) else (if ((s_l07Code p colour m) != 0) = true then ((0, 0, 0), (s_l07Code p colour m)) else ((s_l01Through p (s_l07Move p m ((s_l07Two p l).1)) (s_l07Move p m ((s_l07Two p l).2))), 0)))
theorem tot_s_MoveLine (p : Int) (colour : Int) (m : Int × Int × Int × Int × Int × Int) (l : Int × Int × Int) : Fo_s_MoveLine p colour m l = some (s_MoveLine p colour m l) := by
  unfold Fo_s_MoveLine s_MoveLine
  (try simp only [wI_eq])
  repeat' (first | with_reducible rfl | refine chk_opt (by first | with_reducible rfl | exact Bool.true_or _ | (with_reducible exact sfield_prB0 ‹_›) | (with_reducible exact l07Code_prB ‹_›) | (with_reducible exact l07Code_prB0 ‹_›) | exact mk_ok (by (first | (with_reducible assumption) | (with_reducible exact sfield_prB0 ‹_›) | (with_reducible exact l07Code_prB ‹_›) | (with_reducible exact l07Code_prB0 ‹_›))) | exact and_all (by (first | (with_reducible assumption) | (with_reducible exact sfield_prB0 ‹_›) | (with_reducible exact l07Code_prB ‹_›) | (with_reducible exact l07Code_prB0 ‹_›))) (fun _ => rfl) | exact and_all (by (first | (with_reducible assumption) | (with_reducible exact sfield_prB0 ‹_›) | (with_reducible exact l07Code_prB ‹_›) | (with_reducible exact l07Code_prB0 ‹_›))) (fun _ => by (first | (with_reducible assumption) | (with_reducible exact sfield_prB0 ‹_›) | (with_reducible exact l07Code_prB ‹_›) | (with_reducible exact l07Code_prB0 ‹_›))) | exact and3 (by (first | (with_reducible assumption) | (with_reducible exact sfield_prB0 ‹_›) | (with_reducible exact l07Code_prB ‹_›) | (with_reducible exact l07Code_prB0 ‹_›))) (by (first | (with_reducible assumption) | (with_reducible exact sfield_prB0 ‹_›) | (with_reducible exact l07Code_prB ‹_›) | (with_reducible exact l07Code_prB0 ‹_›))) (by (first | (with_reducible assumption) | (with_reducible exact sfield_prB0 ‹_›) | (with_reducible exact l07Code_prB ‹_›) | (with_reducible exact l07Code_prB0 ‹_›))) | exact and_two (by (first | (with_reducible assumption) | (with_reducible exact sfield_prB0 ‹_›) | (with_reducible exact l07Code_prB ‹_›) | (with_reducible exact l07Code_prB0 ‹_›))) rfl | rfl) ?_ | refine ite_opt (fun _ => ?_) (fun _ => ?_) | rfl)
def run_s_MoveLine : List PV → Option (Bool × List TR)
  | [.v (.int .i64 p), .v (.int .i64 colour), .v (.agg ⟨[.int .i64 m0, .int .i64 m1, .int .i64 m2, .int .i64 m3, .int .i64 m4, .int .i64 m5]⟩), .v (.agg ⟨[.int .i64 l0, .int .i64 l1, .int .i64 l2]⟩)] => some (true, enc_a3_i (s_MoveLine p colour (m0, m1, m2, m3, m4, m5) (l0, l1, l2)))
  | _ => none
theorem sound_s_MoveLine : Sound Tryz.prog 24 run_s_MoveLine := by
  refine sound_of de_a3_i SO_s_MoveLine (by kernel_rfl) Tryz.func24 Tryz.ntmps24 rfl (by kernel_rfl) ?_
  intro W pvs avs rs hargs hrun
  unfold run_s_MoveLine at hrun
  split at hrun
  · simp only [Option.some.injEq, Prod.mk.injEq] at hrun
    obtain ⟨hp, rfl⟩ := hrun
    rename_i p colour m0 m1 m2 m3 m4 m5 l0 l1 l2
    exact ⟨_, _, _, hargs, rfl, (eq_s_MoveLine p colour (m0, m1, m2, m3, m4, m5) (l0, l1, l2)).trans (tot_s_MoveLine p colour (m0, m1, m2, m3, m4, m5) (l0, l1, l2))⟩
  · cases hrun

def S_i_ShiftBy_c1 : Sums := ⟨tblS [(69, run_i_isPoint)], tblM []⟩
theorem SO_i_ShiftBy_c1 : SumsOK Tryz.prog S_i_ShiftBy_c1 := ⟨tblS_ok ⟨⟨Tryz.call69, sound_i_isPoint⟩, True.intro⟩, tblM_ok True.intro⟩
def Fo_i_ShiftBy_c1 (c0 : Int) (c1 : Int × Int) : Option (Bool) :=
  some (i_isPoint c0 c1)
theorem eq_i_ShiftBy_c1 (c0 : Int) (c1 : Int × Int) : execT Tryz.prog S_i_ShiftBy_c1 100 6 (fun _ => 1000000) dec_b [.p [.int .i64 c0], .p [.int .i64 c1.1, .int .i64 c1.2]] = Fo_i_ShiftBy_c1 c0 c1 := by
  kernel_rfl
def i_ShiftBy_c1 (c0 : Int) (c1 : Int × Int) : Bool :=
  (i_isPoint c0 c1)
theorem tot_i_ShiftBy_c1 (c0 : Int) (c1 : Int × Int) : Fo_i_ShiftBy_c1 c0 c1 = some (i_ShiftBy_c1 c0 c1) := by
  unfold Fo_i_ShiftBy_c1 i_ShiftBy_c1
  (try simp only [wI_eq])
  repeat' (first | with_reducible rfl | refine ite_opt (fun _ => ?_) (fun _ => ?_) | rfl)
def run_i_ShiftBy_c1 : List PV → Option (Bool × List TR)
  | [.p [.int .i64 c0], .p [.int .i64 c10, .int .i64 c11]] => some (true, enc_b (i_ShiftBy_c1 c0 (c10, c11)))
  | _ => none
theorem sound_i_ShiftBy_c1 : Sound Tryz.prog 100 run_i_ShiftBy_c1 := by
  refine sound_of de_b SO_i_ShiftBy_c1 (by kernel_rfl) Tryz.func100 Tryz.ntmps100 rfl (by kernel_rfl) ?_
  intro W pvs avs rs hargs hrun
  unfold run_i_ShiftBy_c1 at hrun
  split at hrun
  · simp only [Option.some.injEq, Prod.mk.injEq] at hrun
    obtain ⟨hp, rfl⟩ := hrun
    rename_i c0 c10 c11
    exact ⟨_, _, _, hargs, rfl, (eq_i_ShiftBy_c1 c0 (c10, c11)).trans (tot_i_ShiftBy_c1 c0 (c10, c11))⟩
  · cases hrun

def S_i_ShiftBy : Sums := ⟨tblS [(61, run_i_asked), (100, run_i_ShiftBy_c1)], tblM []⟩
theorem SO_i_ShiftBy : SumsOK Tryz.prog S_i_ShiftBy := ⟨tblS_ok ⟨⟨Tryz.call61, sound_i_asked⟩, ⟨Tryz.call100, sound_i_ShiftBy_c1⟩, True.intro⟩, tblM_ok True.intro⟩
def Fo_i_ShiftBy (p : Int) (a : Int × Int) : Option ((Int × Int × Int × Int × Int × Int) × Int) :=
  (if ((true) || !(i_IsField p)) = true then (if ((i_asked p (true) (i_ShiftBy_c1 p a)) != 0) = true then some ((0, 0, 0, 0, 0, 0), (i_asked p (true) (i_ShiftBy_c1 p a))) else some ((1, 0, 0, 1, a.1, a.2), 0)) else none)
theorem eq_i_ShiftBy (p : Int) (a : Int × Int) : execT Tryz.prog S_i_ShiftBy 30 17 (fun _ => 1000000) dec_a6_i [.v (.int .i64 p), .v (.agg ⟨[.int .i64 a.1, .int .i64 a.2]⟩)] = Fo_i_ShiftBy p a := by
  kernel_rfl
def i_ShiftBy (p : Int) (a : Int × Int) : (Int × Int × Int × Int × Int × Int) × Int :=
  (if ((i_asked p (true) (i_ShiftBy_c1 p a)) != 0) = true then ((0, 0, 0, 0, 0, 0), (i_asked p (true) (i_ShiftBy_c1 p a))) else ((1, 0, 0, 1, a.1, a.2), 0))
theorem tot_i_ShiftBy (p : Int) (a : Int × Int) : Fo_i_ShiftBy p a = some (i_ShiftBy p a) := by
  unfold Fo_i_ShiftBy i_ShiftBy
  (try simp only [wI_eq])
  repeat' (first | with_reducible rfl | refine chk_opt (by first | with_reducible rfl | exact Bool.true_or _ | (with_reducible exact asked_prB ‹_›) | (with_reducible exact asked_prB0 ‹_›) | exact mk_ok (by (first | (with_reducible assumption) | (with_reducible exact asked_prB ‹_›) | (with_reducible exact asked_prB0 ‹_›))) | exact and_all (by (first | (with_reducible assumption) | (with_reducible exact asked_prB ‹_›) | (with_reducible exact asked_prB0 ‹_›))) (fun _ => rfl) | exact and_all (by (first | (with_reducible assumption) | (with_reducible exact asked_prB ‹_›) | (with_reducible exact asked_prB0 ‹_›))) (fun _ => by (first | (with_reducible assumption) | (with_reducible exact asked_prB ‹_›) | (with_reducible exact asked_prB0 ‹_›))) | exact and3 (by (first | (with_reducible assumption) | (with_reducible exact asked_prB ‹_›) | (with_reducible exact asked_prB0 ‹_›))) (by (first | (with_reducible assumption) | (with_reducible exact asked_prB ‹_›) | (with_reducible exact asked_prB0 ‹_›))) (by (first | (with_reducible assumption) | (with_reducible exact asked_prB ‹_›) | (with_reducible exact asked_prB0 ‹_›))) | exact and_two (by (first | (with_reducible assumption) | (with_reducible exact asked_prB ‹_›) | (with_reducible exact asked_prB0 ‹_›))) rfl | rfl) ?_ | refine ite_opt (fun _ => ?_) (fun _ => ?_) | rfl)
def run_i_ShiftBy : List PV → Option (Bool × List TR)
  | [.v (.int .i64 p), .v (.agg ⟨[.int .i64 a0, .int .i64 a1]⟩)] => some (true, enc_a6_i (i_ShiftBy p (a0, a1)))
  | _ => none
theorem sound_i_ShiftBy : Sound Tryz.prog 30 run_i_ShiftBy := by
  refine sound_of de_a6_i SO_i_ShiftBy (by kernel_rfl) Tryz.func30 Tryz.ntmps30 rfl (by kernel_rfl) ?_
  intro W pvs avs rs hargs hrun
  unfold run_i_ShiftBy at hrun
  split at hrun
  · simp only [Option.some.injEq, Prod.mk.injEq] at hrun
    obtain ⟨hp, rfl⟩ := hrun
    rename_i p a0 a1
    exact ⟨_, _, _, hargs, rfl, (eq_i_ShiftBy p (a0, a1)).trans (tot_i_ShiftBy p (a0, a1))⟩
  · cases hrun

def S_s_ShiftBy : Sums := ⟨tblS [(87, run_s_l01Code)], tblM []⟩
theorem SO_s_ShiftBy : SumsOK Tryz.prog S_s_ShiftBy := ⟨tblS_ok ⟨⟨Tryz.call87, sound_s_l01Code⟩, True.intro⟩, tblM_ok True.intro⟩
def Fo_s_ShiftBy (p : Int) (a : Int × Int) : Option ((Int × Int × Int × Int × Int × Int) × Int) :=
  (if ((s_l01Code p [a]) != 0) = true then some ((0, 0, 0, 0, 0, 0), (s_l01Code p [a])) else some ((1, 0, 0, 1, a.1, a.2), 0))
theorem eq_s_ShiftBy (p : Int) (a : Int × Int) : execT Tryz.prog S_s_ShiftBy 31 18 (fun _ => 1000000) dec_a6_i [.v (.int .i64 p), .v (.agg ⟨[.int .i64 a.1, .int .i64 a.2]⟩)] = Fo_s_ShiftBy p a := by
  kernel_rfl
def s_ShiftBy (p : Int) (a : Int × Int) : (Int × Int × Int × Int × Int × Int) × Int :=
  (if ((s_l01Code p [a]) != 0) = true then ((0, 0, 0, 0, 0, 0), (s_l01Code p [a])) else ((1, 0, 0, 1, a.1, a.2), 0))
theorem tot_s_ShiftBy (p : Int) (a : Int × Int) : Fo_s_ShiftBy p a = some (s_ShiftBy p a) := by
  unfold Fo_s_ShiftBy s_ShiftBy
  (try simp only [wI_eq])
  repeat' (first | with_reducible rfl | refine ite_opt (fun _ => ?_) (fun _ => ?_) | rfl)
def run_s_ShiftBy : List PV → Option (Bool × List TR)
  | [.v (.int .i64 p), .v (.agg ⟨[.int .i64 a0, .int .i64 a1]⟩)] => some (true, enc_a6_i (s_ShiftBy p (a0, a1)))
  | _ => none
theorem sound_s_ShiftBy : Sound Tryz.prog 31 run_s_ShiftBy := by
  refine sound_of de_a6_i SO_s_ShiftBy (by kernel_rfl) Tryz.func31 Tryz.ntmps31 rfl (by kernel_rfl) ?_
  intro W pvs avs rs hargs hrun
  unfold run_s_ShiftBy at hrun
  split at hrun
  · simp only [Option.some.injEq, Prod.mk.injEq] at hrun
    obtain ⟨hp, rfl⟩ := hrun
    rename_i p a0 a1
    exact ⟨_, _, _, hargs, rfl, (eq_s_ShiftBy p (a0, a1)).trans (tot_s_ShiftBy p (a0, a1))⟩
  · cases hrun


end

end Go.Proofs.YtoblkbpejfojjaaGreatDoor
