import Derived.Test.YtfclaacaphpoaaaFa
import Derived.Test.YtfclaacaphpoaaaProg
set_option linter.unusedSimpArgs false
set_option linter.unusedVariables false
namespace Go.Proofs.Ytfclaacaphpoaaa
open Go.RowKit
noncomputable section
def S_i_less : Sums := ⟨tblS [(85, run_i_rest)], tblM []⟩
theorem SO_i_less : SumsOK Try.prog S_i_less := ⟨tblS_ok ⟨⟨Try.call85, sound_i_rest⟩, True.intro⟩, tblM_ok True.intro⟩
def Fo_i_less (p : Int) (a : Int × Int) (b : Int × Int) : Option (Int × Int) :=
  (if (prB p) = true then (if (prB p) = true then some ((i_rest p (wI (a.1 - b.1))), (i_rest p (wI (a.2 - b.2)))) else none) else none)
theorem eq_i_less (p : Int) (a : Int × Int) (b : Int × Int) : execT Try.prog S_i_less 127 22 (fun _ => 1000000) dec_a2 [.v (.int .i64 p), .v (.agg ⟨[.int .i64 a.1, .int .i64 a.2]⟩), .v (.agg ⟨[.int .i64 b.1, .int .i64 b.2]⟩)] = Fo_i_less p a b := by
  kernel_rfl
def i_less (p : Int) (a : Int × Int) (b : Int × Int) : Int × Int :=
  ((i_rest p (wrap64 (a.1 - b.1))), (i_rest p (wrap64 (a.2 - b.2))))
theorem tot_i_less (p : Int) (a : Int × Int) (b : Int × Int) (hp : (prB p) = true) : Fo_i_less p a b = some (i_less p a b) := by
  try have h0 := prB_ne hp
  unfold Fo_i_less i_less
  (try simp only [wI_eq])
  repeat' (first | with_reducible rfl | with_reducible refine chk_opt hp ?_ | with_reducible refine chk_opt h0 ?_ | refine chk_opt (and_all hp fun _ => hp) ?_ | refine chk_opt (and_all hp fun _ => rfl) ?_ | refine ite_opt (fun _ => ?_) (fun _ => ?_) | rfl)
def run_i_less : List PV → Option (Bool × List TR)
  | [.v (.int .i64 p), .v (.agg ⟨[.int .i64 a0, .int .i64 a1]⟩), .v (.agg ⟨[.int .i64 b0, .int .i64 b1]⟩)] => some (prB p, enc_a2 (i_less p (a0, a1) (b0, b1)))
  | _ => none
theorem sound_i_less : Sound Try.prog 127 run_i_less := by
  refine sound_of de_a2 SO_i_less (by kernel_rfl) Try.func127 Try.ntmps127 rfl (by kernel_rfl) ?_
  intro W pvs avs rs hargs hrun
  unfold run_i_less at hrun
  split at hrun
  · simp only [Option.some.injEq, Prod.mk.injEq] at hrun
    obtain ⟨hp, rfl⟩ := hrun
    rename_i p a0 a1 b0 b1
    exact ⟨_, _, _, hargs, rfl, (eq_i_less p (a0, a1) (b0, b1)).trans (tot_i_less p (a0, a1) (b0, b1) hp)⟩
  · cases hrun

def S_i_product : Sums := ⟨tblS [(85, run_i_rest)], tblM []⟩
theorem SO_i_product : SumsOK Try.prog S_i_product := ⟨tblS_ok ⟨⟨Try.call85, sound_i_rest⟩, True.intro⟩, tblM_ok True.intro⟩
def Fo_i_product (p : Int) (colour : Int) (a : Int × Int) (b : Int × Int) : Option (Int) :=
  (if (colour == 0) = true then (if (prB p) = true then some (i_rest p (wI ((wI (a.1 * b.1)) + (wI (a.2 * b.2))))) else none) else (if (colour == 1) = true then (if (prB p) = true then some (i_rest p (wI ((wI (a.1 * b.1)) - (wI (a.2 * b.2))))) else none) else (if (prB p) = true then some (i_rest p (wI ((wI (a.1 * b.2)) + (wI (a.2 * b.1))))) else none)))
theorem eq_i_product (p : Int) (colour : Int) (a : Int × Int) (b : Int × Int) : execT Try.prog S_i_product 128 53 (fun _ => 1000000) dec_i [.v (.int .i64 p), .v (.int .i64 colour), .v (.agg ⟨[.int .i64 a.1, .int .i64 a.2]⟩), .v (.agg ⟨[.int .i64 b.1, .int .i64 b.2]⟩)] = Fo_i_product p colour a b := by
  kernel_rfl
def i_product (p : Int) (colour : Int) (a : Int × Int) (b : Int × Int) : Int :=
  (if (colour == 0) = true then (i_rest p (wrap64 ((wrap64 (a.1 * b.1)) + (wrap64 (a.2 * b.2))))) else (if (colour == 1) = true then (i_rest p (wrap64 ((wrap64 (a.1 * b.1)) - (wrap64 (a.2 * b.2))))) else (i_rest p (wrap64 ((wrap64 (a.1 * b.2)) + (wrap64 (a.2 * b.1)))))))
theorem tot_i_product (p : Int) (colour : Int) (a : Int × Int) (b : Int × Int) (hp : (prB p) = true) : Fo_i_product p colour a b = some (i_product p colour a b) := by
  try have h0 := prB_ne hp
  unfold Fo_i_product i_product
  (try simp only [wI_eq])
  repeat' (first | with_reducible rfl | with_reducible refine chk_opt hp ?_ | with_reducible refine chk_opt h0 ?_ | refine chk_opt (and_all hp fun _ => hp) ?_ | refine chk_opt (and_all hp fun _ => rfl) ?_ | refine ite_opt (fun _ => ?_) (fun _ => ?_) | rfl)
def run_i_product : List PV → Option (Bool × List TR)
  | [.v (.int .i64 p), .v (.int .i64 colour), .v (.agg ⟨[.int .i64 a0, .int .i64 a1]⟩), .v (.agg ⟨[.int .i64 b0, .int .i64 b1]⟩)] => some (prB p, enc_i (i_product p colour (a0, a1) (b0, b1)))
  | _ => none
theorem sound_i_product : Sound Try.prog 128 run_i_product := by
  refine sound_of de_i SO_i_product (by kernel_rfl) Try.func128 Try.ntmps128 rfl (by kernel_rfl) ?_
  intro W pvs avs rs hargs hrun
  unfold run_i_product at hrun
  split at hrun
  · simp only [Option.some.injEq, Prod.mk.injEq] at hrun
    obtain ⟨hp, rfl⟩ := hrun
    rename_i p colour a0 a1 b0 b1
    exact ⟨_, _, _, hargs, rfl, (eq_i_product p colour (a0, a1) (b0, b1)).trans (tot_i_product p colour (a0, a1) (b0, b1) hp)⟩
  · cases hrun

def S_i_quadrance : Sums := ⟨tblS [(127, run_i_less), (128, run_i_product)], tblM []⟩
theorem SO_i_quadrance : SumsOK Try.prog S_i_quadrance := ⟨tblS_ok ⟨⟨Try.call127, sound_i_less⟩, ⟨Try.call128, sound_i_product⟩, True.intro⟩, tblM_ok True.intro⟩
def Fo_i_quadrance (p : Int) (colour : Int) (a : Int × Int) (b : Int × Int) : Option (Int) :=
  (if (prB p) = true then (if (prB p) = true then some (i_product p colour (i_less p a b) (i_less p a b)) else none) else none)
theorem eq_i_quadrance (p : Int) (colour : Int) (a : Int × Int) (b : Int × Int) : execT Try.prog S_i_quadrance 101 19 (fun _ => 1000000) dec_i [.v (.int .i64 p), .v (.int .i64 colour), .v (.agg ⟨[.int .i64 a.1, .int .i64 a.2]⟩), .v (.agg ⟨[.int .i64 b.1, .int .i64 b.2]⟩)] = Fo_i_quadrance p colour a b := by
  kernel_rfl
def i_quadrance (p : Int) (colour : Int) (a : Int × Int) (b : Int × Int) : Int :=
  (i_product p colour (i_less p a b) (i_less p a b))
theorem tot_i_quadrance (p : Int) (colour : Int) (a : Int × Int) (b : Int × Int) (hp : (prB p) = true) : Fo_i_quadrance p colour a b = some (i_quadrance p colour a b) := by
  try have h0 := prB_ne hp
  unfold Fo_i_quadrance i_quadrance
  (try simp only [wI_eq])
  repeat' (first | with_reducible rfl | with_reducible refine chk_opt hp ?_ | with_reducible refine chk_opt h0 ?_ | refine chk_opt (and_all hp fun _ => hp) ?_ | refine chk_opt (and_all hp fun _ => rfl) ?_ | refine ite_opt (fun _ => ?_) (fun _ => ?_) | rfl)
def run_i_quadrance : List PV → Option (Bool × List TR)
  | [.v (.int .i64 p), .v (.int .i64 colour), .v (.agg ⟨[.int .i64 a0, .int .i64 a1]⟩), .v (.agg ⟨[.int .i64 b0, .int .i64 b1]⟩)] => some (prB p, enc_i (i_quadrance p colour (a0, a1) (b0, b1)))
  | _ => none
theorem sound_i_quadrance : Sound Try.prog 101 run_i_quadrance := by
  refine sound_of de_i SO_i_quadrance (by kernel_rfl) Try.func101 Try.ntmps101 rfl (by kernel_rfl) ?_
  intro W pvs avs rs hargs hrun
  unfold run_i_quadrance at hrun
  split at hrun
  · simp only [Option.some.injEq, Prod.mk.injEq] at hrun
    obtain ⟨hp, rfl⟩ := hrun
    rename_i p colour a0 a1 b0 b1
    exact ⟨_, _, _, hargs, rfl, (eq_i_quadrance p colour (a0, a1) (b0, b1)).trans (tot_i_quadrance p colour (a0, a1) (b0, b1) hp)⟩
  · cases hrun

def S_i_linesThrough : Sums := ⟨tblS [(85, run_i_rest)], tblM []⟩
theorem SO_i_linesThrough : SumsOK Try.prog S_i_linesThrough := ⟨tblS_ok ⟨⟨Try.call85, sound_i_rest⟩, True.intro⟩, tblM_ok True.intro⟩
def T_i_linesThrough_0 (p : Int) (a : Int × Int) (l13 : List Int) (m13 : Nat) (b : Int) : Tab := ⟨[.val (.int .i64 p), .val (.agg ⟨[.int .i64 a.1, .int .i64 a.2]⟩), .junk, .ptr 12 0, .val (.slice none 0 0), .row 52, .val (.int .i64 b), .val (.int .i64 p), .ptr 12 1, .val (.int .i64 a.2), .val (.int .i64 (wI (0 - a.2))), .val (.int .i64 (i_rest p (wI (0 - a.2)))), .val (.agg ⟨[.int .i64 0, .int .i64 1, .int .i64 (i_rest p (wI (0 - a.2)))]⟩), .junk, .junk, .junk, .junk, .junk, .junk, .junk, .junk, .junk, .junk, .junk, .junk, .junk, .junk, .junk, .junk, .junk, .junk, .junk, .junk, .junk, .junk], [(12, .box 27 [.val (.int .i64 a.1), .val (.int .i64 a.2)]), (52, .row 31 3 m13 (.ints l13))]⟩
def X_i_linesThrough_0 (P : Program) (fu : Nat) (p : Int) (a : Int × Int) (f : Nat) (l13 : List Int) (m13 : Nat) (b : Int) : Option (Nat × List Int) := loopK (exec P S_i_linesThrough 35 (fun _ => fu + 100) (Code.sub [1, 1, 0, 1, 0, 0] (bodyF P 137))) f (T_i_linesThrough_0 p a l13 m13 b) (kBlock 0 (kSeq (fun zs9 => exec P S_i_linesThrough 35 (fun _ => fu + 100) (Code.sub [1, 1, 1] (bodyF P 137)) zs9 (finT P 137 dec_l31_3)) (finT P 137 dec_l31_3)))
def B_i_linesThrough_0 (p : Int) (a : Int × Int) (rec0 : (List Int) → Nat → Int → Option (Nat × List Int)) (l13 : List Int) (m13 : Nat) (b : Int) : Option (Nat × List Int) :=
  (if (decide (b < p)) = true then (if (prB p) = true then (if (Nat.ble 1 1 && Nat.ble (m13 + 1) 1000000 && Nat.beq 3 (3)) = true then rec0 (l13 ++ [1, b, (i_rest p (wI ((wI (0 - a.1)) - (wI (b * a.2)))))]) (m13 + 1) (wI (b + 1)) else none) else none) else some (m13, l13))
def L_i_linesThrough_0 (fu : Nat) (p : Int) (a : Int × Int) : Nat → (List Int) → Nat → Int → Option (Nat × List Int)
  | 0, _, _, _ => none
  | f + 1, l13, m13, b => B_i_linesThrough_0 p a (L_i_linesThrough_0 fu p a f) l13 m13 b
theorem loop_i_linesThrough_0 (fu : Nat) (p : Int) (a : Int × Int) : ∀ (f : Nat) (l13 : List Int) (m13 : Nat) (b : Int), X_i_linesThrough_0 Try.prog fu p a f l13 m13 b = L_i_linesThrough_0 fu p a f l13 m13 b := by
  intro f
  induction f with
  | zero => intros; rfl
  | succ f ih =>
    intro l13 m13 b
    have h1 : X_i_linesThrough_0 Try.prog fu p a (f + 1) l13 m13 b = B_i_linesThrough_0 p a (X_i_linesThrough_0 Try.prog fu p a f) l13 m13 b := by kernel_rfl
    have h2 : X_i_linesThrough_0 Try.prog fu p a f = L_i_linesThrough_0 fu p a f := by funext l13 m13 b; exact ih l13 m13 b
    rw [h1, h2]
    rfl
def G_i_linesThrough (p : Int) (a : Int × Int) (lo0 : (List Int) → Nat → Int → Option (Nat × List Int)) : Option (Nat × List Int) :=
  (if (prB p) = true then lo0 [0, 1, (i_rest p (wI (0 - a.2)))] 1 0 else none)
def Fo_i_linesThrough (fu : Nat) (p : Int) (a : Int × Int) : Option (Nat × List Int) := G_i_linesThrough p a (L_i_linesThrough_0 fu p a (fu + 100))
theorem eqg_i_linesThrough (fu : Nat) (p : Int) (a : Int × Int) : execT Try.prog S_i_linesThrough 137 35 (fun _ => fu + 100) dec_l31_3 [.v (.int .i64 p), .v (.agg ⟨[.int .i64 a.1, .int .i64 a.2]⟩)] = G_i_linesThrough p a (L_i_linesThrough_0 fu p a (fu + 100)) := by
  have h1 : execT Try.prog S_i_linesThrough 137 35 (fun _ => fu + 100) dec_l31_3 [.v (.int .i64 p), .v (.agg ⟨[.int .i64 a.1, .int .i64 a.2]⟩)] = G_i_linesThrough p a (X_i_linesThrough_0 Try.prog fu p a (fu + 100)) := by kernel_rfl
  have c0 : X_i_linesThrough_0 Try.prog fu p a (fu + 100) = L_i_linesThrough_0 fu p a (fu + 100) := by funext l13 m13 b; exact loop_i_linesThrough_0 fu p a (fu + 100) l13 m13 b
  rw [h1, c0]
theorem eq_i_linesThrough (fu : Nat) (p : Int) (a : Int × Int) : execT Try.prog S_i_linesThrough 137 35 (fun _ => fu + 100) dec_l31_3 [.v (.int .i64 p), .v (.agg ⟨[.int .i64 a.1, .int .i64 a.2]⟩)] = Fo_i_linesThrough fu p a := eqg_i_linesThrough fu p a
def linesT (p : Int) (a : P2) : List P3 := ((0, 1, i_rest p (wrap64 (0 - a.2))) :: ((List.range p.toNat).map fun b : Nat => ((1 : Int), (b : Int), i_rest p (wrap64 (wrap64 (0 - a.1) - wrap64 ((b : Int) * a.2))))))
def i_linesThrough (p : Int) (a : P2) : Nat × List Int := ((linesT p a).length, flat3 (linesT p a))
theorem linesT_len {p : Int} (hp : prB p = true) (a : P2) : (linesT p a).length ≤ 993 := by
  have h1 := (prB_nat hp).1
  unfold linesT
  simp; omega

theorem tot_i_linesThrough (p : Int) (a : Int × Int) (hp : (prB p) = true) : Fo_i_linesThrough 1000000 p a = some (i_linesThrough p a) := by
  obtain ⟨h1, h0, hpn⟩ := prB_nat hp
  unfold Fo_i_linesThrough G_i_linesThrough
  rw [if_pos hp]
  refine (gather (flat := flat3) flat3_app rfl (L := fun f l m i => L_i_linesThrough_0 1000000 p a f l m i) (n := p.toNat) (b := 1) (M := 1) (fun b : Nat => [((1 : Int), (b : Int), i_rest p (wrap64 (wrap64 (0 - a.1) - wrap64 ((b : Int) * a.2))))]) (K := (some (i_linesThrough p a))) (l := [0, 1, i_rest p (wI (0 - a.2))]) (m := 1) (F := (1000000 + 100)) (by intro k hk; first | (split <;> simp) | simp_all)
    (fun f k l m hk hm => by
      show B_i_linesThrough_0 p a (L_i_linesThrough_0 1000000 p a f) l m (k : Int) = _
      unfold B_i_linesThrough_0
      simp only [cndp hk, hp, if_true, wI_eq]
      rw [if_pos (by simp; omega), show wrap64 ((k : Int) + 1) = ((k + 1 : Nat) : Int) from by rw [← wI_eq]; exact wrap_add1 hk (by omega)]
      rfl)
    (fun f hm => by
      show B_i_linesThrough_0 p a (L_i_linesThrough_0 1000000 p a f) ([0, 1, i_rest p (wI (0 - a.2))] ++ flat3 ((List.range p.toNat).flatMap (fun b : Nat => [((1 : Int), (b : Int), i_rest p (wrap64 (wrap64 (0 - a.1) - wrap64 ((b : Int) * a.2))))]))) (1 + ((List.range p.toNat).flatMap (fun b : Nat => [((1 : Int), (b : Int), i_rest p (wrap64 (wrap64 (0 - a.1) - wrap64 ((b : Int) * a.2))))])).length) ((p.toNat : Nat) : Int) = _
      unfold B_i_linesThrough_0
      rw [if_neg (by simp; omega), flatMap_one]
      refine congrArg some (Prod.ext ?_ ?_)
      · simp [i_linesThrough, linesT]; omega
      · simp only [wI_eq]
        rfl) (by omega) (Nat.le_refl _)).trans ?_
  rfl
def run_i_linesThrough : List PV → Option (Bool × List TR)
  | [.v (.int .i64 p), .v (.agg ⟨[.int .i64 a0, .int .i64 a1]⟩)] => some (prB p, enc_l31_3 (i_linesThrough p (a0, a1)))
  | _ => none
theorem sound_i_linesThrough : Sound Try.prog 137 run_i_linesThrough := by
  refine sound_of de_l31_3 SO_i_linesThrough (by kernel_rfl) Try.func137 Try.ntmps137 rfl (by kernel_rfl) ?_
  intro W pvs avs rs hargs hrun
  unfold run_i_linesThrough at hrun
  split at hrun
  · simp only [Option.some.injEq, Prod.mk.injEq] at hrun
    obtain ⟨hp, rfl⟩ := hrun
    rename_i p a0 a1
    exact ⟨_, _, _, hargs, rfl, (eq_i_linesThrough _ p (a0, a1)).trans (tot_i_linesThrough p (a0, a1) hp)⟩
  · cases hrun

def S_i_way : Sums := ⟨tblS [(85, run_i_rest)], tblM []⟩
theorem SO_i_way : SumsOK Try.prog S_i_way := ⟨tblS_ok ⟨⟨Try.call85, sound_i_rest⟩, True.intro⟩, tblM_ok True.intro⟩
def Fo_i_way (p : Int) (l : Int × Int × Int) : Option (Int × Int) :=
  (if (prB p) = true then some ((i_rest p (wI (0 - l.2.1))), l.1) else none)
theorem eq_i_way (p : Int) (l : Int × Int × Int) : execT Try.prog S_i_way 136 13 (fun _ => 1000000) dec_a2 [.v (.int .i64 p), .v (.agg ⟨[.int .i64 l.1, .int .i64 l.2.1, .int .i64 l.2.2]⟩)] = Fo_i_way p l := by
  kernel_rfl
def i_way (p : Int) (l : Int × Int × Int) : Int × Int :=
  ((i_rest p (wrap64 (0 - l.2.1))), l.1)
theorem tot_i_way (p : Int) (l : Int × Int × Int) (hp : (prB p) = true) : Fo_i_way p l = some (i_way p l) := by
  try have h0 := prB_ne hp
  unfold Fo_i_way i_way
  (try simp only [wI_eq])
  repeat' (first | with_reducible rfl | with_reducible refine chk_opt hp ?_ | with_reducible refine chk_opt h0 ?_ | refine chk_opt (and_all hp fun _ => hp) ?_ | refine chk_opt (and_all hp fun _ => rfl) ?_ | refine ite_opt (fun _ => ?_) (fun _ => ?_) | rfl)
def run_i_way : List PV → Option (Bool × List TR)
  | [.v (.int .i64 p), .v (.agg ⟨[.int .i64 l0, .int .i64 l1, .int .i64 l2]⟩)] => some (prB p, enc_a2 (i_way p (l0, l1, l2)))
  | _ => none
theorem sound_i_way : Sound Try.prog 136 run_i_way := by
  refine sound_of de_a2 SO_i_way (by kernel_rfl) Try.func136 Try.ntmps136 rfl (by kernel_rfl) ?_
  intro W pvs avs rs hargs hrun
  unfold run_i_way at hrun
  split at hrun
  · simp only [Option.some.injEq, Prod.mk.injEq] at hrun
    obtain ⟨hp, rfl⟩ := hrun
    rename_i p l0 l1 l2
    exact ⟨_, _, _, hargs, rfl, (eq_i_way p (l0, l1, l2)).trans (tot_i_way p (l0, l1, l2) hp)⟩
  · cases hrun

def S_i_arePerpendicular : Sums := ⟨tblS [(136, run_i_way), (128, run_i_product)], tblM []⟩
theorem SO_i_arePerpendicular : SumsOK Try.prog S_i_arePerpendicular := ⟨tblS_ok ⟨⟨Try.call136, sound_i_way⟩, ⟨Try.call128, sound_i_product⟩, True.intro⟩, tblM_ok True.intro⟩
def Fo_i_arePerpendicular (p : Int) (colour : Int) (l : Int × Int × Int) (m : Int × Int × Int) : Option (Bool) :=
  (if (prB p) = true then (if (prB p) = true then (if (prB p) = true then some ((i_product p colour (i_way p l) (i_way p m)) == 0) else none) else none) else none)
theorem eq_i_arePerpendicular (p : Int) (colour : Int) (l : Int × Int × Int) (m : Int × Int × Int) : execT Try.prog S_i_arePerpendicular 126 19 (fun _ => 1000000) dec_b [.v (.int .i64 p), .v (.int .i64 colour), .v (.agg ⟨[.int .i64 l.1, .int .i64 l.2.1, .int .i64 l.2.2]⟩), .v (.agg ⟨[.int .i64 m.1, .int .i64 m.2.1, .int .i64 m.2.2]⟩)] = Fo_i_arePerpendicular p colour l m := by
  kernel_rfl
def i_arePerpendicular (p : Int) (colour : Int) (l : Int × Int × Int) (m : Int × Int × Int) : Bool :=
  (i_product p colour (i_way p l) (i_way p m)) == 0
theorem tot_i_arePerpendicular (p : Int) (colour : Int) (l : Int × Int × Int) (m : Int × Int × Int) (hp : (prB p) = true) : Fo_i_arePerpendicular p colour l m = some (i_arePerpendicular p colour l m) := by
  try have h0 := prB_ne hp
  unfold Fo_i_arePerpendicular i_arePerpendicular
  (try simp only [wI_eq])
  repeat' (first | with_reducible rfl | with_reducible refine chk_opt hp ?_ | with_reducible refine chk_opt h0 ?_ | refine chk_opt (and_all hp fun _ => hp) ?_ | refine chk_opt (and_all hp fun _ => rfl) ?_ | refine ite_opt (fun _ => ?_) (fun _ => ?_) | rfl)
def run_i_arePerpendicular : List PV → Option (Bool × List TR)
  | [.v (.int .i64 p), .v (.int .i64 colour), .v (.agg ⟨[.int .i64 l0, .int .i64 l1, .int .i64 l2]⟩), .v (.agg ⟨[.int .i64 m0, .int .i64 m1, .int .i64 m2]⟩)] => some (prB p, enc_b (i_arePerpendicular p colour (l0, l1, l2) (m0, m1, m2)))
  | _ => none
theorem sound_i_arePerpendicular : Sound Try.prog 126 run_i_arePerpendicular := by
  refine sound_of de_b SO_i_arePerpendicular (by kernel_rfl) Try.func126 Try.ntmps126 rfl (by kernel_rfl) ?_
  intro W pvs avs rs hargs hrun
  unfold run_i_arePerpendicular at hrun
  split at hrun
  · simp only [Option.some.injEq, Prod.mk.injEq] at hrun
    obtain ⟨hp, rfl⟩ := hrun
    rename_i p colour l0 l1 l2 m0 m1 m2
    exact ⟨_, _, _, hargs, rfl, (eq_i_arePerpendicular p colour (l0, l1, l2) (m0, m1, m2)).trans (tot_i_arePerpendicular p colour (l0, l1, l2) (m0, m1, m2) hp)⟩
  · cases hrun

def S_i_perpendicular : Sums := ⟨tblS [(137, run_i_linesThrough), (126, run_i_arePerpendicular)], tblM []⟩
theorem SO_i_perpendicular : SumsOK Try.prog S_i_perpendicular := ⟨tblS_ok ⟨⟨Try.call137, sound_i_linesThrough⟩, ⟨Try.call126, sound_i_arePerpendicular⟩, True.intro⟩, tblM_ok True.intro⟩
def T_i_perpendicular_0 (p : Int) (colour : Int) (l : Int × Int × Int) (a : Int × Int) (t15 : Int) : Tab := ⟨[.val (.int .i64 p), .val (.int .i64 colour), .val (.agg ⟨[.int .i64 l.1, .int .i64 l.2.1, .int .i64 l.2.2]⟩), .val (.agg ⟨[.int .i64 a.1, .int .i64 a.2]⟩), .junk, .junk, .ptr 24 0, .ptr 28 0, .ptr 32 0, .junk, .junk, .val (.int .i64 p), .val (.agg ⟨[.int .i64 a.1, .int .i64 a.2]⟩), .row 52, .val (.int .i64 (((i_linesThrough p a).1 : Nat) : Int)), .val (.int .i64 t15), .junk, .junk, .junk, .junk, .junk, .junk, .junk, .junk, .junk, .junk, .junk], [(24, .box 31 [.val (.int .i64 l.1), .val (.int .i64 l.2.1), .val (.int .i64 l.2.2)]), (28, .box 27 [.val (.int .i64 a.1), .val (.int .i64 a.2)]), (32, .box 31 [.val (.int .i64 0), .val (.int .i64 0), .val (.int .i64 0)]), (52, .row 31 3 ((i_linesThrough p a).1) (.ints ((i_linesThrough p a).2)))]⟩
def X_i_perpendicular_0 (P : Program) (fu : Nat) (p : Int) (colour : Int) (l : Int × Int × Int) (a : Int × Int) (f : Nat) (t15 : Int) : Option (Int × Int × Int) := loopK (exec P S_i_perpendicular 27 (fun _ => fu + 100) (Code.sub [1, 0, 1, 0, 0] (bodyF P 130))) f (T_i_perpendicular_0 p colour l a t15) (kBlock 0 (kSeq (fun zs9 => exec P S_i_perpendicular 27 (fun _ => fu + 100) (Code.sub [1, 1] (bodyF P 130)) zs9 (finT P 130 dec_a3)) (finT P 130 dec_a3)))
def B_i_perpendicular_0 (p : Int) (colour : Int) (l : Int × Int × Int) (a : Int × Int) (rec0 : Int → Option (Int × Int × Int)) (t15 : Int) : Option (Int × Int × Int) :=
  (if (decide (t15 < (((i_linesThrough p a).1 : Nat) : Int))) = true then (if (decide (0 ≤ t15) && decide (t15 < (((i_linesThrough p a).1 : Nat) : Int))) = true then (if (Nat.ble (t15.toNat * 3 + 3) (((i_linesThrough p a).2).length)) = true then (if (prB p) = true then (if (i_arePerpendicular p colour l (((i_linesThrough p a).2).getD (t15.toNat * 3 + 0) 0, ((i_linesThrough p a).2).getD (t15.toNat * 3 + 1) 0, ((i_linesThrough p a).2).getD (t15.toNat * 3 + 2) 0)) = true then some (((i_linesThrough p a).2).getD (t15.toNat * 3 + 0) 0, ((i_linesThrough p a).2).getD (t15.toNat * 3 + 1) 0, ((i_linesThrough p a).2).getD (t15.toNat * 3 + 2) 0) else rec0 (wI (t15 + 1))) else none) else none) else none) else some (0, 0, 0))
def L_i_perpendicular_0 (fu : Nat) (p : Int) (colour : Int) (l : Int × Int × Int) (a : Int × Int) : Nat → Int → Option (Int × Int × Int)
  | 0, _ => none
  | f + 1, t15 => B_i_perpendicular_0 p colour l a (L_i_perpendicular_0 fu p colour l a f) t15
theorem loop_i_perpendicular_0 (fu : Nat) (p : Int) (colour : Int) (l : Int × Int × Int) (a : Int × Int) : ∀ (f : Nat) (t15 : Int), X_i_perpendicular_0 Try.prog fu p colour l a f t15 = L_i_perpendicular_0 fu p colour l a f t15 := by
  intro f
  induction f with
  | zero => intros; rfl
  | succ f ih =>
    intro t15
    have h1 : X_i_perpendicular_0 Try.prog fu p colour l a (f + 1) t15 = B_i_perpendicular_0 p colour l a (X_i_perpendicular_0 Try.prog fu p colour l a f) t15 := by kernel_rfl
    have h2 : X_i_perpendicular_0 Try.prog fu p colour l a f = L_i_perpendicular_0 fu p colour l a f := by funext t15; exact ih t15
    rw [h1, h2]
    rfl
def G_i_perpendicular (p : Int) (colour : Int) (l : Int × Int × Int) (a : Int × Int) (lo0 : Int → Option (Int × Int × Int)) : Option (Int × Int × Int) :=
  (if (prB p) = true then lo0 0 else none)
def Fo_i_perpendicular (fu : Nat) (p : Int) (colour : Int) (l : Int × Int × Int) (a : Int × Int) : Option (Int × Int × Int) := G_i_perpendicular p colour l a (L_i_perpendicular_0 fu p colour l a (fu + 100))
theorem eqg_i_perpendicular (fu : Nat) (p : Int) (colour : Int) (l : Int × Int × Int) (a : Int × Int) : execT Try.prog S_i_perpendicular 130 27 (fun _ => fu + 100) dec_a3 [.v (.int .i64 p), .v (.int .i64 colour), .v (.agg ⟨[.int .i64 l.1, .int .i64 l.2.1, .int .i64 l.2.2]⟩), .v (.agg ⟨[.int .i64 a.1, .int .i64 a.2]⟩)] = G_i_perpendicular p colour l a (L_i_perpendicular_0 fu p colour l a (fu + 100)) := by
  have h1 : execT Try.prog S_i_perpendicular 130 27 (fun _ => fu + 100) dec_a3 [.v (.int .i64 p), .v (.int .i64 colour), .v (.agg ⟨[.int .i64 l.1, .int .i64 l.2.1, .int .i64 l.2.2]⟩), .v (.agg ⟨[.int .i64 a.1, .int .i64 a.2]⟩)] = G_i_perpendicular p colour l a (X_i_perpendicular_0 Try.prog fu p colour l a (fu + 100)) := by kernel_rfl
  have c0 : X_i_perpendicular_0 Try.prog fu p colour l a (fu + 100) = L_i_perpendicular_0 fu p colour l a (fu + 100) := by funext t15; exact loop_i_perpendicular_0 fu p colour l a (fu + 100) t15
  rw [h1, c0]
theorem eq_i_perpendicular (fu : Nat) (p : Int) (colour : Int) (l : Int × Int × Int) (a : Int × Int) : execT Try.prog S_i_perpendicular 130 27 (fun _ => fu + 100) dec_a3 [.v (.int .i64 p), .v (.int .i64 colour), .v (.agg ⟨[.int .i64 l.1, .int .i64 l.2.1, .int .i64 l.2.2]⟩), .v (.agg ⟨[.int .i64 a.1, .int .i64 a.2]⟩)] = Fo_i_perpendicular fu p colour l a := eqg_i_perpendicular fu p colour l a
def i_perpendicular (p colour : Int) (l : P3) (a : P2) : P3 := (((linesT p a).findSome? fun zz => if i_arePerpendicular p colour l zz = true then some zz else none)).getD (0, 0, 0)
theorem lo0_i_perpendicular (p colour : Int) (l : P3) (a : P2) (hp : prB p = true) {F : Nat} (hF : 993 < F) : L_i_perpendicular_0 1000000 p colour l a F 0 = some ((((linesT p a).findSome? fun zz => if i_arePerpendicular p colour l zz = true then some (zz) else none)).getD (0, 0, 0)) := by
  have hlen : (linesT p a).length ≤ 993 := linesT_len hp a
  have h := seek (L := fun f i => L_i_perpendicular_0 1000000 p colour l a f i) (n := (linesT p a).length) (F := F) (q := fun k => if i_arePerpendicular p colour l (R3 (flat3 (linesT p a)) k) = true then some ((R3 (flat3 (linesT p a)) k)) else none) (e := (0, 0, 0)) (by omega)
    (fun f k hk => by
      show B_i_perpendicular_0 p colour l a (L_i_perpendicular_0 1000000 p colour l a f) (k : Int) = _
      unfold B_i_perpendicular_0
      have e0 : decide (0 ≤ (k : Int)) = true := by simp
      have e1 := cnd hk
      have e3 : (k : Int).toNat = k := Int.toNat_natCast k
      have e4 := row3_ok (flat3_len _) hk
      rw [show i_linesThrough p a = ((linesT p a).length, flat3 (linesT p a)) from rfl]
      simp only [e0, e1, e3, e4, hp, Bool.and_true, Bool.true_and, if_true, wrap_add1 hk (by omega)]
      have hr : ((flat3 (linesT p a)).getD (k * 3 + 0) 0, (flat3 (linesT p a)).getD (k * 3 + 1) 0, (flat3 (linesT p a)).getD (k * 3 + 2) 0) = R3 (flat3 (linesT p a)) k := rfl
      try simp only [hr]
      generalize (i_arePerpendicular p colour l (R3 (flat3 (linesT p a)) k)) = c0
      cases c0 <;> rfl)
    (fun f => by
      show B_i_perpendicular_0 p colour l a (L_i_perpendicular_0 1000000 p colour l a f) (((linesT p a).length : Nat) : Int) = _
      unfold B_i_perpendicular_0
      rw [show i_linesThrough p a = ((linesT p a).length, flat3 (linesT p a)) from rfl]
      rw [if_neg (by simp)])
  have h2 := find_row (linesT p a) (0, 0, 0) (fun zz => if i_arePerpendicular p colour l zz = true then some (zz) else none)
  rw [← h2]
  simp only [← R3_flat]
  exact h

theorem tot_i_perpendicular (p : Int) (colour : Int) (l : Int × Int × Int) (a : Int × Int) (hp : (prB p) = true) : Fo_i_perpendicular 1000000 p colour l a = some (i_perpendicular p colour l a) := by
  unfold Fo_i_perpendicular G_i_perpendicular
  rw [if_pos hp]
  exact lo0_i_perpendicular p colour l a hp (by omega)
def run_i_perpendicular : List PV → Option (Bool × List TR)
  | [.v (.int .i64 p), .v (.int .i64 colour), .v (.agg ⟨[.int .i64 l0, .int .i64 l1, .int .i64 l2]⟩), .v (.agg ⟨[.int .i64 a0, .int .i64 a1]⟩)] => some (prB p, enc_a3 (i_perpendicular p colour (l0, l1, l2) (a0, a1)))
  | _ => none
theorem sound_i_perpendicular : Sound Try.prog 130 run_i_perpendicular := by
  refine sound_of de_a3 SO_i_perpendicular (by kernel_rfl) Try.func130 Try.ntmps130 rfl (by kernel_rfl) ?_
  intro W pvs avs rs hargs hrun
  unfold run_i_perpendicular at hrun
  split at hrun
  · simp only [Option.some.injEq, Prod.mk.injEq] at hrun
    obtain ⟨hp, rfl⟩ := hrun
    rename_i p colour l0 l1 l2 a0 a1
    exact ⟨_, _, _, hargs, rfl, (eq_i_perpendicular _ p colour (l0, l1, l2) (a0, a1)).trans (tot_i_perpendicular p colour (l0, l1, l2) (a0, a1) hp)⟩
  · cases hrun

def S_i_meet : Sums := ⟨tblS [(85, run_i_rest), (118, run_i_divide)], tblM []⟩
theorem SO_i_meet : SumsOK Try.prog S_i_meet := ⟨tblS_ok ⟨⟨Try.call85, sound_i_rest⟩, ⟨Try.call118, sound_i_divide⟩, True.intro⟩, tblM_ok True.intro⟩
def Fo_i_meet (p : Int) (l : Int × Int × Int) (m : Int × Int × Int) : Option (Int × Int) :=
  (if (prB p) = true then (if (prB p) = true then (if (prB p) = true then (if (prB p) = true then (if (prB p) = true then some ((i_divide p (i_rest p (wI ((wI (l.2.1 * m.2.2)) - (wI (l.2.2 * m.2.1))))) (i_rest p (wI ((wI (l.1 * m.2.1)) - (wI (l.2.1 * m.1)))))), (i_divide p (i_rest p (wI ((wI (l.2.2 * m.1)) - (wI (l.1 * m.2.2))))) (i_rest p (wI ((wI (l.1 * m.2.1)) - (wI (l.2.1 * m.1))))))) else none) else none) else none) else none) else none)
theorem eq_i_meet (p : Int) (l : Int × Int × Int) (m : Int × Int × Int) : execT Try.prog S_i_meet 129 54 (fun _ => 1000000) dec_a2 [.v (.int .i64 p), .v (.agg ⟨[.int .i64 l.1, .int .i64 l.2.1, .int .i64 l.2.2]⟩), .v (.agg ⟨[.int .i64 m.1, .int .i64 m.2.1, .int .i64 m.2.2]⟩)] = Fo_i_meet p l m := by
  kernel_rfl
def i_meet (p : Int) (l : Int × Int × Int) (m : Int × Int × Int) : Int × Int :=
  ((i_divide p (i_rest p (wrap64 ((wrap64 (l.2.1 * m.2.2)) - (wrap64 (l.2.2 * m.2.1))))) (i_rest p (wrap64 ((wrap64 (l.1 * m.2.1)) - (wrap64 (l.2.1 * m.1)))))), (i_divide p (i_rest p (wrap64 ((wrap64 (l.2.2 * m.1)) - (wrap64 (l.1 * m.2.2))))) (i_rest p (wrap64 ((wrap64 (l.1 * m.2.1)) - (wrap64 (l.2.1 * m.1)))))))
theorem tot_i_meet (p : Int) (l : Int × Int × Int) (m : Int × Int × Int) (hp : (prB p) = true) : Fo_i_meet p l m = some (i_meet p l m) := by
  try have h0 := prB_ne hp
  unfold Fo_i_meet i_meet
  (try simp only [wI_eq])
  repeat' (first | with_reducible rfl | with_reducible refine chk_opt hp ?_ | with_reducible refine chk_opt h0 ?_ | refine chk_opt (and_all hp fun _ => hp) ?_ | refine chk_opt (and_all hp fun _ => rfl) ?_ | refine ite_opt (fun _ => ?_) (fun _ => ?_) | rfl)
def run_i_meet : List PV → Option (Bool × List TR)
  | [.v (.int .i64 p), .v (.agg ⟨[.int .i64 l0, .int .i64 l1, .int .i64 l2]⟩), .v (.agg ⟨[.int .i64 m0, .int .i64 m1, .int .i64 m2]⟩)] => some (prB p, enc_a2 (i_meet p (l0, l1, l2) (m0, m1, m2)))
  | _ => none
theorem sound_i_meet : Sound Try.prog 129 run_i_meet := by
  refine sound_of de_a2 SO_i_meet (by kernel_rfl) Try.func129 Try.ntmps129 rfl (by kernel_rfl) ?_
  intro W pvs avs rs hargs hrun
  unfold run_i_meet at hrun
  split at hrun
  · simp only [Option.some.injEq, Prod.mk.injEq] at hrun
    obtain ⟨hp, rfl⟩ := hrun
    rename_i p l0 l1 l2 m0 m1 m2
    exact ⟨_, _, _, hargs, rfl, (eq_i_meet p (l0, l1, l2) (m0, m1, m2)).trans (tot_i_meet p (l0, l1, l2) (m0, m1, m2) hp)⟩
  · cases hrun

def S_s_l01Meet : Sums := ⟨tblS [(90, run_s_l01Mod), (116, run_s_l01Inverse)], tblM []⟩
theorem SO_s_l01Meet : SumsOK Try.prog S_s_l01Meet := ⟨tblS_ok ⟨⟨Try.call90, sound_s_l01Mod⟩, ⟨Try.call116, sound_s_l01Inverse⟩, True.intro⟩, tblM_ok True.intro⟩
def Fo_s_l01Meet (p : Int) (l : Int × Int × Int) (m : Int × Int × Int) : Option ((Int × Int) × Bool) :=
  (if (prB p) = true then (if ((s_l01Mod (wI ((wI (l.1 * m.2.1)) - (wI (l.2.1 * m.1)))) p) == 0) = true then some ((0, 0), false) else (if (prB p) = true then (if (!(p == 0)) = true then (if (prB p) = true then (if (!(p == 0)) = true then (if (prB p) = true then some (((s_l01Mod (wI (((wI ((wI (l.2.1 * m.2.2)) - (wI (m.2.1 * l.2.2)))).tmod p) * (s_l01Inverse (s_l01Mod (wI ((wI (l.1 * m.2.1)) - (wI (l.2.1 * m.1)))) p) p))) p), (s_l01Mod (wI (((wI ((wI (m.1 * l.2.2)) - (wI (l.1 * m.2.2)))).tmod p) * (s_l01Inverse (s_l01Mod (wI ((wI (l.1 * m.2.1)) - (wI (l.2.1 * m.1)))) p) p))) p)), true) else none) else none) else none) else none) else none)) else none)
theorem eq_s_l01Meet (p : Int) (l : Int × Int × Int) (m : Int × Int × Int) : execT Try.prog S_s_l01Meet 59 64 (fun _ => 1000000) dec_a2_b [.v (.int .i64 p), .v (.agg ⟨[.int .i64 l.1, .int .i64 l.2.1, .int .i64 l.2.2]⟩), .v (.agg ⟨[.int .i64 m.1, .int .i64 m.2.1, .int .i64 m.2.2]⟩)] = Fo_s_l01Meet p l m := by
  kernel_rfl
def s_l01Meet (p : Int) (l : Int × Int × Int) (m : Int × Int × Int) : (Int × Int) × Bool :=
  (if ((s_l01Mod (wrap64 ((wrap64 (l.1 * m.2.1)) - (wrap64 (l.2.1 * m.1)))) p) == 0) = true then ((0, 0), false) else (((s_l01Mod (wrap64 (((wrap64 ((wrap64 (l.2.1 * m.2.2)) - (wrap64 (m.2.1 * l.2.2)))).tmod p) * (s_l01Inverse (s_l01Mod (wrap64 ((wrap64 (l.1 * m.2.1)) - (wrap64 (l.2.1 * m.1)))) p) p))) p), (s_l01Mod (wrap64 (((wrap64 ((wrap64 (m.1 * l.2.2)) - (wrap64 (l.1 * m.2.2)))).tmod p) * (s_l01Inverse (s_l01Mod (wrap64 ((wrap64 (l.1 * m.2.1)) - (wrap64 (l.2.1 * m.1)))) p) p))) p)), true))
theorem tot_s_l01Meet (p : Int) (l : Int × Int × Int) (m : Int × Int × Int) (hp : (prB p) = true) : Fo_s_l01Meet p l m = some (s_l01Meet p l m) := by
  try have h0 := prB_ne hp
  unfold Fo_s_l01Meet s_l01Meet
  (try simp only [wI_eq])
  repeat' (first | with_reducible rfl | with_reducible refine chk_opt hp ?_ | with_reducible refine chk_opt h0 ?_ | refine chk_opt (and_all hp fun _ => hp) ?_ | refine chk_opt (and_all hp fun _ => rfl) ?_ | refine ite_opt (fun _ => ?_) (fun _ => ?_) | rfl)
def run_s_l01Meet : List PV → Option (Bool × List TR)
  | [.v (.int .i64 p), .v (.agg ⟨[.int .i64 l0, .int .i64 l1, .int .i64 l2]⟩), .v (.agg ⟨[.int .i64 m0, .int .i64 m1, .int .i64 m2]⟩)] => some (prB p, enc_a2_b (s_l01Meet p (l0, l1, l2) (m0, m1, m2)))
  | _ => none
theorem sound_s_l01Meet : Sound Try.prog 59 run_s_l01Meet := by
  refine sound_of de_a2_b SO_s_l01Meet (by kernel_rfl) Try.func59 Try.ntmps59 rfl (by kernel_rfl) ?_
  intro W pvs avs rs hargs hrun
  unfold run_s_l01Meet at hrun
  split at hrun
  · simp only [Option.some.injEq, Prod.mk.injEq] at hrun
    obtain ⟨hp, rfl⟩ := hrun
    rename_i p l0 l1 l2 m0 m1 m2
    exact ⟨_, _, _, hargs, rfl, (eq_s_l01Meet p (l0, l1, l2) (m0, m1, m2)).trans (tot_s_l01Meet p (l0, l1, l2) (m0, m1, m2) hp)⟩
  · cases hrun

def S_i_polar : Sums := ⟨tblS [(85, run_i_rest)], tblM []⟩
theorem SO_i_polar : SumsOK Try.prog S_i_polar := ⟨tblS_ok ⟨⟨Try.call85, sound_i_rest⟩, True.intro⟩, tblM_ok True.intro⟩
def Fo_i_polar (p : Int) (k : Int × Int × Int × Int × Int × Int) (a : Int × Int) : Option (Int × Int × Int) :=
  (if (prB p) = true then (if (prB p) = true then (if (prB p) = true then some ((i_rest p (wI ((wI ((wI ((wI (2 * k.1)) * a.1)) + (wI (k.2.1 * a.2)))) + k.2.2.2.1))), (i_rest p (wI ((wI ((wI (k.2.1 * a.1)) + (wI ((wI (2 * k.2.2.1)) * a.2)))) + k.2.2.2.2.1))), (i_rest p (wI ((wI ((wI (k.2.2.2.1 * a.1)) + (wI (k.2.2.2.2.1 * a.2)))) + (wI (2 * k.2.2.2.2.2)))))) else none) else none) else none)
theorem eq_i_polar (p : Int) (k : Int × Int × Int × Int × Int × Int) (a : Int × Int) : execT Try.prog S_i_polar 56 59 (fun _ => 1000000) dec_a3 [.v (.int .i64 p), .v (.agg ⟨[.int .i64 k.1, .int .i64 k.2.1, .int .i64 k.2.2.1, .int .i64 k.2.2.2.1, .int .i64 k.2.2.2.2.1, .int .i64 k.2.2.2.2.2]⟩), .v (.agg ⟨[.int .i64 a.1, .int .i64 a.2]⟩)] = Fo_i_polar p k a := by
  kernel_rfl
def i_polar (p : Int) (k : Int × Int × Int × Int × Int × Int) (a : Int × Int) : Int × Int × Int :=
  ((i_rest p (wrap64 ((wrap64 ((wrap64 ((wrap64 (2 * k.1)) * a.1)) + (wrap64 (k.2.1 * a.2)))) + k.2.2.2.1))), (i_rest p (wrap64 ((wrap64 ((wrap64 (k.2.1 * a.1)) + (wrap64 ((wrap64 (2 * k.2.2.1)) * a.2)))) + k.2.2.2.2.1))), (i_rest p (wrap64 ((wrap64 ((wrap64 (k.2.2.2.1 * a.1)) + (wrap64 (k.2.2.2.2.1 * a.2)))) + (wrap64 (2 * k.2.2.2.2.2))))))
theorem tot_i_polar (p : Int) (k : Int × Int × Int × Int × Int × Int) (a : Int × Int) (hp : (prB p) = true) : Fo_i_polar p k a = some (i_polar p k a) := by
  try have h0 := prB_ne hp
  unfold Fo_i_polar i_polar
  (try simp only [wI_eq])
  repeat' (first | with_reducible rfl | with_reducible refine chk_opt hp ?_ | with_reducible refine chk_opt h0 ?_ | refine chk_opt (and_all hp fun _ => hp) ?_ | refine chk_opt (and_all hp fun _ => rfl) ?_ | refine ite_opt (fun _ => ?_) (fun _ => ?_) | rfl)
def run_i_polar : List PV → Option (Bool × List TR)
  | [.v (.int .i64 p), .v (.agg ⟨[.int .i64 k0, .int .i64 k1, .int .i64 k2, .int .i64 k3, .int .i64 k4, .int .i64 k5]⟩), .v (.agg ⟨[.int .i64 a0, .int .i64 a1]⟩)] => some (prB p, enc_a3 (i_polar p (k0, k1, k2, k3, k4, k5) (a0, a1)))
  | _ => none
theorem sound_i_polar : Sound Try.prog 56 run_i_polar := by
  refine sound_of de_a3 SO_i_polar (by kernel_rfl) Try.func56 Try.ntmps56 rfl (by kernel_rfl) ?_
  intro W pvs avs rs hargs hrun
  unfold run_i_polar at hrun
  split at hrun
  · simp only [Option.some.injEq, Prod.mk.injEq] at hrun
    obtain ⟨hp, rfl⟩ := hrun
    rename_i p k0 k1 k2 k3 k4 k5 a0 a1
    exact ⟨_, _, _, hargs, rfl, (eq_i_polar p (k0, k1, k2, k3, k4, k5) (a0, a1)).trans (tot_i_polar p (k0, k1, k2, k3, k4, k5) (a0, a1) hp)⟩
  · cases hrun

def S_i_polarLine : Sums := ⟨tblS [(56, run_i_polar), (113, run_i_makeLine)], tblM []⟩
theorem SO_i_polarLine : SumsOK Try.prog S_i_polarLine := ⟨tblS_ok ⟨⟨Try.call56, sound_i_polar⟩, ⟨Try.call113, sound_i_makeLine⟩, True.intro⟩, tblM_ok True.intro⟩
def Fo_i_polarLine (p : Int) (k : Int × Int × Int × Int × Int × Int) (a : Int × Int) : Option ((Int × Int × Int) × Bool) :=
  (if (prB p) = true then (if (((i_polar p k a).1) == 0) = true then (if (((i_polar p k a).2.1) == 0) = true then some ((0, 0, 0), false) else (if (prB p) = true then some ((i_makeLine p ((i_polar p k a).1) ((i_polar p k a).2.1) ((i_polar p k a).2.2)), true) else none)) else (if (prB p) = true then some ((i_makeLine p ((i_polar p k a).1) ((i_polar p k a).2.1) ((i_polar p k a).2.2)), true) else none)) else none)
theorem eq_i_polarLine (p : Int) (k : Int × Int × Int × Int × Int × Int) (a : Int × Int) : execT Try.prog S_i_polarLine 47 30 (fun _ => 1000000) dec_a3_b [.v (.int .i64 p), .v (.agg ⟨[.int .i64 k.1, .int .i64 k.2.1, .int .i64 k.2.2.1, .int .i64 k.2.2.2.1, .int .i64 k.2.2.2.2.1, .int .i64 k.2.2.2.2.2]⟩), .v (.agg ⟨[.int .i64 a.1, .int .i64 a.2]⟩)] = Fo_i_polarLine p k a := by
  kernel_rfl
def i_polarLine (p : Int) (k : Int × Int × Int × Int × Int × Int) (a : Int × Int) : (Int × Int × Int) × Bool :=
  (if (((i_polar p k a).1) == 0) = true then (if (((i_polar p k a).2.1) == 0) = true then ((0, 0, 0), false) else ((i_makeLine p ((i_polar p k a).1) ((i_polar p k a).2.1) ((i_polar p k a).2.2)), true)) else ((i_makeLine p ((i_polar p k a).1) ((i_polar p k a).2.1) ((i_polar p k a).2.2)), true))
theorem tot_i_polarLine (p : Int) (k : Int × Int × Int × Int × Int × Int) (a : Int × Int) (hp : (prB p) = true) : Fo_i_polarLine p k a = some (i_polarLine p k a) := by
  try have h0 := prB_ne hp
  unfold Fo_i_polarLine i_polarLine
  (try simp only [wI_eq])
  repeat' (first | with_reducible rfl | with_reducible refine chk_opt hp ?_ | with_reducible refine chk_opt h0 ?_ | refine chk_opt (and_all hp fun _ => hp) ?_ | refine chk_opt (and_all hp fun _ => rfl) ?_ | refine ite_opt (fun _ => ?_) (fun _ => ?_) | rfl)
def run_i_polarLine : List PV → Option (Bool × List TR)
  | [.v (.int .i64 p), .v (.agg ⟨[.int .i64 k0, .int .i64 k1, .int .i64 k2, .int .i64 k3, .int .i64 k4, .int .i64 k5]⟩), .v (.agg ⟨[.int .i64 a0, .int .i64 a1]⟩)] => some (prB p, enc_a3_b (i_polarLine p (k0, k1, k2, k3, k4, k5) (a0, a1)))
  | _ => none
theorem sound_i_polarLine : Sound Try.prog 47 run_i_polarLine := by
  refine sound_of de_a3_b SO_i_polarLine (by kernel_rfl) Try.func47 Try.ntmps47 rfl (by kernel_rfl) ?_
  intro W pvs avs rs hargs hrun
  unfold run_i_polarLine at hrun
  split at hrun
  · simp only [Option.some.injEq, Prod.mk.injEq] at hrun
    obtain ⟨hp, rfl⟩ := hrun
    rename_i p k0 k1 k2 k3 k4 k5 a0 a1
    exact ⟨_, _, _, hargs, rfl, (eq_i_polarLine p (k0, k1, k2, k3, k4, k5) (a0, a1)).trans (tot_i_polarLine p (k0, k1, k2, k3, k4, k5) (a0, a1) hp)⟩
  · cases hrun

def S_s_l08Polar : Sums := ⟨tblS [(60, run_s_l01Normal)], tblM []⟩
theorem SO_s_l08Polar : SumsOK Try.prog S_s_l08Polar := ⟨tblS_ok ⟨⟨Try.call60, sound_s_l01Normal⟩, True.intro⟩, tblM_ok True.intro⟩
def Fo_s_l08Polar (p : Int) (k : Int × Int × Int × Int × Int × Int) (a : Int × Int) : Option ((Int × Int × Int) × Bool) :=
  (if (!(p == 0)) = true then (if (((wI ((wI ((wI ((wI (2 * k.1)) * a.1)) + (wI (k.2.1 * a.2)))) + k.2.2.2.1)).tmod p) == 0) = true then (if (!(p == 0)) = true then (if (((wI ((wI ((wI (k.2.1 * a.1)) + (wI ((wI (2 * k.2.2.1)) * a.2)))) + k.2.2.2.2.1)).tmod p) == 0) = true then some ((0, 0, 0), false) else (if (!(p == 0)) = true then (if (!(p == 0)) = true then (if (!(p == 0)) = true then (if (prB p) = true then some ((s_l01Normal p ((wI ((wI ((wI ((wI (2 * k.1)) * a.1)) + (wI (k.2.1 * a.2)))) + k.2.2.2.1)).tmod p) ((wI ((wI ((wI (k.2.1 * a.1)) + (wI ((wI (2 * k.2.2.1)) * a.2)))) + k.2.2.2.2.1)).tmod p) ((wI ((wI ((wI (k.2.2.2.1 * a.1)) + (wI (k.2.2.2.2.1 * a.2)))) + (wI (2 * k.2.2.2.2.2)))).tmod p)), true) else none) else none) else none) else none)) else none) else (if (!(p == 0)) = true then (if (!(p == 0)) = true then (if (!(p == 0)) = true then (if (prB p) = true then some ((s_l01Normal p ((wI ((wI ((wI ((wI (2 * k.1)) * a.1)) + (wI (k.2.1 * a.2)))) + k.2.2.2.1)).tmod p) ((wI ((wI ((wI (k.2.1 * a.1)) + (wI ((wI (2 * k.2.2.1)) * a.2)))) + k.2.2.2.2.1)).tmod p) ((wI ((wI ((wI (k.2.2.2.1 * a.1)) + (wI (k.2.2.2.2.1 * a.2)))) + (wI (2 * k.2.2.2.2.2)))).tmod p)), true) else none) else none) else none) else none)) else none)
theorem eq_s_l08Polar (p : Int) (k : Int × Int × Int × Int × Int × Int) (a : Int × Int) : execT Try.prog S_s_l08Polar 51 78 (fun _ => 1000000) dec_a3_b [.v (.int .i64 p), .v (.agg ⟨[.int .i64 k.1, .int .i64 k.2.1, .int .i64 k.2.2.1, .int .i64 k.2.2.2.1, .int .i64 k.2.2.2.2.1, .int .i64 k.2.2.2.2.2]⟩), .v (.agg ⟨[.int .i64 a.1, .int .i64 a.2]⟩)] = Fo_s_l08Polar p k a := by
  kernel_rfl
def s_l08Polar (p : Int) (k : Int × Int × Int × Int × Int × Int) (a : Int × Int) : (Int × Int × Int) × Bool :=
  (if (((wrap64 ((wrap64 ((wrap64 ((wrap64 (2 * k.1)) * a.1)) + (wrap64 (k.2.1 * a.2)))) + k.2.2.2.1)).tmod p) == 0) = true then (if (((wrap64 ((wrap64 ((wrap64 (k.2.1 * a.1)) + (wrap64 ((wrap64 (2 * k.2.2.1)) * a.2)))) + k.2.2.2.2.1)).tmod p) == 0) = true then ((0, 0, 0), false) else ((s_l01Normal p ((wrap64 ((wrap64 ((wrap64 ((wrap64 (2 * k.1)) * a.1)) + (wrap64 (k.2.1 * a.2)))) + k.2.2.2.1)).tmod p) ((wrap64 ((wrap64 ((wrap64 (k.2.1 * a.1)) + (wrap64 ((wrap64 (2 * k.2.2.1)) * a.2)))) + k.2.2.2.2.1)).tmod p) ((wrap64 ((wrap64 ((wrap64 (k.2.2.2.1 * a.1)) + (wrap64 (k.2.2.2.2.1 * a.2)))) + (wrap64 (2 * k.2.2.2.2.2)))).tmod p)), true)) else ((s_l01Normal p ((wrap64 ((wrap64 ((wrap64 ((wrap64 (2 * k.1)) * a.1)) + (wrap64 (k.2.1 * a.2)))) + k.2.2.2.1)).tmod p) ((wrap64 ((wrap64 ((wrap64 (k.2.1 * a.1)) + (wrap64 ((wrap64 (2 * k.2.2.1)) * a.2)))) + k.2.2.2.2.1)).tmod p) ((wrap64 ((wrap64 ((wrap64 (k.2.2.2.1 * a.1)) + (wrap64 (k.2.2.2.2.1 * a.2)))) + (wrap64 (2 * k.2.2.2.2.2)))).tmod p)), true))
theorem tot_s_l08Polar (p : Int) (k : Int × Int × Int × Int × Int × Int) (a : Int × Int) (hp : (prB p) = true) : Fo_s_l08Polar p k a = some (s_l08Polar p k a) := by
  try have h0 := prB_ne hp
  unfold Fo_s_l08Polar s_l08Polar
  (try simp only [wI_eq])
  repeat' (first | with_reducible rfl | with_reducible refine chk_opt hp ?_ | with_reducible refine chk_opt h0 ?_ | refine chk_opt (and_all hp fun _ => hp) ?_ | refine chk_opt (and_all hp fun _ => rfl) ?_ | refine ite_opt (fun _ => ?_) (fun _ => ?_) | rfl)
def run_s_l08Polar : List PV → Option (Bool × List TR)
  | [.v (.int .i64 p), .v (.agg ⟨[.int .i64 k0, .int .i64 k1, .int .i64 k2, .int .i64 k3, .int .i64 k4, .int .i64 k5]⟩), .v (.agg ⟨[.int .i64 a0, .int .i64 a1]⟩)] => some (prB p, enc_a3_b (s_l08Polar p (k0, k1, k2, k3, k4, k5) (a0, a1)))
  | _ => none
theorem sound_s_l08Polar : Sound Try.prog 51 run_s_l08Polar := by
  refine sound_of de_a3_b SO_s_l08Polar (by kernel_rfl) Try.func51 Try.ntmps51 rfl (by kernel_rfl) ?_
  intro W pvs avs rs hargs hrun
  unfold run_s_l08Polar at hrun
  split at hrun
  · simp only [Option.some.injEq, Prod.mk.injEq] at hrun
    obtain ⟨hp, rfl⟩ := hrun
    rename_i p k0 k1 k2 k3 k4 k5 a0 a1
    exact ⟨_, _, _, hargs, rfl, (eq_s_l08Polar p (k0, k1, k2, k3, k4, k5) (a0, a1)).trans (tot_s_l08Polar p (k0, k1, k2, k3, k4, k5) (a0, a1) hp)⟩
  · cases hrun

def S_i_threeBy : Sums := ⟨tblS [(85, run_i_rest)], tblM []⟩
theorem SO_i_threeBy : SumsOK Try.prog S_i_threeBy := ⟨tblS_ok ⟨⟨Try.call85, sound_i_rest⟩, True.intro⟩, tblM_ok True.intro⟩
def Fo_i_threeBy (p : Int) (a : Int × Int × Int) (b : Int × Int × Int) (c : Int × Int × Int) : Option (Int) :=
  (if (prB p) = true then (if (prB p) = true then (if (prB p) = true then (if (prB p) = true then some (i_rest p (wI ((wI ((wI (a.1 * (i_rest p (wI ((wI (b.2.1 * c.2.2)) - (wI (b.2.2 * c.2.1))))))) + (wI (a.2.1 * (i_rest p (wI ((wI (b.2.2 * c.1)) - (wI (b.1 * c.2.2))))))))) + (wI (a.2.2 * (i_rest p (wI ((wI (b.1 * c.2.1)) - (wI (b.2.1 * c.1)))))))))) else none) else none) else none) else none)
theorem eq_i_threeBy (p : Int) (a : Int × Int × Int) (b : Int × Int × Int) (c : Int × Int × Int) : execT Try.prog S_i_threeBy 112 67 (fun _ => 1000000) dec_i [.v (.int .i64 p), .v (.agg ⟨[.int .i64 a.1, .int .i64 a.2.1, .int .i64 a.2.2]⟩), .v (.agg ⟨[.int .i64 b.1, .int .i64 b.2.1, .int .i64 b.2.2]⟩), .v (.agg ⟨[.int .i64 c.1, .int .i64 c.2.1, .int .i64 c.2.2]⟩)] = Fo_i_threeBy p a b c := by
  kernel_rfl
def i_threeBy (p : Int) (a : Int × Int × Int) (b : Int × Int × Int) (c : Int × Int × Int) : Int :=
  (i_rest p (wrap64 ((wrap64 ((wrap64 (a.1 * (i_rest p (wrap64 ((wrap64 (b.2.1 * c.2.2)) - (wrap64 (b.2.2 * c.2.1))))))) + (wrap64 (a.2.1 * (i_rest p (wrap64 ((wrap64 (b.2.2 * c.1)) - (wrap64 (b.1 * c.2.2))))))))) + (wrap64 (a.2.2 * (i_rest p (wrap64 ((wrap64 (b.1 * c.2.1)) - (wrap64 (b.2.1 * c.1))))))))))
theorem tot_i_threeBy (p : Int) (a : Int × Int × Int) (b : Int × Int × Int) (c : Int × Int × Int) (hp : (prB p) = true) : Fo_i_threeBy p a b c = some (i_threeBy p a b c) := by
  try have h0 := prB_ne hp
  unfold Fo_i_threeBy i_threeBy
  (try simp only [wI_eq])
  repeat' (first | with_reducible rfl | with_reducible refine chk_opt hp ?_ | with_reducible refine chk_opt h0 ?_ | refine chk_opt (and_all hp fun _ => hp) ?_ | refine chk_opt (and_all hp fun _ => rfl) ?_ | refine ite_opt (fun _ => ?_) (fun _ => ?_) | rfl)
def run_i_threeBy : List PV → Option (Bool × List TR)
  | [.v (.int .i64 p), .v (.agg ⟨[.int .i64 a0, .int .i64 a1, .int .i64 a2]⟩), .v (.agg ⟨[.int .i64 b0, .int .i64 b1, .int .i64 b2]⟩), .v (.agg ⟨[.int .i64 c0, .int .i64 c1, .int .i64 c2]⟩)] => some (prB p, enc_i (i_threeBy p (a0, a1, a2) (b0, b1, b2) (c0, c1, c2)))
  | _ => none
theorem sound_i_threeBy : Sound Try.prog 112 run_i_threeBy := by
  refine sound_of de_i SO_i_threeBy (by kernel_rfl) Try.func112 Try.ntmps112 rfl (by kernel_rfl) ?_
  intro W pvs avs rs hargs hrun
  unfold run_i_threeBy at hrun
  split at hrun
  · simp only [Option.some.injEq, Prod.mk.injEq] at hrun
    obtain ⟨hp, rfl⟩ := hrun
    rename_i p a0 a1 a2 b0 b1 b2 c0 c1 c2
    exact ⟨_, _, _, hargs, rfl, (eq_i_threeBy p (a0, a1, a2) (b0, b1, b2) (c0, c1, c2)).trans (tot_i_threeBy p (a0, a1, a2) (b0, b1, b2) (c0, c1, c2) hp)⟩
  · cases hrun

def S_i_determinant : Sums := ⟨tblS [(112, run_i_threeBy)], tblM []⟩
theorem SO_i_determinant : SumsOK Try.prog S_i_determinant := ⟨tblS_ok ⟨⟨Try.call112, sound_i_threeBy⟩, True.intro⟩, tblM_ok True.intro⟩
def Fo_i_determinant (p : Int) (k : Int × Int × Int × Int × Int × Int) : Option (Int) :=
  (if (prB p) = true then some (i_threeBy p (wI (2 * k.1), k.2.1, k.2.2.2.1) (k.2.1, wI (2 * k.2.2.1), k.2.2.2.2.1) (k.2.2.2.1, k.2.2.2.2.1, wI (2 * k.2.2.2.2.2))) else none)
theorem eq_i_determinant (p : Int) (k : Int × Int × Int × Int × Int × Int) : execT Try.prog S_i_determinant 45 31 (fun _ => 1000000) dec_i [.v (.int .i64 p), .v (.agg ⟨[.int .i64 k.1, .int .i64 k.2.1, .int .i64 k.2.2.1, .int .i64 k.2.2.2.1, .int .i64 k.2.2.2.2.1, .int .i64 k.2.2.2.2.2]⟩)] = Fo_i_determinant p k := by
  kernel_rfl
def i_determinant (p : Int) (k : Int × Int × Int × Int × Int × Int) : Int :=
  (i_threeBy p (wrap64 (2 * k.1), k.2.1, k.2.2.2.1) (k.2.1, wrap64 (2 * k.2.2.1), k.2.2.2.2.1) (k.2.2.2.1, k.2.2.2.2.1, wrap64 (2 * k.2.2.2.2.2)))
theorem tot_i_determinant (p : Int) (k : Int × Int × Int × Int × Int × Int) (hp : (prB p) = true) : Fo_i_determinant p k = some (i_determinant p k) := by
  try have h0 := prB_ne hp
  unfold Fo_i_determinant i_determinant
  (try simp only [wI_eq])
  repeat' (first | with_reducible rfl | with_reducible refine chk_opt hp ?_ | with_reducible refine chk_opt h0 ?_ | refine chk_opt (and_all hp fun _ => hp) ?_ | refine chk_opt (and_all hp fun _ => rfl) ?_ | refine ite_opt (fun _ => ?_) (fun _ => ?_) | rfl)
def run_i_determinant : List PV → Option (Bool × List TR)
  | [.v (.int .i64 p), .v (.agg ⟨[.int .i64 k0, .int .i64 k1, .int .i64 k2, .int .i64 k3, .int .i64 k4, .int .i64 k5]⟩)] => some (prB p, enc_i (i_determinant p (k0, k1, k2, k3, k4, k5)))
  | _ => none
theorem sound_i_determinant : Sound Try.prog 45 run_i_determinant := by
  refine sound_of de_i SO_i_determinant (by kernel_rfl) Try.func45 Try.ntmps45 rfl (by kernel_rfl) ?_
  intro W pvs avs rs hargs hrun
  unfold run_i_determinant at hrun
  split at hrun
  · simp only [Option.some.injEq, Prod.mk.injEq] at hrun
    obtain ⟨hp, rfl⟩ := hrun
    rename_i p k0 k1 k2 k3 k4 k5
    exact ⟨_, _, _, hargs, rfl, (eq_i_determinant p (k0, k1, k2, k3, k4, k5)).trans (tot_i_determinant p (k0, k1, k2, k3, k4, k5) hp)⟩
  · cases hrun

def S_s_l08Determinant : Sums := ⟨tblS [(90, run_s_l01Mod)], tblM []⟩
theorem SO_s_l08Determinant : SumsOK Try.prog S_s_l08Determinant := ⟨tblS_ok ⟨⟨Try.call90, sound_s_l01Mod⟩, True.intro⟩, tblM_ok True.intro⟩
def Fo_s_l08Determinant (p : Int) (k : Int × Int × Int × Int × Int × Int) : Option (Int) :=
  (if (prB p) = true then some (s_l01Mod (wI ((wI ((wI ((wI (2 * k.1)) * (wI ((wI ((wI (2 * k.2.2.1)) * (wI (2 * k.2.2.2.2.2)))) - (wI (k.2.2.2.2.1 * k.2.2.2.2.1)))))) - (wI (k.2.1 * (wI ((wI (k.2.1 * (wI (2 * k.2.2.2.2.2)))) - (wI (k.2.2.2.2.1 * k.2.2.2.1)))))))) + (wI (k.2.2.2.1 * (wI ((wI (k.2.1 * k.2.2.2.2.1)) - (wI ((wI (2 * k.2.2.1)) * k.2.2.2.1)))))))) p) else none)
theorem eq_s_l08Determinant (p : Int) (k : Int × Int × Int × Int × Int × Int) : execT Try.prog S_s_l08Determinant 49 57 (fun _ => 1000000) dec_i [.v (.int .i64 p), .v (.agg ⟨[.int .i64 k.1, .int .i64 k.2.1, .int .i64 k.2.2.1, .int .i64 k.2.2.2.1, .int .i64 k.2.2.2.2.1, .int .i64 k.2.2.2.2.2]⟩)] = Fo_s_l08Determinant p k := by
  kernel_rfl
def s_l08Determinant (p : Int) (k : Int × Int × Int × Int × Int × Int) : Int :=
  (s_l01Mod (wrap64 ((wrap64 ((wrap64 ((wrap64 (2 * k.1)) * (wrap64 ((wrap64 ((wrap64 (2 * k.2.2.1)) * (wrap64 (2 * k.2.2.2.2.2)))) - (wrap64 (k.2.2.2.2.1 * k.2.2.2.2.1)))))) - (wrap64 (k.2.1 * (wrap64 ((wrap64 (k.2.1 * (wrap64 (2 * k.2.2.2.2.2)))) - (wrap64 (k.2.2.2.2.1 * k.2.2.2.1)))))))) + (wrap64 (k.2.2.2.1 * (wrap64 ((wrap64 (k.2.1 * k.2.2.2.2.1)) - (wrap64 ((wrap64 (2 * k.2.2.1)) * k.2.2.2.1)))))))) p)
theorem tot_s_l08Determinant (p : Int) (k : Int × Int × Int × Int × Int × Int) (hp : (prB p) = true) : Fo_s_l08Determinant p k = some (s_l08Determinant p k) := by
  try have h0 := prB_ne hp
  unfold Fo_s_l08Determinant s_l08Determinant
  (try simp only [wI_eq])
  repeat' (first | with_reducible rfl | with_reducible refine chk_opt hp ?_ | with_reducible refine chk_opt h0 ?_ | refine chk_opt (and_all hp fun _ => hp) ?_ | refine chk_opt (and_all hp fun _ => rfl) ?_ | refine ite_opt (fun _ => ?_) (fun _ => ?_) | rfl)
def run_s_l08Determinant : List PV → Option (Bool × List TR)
  | [.v (.int .i64 p), .v (.agg ⟨[.int .i64 k0, .int .i64 k1, .int .i64 k2, .int .i64 k3, .int .i64 k4, .int .i64 k5]⟩)] => some (prB p, enc_i (s_l08Determinant p (k0, k1, k2, k3, k4, k5)))
  | _ => none
theorem sound_s_l08Determinant : Sound Try.prog 49 run_s_l08Determinant := by
  refine sound_of de_i SO_s_l08Determinant (by kernel_rfl) Try.func49 Try.ntmps49 rfl (by kernel_rfl) ?_
  intro W pvs avs rs hargs hrun
  unfold run_s_l08Determinant at hrun
  split at hrun
  · simp only [Option.some.injEq, Prod.mk.injEq] at hrun
    obtain ⟨hp, rfl⟩ := hrun
    rename_i p k0 k1 k2 k3 k4 k5
    exact ⟨_, _, _, hargs, rfl, (eq_s_l08Determinant p (k0, k1, k2, k3, k4, k5)).trans (tot_s_l08Determinant p (k0, k1, k2, k3, k4, k5) hp)⟩
  · cases hrun

def S_s_l08Value : Sums := ⟨tblS [(90, run_s_l01Mod)], tblM []⟩
theorem SO_s_l08Value : SumsOK Try.prog S_s_l08Value := ⟨tblS_ok ⟨⟨Try.call90, sound_s_l01Mod⟩, True.intro⟩, tblM_ok True.intro⟩
def Fo_s_l08Value (p : Int) (k : Int × Int × Int × Int × Int × Int) (a : Int × Int) : Option (Int) :=
  (if (prB p) = true then some (s_l01Mod (wI ((wI ((wI ((wI ((wI ((wI ((wI (k.1 * a.1)) * a.1)) + (wI ((wI (k.2.1 * a.1)) * a.2)))) + (wI ((wI (k.2.2.1 * a.2)) * a.2)))) + (wI (k.2.2.2.1 * a.1)))) + (wI (k.2.2.2.2.1 * a.2)))) + k.2.2.2.2.2)) p) else none)
theorem eq_s_l08Value (p : Int) (k : Int × Int × Int × Int × Int × Int) (a : Int × Int) : execT Try.prog S_s_l08Value 50 48 (fun _ => 1000000) dec_i [.v (.int .i64 p), .v (.agg ⟨[.int .i64 k.1, .int .i64 k.2.1, .int .i64 k.2.2.1, .int .i64 k.2.2.2.1, .int .i64 k.2.2.2.2.1, .int .i64 k.2.2.2.2.2]⟩), .v (.agg ⟨[.int .i64 a.1, .int .i64 a.2]⟩)] = Fo_s_l08Value p k a := by
  kernel_rfl
def s_l08Value (p : Int) (k : Int × Int × Int × Int × Int × Int) (a : Int × Int) : Int :=
  (s_l01Mod (wrap64 ((wrap64 ((wrap64 ((wrap64 ((wrap64 ((wrap64 ((wrap64 (k.1 * a.1)) * a.1)) + (wrap64 ((wrap64 (k.2.1 * a.1)) * a.2)))) + (wrap64 ((wrap64 (k.2.2.1 * a.2)) * a.2)))) + (wrap64 (k.2.2.2.1 * a.1)))) + (wrap64 (k.2.2.2.2.1 * a.2)))) + k.2.2.2.2.2)) p)
theorem tot_s_l08Value (p : Int) (k : Int × Int × Int × Int × Int × Int) (a : Int × Int) (hp : (prB p) = true) : Fo_s_l08Value p k a = some (s_l08Value p k a) := by
  try have h0 := prB_ne hp
  unfold Fo_s_l08Value s_l08Value
  (try simp only [wI_eq])
  repeat' (first | with_reducible rfl | with_reducible refine chk_opt hp ?_ | with_reducible refine chk_opt h0 ?_ | refine chk_opt (and_all hp fun _ => hp) ?_ | refine chk_opt (and_all hp fun _ => rfl) ?_ | refine ite_opt (fun _ => ?_) (fun _ => ?_) | rfl)
def run_s_l08Value : List PV → Option (Bool × List TR)
  | [.v (.int .i64 p), .v (.agg ⟨[.int .i64 k0, .int .i64 k1, .int .i64 k2, .int .i64 k3, .int .i64 k4, .int .i64 k5]⟩), .v (.agg ⟨[.int .i64 a0, .int .i64 a1]⟩)] => some (prB p, enc_i (s_l08Value p (k0, k1, k2, k3, k4, k5) (a0, a1)))
  | _ => none
theorem sound_s_l08Value : Sound Try.prog 50 run_s_l08Value := by
  refine sound_of de_i SO_s_l08Value (by kernel_rfl) Try.func50 Try.ntmps50 rfl (by kernel_rfl) ?_
  intro W pvs avs rs hargs hrun
  unfold run_s_l08Value at hrun
  split at hrun
  · simp only [Option.some.injEq, Prod.mk.injEq] at hrun
    obtain ⟨hp, rfl⟩ := hrun
    rename_i p k0 k1 k2 k3 k4 k5 a0 a1
    exact ⟨_, _, _, hargs, rfl, (eq_s_l08Value p (k0, k1, k2, k3, k4, k5) (a0, a1)).trans (tot_s_l08Value p (k0, k1, k2, k3, k4, k5) (a0, a1) hp)⟩
  · cases hrun

def S_i_row : Sums := ⟨tblS [], tblM []⟩
theorem SO_i_row : SumsOK Try.prog S_i_row := ⟨tblS_ok True.intro, tblM_ok True.intro⟩
def Fo_i_row (p : Int) (a : Int × Int) : Option (Int × Int × Int × Int × Int × Int) :=
  (if (!(p == 0)) = true then (if (!(p == 0)) = true then (if (!(p == 0)) = true then some ((wI (a.1 * a.1)).tmod p, (wI (a.1 * a.2)).tmod p, (wI (a.2 * a.2)).tmod p, a.1, a.2, 1) else none) else none) else none)
theorem eq_i_row (p : Int) (a : Int × Int) : execT Try.prog S_i_row 83 29 (fun _ => 1000000) dec_a6 [.v (.int .i64 p), .v (.agg ⟨[.int .i64 a.1, .int .i64 a.2]⟩)] = Fo_i_row p a := by
  kernel_rfl
def i_row (p : Int) (a : Int × Int) : Int × Int × Int × Int × Int × Int :=
  ((wrap64 (a.1 * a.1)).tmod p, (wrap64 (a.1 * a.2)).tmod p, (wrap64 (a.2 * a.2)).tmod p, a.1, a.2, 1)
theorem tot_i_row (p : Int) (a : Int × Int) (hp : (prB p) = true) : Fo_i_row p a = some (i_row p a) := by
  try have h0 := prB_ne hp
  unfold Fo_i_row i_row
  (try simp only [wI_eq])
  repeat' (first | with_reducible rfl | with_reducible refine chk_opt hp ?_ | with_reducible refine chk_opt h0 ?_ | refine chk_opt (and_all hp fun _ => hp) ?_ | refine chk_opt (and_all hp fun _ => rfl) ?_ | refine ite_opt (fun _ => ?_) (fun _ => ?_) | rfl)
def run_i_row : List PV → Option (Bool × List TR)
  | [.v (.int .i64 p), .v (.agg ⟨[.int .i64 a0, .int .i64 a1]⟩)] => some (prB p, enc_a6 (i_row p (a0, a1)))
  | _ => none
theorem sound_i_row : Sound Try.prog 83 run_i_row := by
  refine sound_of de_a6 SO_i_row (by kernel_rfl) Try.func83 Try.ntmps83 rfl (by kernel_rfl) ?_
  intro W pvs avs rs hargs hrun
  unfold run_i_row at hrun
  split at hrun
  · simp only [Option.some.injEq, Prod.mk.injEq] at hrun
    obtain ⟨hp, rfl⟩ := hrun
    rename_i p a0 a1
    exact ⟨_, _, _, hargs, rfl, (eq_i_row p (a0, a1)).trans (tot_i_row p (a0, a1) hp)⟩
  · cases hrun

def S_i_isOnConic : Sums := ⟨tblS [(83, run_i_row)], tblM []⟩
theorem SO_i_isOnConic : SumsOK Try.prog S_i_isOnConic := ⟨tblS_ok ⟨⟨Try.call83, sound_i_row⟩, True.intro⟩, tblM_ok True.intro⟩
def Fo_i_isOnConic (p : Int) (a : Int × Int) (k : Int × Int × Int × Int × Int × Int) : Option (Bool) :=
  (if (prB p) = true then (if (!(p == 0)) = true then some (((wI ((wI ((wI ((wI ((wI ((wI (0 + (wI (((i_row p a).1) * k.1)))) + (wI (((i_row p a).2.1) * k.2.1)))) + (wI (((i_row p a).2.2.1) * k.2.2.1)))) + (wI (((i_row p a).2.2.2.1) * k.2.2.2.1)))) + (wI (((i_row p a).2.2.2.2.1) * k.2.2.2.2.1)))) + (wI (((i_row p a).2.2.2.2.2) * k.2.2.2.2.2)))).tmod p) == 0) else none) else none)
theorem eq_i_isOnConic (p : Int) (a : Int × Int) (k : Int × Int × Int × Int × Int × Int) : execT Try.prog S_i_isOnConic 46 29 (fun _ => 1000000) dec_b [.v (.int .i64 p), .v (.agg ⟨[.int .i64 a.1, .int .i64 a.2]⟩), .v (.agg ⟨[.int .i64 k.1, .int .i64 k.2.1, .int .i64 k.2.2.1, .int .i64 k.2.2.2.1, .int .i64 k.2.2.2.2.1, .int .i64 k.2.2.2.2.2]⟩)] = Fo_i_isOnConic p a k := by
  kernel_rfl
def i_isOnConic (p : Int) (a : Int × Int) (k : Int × Int × Int × Int × Int × Int) : Bool :=
  ((wrap64 ((wrap64 ((wrap64 ((wrap64 ((wrap64 ((wrap64 (0 + (wrap64 (((i_row p a).1) * k.1)))) + (wrap64 (((i_row p a).2.1) * k.2.1)))) + (wrap64 (((i_row p a).2.2.1) * k.2.2.1)))) + (wrap64 (((i_row p a).2.2.2.1) * k.2.2.2.1)))) + (wrap64 (((i_row p a).2.2.2.2.1) * k.2.2.2.2.1)))) + (wrap64 (((i_row p a).2.2.2.2.2) * k.2.2.2.2.2)))).tmod p) == 0
theorem tot_i_isOnConic (p : Int) (a : Int × Int) (k : Int × Int × Int × Int × Int × Int) (hp : (prB p) = true) : Fo_i_isOnConic p a k = some (i_isOnConic p a k) := by
  try have h0 := prB_ne hp
  unfold Fo_i_isOnConic i_isOnConic
  (try simp only [wI_eq])
  repeat' (first | with_reducible rfl | with_reducible refine chk_opt hp ?_ | with_reducible refine chk_opt h0 ?_ | refine chk_opt (and_all hp fun _ => hp) ?_ | refine chk_opt (and_all hp fun _ => rfl) ?_ | refine ite_opt (fun _ => ?_) (fun _ => ?_) | rfl)
def run_i_isOnConic : List PV → Option (Bool × List TR)
  | [.v (.int .i64 p), .v (.agg ⟨[.int .i64 a0, .int .i64 a1]⟩), .v (.agg ⟨[.int .i64 k0, .int .i64 k1, .int .i64 k2, .int .i64 k3, .int .i64 k4, .int .i64 k5]⟩)] => some (prB p, enc_b (i_isOnConic p (a0, a1) (k0, k1, k2, k3, k4, k5)))
  | _ => none
theorem sound_i_isOnConic : Sound Try.prog 46 run_i_isOnConic := by
  refine sound_of de_b SO_i_isOnConic (by kernel_rfl) Try.func46 Try.ntmps46 rfl (by kernel_rfl) ?_
  intro W pvs avs rs hargs hrun
  unfold run_i_isOnConic at hrun
  split at hrun
  · simp only [Option.some.injEq, Prod.mk.injEq] at hrun
    obtain ⟨hp, rfl⟩ := hrun
    rename_i p a0 a1 k0 k1 k2 k3 k4 k5
    exact ⟨_, _, _, hargs, rfl, (eq_i_isOnConic p (a0, a1) (k0, k1, k2, k3, k4, k5)).trans (tot_i_isOnConic p (a0, a1) (k0, k1, k2, k3, k4, k5) hp)⟩
  · cases hrun

def S_i_conicKind : Sums := ⟨tblS [(85, run_i_rest), (114, run_i_squareKind)], tblM []⟩
theorem SO_i_conicKind : SumsOK Try.prog S_i_conicKind := ⟨tblS_ok ⟨⟨Try.call85, sound_i_rest⟩, ⟨Try.call114, sound_i_squareKind⟩, True.intro⟩, tblM_ok True.intro⟩
def Fo_i_conicKind (p : Int) (k : Int × Int × Int × Int × Int × Int) : Option (Int) :=
  (if (prB p) = true then (if (prB p) = true then some (i_squareKind p (i_rest p (wI ((wI (k.2.1 * k.2.1)) - (wI ((wI (4 * k.1)) * k.2.2.1)))))) else none) else none)
theorem eq_i_conicKind (p : Int) (k : Int × Int × Int × Int × Int × Int) : execT Try.prog S_i_conicKind 54 21 (fun _ => 1000000) dec_i [.v (.int .i64 p), .v (.agg ⟨[.int .i64 k.1, .int .i64 k.2.1, .int .i64 k.2.2.1, .int .i64 k.2.2.2.1, .int .i64 k.2.2.2.2.1, .int .i64 k.2.2.2.2.2]⟩)] = Fo_i_conicKind p k := by
  kernel_rfl
def i_conicKind (p : Int) (k : Int × Int × Int × Int × Int × Int) : Int :=
  (i_squareKind p (i_rest p (wrap64 ((wrap64 (k.2.1 * k.2.1)) - (wrap64 ((wrap64 (4 * k.1)) * k.2.2.1))))))
theorem tot_i_conicKind (p : Int) (k : Int × Int × Int × Int × Int × Int) (hp : (prB p) = true) : Fo_i_conicKind p k = some (i_conicKind p k) := by
  try have h0 := prB_ne hp
  unfold Fo_i_conicKind i_conicKind
  (try simp only [wI_eq])
  repeat' (first | with_reducible rfl | with_reducible refine chk_opt hp ?_ | with_reducible refine chk_opt h0 ?_ | refine chk_opt (and_all hp fun _ => hp) ?_ | refine chk_opt (and_all hp fun _ => rfl) ?_ | refine ite_opt (fun _ => ?_) (fun _ => ?_) | rfl)
def run_i_conicKind : List PV → Option (Bool × List TR)
  | [.v (.int .i64 p), .v (.agg ⟨[.int .i64 k0, .int .i64 k1, .int .i64 k2, .int .i64 k3, .int .i64 k4, .int .i64 k5]⟩)] => some (prB p, enc_i (i_conicKind p (k0, k1, k2, k3, k4, k5)))
  | _ => none
theorem sound_i_conicKind : Sound Try.prog 54 run_i_conicKind := by
  refine sound_of de_i SO_i_conicKind (by kernel_rfl) Try.func54 Try.ntmps54 rfl (by kernel_rfl) ?_
  intro W pvs avs rs hargs hrun
  unfold run_i_conicKind at hrun
  split at hrun
  · simp only [Option.some.injEq, Prod.mk.injEq] at hrun
    obtain ⟨hp, rfl⟩ := hrun
    rename_i p k0 k1 k2 k3 k4 k5
    exact ⟨_, _, _, hargs, rfl, (eq_i_conicKind p (k0, k1, k2, k3, k4, k5)).trans (tot_i_conicKind p (k0, k1, k2, k3, k4, k5) hp)⟩
  · cases hrun

def S_s_l01Root : Sums := ⟨tblS [], tblM []⟩
theorem SO_s_l01Root : SumsOK Try.prog S_s_l01Root := ⟨tblS_ok True.intro, tblM_ok True.intro⟩
def T_s_l01Root_0 (a : Int) (p : Int) (r : Int) : Tab := ⟨[.val (.int .i64 a), .val (.int .i64 p), .junk, .junk, .val (.int .i64 0), .val (.bool false), .val (.int .i64 r), .junk, .junk, .junk, .junk, .junk, .junk, .junk, .junk, .junk, .junk, .junk, .junk, .junk], []⟩
def X_s_l01Root_0 (P : Program) (fu : Nat) (a : Int) (p : Int) (f : Nat) (r : Int) : Option (Int × Bool) := loopK (exec P S_s_l01Root 20 (fun _ => fu + 100) (Code.sub [1, 0, 1, 0, 0] (bodyF P 134))) f (T_s_l01Root_0 a p r) (kBlock 0 (kSeq (fun zs9 => exec P S_s_l01Root 20 (fun _ => fu + 100) (Code.sub [1, 1] (bodyF P 134)) zs9 (finT P 134 dec_i_b)) (finT P 134 dec_i_b)))
def B_s_l01Root_0 (a : Int) (p : Int) (rec0 : Int → Option (Int × Bool)) (r : Int) : Option (Int × Bool) :=
  (if (decide (r < p)) = true then (if (!(p == 0)) = true then (if (((wI (r * r)).tmod p) == a) = true then some (r, true) else rec0 (wI (r + 1))) else none) else some (0, false))
def L_s_l01Root_0 (fu : Nat) (a : Int) (p : Int) : Nat → Int → Option (Int × Bool)
  | 0, _ => none
  | f + 1, r => B_s_l01Root_0 a p (L_s_l01Root_0 fu a p f) r
theorem loop_s_l01Root_0 (fu : Nat) (a : Int) (p : Int) : ∀ (f : Nat) (r : Int), X_s_l01Root_0 Try.prog fu a p f r = L_s_l01Root_0 fu a p f r := by
  intro f
  induction f with
  | zero => intros; rfl
  | succ f ih =>
    intro r
    have h1 : X_s_l01Root_0 Try.prog fu a p (f + 1) r = B_s_l01Root_0 a p (X_s_l01Root_0 Try.prog fu a p f) r := by kernel_rfl
    have h2 : X_s_l01Root_0 Try.prog fu a p f = L_s_l01Root_0 fu a p f := by funext r; exact ih r
    rw [h1, h2]
    rfl
def G_s_l01Root (a : Int) (p : Int) (lo0 : Int → Option (Int × Bool)) : Option (Int × Bool) :=
  lo0 0
def Fo_s_l01Root (fu : Nat) (a : Int) (p : Int) : Option (Int × Bool) := G_s_l01Root a p (L_s_l01Root_0 fu a p (fu + 100))
theorem eqg_s_l01Root (fu : Nat) (a : Int) (p : Int) : execT Try.prog S_s_l01Root 134 20 (fun _ => fu + 100) dec_i_b [.v (.int .i64 a), .v (.int .i64 p)] = G_s_l01Root a p (L_s_l01Root_0 fu a p (fu + 100)) := by
  have h1 : execT Try.prog S_s_l01Root 134 20 (fun _ => fu + 100) dec_i_b [.v (.int .i64 a), .v (.int .i64 p)] = G_s_l01Root a p (X_s_l01Root_0 Try.prog fu a p (fu + 100)) := by kernel_rfl
  have c0 : X_s_l01Root_0 Try.prog fu a p (fu + 100) = L_s_l01Root_0 fu a p (fu + 100) := by funext r; exact loop_s_l01Root_0 fu a p (fu + 100) r
  rw [h1, c0]
theorem eq_s_l01Root (fu : Nat) (a : Int) (p : Int) : execT Try.prog S_s_l01Root 134 20 (fun _ => fu + 100) dec_i_b [.v (.int .i64 a), .v (.int .i64 p)] = Fo_s_l01Root fu a p := eqg_s_l01Root fu a p
def s_l01Root (a p : Int) : Int × Bool := ((List.range p.toNat).findSome? (fun k : Nat => if ((wrap64 ((k : Int) * (k : Int))).tmod p == a) = true then some ((k : Int), true) else none)).getD (0, false)
theorem lo0_s_l01Root (a p : Int) (hp : prB p = true) {F : Nat} (hF : p.toNat < F) : L_s_l01Root_0 1000000 a p F 0 = some (((List.range p.toNat).findSome? (fun k : Nat => if ((wrap64 ((k : Int) * (k : Int))).tmod p == a) = true then some ((k : Int), true) else none)).getD (0, false)) := by
  obtain ⟨h1, h0, hpn⟩ := prB_nat hp
  exact seek (L := fun f i => L_s_l01Root_0 1000000 a p f i) (n := p.toNat) (q := (fun k : Nat => if ((wrap64 ((k : Int) * (k : Int))).tmod p == a) = true then some ((k : Int), true) else none)) (e := (0, false)) hF
    (fun f k hk => by
      show B_s_l01Root_0 a p (L_s_l01Root_0 1000000 a p f) (k : Int) = _
      unfold B_s_l01Root_0
      rw [if_pos (cndp hk), if_pos (prB_ne hp), wrap_add1 hk (by omega), wI_eq]
      generalize ((wrap64 ((k : Int) * (k : Int))).tmod p == a) = c
      cases c <;> rfl)
    (fun f => by
      show B_s_l01Root_0 a p (L_s_l01Root_0 1000000 a p f) ((p.toNat : Nat) : Int) = _
      unfold B_s_l01Root_0
      rw [if_neg (by simp; omega)])
theorem tot_s_l01Root (a : Int) (p : Int) (hp : (prB p) = true) : Fo_s_l01Root 1000000 a p = some (s_l01Root a p) := by
  have h1 := (prB_nat hp).1
  unfold Fo_s_l01Root G_s_l01Root
  exact lo0_s_l01Root _ _ hp (by omega)
def run_s_l01Root : List PV → Option (Bool × List TR)
  | [.v (.int .i64 a), .v (.int .i64 p)] => some (prB p, enc_i_b (s_l01Root a p))
  | _ => none
theorem sound_s_l01Root : Sound Try.prog 134 run_s_l01Root := by
  refine sound_of de_i_b SO_s_l01Root (by kernel_rfl) Try.func134 Try.ntmps134 rfl (by kernel_rfl) ?_
  intro W pvs avs rs hargs hrun
  unfold run_s_l01Root at hrun
  split at hrun
  · simp only [Option.some.injEq, Prod.mk.injEq] at hrun
    obtain ⟨hp, rfl⟩ := hrun
    rename_i a p
    exact ⟨_, _, _, hargs, rfl, (eq_s_l01Root _ a p).trans (tot_s_l01Root a p hp)⟩
  · cases hrun

def S_s_l01Square : Sums := ⟨tblS [(134, run_s_l01Root)], tblM []⟩
theorem SO_s_l01Square : SumsOK Try.prog S_s_l01Square := ⟨tblS_ok ⟨⟨Try.call134, sound_s_l01Root⟩, True.intro⟩, tblM_ok True.intro⟩
def Fo_s_l01Square (a : Int) (p : Int) : Option (Int) :=
  (if (a == 0) = true then some 0 else (if (prB p) = true then (if ((s_l01Root a p).2) = true then some 1 else some (-1)) else none))
theorem eq_s_l01Square (a : Int) (p : Int) : execT Try.prog S_s_l01Square 115 16 (fun _ => 1000000) dec_i [.v (.int .i64 a), .v (.int .i64 p)] = Fo_s_l01Square a p := by
  kernel_rfl
def s_l01Square (a : Int) (p : Int) : Int :=
  (if (a == 0) = true then 0 else (if ((s_l01Root a p).2) = true then 1 else (-1)))
theorem tot_s_l01Square (a : Int) (p : Int) (hp : (prB p) = true) : Fo_s_l01Square a p = some (s_l01Square a p) := by
  try have h0 := prB_ne hp
  unfold Fo_s_l01Square s_l01Square
  (try simp only [wI_eq])
  repeat' (first | with_reducible rfl | with_reducible refine chk_opt hp ?_ | with_reducible refine chk_opt h0 ?_ | refine chk_opt (and_all hp fun _ => hp) ?_ | refine chk_opt (and_all hp fun _ => rfl) ?_ | refine ite_opt (fun _ => ?_) (fun _ => ?_) | rfl)
def run_s_l01Square : List PV → Option (Bool × List TR)
  | [.v (.int .i64 a), .v (.int .i64 p)] => some (prB p, enc_i (s_l01Square a p))
  | _ => none
theorem sound_s_l01Square : Sound Try.prog 115 run_s_l01Square := by
  refine sound_of de_i SO_s_l01Square (by kernel_rfl) Try.func115 Try.ntmps115 rfl (by kernel_rfl) ?_
  intro W pvs avs rs hargs hrun
  unfold run_s_l01Square at hrun
  split at hrun
  · simp only [Option.some.injEq, Prod.mk.injEq] at hrun
    obtain ⟨hp, rfl⟩ := hrun
    rename_i a p
    exact ⟨_, _, _, hargs, rfl, (eq_s_l01Square a p).trans (tot_s_l01Square a p hp)⟩
  · cases hrun

def S_s_l08Kind : Sums := ⟨tblS [(90, run_s_l01Mod), (115, run_s_l01Square)], tblM []⟩
theorem SO_s_l08Kind : SumsOK Try.prog S_s_l08Kind := ⟨tblS_ok ⟨⟨Try.call90, sound_s_l01Mod⟩, ⟨Try.call115, sound_s_l01Square⟩, True.intro⟩, tblM_ok True.intro⟩
def Fo_s_l08Kind (p : Int) (k : Int × Int × Int × Int × Int × Int) : Option (Int) :=
  (if (prB p) = true then (if (prB p) = true then some (s_l01Square (s_l01Mod (wI ((wI (k.2.1 * k.2.1)) - (wI ((wI (4 * k.1)) * k.2.2.1)))) p) p) else none) else none)
theorem eq_s_l08Kind (p : Int) (k : Int × Int × Int × Int × Int × Int) : execT Try.prog S_s_l08Kind 58 21 (fun _ => 1000000) dec_i [.v (.int .i64 p), .v (.agg ⟨[.int .i64 k.1, .int .i64 k.2.1, .int .i64 k.2.2.1, .int .i64 k.2.2.2.1, .int .i64 k.2.2.2.2.1, .int .i64 k.2.2.2.2.2]⟩)] = Fo_s_l08Kind p k := by
  kernel_rfl
def s_l08Kind (p : Int) (k : Int × Int × Int × Int × Int × Int) : Int :=
  (s_l01Square (s_l01Mod (wrap64 ((wrap64 (k.2.1 * k.2.1)) - (wrap64 ((wrap64 (4 * k.1)) * k.2.2.1)))) p) p)
theorem tot_s_l08Kind (p : Int) (k : Int × Int × Int × Int × Int × Int) (hp : (prB p) = true) : Fo_s_l08Kind p k = some (s_l08Kind p k) := by
  try have h0 := prB_ne hp
  unfold Fo_s_l08Kind s_l08Kind
  (try simp only [wI_eq])
  repeat' (first | with_reducible rfl | with_reducible refine chk_opt hp ?_ | with_reducible refine chk_opt h0 ?_ | refine chk_opt (and_all hp fun _ => hp) ?_ | refine chk_opt (and_all hp fun _ => rfl) ?_ | refine ite_opt (fun _ => ?_) (fun _ => ?_) | rfl)
def run_s_l08Kind : List PV → Option (Bool × List TR)
  | [.v (.int .i64 p), .v (.agg ⟨[.int .i64 k0, .int .i64 k1, .int .i64 k2, .int .i64 k3, .int .i64 k4, .int .i64 k5]⟩)] => some (prB p, enc_i (s_l08Kind p (k0, k1, k2, k3, k4, k5)))
  | _ => none
theorem sound_s_l08Kind : Sound Try.prog 58 run_s_l08Kind := by
  refine sound_of de_i SO_s_l08Kind (by kernel_rfl) Try.func58 Try.ntmps58 rfl (by kernel_rfl) ?_
  intro W pvs avs rs hargs hrun
  unfold run_s_l08Kind at hrun
  split at hrun
  · simp only [Option.some.injEq, Prod.mk.injEq] at hrun
    obtain ⟨hp, rfl⟩ := hrun
    rename_i p k0 k1 k2 k3 k4 k5
    exact ⟨_, _, _, hargs, rfl, (eq_s_l08Kind p (k0, k1, k2, k3, k4, k5)).trans (tot_s_l08Kind p (k0, k1, k2, k3, k4, k5) hp)⟩
  · cases hrun

def S_i_allPoints : Sums := ⟨tblS [], tblM []⟩
theorem SO_i_allPoints : SumsOK Try.prog S_i_allPoints := ⟨tblS_ok True.intro, tblM_ok True.intro⟩
def T_i_allPoints_2 (p : Int) (l6 : List Int) (m6 : Nat) (x : Int) : Tab := ⟨[.val (.int .i64 p), .junk, .val (.slice none 0 0), .row 24, .val (.int .i64 x), .junk, .junk, .junk, .junk, .junk, .junk, .junk, .junk, .junk, .junk, .junk, .junk, .junk, .junk, .junk, .junk, .junk, .junk, .junk], [(24, .row 27 2 m6 (.ints l6))]⟩
def T_i_allPoints_3 (p : Int) (l6 : List Int) (m6 : Nat) (x : Int) (l6' : List Int) (m6' : Nat) (y : Int) : Tab := ⟨[.val (.int .i64 p), .junk, .val (.slice none 0 0), .row 24, .val (.int .i64 x), .val (.int .i64 y), .junk, .val (.int .i64 x), .val (.int .i64 p), .val (.bool (decide (x < p))), .junk, .junk, .junk, .junk, .junk, .junk, .junk, .junk, .junk, .junk, .junk, .junk, .junk, .junk], [(24, .row 27 2 m6' (.ints l6'))]⟩
def X_i_allPoints_3 (P : Program) (fu : Nat) (p : Int) (l6 : List Int) (m6 : Nat) (x : Int) (rc2 : Tab → Option (Nat × List Int)) (f : Nat) (l6' : List Int) (m6' : Nat) (y : Int) : Option (Nat × List Int) := loopK (exec P S_i_allPoints 24 (fun _ => fu + 100) (Code.sub [1, 1, 0, 1, 0, 0, 1, 0, 0, 1, 0, 0] (bodyF P 55))) f (T_i_allPoints_3 p l6 m6 x l6' m6' y) (kBlock 2 (kBlock 1 (kSeq (fun zs9 => exec P S_i_allPoints 24 (fun _ => fu + 100) (Code.sub [1, 1, 0, 1, 0, 0, 1, 1] (bodyF P 55)) zs9 (kLoop rc2 (T_i_allPoints_2 p l6 m6 x) (kBlock 0 (kSeq (fun zs9 => exec P S_i_allPoints 24 (fun _ => fu + 100) (Code.sub [1, 1, 1] (bodyF P 55)) zs9 (finT P 55 dec_l27_2)) (finT P 55 dec_l27_2))))) (kLoop rc2 (T_i_allPoints_2 p l6 m6 x) (kBlock 0 (kSeq (fun zs9 => exec P S_i_allPoints 24 (fun _ => fu + 100) (Code.sub [1, 1, 1] (bodyF P 55)) zs9 (finT P 55 dec_l27_2)) (finT P 55 dec_l27_2)))))))
def B_i_allPoints_3 (p : Int) (l6 : List Int) (m6 : Nat) (x : Int) (rec2 : (List Int) → Nat → Int → Option (Nat × List Int)) (rec3 : (List Int) → Nat → Int → Option (Nat × List Int)) (l6' : List Int) (m6' : Nat) (y : Int) : Option (Nat × List Int) :=
  (if (decide (y < p)) = true then (if (Nat.ble 1 1 && Nat.ble (m6' + 1) 1000000 && Nat.beq 2 (2)) = true then rec3 (l6' ++ [x, y]) (m6' + 1) (wI (y + 1)) else none) else rec2 l6' m6' (wI (x + 1)))
def L_i_allPoints_3 (fu : Nat) (p : Int) (l6 : List Int) (m6 : Nat) (x : Int) (rec2 : (List Int) → Nat → Int → Option (Nat × List Int)) : Nat → (List Int) → Nat → Int → Option (Nat × List Int)
  | 0, _, _, _ => none
  | f + 1, l6', m6', y => B_i_allPoints_3 p l6 m6 x rec2 (L_i_allPoints_3 fu p l6 m6 x rec2 f) l6' m6' y
theorem loop_i_allPoints_3 (fu : Nat) (p : Int) (l6 : List Int) (m6 : Nat) (x : Int) (rc2 : Tab → Option (Nat × List Int)) : ∀ (f : Nat) (l6' : List Int) (m6' : Nat) (y : Int), X_i_allPoints_3 Try.prog fu p l6 m6 x rc2 f l6' m6' y = L_i_allPoints_3 fu p l6 m6 x (fun l6 m6 x => rc2 (T_i_allPoints_2 p l6 m6 x)) f l6' m6' y := by
  intro f
  induction f with
  | zero => intros; rfl
  | succ f ih =>
    intro l6' m6' y
    have h1 : X_i_allPoints_3 Try.prog fu p l6 m6 x rc2 (f + 1) l6' m6' y = B_i_allPoints_3 p l6 m6 x (fun l6 m6 x => rc2 (T_i_allPoints_2 p l6 m6 x)) (X_i_allPoints_3 Try.prog fu p l6 m6 x rc2 f) l6' m6' y := by kernel_rfl
    have h2 : X_i_allPoints_3 Try.prog fu p l6 m6 x rc2 f = L_i_allPoints_3 fu p l6 m6 x (fun l6 m6 x => rc2 (T_i_allPoints_2 p l6 m6 x)) f := by funext l6' m6' y; exact ih l6' m6' y
    rw [h1, h2]
    rfl
def X_i_allPoints_2 (P : Program) (fu : Nat) (p : Int) (f : Nat) (l6 : List Int) (m6 : Nat) (x : Int) : Option (Nat × List Int) := loopK (exec P S_i_allPoints 24 (fun _ => fu + 100) (Code.sub [1, 1, 0, 1, 0, 0] (bodyF P 55))) f (T_i_allPoints_2 p l6 m6 x) (kBlock 0 (kSeq (fun zs9 => exec P S_i_allPoints 24 (fun _ => fu + 100) (Code.sub [1, 1, 1] (bodyF P 55)) zs9 (finT P 55 dec_l27_2)) (finT P 55 dec_l27_2)))
def B_i_allPoints_2 (p : Int) (lo3 : (List Int) → Nat → Int → Option (Nat × List Int)) (rec2 : (List Int) → Nat → Int → Option (Nat × List Int)) (l6 : List Int) (m6 : Nat) (x : Int) : Option (Nat × List Int) :=
  (if (decide (x < p)) = true then lo3 l6 m6 0 else some (m6, l6))
def L_i_allPoints_2 (fu : Nat) (p : Int) : Nat → (List Int) → Nat → Int → Option (Nat × List Int)
  | 0, _, _, _ => none
  | f + 1, l6, m6, x => B_i_allPoints_2 p (L_i_allPoints_3 fu p l6 m6 x (L_i_allPoints_2 fu p f) (fu + 100)) (L_i_allPoints_2 fu p f) l6 m6 x
theorem loop_i_allPoints_2 (fu : Nat) (p : Int) : ∀ (f : Nat) (l6 : List Int) (m6 : Nat) (x : Int), X_i_allPoints_2 Try.prog fu p f l6 m6 x = L_i_allPoints_2 fu p f l6 m6 x := by
  intro f
  induction f with
  | zero => intros; rfl
  | succ f ih =>
    intro l6 m6 x
    have h1 : X_i_allPoints_2 Try.prog fu p (f + 1) l6 m6 x = B_i_allPoints_2 p (X_i_allPoints_3 Try.prog fu p l6 m6 x (fun t => loopK (exec Try.prog S_i_allPoints 24 (fun _ => fu + 100) (Code.sub [1, 1, 0, 1, 0, 0] (bodyF Try.prog 55))) f t (kBlock 0 (kSeq (fun zs9 => exec Try.prog S_i_allPoints 24 (fun _ => fu + 100) (Code.sub [1, 1, 1] (bodyF Try.prog 55)) zs9 (finT Try.prog 55 dec_l27_2)) (finT Try.prog 55 dec_l27_2)))) (fu + 100)) (X_i_allPoints_2 Try.prog fu p f) l6 m6 x := by kernel_rfl
    have h2 : X_i_allPoints_2 Try.prog fu p f = L_i_allPoints_2 fu p f := by funext l6 m6 x; exact ih l6 m6 x
    have c3 : (X_i_allPoints_3 Try.prog fu p l6 m6 x (fun t => loopK (exec Try.prog S_i_allPoints 24 (fun _ => fu + 100) (Code.sub [1, 1, 0, 1, 0, 0] (bodyF Try.prog 55))) f t (kBlock 0 (kSeq (fun zs9 => exec Try.prog S_i_allPoints 24 (fun _ => fu + 100) (Code.sub [1, 1, 1] (bodyF Try.prog 55)) zs9 (finT Try.prog 55 dec_l27_2)) (finT Try.prog 55 dec_l27_2)))) (fu + 100)) = L_i_allPoints_3 fu p l6 m6 x (X_i_allPoints_2 Try.prog fu p f) (fu + 100) := by funext l6' m6' y; exact loop_i_allPoints_3 fu p l6 m6 x (fun t => loopK (exec Try.prog S_i_allPoints 24 (fun _ => fu + 100) (Code.sub [1, 1, 0, 1, 0, 0] (bodyF Try.prog 55))) f t (kBlock 0 (kSeq (fun zs9 => exec Try.prog S_i_allPoints 24 (fun _ => fu + 100) (Code.sub [1, 1, 1] (bodyF Try.prog 55)) zs9 (finT Try.prog 55 dec_l27_2)) (finT Try.prog 55 dec_l27_2)))) (fu + 100) l6' m6' y
    rw [h1, c3, h2]
    rfl
def G_i_allPoints (p : Int) (lo2 : (List Int) → Nat → Int → Option (Nat × List Int)) : Option (Nat × List Int) :=
  lo2 [] 0 0
def Fo_i_allPoints (fu : Nat) (p : Int) : Option (Nat × List Int) := G_i_allPoints p (L_i_allPoints_2 fu p (fu + 100))
theorem eqg_i_allPoints (fu : Nat) (p : Int) : execT Try.prog S_i_allPoints 55 24 (fun _ => fu + 100) dec_l27_2 [.v (.int .i64 p)] = G_i_allPoints p (L_i_allPoints_2 fu p (fu + 100)) := by
  have h1 : execT Try.prog S_i_allPoints 55 24 (fun _ => fu + 100) dec_l27_2 [.v (.int .i64 p)] = G_i_allPoints p (X_i_allPoints_2 Try.prog fu p (fu + 100)) := by kernel_rfl
  have c2 : X_i_allPoints_2 Try.prog fu p (fu + 100) = L_i_allPoints_2 fu p (fu + 100) := by funext l6 m6 x; exact loop_i_allPoints_2 fu p (fu + 100) l6 m6 x
  rw [h1, c2]
theorem eq_i_allPoints (fu : Nat) (p : Int) : execT Try.prog S_i_allPoints 55 24 (fun _ => fu + 100) dec_l27_2 [.v (.int .i64 p)] = Fo_i_allPoints fu p := eqg_i_allPoints fu p
def i_allPoints (p : Int) : Nat × List Int := ((pts p).length, flat2 (pts p))
theorem lo3_i_allPoints {p : Int} (hp : prB p = true) (fu : Nat) (l6 : List Int) (m6 : Nat) (x : Int) (rec2 : List Int → Nat → Int → Option (Nat × List Int)) {F m : Nat} {l : List Int} (hF : p.toNat < F) (hm : m ≤ 100000) :
    L_i_allPoints_3 fu p l6 m6 x rec2 F l m 0 = rec2 (l ++ flat2 ((List.range p.toNat).flatMap (fun y : Nat => [((x : Int), (y : Int))]))) (m + ((List.range p.toNat).flatMap (fun y : Nat => [((x : Int), (y : Int))])).length) (wI (x + 1)) := by
  obtain ⟨h1, h0, hpn⟩ := prB_nat hp
  exact gather (flat := flat2) flat2_app rfl (L := fun f l m i => L_i_allPoints_3 fu p l6 m6 x rec2 f l m i) (n := p.toNat) (b := 1) (M := 100000) ((fun y : Nat => [((x : Int), (y : Int))])) (K := (rec2 (l ++ flat2 ((List.range p.toNat).flatMap (fun y : Nat => [((x : Int), (y : Int))]))) (m + ((List.range p.toNat).flatMap (fun y : Nat => [((x : Int), (y : Int))])).length) (wI (x + 1)))) (l := l) (m := m) (F := F) (by intro k hk; first | (split <;> simp) | simp_all)
    (fun f k l m hk hm => by
      show B_i_allPoints_3 p l6 m6 x rec2 (L_i_allPoints_3 fu p l6 m6 x rec2 f) l m (k : Int) = _
      unfold B_i_allPoints_3
      rw [if_pos (cndp hk), if_pos (by simp; omega), wrap_add1 hk (by omega)]
      rfl)
    (fun f hm => by
      show B_i_allPoints_3 p l6 m6 x rec2 (L_i_allPoints_3 fu p l6 m6 x rec2 f) (l ++ flat2 ((List.range p.toNat).flatMap ((fun y : Nat => [((x : Int), (y : Int))])))) (m + ((List.range p.toNat).flatMap ((fun y : Nat => [((x : Int), (y : Int))]))).length) ((p.toNat : Nat) : Int) = _
      unfold B_i_allPoints_3
      rw [if_neg (by simp; omega)]) hF hm
theorem lo2_i_allPoints {p : Int} (hp : prB p = true) {F : Nat} (hF : p.toNat < F) : L_i_allPoints_2 1000000 p F [] 0 0 = (some (((pts p)).length, flat2 ((pts p)))) := by
  obtain ⟨h1, h0, hpn⟩ := prB_nat hp
  exact gather (flat := flat2) flat2_app rfl (L := fun f l m i => L_i_allPoints_2 1000000 p f l m i) (n := p.toNat) (b := 31) (M := 0) ((fun x : Nat => (List.range p.toNat).flatMap (fun y : Nat => [(((x : Int) : Int), (y : Int))]))) (K := (some (((pts p)).length, flat2 ((pts p))))) (l := []) (m := 0) (F := F) (by intro k hk; refine Nat.le_trans (len_flatMap_le (b := 1) fun j _ => ?_) (by omega); first | (split <;> simp) | simp)
    (fun f k l m hk hm => by
      show B_i_allPoints_2 p (L_i_allPoints_3 1000000 p l m (k : Int) (L_i_allPoints_2 1000000 p f) (1000000 + 100)) (L_i_allPoints_2 1000000 p f) l m (k : Int) = _
      unfold B_i_allPoints_2
      rw [if_pos (cndp hk), lo3_i_allPoints hp _ _ _ _ _ (by omega) (by omega), wrap_add1 hk (by omega)])
    (fun f hm => by
      show B_i_allPoints_2 p (L_i_allPoints_3 1000000 p ([] ++ flat2 ((List.range p.toNat).flatMap ((fun x : Nat => (List.range p.toNat).flatMap (fun y : Nat => [(((x : Int) : Int), (y : Int))]))))) (0 + ((List.range p.toNat).flatMap ((fun x : Nat => (List.range p.toNat).flatMap (fun y : Nat => [(((x : Int) : Int), (y : Int))])))).length) ((p.toNat : Nat) : Int) (L_i_allPoints_2 1000000 p f) (1000000 + 100)) (L_i_allPoints_2 1000000 p f) ([] ++ flat2 ((List.range p.toNat).flatMap ((fun x : Nat => (List.range p.toNat).flatMap (fun y : Nat => [(((x : Int) : Int), (y : Int))]))))) (0 + ((List.range p.toNat).flatMap ((fun x : Nat => (List.range p.toNat).flatMap (fun y : Nat => [(((x : Int) : Int), (y : Int))])))).length) ((p.toNat : Nat) : Int) = _
      unfold B_i_allPoints_2
      have hkp : ((List.range p.toNat).flatMap (fun x : Nat => (List.range p.toNat).flatMap (fun y : Nat => [(((x : Int) : Int), (y : Int))]))) = (pts p) := by unfold pts; congr 1; funext x; exact flatMap_one _ _
      rw [if_neg (by simp; omega), hkp]
      simp) hF (Nat.le_refl _)

theorem tot_i_allPoints (p : Int) (hp : (prB p) = true) : Fo_i_allPoints 1000000 p = some (i_allPoints p) := by
  unfold Fo_i_allPoints G_i_allPoints
  have h1 := (prB_nat hp).1
  exact lo2_i_allPoints hp (by omega)
def run_i_allPoints : List PV → Option (Bool × List TR)
  | [.v (.int .i64 p)] => some (prB p, enc_l27_2 (i_allPoints p))
  | _ => none
theorem sound_i_allPoints : Sound Try.prog 55 run_i_allPoints := by
  refine sound_of de_l27_2 SO_i_allPoints (by kernel_rfl) Try.func55 Try.ntmps55 rfl (by kernel_rfl) ?_
  intro W pvs avs rs hargs hrun
  unfold run_i_allPoints at hrun
  split at hrun
  · simp only [Option.some.injEq, Prod.mk.injEq] at hrun
    obtain ⟨hp, rfl⟩ := hrun
    rename_i p
    exact ⟨_, _, _, hargs, rfl, (eq_i_allPoints _ p).trans (tot_i_allPoints p hp)⟩
  · cases hrun


end

end Go.Proofs.Ytfclaacaphpoaaa
