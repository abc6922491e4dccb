import Derived.Test.YtpffcfiojjgnlaaFa
import Derived.Test.YtpffcfiojjgnlaaProg
set_option linter.unusedSimpArgs false
set_option linter.unusedVariables false
namespace Go.Proofs.Ytpffcfiojjgnlaa
open Go.RowKit
noncomputable section
def S_i_linesThrough : Sums := ⟨tblS [(115, run_i_rest)], tblM []⟩
theorem SO_i_linesThrough : SumsOK Try.prog S_i_linesThrough := ⟨tblS_ok ⟨⟨Try.call115, sound_i_rest⟩, True.intro⟩, tblM_ok True.intro⟩
def T_i_linesThrough_0 (p : Int) (a : Int × Int) (l13 : List Int) (m13 : Nat) (b : Int) : Tab := ⟨[.val (.int .i64 p), .val (.agg ⟨[.int .i64 a.1, .int .i64 a.2]⟩), .junk, .ptr 12 0, .val (.slice none 0 0), .row 52, .val (.int .i64 b), .val (.int .i64 p), .ptr 12 1, .val (.int .i64 a.2), .val (.int .i64 (wI (0 - a.2))), .val (.int .i64 (i_rest p (wI (0 - a.2)))), .val (.agg ⟨[.int .i64 0, .int .i64 1, .int .i64 (i_rest p (wI (0 - a.2)))]⟩), .junk, .junk, .junk, .junk, .junk, .junk, .junk, .junk, .junk, .junk, .junk, .junk, .junk, .junk, .junk, .junk, .junk, .junk, .junk, .junk, .junk, .junk], [(12, .box 25 [.val (.int .i64 a.1), .val (.int .i64 a.2)]), (52, .row 29 3 m13 (.ints l13))]⟩
def X_i_linesThrough_0 (P : Program) (fu : Nat) (p : Int) (a : Int × Int) (f : Nat) (l13 : List Int) (m13 : Nat) (b : Int) : Option (Nat × List Int) := loopK (exec P S_i_linesThrough 35 (fun _ => fu + 100) (Code.sub [1, 1, 0, 1, 0, 0] (bodyF P 91))) f (T_i_linesThrough_0 p a l13 m13 b) (kBlock 0 (kSeq (fun s => exec P S_i_linesThrough 35 (fun _ => fu + 100) (Code.sub [1, 1, 1] (bodyF P 91)) s (finT P 91 dec_l29_3)) (finT P 91 dec_l29_3)))
def B_i_linesThrough_0 (p : Int) (a : Int × Int) (rec0 : (List Int) → Nat → Int → Option (Nat × List Int)) (l13 : List Int) (m13 : Nat) (b : Int) : Option (Nat × List Int) :=
  (if (decide (b < p)) = true then (if (prB p) = true then (if (Nat.ble 1 1 && Nat.ble (m13 + 1) 1000000 && Nat.beq 3 (3)) = true then rec0 (l13 ++ [1, b, (i_rest p (wI ((wI (0 - a.1)) - (wI (b * a.2)))))]) (m13 + 1) (wI (b + 1)) else none) else none) else some (m13, l13))
def L_i_linesThrough_0 (fu : Nat) (p : Int) (a : Int × Int) : Nat → (List Int) → Nat → Int → Option (Nat × List Int)
  | 0, _, _, _ => none
  | f + 1, l13, m13, b => B_i_linesThrough_0 p a (L_i_linesThrough_0 fu p a f) l13 m13 b
theorem loop_i_linesThrough_0 (fu : Nat) (p : Int) (a : Int × Int) : ∀ (f : Nat) (l13 : List Int) (m13 : Nat) (b : Int), X_i_linesThrough_0 Try.prog fu p a f l13 m13 b = L_i_linesThrough_0 fu p a f l13 m13 b := by
  intro f
  induction f with
  | zero => intros; rfl
  | succ f ih =>
    intro l13 m13 b
    have h1 : X_i_linesThrough_0 Try.prog fu p a (f + 1) l13 m13 b = B_i_linesThrough_0 p a (X_i_linesThrough_0 Try.prog fu p a f) l13 m13 b := by kernel_rfl
    have h2 : X_i_linesThrough_0 Try.prog fu p a f = L_i_linesThrough_0 fu p a f := by funext l13 m13 b; exact ih l13 m13 b
    rw [h1, h2]
    rfl
def G_i_linesThrough (p : Int) (a : Int × Int) (lo0 : (List Int) → Nat → Int → Option (Nat × List Int)) : Option (Nat × List Int) :=
  (if (prB p) = true then lo0 [0, 1, (i_rest p (wI (0 - a.2)))] 1 0 else none)
def Fo_i_linesThrough (fu : Nat) (p : Int) (a : Int × Int) : Option (Nat × List Int) := G_i_linesThrough p a (L_i_linesThrough_0 fu p a (fu + 100))
theorem eqg_i_linesThrough (fu : Nat) (p : Int) (a : Int × Int) : execT Try.prog S_i_linesThrough 91 35 (fun _ => fu + 100) dec_l29_3 [.v (.int .i64 p), .v (.agg ⟨[.int .i64 a.1, .int .i64 a.2]⟩)] = G_i_linesThrough p a (L_i_linesThrough_0 fu p a (fu + 100)) := by
  have h1 : execT Try.prog S_i_linesThrough 91 35 (fun _ => fu + 100) dec_l29_3 [.v (.int .i64 p), .v (.agg ⟨[.int .i64 a.1, .int .i64 a.2]⟩)] = G_i_linesThrough p a (X_i_linesThrough_0 Try.prog fu p a (fu + 100)) := by kernel_rfl
  have c0 : X_i_linesThrough_0 Try.prog fu p a (fu + 100) = L_i_linesThrough_0 fu p a (fu + 100) := by funext l13 m13 b; exact loop_i_linesThrough_0 fu p a (fu + 100) l13 m13 b
  rw [h1, c0]
theorem eq_i_linesThrough (fu : Nat) (p : Int) (a : Int × Int) : execT Try.prog S_i_linesThrough 91 35 (fun _ => fu + 100) dec_l29_3 [.v (.int .i64 p), .v (.agg ⟨[.int .i64 a.1, .int .i64 a.2]⟩)] = Fo_i_linesThrough fu p a := eqg_i_linesThrough fu p a
def linesT (p : Int) (a : P2) : List P3 := ((0, 1, i_rest p (wrap64 (0 - a.2))) :: ((List.range p.toNat).map fun b : Nat => ((1 : Int), (b : Int), i_rest p (wrap64 (wrap64 (0 - a.1) - wrap64 ((b : Int) * a.2))))))
def i_linesThrough (p : Int) (a : P2) : Nat × List Int := ((linesT p a).length, flat3 (linesT p a))
theorem linesT_len {p : Int} (hp : prB p = true) (a : P2) : (linesT p a).length ≤ 993 := by
  have h1 := (prB_nat hp).1
  unfold linesT
  simp; omega

theorem tot_i_linesThrough (p : Int) (a : Int × Int) (hp : (prB p) = true) : Fo_i_linesThrough 1000000 p a = some (i_linesThrough p a) := by
  obtain ⟨h1, h0, hpn⟩ := prB_nat hp
  unfold Fo_i_linesThrough G_i_linesThrough
  rw [if_pos hp]
  refine (gather (flat := flat3) flat3_app rfl (L := fun f l m i => L_i_linesThrough_0 1000000 p a f l m i) (n := p.toNat) (b := 1) (M := 1) (fun b : Nat => [((1 : Int), (b : Int), i_rest p (wrap64 (wrap64 (0 - a.1) - wrap64 ((b : Int) * a.2))))]) (K := (some (i_linesThrough p a))) (l := [0, 1, i_rest p (wI (0 - a.2))]) (m := 1) (F := (1000000 + 100)) (by intro k hk; first | (split <;> simp) | simp_all)
    (fun f k l m hk hm => by
      show B_i_linesThrough_0 p a (L_i_linesThrough_0 1000000 p a f) l m (k : Int) = _
      unfold B_i_linesThrough_0
      simp only [cndp hk, hp, if_true, wI_eq]
      rw [if_pos (by simp; omega), show wrap64 ((k : Int) + 1) = ((k + 1 : Nat) : Int) from by rw [← wI_eq]; exact wrap_add1 hk (by omega)]
      rfl)
    (fun f hm => by
      show B_i_linesThrough_0 p a (L_i_linesThrough_0 1000000 p a f) ([0, 1, i_rest p (wI (0 - a.2))] ++ flat3 ((List.range p.toNat).flatMap (fun b : Nat => [((1 : Int), (b : Int), i_rest p (wrap64 (wrap64 (0 - a.1) - wrap64 ((b : Int) * a.2))))]))) (1 + ((List.range p.toNat).flatMap (fun b : Nat => [((1 : Int), (b : Int), i_rest p (wrap64 (wrap64 (0 - a.1) - wrap64 ((b : Int) * a.2))))])).length) ((p.toNat : Nat) : Int) = _
      unfold B_i_linesThrough_0
      rw [if_neg (by simp; omega), flatMap_one]
      refine congrArg some (Prod.ext ?_ ?_)
      · simp [i_linesThrough, linesT]; omega
      · simp only [wI_eq]
        rfl) (by omega) (Nat.le_refl _)).trans ?_
  rfl
def run_i_linesThrough : List PV → Option (Bool × List TR)
  | [.v (.int .i64 p), .v (.agg ⟨[.int .i64 a0, .int .i64 a1]⟩)] => some (prB p, enc_l29_3 (i_linesThrough p (a0, a1)))
  | _ => none
theorem sound_i_linesThrough : Sound Try.prog 91 run_i_linesThrough := by
  refine sound_of de_l29_3 SO_i_linesThrough (by kernel_rfl) Try.func91 Try.ntmps91 rfl (by kernel_rfl) ?_
  intro W pvs avs rs hargs hrun
  unfold run_i_linesThrough at hrun
  split at hrun
  · simp only [Option.some.injEq, Prod.mk.injEq] at hrun
    obtain ⟨hp, rfl⟩ := hrun
    rename_i p a0 a1
    exact ⟨_, _, _, hargs, rfl, (eq_i_linesThrough _ p (a0, a1)).trans (tot_i_linesThrough p (a0, a1) hp)⟩
  · cases hrun

def S_i_perpendicular : Sums := ⟨tblS [(91, run_i_linesThrough), (101, run_i_arePerpendicular)], tblM []⟩
theorem SO_i_perpendicular : SumsOK Try.prog S_i_perpendicular := ⟨tblS_ok ⟨⟨Try.call91, sound_i_linesThrough⟩, ⟨Try.call101, sound_i_arePerpendicular⟩, True.intro⟩, tblM_ok True.intro⟩
def T_i_perpendicular_0 (p : Int) (colour : Int) (l : Int × Int × Int) (a : Int × Int) (t15 : Int) : Tab := ⟨[.val (.int .i64 p), .val (.int .i64 colour), .val (.agg ⟨[.int .i64 l.1, .int .i64 l.2.1, .int .i64 l.2.2]⟩), .val (.agg ⟨[.int .i64 a.1, .int .i64 a.2]⟩), .junk, .junk, .ptr 24 0, .ptr 28 0, .ptr 32 0, .junk, .junk, .val (.int .i64 p), .val (.agg ⟨[.int .i64 a.1, .int .i64 a.2]⟩), .row 52, .val (.int .i64 (((i_linesThrough p a).1 : Nat) : Int)), .val (.int .i64 t15), .junk, .junk, .junk, .junk, .junk, .junk, .junk, .junk, .junk, .junk, .junk], [(24, .box 29 [.val (.int .i64 l.1), .val (.int .i64 l.2.1), .val (.int .i64 l.2.2)]), (28, .box 25 [.val (.int .i64 a.1), .val (.int .i64 a.2)]), (32, .box 29 [.val (.int .i64 0), .val (.int .i64 0), .val (.int .i64 0)]), (52, .row 29 3 ((i_linesThrough p a).1) (.ints ((i_linesThrough p a).2)))]⟩
def X_i_perpendicular_0 (P : Program) (fu : Nat) (p : Int) (colour : Int) (l : Int × Int × Int) (a : Int × Int) (f : Nat) (t15 : Int) : Option (Int × Int × Int) := loopK (exec P S_i_perpendicular 27 (fun _ => fu + 100) (Code.sub [1, 0, 1, 0, 0] (bodyF P 113))) f (T_i_perpendicular_0 p colour l a t15) (kBlock 0 (kSeq (fun s => exec P S_i_perpendicular 27 (fun _ => fu + 100) (Code.sub [1, 1] (bodyF P 113)) s (finT P 113 dec_a3)) (finT P 113 dec_a3)))
def B_i_perpendicular_0 (p : Int) (colour : Int) (l : Int × Int × Int) (a : Int × Int) (rec0 : Int → Option (Int × Int × Int)) (t15 : Int) : Option (Int × Int × Int) :=
  (if (decide (t15 < (((i_linesThrough p a).1 : Nat) : Int))) = true then (if (decide (0 ≤ t15) && decide (t15 < (((i_linesThrough p a).1 : Nat) : Int))) = true then (if (Nat.ble (t15.toNat * 3 + 3) (((i_linesThrough p a).2).length)) = true then (if (prB p) = true then (if (i_arePerpendicular p colour l (((i_linesThrough p a).2).getD (t15.toNat * 3 + 0) 0, ((i_linesThrough p a).2).getD (t15.toNat * 3 + 1) 0, ((i_linesThrough p a).2).getD (t15.toNat * 3 + 2) 0)) = true then some (((i_linesThrough p a).2).getD (t15.toNat * 3 + 0) 0, ((i_linesThrough p a).2).getD (t15.toNat * 3 + 1) 0, ((i_linesThrough p a).2).getD (t15.toNat * 3 + 2) 0) else rec0 (wI (t15 + 1))) else none) else none) else none) else some (0, 0, 0))
def L_i_perpendicular_0 (fu : Nat) (p : Int) (colour : Int) (l : Int × Int × Int) (a : Int × Int) : Nat → Int → Option (Int × Int × Int)
  | 0, _ => none
  | f + 1, t15 => B_i_perpendicular_0 p colour l a (L_i_perpendicular_0 fu p colour l a f) t15
theorem loop_i_perpendicular_0 (fu : Nat) (p : Int) (colour : Int) (l : Int × Int × Int) (a : Int × Int) : ∀ (f : Nat) (t15 : Int), X_i_perpendicular_0 Try.prog fu p colour l a f t15 = L_i_perpendicular_0 fu p colour l a f t15 := by
  intro f
  induction f with
  | zero => intros; rfl
  | succ f ih =>
    intro t15
    have h1 : X_i_perpendicular_0 Try.prog fu p colour l a (f + 1) t15 = B_i_perpendicular_0 p colour l a (X_i_perpendicular_0 Try.prog fu p colour l a f) t15 := by kernel_rfl
    have h2 : X_i_perpendicular_0 Try.prog fu p colour l a f = L_i_perpendicular_0 fu p colour l a f := by funext t15; exact ih t15
    rw [h1, h2]
    rfl
def G_i_perpendicular (p : Int) (colour : Int) (l : Int × Int × Int) (a : Int × Int) (lo0 : Int → Option (Int × Int × Int)) : Option (Int × Int × Int) :=
  (if (prB p) = true then lo0 0 else none)
def Fo_i_perpendicular (fu : Nat) (p : Int) (colour : Int) (l : Int × Int × Int) (a : Int × Int) : Option (Int × Int × Int) := G_i_perpendicular p colour l a (L_i_perpendicular_0 fu p colour l a (fu + 100))
theorem eqg_i_perpendicular (fu : Nat) (p : Int) (colour : Int) (l : Int × Int × Int) (a : Int × Int) : execT Try.prog S_i_perpendicular 113 27 (fun _ => fu + 100) dec_a3 [.v (.int .i64 p), .v (.int .i64 colour), .v (.agg ⟨[.int .i64 l.1, .int .i64 l.2.1, .int .i64 l.2.2]⟩), .v (.agg ⟨[.int .i64 a.1, .int .i64 a.2]⟩)] = G_i_perpendicular p colour l a (L_i_perpendicular_0 fu p colour l a (fu + 100)) := by
  have h1 : execT Try.prog S_i_perpendicular 113 27 (fun _ => fu + 100) dec_a3 [.v (.int .i64 p), .v (.int .i64 colour), .v (.agg ⟨[.int .i64 l.1, .int .i64 l.2.1, .int .i64 l.2.2]⟩), .v (.agg ⟨[.int .i64 a.1, .int .i64 a.2]⟩)] = G_i_perpendicular p colour l a (X_i_perpendicular_0 Try.prog fu p colour l a (fu + 100)) := by kernel_rfl
  have c0 : X_i_perpendicular_0 Try.prog fu p colour l a (fu + 100) = L_i_perpendicular_0 fu p colour l a (fu + 100) := by funext t15; exact loop_i_perpendicular_0 fu p colour l a (fu + 100) t15
  rw [h1, c0]
theorem eq_i_perpendicular (fu : Nat) (p : Int) (colour : Int) (l : Int × Int × Int) (a : Int × Int) : execT Try.prog S_i_perpendicular 113 27 (fun _ => fu + 100) dec_a3 [.v (.int .i64 p), .v (.int .i64 colour), .v (.agg ⟨[.int .i64 l.1, .int .i64 l.2.1, .int .i64 l.2.2]⟩), .v (.agg ⟨[.int .i64 a.1, .int .i64 a.2]⟩)] = Fo_i_perpendicular fu p colour l a := eqg_i_perpendicular fu p colour l a
def i_perpendicular (p colour : Int) (l : P3) (a : P2) : P3 := (((linesT p a).findSome? fun zz => if i_arePerpendicular p colour l zz = true then some zz else none)).getD (0, 0, 0)
theorem lo0_i_perpendicular (p colour : Int) (l : P3) (a : P2) (hp : prB p = true) {F : Nat} (hF : 993 < F) : L_i_perpendicular_0 1000000 p colour l a F 0 = some ((((linesT p a).findSome? fun zz => if i_arePerpendicular p colour l zz = true then some (zz) else none)).getD (0, 0, 0)) := by
  have hlen : (linesT p a).length ≤ 993 := linesT_len hp a
  have h := seek (L := fun f i => L_i_perpendicular_0 1000000 p colour l a f i) (n := (linesT p a).length) (F := F) (q := fun k => if i_arePerpendicular p colour l (R3 (flat3 (linesT p a)) k) = true then some ((R3 (flat3 (linesT p a)) k)) else none) (e := (0, 0, 0)) (by omega)
    (fun f k hk => by
      show B_i_perpendicular_0 p colour l a (L_i_perpendicular_0 1000000 p colour l a f) (k : Int) = _
      unfold B_i_perpendicular_0
      have e0 : decide (0 ≤ (k : Int)) = true := by simp
      have e1 := cnd hk
      have e3 : (k : Int).toNat = k := Int.toNat_natCast k
      have e4 := row3_ok (flat3_len _) hk
      rw [show i_linesThrough p a = ((linesT p a).length, flat3 (linesT p a)) from rfl]
      simp only [e0, e1, e3, e4, hp, Bool.and_true, Bool.true_and, if_true, wrap_add1 hk (by omega)]
      have hr : ((flat3 (linesT p a)).getD (k * 3 + 0) 0, (flat3 (linesT p a)).getD (k * 3 + 1) 0, (flat3 (linesT p a)).getD (k * 3 + 2) 0) = R3 (flat3 (linesT p a)) k := rfl
      try simp only [hr]
      generalize (i_arePerpendicular p colour l (R3 (flat3 (linesT p a)) k)) = c0
      cases c0 <;> rfl)
    (fun f => by
      show B_i_perpendicular_0 p colour l a (L_i_perpendicular_0 1000000 p colour l a f) (((linesT p a).length : Nat) : Int) = _
      unfold B_i_perpendicular_0
      rw [show i_linesThrough p a = ((linesT p a).length, flat3 (linesT p a)) from rfl]
      rw [if_neg (by simp)])
  have h2 := find_row (linesT p a) (0, 0, 0) (fun zz => if i_arePerpendicular p colour l zz = true then some (zz) else none)
  rw [← h2]
  simp only [← R3_flat]
  exact h

theorem tot_i_perpendicular (p : Int) (colour : Int) (l : Int × Int × Int) (a : Int × Int) (hp : (prB p) = true) : Fo_i_perpendicular 1000000 p colour l a = some (i_perpendicular p colour l a) := by
  unfold Fo_i_perpendicular G_i_perpendicular
  rw [if_pos hp]
  exact lo0_i_perpendicular p colour l a hp (by omega)
def run_i_perpendicular : List PV → Option (Bool × List TR)
  | [.v (.int .i64 p), .v (.int .i64 colour), .v (.agg ⟨[.int .i64 l0, .int .i64 l1, .int .i64 l2]⟩), .v (.agg ⟨[.int .i64 a0, .int .i64 a1]⟩)] => some (prB p, enc_a3 (i_perpendicular p colour (l0, l1, l2) (a0, a1)))
  | _ => none
theorem sound_i_perpendicular : Sound Try.prog 113 run_i_perpendicular := by
  refine sound_of de_a3 SO_i_perpendicular (by kernel_rfl) Try.func113 Try.ntmps113 rfl (by kernel_rfl) ?_
  intro W pvs avs rs hargs hrun
  unfold run_i_perpendicular at hrun
  split at hrun
  · simp only [Option.some.injEq, Prod.mk.injEq] at hrun
    obtain ⟨hp, rfl⟩ := hrun
    rename_i p colour l0 l1 l2 a0 a1
    exact ⟨_, _, _, hargs, rfl, (eq_i_perpendicular _ p colour (l0, l1, l2) (a0, a1)).trans (tot_i_perpendicular p colour (l0, l1, l2) (a0, a1) hp)⟩
  · cases hrun

def S_i_through : Sums := ⟨tblS [(134, run_i_makeLine)], tblM []⟩
theorem SO_i_through : SumsOK Try.prog S_i_through := ⟨tblS_ok ⟨⟨Try.call134, sound_i_makeLine⟩, True.intro⟩, tblM_ok True.intro⟩
def Fo_i_through (p : Int) (a : Int × Int) (way : Int × Int) : Option (Int × Int × Int) :=
  (if (prB p) = true then some (i_makeLine p way.2 (wI (0 - way.1)) (wI (0 - (wI ((wI (way.2 * a.1)) + (wI ((wI (0 - way.1)) * a.2))))))) else none)
theorem eq_i_through (p : Int) (a : Int × Int) (way : Int × Int) : execT Try.prog S_i_through 106 28 (fun _ => 1000000) dec_a3 [.v (.int .i64 p), .v (.agg ⟨[.int .i64 a.1, .int .i64 a.2]⟩), .v (.agg ⟨[.int .i64 way.1, .int .i64 way.2]⟩)] = Fo_i_through p a way := by
  kernel_rfl
def i_through (p : Int) (a : Int × Int) (way : Int × Int) : Int × Int × Int :=
  (i_makeLine p way.2 (wrap64 (0 - way.1)) (wrap64 (0 - (wrap64 ((wrap64 (way.2 * a.1)) + (wrap64 ((wrap64 (0 - way.1)) * a.2)))))))
theorem tot_i_through (p : Int) (a : Int × Int) (way : Int × Int) (hp : (prB p) = true) : Fo_i_through p a way = some (i_through p a way) := by
  try have h0 := prB_ne hp
  unfold Fo_i_through i_through
  (try simp only [wI_eq])
  repeat' (first | with_reducible rfl | with_reducible refine chk_opt hp ?_ | with_reducible refine chk_opt h0 ?_ | refine chk_opt (and_all hp fun _ => hp) ?_ | refine chk_opt (and_all hp fun _ => rfl) ?_ | refine ite_opt (fun _ => ?_) (fun _ => ?_) | rfl)
def run_i_through : List PV → Option (Bool × List TR)
  | [.v (.int .i64 p), .v (.agg ⟨[.int .i64 a0, .int .i64 a1]⟩), .v (.agg ⟨[.int .i64 way0, .int .i64 way1]⟩)] => some (prB p, enc_a3 (i_through p (a0, a1) (way0, way1)))
  | _ => none
theorem sound_i_through : Sound Try.prog 106 run_i_through := by
  refine sound_of de_a3 SO_i_through (by kernel_rfl) Try.func106 Try.ntmps106 rfl (by kernel_rfl) ?_
  intro W pvs avs rs hargs hrun
  unfold run_i_through at hrun
  split at hrun
  · simp only [Option.some.injEq, Prod.mk.injEq] at hrun
    obtain ⟨hp, rfl⟩ := hrun
    rename_i p a0 a1 way0 way1
    exact ⟨_, _, _, hargs, rfl, (eq_i_through p (a0, a1) (way0, way1)).trans (tot_i_through p (a0, a1) (way0, way1) hp)⟩
  · cases hrun

def S_i_lineThrough : Sums := ⟨tblS [(107, run_i_less), (106, run_i_through)], tblM []⟩
theorem SO_i_lineThrough : SumsOK Try.prog S_i_lineThrough := ⟨tblS_ok ⟨⟨Try.call107, sound_i_less⟩, ⟨Try.call106, sound_i_through⟩, True.intro⟩, tblM_ok True.intro⟩
def Fo_i_lineThrough (p : Int) (a : Int × Int) (b : Int × Int) : Option (Int × Int × Int) :=
  (if (prB p) = true then (if (prB p) = true then some (i_through p a (i_less p b a)) else none) else none)
theorem eq_i_lineThrough (p : Int) (a : Int × Int) (b : Int × Int) : execT Try.prog S_i_lineThrough 39 14 (fun _ => 1000000) dec_a3 [.v (.int .i64 p), .v (.agg ⟨[.int .i64 a.1, .int .i64 a.2]⟩), .v (.agg ⟨[.int .i64 b.1, .int .i64 b.2]⟩)] = Fo_i_lineThrough p a b := by
  kernel_rfl
def i_lineThrough (p : Int) (a : Int × Int) (b : Int × Int) : Int × Int × Int :=
  (i_through p a (i_less p b a))
theorem tot_i_lineThrough (p : Int) (a : Int × Int) (b : Int × Int) (hp : (prB p) = true) : Fo_i_lineThrough p a b = some (i_lineThrough p a b) := by
  try have h0 := prB_ne hp
  unfold Fo_i_lineThrough i_lineThrough
  (try simp only [wI_eq])
  repeat' (first | with_reducible rfl | with_reducible refine chk_opt hp ?_ | with_reducible refine chk_opt h0 ?_ | refine chk_opt (and_all hp fun _ => hp) ?_ | refine chk_opt (and_all hp fun _ => rfl) ?_ | refine ite_opt (fun _ => ?_) (fun _ => ?_) | rfl)
def run_i_lineThrough : List PV → Option (Bool × List TR)
  | [.v (.int .i64 p), .v (.agg ⟨[.int .i64 a0, .int .i64 a1]⟩), .v (.agg ⟨[.int .i64 b0, .int .i64 b1]⟩)] => some (prB p, enc_a3 (i_lineThrough p (a0, a1) (b0, b1)))
  | _ => none
theorem sound_i_lineThrough : Sound Try.prog 39 run_i_lineThrough := by
  refine sound_of de_a3 SO_i_lineThrough (by kernel_rfl) Try.func39 Try.ntmps39 rfl (by kernel_rfl) ?_
  intro W pvs avs rs hargs hrun
  unfold run_i_lineThrough at hrun
  split at hrun
  · simp only [Option.some.injEq, Prod.mk.injEq] at hrun
    obtain ⟨hp, rfl⟩ := hrun
    rename_i p a0 a1 b0 b1
    exact ⟨_, _, _, hargs, rfl, (eq_i_lineThrough p (a0, a1) (b0, b1)).trans (tot_i_lineThrough p (a0, a1) (b0, b1) hp)⟩
  · cases hrun

def S_i_altitude : Sums := ⟨tblS [(39, run_i_lineThrough), (113, run_i_perpendicular)], tblM []⟩
theorem SO_i_altitude : SumsOK Try.prog S_i_altitude := ⟨tblS_ok ⟨⟨Try.call39, sound_i_lineThrough⟩, ⟨Try.call113, sound_i_perpendicular⟩, True.intro⟩, tblM_ok True.intro⟩
def Fo_i_altitude (p : Int) (colour : Int) (a : Int × Int) (b : Int × Int) (c : Int × Int) : Option (Int × Int × Int) :=
  (if (prB p) = true then (if (prB p) = true then some (i_perpendicular p colour (i_lineThrough p b c) a) else none) else none)
theorem eq_i_altitude (p : Int) (colour : Int) (a : Int × Int) (b : Int × Int) (c : Int × Int) : execT Try.prog S_i_altitude 104 19 (fun _ => 1000000) dec_a3 [.v (.int .i64 p), .v (.int .i64 colour), .v (.agg ⟨[.int .i64 a.1, .int .i64 a.2]⟩), .v (.agg ⟨[.int .i64 b.1, .int .i64 b.2]⟩), .v (.agg ⟨[.int .i64 c.1, .int .i64 c.2]⟩)] = Fo_i_altitude p colour a b c := by
  kernel_rfl
def i_altitude (p : Int) (colour : Int) (a : Int × Int) (b : Int × Int) (c : Int × Int) : Int × Int × Int :=
  (i_perpendicular p colour (i_lineThrough p b c) a)
theorem tot_i_altitude (p : Int) (colour : Int) (a : Int × Int) (b : Int × Int) (c : Int × Int) (hp : (prB p) = true) : Fo_i_altitude p colour a b c = some (i_altitude p colour a b c) := by
  try have h0 := prB_ne hp
  unfold Fo_i_altitude i_altitude
  (try simp only [wI_eq])
  repeat' (first | with_reducible rfl | with_reducible refine chk_opt hp ?_ | with_reducible refine chk_opt h0 ?_ | refine chk_opt (and_all hp fun _ => hp) ?_ | refine chk_opt (and_all hp fun _ => rfl) ?_ | refine ite_opt (fun _ => ?_) (fun _ => ?_) | rfl)
def run_i_altitude : List PV → Option (Bool × List TR)
  | [.v (.int .i64 p), .v (.int .i64 colour), .v (.agg ⟨[.int .i64 a0, .int .i64 a1]⟩), .v (.agg ⟨[.int .i64 b0, .int .i64 b1]⟩), .v (.agg ⟨[.int .i64 c0, .int .i64 c1]⟩)] => some (prB p, enc_a3 (i_altitude p colour (a0, a1) (b0, b1) (c0, c1)))
  | _ => none
theorem sound_i_altitude : Sound Try.prog 104 run_i_altitude := by
  refine sound_of de_a3 SO_i_altitude (by kernel_rfl) Try.func104 Try.ntmps104 rfl (by kernel_rfl) ?_
  intro W pvs avs rs hargs hrun
  unfold run_i_altitude at hrun
  split at hrun
  · simp only [Option.some.injEq, Prod.mk.injEq] at hrun
    obtain ⟨hp, rfl⟩ := hrun
    rename_i p colour a0 a1 b0 b1 c0 c1
    exact ⟨_, _, _, hargs, rfl, (eq_i_altitude p colour (a0, a1) (b0, b1) (c0, c1)).trans (tot_i_altitude p colour (a0, a1) (b0, b1) (c0, c1) hp)⟩
  · cases hrun

def S_i_meet : Sums := ⟨tblS [(115, run_i_rest), (58, run_i_divide)], tblM []⟩
theorem SO_i_meet : SumsOK Try.prog S_i_meet := ⟨tblS_ok ⟨⟨Try.call115, sound_i_rest⟩, ⟨Try.call58, sound_i_divide⟩, True.intro⟩, tblM_ok True.intro⟩
def Fo_i_meet (p : Int) (l : Int × Int × Int) (m : Int × Int × Int) : Option (Int × Int) :=
  (if (prB p) = true then (if (prB p) = true then (if (prB p) = true then (if (prB p) = true then (if (prB p) = true then some ((i_divide p (i_rest p (wI ((wI (l.2.1 * m.2.2)) - (wI (l.2.2 * m.2.1))))) (i_rest p (wI ((wI (l.1 * m.2.1)) - (wI (l.2.1 * m.1)))))), (i_divide p (i_rest p (wI ((wI (l.2.2 * m.1)) - (wI (l.1 * m.2.2))))) (i_rest p (wI ((wI (l.1 * m.2.1)) - (wI (l.2.1 * m.1))))))) else none) else none) else none) else none) else none)
theorem eq_i_meet (p : Int) (l : Int × Int × Int) (m : Int × Int × Int) : execT Try.prog S_i_meet 95 54 (fun _ => 1000000) dec_a2 [.v (.int .i64 p), .v (.agg ⟨[.int .i64 l.1, .int .i64 l.2.1, .int .i64 l.2.2]⟩), .v (.agg ⟨[.int .i64 m.1, .int .i64 m.2.1, .int .i64 m.2.2]⟩)] = Fo_i_meet p l m := by
  kernel_rfl
def i_meet (p : Int) (l : Int × Int × Int) (m : Int × Int × Int) : Int × Int :=
  ((i_divide p (i_rest p (wrap64 ((wrap64 (l.2.1 * m.2.2)) - (wrap64 (l.2.2 * m.2.1))))) (i_rest p (wrap64 ((wrap64 (l.1 * m.2.1)) - (wrap64 (l.2.1 * m.1)))))), (i_divide p (i_rest p (wrap64 ((wrap64 (l.2.2 * m.1)) - (wrap64 (l.1 * m.2.2))))) (i_rest p (wrap64 ((wrap64 (l.1 * m.2.1)) - (wrap64 (l.2.1 * m.1)))))))
theorem tot_i_meet (p : Int) (l : Int × Int × Int) (m : Int × Int × Int) (hp : (prB p) = true) : Fo_i_meet p l m = some (i_meet p l m) := by
  try have h0 := prB_ne hp
  unfold Fo_i_meet i_meet
  (try simp only [wI_eq])
  repeat' (first | with_reducible rfl | with_reducible refine chk_opt hp ?_ | with_reducible refine chk_opt h0 ?_ | refine chk_opt (and_all hp fun _ => hp) ?_ | refine chk_opt (and_all hp fun _ => rfl) ?_ | refine ite_opt (fun _ => ?_) (fun _ => ?_) | rfl)
def run_i_meet : List PV → Option (Bool × List TR)
  | [.v (.int .i64 p), .v (.agg ⟨[.int .i64 l0, .int .i64 l1, .int .i64 l2]⟩), .v (.agg ⟨[.int .i64 m0, .int .i64 m1, .int .i64 m2]⟩)] => some (prB p, enc_a2 (i_meet p (l0, l1, l2) (m0, m1, m2)))
  | _ => none
theorem sound_i_meet : Sound Try.prog 95 run_i_meet := by
  refine sound_of de_a2 SO_i_meet (by kernel_rfl) Try.func95 Try.ntmps95 rfl (by kernel_rfl) ?_
  intro W pvs avs rs hargs hrun
  unfold run_i_meet at hrun
  split at hrun
  · simp only [Option.some.injEq, Prod.mk.injEq] at hrun
    obtain ⟨hp, rfl⟩ := hrun
    rename_i p l0 l1 l2 m0 m1 m2
    exact ⟨_, _, _, hargs, rfl, (eq_i_meet p (l0, l1, l2) (m0, m1, m2)).trans (tot_i_meet p (l0, l1, l2) (m0, m1, m2) hp)⟩
  · cases hrun

def S_i_orthocentre : Sums := ⟨tblS [(104, run_i_altitude), (95, run_i_meet)], tblM []⟩
theorem SO_i_orthocentre : SumsOK Try.prog S_i_orthocentre := ⟨tblS_ok ⟨⟨Try.call104, sound_i_altitude⟩, ⟨Try.call95, sound_i_meet⟩, True.intro⟩, tblM_ok True.intro⟩
def Fo_i_orthocentre (p : Int) (colour : Int) (a : Int × Int) (b : Int × Int) (c : Int × Int) : Option (Int × Int) :=
  (if (prB p) = true then (if (prB p) = true then (if (prB p) = true then some (i_meet p (i_altitude p colour a b c) (i_altitude p colour b a c)) else none) else none) else none)
theorem eq_i_orthocentre (p : Int) (colour : Int) (a : Int × Int) (b : Int × Int) (c : Int × Int) : execT Try.prog S_i_orthocentre 37 25 (fun _ => 1000000) dec_a2 [.v (.int .i64 p), .v (.int .i64 colour), .v (.agg ⟨[.int .i64 a.1, .int .i64 a.2]⟩), .v (.agg ⟨[.int .i64 b.1, .int .i64 b.2]⟩), .v (.agg ⟨[.int .i64 c.1, .int .i64 c.2]⟩)] = Fo_i_orthocentre p colour a b c := by
  kernel_rfl
def i_orthocentre (p : Int) (colour : Int) (a : Int × Int) (b : Int × Int) (c : Int × Int) : Int × Int :=
  (i_meet p (i_altitude p colour a b c) (i_altitude p colour b a c))
theorem tot_i_orthocentre (p : Int) (colour : Int) (a : Int × Int) (b : Int × Int) (c : Int × Int) (hp : (prB p) = true) : Fo_i_orthocentre p colour a b c = some (i_orthocentre p colour a b c) := by
  try have h0 := prB_ne hp
  unfold Fo_i_orthocentre i_orthocentre
  (try simp only [wI_eq])
  repeat' (first | with_reducible rfl | with_reducible refine chk_opt hp ?_ | with_reducible refine chk_opt h0 ?_ | refine chk_opt (and_all hp fun _ => hp) ?_ | refine chk_opt (and_all hp fun _ => rfl) ?_ | refine ite_opt (fun _ => ?_) (fun _ => ?_) | rfl)
def run_i_orthocentre : List PV → Option (Bool × List TR)
  | [.v (.int .i64 p), .v (.int .i64 colour), .v (.agg ⟨[.int .i64 a0, .int .i64 a1]⟩), .v (.agg ⟨[.int .i64 b0, .int .i64 b1]⟩), .v (.agg ⟨[.int .i64 c0, .int .i64 c1]⟩)] => some (prB p, enc_a2 (i_orthocentre p colour (a0, a1) (b0, b1) (c0, c1)))
  | _ => none
theorem sound_i_orthocentre : Sound Try.prog 37 run_i_orthocentre := by
  refine sound_of de_a2 SO_i_orthocentre (by kernel_rfl) Try.func37 Try.ntmps37 rfl (by kernel_rfl) ?_
  intro W pvs avs rs hargs hrun
  unfold run_i_orthocentre at hrun
  split at hrun
  · simp only [Option.some.injEq, Prod.mk.injEq] at hrun
    obtain ⟨hp, rfl⟩ := hrun
    rename_i p colour a0 a1 b0 b1 c0 c1
    exact ⟨_, _, _, hargs, rfl, (eq_i_orthocentre p colour (a0, a1) (b0, b1) (c0, c1)).trans (tot_i_orthocentre p colour (a0, a1) (b0, b1) (c0, c1) hp)⟩
  · cases hrun

def S_i_foot : Sums := ⟨tblS [(113, run_i_perpendicular), (95, run_i_meet)], tblM []⟩
theorem SO_i_foot : SumsOK Try.prog S_i_foot := ⟨tblS_ok ⟨⟨Try.call113, sound_i_perpendicular⟩, ⟨Try.call95, sound_i_meet⟩, True.intro⟩, tblM_ok True.intro⟩
def Fo_i_foot (p : Int) (colour : Int) (a : Int × Int) (l : Int × Int × Int) : Option (Int × Int) :=
  (if (prB p) = true then (if (prB p) = true then some (i_meet p l (i_perpendicular p colour l a)) else none) else none)
theorem eq_i_foot (p : Int) (colour : Int) (a : Int × Int) (l : Int × Int × Int) : execT Try.prog S_i_foot 45 17 (fun _ => 1000000) dec_a2 [.v (.int .i64 p), .v (.int .i64 colour), .v (.agg ⟨[.int .i64 a.1, .int .i64 a.2]⟩), .v (.agg ⟨[.int .i64 l.1, .int .i64 l.2.1, .int .i64 l.2.2]⟩)] = Fo_i_foot p colour a l := by
  kernel_rfl
def i_foot (p : Int) (colour : Int) (a : Int × Int) (l : Int × Int × Int) : Int × Int :=
  (i_meet p l (i_perpendicular p colour l a))
theorem tot_i_foot (p : Int) (colour : Int) (a : Int × Int) (l : Int × Int × Int) (hp : (prB p) = true) : Fo_i_foot p colour a l = some (i_foot p colour a l) := by
  try have h0 := prB_ne hp
  unfold Fo_i_foot i_foot
  (try simp only [wI_eq])
  repeat' (first | with_reducible rfl | with_reducible refine chk_opt hp ?_ | with_reducible refine chk_opt h0 ?_ | refine chk_opt (and_all hp fun _ => hp) ?_ | refine chk_opt (and_all hp fun _ => rfl) ?_ | refine ite_opt (fun _ => ?_) (fun _ => ?_) | rfl)
def run_i_foot : List PV → Option (Bool × List TR)
  | [.v (.int .i64 p), .v (.int .i64 colour), .v (.agg ⟨[.int .i64 a0, .int .i64 a1]⟩), .v (.agg ⟨[.int .i64 l0, .int .i64 l1, .int .i64 l2]⟩)] => some (prB p, enc_a2 (i_foot p colour (a0, a1) (l0, l1, l2)))
  | _ => none
theorem sound_i_foot : Sound Try.prog 45 run_i_foot := by
  refine sound_of de_a2 SO_i_foot (by kernel_rfl) Try.func45 Try.ntmps45 rfl (by kernel_rfl) ?_
  intro W pvs avs rs hargs hrun
  unfold run_i_foot at hrun
  split at hrun
  · simp only [Option.some.injEq, Prod.mk.injEq] at hrun
    obtain ⟨hp, rfl⟩ := hrun
    rename_i p colour a0 a1 l0 l1 l2
    exact ⟨_, _, _, hargs, rfl, (eq_i_foot p colour (a0, a1) (l0, l1, l2)).trans (tot_i_foot p colour (a0, a1) (l0, l1, l2) hp)⟩
  · cases hrun

def S_i_triangle_c1 : Sums := ⟨tblS [(65, run_i_isColour), (56, run_i_arePoints)], tblM []⟩
theorem SO_i_triangle_c1 : SumsOK Try.prog S_i_triangle_c1 := ⟨tblS_ok ⟨⟨Try.call65, sound_i_isColour⟩, ⟨Try.call56, sound_i_arePoints⟩, True.intro⟩, tblM_ok True.intro⟩
def Fo_i_triangle_c1 (c0 : Int) (c1 : Int) (c2 : Int × Int) (c3 : Int × Int) (c4 : Int × Int) : Option (Bool) :=
  (if (i_isColour c0) = true then some (i_arePoints c1 [c2, c3, c4]) else some false)
theorem eq_i_triangle_c1 (c0 : Int) (c1 : Int) (c2 : Int × Int) (c3 : Int × Int) (c4 : Int × Int) : execT Try.prog S_i_triangle_c1 103 16 (fun _ => 1000000) dec_b [.p [.int .i64 c0], .p [.int .i64 c1], .p [.int .i64 c2.1, .int .i64 c2.2], .p [.int .i64 c3.1, .int .i64 c3.2], .p [.int .i64 c4.1, .int .i64 c4.2]] = Fo_i_triangle_c1 c0 c1 c2 c3 c4 := by
  kernel_rfl
def i_triangle_c1 (c0 : Int) (c1 : Int) (c2 : Int × Int) (c3 : Int × Int) (c4 : Int × Int) : Bool :=
  (if (i_isColour c0) = true then (i_arePoints c1 [c2, c3, c4]) else false)
theorem tot_i_triangle_c1 (c0 : Int) (c1 : Int) (c2 : Int × Int) (c3 : Int × Int) (c4 : Int × Int) : Fo_i_triangle_c1 c0 c1 c2 c3 c4 = some (i_triangle_c1 c0 c1 c2 c3 c4) := by
  unfold Fo_i_triangle_c1 i_triangle_c1
  (try simp only [wI_eq])
  repeat' (first | with_reducible rfl | refine ite_opt (fun _ => ?_) (fun _ => ?_) | rfl)
def run_i_triangle_c1 : List PV → Option (Bool × List TR)
  | [.p [.int .i64 c0], .p [.int .i64 c1], .p [.int .i64 c20, .int .i64 c21], .p [.int .i64 c30, .int .i64 c31], .p [.int .i64 c40, .int .i64 c41]] => some (true, enc_b (i_triangle_c1 c0 c1 (c20, c21) (c30, c31) (c40, c41)))
  | _ => none
theorem sound_i_triangle_c1 : Sound Try.prog 103 run_i_triangle_c1 := by
  refine sound_of de_b SO_i_triangle_c1 (by kernel_rfl) Try.func103 Try.ntmps103 rfl (by kernel_rfl) ?_
  intro W pvs avs rs hargs hrun
  unfold run_i_triangle_c1 at hrun
  split at hrun
  · simp only [Option.some.injEq, Prod.mk.injEq] at hrun
    obtain ⟨hp, rfl⟩ := hrun
    rename_i c0 c1 c20 c21 c30 c31 c40 c41
    exact ⟨_, _, _, hargs, rfl, (eq_i_triangle_c1 c0 c1 (c20, c21) (c30, c31) (c40, c41)).trans (tot_i_triangle_c1 c0 c1 (c20, c21) (c30, c31) (c40, c41))⟩
  · cases hrun

def S_i_area : Sums := ⟨tblS [(107, run_i_less), (115, run_i_rest)], tblM []⟩
theorem SO_i_area : SumsOK Try.prog S_i_area := ⟨tblS_ok ⟨⟨Try.call107, sound_i_less⟩, ⟨Try.call115, sound_i_rest⟩, True.intro⟩, tblM_ok True.intro⟩
def Fo_i_area (p : Int) (a : Int × Int) (b : Int × Int) (c : Int × Int) : Option (Int) :=
  (if (prB p) = true then (if (prB p) = true then (if (prB p) = true then some (i_rest p (wI ((wI (((i_less p b a).1) * ((i_less p c a).2))) - (wI (((i_less p b a).2) * ((i_less p c a).1)))))) else none) else none) else none)
theorem eq_i_area (p : Int) (a : Int × Int) (b : Int × Int) (c : Int × Int) : execT Try.prog S_i_area 57 32 (fun _ => 1000000) dec_i [.v (.int .i64 p), .v (.agg ⟨[.int .i64 a.1, .int .i64 a.2]⟩), .v (.agg ⟨[.int .i64 b.1, .int .i64 b.2]⟩), .v (.agg ⟨[.int .i64 c.1, .int .i64 c.2]⟩)] = Fo_i_area p a b c := by
  kernel_rfl
def i_area (p : Int) (a : Int × Int) (b : Int × Int) (c : Int × Int) : Int :=
  (i_rest p (wrap64 ((wrap64 (((i_less p b a).1) * ((i_less p c a).2))) - (wrap64 (((i_less p b a).2) * ((i_less p c a).1))))))
theorem tot_i_area (p : Int) (a : Int × Int) (b : Int × Int) (c : Int × Int) (hp : (prB p) = true) : Fo_i_area p a b c = some (i_area p a b c) := by
  try have h0 := prB_ne hp
  unfold Fo_i_area i_area
  (try simp only [wI_eq])
  repeat' (first | with_reducible rfl | with_reducible refine chk_opt hp ?_ | with_reducible refine chk_opt h0 ?_ | refine chk_opt (and_all hp fun _ => hp) ?_ | refine chk_opt (and_all hp fun _ => rfl) ?_ | refine ite_opt (fun _ => ?_) (fun _ => ?_) | rfl)
def run_i_area : List PV → Option (Bool × List TR)
  | [.v (.int .i64 p), .v (.agg ⟨[.int .i64 a0, .int .i64 a1]⟩), .v (.agg ⟨[.int .i64 b0, .int .i64 b1]⟩), .v (.agg ⟨[.int .i64 c0, .int .i64 c1]⟩)] => some (prB p, enc_i (i_area p (a0, a1) (b0, b1) (c0, c1)))
  | _ => none
theorem sound_i_area : Sound Try.prog 57 run_i_area := by
  refine sound_of de_i SO_i_area (by kernel_rfl) Try.func57 Try.ntmps57 rfl (by kernel_rfl) ?_
  intro W pvs avs rs hargs hrun
  unfold run_i_area at hrun
  split at hrun
  · simp only [Option.some.injEq, Prod.mk.injEq] at hrun
    obtain ⟨hp, rfl⟩ := hrun
    rename_i p a0 a1 b0 b1 c0 c1
    exact ⟨_, _, _, hargs, rfl, (eq_i_area p (a0, a1) (b0, b1) (c0, c1)).trans (tot_i_area p (a0, a1) (b0, b1) (c0, c1) hp)⟩
  · cases hrun

def S_i_triangle : Sums := ⟨tblS [(54, run_i_asked), (103, run_i_triangle_c1), (57, run_i_area)], tblM []⟩
theorem SO_i_triangle : SumsOK Try.prog S_i_triangle := ⟨tblS_ok ⟨⟨Try.call54, sound_i_asked⟩, ⟨Try.call103, sound_i_triangle_c1⟩, ⟨Try.call57, sound_i_area⟩, True.intro⟩, tblM_ok True.intro⟩
def Fo_i_triangle (p : Int) (colour : Int) (a : Int × Int) (b : Int × Int) (c : Int × Int) : Option (Int) :=
  (if ((true) || !(i_IsField p)) = true then (if ((i_asked p (true) (i_triangle_c1 colour p a b c)) == 0) = true then (if (prB p) = true then (if ((i_area p a b c) == 0) = true then some 5 else some (i_asked p (true) (i_triangle_c1 colour p a b c))) else none) else some (i_asked p (true) (i_triangle_c1 colour p a b c))) else none)
theorem eq_i_triangle (p : Int) (colour : Int) (a : Int × Int) (b : Int × Int) (c : Int × Int) : execT Try.prog S_i_triangle 36 26 (fun _ => 1000000) dec_i [.v (.int .i64 p), .v (.int .i64 colour), .v (.agg ⟨[.int .i64 a.1, .int .i64 a.2]⟩), .v (.agg ⟨[.int .i64 b.1, .int .i64 b.2]⟩), .v (.agg ⟨[.int .i64 c.1, .int .i64 c.2]⟩)] = Fo_i_triangle p colour a b c := by
  kernel_rfl
def i_triangle (p : Int) (colour : Int) (a : Int × Int) (b : Int × Int) (c : Int × Int) : Int :=
  (if ((i_asked p (true) (i_triangle_c1 colour p a b c)) == 0) = true then (if ((i_area p a b c) == 0) = true then 5 else (i_asked p (true) (i_triangle_c1 colour p a b c))) else (i_asked p (true) (i_triangle_c1 colour p a b c)))
theorem tot_i_triangle (p : Int) (colour : Int) (a : Int × Int) (b : Int × Int) (c : Int × Int) : Fo_i_triangle p colour a b c = some (i_triangle p colour a b c) := by
  unfold Fo_i_triangle i_triangle
  (try simp only [wI_eq])
  repeat' (first | with_reducible rfl | refine chk_opt (by first | with_reducible rfl | exact Bool.true_or _ | (with_reducible exact asked_prB ‹_›) | (with_reducible exact asked_prB0 ‹_›) | exact mk_ok (by (first | (with_reducible assumption) | (with_reducible exact asked_prB ‹_›) | (with_reducible exact asked_prB0 ‹_›))) | exact and_all (by (first | (with_reducible assumption) | (with_reducible exact asked_prB ‹_›) | (with_reducible exact asked_prB0 ‹_›))) (fun _ => rfl) | exact and_all (by (first | (with_reducible assumption) | (with_reducible exact asked_prB ‹_›) | (with_reducible exact asked_prB0 ‹_›))) (fun _ => by (first | (with_reducible assumption) | (with_reducible exact asked_prB ‹_›) | (with_reducible exact asked_prB0 ‹_›))) | exact and3 (by (first | (with_reducible assumption) | (with_reducible exact asked_prB ‹_›) | (with_reducible exact asked_prB0 ‹_›))) (by (first | (with_reducible assumption) | (with_reducible exact asked_prB ‹_›) | (with_reducible exact asked_prB0 ‹_›))) (by (first | (with_reducible assumption) | (with_reducible exact asked_prB ‹_›) | (with_reducible exact asked_prB0 ‹_›))) | exact and_two (by (first | (with_reducible assumption) | (with_reducible exact asked_prB ‹_›) | (with_reducible exact asked_prB0 ‹_›))) rfl | rfl) ?_ | refine ite_opt (fun _ => ?_) (fun _ => ?_) | rfl)
def run_i_triangle : List PV → Option (Bool × List TR)
  | [.v (.int .i64 p), .v (.int .i64 colour), .v (.agg ⟨[.int .i64 a0, .int .i64 a1]⟩), .v (.agg ⟨[.int .i64 b0, .int .i64 b1]⟩), .v (.agg ⟨[.int .i64 c0, .int .i64 c1]⟩)] => some (true, enc_i (i_triangle p colour (a0, a1) (b0, b1) (c0, c1)))
  | _ => none
theorem sound_i_triangle : Sound Try.prog 36 run_i_triangle := by
  refine sound_of de_i SO_i_triangle (by kernel_rfl) Try.func36 Try.ntmps36 rfl (by kernel_rfl) ?_
  intro W pvs avs rs hargs hrun
  unfold run_i_triangle at hrun
  split at hrun
  · simp only [Option.some.injEq, Prod.mk.injEq] at hrun
    obtain ⟨hp, rfl⟩ := hrun
    rename_i p colour a0 a1 b0 b1 c0 c1
    exact ⟨_, _, _, hargs, rfl, (eq_i_triangle p colour (a0, a1) (b0, b1) (c0, c1)).trans (tot_i_triangle p colour (a0, a1) (b0, b1) (c0, c1))⟩
  · cases hrun

theorem triangle_prB {p : Int} {k : Int} {a b c : P2} (h : ¬ (i_triangle p k a b c != 0) = true) : prB p = true := by
  refine Pr_prB (i_IsField_ok ?_)
  have h : i_triangle p k a b c = 0 := by simpa using h
  cases hf : i_IsField p
  · simp [i_triangle, i_asked, s_l01Field, hf] at h
  · rfl
theorem triangle_prB0 {p : Int} {k : Int} {a b c : P2} (h : (i_triangle p k a b c == 0) = true) : prB p = true := triangle_prB (by simpa using h)
def S_i_allPoints : Sums := ⟨tblS [], tblM []⟩
theorem SO_i_allPoints : SumsOK Try.prog S_i_allPoints := ⟨tblS_ok True.intro, tblM_ok True.intro⟩
def T_i_allPoints_2 (p : Int) (l6 : List Int) (m6 : Nat) (x : Int) : Tab := ⟨[.val (.int .i64 p), .junk, .val (.slice none 0 0), .row 24, .val (.int .i64 x), .junk, .junk, .junk, .junk, .junk, .junk, .junk, .junk, .junk, .junk, .junk, .junk, .junk, .junk, .junk, .junk, .junk, .junk, .junk], [(24, .row 25 2 m6 (.ints l6))]⟩
def T_i_allPoints_3 (p : Int) (l6 : List Int) (m6 : Nat) (x : Int) (l6' : List Int) (m6' : Nat) (y : Int) : Tab := ⟨[.val (.int .i64 p), .junk, .val (.slice none 0 0), .row 24, .val (.int .i64 x), .val (.int .i64 y), .junk, .val (.int .i64 x), .val (.int .i64 p), .val (.bool (decide (x < p))), .junk, .junk, .junk, .junk, .junk, .junk, .junk, .junk, .junk, .junk, .junk, .junk, .junk, .junk], [(24, .row 25 2 m6' (.ints l6'))]⟩
def X_i_allPoints_3 (P : Program) (fu : Nat) (p : Int) (l6 : List Int) (m6 : Nat) (x : Int) (rc2 : Tab → Option (Nat × List Int)) (f : Nat) (l6' : List Int) (m6' : Nat) (y : Int) : Option (Nat × List Int) := loopK (exec P S_i_allPoints 24 (fun _ => fu + 100) (Code.sub [1, 1, 0, 1, 0, 0, 1, 0, 0, 1, 0, 0] (bodyF P 105))) f (T_i_allPoints_3 p l6 m6 x l6' m6' y) (kBlock 2 (kBlock 1 (kSeq (fun s => exec P S_i_allPoints 24 (fun _ => fu + 100) (Code.sub [1, 1, 0, 1, 0, 0, 1, 1] (bodyF P 105)) s (kLoop rc2 (T_i_allPoints_2 p l6 m6 x) (kBlock 0 (kSeq (fun s => exec P S_i_allPoints 24 (fun _ => fu + 100) (Code.sub [1, 1, 1] (bodyF P 105)) s (finT P 105 dec_l25_2)) (finT P 105 dec_l25_2))))) (kLoop rc2 (T_i_allPoints_2 p l6 m6 x) (kBlock 0 (kSeq (fun s => exec P S_i_allPoints 24 (fun _ => fu + 100) (Code.sub [1, 1, 1] (bodyF P 105)) s (finT P 105 dec_l25_2)) (finT P 105 dec_l25_2)))))))
def B_i_allPoints_3 (p : Int) (l6 : List Int) (m6 : Nat) (x : Int) (rec2 : (List Int) → Nat → Int → Option (Nat × List Int)) (rec3 : (List Int) → Nat → Int → Option (Nat × List Int)) (l6' : List Int) (m6' : Nat) (y : Int) : Option (Nat × List Int) :=
  (if (decide (y < p)) = true then (if (Nat.ble 1 1 && Nat.ble (m6' + 1) 1000000 && Nat.beq 2 (2)) = true then rec3 (l6' ++ [x, y]) (m6' + 1) (wI (y + 1)) else none) else rec2 l6' m6' (wI (x + 1)))
def L_i_allPoints_3 (fu : Nat) (p : Int) (l6 : List Int) (m6 : Nat) (x : Int) (rec2 : (List Int) → Nat → Int → Option (Nat × List Int)) : Nat → (List Int) → Nat → Int → Option (Nat × List Int)
  | 0, _, _, _ => none
  | f + 1, l6', m6', y => B_i_allPoints_3 p l6 m6 x rec2 (L_i_allPoints_3 fu p l6 m6 x rec2 f) l6' m6' y
theorem loop_i_allPoints_3 (fu : Nat) (p : Int) (l6 : List Int) (m6 : Nat) (x : Int) (rc2 : Tab → Option (Nat × List Int)) : ∀ (f : Nat) (l6' : List Int) (m6' : Nat) (y : Int), X_i_allPoints_3 Try.prog fu p l6 m6 x rc2 f l6' m6' y = L_i_allPoints_3 fu p l6 m6 x (fun l6 m6 x => rc2 (T_i_allPoints_2 p l6 m6 x)) f l6' m6' y := by
  intro f
  induction f with
  | zero => intros; rfl
  | succ f ih =>
    intro l6' m6' y
    have h1 : X_i_allPoints_3 Try.prog fu p l6 m6 x rc2 (f + 1) l6' m6' y = B_i_allPoints_3 p l6 m6 x (fun l6 m6 x => rc2 (T_i_allPoints_2 p l6 m6 x)) (X_i_allPoints_3 Try.prog fu p l6 m6 x rc2 f) l6' m6' y := by kernel_rfl
    have h2 : X_i_allPoints_3 Try.prog fu p l6 m6 x rc2 f = L_i_allPoints_3 fu p l6 m6 x (fun l6 m6 x => rc2 (T_i_allPoints_2 p l6 m6 x)) f := by funext l6' m6' y; exact ih l6' m6' y
    rw [h1, h2]
    rfl
def X_i_allPoints_2 (P : Program) (fu : Nat) (p : Int) (f : Nat) (l6 : List Int) (m6 : Nat) (x : Int) : Option (Nat × List Int) := loopK (exec P S_i_allPoints 24 (fun _ => fu + 100) (Code.sub [1, 1, 0, 1, 0, 0] (bodyF P 105))) f (T_i_allPoints_2 p l6 m6 x) (kBlock 0 (kSeq (fun s => exec P S_i_allPoints 24 (fun _ => fu + 100) (Code.sub [1, 1, 1] (bodyF P 105)) s (finT P 105 dec_l25_2)) (finT P 105 dec_l25_2)))
def B_i_allPoints_2 (p : Int) (lo3 : (List Int) → Nat → Int → Option (Nat × List Int)) (rec2 : (List Int) → Nat → Int → Option (Nat × List Int)) (l6 : List Int) (m6 : Nat) (x : Int) : Option (Nat × List Int) :=
  (if (decide (x < p)) = true then lo3 l6 m6 0 else some (m6, l6))
def L_i_allPoints_2 (fu : Nat) (p : Int) : Nat → (List Int) → Nat → Int → Option (Nat × List Int)
  | 0, _, _, _ => none
  | f + 1, l6, m6, x => B_i_allPoints_2 p (L_i_allPoints_3 fu p l6 m6 x (L_i_allPoints_2 fu p f) (fu + 100)) (L_i_allPoints_2 fu p f) l6 m6 x
theorem loop_i_allPoints_2 (fu : Nat) (p : Int) : ∀ (f : Nat) (l6 : List Int) (m6 : Nat) (x : Int), X_i_allPoints_2 Try.prog fu p f l6 m6 x = L_i_allPoints_2 fu p f l6 m6 x := by
  intro f
  induction f with
  | zero => intros; rfl
  | succ f ih =>
    intro l6 m6 x
    have h1 : X_i_allPoints_2 Try.prog fu p (f + 1) l6 m6 x = B_i_allPoints_2 p (X_i_allPoints_3 Try.prog fu p l6 m6 x (fun t => loopK (exec Try.prog S_i_allPoints 24 (fun _ => fu + 100) (Code.sub [1, 1, 0, 1, 0, 0] (bodyF Try.prog 105))) f t (kBlock 0 (kSeq (fun s => exec Try.prog S_i_allPoints 24 (fun _ => fu + 100) (Code.sub [1, 1, 1] (bodyF Try.prog 105)) s (finT Try.prog 105 dec_l25_2)) (finT Try.prog 105 dec_l25_2)))) (fu + 100)) (X_i_allPoints_2 Try.prog fu p f) l6 m6 x := by kernel_rfl
    have h2 : X_i_allPoints_2 Try.prog fu p f = L_i_allPoints_2 fu p f := by funext l6 m6 x; exact ih l6 m6 x
    have c3 : (X_i_allPoints_3 Try.prog fu p l6 m6 x (fun t => loopK (exec Try.prog S_i_allPoints 24 (fun _ => fu + 100) (Code.sub [1, 1, 0, 1, 0, 0] (bodyF Try.prog 105))) f t (kBlock 0 (kSeq (fun s => exec Try.prog S_i_allPoints 24 (fun _ => fu + 100) (Code.sub [1, 1, 1] (bodyF Try.prog 105)) s (finT Try.prog 105 dec_l25_2)) (finT Try.prog 105 dec_l25_2)))) (fu + 100)) = L_i_allPoints_3 fu p l6 m6 x (X_i_allPoints_2 Try.prog fu p f) (fu + 100) := by funext l6' m6' y; exact loop_i_allPoints_3 fu p l6 m6 x (fun t => loopK (exec Try.prog S_i_allPoints 24 (fun _ => fu + 100) (Code.sub [1, 1, 0, 1, 0, 0] (bodyF Try.prog 105))) f t (kBlock 0 (kSeq (fun s => exec Try.prog S_i_allPoints 24 (fun _ => fu + 100) (Code.sub [1, 1, 1] (bodyF Try.prog 105)) s (finT Try.prog 105 dec_l25_2)) (finT Try.prog 105 dec_l25_2)))) (fu + 100) l6' m6' y
    rw [h1, c3, h2]
    rfl
def G_i_allPoints (p : Int) (lo2 : (List Int) → Nat → Int → Option (Nat × List Int)) : Option (Nat × List Int) :=
  lo2 [] 0 0
def Fo_i_allPoints (fu : Nat) (p : Int) : Option (Nat × List Int) := G_i_allPoints p (L_i_allPoints_2 fu p (fu + 100))
theorem eqg_i_allPoints (fu : Nat) (p : Int) : execT Try.prog S_i_allPoints 105 24 (fun _ => fu + 100) dec_l25_2 [.v (.int .i64 p)] = G_i_allPoints p (L_i_allPoints_2 fu p (fu + 100)) := by
  have h1 : execT Try.prog S_i_allPoints 105 24 (fun _ => fu + 100) dec_l25_2 [.v (.int .i64 p)] = G_i_allPoints p (X_i_allPoints_2 Try.prog fu p (fu + 100)) := by kernel_rfl
  have c2 : X_i_allPoints_2 Try.prog fu p (fu + 100) = L_i_allPoints_2 fu p (fu + 100) := by funext l6 m6 x; exact loop_i_allPoints_2 fu p (fu + 100) l6 m6 x
  rw [h1, c2]
theorem eq_i_allPoints (fu : Nat) (p : Int) : execT Try.prog S_i_allPoints 105 24 (fun _ => fu + 100) dec_l25_2 [.v (.int .i64 p)] = Fo_i_allPoints fu p := eqg_i_allPoints fu p
def i_allPoints (p : Int) : Nat × List Int := ((pts p).length, flat2 (pts p))
theorem lo3_i_allPoints {p : Int} (hp : prB p = true) (fu : Nat) (l6 : List Int) (m6 : Nat) (x : Int) (rec2 : List Int → Nat → Int → Option (Nat × List Int)) {F m : Nat} {l : List Int} (hF : p.toNat < F) (hm : m ≤ 100000) :
    L_i_allPoints_3 fu p l6 m6 x rec2 F l m 0 = rec2 (l ++ flat2 ((List.range p.toNat).flatMap (fun y : Nat => [((x : Int), (y : Int))]))) (m + ((List.range p.toNat).flatMap (fun y : Nat => [((x : Int), (y : Int))])).length) (wI (x + 1)) := by
  obtain ⟨h1, h0, hpn⟩ := prB_nat hp
  exact gather (flat := flat2) flat2_app rfl (L := fun f l m i => L_i_allPoints_3 fu p l6 m6 x rec2 f l m i) (n := p.toNat) (b := 1) (M := 100000) ((fun y : Nat => [((x : Int), (y : Int))])) (K := (rec2 (l ++ flat2 ((List.range p.toNat).flatMap (fun y : Nat => [((x : Int), (y : Int))]))) (m + ((List.range p.toNat).flatMap (fun y : Nat => [((x : Int), (y : Int))])).length) (wI (x + 1)))) (l := l) (m := m) (F := F) (by intro k hk; first | (split <;> simp) | simp_all)
    (fun f k l m hk hm => by
      show B_i_allPoints_3 p l6 m6 x rec2 (L_i_allPoints_3 fu p l6 m6 x rec2 f) l m (k : Int) = _
      unfold B_i_allPoints_3
      rw [if_pos (cndp hk), if_pos (by simp; omega), wrap_add1 hk (by omega)]
      rfl)
    (fun f hm => by
      show B_i_allPoints_3 p l6 m6 x rec2 (L_i_allPoints_3 fu p l6 m6 x rec2 f) (l ++ flat2 ((List.range p.toNat).flatMap ((fun y : Nat => [((x : Int), (y : Int))])))) (m + ((List.range p.toNat).flatMap ((fun y : Nat => [((x : Int), (y : Int))]))).length) ((p.toNat : Nat) : Int) = _
      unfold B_i_allPoints_3
      rw [if_neg (by simp; omega)]) hF hm
theorem lo2_i_allPoints {p : Int} (hp : prB p = true) {F : Nat} (hF : p.toNat < F) : L_i_allPoints_2 1000000 p F [] 0 0 = (some (((pts p)).length, flat2 ((pts p)))) := by
  obtain ⟨h1, h0, hpn⟩ := prB_nat hp
  exact gather (flat := flat2) flat2_app rfl (L := fun f l m i => L_i_allPoints_2 1000000 p f l m i) (n := p.toNat) (b := 31) (M := 0) ((fun x : Nat => (List.range p.toNat).flatMap (fun y : Nat => [(((x : Int) : Int), (y : Int))]))) (K := (some (((pts p)).length, flat2 ((pts p))))) (l := []) (m := 0) (F := F) (by intro k hk; refine Nat.le_trans (len_flatMap_le (b := 1) fun j _ => ?_) (by omega); first | (split <;> simp) | simp)
    (fun f k l m hk hm => by
      show B_i_allPoints_2 p (L_i_allPoints_3 1000000 p l m (k : Int) (L_i_allPoints_2 1000000 p f) (1000000 + 100)) (L_i_allPoints_2 1000000 p f) l m (k : Int) = _
      unfold B_i_allPoints_2
      rw [if_pos (cndp hk), lo3_i_allPoints hp _ _ _ _ _ (by omega) (by omega), wrap_add1 hk (by omega)])
    (fun f hm => by
      show B_i_allPoints_2 p (L_i_allPoints_3 1000000 p ([] ++ flat2 ((List.range p.toNat).flatMap ((fun x : Nat => (List.range p.toNat).flatMap (fun y : Nat => [(((x : Int) : Int), (y : Int))]))))) (0 + ((List.range p.toNat).flatMap ((fun x : Nat => (List.range p.toNat).flatMap (fun y : Nat => [(((x : Int) : Int), (y : Int))])))).length) ((p.toNat : Nat) : Int) (L_i_allPoints_2 1000000 p f) (1000000 + 100)) (L_i_allPoints_2 1000000 p f) ([] ++ flat2 ((List.range p.toNat).flatMap ((fun x : Nat => (List.range p.toNat).flatMap (fun y : Nat => [(((x : Int) : Int), (y : Int))]))))) (0 + ((List.range p.toNat).flatMap ((fun x : Nat => (List.range p.toNat).flatMap (fun y : Nat => [(((x : Int) : Int), (y : Int))])))).length) ((p.toNat : Nat) : Int) = _
      unfold B_i_allPoints_2
      have hkp : ((List.range p.toNat).flatMap (fun x : Nat => (List.range p.toNat).flatMap (fun y : Nat => [(((x : Int) : Int), (y : Int))]))) = (pts p) := by unfold pts; congr 1; funext x; exact flatMap_one _ _
      rw [if_neg (by simp; omega), hkp]
      simp) hF (Nat.le_refl _)

theorem tot_i_allPoints (p : Int) (hp : (prB p) = true) : Fo_i_allPoints 1000000 p = some (i_allPoints p) := by
  unfold Fo_i_allPoints G_i_allPoints
  have h1 := (prB_nat hp).1
  exact lo2_i_allPoints hp (by omega)
def run_i_allPoints : List PV → Option (Bool × List TR)
  | [.v (.int .i64 p)] => some (prB p, enc_l25_2 (i_allPoints p))
  | _ => none
theorem sound_i_allPoints : Sound Try.prog 105 run_i_allPoints := by
  refine sound_of de_l25_2 SO_i_allPoints (by kernel_rfl) Try.func105 Try.ntmps105 rfl (by kernel_rfl) ?_
  intro W pvs avs rs hargs hrun
  unfold run_i_allPoints at hrun
  split at hrun
  · simp only [Option.some.injEq, Prod.mk.injEq] at hrun
    obtain ⟨hp, rfl⟩ := hrun
    rename_i p
    exact ⟨_, _, _, hargs, rfl, (eq_i_allPoints _ p).trans (tot_i_allPoints p hp)⟩
  · cases hrun

def S_i_circumcentre : Sums := ⟨tblS [(105, run_i_allPoints), (48, run_i_quadrance)], tblM []⟩
theorem SO_i_circumcentre : SumsOK Try.prog S_i_circumcentre := ⟨tblS_ok ⟨⟨Try.call105, sound_i_allPoints⟩, ⟨Try.call48, sound_i_quadrance⟩, True.intro⟩, tblM_ok True.intro⟩
def T_i_circumcentre_0 (p : Int) (colour : Int) (a : Int × Int) (b : Int × Int) (c : Int × Int) (t17 : Int) : Tab := ⟨[.val (.int .i64 p), .val (.int .i64 colour), .val (.agg ⟨[.int .i64 a.1, .int .i64 a.2]⟩), .val (.agg ⟨[.int .i64 b.1, .int .i64 b.2]⟩), .val (.agg ⟨[.int .i64 c.1, .int .i64 c.2]⟩), .junk, .junk, .ptr 28 0, .ptr 32 0, .ptr 36 0, .ptr 40 0, .junk, .junk, .junk, .val (.int .i64 p), .row 60, .val (.int .i64 (((i_allPoints p).1 : Nat) : Int)), .val (.int .i64 t17), .junk, .junk, .junk, .junk, .junk, .junk, .junk, .junk, .junk, .junk, .junk, .junk, .junk, .junk, .junk, .junk, .junk, .junk, .junk, .junk, .junk, .junk, .junk, .junk, .junk, .junk, .junk], [(28, .box 25 [.val (.int .i64 a.1), .val (.int .i64 a.2)]), (32, .box 25 [.val (.int .i64 b.1), .val (.int .i64 b.2)]), (36, .box 25 [.val (.int .i64 c.1), .val (.int .i64 c.2)]), (40, .box 25 [.val (.int .i64 0), .val (.int .i64 0)]), (60, .row 25 2 ((i_allPoints p).1) (.ints ((i_allPoints p).2)))]⟩
def X_i_circumcentre_0 (P : Program) (fu : Nat) (p : Int) (colour : Int) (a : Int × Int) (b : Int × Int) (c : Int × Int) (f : Nat) (t17 : Int) : Option (Int × Int) := loopK (exec P S_i_circumcentre 45 (fun _ => fu + 100) (Code.sub [1, 0, 1, 0, 0] (bodyF P 38))) f (T_i_circumcentre_0 p colour a b c t17) (kBlock 0 (kSeq (fun s => exec P S_i_circumcentre 45 (fun _ => fu + 100) (Code.sub [1, 1] (bodyF P 38)) s (finT P 38 dec_a2)) (finT P 38 dec_a2)))
def B_i_circumcentre_0 (p : Int) (colour : Int) (a : Int × Int) (b : Int × Int) (c : Int × Int) (rec0 : Int → Option (Int × Int)) (t17 : Int) : Option (Int × Int) :=
  (if (decide (t17 < (((i_allPoints p).1 : Nat) : Int))) = true then (if (decide (0 ≤ t17) && decide (t17 < (((i_allPoints p).1 : Nat) : Int))) = true then (if (Nat.ble (t17.toNat * 2 + 2) (((i_allPoints p).2).length)) = true then (if (prB p) = true then (if (prB p) = true then (if ((i_quadrance p colour (((i_allPoints p).2).getD (t17.toNat * 2 + 0) 0, ((i_allPoints p).2).getD (t17.toNat * 2 + 1) 0) a) == (i_quadrance p colour (((i_allPoints p).2).getD (t17.toNat * 2 + 0) 0, ((i_allPoints p).2).getD (t17.toNat * 2 + 1) 0) b)) = true then (if (prB p) = true then (if ((i_quadrance p colour (((i_allPoints p).2).getD (t17.toNat * 2 + 0) 0, ((i_allPoints p).2).getD (t17.toNat * 2 + 1) 0) a) == (i_quadrance p colour (((i_allPoints p).2).getD (t17.toNat * 2 + 0) 0, ((i_allPoints p).2).getD (t17.toNat * 2 + 1) 0) c)) = true then some (((i_allPoints p).2).getD (t17.toNat * 2 + 0) 0, ((i_allPoints p).2).getD (t17.toNat * 2 + 1) 0) else rec0 (wI (t17 + 1))) else none) else rec0 (wI (t17 + 1))) else none) else none) else none) else none) else some (0, 0))
def L_i_circumcentre_0 (fu : Nat) (p : Int) (colour : Int) (a : Int × Int) (b : Int × Int) (c : Int × Int) : Nat → Int → Option (Int × Int)
  | 0, _ => none
  | f + 1, t17 => B_i_circumcentre_0 p colour a b c (L_i_circumcentre_0 fu p colour a b c f) t17
theorem loop_i_circumcentre_0 (fu : Nat) (p : Int) (colour : Int) (a : Int × Int) (b : Int × Int) (c : Int × Int) : ∀ (f : Nat) (t17 : Int), X_i_circumcentre_0 Try.prog fu p colour a b c f t17 = L_i_circumcentre_0 fu p colour a b c f t17 := by
  intro f
  induction f with
  | zero => intros; rfl
  | succ f ih =>
    intro t17
    have h1 : X_i_circumcentre_0 Try.prog fu p colour a b c (f + 1) t17 = B_i_circumcentre_0 p colour a b c (X_i_circumcentre_0 Try.prog fu p colour a b c f) t17 := by kernel_rfl
    have h2 : X_i_circumcentre_0 Try.prog fu p colour a b c f = L_i_circumcentre_0 fu p colour a b c f := by funext t17; exact ih t17
    rw [h1, h2]
    rfl
def G_i_circumcentre (p : Int) (colour : Int) (a : Int × Int) (b : Int × Int) (c : Int × Int) (lo0 : Int → Option (Int × Int)) : Option (Int × Int) :=
  (if (prB p) = true then lo0 0 else none)
def Fo_i_circumcentre (fu : Nat) (p : Int) (colour : Int) (a : Int × Int) (b : Int × Int) (c : Int × Int) : Option (Int × Int) := G_i_circumcentre p colour a b c (L_i_circumcentre_0 fu p colour a b c (fu + 100))
theorem eqg_i_circumcentre (fu : Nat) (p : Int) (colour : Int) (a : Int × Int) (b : Int × Int) (c : Int × Int) : execT Try.prog S_i_circumcentre 38 45 (fun _ => fu + 100) dec_a2 [.v (.int .i64 p), .v (.int .i64 colour), .v (.agg ⟨[.int .i64 a.1, .int .i64 a.2]⟩), .v (.agg ⟨[.int .i64 b.1, .int .i64 b.2]⟩), .v (.agg ⟨[.int .i64 c.1, .int .i64 c.2]⟩)] = G_i_circumcentre p colour a b c (L_i_circumcentre_0 fu p colour a b c (fu + 100)) := by
  have h1 : execT Try.prog S_i_circumcentre 38 45 (fun _ => fu + 100) dec_a2 [.v (.int .i64 p), .v (.int .i64 colour), .v (.agg ⟨[.int .i64 a.1, .int .i64 a.2]⟩), .v (.agg ⟨[.int .i64 b.1, .int .i64 b.2]⟩), .v (.agg ⟨[.int .i64 c.1, .int .i64 c.2]⟩)] = G_i_circumcentre p colour a b c (X_i_circumcentre_0 Try.prog fu p colour a b c (fu + 100)) := by kernel_rfl
  have c0 : X_i_circumcentre_0 Try.prog fu p colour a b c (fu + 100) = L_i_circumcentre_0 fu p colour a b c (fu + 100) := by funext t17; exact loop_i_circumcentre_0 fu p colour a b c (fu + 100) t17
  rw [h1, c0]
theorem eq_i_circumcentre (fu : Nat) (p : Int) (colour : Int) (a : Int × Int) (b : Int × Int) (c : Int × Int) : execT Try.prog S_i_circumcentre 38 45 (fun _ => fu + 100) dec_a2 [.v (.int .i64 p), .v (.int .i64 colour), .v (.agg ⟨[.int .i64 a.1, .int .i64 a.2]⟩), .v (.agg ⟨[.int .i64 b.1, .int .i64 b.2]⟩), .v (.agg ⟨[.int .i64 c.1, .int .i64 c.2]⟩)] = Fo_i_circumcentre fu p colour a b c := eqg_i_circumcentre fu p colour a b c
def i_circumcentre (p colour : Int) (a b c : P2) : P2 := (((pts p).findSome? fun zz => if (i_quadrance p colour zz a == i_quadrance p colour zz b && i_quadrance p colour zz a == i_quadrance p colour zz c) = true then some zz else none)).getD (0, 0)
theorem lo0_i_circumcentre (p colour : Int) (a b c : P2) (hp : prB p = true) {F : Nat} (hF : 993 < F) : L_i_circumcentre_0 1000000 p colour a b c F 0 = some ((((pts p).findSome? fun zz => if ((i_quadrance p colour zz a == i_quadrance p colour zz b) && (i_quadrance p colour zz a == i_quadrance p colour zz c)) = true then some (zz) else none)).getD (0, 0)) := by
  have hlen : (pts p).length ≤ 993 := Nat.le_trans (pts_len hp) (by omega)
  have h := seek (L := fun f i => L_i_circumcentre_0 1000000 p colour a b c f i) (n := (pts p).length) (F := F) (q := fun k => if ((i_quadrance p colour (R2 (flat2 (pts p)) k) a == i_quadrance p colour (R2 (flat2 (pts p)) k) b) && (i_quadrance p colour (R2 (flat2 (pts p)) k) a == i_quadrance p colour (R2 (flat2 (pts p)) k) c)) = true then some ((R2 (flat2 (pts p)) k)) else none) (e := (0, 0)) (by omega)
    (fun f k hk => by
      show B_i_circumcentre_0 p colour a b c (L_i_circumcentre_0 1000000 p colour a b c f) (k : Int) = _
      unfold B_i_circumcentre_0
      have e0 : decide (0 ≤ (k : Int)) = true := by simp
      have e1 := cnd hk
      have e3 : (k : Int).toNat = k := Int.toNat_natCast k
      have e4 := row2_ok (flat2_len _) hk
      rw [show i_allPoints p = ((pts p).length, flat2 (pts p)) from rfl]
      simp only [e0, e1, e3, e4, hp, Bool.and_true, Bool.true_and, if_true, wrap_add1 hk (by omega)]
      have hr : ((flat2 (pts p)).getD (k * 2 + 0) 0, (flat2 (pts p)).getD (k * 2 + 1) 0) = R2 (flat2 (pts p)) k := rfl
      try simp only [hr]
      generalize ((i_quadrance p colour (R2 (flat2 (pts p)) k) a == i_quadrance p colour (R2 (flat2 (pts p)) k) b)) = c0
      generalize ((i_quadrance p colour (R2 (flat2 (pts p)) k) a == i_quadrance p colour (R2 (flat2 (pts p)) k) c)) = c1
      cases c0 <;> cases c1 <;> rfl)
    (fun f => by
      show B_i_circumcentre_0 p colour a b c (L_i_circumcentre_0 1000000 p colour a b c f) (((pts p).length : Nat) : Int) = _
      unfold B_i_circumcentre_0
      rw [show i_allPoints p = ((pts p).length, flat2 (pts p)) from rfl]
      rw [if_neg (by simp)])
  have h2 := find_row (pts p) (0, 0) (fun zz => if ((i_quadrance p colour zz a == i_quadrance p colour zz b) && (i_quadrance p colour zz a == i_quadrance p colour zz c)) = true then some (zz) else none)
  rw [← h2]
  simp only [← R2_flat]
  exact h

theorem tot_i_circumcentre (p : Int) (colour : Int) (a : Int × Int) (b : Int × Int) (c : Int × Int) (hp : (prB p) = true) : Fo_i_circumcentre 1000000 p colour a b c = some (i_circumcentre p colour a b c) := by
  unfold Fo_i_circumcentre G_i_circumcentre
  rw [if_pos hp]
  exact lo0_i_circumcentre p colour a b c hp (by omega)
def run_i_circumcentre : List PV → Option (Bool × List TR)
  | [.v (.int .i64 p), .v (.int .i64 colour), .v (.agg ⟨[.int .i64 a0, .int .i64 a1]⟩), .v (.agg ⟨[.int .i64 b0, .int .i64 b1]⟩), .v (.agg ⟨[.int .i64 c0, .int .i64 c1]⟩)] => some (prB p, enc_a2 (i_circumcentre p colour (a0, a1) (b0, b1) (c0, c1)))
  | _ => none
theorem sound_i_circumcentre : Sound Try.prog 38 run_i_circumcentre := by
  refine sound_of de_a2 SO_i_circumcentre (by kernel_rfl) Try.func38 Try.ntmps38 rfl (by kernel_rfl) ?_
  intro W pvs avs rs hargs hrun
  unfold run_i_circumcentre at hrun
  split at hrun
  · simp only [Option.some.injEq, Prod.mk.injEq] at hrun
    obtain ⟨hp, rfl⟩ := hrun
    rename_i p colour a0 a1 b0 b1 c0 c1
    exact ⟨_, _, _, hargs, rfl, (eq_i_circumcentre _ p colour (a0, a1) (b0, b1) (c0, c1)).trans (tot_i_circumcentre p colour (a0, a1) (b0, b1) (c0, c1) hp)⟩
  · cases hrun


end

end Go.Proofs.Ytpffcfiojjgnlaa
