import Derived.Test.YtfclaacaphpoaaaFb
import Derived.Test.YtfclaacaphpoaaaFd
import Derived.Test.YtfclaacaphpoaaaProg
set_option linter.unusedSimpArgs false
set_option linter.unusedVariables false
namespace Go.Proofs.Ytfclaacaphpoaaa
open Go.RowKit
noncomputable section
def S_s_PolarOf : Sums := ⟨tblS [(48, run_s_l08Given), (51, run_s_l08Polar)], tblM []⟩
theorem SO_s_PolarOf : SumsOK Try.prog S_s_PolarOf := ⟨tblS_ok ⟨⟨Try.call48, sound_s_l08Given⟩, ⟨Try.call51, sound_s_l08Polar⟩, True.intro⟩, tblM_ok True.intro⟩
def Fo_s_PolarOf (p : Int) (k : Int × Int × Int × Int × Int × Int) (a : Int × Int) : Option ((Int × Int × Int) × Int) :=
  (if ((s_l08Given p k a) != 0) = true then some ((0, 0, 0), (s_l08Given p k a)) else (if (prB p) = true then (if (!((s_l08Polar p k a).2)) = true then some ((0, 0, 0), 5) else some (((s_l08Polar p k a).1), 0)) else none))
theorem eq_s_PolarOf (p : Int) (k : Int × Int × Int × Int × Int × Int) (a : Int × Int) : execT Try.prog S_s_PolarOf 23 30 (fun _ => 1000000) dec_a3_i [.v (.int .i64 p), .v (.agg ⟨[.int .i64 k.1, .int .i64 k.2.1, .int .i64 k.2.2.1, .int .i64 k.2.2.2.1, .int .i64 k.2.2.2.2.1, .int .i64 k.2.2.2.2.2]⟩), .v (.agg ⟨[.int .i64 a.1, .int .i64 a.2]⟩)] = Fo_s_PolarOf p k a := by
  kernel_rfl
def s_PolarOf (p : Int) (k : Int × Int × Int × Int × Int × Int) (a : Int × Int) : (Int × Int × Int) × Int :=
  (if ((s_l08Given p k a) != 0) = true then ((0, 0, 0), (s_l08Given p k a)) else (if (!((s_l08Polar p k a).2)) = true then ((0, 0, 0), 5) else (((s_l08Polar p k a).1), 0)))
theorem tot_s_PolarOf (p : Int) (k : Int × Int × Int × Int × Int × Int) (a : Int × Int) : Fo_s_PolarOf p k a = some (s_PolarOf p k a) := by
  unfold Fo_s_PolarOf s_PolarOf
  (try simp only [wI_eq])
  repeat' (first | with_reducible rfl | refine chk_opt (by first | with_reducible rfl | exact Bool.true_or _ | (with_reducible exact l08Given_prB ‹_›) | (with_reducible exact l08Given_prB0 ‹_›) | exact mk_ok (by (first | (with_reducible assumption) | (with_reducible exact l08Given_prB ‹_›) | (with_reducible exact l08Given_prB0 ‹_›))) | exact and_all (by (first | (with_reducible assumption) | (with_reducible exact l08Given_prB ‹_›) | (with_reducible exact l08Given_prB0 ‹_›))) (fun _ => rfl) | exact and_all (by (first | (with_reducible assumption) | (with_reducible exact l08Given_prB ‹_›) | (with_reducible exact l08Given_prB0 ‹_›))) (fun _ => by (first | (with_reducible assumption) | (with_reducible exact l08Given_prB ‹_›) | (with_reducible exact l08Given_prB0 ‹_›))) | exact and3 (by (first | (with_reducible assumption) | (with_reducible exact l08Given_prB ‹_›) | (with_reducible exact l08Given_prB0 ‹_›))) (by (first | (with_reducible assumption) | (with_reducible exact l08Given_prB ‹_›) | (with_reducible exact l08Given_prB0 ‹_›))) (by (first | (with_reducible assumption) | (with_reducible exact l08Given_prB ‹_›) | (with_reducible exact l08Given_prB0 ‹_›))) | exact and_two (by (first | (with_reducible assumption) | (with_reducible exact l08Given_prB ‹_›) | (with_reducible exact l08Given_prB0 ‹_›))) rfl | rfl) ?_ | refine ite_opt (fun _ => ?_) (fun _ => ?_) | rfl)
def run_s_PolarOf : List PV → Option (Bool × List TR)
  | [.v (.int .i64 p), .v (.agg ⟨[.int .i64 k0, .int .i64 k1, .int .i64 k2, .int .i64 k3, .int .i64 k4, .int .i64 k5]⟩), .v (.agg ⟨[.int .i64 a0, .int .i64 a1]⟩)] => some (true, enc_a3_i (s_PolarOf p (k0, k1, k2, k3, k4, k5) (a0, a1)))
  | _ => none
theorem sound_s_PolarOf : Sound Try.prog 23 run_s_PolarOf := by
  refine sound_of de_a3_i SO_s_PolarOf (by kernel_rfl) Try.func23 Try.ntmps23 rfl (by kernel_rfl) ?_
  intro W pvs avs rs hargs hrun
  unfold run_s_PolarOf at hrun
  split at hrun
  · simp only [Option.some.injEq, Prod.mk.injEq] at hrun
    obtain ⟨hp, rfl⟩ := hrun
    rename_i p k0 k1 k2 k3 k4 k5 a0 a1
    exact ⟨_, _, _, hargs, rfl, (eq_s_PolarOf p (k0, k1, k2, k3, k4, k5) (a0, a1)).trans (tot_s_PolarOf p (k0, k1, k2, k3, k4, k5) (a0, a1))⟩
  · cases hrun

def S_s_l08Points : Sums := ⟨tblS [(50, run_s_l08Value)], tblM []⟩
theorem SO_s_l08Points : SumsOK Try.prog S_s_l08Points := ⟨tblS_ok ⟨⟨Try.call50, sound_s_l08Value⟩, True.intro⟩, tblM_ok True.intro⟩
def T_s_l08Points_2 (p : Int) (k : Int × Int × Int × Int × Int × Int) (l9 : List Int) (m9 : Nat) (x : Int) : Tab := ⟨[.val (.int .i64 p), .val (.agg ⟨[.int .i64 k.1, .int .i64 k.2.1, .int .i64 k.2.2.1, .int .i64 k.2.2.2.1, .int .i64 k.2.2.2.2.1, .int .i64 k.2.2.2.2.2]⟩), .junk, .ptr 12 0, .val (.slice none 0 0), .row 36, .val (.int .i64 x), .junk, .junk, .junk, .junk, .junk, .junk, .junk, .junk, .junk, .junk, .junk, .junk, .junk, .junk, .junk, .junk, .junk, .junk, .junk, .junk, .junk, .junk, .junk, .junk, .junk, .junk], [(12, .box 25 [.val (.int .i64 k.1), .val (.int .i64 k.2.1), .val (.int .i64 k.2.2.1), .val (.int .i64 k.2.2.2.1), .val (.int .i64 k.2.2.2.2.1), .val (.int .i64 k.2.2.2.2.2)]), (36, .row 27 2 m9 (.ints l9))]⟩
def T_s_l08Points_3 (p : Int) (k : Int × Int × Int × Int × Int × Int) (l9 : List Int) (m9 : Nat) (x : Int) (l9' : List Int) (m9' : Nat) (y : Int) : Tab := ⟨[.val (.int .i64 p), .val (.agg ⟨[.int .i64 k.1, .int .i64 k.2.1, .int .i64 k.2.2.1, .int .i64 k.2.2.2.1, .int .i64 k.2.2.2.2.1, .int .i64 k.2.2.2.2.2]⟩), .junk, .ptr 12 0, .val (.slice none 0 0), .row 36, .val (.int .i64 x), .val (.int .i64 y), .junk, .junk, .val (.int .i64 x), .val (.int .i64 p), .val (.bool (decide (x < p))), .junk, .junk, .junk, .junk, .junk, .junk, .junk, .junk, .junk, .junk, .junk, .junk, .junk, .junk, .junk, .junk, .junk, .junk, .junk, .junk], [(12, .box 25 [.val (.int .i64 k.1), .val (.int .i64 k.2.1), .val (.int .i64 k.2.2.1), .val (.int .i64 k.2.2.2.1), .val (.int .i64 k.2.2.2.2.1), .val (.int .i64 k.2.2.2.2.2)]), (36, .row 27 2 m9' (.ints l9'))]⟩
def X_s_l08Points_3 (P : Program) (fu : Nat) (p : Int) (k : Int × Int × Int × Int × Int × Int) (l9 : List Int) (m9 : Nat) (x : Int) (rc2 : Tab → Option (Nat × List Int)) (f : Nat) (l9' : List Int) (m9' : Nat) (y : Int) : Option (Nat × List Int) := loopK (exec P S_s_l08Points 33 (fuelOf fu []) (Code.sub [1, 1, 0, 1, 0, 0, 1, 0, 0, 1, 0, 0] (bodyF P 64))) f (T_s_l08Points_3 p k l9 m9 x l9' m9' y) (kBlock 2 (kBlock 1 (kSeq (fun zs9 => exec P S_s_l08Points 33 (fuelOf fu []) (Code.sub [1, 1, 0, 1, 0, 0, 1, 1] (bodyF P 64)) zs9 (kLoop rc2 (T_s_l08Points_2 p k l9 m9 x) (kBlock 0 (kSeq (fun zs9 => exec P S_s_l08Points 33 (fuelOf fu []) (Code.sub [1, 1, 1] (bodyF P 64)) zs9 (finT P 64 dec_l27_2)) (finT P 64 dec_l27_2))))) (kLoop rc2 (T_s_l08Points_2 p k l9 m9 x) (kBlock 0 (kSeq (fun zs9 => exec P S_s_l08Points 33 (fuelOf fu []) (Code.sub [1, 1, 1] (bodyF P 64)) zs9 (finT P 64 dec_l27_2)) (finT P 64 dec_l27_2)))))))
def B_s_l08Points_3 (p : Int) (k : Int × Int × Int × Int × Int × Int) (l9 : List Int) (m9 : Nat) (x : Int) (rec2 : (List Int) → Nat → Int → Option (Nat × List Int)) (rec3 : (List Int) → Nat → Int → Option (Nat × List Int)) (l9' : List Int) (m9' : Nat) (y : Int) : Option (Nat × List Int) :=
  (if (decide (y < p)) = true then (if (prB p) = true then (if ((s_l08Value p k (x, y)) == 0) = true then (if (Nat.ble 1 1 && Nat.ble (m9' + 1) 1000000 && Nat.beq 2 (2)) = true then rec3 (l9' ++ [x, y]) (m9' + 1) (wI (y + 1)) else none) else rec3 l9' m9' (wI (y + 1))) else none) else rec2 l9' m9' (wI (x + 1)))
def L_s_l08Points_3 (fu : Nat) (p : Int) (k : Int × Int × Int × Int × Int × Int) (l9 : List Int) (m9 : Nat) (x : Int) (rec2 : (List Int) → Nat → Int → Option (Nat × List Int)) : Nat → (List Int) → Nat → Int → Option (Nat × List Int)
  | 0, _, _, _ => none
  | f + 1, l9', m9', y => B_s_l08Points_3 p k l9 m9 x rec2 (L_s_l08Points_3 fu p k l9 m9 x rec2 f) l9' m9' y
theorem loop_s_l08Points_3 (fu : Nat) (p : Int) (k : Int × Int × Int × Int × Int × Int) (l9 : List Int) (m9 : Nat) (x : Int) (rc2 : Tab → Option (Nat × List Int)) : ∀ (f : Nat) (l9' : List Int) (m9' : Nat) (y : Int), X_s_l08Points_3 Try.prog fu p k l9 m9 x rc2 f l9' m9' y = L_s_l08Points_3 fu p k l9 m9 x (fun l9 m9 x => rc2 (T_s_l08Points_2 p k l9 m9 x)) f l9' m9' y := by
  intro f
  induction f with
  | zero => intros; rfl
  | succ f ih =>
    intro l9' m9' y
    have h1 : X_s_l08Points_3 Try.prog fu p k l9 m9 x rc2 (f + 1) l9' m9' y = B_s_l08Points_3 p k l9 m9 x (fun l9 m9 x => rc2 (T_s_l08Points_2 p k l9 m9 x)) (X_s_l08Points_3 Try.prog fu p k l9 m9 x rc2 f) l9' m9' y := by kernel_rfl
    have h2 : X_s_l08Points_3 Try.prog fu p k l9 m9 x rc2 f = L_s_l08Points_3 fu p k l9 m9 x (fun l9 m9 x => rc2 (T_s_l08Points_2 p k l9 m9 x)) f := by funext l9' m9' y; exact ih l9' m9' y
    rw [h1, h2]
    rfl
def X_s_l08Points_2 (P : Program) (fu : Nat) (p : Int) (k : Int × Int × Int × Int × Int × Int) (f : Nat) (l9 : List Int) (m9 : Nat) (x : Int) : Option (Nat × List Int) := loopK (exec P S_s_l08Points 33 (fuelOf fu []) (Code.sub [1, 1, 0, 1, 0, 0] (bodyF P 64))) f (T_s_l08Points_2 p k l9 m9 x) (kBlock 0 (kSeq (fun zs9 => exec P S_s_l08Points 33 (fuelOf fu []) (Code.sub [1, 1, 1] (bodyF P 64)) zs9 (finT P 64 dec_l27_2)) (finT P 64 dec_l27_2)))
def B_s_l08Points_2 (p : Int) (k : Int × Int × Int × Int × Int × Int) (lo3 : (List Int) → Nat → Int → Option (Nat × List Int)) (rec2 : (List Int) → Nat → Int → Option (Nat × List Int)) (l9 : List Int) (m9 : Nat) (x : Int) : Option (Nat × List Int) :=
  (if (decide (x < p)) = true then lo3 l9 m9 0 else some (m9, l9))
def L_s_l08Points_2 (fu : Nat) (p : Int) (k : Int × Int × Int × Int × Int × Int) : Nat → (List Int) → Nat → Int → Option (Nat × List Int)
  | 0, _, _, _ => none
  | f + 1, l9, m9, x => B_s_l08Points_2 p k (L_s_l08Points_3 fu p k l9 m9 x (L_s_l08Points_2 fu p k f) fu) (L_s_l08Points_2 fu p k f) l9 m9 x
theorem loop_s_l08Points_2 (fu : Nat) (p : Int) (k : Int × Int × Int × Int × Int × Int) : ∀ (f : Nat) (l9 : List Int) (m9 : Nat) (x : Int), X_s_l08Points_2 Try.prog fu p k f l9 m9 x = L_s_l08Points_2 fu p k f l9 m9 x := by
  intro f
  induction f with
  | zero => intros; rfl
  | succ f ih =>
    intro l9 m9 x
    have h1 : X_s_l08Points_2 Try.prog fu p k (f + 1) l9 m9 x = B_s_l08Points_2 p k (X_s_l08Points_3 Try.prog fu p k l9 m9 x (fun t => loopK (exec Try.prog S_s_l08Points 33 (fuelOf fu []) (Code.sub [1, 1, 0, 1, 0, 0] (bodyF Try.prog 64))) f t (kBlock 0 (kSeq (fun zs9 => exec Try.prog S_s_l08Points 33 (fuelOf fu []) (Code.sub [1, 1, 1] (bodyF Try.prog 64)) zs9 (finT Try.prog 64 dec_l27_2)) (finT Try.prog 64 dec_l27_2)))) fu) (X_s_l08Points_2 Try.prog fu p k f) l9 m9 x := by kernel_rfl
    have h2 : X_s_l08Points_2 Try.prog fu p k f = L_s_l08Points_2 fu p k f := by funext l9 m9 x; exact ih l9 m9 x
    have c3 : (X_s_l08Points_3 Try.prog fu p k l9 m9 x (fun t => loopK (exec Try.prog S_s_l08Points 33 (fuelOf fu []) (Code.sub [1, 1, 0, 1, 0, 0] (bodyF Try.prog 64))) f t (kBlock 0 (kSeq (fun zs9 => exec Try.prog S_s_l08Points 33 (fuelOf fu []) (Code.sub [1, 1, 1] (bodyF Try.prog 64)) zs9 (finT Try.prog 64 dec_l27_2)) (finT Try.prog 64 dec_l27_2)))) fu) = L_s_l08Points_3 fu p k l9 m9 x (X_s_l08Points_2 Try.prog fu p k f) fu := by funext l9' m9' y; exact loop_s_l08Points_3 fu p k l9 m9 x (fun t => loopK (exec Try.prog S_s_l08Points 33 (fuelOf fu []) (Code.sub [1, 1, 0, 1, 0, 0] (bodyF Try.prog 64))) f t (kBlock 0 (kSeq (fun zs9 => exec Try.prog S_s_l08Points 33 (fuelOf fu []) (Code.sub [1, 1, 1] (bodyF Try.prog 64)) zs9 (finT Try.prog 64 dec_l27_2)) (finT Try.prog 64 dec_l27_2)))) fu l9' m9' y
    rw [h1, c3, h2]
    rfl
def G_s_l08Points (p : Int) (k : Int × Int × Int × Int × Int × Int) (lo2 : (List Int) → Nat → Int → Option (Nat × List Int)) : Option (Nat × List Int) :=
  lo2 [] 0 0
def Fo_s_l08Points (fu : Nat) (p : Int) (k : Int × Int × Int × Int × Int × Int) : Option (Nat × List Int) := G_s_l08Points p k (L_s_l08Points_2 fu p k fu)
theorem eqg_s_l08Points (fu : Nat) (p : Int) (k : Int × Int × Int × Int × Int × Int) : execT Try.prog S_s_l08Points 64 33 (fuelOf fu []) dec_l27_2 [.v (.int .i64 p), .v (.agg ⟨[.int .i64 k.1, .int .i64 k.2.1, .int .i64 k.2.2.1, .int .i64 k.2.2.2.1, .int .i64 k.2.2.2.2.1, .int .i64 k.2.2.2.2.2]⟩)] = G_s_l08Points p k (L_s_l08Points_2 fu p k fu) := by
  have h1 : execT Try.prog S_s_l08Points 64 33 (fuelOf fu []) dec_l27_2 [.v (.int .i64 p), .v (.agg ⟨[.int .i64 k.1, .int .i64 k.2.1, .int .i64 k.2.2.1, .int .i64 k.2.2.2.1, .int .i64 k.2.2.2.2.1, .int .i64 k.2.2.2.2.2]⟩)] = G_s_l08Points p k (X_s_l08Points_2 Try.prog fu p k fu) := by kernel_rfl
  have c2 : X_s_l08Points_2 Try.prog fu p k fu = L_s_l08Points_2 fu p k fu := by funext l9 m9 x; exact loop_s_l08Points_2 fu p k fu l9 m9 x
  rw [h1, c2]
theorem eq_s_l08Points (fu : Nat) (p : Int) (k : Int × Int × Int × Int × Int × Int) : execT Try.prog S_s_l08Points 64 33 (fuelOf fu []) dec_l27_2 [.v (.int .i64 p), .v (.agg ⟨[.int .i64 k.1, .int .i64 k.2.1, .int .i64 k.2.2.1, .int .i64 k.2.2.2.1, .int .i64 k.2.2.2.2.1, .int .i64 k.2.2.2.2.2]⟩)] = Fo_s_l08Points fu p k := eqg_s_l08Points fu p k
def s_l08Points (p : Int) (k_ : P6) : Nat × List Int := (((pts p).filter fun zz => (s_l08Value p k_ zz == 0)).length, flat2 ((pts p).filter fun zz => (s_l08Value p k_ zz == 0)))
theorem lo3_s_l08Points {p : Int} (hp : prB p = true) (k_ : P6) (fu : Nat) (l11 : List Int) (m11 : Nat) (x : Int) (rec2 : List Int → Nat → Int → Option (Nat × List Int)) {F m : Nat} {l : List Int} (hF : p.toNat < F) (hm : m ≤ 100000) :
    L_s_l08Points_3 fu p k_ l11 m11 x rec2 F l m 0 = rec2 (l ++ flat2 ((List.range p.toNat).flatMap (fun y : Nat => if (s_l08Value p k_ (x, (y : Int)) == 0) = true then [((x : Int), (y : Int))] else []))) (m + ((List.range p.toNat).flatMap (fun y : Nat => if (s_l08Value p k_ (x, (y : Int)) == 0) = true then [((x : Int), (y : Int))] else [])).length) (wI (x + 1)) := by
  obtain ⟨h1, h0, hpn⟩ := prB_nat hp
  exact gather (flat := flat2) flat2_app rfl (L := fun f l m i => L_s_l08Points_3 fu p k_ l11 m11 x rec2 f l m i) (n := p.toNat) (b := 1) (M := 100000) ((fun y : Nat => if (s_l08Value p k_ (x, (y : Int)) == 0) = true then [((x : Int), (y : Int))] else [])) (K := (rec2 (l ++ flat2 ((List.range p.toNat).flatMap (fun y : Nat => if (s_l08Value p k_ (x, (y : Int)) == 0) = true then [((x : Int), (y : Int))] else []))) (m + ((List.range p.toNat).flatMap (fun y : Nat => if (s_l08Value p k_ (x, (y : Int)) == 0) = true then [((x : Int), (y : Int))] else [])).length) (wI (x + 1)))) (l := l) (m := m) (F := F) (by intro k hk; first | (split <;> simp) | simp_all)
    (fun f k l m hk hm => by
      show B_s_l08Points_3 p k_ l11 m11 x rec2 (L_s_l08Points_3 fu p k_ l11 m11 x rec2 f) l m (k : Int) = _
      unfold B_s_l08Points_3
      have x0 : prB p = true := hp
      simp only [cndp hk, x0, if_true, wrap_add1 hk (by omega), show (Nat.ble 1 1 && Nat.ble (m + 1) 1000000 && Nat.beq 2 2) = true from by simp; omega]
      generalize ((s_l08Value p k_ (x, (k : Int)) == 0)) = c0
      cases c0 <;> first
        | rfl
        | (simp only [Bool.false_eq_true, Bool.false_and, Bool.and_false, Bool.true_and, if_false, if_true]
           rw [show flat2 [] = [] from rfl, List.append_nil]
           rfl))
    (fun f hm => by
      show B_s_l08Points_3 p k_ l11 m11 x rec2 (L_s_l08Points_3 fu p k_ l11 m11 x rec2 f) (l ++ flat2 ((List.range p.toNat).flatMap ((fun y : Nat => if (s_l08Value p k_ (x, (y : Int)) == 0) = true then [((x : Int), (y : Int))] else [])))) (m + ((List.range p.toNat).flatMap ((fun y : Nat => if (s_l08Value p k_ (x, (y : Int)) == 0) = true then [((x : Int), (y : Int))] else []))).length) ((p.toNat : Nat) : Int) = _
      unfold B_s_l08Points_3
      rw [if_neg (by simp; omega)]) hF hm
theorem lo2_s_l08Points {p : Int} (hp : prB p = true) (k_ : P6) {F : Nat} (hF : p.toNat < F) : L_s_l08Points_2 1000000 p k_ F [] 0 0 = (some (((pts p).filter fun zz => (s_l08Value p k_ zz == 0)).length, flat2 ((pts p).filter fun zz => (s_l08Value p k_ zz == 0)))) := by
  obtain ⟨h1, h0, hpn⟩ := prB_nat hp
  exact gather (flat := flat2) flat2_app rfl (L := fun f l m i => L_s_l08Points_2 1000000 p k_ f l m i) (n := p.toNat) (b := 31) (M := 0) ((fun x : Nat => (List.range p.toNat).flatMap (fun y : Nat => if (s_l08Value p k_ ((x : Int), (y : Int)) == 0) = true then [(((x : Int) : Int), (y : Int))] else []))) (K := (some (((pts p).filter fun zz => (s_l08Value p k_ zz == 0)).length, flat2 ((pts p).filter fun zz => (s_l08Value p k_ zz == 0))))) (l := []) (m := 0) (F := F) (by intro k hk; refine Nat.le_trans (len_flatMap_le (b := 1) fun j _ => ?_) (by omega); first | (split <;> simp) | simp)
    (fun f k l m hk hm => by
      show B_s_l08Points_2 p k_ (L_s_l08Points_3 1000000 p k_ l m (k : Int) (L_s_l08Points_2 1000000 p k_ f) 1000000) (L_s_l08Points_2 1000000 p k_ f) l m (k : Int) = _
      unfold B_s_l08Points_2
      rw [if_pos (cndp hk), lo3_s_l08Points hp _ _ _ _ _ _ (by omega) (by omega), wrap_add1 hk (by omega)])
    (fun f hm => by
      show B_s_l08Points_2 p k_ (L_s_l08Points_3 1000000 p k_ ([] ++ flat2 ((List.range p.toNat).flatMap ((fun x : Nat => (List.range p.toNat).flatMap (fun y : Nat => if (s_l08Value p k_ ((x : Int), (y : Int)) == 0) = true then [(((x : Int) : Int), (y : Int))] else []))))) (0 + ((List.range p.toNat).flatMap ((fun x : Nat => (List.range p.toNat).flatMap (fun y : Nat => if (s_l08Value p k_ ((x : Int), (y : Int)) == 0) = true then [(((x : Int) : Int), (y : Int))] else [])))).length) ((p.toNat : Nat) : Int) (L_s_l08Points_2 1000000 p k_ f) 1000000) (L_s_l08Points_2 1000000 p k_ f) ([] ++ flat2 ((List.range p.toNat).flatMap ((fun x : Nat => (List.range p.toNat).flatMap (fun y : Nat => if (s_l08Value p k_ ((x : Int), (y : Int)) == 0) = true then [(((x : Int) : Int), (y : Int))] else []))))) (0 + ((List.range p.toNat).flatMap ((fun x : Nat => (List.range p.toNat).flatMap (fun y : Nat => if (s_l08Value p k_ ((x : Int), (y : Int)) == 0) = true then [(((x : Int) : Int), (y : Int))] else [])))).length) ((p.toNat : Nat) : Int) = _
      unfold B_s_l08Points_2
      have hkp : ((List.range p.toNat).flatMap (fun x : Nat => (List.range p.toNat).flatMap (fun y : Nat => if (s_l08Value p k_ ((x : Int), (y : Int)) == 0) = true then [(((x : Int) : Int), (y : Int))] else []))) = (pts p).filter (fun zz => (s_l08Value p k_ zz == 0)) := grid_filter p.toNat (fun zz => (s_l08Value p k_ zz == 0))
      rw [if_neg (by simp; omega), hkp]
      simp) hF (Nat.le_refl _)

theorem tot_s_l08Points (p : Int) (k : Int × Int × Int × Int × Int × Int) (hp : (prB p) = true) : Fo_s_l08Points 1000000 p k = some (s_l08Points p k) := by
  unfold Fo_s_l08Points G_s_l08Points
  have h1 := (prB_nat hp).1
  exact lo2_s_l08Points hp _ (by omega)
def run_s_l08Points : List PV → Option (Bool × List TR)
  | [.v (.int .i64 p), .v (.agg ⟨[.int .i64 k0, .int .i64 k1, .int .i64 k2, .int .i64 k3, .int .i64 k4, .int .i64 k5]⟩)] => some (prB p, enc_l27_2 (s_l08Points p (k0, k1, k2, k3, k4, k5)))
  | _ => none
theorem sound_s_l08Points : Sound Try.prog 64 run_s_l08Points := by
  refine sound_of de_l27_2 SO_s_l08Points (by kernel_rfl) Try.func64 Try.ntmps64 rfl (by kernel_rfl) ?_
  intro W pvs avs rs hargs hrun
  unfold run_s_l08Points at hrun
  split at hrun
  · simp only [Option.some.injEq, Prod.mk.injEq] at hrun
    obtain ⟨hp, rfl⟩ := hrun
    rename_i p k0 k1 k2 k3 k4 k5
    exact ⟨_, _, _, hargs, rfl, (eq_s_l08Points _ p (k0, k1, k2, k3, k4, k5)).trans (tot_s_l08Points p (k0, k1, k2, k3, k4, k5) hp)⟩
  · cases hrun


end

end Go.Proofs.Ytfclaacaphpoaaa
