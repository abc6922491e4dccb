import Derived.Test.YtpopgdmnajngjaaFb
import Derived.Test.YtpopgdmnajngjaaFc
import Derived.Test.YtpopgdmnajngjaaFd
import Derived.Test.YtpopgdmnajngjaaProg
set_option linter.unusedSimpArgs false
set_option linter.unusedVariables false
namespace Go.Proofs.Ytpopgdmnajngjaa
open Go.RowKit
def S_s_l02At : Sums := ⟨tblS [(73, run_s_l02Quadrance)], tblM []⟩
theorem SO_s_l02At : SumsOK Try.prog S_s_l02At := ⟨tblS_ok ⟨⟨Try.call73, sound_s_l02Quadrance⟩, True.intro⟩, tblM_ok True.intro⟩
def T_s_l02At_2 (p : Int) (colour : Int) (a : Int × Int) (q : Int) (l13 : List Int) (m13 : Nat) (x : Int) : Tab := ⟨[.val (.int .i64 p), .val (.int .i64 colour), .val (.agg ⟨[.int .i64 a.1, .int .i64 a.2]⟩), .val (.int .i64 q), .junk, .junk, .ptr 24 0, .junk, .val (.slice none 0 0), .row 52, .val (.int .i64 x), .junk, .junk, .junk, .junk, .junk, .junk, .junk, .junk, .junk, .junk, .junk, .junk, .junk, .junk, .junk, .junk, .junk, .junk, .junk, .junk, .junk, .junk, .junk, .junk, .junk, .junk, .junk, .junk], [(24, .box 30 [.val (.int .i64 a.1), .val (.int .i64 a.2)]), (52, .row 30 2 m13 (.ints l13))]⟩
def T_s_l02At_3 (p : Int) (colour : Int) (a : Int × Int) (q : Int) (l13 : List Int) (m13 : Nat) (x : Int) (l13' : List Int) (m13' : Nat) (y : Int) : Tab := ⟨[.val (.int .i64 p), .val (.int .i64 colour), .val (.agg ⟨[.int .i64 a.1, .int .i64 a.2]⟩), .val (.int .i64 q), .junk, .junk, .ptr 24 0, .junk, .val (.slice none 0 0), .row 52, .val (.int .i64 x), .val (.int .i64 y), .junk, .junk, .val (.int .i64 x), .val (.int .i64 p), .val (.bool (decide (x < p))), .junk, .junk, .junk, .junk, .junk, .junk, .junk, .junk, .junk, .junk, .junk, .junk, .junk, .junk, .junk, .junk, .junk, .junk, .junk, .junk, .junk, .junk], [(24, .box 30 [.val (.int .i64 a.1), .val (.int .i64 a.2)]), (52, .row 30 2 m13' (.ints l13'))]⟩
def X_s_l02At_3 (P : Program) (fu : Nat) (p : Int) (colour : Int) (a : Int × Int) (q : Int) (l13 : List Int) (m13 : Nat) (x : Int) (rc2 : Tab → Option (Nat × List Int)) (f : Nat) (l13' : List Int) (m13' : Nat) (y : Int) : Option (Nat × List Int) := loopK (exec P S_s_l02At 39 (fuelOf fu []) (Code.sub [1, 1, 0, 1, 0, 0, 1, 0, 0, 1, 0, 0] (bodyF P 48))) f (T_s_l02At_3 p colour a q l13 m13 x l13' m13' y) (kBlock 2 (kBlock 1 (kSeq (fun s => exec P S_s_l02At 39 (fuelOf fu []) (Code.sub [1, 1, 0, 1, 0, 0, 1, 1] (bodyF P 48)) s (kLoop rc2 (T_s_l02At_2 p colour a q l13 m13 x) (kBlock 0 (kSeq (fun s => exec P S_s_l02At 39 (fuelOf fu []) (Code.sub [1, 1, 1] (bodyF P 48)) s (finT P 48 dec_l30_2)) (finT P 48 dec_l30_2))))) (kLoop rc2 (T_s_l02At_2 p colour a q l13 m13 x) (kBlock 0 (kSeq (fun s => exec P S_s_l02At 39 (fuelOf fu []) (Code.sub [1, 1, 1] (bodyF P 48)) s (finT P 48 dec_l30_2)) (finT P 48 dec_l30_2)))))))
def B_s_l02At_3 (p : Int) (colour : Int) (a : Int × Int) (q : Int) (l13 : List Int) (m13 : Nat) (x : Int) (rec2 : (List Int) → Nat → Int → Option (Nat × List Int)) (rec3 : (List Int) → Nat → Int → Option (Nat × List Int)) (l13' : List Int) (m13' : Nat) (y : Int) : Option (Nat × List Int) :=
  (if (decide (y < p)) = true then (if (prB p) = true then (if ((s_l02Quadrance p colour a (x, y)) == q) = true then (if (Nat.ble 1 1 && Nat.ble (m13' + 1) 1000000 && Nat.beq 2 (2)) = true then rec3 (l13' ++ [x, y]) (m13' + 1) (wI (y + 1)) else none) else rec3 l13' m13' (wI (y + 1))) else none) else rec2 l13' m13' (wI (x + 1)))
def L_s_l02At_3 (fu : Nat) (p : Int) (colour : Int) (a : Int × Int) (q : Int) (l13 : List Int) (m13 : Nat) (x : Int) (rec2 : (List Int) → Nat → Int → Option (Nat × List Int)) : Nat → (List Int) → Nat → Int → Option (Nat × List Int)
  | 0, _, _, _ => none
  | f + 1, l13', m13', y => B_s_l02At_3 p colour a q l13 m13 x rec2 (L_s_l02At_3 fu p colour a q l13 m13 x rec2 f) l13' m13' y
theorem loop_s_l02At_3 (fu : Nat) (p : Int) (colour : Int) (a : Int × Int) (q : Int) (l13 : List Int) (m13 : Nat) (x : Int) (rc2 : Tab → Option (Nat × List Int)) : ∀ (f : Nat) (l13' : List Int) (m13' : Nat) (y : Int), X_s_l02At_3 Try.prog fu p colour a q l13 m13 x rc2 f l13' m13' y = L_s_l02At_3 fu p colour a q l13 m13 x (fun l13 m13 x => rc2 (T_s_l02At_2 p colour a q l13 m13 x)) f l13' m13' y := by
  intro f
  induction f with
  | zero => intros; rfl
  | succ f ih =>
    intro l13' m13' y
    have h1 : X_s_l02At_3 Try.prog fu p colour a q l13 m13 x rc2 (f + 1) l13' m13' y = B_s_l02At_3 p colour a q l13 m13 x (fun l13 m13 x => rc2 (T_s_l02At_2 p colour a q l13 m13 x)) (X_s_l02At_3 Try.prog fu p colour a q l13 m13 x rc2 f) l13' m13' y := by kernel_rfl
    have h2 : X_s_l02At_3 Try.prog fu p colour a q l13 m13 x rc2 f = L_s_l02At_3 fu p colour a q l13 m13 x (fun l13 m13 x => rc2 (T_s_l02At_2 p colour a q l13 m13 x)) f := by funext l13' m13' y; exact ih l13' m13' y
    rw [h1, h2]
    rfl
def X_s_l02At_2 (P : Program) (fu : Nat) (p : Int) (colour : Int) (a : Int × Int) (q : Int) (f : Nat) (l13 : List Int) (m13 : Nat) (x : Int) : Option (Nat × List Int) := loopK (exec P S_s_l02At 39 (fuelOf fu []) (Code.sub [1, 1, 0, 1, 0, 0] (bodyF P 48))) f (T_s_l02At_2 p colour a q l13 m13 x) (kBlock 0 (kSeq (fun s => exec P S_s_l02At 39 (fuelOf fu []) (Code.sub [1, 1, 1] (bodyF P 48)) s (finT P 48 dec_l30_2)) (finT P 48 dec_l30_2)))
def B_s_l02At_2 (p : Int) (colour : Int) (a : Int × Int) (q : Int) (lo3 : (List Int) → Nat → Int → Option (Nat × List Int)) (rec2 : (List Int) → Nat → Int → Option (Nat × List Int)) (l13 : List Int) (m13 : Nat) (x : Int) : Option (Nat × List Int) :=
  (if (decide (x < p)) = true then lo3 l13 m13 0 else some (m13, l13))
def L_s_l02At_2 (fu : Nat) (p : Int) (colour : Int) (a : Int × Int) (q : Int) : Nat → (List Int) → Nat → Int → Option (Nat × List Int)
  | 0, _, _, _ => none
  | f + 1, l13, m13, x => B_s_l02At_2 p colour a q (L_s_l02At_3 fu p colour a q l13 m13 x (L_s_l02At_2 fu p colour a q f) fu) (L_s_l02At_2 fu p colour a q f) l13 m13 x
theorem loop_s_l02At_2 (fu : Nat) (p : Int) (colour : Int) (a : Int × Int) (q : Int) : ∀ (f : Nat) (l13 : List Int) (m13 : Nat) (x : Int), X_s_l02At_2 Try.prog fu p colour a q f l13 m13 x = L_s_l02At_2 fu p colour a q f l13 m13 x := by
  intro f
  induction f with
  | zero => intros; rfl
  | succ f ih =>
    intro l13 m13 x
    have h1 : X_s_l02At_2 Try.prog fu p colour a q (f + 1) l13 m13 x = B_s_l02At_2 p colour a q (X_s_l02At_3 Try.prog fu p colour a q l13 m13 x (fun t => loopK (exec Try.prog S_s_l02At 39 (fuelOf fu []) (Code.sub [1, 1, 0, 1, 0, 0] (bodyF Try.prog 48))) f t (kBlock 0 (kSeq (fun s => exec Try.prog S_s_l02At 39 (fuelOf fu []) (Code.sub [1, 1, 1] (bodyF Try.prog 48)) s (finT Try.prog 48 dec_l30_2)) (finT Try.prog 48 dec_l30_2)))) fu) (X_s_l02At_2 Try.prog fu p colour a q f) l13 m13 x := by kernel_rfl
    have h2 : X_s_l02At_2 Try.prog fu p colour a q f = L_s_l02At_2 fu p colour a q f := by funext l13 m13 x; exact ih l13 m13 x
    have c3 : (X_s_l02At_3 Try.prog fu p colour a q l13 m13 x (fun t => loopK (exec Try.prog S_s_l02At 39 (fuelOf fu []) (Code.sub [1, 1, 0, 1, 0, 0] (bodyF Try.prog 48))) f t (kBlock 0 (kSeq (fun s => exec Try.prog S_s_l02At 39 (fuelOf fu []) (Code.sub [1, 1, 1] (bodyF Try.prog 48)) s (finT Try.prog 48 dec_l30_2)) (finT Try.prog 48 dec_l30_2)))) fu) = L_s_l02At_3 fu p colour a q l13 m13 x (X_s_l02At_2 Try.prog fu p colour a q f) fu := by funext l13' m13' y; exact loop_s_l02At_3 fu p colour a q l13 m13 x (fun t => loopK (exec Try.prog S_s_l02At 39 (fuelOf fu []) (Code.sub [1, 1, 0, 1, 0, 0] (bodyF Try.prog 48))) f t (kBlock 0 (kSeq (fun s => exec Try.prog S_s_l02At 39 (fuelOf fu []) (Code.sub [1, 1, 1] (bodyF Try.prog 48)) s (finT Try.prog 48 dec_l30_2)) (finT Try.prog 48 dec_l30_2)))) fu l13' m13' y
    rw [h1, c3, h2]
    rfl
def G_s_l02At (p : Int) (colour : Int) (a : Int × Int) (q : Int) (lo2 : (List Int) → Nat → Int → Option (Nat × List Int)) : Option (Nat × List Int) :=
  lo2 [] 0 0
def Fo_s_l02At (fu : Nat) (p : Int) (colour : Int) (a : Int × Int) (q : Int) : Option (Nat × List Int) := G_s_l02At p colour a q (L_s_l02At_2 fu p colour a q fu)
theorem eqg_s_l02At (fu : Nat) (p : Int) (colour : Int) (a : Int × Int) (q : Int) : execT Try.prog S_s_l02At 48 39 (fuelOf fu []) dec_l30_2 [.v (.int .i64 p), .v (.int .i64 colour), .v (.agg ⟨[.int .i64 a.1, .int .i64 a.2]⟩), .v (.int .i64 q)] = G_s_l02At p colour a q (L_s_l02At_2 fu p colour a q fu) := by
  have h1 : execT Try.prog S_s_l02At 48 39 (fuelOf fu []) dec_l30_2 [.v (.int .i64 p), .v (.int .i64 colour), .v (.agg ⟨[.int .i64 a.1, .int .i64 a.2]⟩), .v (.int .i64 q)] = G_s_l02At p colour a q (X_s_l02At_2 Try.prog fu p colour a q fu) := by kernel_rfl
  have c2 : X_s_l02At_2 Try.prog fu p colour a q fu = L_s_l02At_2 fu p colour a q fu := by funext l13 m13 x; exact loop_s_l02At_2 fu p colour a q fu l13 m13 x
  rw [h1, c2]
theorem eq_s_l02At (fu : Nat) (p : Int) (colour : Int) (a : Int × Int) (q : Int) : execT Try.prog S_s_l02At 48 39 (fuelOf fu []) dec_l30_2 [.v (.int .i64 p), .v (.int .i64 colour), .v (.agg ⟨[.int .i64 a.1, .int .i64 a.2]⟩), .v (.int .i64 q)] = Fo_s_l02At fu p colour a q := eqg_s_l02At fu p colour a q
def s_l02At (p colour : Int) (a : P2) (q : Int) : Nat × List Int := (((pts p).filter fun zz => (s_l02Quadrance p colour a zz == q)).length, flat2 ((pts p).filter fun zz => (s_l02Quadrance p colour a zz == q)))
theorem lo3_s_l02At {p : Int} (hp : prB p = true) (colour : Int) (a : P2) (q : Int) (fu : Nat) (l13 : List Int) (m13 : Nat) (x : Int) (rec2 : List Int → Nat → Int → Option (Nat × List Int)) {F m : Nat} {l : List Int} (hF : p.toNat < F) (hm : m ≤ 100000) :
    L_s_l02At_3 fu p colour a q l13 m13 x rec2 F l m 0 = rec2 (l ++ flat2 ((List.range p.toNat).flatMap (fun y : Nat => if (s_l02Quadrance p colour a (x, (y : Int)) == q) = true then [((x : Int), (y : Int))] else []))) (m + ((List.range p.toNat).flatMap (fun y : Nat => if (s_l02Quadrance p colour a (x, (y : Int)) == q) = true then [((x : Int), (y : Int))] else [])).length) (wI (x + 1)) := by
  obtain ⟨h1, h0, hpn⟩ := prB_nat hp
  exact gather (flat := flat2) flat2_app rfl (L := fun f l m i => L_s_l02At_3 fu p colour a q l13 m13 x rec2 f l m i) (n := p.toNat) (b := 1) (M := 100000) ((fun y : Nat => if (s_l02Quadrance p colour a (x, (y : Int)) == q) = true then [((x : Int), (y : Int))] else [])) (K := (rec2 (l ++ flat2 ((List.range p.toNat).flatMap (fun y : Nat => if (s_l02Quadrance p colour a (x, (y : Int)) == q) = true then [((x : Int), (y : Int))] else []))) (m + ((List.range p.toNat).flatMap (fun y : Nat => if (s_l02Quadrance p colour a (x, (y : Int)) == q) = true then [((x : Int), (y : Int))] else [])).length) (wI (x + 1)))) (l := l) (m := m) (F := F) (by intro k hk; first | (split <;> simp) | simp_all)
    (fun f k l m hk hm => by
      show B_s_l02At_3 p colour a q l13 m13 x rec2 (L_s_l02At_3 fu p colour a q l13 m13 x rec2 f) l m (k : Int) = _
      unfold B_s_l02At_3
      have x0 : prB p = true := hp
      simp only [cndp hk, x0, if_true, wrap_add1 hk (by omega), show (Nat.ble 1 1 && Nat.ble (m + 1) 1000000 && Nat.beq 2 2) = true from by simp; omega]
      generalize ((s_l02Quadrance p colour a (x, (k : Int)) == q)) = c0
      cases c0 <;> first
        | rfl
        | (simp only [Bool.false_eq_true, Bool.false_and, Bool.and_false, Bool.true_and, if_false, if_true]
           rw [show flat2 [] = [] from rfl, List.append_nil]
           rfl))
    (fun f hm => by
      show B_s_l02At_3 p colour a q l13 m13 x rec2 (L_s_l02At_3 fu p colour a q l13 m13 x rec2 f) (l ++ flat2 ((List.range p.toNat).flatMap ((fun y : Nat => if (s_l02Quadrance p colour a (x, (y : Int)) == q) = true then [((x : Int), (y : Int))] else [])))) (m + ((List.range p.toNat).flatMap ((fun y : Nat => if (s_l02Quadrance p colour a (x, (y : Int)) == q) = true then [((x : Int), (y : Int))] else []))).length) ((p.toNat : Nat) : Int) = _
      unfold B_s_l02At_3
      rw [if_neg (by simp; omega)]) hF hm
theorem lo2_s_l02At {p : Int} (hp : prB p = true) (colour : Int) (a : P2) (q : Int) {F : Nat} (hF : p.toNat < F) : L_s_l02At_2 1000000 p colour a q F [] 0 0 = (some (((pts p).filter fun zz => (s_l02Quadrance p colour a zz == q)).length, flat2 ((pts p).filter fun zz => (s_l02Quadrance p colour a zz == q)))) := by
  obtain ⟨h1, h0, hpn⟩ := prB_nat hp
  exact gather (flat := flat2) flat2_app rfl (L := fun f l m i => L_s_l02At_2 1000000 p colour a q f l m i) (n := p.toNat) (b := 31) (M := 0) ((fun x : Nat => (List.range p.toNat).flatMap (fun y : Nat => if (s_l02Quadrance p colour a ((x : Int), (y : Int)) == q) = true then [(((x : Int) : Int), (y : Int))] else []))) (K := (some (((pts p).filter fun zz => (s_l02Quadrance p colour a zz == q)).length, flat2 ((pts p).filter fun zz => (s_l02Quadrance p colour a zz == q))))) (l := []) (m := 0) (F := F) (by intro k hk; refine Nat.le_trans (len_flatMap_le (b := 1) fun j _ => ?_) (by omega); first | (split <;> simp) | simp)
    (fun f k l m hk hm => by
      show B_s_l02At_2 p colour a q (L_s_l02At_3 1000000 p colour a q l m (k : Int) (L_s_l02At_2 1000000 p colour a q f) 1000000) (L_s_l02At_2 1000000 p colour a q f) l m (k : Int) = _
      unfold B_s_l02At_2
      rw [if_pos (cndp hk), lo3_s_l02At hp _ _ _ _ _ _ _ _ (by omega) (by omega), wrap_add1 hk (by omega)])
    (fun f hm => by
      show B_s_l02At_2 p colour a q (L_s_l02At_3 1000000 p colour a q ([] ++ flat2 ((List.range p.toNat).flatMap ((fun x : Nat => (List.range p.toNat).flatMap (fun y : Nat => if (s_l02Quadrance p colour a ((x : Int), (y : Int)) == q) = true then [(((x : Int) : Int), (y : Int))] else []))))) (0 + ((List.range p.toNat).flatMap ((fun x : Nat => (List.range p.toNat).flatMap (fun y : Nat => if (s_l02Quadrance p colour a ((x : Int), (y : Int)) == q) = true then [(((x : Int) : Int), (y : Int))] else [])))).length) ((p.toNat : Nat) : Int) (L_s_l02At_2 1000000 p colour a q f) 1000000) (L_s_l02At_2 1000000 p colour a q f) ([] ++ flat2 ((List.range p.toNat).flatMap ((fun x : Nat => (List.range p.toNat).flatMap (fun y : Nat => if (s_l02Quadrance p colour a ((x : Int), (y : Int)) == q) = true then [(((x : Int) : Int), (y : Int))] else []))))) (0 + ((List.range p.toNat).flatMap ((fun x : Nat => (List.range p.toNat).flatMap (fun y : Nat => if (s_l02Quadrance p colour a ((x : Int), (y : Int)) == q) = true then [(((x : Int) : Int), (y : Int))] else [])))).length) ((p.toNat : Nat) : Int) = _
      unfold B_s_l02At_2
      have hkp : ((List.range p.toNat).flatMap (fun x : Nat => (List.range p.toNat).flatMap (fun y : Nat => if (s_l02Quadrance p colour a ((x : Int), (y : Int)) == q) = true then [(((x : Int) : Int), (y : Int))] else []))) = (pts p).filter (fun zz => (s_l02Quadrance p colour a zz == q)) := grid_filter p.toNat (fun zz => (s_l02Quadrance p colour a zz == q))
      rw [if_neg (by simp; omega), hkp]
      simp) hF (Nat.le_refl _)

theorem tot_s_l02At (p : Int) (colour : Int) (a : Int × Int) (q : Int) (hp : (prB p) = true) : Fo_s_l02At 1000000 p colour a q = some (s_l02At p colour a q) := by
  unfold Fo_s_l02At G_s_l02At
  have h1 := (prB_nat hp).1
  exact lo2_s_l02At hp _ _ _ (by omega)
def run_s_l02At : List PV → Option (Bool × List TR)
  | [.v (.int .i64 p), .v (.int .i64 colour), .v (.agg ⟨[.int .i64 a0, .int .i64 a1]⟩), .v (.int .i64 q)] => some (prB p, enc_l30_2 (s_l02At p colour (a0, a1) q))
  | _ => none
theorem sound_s_l02At : Sound Try.prog 48 run_s_l02At := by
  refine sound_of de_l30_2 SO_s_l02At (by kernel_rfl) Try.func48 Try.ntmps48 rfl (by kernel_rfl) ?_
  intro W pvs avs rs hargs hrun
  unfold run_s_l02At at hrun
  split at hrun
  · simp only [Option.some.injEq, Prod.mk.injEq] at hrun
    obtain ⟨hp, rfl⟩ := hrun
    rename_i p colour a0 a1 q
    exact ⟨_, _, _, hargs, rfl, (eq_s_l02At _ p colour (a0, a1) q).trans (tot_s_l02At p colour (a0, a1) q hp)⟩
  · cases hrun


end Go.Proofs.Ytpopgdmnajngjaa
