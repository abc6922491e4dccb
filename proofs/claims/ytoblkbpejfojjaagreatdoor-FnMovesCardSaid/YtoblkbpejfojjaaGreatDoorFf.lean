import Derived.Test.YtoblkbpejfojjaaGreatDoorFa
import Derived.Test.YtoblkbpejfojjaaGreatDoorProg
set_option linter.unusedSimpArgs false
set_option linter.unusedVariables false
namespace Go.Proofs.YtoblkbpejfojjaaGreatDoor
open Go.RowKit
noncomputable section
def S_s_l07Fixed : Sums := ⟨tblS [(88, run_s_l07Move)], tblM []⟩
theorem SO_s_l07Fixed : SumsOK Tryz.prog S_s_l07Fixed := ⟨tblS_ok ⟨⟨Tryz.call88, sound_s_l07Move⟩, True.intro⟩, tblM_ok True.intro⟩
def T_s_l07Fixed_2 (p : Int) (m : Int × Int × Int × Int × Int × Int) (l9 : List Int) (m9 : Nat) (x : Int) : Tab := ⟨[.val (.int .i64 p), .val (.agg ⟨[.int .i64 m.1, .int .i64 m.2.1, .int .i64 m.2.2.1, .int .i64 m.2.2.2.1, .int .i64 m.2.2.2.2.1, .int .i64 m.2.2.2.2.2]⟩), .junk, .ptr 12 0, .val (.slice none 0 0), .row 36, .val (.int .i64 x), .junk, .junk, .junk, .junk, .junk, .junk, .junk, .junk, .junk, .junk, .junk, .junk, .junk, .junk, .junk, .junk, .junk, .junk, .junk, .junk, .junk, .junk, .junk, .junk, .junk, .junk, .junk], [(12, .box 28 [.val (.int .i64 m.1), .val (.int .i64 m.2.1), .val (.int .i64 m.2.2.1), .val (.int .i64 m.2.2.2.1), .val (.int .i64 m.2.2.2.2.1), .val (.int .i64 m.2.2.2.2.2)]), (36, .row 26 2 m9 (.ints l9))]⟩
def T_s_l07Fixed_3 (p : Int) (m : Int × Int × Int × Int × Int × Int) (l9 : List Int) (m9 : Nat) (x : Int) (l9' : List Int) (m9' : Nat) (y : Int) : Tab := ⟨[.val (.int .i64 p), .val (.agg ⟨[.int .i64 m.1, .int .i64 m.2.1, .int .i64 m.2.2.1, .int .i64 m.2.2.2.1, .int .i64 m.2.2.2.2.1, .int .i64 m.2.2.2.2.2]⟩), .junk, .ptr 12 0, .val (.slice none 0 0), .row 36, .val (.int .i64 x), .val (.int .i64 y), .junk, .junk, .val (.int .i64 x), .val (.int .i64 p), .val (.bool (decide (x < p))), .junk, .junk, .junk, .junk, .junk, .junk, .junk, .junk, .junk, .junk, .junk, .junk, .junk, .junk, .junk, .junk, .junk, .junk, .junk, .junk, .junk], [(12, .box 28 [.val (.int .i64 m.1), .val (.int .i64 m.2.1), .val (.int .i64 m.2.2.1), .val (.int .i64 m.2.2.2.1), .val (.int .i64 m.2.2.2.2.1), .val (.int .i64 m.2.2.2.2.2)]), (36, .row 26 2 m9' (.ints l9'))]⟩
def X_s_l07Fixed_3 (P : Program) (fu : Nat) (p : Int) (m : Int × Int × Int × Int × Int × Int) (l9 : List Int) (m9 : Nat) (x : Int) (rc2 : Tab → Option (Nat × List Int)) (f : Nat) (l9' : List Int) (m9' : Nat) (y : Int) : Option (Nat × List Int) := loopK (exec P S_s_l07Fixed 34 (fuelOf fu []) (Code.sub [1, 1, 0, 1, 0, 0, 1, 0, 0, 1, 0, 0] (bodyF P 55))) f (T_s_l07Fixed_3 p m l9 m9 x l9' m9' y) (kBlock 2 (kBlock 1 (kSeq (fun zs9 => exec P S_s_l07Fixed 34 (fuelOf fu []) (Code.sub [1, 1, 0, 1, 0, 0, 1, 1] (bodyF P 55)) zs9 (kLoop rc2 (T_s_l07Fixed_2 p m l9 m9 x) (kBlock 0 (kSeq (fun zs9 => exec P S_s_l07Fixed 34 (fuelOf fu []) (Code.sub [1, 1, 1] (bodyF P 55)) zs9 (finT P 55 dec_l26_2)) (finT P 55 dec_l26_2))))) (kLoop rc2 (T_s_l07Fixed_2 p m l9 m9 x) (kBlock 0 (kSeq (fun zs9 => exec P S_s_l07Fixed 34 (fuelOf fu []) (Code.sub [1, 1, 1] (bodyF P 55)) zs9 (finT P 55 dec_l26_2)) (finT P 55 dec_l26_2)))))))
def B_s_l07Fixed_3 (p : Int) (m : Int × Int × Int × Int × Int × Int) (l9 : List Int) (m9 : Nat) (x : Int) (rec2 : (List Int) → Nat → Int → Option (Nat × List Int)) (rec3 : (List Int) → Nat → Int → Option (Nat × List Int)) (l9' : List Int) (m9' : Nat) (y : Int) : Option (Nat × List Int) :=
  (if (decide (y < p)) = true then (if (prB p) = true then (if ((s_l07Move p m (x, y)) == (x, y)) = true then (if (Nat.ble 0 1 && Nat.ble (m9' + 1) 1000000 && Nat.beq 2 (2)) = true then rec3 (l9' ++ [x, y]) (m9' + 1) (wI (y + 1)) else none) else rec3 l9' m9' (wI (y + 1))) else none) else rec2 l9' m9' (wI (x + 1)))
def L_s_l07Fixed_3 (fu : Nat) (p : Int) (m : Int × Int × Int × Int × Int × Int) (l9 : List Int) (m9 : Nat) (x : Int) (rec2 : (List Int) → Nat → Int → Option (Nat × List Int)) : Nat → (List Int) → Nat → Int → Option (Nat × List Int)
  | 0, _, _, _ => none
  | f + 1, l9', m9', y => B_s_l07Fixed_3 p m l9 m9 x rec2 (L_s_l07Fixed_3 fu p m l9 m9 x rec2 f) l9' m9' y
theorem loop_s_l07Fixed_3 (fu : Nat) (p : Int) (m : Int × Int × Int × Int × Int × Int) (l9 : List Int) (m9 : Nat) (x : Int) (rc2 : Tab → Option (Nat × List Int)) : ∀ (f : Nat) (l9' : List Int) (m9' : Nat) (y : Int), X_s_l07Fixed_3 Tryz.prog fu p m l9 m9 x rc2 f l9' m9' y = L_s_l07Fixed_3 fu p m l9 m9 x (fun l9 m9 x => rc2 (T_s_l07Fixed_2 p m l9 m9 x)) f l9' m9' y := by
  intro f
  induction f with
  | zero => intros; rfl
  | succ f ih =>
    intro l9' m9' y
    have h1 : X_s_l07Fixed_3 Tryz.prog fu p m l9 m9 x rc2 (f + 1) l9' m9' y = B_s_l07Fixed_3 p m l9 m9 x (fun l9 m9 x => rc2 (T_s_l07Fixed_2 p m l9 m9 x)) (X_s_l07Fixed_3 Tryz.prog fu p m l9 m9 x rc2 f) l9' m9' y := by kernel_rfl
    have h2 : X_s_l07Fixed_3 Tryz.prog fu p m l9 m9 x rc2 f = L_s_l07Fixed_3 fu p m l9 m9 x (fun l9 m9 x => rc2 (T_s_l07Fixed_2 p m l9 m9 x)) f := by funext l9' m9' y; exact ih l9' m9' y
    rw [h1, h2]
    rfl
def X_s_l07Fixed_2 (P : Program) (fu : Nat) (p : Int) (m : Int × Int × Int × Int × Int × Int) (f : Nat) (l9 : List Int) (m9 : Nat) (x : Int) : Option (Nat × List Int) := loopK (exec P S_s_l07Fixed 34 (fuelOf fu []) (Code.sub [1, 1, 0, 1, 0, 0] (bodyF P 55))) f (T_s_l07Fixed_2 p m l9 m9 x) (kBlock 0 (kSeq (fun zs9 => exec P S_s_l07Fixed 34 (fuelOf fu []) (Code.sub [1, 1, 1] (bodyF P 55)) zs9 (finT P 55 dec_l26_2)) (finT P 55 dec_l26_2)))
def B_s_l07Fixed_2 (p : Int) (m : Int × Int × Int × Int × Int × Int) (lo3 : (List Int) → Nat → Int → Option (Nat × List Int)) (rec2 : (List Int) → Nat → Int → Option (Nat × List Int)) (l9 : List Int) (m9 : Nat) (x : Int) : Option (Nat × List Int) :=
  (if (decide (x < p)) = true then lo3 l9 m9 0 else some (m9, l9))
def L_s_l07Fixed_2 (fu : Nat) (p : Int) (m : Int × Int × Int × Int × Int × Int) : Nat → (List Int) → Nat → Int → Option (Nat × List Int)
  | 0, _, _, _ => none
  | f + 1, l9, m9, x => B_s_l07Fixed_2 p m (L_s_l07Fixed_3 fu p m l9 m9 x (L_s_l07Fixed_2 fu p m f) fu) (L_s_l07Fixed_2 fu p m f) l9 m9 x
theorem loop_s_l07Fixed_2 (fu : Nat) (p : Int) (m : Int × Int × Int × Int × Int × Int) : ∀ (f : Nat) (l9 : List Int) (m9 : Nat) (x : Int), X_s_l07Fixed_2 Tryz.prog fu p m f l9 m9 x = L_s_l07Fixed_2 fu p m f l9 m9 x := by
  intro f
  induction f with
  | zero => intros; rfl
  | succ f ih =>
    intro l9 m9 x
    have h1 : X_s_l07Fixed_2 Tryz.prog fu p m (f + 1) l9 m9 x = B_s_l07Fixed_2 p m (X_s_l07Fixed_3 Tryz.prog fu p m l9 m9 x (fun t => loopK (exec Tryz.prog S_s_l07Fixed 34 (fuelOf fu []) (Code.sub [1, 1, 0, 1, 0, 0] (bodyF Tryz.prog 55))) f t (kBlock 0 (kSeq (fun zs9 => exec Tryz.prog S_s_l07Fixed 34 (fuelOf fu []) (Code.sub [1, 1, 1] (bodyF Tryz.prog 55)) zs9 (finT Tryz.prog 55 dec_l26_2)) (finT Tryz.prog 55 dec_l26_2)))) fu) (X_s_l07Fixed_2 Tryz.prog fu p m f) l9 m9 x := by kernel_rfl
    have h2 : X_s_l07Fixed_2 Tryz.prog fu p m f = L_s_l07Fixed_2 fu p m f := by funext l9 m9 x; exact ih l9 m9 x
    have c3 : (X_s_l07Fixed_3 Tryz.prog fu p m l9 m9 x (fun t => loopK (exec Tryz.prog S_s_l07Fixed 34 (fuelOf fu []) (Code.sub [1, 1, 0, 1, 0, 0] (bodyF Tryz.prog 55))) f t (kBlock 0 (kSeq (fun zs9 => exec Tryz.prog S_s_l07Fixed 34 (fuelOf fu []) (Code.sub [1, 1, 1] (bodyF Tryz.prog 55)) zs9 (finT Tryz.prog 55 dec_l26_2)) (finT Tryz.prog 55 dec_l26_2)))) fu) = L_s_l07Fixed_3 fu p m l9 m9 x (X_s_l07Fixed_2 Tryz.prog fu p m f) fu := by funext l9' m9' y; exact loop_s_l07Fixed_3 fu p m l9 m9 x (fun t => loopK (exec Tryz.prog S_s_l07Fixed 34 (fuelOf fu []) (Code.sub [1, 1, 0, 1, 0, 0] (bodyF Tryz.prog 55))) f t (kBlock 0 (kSeq (fun zs9 => exec Tryz.prog S_s_l07Fixed 34 (fuelOf fu []) (Code.sub [1, 1, 1] (bodyF Tryz.prog 55)) zs9 (finT Tryz.prog 55 dec_l26_2)) (finT Tryz.prog 55 dec_l26_2)))) fu l9' m9' y
    rw [h1, c3, h2]
    rfl
def G_s_l07Fixed (p : Int) (m : Int × Int × Int × Int × Int × Int) (lo2 : (List Int) → Nat → Int → Option (Nat × List Int)) : Option (Nat × List Int) :=
  lo2 [] 0 0
def Fo_s_l07Fixed (fu : Nat) (p : Int) (m : Int × Int × Int × Int × Int × Int) : Option (Nat × List Int) := G_s_l07Fixed p m (L_s_l07Fixed_2 fu p m fu)
theorem eqg_s_l07Fixed (fu : Nat) (p : Int) (m : Int × Int × Int × Int × Int × Int) : execT Tryz.prog S_s_l07Fixed 55 34 (fuelOf fu []) dec_l26_2 [.v (.int .i64 p), .v (.agg ⟨[.int .i64 m.1, .int .i64 m.2.1, .int .i64 m.2.2.1, .int .i64 m.2.2.2.1, .int .i64 m.2.2.2.2.1, .int .i64 m.2.2.2.2.2]⟩)] = G_s_l07Fixed p m (L_s_l07Fixed_2 fu p m fu) := by
  have h1 : execT Tryz.prog S_s_l07Fixed 55 34 (fuelOf fu []) dec_l26_2 [.v (.int .i64 p), .v (.agg ⟨[.int .i64 m.1, .int .i64 m.2.1, .int .i64 m.2.2.1, .int .i64 m.2.2.2.1, .int .i64 m.2.2.2.2.1, .int .i64 m.2.2.2.2.2]⟩)] = G_s_l07Fixed p m (X_s_l07Fixed_2 Tryz.prog fu p m fu) := by kernel_rfl
  have c2 : X_s_l07Fixed_2 Tryz.prog fu p m fu = L_s_l07Fixed_2 fu p m fu := by funext l9 m9 x; exact loop_s_l07Fixed_2 fu p m fu l9 m9 x
  rw [h1, c2]
theorem eq_s_l07Fixed (fu : Nat) (p : Int) (m : Int × Int × Int × Int × Int × Int) : execT Tryz.prog S_s_l07Fixed 55 34 (fuelOf fu []) dec_l26_2 [.v (.int .i64 p), .v (.agg ⟨[.int .i64 m.1, .int .i64 m.2.1, .int .i64 m.2.2.1, .int .i64 m.2.2.2.1, .int .i64 m.2.2.2.2.1, .int .i64 m.2.2.2.2.2]⟩)] = Fo_s_l07Fixed fu p m := eqg_s_l07Fixed fu p m
def s_l07Fixed (p : Int) (m_ : P6) : Nat × List Int := (((pts p).filter fun zz => (s_l07Move p m_ zz == zz)).length, flat2 ((pts p).filter fun zz => (s_l07Move p m_ zz == zz)))
theorem lo3_s_l07Fixed {p : Int} (hp : prB p = true) (m_ : P6) (fu : Nat) (l9 : List Int) (m9 : Nat) (x : Int) (rec2 : List Int → Nat → Int → Option (Nat × List Int)) {F m : Nat} {l : List Int} (hF : p.toNat < F) (hm : m ≤ 100000) :
    L_s_l07Fixed_3 fu p m_ l9 m9 x rec2 F l m 0 = rec2 (l ++ flat2 ((List.range p.toNat).flatMap (fun y : Nat => if (s_l07Move p m_ (x, (y : Int)) == (x, (y : Int))) = true then [((x : Int), (y : Int))] else []))) (m + ((List.range p.toNat).flatMap (fun y : Nat => if (s_l07Move p m_ (x, (y : Int)) == (x, (y : Int))) = true then [((x : Int), (y : Int))] else [])).length) (wI (x + 1)) := by
  obtain ⟨h1, h0, hpn⟩ := prB_nat hp
  exact gather (flat := flat2) flat2_app rfl (L := fun f l m i => L_s_l07Fixed_3 fu p m_ l9 m9 x rec2 f l m i) (n := p.toNat) (b := 1) (M := 100000) ((fun y : Nat => if (s_l07Move p m_ (x, (y : Int)) == (x, (y : Int))) = true then [((x : Int), (y : Int))] else [])) (K := (rec2 (l ++ flat2 ((List.range p.toNat).flatMap (fun y : Nat => if (s_l07Move p m_ (x, (y : Int)) == (x, (y : Int))) = true then [((x : Int), (y : Int))] else []))) (m + ((List.range p.toNat).flatMap (fun y : Nat => if (s_l07Move p m_ (x, (y : Int)) == (x, (y : Int))) = true then [((x : Int), (y : Int))] else [])).length) (wI (x + 1)))) (l := l) (m := m) (F := F) (by intro k hk; first | (split <;> simp) | simp_all)
    (fun f k l m hk hm => by
      show B_s_l07Fixed_3 p m_ l9 m9 x rec2 (L_s_l07Fixed_3 fu p m_ l9 m9 x rec2 f) l m (k : Int) = _
      unfold B_s_l07Fixed_3
      have x0 : prB p = true := hp
      simp only [cndp hk, x0, if_true, wrap_add1 hk (by omega), show (Nat.ble 0 1 && Nat.ble (m + 1) 1000000 && Nat.beq 2 2) = true from by simp; omega]
      generalize ((s_l07Move p m_ (x, (k : Int)) == (x, (k : Int)))) = c0
      cases c0 <;> first
        | rfl
        | (simp only [Bool.false_eq_true, Bool.false_and, Bool.and_false, Bool.true_and, if_false, if_true]
           rw [show flat2 [] = [] from rfl, List.append_nil]
           rfl))
    (fun f hm => by
      show B_s_l07Fixed_3 p m_ l9 m9 x rec2 (L_s_l07Fixed_3 fu p m_ l9 m9 x rec2 f) (l ++ flat2 ((List.range p.toNat).flatMap ((fun y : Nat => if (s_l07Move p m_ (x, (y : Int)) == (x, (y : Int))) = true then [((x : Int), (y : Int))] else [])))) (m + ((List.range p.toNat).flatMap ((fun y : Nat => if (s_l07Move p m_ (x, (y : Int)) == (x, (y : Int))) = true then [((x : Int), (y : Int))] else []))).length) ((p.toNat : Nat) : Int) = _
      unfold B_s_l07Fixed_3
      rw [if_neg (by simp; omega)]) hF hm
theorem lo2_s_l07Fixed {p : Int} (hp : prB p = true) (m_ : P6) {F : Nat} (hF : p.toNat < F) : L_s_l07Fixed_2 1000000 p m_ F [] 0 0 = (some (((pts p).filter fun zz => (s_l07Move p m_ zz == zz)).length, flat2 ((pts p).filter fun zz => (s_l07Move p m_ zz == zz)))) := by
  obtain ⟨h1, h0, hpn⟩ := prB_nat hp
  exact gather (flat := flat2) flat2_app rfl (L := fun f l m i => L_s_l07Fixed_2 1000000 p m_ f l m i) (n := p.toNat) (b := 31) (M := 0) ((fun x : Nat => (List.range p.toNat).flatMap (fun y : Nat => if (s_l07Move p m_ ((x : Int), (y : Int)) == ((x : Int), (y : Int))) = true then [(((x : Int) : Int), (y : Int))] else []))) (K := (some (((pts p).filter fun zz => (s_l07Move p m_ zz == zz)).length, flat2 ((pts p).filter fun zz => (s_l07Move p m_ zz == zz))))) (l := []) (m := 0) (F := F) (by intro k hk; refine Nat.le_trans (len_flatMap_le (b := 1) fun j _ => ?_) (by omega); first | (split <;> simp) | simp)
    (fun f k l m hk hm => by
      show B_s_l07Fixed_2 p m_ (L_s_l07Fixed_3 1000000 p m_ l m (k : Int) (L_s_l07Fixed_2 1000000 p m_ f) 1000000) (L_s_l07Fixed_2 1000000 p m_ f) l m (k : Int) = _
      unfold B_s_l07Fixed_2
      rw [if_pos (cndp hk), lo3_s_l07Fixed hp _ _ _ _ _ _ (by omega) (by omega), wrap_add1 hk (by omega)])
    (fun f hm => by
      show B_s_l07Fixed_2 p m_ (L_s_l07Fixed_3 1000000 p m_ ([] ++ flat2 ((List.range p.toNat).flatMap ((fun x : Nat => (List.range p.toNat).flatMap (fun y : Nat => if (s_l07Move p m_ ((x : Int), (y : Int)) == ((x : Int), (y : Int))) = true then [(((x : Int) : Int), (y : Int))] else []))))) (0 + ((List.range p.toNat).flatMap ((fun x : Nat => (List.range p.toNat).flatMap (fun y : Nat => if (s_l07Move p m_ ((x : Int), (y : Int)) == ((x : Int), (y : Int))) = true then [(((x : Int) : Int), (y : Int))] else [])))).length) ((p.toNat : Nat) : Int) (L_s_l07Fixed_2 1000000 p m_ f) 1000000) (L_s_l07Fixed_2 1000000 p m_ f) ([] ++ flat2 ((List.range p.toNat).flatMap ((fun x : Nat => (List.range p.toNat).flatMap (fun y : Nat => if (s_l07Move p m_ ((x : Int), (y : Int)) == ((x : Int), (y : Int))) = true then [(((x : Int) : Int), (y : Int))] else []))))) (0 + ((List.range p.toNat).flatMap ((fun x : Nat => (List.range p.toNat).flatMap (fun y : Nat => if (s_l07Move p m_ ((x : Int), (y : Int)) == ((x : Int), (y : Int))) = true then [(((x : Int) : Int), (y : Int))] else [])))).length) ((p.toNat : Nat) : Int) = _
      unfold B_s_l07Fixed_2
      have hkp : ((List.range p.toNat).flatMap (fun x : Nat => (List.range p.toNat).flatMap (fun y : Nat => if (s_l07Move p m_ ((x : Int), (y : Int)) == ((x : Int), (y : Int))) = true then [(((x : Int) : Int), (y : Int))] else []))) = (pts p).filter (fun zz => (s_l07Move p m_ zz == zz)) := grid_filter p.toNat (fun zz => (s_l07Move p m_ zz == zz))
      rw [if_neg (by simp; omega), hkp]
      simp) hF (Nat.le_refl _)

theorem tot_s_l07Fixed (p : Int) (m : Int × Int × Int × Int × Int × Int) (hp : (prB p) = true) : Fo_s_l07Fixed 1000000 p m = some (s_l07Fixed p m) := by
  unfold Fo_s_l07Fixed G_s_l07Fixed
  have h1 := (prB_nat hp).1
  exact lo2_s_l07Fixed hp _ (by omega)
def run_s_l07Fixed : List PV → Option (Bool × List TR)
  | [.v (.int .i64 p), .v (.agg ⟨[.int .i64 m0, .int .i64 m1, .int .i64 m2, .int .i64 m3, .int .i64 m4, .int .i64 m5]⟩)] => some (prB p, enc_l26_2 (s_l07Fixed p (m0, m1, m2, m3, m4, m5)))
  | _ => none
theorem sound_s_l07Fixed : Sound Tryz.prog 55 run_s_l07Fixed := by
  refine sound_of de_l26_2 SO_s_l07Fixed (by kernel_rfl) Tryz.func55 Tryz.ntmps55 rfl (by kernel_rfl) ?_
  intro W pvs avs rs hargs hrun
  unfold run_s_l07Fixed at hrun
  split at hrun
  · simp only [Option.some.injEq, Prod.mk.injEq] at hrun
    obtain ⟨hp, rfl⟩ := hrun
    rename_i p m0 m1 m2 m3 m4 m5
    exact ⟨_, _, _, hargs, rfl, (eq_s_l07Fixed _ p (m0, m1, m2, m3, m4, m5)).trans (tot_s_l07Fixed p (m0, m1, m2, m3, m4, m5) hp)⟩
  · cases hrun

def S_i_fixedPoints_c1 : Sums := ⟨tblS [(70, run_i_moved)], tblM []⟩
theorem SO_i_fixedPoints_c1 : SumsOK Tryz.prog S_i_fixedPoints_c1 := ⟨tblS_ok ⟨⟨Tryz.call70, sound_i_moved⟩, True.intro⟩, tblM_ok True.intro⟩
def Fo_i_fixedPoints_c1 (a : Int × Int) (c0 : Int) (c1 : Int × Int × Int × Int × Int × Int) : Option (Bool) :=
  (if (prB c0) = true then some ((i_moved c0 c1 a) == a) else none)
theorem eq_i_fixedPoints_c1 (a : Int × Int) (c0 : Int) (c1 : Int × Int × Int × Int × Int × Int) : execT Tryz.prog S_i_fixedPoints_c1 133 11 (fun _ => 1000000) dec_b [.v (.agg ⟨[.int .i64 a.1, .int .i64 a.2]⟩), .p [.int .i64 c0], .p [.int .i64 c1.1, .int .i64 c1.2.1, .int .i64 c1.2.2.1, .int .i64 c1.2.2.2.1, .int .i64 c1.2.2.2.2.1, .int .i64 c1.2.2.2.2.2]] = Fo_i_fixedPoints_c1 a c0 c1 := by
  kernel_rfl
def i_fixedPoints_c1 (a : Int × Int) (c0 : Int) (c1 : Int × Int × Int × Int × Int × Int) : Bool :=
  (i_moved c0 c1 a) == a
theorem tot_i_fixedPoints_c1 (a : Int × Int) (c0 : Int) (c1 : Int × Int × Int × Int × Int × Int) (hp : (prB c0) = true) : Fo_i_fixedPoints_c1 a c0 c1 = some (i_fixedPoints_c1 a c0 c1) := by
  try have h0 := prB_ne hp
  unfold Fo_i_fixedPoints_c1 i_fixedPoints_c1
  (try simp only [wI_eq])
  repeat' (first | with_reducible rfl | with_reducible refine chk_opt hp ?_ | with_reducible refine chk_opt h0 ?_ | refine chk_opt (and_all hp fun _ => hp) ?_ | refine chk_opt (and_all hp fun _ => rfl) ?_ | refine ite_opt (fun _ => ?_) (fun _ => ?_) | rfl)
def run_i_fixedPoints_c1 : List PV → Option (Bool × List TR)
  | [.v (.agg ⟨[.int .i64 a0, .int .i64 a1]⟩), .p [.int .i64 c0], .p [.int .i64 c10, .int .i64 c11, .int .i64 c12, .int .i64 c13, .int .i64 c14, .int .i64 c15]] => some (prB c0, enc_b (i_fixedPoints_c1 (a0, a1) c0 (c10, c11, c12, c13, c14, c15)))
  | _ => none
theorem sound_i_fixedPoints_c1 : Sound Tryz.prog 133 run_i_fixedPoints_c1 := by
  refine sound_of de_b SO_i_fixedPoints_c1 (by kernel_rfl) Tryz.func133 Tryz.ntmps133 rfl (by kernel_rfl) ?_
  intro W pvs avs rs hargs hrun
  unfold run_i_fixedPoints_c1 at hrun
  split at hrun
  · simp only [Option.some.injEq, Prod.mk.injEq] at hrun
    obtain ⟨hp, rfl⟩ := hrun
    rename_i a0 a1 c0 c10 c11 c12 c13 c14 c15
    exact ⟨_, _, _, hargs, rfl, (eq_i_fixedPoints_c1 (a0, a1) c0 (c10, c11, c12, c13, c14, c15)).trans (tot_i_fixedPoints_c1 (a0, a1) c0 (c10, c11, c12, c13, c14, c15) hp)⟩
  · cases hrun

def S_i_fixedPoints : Sums := ⟨tblS [(112, run_i_pointsWith), (133, run_i_fixedPoints_c1)], tblM []⟩
theorem SO_i_fixedPoints : SumsOK Tryz.prog S_i_fixedPoints := ⟨tblS_ok ⟨⟨Tryz.call112, sound_i_pointsWith⟩, ⟨Tryz.call133, sound_i_fixedPoints_c1⟩, True.intro⟩, tblM_ok True.intro⟩
def Fo_i_fixedPoints (p : Int) (m : Int × Int × Int × Int × Int × Int) : Option (Nat × List Int) :=
  (if (prB p && (pts p).all (fun a0 => prB p)) = true then some ((i_pointsWith p (fun a0 => prB p) (fun a0 => i_fixedPoints_c1 a0 p m)).1, (i_pointsWith p (fun a0 => prB p) (fun a0 => i_fixedPoints_c1 a0 p m)).2) else none)
theorem eq_i_fixedPoints (p : Int) (m : Int × Int × Int × Int × Int × Int) : execT Tryz.prog S_i_fixedPoints 52 8 (fun _ => 1000000) dec_l26_2 [.v (.int .i64 p), .v (.agg ⟨[.int .i64 m.1, .int .i64 m.2.1, .int .i64 m.2.2.1, .int .i64 m.2.2.2.1, .int .i64 m.2.2.2.2.1, .int .i64 m.2.2.2.2.2]⟩)] = Fo_i_fixedPoints p m := by
  kernel_rfl
def i_fixedPoints (p : Int) (m : Int × Int × Int × Int × Int × Int) : Nat × List Int :=
  ((i_pointsWith p (fun a0 => prB p) (fun a0 => i_fixedPoints_c1 a0 p m)).1, (i_pointsWith p (fun a0 => prB p) (fun a0 => i_fixedPoints_c1 a0 p m)).2)
theorem tot_i_fixedPoints (p : Int) (m : Int × Int × Int × Int × Int × Int) (hp : (prB p) = true) : Fo_i_fixedPoints p m = some (i_fixedPoints p m) := by
  try have h0 := prB_ne hp
  unfold Fo_i_fixedPoints i_fixedPoints
  (try simp only [wI_eq])
  repeat' (first | with_reducible rfl | with_reducible refine chk_opt hp ?_ | with_reducible refine chk_opt h0 ?_ | refine chk_opt (and_all hp fun _ => hp) ?_ | refine chk_opt (and_all hp fun _ => rfl) ?_ | refine ite_opt (fun _ => ?_) (fun _ => ?_) | rfl)
def run_i_fixedPoints : List PV → Option (Bool × List TR)
  | [.v (.int .i64 p), .v (.agg ⟨[.int .i64 m0, .int .i64 m1, .int .i64 m2, .int .i64 m3, .int .i64 m4, .int .i64 m5]⟩)] => some (prB p, enc_l26_2 (i_fixedPoints p (m0, m1, m2, m3, m4, m5)))
  | _ => none
theorem sound_i_fixedPoints : Sound Tryz.prog 52 run_i_fixedPoints := by
  refine sound_of de_l26_2 SO_i_fixedPoints (by kernel_rfl) Tryz.func52 Tryz.ntmps52 rfl (by kernel_rfl) ?_
  intro W pvs avs rs hargs hrun
  unfold run_i_fixedPoints at hrun
  split at hrun
  · simp only [Option.some.injEq, Prod.mk.injEq] at hrun
    obtain ⟨hp, rfl⟩ := hrun
    rename_i p m0 m1 m2 m3 m4 m5
    exact ⟨_, _, _, hargs, rfl, (eq_i_fixedPoints p (m0, m1, m2, m3, m4, m5)).trans (tot_i_fixedPoints p (m0, m1, m2, m3, m4, m5) hp)⟩
  · cases hrun


end

end Go.Proofs.YtoblkbpejfojjaaGreatDoor
