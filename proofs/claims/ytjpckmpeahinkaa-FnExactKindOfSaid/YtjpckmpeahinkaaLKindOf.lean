import Derived.Test.YtjpckmpeahinkaaCb
set_option linter.unusedSimpArgs false
set_option linter.unusedVariables false
namespace Go.Proofs.Ytjpckmpeahinkaa
open Go.RowKit

def srootLoop (p a : Int) : Nat → Int → (Int × Bool)
  | 0, _ => (0, false)
  | k + 1, x => if ((wrap64 (x * x)).tmod p == a) = true then (x, true) else srootLoop p a k (x + 1)
def s_l01Root (a p : Int) : (Int × Bool) := srootLoop p a p.toNat 0
theorem srootLoop_step (p a j : Int) (h : j < p) : srootLoop p a (p - j).toNat j = if ((wrap64 (j * j)).tmod p == a) = true then (j, true) else srootLoop p a (p - (j + 1)).toNat (j + 1) := by
  rw [show (p - j).toNat = (p - (j + 1)).toNat + 1 from by omega]
  rfl
set_option maxHeartbeats 400000 in
theorem s_l01Root_any (a p : Int) (w : World) (hp : Pr p) :
    Calls Try.prog 122 #[.int .i64 a, .int .i64 p] w fun e w' => e = .returned (.tuple #[.int .i64 ((s_l01Root a p).1), .bool ((s_l01Root a p).2)]) ∧ w = w' := by
  obtain ⟨h1, h2⟩ := hp
  go_enter Try.func122, Try.ntmps122
  go_wp2
  go_loop [6] (fun x => ∃ j : Int, 0 ≤ j ∧ j ≤ p ∧ x = .int .i64 j ∧ Hid (s_l01Root a p = srootLoop p a (p - j).toNat j)) (fun x => (p - intOf x).toNat)
  case atStart => exact ⟨0, by omega, by omega, rfl, by unfold Hid s_l01Root; rw [Int.sub_zero]⟩
  case round =>
    obtain ⟨j, hj1, hj2, rfl, HI⟩ := hrel
    by_cases hlt : j < p
    · have HU := Lib.hid (srootLoop_step p a j hlt)
      cases ht : ((wrap64 (j * j)).tmod p == a)
      all_goals
        have HT := Lib.hid ht
        go_wp2
      · go_round
        case rel => exact ⟨j + 1, by omega, by omega, by go_num, by unfold Hid; rw [HI.out, HU.out, HT.out]; rfl⟩
        case measure => simp [intOf]; omega
      · go_ret2
        exact ⟨by rw [HI.out, HU.out, HT.out]; rfl, rfl⟩
    · go_wp2
      go_ret2
      exact ⟨by rw [HI.out, show (p - j).toNat = 0 from by omega]; rfl, rfl⟩

def s_l01Square (a : Int) (p : Int) : Int :=
  (if (a == 0) = true then 0 else (if (s_l01Root a p).2 = true then 1 else (-1)))

set_option maxHeartbeats 400000 in
theorem s_l01Square_any (a : Int) (p : Int) (w : World) (hp : Pr p) :
    Calls Try.prog 106 #[.int .i64 a, .int .i64 p] w fun e w' => e = .returned (.int .i64 (s_l01Square a p)) ∧ w = w' := by
  have hp1 := hp.1; have hp2 := hp.2; have hp0 : p ≠ 0 := Pr.ne hp
  go_enter Try.func106, Try.ntmps106
  go_wp2_with (go_at_call 122; refine (s_l01Root_any _ _ _ ?_).mono ?_; (focus (assumption)); rintro e w1 ⟨rfl, rfl⟩)
  all_goals (go_ret; refine ⟨?_, rfl⟩)
  all_goals first | ((with_reducible (show Ext _ _)); (repeat (first | with_reducible exact Ext.refl _ | with_reducible assumption | with_reducible refine Ext.alloc ?_ _ | with_reducible refine Ext.drewN ?_ _ | with_reducible refine Ext.drew ?_ | with_reducible refine ExtW.ext ?_ _ | (with_reducible refine Ext.trans ?_ (by assumption)) | (with_reducible refine Ext.setCell ?_ (by first | (simp; done) | (simp; omega)) _))); done) | (refine congrArg (fun v => Ending.returned (Value.int .i64 v)) ?_; ((try simp only [IntWalk.i64_left]); first | rfl | (simp only [s_l01Square, *, Bool.false_eq_true, ↓reduceIte]; done) | (simp [s_l01Square, *]; done) | (simp_all [s_l01Square]; done) | (simp [s_l01Square, *]; omega)))

def s_l08Kind (p : Int) (k : P6) : Int :=
  (s_l01Square (s_l01Mod (wrap64 ((wrap64 (k.2.1 * k.2.1)) - (wrap64 ((wrap64 (4 * k.1)) * k.2.2.1)))) p) p)

set_option maxHeartbeats 400000 in
theorem s_l08Kind_any (p : Int) (k0 : Int) (k1 : Int) (k2 : Int) (k3 : Int) (k4 : Int) (k5 : Int) (w : World) (hp : Pr p) :
    Calls Try.prog 58 #[.int .i64 p, .agg #[.int .i64 k0, .int .i64 k1, .int .i64 k2, .int .i64 k3, .int .i64 k4, .int .i64 k5]] w fun e w' => e = .returned (.int .i64 (s_l08Kind p (k0, k1, k2, k3, k4, k5))) ∧ Ext w w' := by
  have hp1 := hp.1; have hp2 := hp.2; have hp0 : p ≠ 0 := Pr.ne hp
  go_enter Try.func58, Try.ntmps58
  go_wp2_with (first | (go_at_call 89; refine (s_l01Mod_any _ _ _ ?_).mono ?_; (focus (assumption)); rintro e w1 ⟨rfl, rfl⟩) | (go_at_call 106; refine (s_l01Square_any _ _ _ ?_).mono ?_; (focus (assumption)); rintro e w1 ⟨rfl, rfl⟩))
  all_goals (go_ret; refine ⟨?_, ?_⟩)
  all_goals first | ((with_reducible (show Ext _ _)); (repeat (first | with_reducible exact Ext.refl _ | with_reducible assumption | with_reducible refine Ext.alloc ?_ _ | with_reducible refine Ext.drewN ?_ _ | with_reducible refine Ext.drew ?_ | with_reducible refine ExtW.ext ?_ _ | (with_reducible refine Ext.trans ?_ (by assumption)) | (with_reducible refine Ext.setCell ?_ (by first | (simp; done) | (simp; omega)) _))); done) | (refine congrArg (fun v => Ending.returned (Value.int .i64 v)) ?_; ((try simp only [IntWalk.i64_left]); first | rfl | (simp only [s_l08Kind, *, Bool.false_eq_true, ↓reduceIte]; done) | (simp [s_l08Kind, *]; done) | (simp_all [s_l08Kind]; done) | (simp [s_l08Kind, *]; omega)))

def i_squareKind (p : Int) (a : Int) : Int :=
  (if (a == 0) = true then 0 else (if decide (0 ≤ (i_root p a)) = true then 1 else (-1)))

set_option maxHeartbeats 400000 in
theorem i_squareKind_any (p : Int) (a : Int) (w : World) (hp : Pr p) :
    Calls Try.prog 107 #[.int .i64 p, .int .i64 a] w fun e w' => e = .returned (.int .i64 (i_squareKind p a)) ∧ w = w' := by
  have hp1 := hp.1; have hp2 := hp.2; have hp0 : p ≠ 0 := Pr.ne hp
  go_enter Try.func107, Try.ntmps107
  go_wp2_with (go_at_call 123; refine (i_root_any _ _ _ ?_).mono ?_; (focus (assumption)); rintro e w1 ⟨rfl, rfl⟩)
  all_goals (go_ret; refine ⟨?_, rfl⟩)
  all_goals first | ((with_reducible (show Ext _ _)); (repeat (first | with_reducible exact Ext.refl _ | with_reducible assumption | with_reducible refine Ext.alloc ?_ _ | with_reducible refine Ext.drewN ?_ _ | with_reducible refine Ext.drew ?_ | with_reducible refine ExtW.ext ?_ _ | (with_reducible refine Ext.trans ?_ (by assumption)) | (with_reducible refine Ext.setCell ?_ (by first | (simp; done) | (simp; omega)) _))); done) | (refine congrArg (fun v => Ending.returned (Value.int .i64 v)) ?_; ((try simp only [IntWalk.i64_left]); first | rfl | (simp only [i_squareKind, *, Bool.false_eq_true, ↓reduceIte]; done) | (simp [i_squareKind, *]; done) | (simp_all [i_squareKind]; done) | (simp [i_squareKind, *]; omega)))

def i_conicKind (p : Int) (k : P6) : Int :=
  (i_squareKind p (i_rest p (wrap64 ((wrap64 (k.2.1 * k.2.1)) - (wrap64 ((wrap64 (4 * k.1)) * k.2.2.1))))))

set_option maxHeartbeats 400000 in
theorem i_conicKind_any (p : Int) (k0 : Int) (k1 : Int) (k2 : Int) (k3 : Int) (k4 : Int) (k5 : Int) (w : World) (hp : Pr p) :
    Calls Try.prog 60 #[.int .i64 p, .agg #[.int .i64 k0, .int .i64 k1, .int .i64 k2, .int .i64 k3, .int .i64 k4, .int .i64 k5]] w fun e w' => e = .returned (.int .i64 (i_conicKind p (k0, k1, k2, k3, k4, k5))) ∧ Ext w w' := by
  have hp1 := hp.1; have hp2 := hp.2; have hp0 : p ≠ 0 := Pr.ne hp
  go_enter Try.func60, Try.ntmps60
  go_wp2_with (first | (go_at_call 94; refine (i_rest_any _ _ _ ?_).mono ?_; (focus (assumption)); rintro e w1 ⟨rfl, rfl⟩) | (go_at_call 107; refine (i_squareKind_any _ _ _ ?_).mono ?_; (focus (assumption)); rintro e w1 ⟨rfl, rfl⟩))
  all_goals (go_ret; refine ⟨?_, ?_⟩)
  all_goals first | ((with_reducible (show Ext _ _)); (repeat (first | with_reducible exact Ext.refl _ | with_reducible assumption | with_reducible refine Ext.alloc ?_ _ | with_reducible refine Ext.drewN ?_ _ | with_reducible refine Ext.drew ?_ | with_reducible refine ExtW.ext ?_ _ | (with_reducible refine Ext.trans ?_ (by assumption)) | (with_reducible refine Ext.setCell ?_ (by first | (simp; done) | (simp; omega)) _))); done) | (refine congrArg (fun v => Ending.returned (Value.int .i64 v)) ?_; ((try simp only [IntWalk.i64_left]); first | rfl | (simp only [i_conicKind, *, Bool.false_eq_true, ↓reduceIte]; done) | (simp [i_conicKind, *]; done) | (simp_all [i_conicKind]; done) | (simp [i_conicKind, *]; omega)))

def i_KindOf_c1 (p : Int) (k : P6) : Bool :=
  (i_isConic p k)

set_option maxHeartbeats 400000 in
theorem i_KindOf_c1_any (p : Int) (k0 : Int) (k1 : Int) (k2 : Int) (k3 : Int) (k4 : Int) (k5 : Int) (q0 : Nat) (q1 : Nat) (w : World) (c0_0 : w.cell? ⟨q0, 0, none⟩ = some (.int .i64 p)) (c1_0 : w.cell? ⟨q1, 0, none⟩ = some (.int .i64 k0)) (c1_1 : w.cell? ⟨q1, 1, none⟩ = some (.int .i64 k1)) (c1_2 : w.cell? ⟨q1, 2, none⟩ = some (.int .i64 k2)) (c1_3 : w.cell? ⟨q1, 3, none⟩ = some (.int .i64 k3)) (c1_4 : w.cell? ⟨q1, 4, none⟩ = some (.int .i64 k4)) (c1_5 : w.cell? ⟨q1, 5, none⟩ = some (.int .i64 k5)) :
    Calls Try.prog 59 #[.pointer (some ⟨q0, 0, none⟩), .pointer (some ⟨q1, 0, none⟩)] w fun e w' => e = .returned (.bool (i_KindOf_c1 p (k0, k1, k2, k3, k4, k5))) ∧ Ext w w' := by
  go_enter Try.func59, Try.ntmps59
  go_wp2_with (go_at_call 52; refine (i_isConic_any _ _ _ _ _ _ _ _).mono ?_; rintro e w1 ⟨rfl, hb⟩; obtain ⟨hcl, hfz, hsz⟩ := hb.cells; have hs := hb.size; (try simp only [szA, szS, szD] at hs); (try have hz0 : w.heap.size < w1.heap.size := by omega); (try have hz1 : w.heap.size + 1 < w1.heap.size := by omega); (try have hz2 : w.heap.size + 2 < w1.heap.size := by omega); (try have hz3 : w.heap.size + 3 < w1.heap.size := by omega); (try have hz4 : w.heap.size + 4 < w1.heap.size := by omega); (try have hz5 : w.heap.size + 5 < w1.heap.size := by omega))
  all_goals (go_ret; refine ⟨?_, ?_⟩)
  all_goals first | ((with_reducible (show Ext _ _)); (repeat (first | with_reducible exact Ext.refl _ | with_reducible assumption | with_reducible refine Ext.alloc ?_ _ | with_reducible refine Ext.drewN ?_ _ | with_reducible refine Ext.drew ?_ | with_reducible refine ExtW.ext ?_ _ | (with_reducible refine Ext.trans ?_ (by assumption)) | (with_reducible refine Ext.setCell ?_ (by first | (simp; done) | (simp; omega)) _))); done) | (refine congrArg (fun v => Ending.returned (Value.bool v)) ?_; ((try simp only [IntWalk.i64_left]); first | rfl | (simp only [i_KindOf_c1, *, Bool.false_eq_true, ↓reduceIte]; done) | (simp [i_KindOf_c1, *]; done) | (simp_all [i_KindOf_c1]; done) | (simp [i_KindOf_c1, *]; omega)))

def i_KindOf (p : Int) (k : P6) : P2 :=
  (if ((i_asked p (i_KindOf_c1 p k)) != 0) = true then (0, (i_asked p (i_KindOf_c1 p k))) else ((i_conicKind p k), 0))

set_option maxHeartbeats 400000 in
theorem i_KindOf_any (p : Int) (k0 : Int) (k1 : Int) (k2 : Int) (k3 : Int) (k4 : Int) (k5 : Int) (w : World) :
    Calls Try.prog 20 #[.int .i64 p, .agg #[.int .i64 k0, .int .i64 k1, .int .i64 k2, .int .i64 k3, .int .i64 k4, .int .i64 k5]] w fun e w' => e = .returned (.tuple #[.int .i64 ((i_KindOf p (k0, k1, k2, k3, k4, k5)).1), .int .i64 ((i_KindOf p (k0, k1, k2, k3, k4, k5)).2)]) ∧ Ext w w' := by
  by_cases hgt : (i_asked p (i_KindOf_c1 p (k0, k1, k2, k3, k4, k5))) = 0
  case' pos => have hp := i_asked_ok hgt; have hp1 := hp.1; have hp2 := hp.2; have hp0 := Pr.ne hp
  all_goals
    go_enter Try.func20, Try.ntmps20
  all_goals try go_wp2_with (first | (go_at_call 55; refine (i_asked_any _ 59 _ (i_KindOf_c1 p (k0, k1, k2, k3, k4, k5)) _ Try.call59 ?_).mono ?_; (focus (exact i_KindOf_c1_any p k0 k1 k2 k3 k4 k5 _ _ _ (by simp [go_sem, *]) (by simp [go_sem, *]) (by simp [go_sem, *]) (by simp [go_sem, *]) (by simp [go_sem, *]) (by simp [go_sem, *]) (by simp [go_sem, *]))); rintro e w1 ⟨rfl, hb⟩; obtain ⟨hcl, hfz, hsz⟩ := hb.cells; have hs := hb.size; (try simp only [szA, szS, szD] at hs); (try have hz0 : w.heap.size < w1.heap.size := by omega); (try have hz1 : w.heap.size + 1 < w1.heap.size := by omega); (try have hz2 : w.heap.size + 2 < w1.heap.size := by omega); (try have hz3 : w.heap.size + 3 < w1.heap.size := by omega); (try have hz4 : w.heap.size + 4 < w1.heap.size := by omega); (try have hz5 : w.heap.size + 5 < w1.heap.size := by omega); (try have hq0_0 : w1.cell? ⟨w.heap.size, 0, none⟩ = some (.int .i64 p) := hb.cell (by simp [go_sem, *])); (try have hq1_0 : w1.cell? ⟨w.heap.size + 1, 0, none⟩ = some (.int .i64 k0) := hb.cell (by simp [go_sem, *])); (try have hq1_1 : w1.cell? ⟨w.heap.size + 1, 1, none⟩ = some (.int .i64 k1) := hb.cell (by simp [go_sem, *])); (try have hq1_2 : w1.cell? ⟨w.heap.size + 1, 2, none⟩ = some (.int .i64 k2) := hb.cell (by simp [go_sem, *])); (try have hq1_3 : w1.cell? ⟨w.heap.size + 1, 3, none⟩ = some (.int .i64 k3) := hb.cell (by simp [go_sem, *])); (try have hq1_4 : w1.cell? ⟨w.heap.size + 1, 4, none⟩ = some (.int .i64 k4) := hb.cell (by simp [go_sem, *])); (try have hq1_5 : w1.cell? ⟨w.heap.size + 1, 5, none⟩ = some (.int .i64 k5) := hb.cell (by simp [go_sem, *]))) | (go_at_call 60; refine (i_conicKind_any _ _ _ _ _ _ _ _ ?_).mono ?_; (focus (assumption)); rintro e w1 ⟨rfl, hb⟩; obtain ⟨hcl, hfz, hsz⟩ := hb.cells; have hs := hb.size; (try simp only [szA, szS, szD] at hs); (try have hz0 : w.heap.size < w1.heap.size := by omega); (try have hz1 : w.heap.size + 1 < w1.heap.size := by omega); (try have hz2 : w.heap.size + 2 < w1.heap.size := by omega); (try have hz3 : w.heap.size + 3 < w1.heap.size := by omega); (try have hz4 : w.heap.size + 4 < w1.heap.size := by omega); (try have hz5 : w.heap.size + 5 < w1.heap.size := by omega); (try have hq0_0 : w1.cell? ⟨w.heap.size, 0, none⟩ = some (.int .i64 p) := hb.cell (by simp [go_sem, *])); (try have hq1_0 : w1.cell? ⟨w.heap.size + 1, 0, none⟩ = some (.int .i64 k0) := hb.cell (by simp [go_sem, *])); (try have hq1_1 : w1.cell? ⟨w.heap.size + 1, 1, none⟩ = some (.int .i64 k1) := hb.cell (by simp [go_sem, *])); (try have hq1_2 : w1.cell? ⟨w.heap.size + 1, 2, none⟩ = some (.int .i64 k2) := hb.cell (by simp [go_sem, *])); (try have hq1_3 : w1.cell? ⟨w.heap.size + 1, 3, none⟩ = some (.int .i64 k3) := hb.cell (by simp [go_sem, *])); (try have hq1_4 : w1.cell? ⟨w.heap.size + 1, 4, none⟩ = some (.int .i64 k4) := hb.cell (by simp [go_sem, *])); (try have hq1_5 : w1.cell? ⟨w.heap.size + 1, 5, none⟩ = some (.int .i64 k5) := hb.cell (by simp [go_sem, *]))))
  all_goals (go_ret2; refine ⟨?_, ?_⟩)
  all_goals first | ((with_reducible (show Ext _ _)); (repeat (first | with_reducible exact Ext.refl _ | with_reducible assumption | with_reducible refine Ext.alloc ?_ _ | with_reducible refine Ext.drewN ?_ _ | with_reducible refine Ext.drew ?_ | with_reducible refine ExtW.ext ?_ _ | (with_reducible refine Ext.trans ?_ (by assumption)) | (with_reducible refine Ext.setCell ?_ (by first | (simp; done) | (simp; omega)) _))); done) | (refine ret_ii ?_; ((try simp only [IntWalk.i64_left]); first | rfl | (simp only [i_KindOf, hgt, bne_self_eq_false, beq_self_eq_true, Bool.false_eq_true, Bool.not_true, Bool.not_false, ↓reduceIte]; simp [*]; done) | (simp only [i_KindOf, hgt, bne_self_eq_false, beq_self_eq_true, Bool.false_eq_true, Bool.not_true, Bool.not_false, ↓reduceIte]; done) | (simp only [i_KindOf, *, Bool.false_eq_true, ↓reduceIte]; done) | (simp [i_KindOf, *]; done) | (simp_all [i_KindOf]; done) | (simp [i_KindOf, *]; omega)))

def s_KindOf (p : Int) (k : P6) : P2 :=
  (if ((s_l08Code p k) != 0) = true then (0, (s_l08Code p k)) else ((s_l08Kind p k), 0))

set_option maxHeartbeats 400000 in
theorem s_KindOf_any (p : Int) (k0 : Int) (k1 : Int) (k2 : Int) (k3 : Int) (k4 : Int) (k5 : Int) (w : World) :
    Calls Try.prog 19 #[.int .i64 p, .agg #[.int .i64 k0, .int .i64 k1, .int .i64 k2, .int .i64 k3, .int .i64 k4, .int .i64 k5]] w fun e w' => e = .returned (.tuple #[.int .i64 ((s_KindOf p (k0, k1, k2, k3, k4, k5)).1), .int .i64 ((s_KindOf p (k0, k1, k2, k3, k4, k5)).2)]) ∧ Ext w w' := by
  by_cases hgt : (s_l08Code p (k0, k1, k2, k3, k4, k5)) = 0
  case' pos => have hp := s_l08Code_ok hgt; have hp1 := hp.1; have hp2 := hp.2; have hp0 := Pr.ne hp
  all_goals
    go_enter Try.func19, Try.ntmps19
  all_goals try go_wp2_with (first | (go_at_call 53; refine (s_l08Code_any _ _ _ _ _ _ _ _).mono ?_; rintro e w1 ⟨rfl, hb⟩; obtain ⟨hcl, hfz, hsz⟩ := hb.cells; have hs := hb.size; (try simp only [szA, szS, szD] at hs); (try have hz0 : w.heap.size < w1.heap.size := by omega); (try have hz1 : w.heap.size + 1 < w1.heap.size := by omega); (try have hz2 : w.heap.size + 2 < w1.heap.size := by omega); (try have hz3 : w.heap.size + 3 < w1.heap.size := by omega); (try have hz4 : w.heap.size + 4 < w1.heap.size := by omega); (try have hz5 : w.heap.size + 5 < w1.heap.size := by omega); (try have hq0_0 : w1.cell? ⟨w.heap.size, 0, none⟩ = some (.int .i64 k0) := hb.cell (by simp [go_sem, *])); (try have hq0_1 : w1.cell? ⟨w.heap.size, 1, none⟩ = some (.int .i64 k1) := hb.cell (by simp [go_sem, *])); (try have hq0_2 : w1.cell? ⟨w.heap.size, 2, none⟩ = some (.int .i64 k2) := hb.cell (by simp [go_sem, *])); (try have hq0_3 : w1.cell? ⟨w.heap.size, 3, none⟩ = some (.int .i64 k3) := hb.cell (by simp [go_sem, *])); (try have hq0_4 : w1.cell? ⟨w.heap.size, 4, none⟩ = some (.int .i64 k4) := hb.cell (by simp [go_sem, *])); (try have hq0_5 : w1.cell? ⟨w.heap.size, 5, none⟩ = some (.int .i64 k5) := hb.cell (by simp [go_sem, *]))) | (go_at_call 58; refine (s_l08Kind_any _ _ _ _ _ _ _ _ ?_).mono ?_; (focus (assumption)); rintro e w1 ⟨rfl, hb⟩; obtain ⟨hcl, hfz, hsz⟩ := hb.cells; have hs := hb.size; (try simp only [szA, szS, szD] at hs); (try have hz0 : w.heap.size < w1.heap.size := by omega); (try have hz1 : w.heap.size + 1 < w1.heap.size := by omega); (try have hz2 : w.heap.size + 2 < w1.heap.size := by omega); (try have hz3 : w.heap.size + 3 < w1.heap.size := by omega); (try have hz4 : w.heap.size + 4 < w1.heap.size := by omega); (try have hz5 : w.heap.size + 5 < w1.heap.size := by omega); (try have hq0_0 : w1.cell? ⟨w.heap.size, 0, none⟩ = some (.int .i64 k0) := hb.cell (by simp [go_sem, *])); (try have hq0_1 : w1.cell? ⟨w.heap.size, 1, none⟩ = some (.int .i64 k1) := hb.cell (by simp [go_sem, *])); (try have hq0_2 : w1.cell? ⟨w.heap.size, 2, none⟩ = some (.int .i64 k2) := hb.cell (by simp [go_sem, *])); (try have hq0_3 : w1.cell? ⟨w.heap.size, 3, none⟩ = some (.int .i64 k3) := hb.cell (by simp [go_sem, *])); (try have hq0_4 : w1.cell? ⟨w.heap.size, 4, none⟩ = some (.int .i64 k4) := hb.cell (by simp [go_sem, *])); (try have hq0_5 : w1.cell? ⟨w.heap.size, 5, none⟩ = some (.int .i64 k5) := hb.cell (by simp [go_sem, *]))))
  all_goals (go_ret2; refine ⟨?_, ?_⟩)
  all_goals first | ((with_reducible (show Ext _ _)); (repeat (first | with_reducible exact Ext.refl _ | with_reducible assumption | with_reducible refine Ext.alloc ?_ _ | with_reducible refine Ext.drewN ?_ _ | with_reducible refine Ext.drew ?_ | with_reducible refine ExtW.ext ?_ _ | (with_reducible refine Ext.trans ?_ (by assumption)) | (with_reducible refine Ext.setCell ?_ (by first | (simp; done) | (simp; omega)) _))); done) | (refine ret_ii ?_; ((try simp only [IntWalk.i64_left]); first | rfl | (simp only [s_KindOf, hgt, bne_self_eq_false, beq_self_eq_true, Bool.false_eq_true, Bool.not_true, Bool.not_false, ↓reduceIte]; simp [*]; done) | (simp only [s_KindOf, hgt, bne_self_eq_false, beq_self_eq_true, Bool.false_eq_true, Bool.not_true, Bool.not_false, ↓reduceIte]; done) | (simp only [s_KindOf, *, Bool.false_eq_true, ↓reduceIte]; done) | (simp [s_KindOf, *]; done) | (simp_all [s_KindOf]; done) | (simp [s_KindOf, *]; omega)))

def l_FnExactKindOf (aP : Int) (aK : P6) : Bool :=
  (if ((((i_KindOf aP (l_toConic aK)).1) != ((s_KindOf aP (l_toConic aK)).1)) || (((i_KindOf aP (l_toConic aK)).2) != ((s_KindOf aP (l_toConic aK)).2))) = true then false else true)

set_option maxHeartbeats 400000 in
theorem l_FnExactKindOf_any (aP : Int) (aK0 : Int) (aK1 : Int) (aK2 : Int) (aK3 : Int) (aK4 : Int) (aK5 : Int) (w : World) :
    Calls Try.prog 5 #[.int .i64 aP, .agg #[.int .i64 aK0, .int .i64 aK1, .int .i64 aK2, .int .i64 aK3, .int .i64 aK4, .int .i64 aK5]] w fun e w' => e = .returned (.bool (l_FnExactKindOf aP (aK0, aK1, aK2, aK3, aK4, aK5))) ∧ Ext w w' := by
  go_enter Try.func5, Try.ntmps5
  go_wp2_with (first | (go_at_call 15; refine (l_toConic_any _ _ _ _ _ _ _).mono ?_; rintro e w1 ⟨rfl, hb⟩; obtain ⟨hcl, hfz, hsz⟩ := hb.cells; have hs := hb.size; (try simp only [szA, szS, szD] at hs); (try have hz0 : w.heap.size < w1.heap.size := by omega); (try have hz1 : w.heap.size + 1 < w1.heap.size := by omega); (try have hz2 : w.heap.size + 2 < w1.heap.size := by omega); (try have hz3 : w.heap.size + 3 < w1.heap.size := by omega); (try have hz4 : w.heap.size + 4 < w1.heap.size := by omega); (try have hz5 : w.heap.size + 5 < w1.heap.size := by omega); (try have hq0_0 : w1.cell? ⟨w.heap.size, 0, none⟩ = some (.int .i64 aK0) := hb.cell (by simp [go_sem, *])); (try have hq0_1 : w1.cell? ⟨w.heap.size, 1, none⟩ = some (.int .i64 aK1) := hb.cell (by simp [go_sem, *])); (try have hq0_2 : w1.cell? ⟨w.heap.size, 2, none⟩ = some (.int .i64 aK2) := hb.cell (by simp [go_sem, *])); (try have hq0_3 : w1.cell? ⟨w.heap.size, 3, none⟩ = some (.int .i64 aK3) := hb.cell (by simp [go_sem, *])); (try have hq0_4 : w1.cell? ⟨w.heap.size, 4, none⟩ = some (.int .i64 aK4) := hb.cell (by simp [go_sem, *])); (try have hq0_5 : w1.cell? ⟨w.heap.size, 5, none⟩ = some (.int .i64 aK5) := hb.cell (by simp [go_sem, *]))) | (go_at_call 19; refine (s_KindOf_any _ _ _ _ _ _ _ _).mono ?_; rintro e w1 ⟨rfl, hb⟩; obtain ⟨hcl, hfz, hsz⟩ := hb.cells; have hs := hb.size; (try simp only [szA, szS, szD] at hs); (try have hz0 : w.heap.size < w1.heap.size := by omega); (try have hz1 : w.heap.size + 1 < w1.heap.size := by omega); (try have hz2 : w.heap.size + 2 < w1.heap.size := by omega); (try have hz3 : w.heap.size + 3 < w1.heap.size := by omega); (try have hz4 : w.heap.size + 4 < w1.heap.size := by omega); (try have hz5 : w.heap.size + 5 < w1.heap.size := by omega); (try have hq0_0 : w1.cell? ⟨w.heap.size, 0, none⟩ = some (.int .i64 aK0) := hb.cell (by simp [go_sem, *])); (try have hq0_1 : w1.cell? ⟨w.heap.size, 1, none⟩ = some (.int .i64 aK1) := hb.cell (by simp [go_sem, *])); (try have hq0_2 : w1.cell? ⟨w.heap.size, 2, none⟩ = some (.int .i64 aK2) := hb.cell (by simp [go_sem, *])); (try have hq0_3 : w1.cell? ⟨w.heap.size, 3, none⟩ = some (.int .i64 aK3) := hb.cell (by simp [go_sem, *])); (try have hq0_4 : w1.cell? ⟨w.heap.size, 4, none⟩ = some (.int .i64 aK4) := hb.cell (by simp [go_sem, *])); (try have hq0_5 : w1.cell? ⟨w.heap.size, 5, none⟩ = some (.int .i64 aK5) := hb.cell (by simp [go_sem, *]))) | (go_at_call 20; refine (i_KindOf_any _ _ _ _ _ _ _ _).mono ?_; rintro e w1 ⟨rfl, hb⟩; obtain ⟨hcl, hfz, hsz⟩ := hb.cells; have hs := hb.size; (try simp only [szA, szS, szD] at hs); (try have hz0 : w.heap.size < w1.heap.size := by omega); (try have hz1 : w.heap.size + 1 < w1.heap.size := by omega); (try have hz2 : w.heap.size + 2 < w1.heap.size := by omega); (try have hz3 : w.heap.size + 3 < w1.heap.size := by omega); (try have hz4 : w.heap.size + 4 < w1.heap.size := by omega); (try have hz5 : w.heap.size + 5 < w1.heap.size := by omega); (try have hq0_0 : w1.cell? ⟨w.heap.size, 0, none⟩ = some (.int .i64 aK0) := hb.cell (by simp [go_sem, *])); (try have hq0_1 : w1.cell? ⟨w.heap.size, 1, none⟩ = some (.int .i64 aK1) := hb.cell (by simp [go_sem, *])); (try have hq0_2 : w1.cell? ⟨w.heap.size, 2, none⟩ = some (.int .i64 aK2) := hb.cell (by simp [go_sem, *])); (try have hq0_3 : w1.cell? ⟨w.heap.size, 3, none⟩ = some (.int .i64 aK3) := hb.cell (by simp [go_sem, *])); (try have hq0_4 : w1.cell? ⟨w.heap.size, 4, none⟩ = some (.int .i64 aK4) := hb.cell (by simp [go_sem, *])); (try have hq0_5 : w1.cell? ⟨w.heap.size, 5, none⟩ = some (.int .i64 aK5) := hb.cell (by simp [go_sem, *]))))
  all_goals (go_ret; refine ⟨?_, ?_⟩)
  all_goals first | ((with_reducible (show Ext _ _)); (repeat (first | with_reducible exact Ext.refl _ | with_reducible assumption | with_reducible refine Ext.alloc ?_ _ | with_reducible refine Ext.drewN ?_ _ | with_reducible refine Ext.drew ?_ | with_reducible refine ExtW.ext ?_ _ | (with_reducible refine Ext.trans ?_ (by assumption)) | (with_reducible refine Ext.setCell ?_ (by first | (simp; done) | (simp; omega)) _))); done) | (refine congrArg (fun v => Ending.returned (Value.bool v)) ?_; ((try simp only [IntWalk.i64_left]); first | rfl | (simp only [l_FnExactKindOf, *, Bool.false_eq_true, ↓reduceIte]; done) | (simp [l_FnExactKindOf, *]; done) | (simp_all [l_FnExactKindOf]; done) | (simp [l_FnExactKindOf, *]; omega)))


end Go.Proofs.Ytjpckmpeahinkaa
