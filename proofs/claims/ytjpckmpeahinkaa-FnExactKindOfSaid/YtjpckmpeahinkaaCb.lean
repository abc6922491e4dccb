import Derived.Test.YtjpckmpeahinkaaCa
set_option linter.unusedSimpArgs false
set_option linter.unusedVariables false
namespace Go.Proofs.Ytjpckmpeahinkaa
open Go.RowKit

def l_toConic (a : P6) : P6 :=
  (a.1, a.2.1, a.2.2.1, a.2.2.2.1, a.2.2.2.2.1, a.2.2.2.2.2)

set_option maxHeartbeats 400000 in
theorem l_toConic_any (a0 : Int) (a1 : Int) (a2 : Int) (a3 : Int) (a4 : Int) (a5 : Int) (w : World) :
    Calls Try.prog 15 #[.agg #[.int .i64 a0, .int .i64 a1, .int .i64 a2, .int .i64 a3, .int .i64 a4, .int .i64 a5]] w fun e w' => e = .returned (.agg #[.int .i64 ((l_toConic (a0, a1, a2, a3, a4, a5)).1), .int .i64 ((l_toConic (a0, a1, a2, a3, a4, a5)).2.1), .int .i64 ((l_toConic (a0, a1, a2, a3, a4, a5)).2.2.1), .int .i64 ((l_toConic (a0, a1, a2, a3, a4, a5)).2.2.2.1), .int .i64 ((l_toConic (a0, a1, a2, a3, a4, a5)).2.2.2.2.1), .int .i64 ((l_toConic (a0, a1, a2, a3, a4, a5)).2.2.2.2.2)]) ∧ Ext w w' := by
  go_enter Try.func15, Try.ntmps15
  go_wp2
  all_goals try refine wp_loop_rounds 7 ?_
  all_goals try rw [rounds_succ]
  all_goals try go_wp2
  all_goals try rw [rounds_succ]
  all_goals try go_wp2
  all_goals try rw [rounds_succ]
  all_goals try go_wp2
  all_goals try rw [rounds_succ]
  all_goals try go_wp2
  all_goals try rw [rounds_succ]
  all_goals try go_wp2
  all_goals try rw [rounds_succ]
  all_goals try go_wp2
  all_goals try rw [rounds_succ]
  all_goals try go_wp2
  all_goals (refine bodyPost_ret (v := .agg #[.int .i64 ((l_toConic (a0, a1, a2, a3, a4, a5)).1), .int .i64 ((l_toConic (a0, a1, a2, a3, a4, a5)).2.1), .int .i64 ((l_toConic (a0, a1, a2, a3, a4, a5)).2.2.1), .int .i64 ((l_toConic (a0, a1, a2, a3, a4, a5)).2.2.2.1), .int .i64 ((l_toConic (a0, a1, a2, a3, a4, a5)).2.2.2.2.1), .int .i64 ((l_toConic (a0, a1, a2, a3, a4, a5)).2.2.2.2.2)]) ?_ rfl ⟨rfl, ?_⟩)
  all_goals first | ((with_reducible (show Ext _ _)); (repeat (first | with_reducible exact Ext.refl _ | with_reducible assumption | with_reducible refine Ext.alloc ?_ _ | with_reducible refine Ext.drewN ?_ _ | with_reducible refine Ext.drew ?_ | with_reducible refine ExtW.ext ?_ _ | (with_reducible refine Ext.trans ?_ (by assumption)) | (with_reducible refine Ext.setCell ?_ (by first | (simp; done) | (simp; omega)) _))); done) | (simp [results, Try.results15, go_sem, IntWalk.i64_left, l_toConic, *]; done) | (simp [results, Try.results15, go_sem, IntWalk.i64_left, l_toConic, *]; rfl) | (simp [results, Try.results15, go_sem, IntWalk.i64_left, l_toConic, *] at *; done)

def i_isConic (p : Int) (k : P6) : Bool :=
  (if (!(i_areNumbers p [k.1, k.2.1, k.2.2.1, k.2.2.2.1, k.2.2.2.2.1, k.2.2.2.2.2])) = true then false else (if (k.1 != 0) = true then (k.1 == 1) else (if (k.2.1 != 0) = true then (k.2.1 == 1) else (if (k.2.2.1 != 0) = true then (k.2.2.1 == 1) else false))))

set_option maxHeartbeats 400000 in
theorem i_isConic_any (p : Int) (k0 : Int) (k1 : Int) (k2 : Int) (k3 : Int) (k4 : Int) (k5 : Int) (w : World) :
    Calls Try.prog 52 #[.int .i64 p, .agg #[.int .i64 k0, .int .i64 k1, .int .i64 k2, .int .i64 k3, .int .i64 k4, .int .i64 k5]] w fun e w' => e = .returned (.bool (i_isConic p (k0, k1, k2, k3, k4, k5))) ∧ Ext w w' := by
  go_enter Try.func52, Try.ntmps52
  go_wp2_with (go_at_call 64; refine (i_areNumbers_any _ [k0, k1, k2, k3, k4, k5] _ _ _ _ (by simp) ?_).mono ?_; (focus (simp [CellsAt, go_sem, *]; done)); rintro e w1 ⟨rfl, rfl⟩)
  all_goals try refine wp_loop_rounds 4 ?_
  all_goals try rw [rounds_succ]
  all_goals try go_wp2_with (go_at_call 64; refine (i_areNumbers_any _ [k0, k1, k2, k3, k4, k5] _ _ _ _ (by simp) ?_).mono ?_; (focus (simp [CellsAt, go_sem, *]; done)); rintro e w1 ⟨rfl, rfl⟩)
  all_goals try rw [rounds_succ]
  all_goals try go_wp2_with (go_at_call 64; refine (i_areNumbers_any _ [k0, k1, k2, k3, k4, k5] _ _ _ _ (by simp) ?_).mono ?_; (focus (simp [CellsAt, go_sem, *]; done)); rintro e w1 ⟨rfl, rfl⟩)
  all_goals try rw [rounds_succ]
  all_goals try go_wp2_with (go_at_call 64; refine (i_areNumbers_any _ [k0, k1, k2, k3, k4, k5] _ _ _ _ (by simp) ?_).mono ?_; (focus (simp [CellsAt, go_sem, *]; done)); rintro e w1 ⟨rfl, rfl⟩)
  all_goals try rw [rounds_succ]
  all_goals try go_wp2_with (go_at_call 64; refine (i_areNumbers_any _ [k0, k1, k2, k3, k4, k5] _ _ _ _ (by simp) ?_).mono ?_; (focus (simp [CellsAt, go_sem, *]; done)); rintro e w1 ⟨rfl, rfl⟩)
  all_goals (go_ret; refine ⟨?_, ?_⟩)
  all_goals first | ((with_reducible (show Ext _ _)); (repeat (first | with_reducible exact Ext.refl _ | with_reducible assumption | with_reducible refine Ext.alloc ?_ _ | with_reducible refine Ext.drewN ?_ _ | with_reducible refine Ext.drew ?_ | with_reducible refine ExtW.ext ?_ _ | (with_reducible refine Ext.trans ?_ (by assumption)) | (with_reducible refine Ext.setCell ?_ (by first | (simp; done) | (simp; omega)) _))); done) | (refine congrArg (fun v => Ending.returned (Value.bool v)) ?_; ((try simp only [IntWalk.i64_left]); first | rfl | (simp only [i_isConic, *, Bool.false_eq_true, ↓reduceIte]; done) | (simp [i_isConic, *]; done) | (simp_all [i_isConic]; done) | (simp [i_isConic, *]; omega)))

def s_l08Is (p : Int) (k : P6) : Bool :=
  (if (!(s_l01In k.1 0 (wrap64 (p - 1)))) = true then false else (if (!(s_l01In k.2.1 0 (wrap64 (p - 1)))) = true then false else (if (!(s_l01In k.2.2.1 0 (wrap64 (p - 1)))) = true then false else (if (!(s_l01In k.2.2.2.1 0 (wrap64 (p - 1)))) = true then false else (if (!(s_l01In k.2.2.2.2.1 0 (wrap64 (p - 1)))) = true then false else (if (!(s_l01In k.2.2.2.2.2 0 (wrap64 (p - 1)))) = true then false else (if (k.1 != 0) = true then (k.1 == 1) else (if (k.2.1 != 0) = true then (k.2.1 == 1) else (if (k.2.2.1 != 0) = true then (k.2.2.1 == 1) else false)))))))))

set_option maxHeartbeats 400000 in
theorem s_l08Is_any (p : Int) (k0 : Int) (k1 : Int) (k2 : Int) (k3 : Int) (k4 : Int) (k5 : Int) (w : World) :
    Calls Try.prog 50 #[.int .i64 p, .agg #[.int .i64 k0, .int .i64 k1, .int .i64 k2, .int .i64 k3, .int .i64 k4, .int .i64 k5]] w fun e w' => e = .returned (.bool (s_l08Is p (k0, k1, k2, k3, k4, k5))) ∧ Ext w w' := by
  go_enter Try.func50, Try.ntmps50
  go_wp2_with (go_at_call 104; refine (s_l01In_any _ _ _ _).mono ?_; rintro e w1 ⟨rfl, rfl⟩)
  all_goals try refine wp_loop_rounds 7 ?_
  all_goals try rw [rounds_succ]
  all_goals try go_wp2_with (go_at_call 104; refine (s_l01In_any _ _ _ _).mono ?_; rintro e w1 ⟨rfl, rfl⟩)
  all_goals try rw [rounds_succ]
  all_goals try go_wp2_with (go_at_call 104; refine (s_l01In_any _ _ _ _).mono ?_; rintro e w1 ⟨rfl, rfl⟩)
  all_goals try rw [rounds_succ]
  all_goals try go_wp2_with (go_at_call 104; refine (s_l01In_any _ _ _ _).mono ?_; rintro e w1 ⟨rfl, rfl⟩)
  all_goals try rw [rounds_succ]
  all_goals try go_wp2_with (go_at_call 104; refine (s_l01In_any _ _ _ _).mono ?_; rintro e w1 ⟨rfl, rfl⟩)
  all_goals try rw [rounds_succ]
  all_goals try go_wp2_with (go_at_call 104; refine (s_l01In_any _ _ _ _).mono ?_; rintro e w1 ⟨rfl, rfl⟩)
  all_goals try rw [rounds_succ]
  all_goals try go_wp2_with (go_at_call 104; refine (s_l01In_any _ _ _ _).mono ?_; rintro e w1 ⟨rfl, rfl⟩)
  all_goals try rw [rounds_succ]
  all_goals try go_wp2_with (go_at_call 104; refine (s_l01In_any _ _ _ _).mono ?_; rintro e w1 ⟨rfl, rfl⟩)
  all_goals try refine wp_loop_rounds 7 ?_
  all_goals try rw [rounds_succ]
  all_goals try go_wp2_with (go_at_call 104; refine (s_l01In_any _ _ _ _).mono ?_; rintro e w1 ⟨rfl, rfl⟩)
  all_goals try rw [rounds_succ]
  all_goals try go_wp2_with (go_at_call 104; refine (s_l01In_any _ _ _ _).mono ?_; rintro e w1 ⟨rfl, rfl⟩)
  all_goals try rw [rounds_succ]
  all_goals try go_wp2_with (go_at_call 104; refine (s_l01In_any _ _ _ _).mono ?_; rintro e w1 ⟨rfl, rfl⟩)
  all_goals try rw [rounds_succ]
  all_goals try go_wp2_with (go_at_call 104; refine (s_l01In_any _ _ _ _).mono ?_; rintro e w1 ⟨rfl, rfl⟩)
  all_goals try rw [rounds_succ]
  all_goals try go_wp2_with (go_at_call 104; refine (s_l01In_any _ _ _ _).mono ?_; rintro e w1 ⟨rfl, rfl⟩)
  all_goals try rw [rounds_succ]
  all_goals try go_wp2_with (go_at_call 104; refine (s_l01In_any _ _ _ _).mono ?_; rintro e w1 ⟨rfl, rfl⟩)
  all_goals try rw [rounds_succ]
  all_goals try go_wp2_with (go_at_call 104; refine (s_l01In_any _ _ _ _).mono ?_; rintro e w1 ⟨rfl, rfl⟩)
  all_goals (go_ret; refine ⟨?_, ?_⟩)
  all_goals first | ((with_reducible (show Ext _ _)); (repeat (first | with_reducible exact Ext.refl _ | with_reducible assumption | with_reducible refine Ext.alloc ?_ _ | with_reducible refine Ext.drewN ?_ _ | with_reducible refine Ext.drew ?_ | with_reducible refine ExtW.ext ?_ _ | (with_reducible refine Ext.trans ?_ (by assumption)) | (with_reducible refine Ext.setCell ?_ (by first | (simp; done) | (simp; omega)) _))); done) | (refine congrArg (fun v => Ending.returned (Value.bool v)) ?_; ((try simp only [IntWalk.i64_left]); first | rfl | (simp only [s_l08Is, *, Bool.false_eq_true, ↓reduceIte]; done) | (simp [s_l08Is, *]; done) | (simp_all [s_l08Is]; done) | (simp [s_l08Is, *]; omega)))

def s_l08Code (p : Int) (k : P6) : Int :=
  (if (!(s_l01Field p)) = true then 1 else (if (!(s_l08Is p k)) = true then 2 else 0))

set_option maxHeartbeats 400000 in
theorem s_l08Code_any (p : Int) (k0 : Int) (k1 : Int) (k2 : Int) (k3 : Int) (k4 : Int) (k5 : Int) (w : World) :
    Calls Try.prog 53 #[.int .i64 p, .agg #[.int .i64 k0, .int .i64 k1, .int .i64 k2, .int .i64 k3, .int .i64 k4, .int .i64 k5]] w fun e w' => e = .returned (.int .i64 (s_l08Code p (k0, k1, k2, k3, k4, k5))) ∧ Ext w w' := by
  cases hgt : (s_l01Field p)
  case' true => have hp := s_l01Field_ok hgt; have hp1 := hp.1; have hp2 := hp.2; have hp0 := Pr.ne hp
  all_goals
    go_enter Try.func53, Try.ntmps53
  all_goals try go_wp2_with (first | (go_at_call 49; refine (s_l01Field_any _ _).mono ?_; rintro e w1 ⟨rfl, rfl⟩) | (go_at_call 50; refine (s_l08Is_any _ _ _ _ _ _ _ _).mono ?_; rintro e w1 ⟨rfl, hb⟩; obtain ⟨hcl, hfz, hsz⟩ := hb.cells; have hs := hb.size; (try simp only [szA, szS, szD] at hs); (try have hz0 : w.heap.size < w1.heap.size := by omega); (try have hz1 : w.heap.size + 1 < w1.heap.size := by omega); (try have hz2 : w.heap.size + 2 < w1.heap.size := by omega); (try have hz3 : w.heap.size + 3 < w1.heap.size := by omega); (try have hz4 : w.heap.size + 4 < w1.heap.size := by omega); (try have hz5 : w.heap.size + 5 < w1.heap.size := by omega); (try have hq0_0 : w1.cell? ⟨w.heap.size, 0, none⟩ = some (.int .i64 k0) := hb.cell (by simp [go_sem, *])); (try have hq0_1 : w1.cell? ⟨w.heap.size, 1, none⟩ = some (.int .i64 k1) := hb.cell (by simp [go_sem, *])); (try have hq0_2 : w1.cell? ⟨w.heap.size, 2, none⟩ = some (.int .i64 k2) := hb.cell (by simp [go_sem, *])); (try have hq0_3 : w1.cell? ⟨w.heap.size, 3, none⟩ = some (.int .i64 k3) := hb.cell (by simp [go_sem, *])); (try have hq0_4 : w1.cell? ⟨w.heap.size, 4, none⟩ = some (.int .i64 k4) := hb.cell (by simp [go_sem, *])); (try have hq0_5 : w1.cell? ⟨w.heap.size, 5, none⟩ = some (.int .i64 k5) := hb.cell (by simp [go_sem, *]))))
  all_goals (go_ret; refine ⟨?_, ?_⟩)
  all_goals first | ((with_reducible (show Ext _ _)); (repeat (first | with_reducible exact Ext.refl _ | with_reducible assumption | with_reducible refine Ext.alloc ?_ _ | with_reducible refine Ext.drewN ?_ _ | with_reducible refine Ext.drew ?_ | with_reducible refine ExtW.ext ?_ _ | (with_reducible refine Ext.trans ?_ (by assumption)) | (with_reducible refine Ext.setCell ?_ (by first | (simp; done) | (simp; omega)) _))); done) | (refine congrArg (fun v => Ending.returned (Value.int .i64 v)) ?_; ((try simp only [IntWalk.i64_left]); first | rfl | (simp only [s_l08Code, hgt, bne_self_eq_false, beq_self_eq_true, Bool.false_eq_true, Bool.not_true, Bool.not_false, ↓reduceIte]; simp [*]; done) | (simp only [s_l08Code, hgt, bne_self_eq_false, beq_self_eq_true, Bool.false_eq_true, Bool.not_true, Bool.not_false, ↓reduceIte]; done) | (simp only [s_l08Code, *, Bool.false_eq_true, ↓reduceIte]; done) | (simp [s_l08Code, *]; done) | (simp_all [s_l08Code]; done) | (simp [s_l08Code, *]; omega)))

theorem s_l08Code_ok {p : Int} {k : P6} (h : s_l08Code p k = 0) : Pr p := by
  refine i_IsField_ok ?_
  cases hi : i_IsField p
  · unfold s_l08Code s_l01Field at h
    rw [hi] at h
    exact absurd h (by simp)
  · rfl


end Go.Proofs.Ytjpckmpeahinkaa
