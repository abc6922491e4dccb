import Derived.Test.YtcechmaoihckgaaCa
set_option linter.unusedSimpArgs false
set_option linter.unusedVariables false
namespace Go.Proofs.Ytcechmaoihckgaa
open Go.RowKit

def i_isPlace (p : Int) (a : P3) : Bool :=
  (if (!(i_areNumbers p [a.1, a.2.1, a.2.2])) = true then false else (if (a.1 != 0) = true then (a.1 == 1) else (if (a.2.1 != 0) = true then (a.2.1 == 1) else (if (a.2.2 != 0) = true then (a.2.2 == 1) else false))))

set_option maxHeartbeats 400000 in
theorem i_isPlace_any (p : Int) (a0 : Int) (a1 : Int) (a2 : Int) (w : World) :
    Calls Try.prog 62 #[.int .i64 p, .agg #[.int .i64 a0, .int .i64 a1, .int .i64 a2]] w fun e w' => e = .returned (.bool (i_isPlace p (a0, a1, a2))) ∧ Ext w w' := by
  have ix0 : ∀ w, (Instr.index 25 (.agg #[.int .i64 a0, .int .i64 a1, .int .i64 a2]) (.int .i64 0)).run Try.prog w = .ok (.int .i64 a0) w := fun _ => by kernel_rfl
  have ix1 : ∀ w, (Instr.index 25 (.agg #[.int .i64 a0, .int .i64 a1, .int .i64 a2]) (.int .i64 1)).run Try.prog w = .ok (.int .i64 a1) w := fun _ => by kernel_rfl
  have ix2 : ∀ w, (Instr.index 25 (.agg #[.int .i64 a0, .int .i64 a1, .int .i64 a2]) (.int .i64 2)).run Try.prog w = .ok (.int .i64 a2) w := fun _ => by kernel_rfl
  go_enter Try.func62, Try.ntmps62
  go_wp2_with (go_at_call 71; refine (i_areNumbers_any _ [a0, a1, a2] _ _ _ _ (by simp) ?_).mono ?_; (focus (simp [CellsAt, go_sem, *]; done)); rintro e w1 ⟨rfl, rfl⟩)
  all_goals try refine wp_loop_rounds 4 ?_
  all_goals try rw [rounds_succ]
  all_goals try go_wp2_with (go_at_call 71; refine (i_areNumbers_any _ [a0, a1, a2] _ _ _ _ (by simp) ?_).mono ?_; (focus (simp [CellsAt, go_sem, *]; done)); rintro e w1 ⟨rfl, rfl⟩)
  all_goals try rw [rounds_succ]
  all_goals try go_wp2_with (go_at_call 71; refine (i_areNumbers_any _ [a0, a1, a2] _ _ _ _ (by simp) ?_).mono ?_; (focus (simp [CellsAt, go_sem, *]; done)); rintro e w1 ⟨rfl, rfl⟩)
  all_goals try rw [rounds_succ]
  all_goals try go_wp2_with (go_at_call 71; refine (i_areNumbers_any _ [a0, a1, a2] _ _ _ _ (by simp) ?_).mono ?_; (focus (simp [CellsAt, go_sem, *]; done)); rintro e w1 ⟨rfl, rfl⟩)
  all_goals try rw [rounds_succ]
  all_goals try go_wp2_with (go_at_call 71; refine (i_areNumbers_any _ [a0, a1, a2] _ _ _ _ (by simp) ?_).mono ?_; (focus (simp [CellsAt, go_sem, *]; done)); rintro e w1 ⟨rfl, rfl⟩)
  all_goals (go_ret; refine ⟨?_, ?_⟩)
  all_goals first | ((with_reducible (show Ext _ _)); (repeat (first | with_reducible exact Ext.refl _ | with_reducible assumption | with_reducible refine Ext.alloc ?_ _ | with_reducible refine Ext.drewN ?_ _ | with_reducible refine Ext.drew ?_ | with_reducible refine ExtW.ext ?_ _ | (with_reducible refine Ext.trans ?_ (by assumption)) | (with_reducible refine Ext.setCell ?_ (by first | (simp; done) | (simp; omega)) _))); done) | (refine congrArg (fun v => Ending.returned (Value.bool v)) ?_; ((try simp only [IntWalk.i64_left]); first | rfl | (simp only [i_isPlace, *, Bool.false_eq_true, ↓reduceIte]; done) | (simp [i_isPlace, *]; done) | (simp_all [i_isPlace]; done) | (simp [i_isPlace, *]; omega)))

def i_arePlaces (p : Int) (l : List P3) : Bool := l.all (fun a => i_isPlace p a)
set_option maxHeartbeats 1000000 in
theorem i_arePlaces_any (p : Int) (xs : List P3) (b off cap : Nat) (w : World) (hlen : xs.length ≤ 100000000000) (hx : CellsAt3 w b off xs) :
    Calls Try.prog 66 #[.int .i64 p, .slice (some ⟨b, off, none⟩) xs.length cap] w fun e w' => e = .returned (.bool (i_arePlaces p xs)) ∧ Ext w w' := by
  have HX := Lib.hid hx; clear hx
  go_enter Try.func66, Try.ntmps66
  go_wp2
  go_loopw [9] (fun i wr => ∃ k : Nat, k ≤ xs.length ∧ i = .int .i64 k ∧ Hid ((xs.take k).all (fun a => i_isPlace p a) = true) ∧ Ext w wr) (fun i _ => xs.length - (intOf i).toNat)
  case atStart => exact ⟨0, Nat.zero_le _, rfl, by unfold Hid; simp, Ext.refl _⟩
  case round =>
    obtain ⟨k, hk, rfl, HA, hbr⟩ := hrel
    by_cases hlt : k < xs.length
    · have hk0 : (0 : Int) ≤ (k : Int) := by omega
      have hk1 : (k : Int) < (xs.length : Int) := by omega
      have hcl0 := (HX.out.ext hbr).get hlt
      obtain ⟨a0, a1, a2, hn⟩ : ∃ a0 a1 a2 : Int, nth3 xs k = (a0, a1, a2) := ⟨_, _, _, rfl⟩
      rw [hn] at hcl0
      obtain ⟨hcl0a, hcl0b, hcl0c⟩ := hcl0
      have HN := Lib.hid hn; clear hn
      cases hv : i_isPlace p (a0, a1, a2)
      all_goals
        have HV := Lib.hid hv; clear hv
        go_wp2_with (go_at_call 62; refine (i_isPlace_any _ _ _ _ _).mono ?_; rintro e w1 ⟨rfl, hb⟩; obtain ⟨hcl, hfz, hsz⟩ := hb.cells; have hs := hb.size; (try simp only [szA, szS, szD] at hs); (try have hz0 : w.heap.size < w1.heap.size := by omega); (try have hz1 : w.heap.size + 1 < w1.heap.size := by omega); (try have hz2 : w.heap.size + 2 < w1.heap.size := by omega); (try have hz3 : w.heap.size + 3 < w1.heap.size := by omega); (try have hz4 : w.heap.size + 4 < w1.heap.size := by omega); (try have hz5 : w.heap.size + 5 < w1.heap.size := by omega); rw [HV.out])
      · go_ret
        have hn := HN.out
        have hno : xs.all (fun a => i_isPlace p a) = false := all_false (0, 0, 0) hlt (by show (fun a => i_isPlace p a) (nth3 xs k) = false; rw [hn]; exact HV.out)
        refine ⟨congrArg (fun n => Ending.returned (Value.bool n)) ?_, (by (repeat (first | with_reducible exact Ext.refl _ | with_reducible assumption | with_reducible refine Ext.alloc ?_ _ | with_reducible refine Ext.drewN ?_ _ | with_reducible refine Ext.drew ?_ | with_reducible refine ExtW.ext ?_ _ | (with_reducible refine Ext.trans ?_ (by assumption)) | (with_reducible refine Ext.setCell ?_ (by first | (simp; done) | (simp; omega)) _))))⟩
        show false = _
        exact hno.symm
      · have hn := HN.out
        go_roundw
        case rel => exact ⟨k + 1, by omega, by go_num, by unfold Hid; rw [all_take _ (0, 0, 0) _ _ hlt, HA.out]; show (true && (fun a => i_isPlace p a) (nth3 xs k)) = true; rw [hn]; exact HV.out, by (repeat (first | with_reducible exact Ext.refl _ | with_reducible assumption | with_reducible refine Ext.alloc ?_ _ | with_reducible refine Ext.drewN ?_ _ | with_reducible refine Ext.drew ?_ | with_reducible refine ExtW.ext ?_ _ | (with_reducible refine Ext.trans ?_ (by assumption)) | (with_reducible refine Ext.setCell ?_ (by first | (simp; done) | (simp; omega)) _)))⟩
        case measure => simp [intOf]; omega
    · go_wp2
      go_ret
      have hyes : xs.all (fun a => i_isPlace p a) = true := by
        have := HA.out
        rw [List.take_of_length_le (by omega)] at this
        exact this
      refine ⟨congrArg (fun n => Ending.returned (Value.bool n)) ?_, (by (repeat (first | with_reducible exact Ext.refl _ | with_reducible assumption | with_reducible refine Ext.alloc ?_ _ | with_reducible refine Ext.drewN ?_ _ | with_reducible refine Ext.drew ?_ | with_reducible refine ExtW.ext ?_ _ | (with_reducible refine Ext.trans ?_ (by assumption)) | (with_reducible refine Ext.setCell ?_ (by first | (simp; done) | (simp; omega)) _))))⟩
      show true = _
      exact hyes.symm
set_option maxHeartbeats 400000 in
theorem i_arePlaces_nil (p : Int) (w : World) :
    Calls Try.prog 66 #[.int .i64 p, .slice none 0 0] w fun e w' => e = .returned (.bool (i_arePlaces p [])) ∧ Ext w w' := by
  go_enter Try.func66, Try.ntmps66
  go_wp2
  refine wp_loop_rounds 1 ?_
  rw [rounds_succ]; go_wp2
  go_ret
  exact ⟨congrArg (fun n => Ending.returned (Value.bool n)) (rfl), Ext.refl _⟩

def s_l09Is (p : Int) (a : P3) : Bool :=
  (if (!(s_l01In a.1 0 (wrap64 (p - 1)))) = true then false else (if (!(s_l01In a.2.1 0 (wrap64 (p - 1)))) = true then false else (if (a.1 == 0) = true then (if (!(s_l01In a.2.2 0 (wrap64 (p - 1)))) = true then false else (if (a.2.1 == 0) = true then (a.2.2 == 1) else (a.2.1 == 1))) else (if (!(s_l01In a.2.2 0 (wrap64 (p - 1)))) = true then false else (if (a.1 == 0) = true then (a.2.2 == 1) else (a.1 == 1))))))

set_option maxHeartbeats 400000 in
theorem s_l09Is_any (p : Int) (a0 : Int) (a1 : Int) (a2 : Int) (w : World) :
    Calls Try.prog 103 #[.int .i64 p, .agg #[.int .i64 a0, .int .i64 a1, .int .i64 a2]] w fun e w' => e = .returned (.bool (s_l09Is p (a0, a1, a2))) ∧ Ext w w' := by
  go_enter Try.func103, Try.ntmps103
  go_wp2_with (go_at_call 106; refine (s_l01In_any _ _ _ _).mono ?_; rintro e w1 ⟨rfl, rfl⟩)
  all_goals try refine wp_loop_rounds 4 ?_
  all_goals try rw [rounds_succ]
  all_goals try go_wp2_with (go_at_call 106; refine (s_l01In_any _ _ _ _).mono ?_; rintro e w1 ⟨rfl, rfl⟩)
  all_goals try rw [rounds_succ]
  all_goals try go_wp2_with (go_at_call 106; refine (s_l01In_any _ _ _ _).mono ?_; rintro e w1 ⟨rfl, rfl⟩)
  all_goals try rw [rounds_succ]
  all_goals try go_wp2_with (go_at_call 106; refine (s_l01In_any _ _ _ _).mono ?_; rintro e w1 ⟨rfl, rfl⟩)
  all_goals try rw [rounds_succ]
  all_goals try go_wp2_with (go_at_call 106; refine (s_l01In_any _ _ _ _).mono ?_; rintro e w1 ⟨rfl, rfl⟩)
  all_goals (go_ret; refine ⟨?_, ?_⟩)
  all_goals first | ((with_reducible (show Ext _ _)); (repeat (first | with_reducible exact Ext.refl _ | with_reducible assumption | with_reducible refine Ext.alloc ?_ _ | with_reducible refine Ext.drewN ?_ _ | with_reducible refine Ext.drew ?_ | with_reducible refine ExtW.ext ?_ _ | (with_reducible refine Ext.trans ?_ (by assumption)) | (with_reducible refine Ext.setCell ?_ (by first | (simp; done) | (simp; omega)) _))); done) | (refine congrArg (fun v => Ending.returned (Value.bool v)) ?_; ((try simp only [IntWalk.i64_left]); first | rfl | (simp only [s_l09Is, *, Bool.false_eq_true, ↓reduceIte]; done) | (simp [s_l09Is, *]; done) | (simp_all [s_l09Is]; done) | (simp [s_l09Is, *]; omega)))

def s_l09Code (p : Int) (l : List P3) : Int := if s_l01Field p = true then (if l.all (fun a => s_l09Is p a) = true then 0 else 2) else 1
theorem s_l09Code_ok {p : Int} {l : List P3} (h : s_l09Code p l = 0) : Pr p := by
  refine i_IsField_ok ?_
  cases hi : i_IsField p
  · simp [s_l09Code, s_l01Field, hi] at h
  · rfl
set_option maxHeartbeats 1000000 in
theorem s_l09Code_any (p : Int) (xs : List P3) (b off cap : Nat) (w : World) (hlen : xs.length ≤ 100000000000) (hx : CellsAt3 w b off xs) :
    Calls Try.prog 58 #[.int .i64 p, .slice (some ⟨b, off, none⟩) xs.length cap] w fun e w' => e = .returned (.int .i64 (s_l09Code p xs)) ∧ Ext w w' := by
  have HX := Lib.hid hx; clear hx
  cases hf : s_l01Field p
  · have HF := Lib.hid hf; clear hf
    go_enter Try.func58, Try.ntmps58
    go_wp2_with (go_at_call 102; refine (s_l01Field_any _ _).mono ?_; rintro e w1 ⟨rfl, rfl⟩; rw [HF.out])
    go_ret
    exact ⟨congrArg (fun n => Ending.returned (Value.int .i64 n)) (by show (1 : Int) = _; simp only [s_l09Code, HF.out, Bool.false_eq_true, if_false]), Ext.refl _⟩
  · have HF := Lib.hid hf; clear hf
    go_enter Try.func58, Try.ntmps58
    go_wp2_with (go_at_call 102; refine (s_l01Field_any _ _).mono ?_; rintro e w1 ⟨rfl, rfl⟩; rw [HF.out])
    go_loopw [5] (fun i wr => ∃ k : Nat, k ≤ xs.length ∧ i = .int .i64 k ∧ Hid ((xs.take k).all (fun a => s_l09Is p a) = true) ∧ Ext w wr) (fun i _ => xs.length - (intOf i).toNat)
    case atStart => exact ⟨0, Nat.zero_le _, rfl, by unfold Hid; simp, Ext.refl _⟩
    case round =>
      obtain ⟨k, hk, rfl, HA, hbr⟩ := hrel
      by_cases hlt : k < xs.length
      · have hk0 : (0 : Int) ≤ (k : Int) := by omega
        have hk1 : (k : Int) < (xs.length : Int) := by omega
        have hcl0 := (HX.out.ext hbr).get hlt
        obtain ⟨a0, a1, a2, hn⟩ : ∃ a0 a1 a2 : Int, nth3 xs k = (a0, a1, a2) := ⟨_, _, _, rfl⟩
        rw [hn] at hcl0
        obtain ⟨hcl0a, hcl0b, hcl0c⟩ := hcl0
        have HN := Lib.hid hn; clear hn
        cases hv : s_l09Is p (a0, a1, a2)
        all_goals
          have HV := Lib.hid hv; clear hv
          go_wp2_with (first | (go_at_call 103; refine (s_l09Is_any _ _ _ _ _).mono ?_; rintro e w1 ⟨rfl, hb⟩; obtain ⟨hcl, hfz, hsz⟩ := hb.cells; have hs := hb.size; (try simp only [szA, szS, szD] at hs); (try have hz0 : w.heap.size < w1.heap.size := by omega); (try have hz1 : w.heap.size + 1 < w1.heap.size := by omega); (try have hz2 : w.heap.size + 2 < w1.heap.size := by omega); (try have hz3 : w.heap.size + 3 < w1.heap.size := by omega); (try have hz4 : w.heap.size + 4 < w1.heap.size := by omega); (try have hz5 : w.heap.size + 5 < w1.heap.size := by omega); rw [HV.out]) | (go_at_call 102; refine (s_l01Field_any _ _).mono ?_; rintro e w1 ⟨rfl, rfl⟩; rw [HF.out]))
        · go_ret
          have hn := HN.out
          have hno : xs.all (fun a => s_l09Is p a) = false := all_false (0, 0, 0) hlt (by show (fun a => s_l09Is p a) (nth3 xs k) = false; rw [hn]; exact HV.out)
          refine ⟨congrArg (fun n => Ending.returned (Value.int .i64 n)) ?_, (by (repeat (first | with_reducible exact Ext.refl _ | with_reducible assumption | with_reducible refine Ext.alloc ?_ _ | with_reducible refine Ext.drewN ?_ _ | with_reducible refine Ext.drew ?_ | with_reducible refine ExtW.ext ?_ _ | (with_reducible refine Ext.trans ?_ (by assumption)) | (with_reducible refine Ext.setCell ?_ (by first | (simp; done) | (simp; omega)) _))))⟩
          show (2 : Int) = _
          simp only [s_l09Code, HF.out, if_true, hno, Bool.false_eq_true, if_false]
        · have hn := HN.out
          go_roundw
          case rel => exact ⟨k + 1, by omega, by go_num, by unfold Hid; rw [all_take _ (0, 0, 0) _ _ hlt, HA.out]; show (true && (fun a => s_l09Is p a) (nth3 xs k)) = true; rw [hn]; exact HV.out, by (repeat (first | with_reducible exact Ext.refl _ | with_reducible assumption | with_reducible refine Ext.alloc ?_ _ | with_reducible refine Ext.drewN ?_ _ | with_reducible refine Ext.drew ?_ | with_reducible refine ExtW.ext ?_ _ | (with_reducible refine Ext.trans ?_ (by assumption)) | (with_reducible refine Ext.setCell ?_ (by first | (simp; done) | (simp; omega)) _)))⟩
          case measure => simp [intOf]; omega
      · go_wp2
        go_ret
        have hyes : xs.all (fun a => s_l09Is p a) = true := by
          have := HA.out
          rw [List.take_of_length_le (by omega)] at this
          exact this
        refine ⟨congrArg (fun n => Ending.returned (Value.int .i64 n)) ?_, (by (repeat (first | with_reducible exact Ext.refl _ | with_reducible assumption | with_reducible refine Ext.alloc ?_ _ | with_reducible refine Ext.drewN ?_ _ | with_reducible refine Ext.drew ?_ | with_reducible refine ExtW.ext ?_ _ | (with_reducible refine Ext.trans ?_ (by assumption)) | (with_reducible refine Ext.setCell ?_ (by first | (simp; done) | (simp; omega)) _))))⟩
        show (0 : Int) = _
        simp only [s_l09Code, HF.out, if_true, hyes]
set_option maxHeartbeats 400000 in
theorem s_l09Code_nil (p : Int) (w : World) :
    Calls Try.prog 58 #[.int .i64 p, .slice none 0 0] w fun e w' => e = .returned (.int .i64 (s_l09Code p [])) ∧ Ext w w' := by
  cases hf : s_l01Field p
  · have HF := Lib.hid hf; clear hf
    go_enter Try.func58, Try.ntmps58
    go_wp2_with (go_at_call 102; refine (s_l01Field_any _ _).mono ?_; rintro e w1 ⟨rfl, rfl⟩; rw [HF.out])
    go_ret
    exact ⟨congrArg (fun n => Ending.returned (Value.int .i64 n)) (by show (1 : Int) = _; simp only [s_l09Code, HF.out, Bool.false_eq_true, if_false]), Ext.refl _⟩
  · have HF := Lib.hid hf; clear hf
    go_enter Try.func58, Try.ntmps58
    go_wp2_with (go_at_call 102; refine (s_l01Field_any _ _).mono ?_; rintro e w1 ⟨rfl, rfl⟩; rw [HF.out])
    refine wp_loop_rounds 1 ?_
    rw [rounds_succ]; go_wp2
    go_ret
    exact ⟨congrArg (fun n => Ending.returned (Value.int .i64 n)) (by show (0 : Int) = _; simp only [s_l09Code, HF.out, if_true, List.all_nil]), Ext.refl _⟩

def i_placeProduct (p : Int) (a : P3) (b : P3) : Int :=
  (i_rest p (wrap64 ((wrap64 ((wrap64 (a.1 * b.1)) + (wrap64 (a.2.1 * b.2.1)))) - (wrap64 (a.2.2 * b.2.2)))))

set_option maxHeartbeats 400000 in
theorem i_placeProduct_any (p : Int) (a0 : Int) (a1 : Int) (a2 : Int) (b0 : Int) (b1 : Int) (b2 : Int) (w : World) (hp : Pr p) :
    Calls Try.prog 67 #[.int .i64 p, .agg #[.int .i64 a0, .int .i64 a1, .int .i64 a2], .agg #[.int .i64 b0, .int .i64 b1, .int .i64 b2]] w fun e w' => e = .returned (.int .i64 (i_placeProduct p (a0, a1, a2) (b0, b1, b2))) ∧ Ext w w' := by
  have hp1 := hp.1; have hp2 := hp.2; have hp0 : p ≠ 0 := Pr.ne hp
  go_enter Try.func67, Try.ntmps67
  go_wp2_with (go_at_call 105; refine (i_rest_any _ _ _ ?_).mono ?_; (focus (assumption)); rintro e w1 ⟨rfl, rfl⟩)
  all_goals (go_ret; refine ⟨?_, ?_⟩)
  all_goals first | ((with_reducible (show Ext _ _)); (repeat (first | with_reducible exact Ext.refl _ | with_reducible assumption | with_reducible refine Ext.alloc ?_ _ | with_reducible refine Ext.drewN ?_ _ | with_reducible refine Ext.drew ?_ | with_reducible refine ExtW.ext ?_ _ | (with_reducible refine Ext.trans ?_ (by assumption)) | (with_reducible refine Ext.setCell ?_ (by first | (simp; done) | (simp; omega)) _))); done) | (refine congrArg (fun v => Ending.returned (Value.int .i64 v)) ?_; ((try simp only [IntWalk.i64_left]); first | rfl | (simp only [i_placeProduct, *, Bool.false_eq_true, ↓reduceIte]; done) | (simp [i_placeProduct, *]; done) | (simp_all [i_placeProduct]; done) | (simp [i_placeProduct, *]; omega)))

def s_l09Product (p : Int) (a : P3) (b : P3) : Int :=
  (s_l01Mod (wrap64 ((wrap64 ((wrap64 (a.1 * b.1)) + (wrap64 (a.2.1 * b.2.1)))) - (wrap64 (a.2.2 * b.2.2)))) p)

set_option maxHeartbeats 400000 in
theorem s_l09Product_any (p : Int) (a0 : Int) (a1 : Int) (a2 : Int) (b0 : Int) (b1 : Int) (b2 : Int) (w : World) (hp : Pr p) :
    Calls Try.prog 64 #[.int .i64 p, .agg #[.int .i64 a0, .int .i64 a1, .int .i64 a2], .agg #[.int .i64 b0, .int .i64 b1, .int .i64 b2]] w fun e w' => e = .returned (.int .i64 (s_l09Product p (a0, a1, a2) (b0, b1, b2))) ∧ Ext w w' := by
  have hp1 := hp.1; have hp2 := hp.2; have hp0 : p ≠ 0 := Pr.ne hp
  go_enter Try.func64, Try.ntmps64
  go_wp2_with (go_at_call 104; refine (s_l01Mod_any _ _ _ ?_).mono ?_; (focus (assumption)); rintro e w1 ⟨rfl, rfl⟩)
  all_goals (go_ret; refine ⟨?_, ?_⟩)
  all_goals first | ((with_reducible (show Ext _ _)); (repeat (first | with_reducible exact Ext.refl _ | with_reducible assumption | with_reducible refine Ext.alloc ?_ _ | with_reducible refine Ext.drewN ?_ _ | with_reducible refine Ext.drew ?_ | with_reducible refine ExtW.ext ?_ _ | (with_reducible refine Ext.trans ?_ (by assumption)) | (with_reducible refine Ext.setCell ?_ (by first | (simp; done) | (simp; omega)) _))); done) | (refine congrArg (fun v => Ending.returned (Value.int .i64 v)) ?_; ((try simp only [IntWalk.i64_left]); first | rfl | (simp only [s_l09Product, *, Bool.false_eq_true, ↓reduceIte]; done) | (simp [s_l09Product, *]; done) | (simp_all [s_l09Product]; done) | (simp [s_l09Product, *]; omega)))

def i_isNullPlace (p : Int) (a : P3) : Bool :=
  ((i_placeProduct p a a) == 0)

set_option maxHeartbeats 400000 in
theorem i_isNullPlace_any (p : Int) (a0 : Int) (a1 : Int) (a2 : Int) (w : World) (hp : Pr p) :
    Calls Try.prog 63 #[.int .i64 p, .agg #[.int .i64 a0, .int .i64 a1, .int .i64 a2]] w fun e w' => e = .returned (.bool (i_isNullPlace p (a0, a1, a2))) ∧ Ext w w' := by
  have hp1 := hp.1; have hp2 := hp.2; have hp0 : p ≠ 0 := Pr.ne hp
  go_enter Try.func63, Try.ntmps63
  go_wp2_with (go_at_call 67; refine (i_placeProduct_any _ _ _ _ _ _ _ _ ?_).mono ?_; (focus (assumption)); rintro e w1 ⟨rfl, hb⟩; obtain ⟨hcl, hfz, hsz⟩ := hb.cells; have hs := hb.size; (try simp only [szA, szS, szD] at hs); (try have hz0 : w.heap.size < w1.heap.size := by omega); (try have hz1 : w.heap.size + 1 < w1.heap.size := by omega); (try have hz2 : w.heap.size + 2 < w1.heap.size := by omega); (try have hz3 : w.heap.size + 3 < w1.heap.size := by omega); (try have hz4 : w.heap.size + 4 < w1.heap.size := by omega); (try have hz5 : w.heap.size + 5 < w1.heap.size := by omega); (try have hq0_0 : w1.cell? ⟨w.heap.size, 0, none⟩ = some (.int .i64 a0) := hb.cell (by simp [go_sem, *])); (try have hq0_1 : w1.cell? ⟨w.heap.size, 1, none⟩ = some (.int .i64 a1) := hb.cell (by simp [go_sem, *])); (try have hq0_2 : w1.cell? ⟨w.heap.size, 2, none⟩ = some (.int .i64 a2) := hb.cell (by simp [go_sem, *])))
  all_goals (go_ret; refine ⟨?_, ?_⟩)
  all_goals first | ((with_reducible (show Ext _ _)); (repeat (first | with_reducible exact Ext.refl _ | with_reducible assumption | with_reducible refine Ext.alloc ?_ _ | with_reducible refine Ext.drewN ?_ _ | with_reducible refine Ext.drew ?_ | with_reducible refine ExtW.ext ?_ _ | (with_reducible refine Ext.trans ?_ (by assumption)) | (with_reducible refine Ext.setCell ?_ (by first | (simp; done) | (simp; omega)) _))); done) | (refine congrArg (fun v => Ending.returned (Value.bool v)) ?_; ((try simp only [IntWalk.i64_left]); first | rfl | (simp only [i_isNullPlace, *, Bool.false_eq_true, ↓reduceIte]; done) | (simp [i_isNullPlace, *]; done) | (simp_all [i_isNullPlace]; done) | (simp [i_isNullPlace, *]; omega)))

def s_l09Null (p : Int) (a : P3) : Bool :=
  ((s_l09Product p a a) == 0)

set_option maxHeartbeats 400000 in
theorem s_l09Null_any (p : Int) (a0 : Int) (a1 : Int) (a2 : Int) (w : World) (hp : Pr p) :
    Calls Try.prog 59 #[.int .i64 p, .agg #[.int .i64 a0, .int .i64 a1, .int .i64 a2]] w fun e w' => e = .returned (.bool (s_l09Null p (a0, a1, a2))) ∧ Ext w w' := by
  have hp1 := hp.1; have hp2 := hp.2; have hp0 : p ≠ 0 := Pr.ne hp
  go_enter Try.func59, Try.ntmps59
  go_wp2_with (go_at_call 64; refine (s_l09Product_any _ _ _ _ _ _ _ _ ?_).mono ?_; (focus (assumption)); rintro e w1 ⟨rfl, hb⟩; obtain ⟨hcl, hfz, hsz⟩ := hb.cells; have hs := hb.size; (try simp only [szA, szS, szD] at hs); (try have hz0 : w.heap.size < w1.heap.size := by omega); (try have hz1 : w.heap.size + 1 < w1.heap.size := by omega); (try have hz2 : w.heap.size + 2 < w1.heap.size := by omega); (try have hz3 : w.heap.size + 3 < w1.heap.size := by omega); (try have hz4 : w.heap.size + 4 < w1.heap.size := by omega); (try have hz5 : w.heap.size + 5 < w1.heap.size := by omega); (try have hq0_0 : w1.cell? ⟨w.heap.size, 0, none⟩ = some (.int .i64 a0) := hb.cell (by simp [go_sem, *])); (try have hq0_1 : w1.cell? ⟨w.heap.size, 1, none⟩ = some (.int .i64 a1) := hb.cell (by simp [go_sem, *])); (try have hq0_2 : w1.cell? ⟨w.heap.size, 2, none⟩ = some (.int .i64 a2) := hb.cell (by simp [go_sem, *])))
  all_goals (go_ret; refine ⟨?_, ?_⟩)
  all_goals first | ((with_reducible (show Ext _ _)); (repeat (first | with_reducible exact Ext.refl _ | with_reducible assumption | with_reducible refine Ext.alloc ?_ _ | with_reducible refine Ext.drewN ?_ _ | with_reducible refine Ext.drew ?_ | with_reducible refine ExtW.ext ?_ _ | (with_reducible refine Ext.trans ?_ (by assumption)) | (with_reducible refine Ext.setCell ?_ (by first | (simp; done) | (simp; omega)) _))); done) | (refine congrArg (fun v => Ending.returned (Value.bool v)) ?_; ((try simp only [IntWalk.i64_left]); first | rfl | (simp only [s_l09Null, *, Bool.false_eq_true, ↓reduceIte]; done) | (simp [s_l09Null, *]; done) | (simp_all [s_l09Null]; done) | (simp [s_l09Null, *]; omega)))

def i_makePlace (p : Int) (list : P3) : P3 :=
  (if (list.1 != 0) = true then ((i_divide p list.1 list.1), (i_divide p list.2.1 list.1), (i_divide p list.2.2 list.1)) else (if (list.2.1 != 0) = true then ((i_divide p list.1 list.2.1), (i_divide p list.2.1 list.2.1), (i_divide p list.2.2 list.2.1)) else (if (list.2.2 != 0) = true then ((i_divide p list.1 list.2.2), (i_divide p list.2.1 list.2.2), (i_divide p list.2.2 list.2.2)) else (0, 0, 0))))

set_option maxRecDepth 100000 in
set_option maxHeartbeats 4000000 in
theorem i_makePlace_any (p : Int) (list0 : Int) (list1 : Int) (list2 : Int) (w : World) (hp : Pr p) :
    Calls Try.prog 72 #[.int .i64 p, .agg #[.int .i64 list0, .int .i64 list1, .int .i64 list2]] w fun e w' => e = .returned (.agg #[.int .i64 ((i_makePlace p (list0, list1, list2)).1), .int .i64 ((i_makePlace p (list0, list1, list2)).2.1), .int .i64 ((i_makePlace p (list0, list1, list2)).2.2)]) ∧ Ext w w' := by
  have ix0 : ∀ w, (Instr.index 22 (.agg #[.int .i64 list0, .int .i64 list1, .int .i64 list2]) (.int .i64 0)).run Try.prog w = .ok (.int .i64 list0) w := fun _ => by kernel_rfl
  have ix1 : ∀ w, (Instr.index 22 (.agg #[.int .i64 list0, .int .i64 list1, .int .i64 list2]) (.int .i64 1)).run Try.prog w = .ok (.int .i64 list1) w := fun _ => by kernel_rfl
  have ix2 : ∀ w, (Instr.index 22 (.agg #[.int .i64 list0, .int .i64 list1, .int .i64 list2]) (.int .i64 2)).run Try.prog w = .ok (.int .i64 list2) w := fun _ => by kernel_rfl
  have hp1 := hp.1; have hp2 := hp.2; have hp0 : p ≠ 0 := Pr.ne hp
  go_enter Try.func72, Try.ntmps72
  go_wp2_with (go_at_call 109; refine (i_divide_any _ _ _ _ ?_).mono ?_; (focus (assumption)); rintro e w1 ⟨rfl, rfl⟩)
  all_goals try ((first | (refine wp_region_still_tail 16 (by kernel_rfl) (by kernel_rfl) ?_; simp only [List.take_succ_cons, List.take_zero, List.drop_succ_cons, List.drop_zero]; change wpStill _ _ (World.drew _) _ _ _; (repeat (first | still_call ((i_divide_any _ _ _ _ (by assumption)).mono fun _ _ h => ⟨h.1, h.2.symm⟩) | still_step)); refine wpStill_nil ?_; change wpList _ _ _ _ _ (World.drew _))); all_goals try go_wp2_with (go_at_call 109; refine (i_divide_any _ _ _ _ ?_).mono ?_; (focus (assumption)); rintro e w1 ⟨rfl, rfl⟩))
  all_goals try refine wp_loop_rounds 4 ?_
  all_goals try rw [rounds_succ]
  all_goals try go_wp2_with (go_at_call 109; refine (i_divide_any _ _ _ _ ?_).mono ?_; (focus (assumption)); rintro e w1 ⟨rfl, rfl⟩)
  all_goals try ((first | (refine wp_region_still_tail 16 (by kernel_rfl) (by kernel_rfl) ?_; simp only [List.take_succ_cons, List.take_zero, List.drop_succ_cons, List.drop_zero]; change wpStill _ _ (World.drew _) _ _ _; (repeat (first | still_call ((i_divide_any _ _ _ _ (by assumption)).mono fun _ _ h => ⟨h.1, h.2.symm⟩) | still_step)); refine wpStill_nil ?_; change wpList _ _ _ _ _ (World.drew _))); all_goals try go_wp2_with (go_at_call 109; refine (i_divide_any _ _ _ _ ?_).mono ?_; (focus (assumption)); rintro e w1 ⟨rfl, rfl⟩))
  all_goals try rw [rounds_succ]
  all_goals try go_wp2_with (go_at_call 109; refine (i_divide_any _ _ _ _ ?_).mono ?_; (focus (assumption)); rintro e w1 ⟨rfl, rfl⟩)
  all_goals try ((first | (refine wp_region_still_tail 16 (by kernel_rfl) (by kernel_rfl) ?_; simp only [List.take_succ_cons, List.take_zero, List.drop_succ_cons, List.drop_zero]; change wpStill _ _ (World.drew _) _ _ _; (repeat (first | still_call ((i_divide_any _ _ _ _ (by assumption)).mono fun _ _ h => ⟨h.1, h.2.symm⟩) | still_step)); refine wpStill_nil ?_; change wpList _ _ _ _ _ (World.drew _))); all_goals try go_wp2_with (go_at_call 109; refine (i_divide_any _ _ _ _ ?_).mono ?_; (focus (assumption)); rintro e w1 ⟨rfl, rfl⟩))
  all_goals try rw [rounds_succ]
  all_goals try go_wp2_with (go_at_call 109; refine (i_divide_any _ _ _ _ ?_).mono ?_; (focus (assumption)); rintro e w1 ⟨rfl, rfl⟩)
  all_goals try ((first | (refine wp_region_still_tail 16 (by kernel_rfl) (by kernel_rfl) ?_; simp only [List.take_succ_cons, List.take_zero, List.drop_succ_cons, List.drop_zero]; change wpStill _ _ (World.drew _) _ _ _; (repeat (first | still_call ((i_divide_any _ _ _ _ (by assumption)).mono fun _ _ h => ⟨h.1, h.2.symm⟩) | still_step)); refine wpStill_nil ?_; change wpList _ _ _ _ _ (World.drew _))); all_goals try go_wp2_with (go_at_call 109; refine (i_divide_any _ _ _ _ ?_).mono ?_; (focus (assumption)); rintro e w1 ⟨rfl, rfl⟩))
  all_goals try rw [rounds_succ]
  all_goals try go_wp2_with (go_at_call 109; refine (i_divide_any _ _ _ _ ?_).mono ?_; (focus (assumption)); rintro e w1 ⟨rfl, rfl⟩)
  all_goals try ((first | (refine wp_region_still_tail 16 (by kernel_rfl) (by kernel_rfl) ?_; simp only [List.take_succ_cons, List.take_zero, List.drop_succ_cons, List.drop_zero]; change wpStill _ _ (World.drew _) _ _ _; (repeat (first | still_call ((i_divide_any _ _ _ _ (by assumption)).mono fun _ _ h => ⟨h.1, h.2.symm⟩) | still_step)); refine wpStill_nil ?_; change wpList _ _ _ _ _ (World.drew _))); all_goals try go_wp2_with (go_at_call 109; refine (i_divide_any _ _ _ _ ?_).mono ?_; (focus (assumption)); rintro e w1 ⟨rfl, rfl⟩))
  all_goals (refine bodyPost_ret (v := .agg #[.int .i64 ((i_makePlace p (list0, list1, list2)).1), .int .i64 ((i_makePlace p (list0, list1, list2)).2.1), .int .i64 ((i_makePlace p (list0, list1, list2)).2.2)]) ?_ rfl ⟨rfl, ?_⟩)
  all_goals first | ((with_reducible (show Ext _ _)); (repeat (first | with_reducible exact Ext.refl _ | with_reducible assumption | with_reducible refine Ext.alloc ?_ _ | with_reducible refine Ext.drewN ?_ _ | with_reducible refine Ext.drew ?_ | with_reducible refine ExtW.ext ?_ _ | (with_reducible refine Ext.trans ?_ (by assumption)) | (with_reducible refine Ext.setCell ?_ (by first | (simp; done) | (simp; omega)) _))); done) | (simp [results, Try.results72, go_sem, IntWalk.i64_left, i_makePlace, *]; done) | (simp [results, Try.results72, go_sem, IntWalk.i64_left, i_makePlace, *]; rfl) | (simp [results, Try.results72, go_sem, IntWalk.i64_left, i_makePlace, *] at *; done)

def s_l09Made (p : Int) (x : Int) (y : Int) (z : Int) : P3 :=
  (if ((s_l01Mod x p) == 0) = true then (if ((s_l01Mod y p) == 0) = true then ((wrap64 ((s_l01Mod x p) * (s_l01Inverse (s_l01Mod z p) p))).tmod p, (wrap64 ((s_l01Mod y p) * (s_l01Inverse (s_l01Mod z p) p))).tmod p, (wrap64 ((s_l01Mod z p) * (s_l01Inverse (s_l01Mod z p) p))).tmod p) else ((wrap64 ((s_l01Mod x p) * (s_l01Inverse (s_l01Mod y p) p))).tmod p, (wrap64 ((s_l01Mod y p) * (s_l01Inverse (s_l01Mod y p) p))).tmod p, (wrap64 ((s_l01Mod z p) * (s_l01Inverse (s_l01Mod y p) p))).tmod p)) else (if ((s_l01Mod x p) == 0) = true then ((wrap64 ((s_l01Mod x p) * (s_l01Inverse (s_l01Mod z p) p))).tmod p, (wrap64 ((s_l01Mod y p) * (s_l01Inverse (s_l01Mod z p) p))).tmod p, (wrap64 ((s_l01Mod z p) * (s_l01Inverse (s_l01Mod z p) p))).tmod p) else ((wrap64 ((s_l01Mod x p) * (s_l01Inverse (s_l01Mod x p) p))).tmod p, (wrap64 ((s_l01Mod y p) * (s_l01Inverse (s_l01Mod x p) p))).tmod p, (wrap64 ((s_l01Mod z p) * (s_l01Inverse (s_l01Mod x p) p))).tmod p)))

set_option maxRecDepth 100000 in
set_option maxHeartbeats 4000000 in
theorem s_l09Made_any (p : Int) (x : Int) (y : Int) (z : Int) (w : World) (hp : Pr p) :
    Calls Try.prog 69 #[.int .i64 p, .int .i64 x, .int .i64 y, .int .i64 z] w fun e w' => e = .returned (.agg #[.int .i64 ((s_l09Made p x y z).1), .int .i64 ((s_l09Made p x y z).2.1), .int .i64 ((s_l09Made p x y z).2.2)]) ∧ Ext w w' := by
  have hp1 := hp.1; have hp2 := hp.2; have hp0 : p ≠ 0 := Pr.ne hp
  go_enter Try.func69, Try.ntmps69
  go_wp2_with (first | (go_at_call 104; refine (s_l01Mod_any _ _ _ ?_).mono ?_; (focus (assumption)); rintro e w1 ⟨rfl, rfl⟩) | (go_at_call 107; refine (s_l01Inverse_any _ _ _ ?_).mono ?_; (focus (assumption)); rintro e w1 ⟨rfl, rfl⟩))
  all_goals try ((first | (refine wp_region_still_tail 19 (by kernel_rfl) (by kernel_rfl) ?_; simp only [List.take_succ_cons, List.take_zero, List.drop_succ_cons, List.drop_zero]; change wpStill _ _ (World.drew _) _ _ _; (repeat (first | still_call ((s_l01Mod_any _ _ _ (by assumption)).mono fun _ _ h => ⟨h.1, h.2.symm⟩) | still_call ((s_l01Inverse_any _ _ _ (by assumption)).mono fun _ _ h => ⟨h.1, h.2.symm⟩) | still_step)); refine wpStill_nil ?_; change wpList _ _ _ _ _ (World.drew _))); all_goals try go_wp2_with (first | (go_at_call 104; refine (s_l01Mod_any _ _ _ ?_).mono ?_; (focus (assumption)); rintro e w1 ⟨rfl, rfl⟩) | (go_at_call 107; refine (s_l01Inverse_any _ _ _ ?_).mono ?_; (focus (assumption)); rintro e w1 ⟨rfl, rfl⟩)))
  all_goals (refine bodyPost_ret (v := .agg #[.int .i64 ((s_l09Made p x y z).1), .int .i64 ((s_l09Made p x y z).2.1), .int .i64 ((s_l09Made p x y z).2.2)]) ?_ rfl ⟨rfl, ?_⟩)
  all_goals first | ((with_reducible (show Ext _ _)); (repeat (first | with_reducible exact Ext.refl _ | with_reducible assumption | with_reducible refine Ext.alloc ?_ _ | with_reducible refine Ext.drewN ?_ _ | with_reducible refine Ext.drew ?_ | with_reducible refine ExtW.ext ?_ _ | (with_reducible refine Ext.trans ?_ (by assumption)) | (with_reducible refine Ext.setCell ?_ (by first | (simp; done) | (simp; omega)) _))); done) | (simp [results, Try.results69, go_sem, IntWalk.i64_left, s_l09Made, *]; done) | (simp [results, Try.results69, go_sem, IntWalk.i64_left, s_l09Made, *]; rfl) | (simp [results, Try.results69, go_sem, IntWalk.i64_left, s_l09Made, *] at *; done)

def i_join (p : Int) (a : P3) (b : P3) : P3 :=
  (i_makePlace p ((i_rest p (wrap64 ((wrap64 (a.2.1 * b.2.2)) - (wrap64 (a.2.2 * b.2.1))))), (i_rest p (wrap64 ((wrap64 (a.2.2 * b.1)) - (wrap64 (a.1 * b.2.2))))), (i_rest p (wrap64 ((wrap64 (a.2.1 * b.1)) - (wrap64 (a.1 * b.2.1)))))))

set_option maxRecDepth 100000 in
set_option maxHeartbeats 4000000 in
theorem i_join_any (p : Int) (a0 : Int) (a1 : Int) (a2 : Int) (b0 : Int) (b1 : Int) (b2 : Int) (w : World) (hp : Pr p) :
    Calls Try.prog 87 #[.int .i64 p, .agg #[.int .i64 a0, .int .i64 a1, .int .i64 a2], .agg #[.int .i64 b0, .int .i64 b1, .int .i64 b2]] w fun e w' => e = .returned (.agg #[.int .i64 ((i_join p (a0, a1, a2) (b0, b1, b2)).1), .int .i64 ((i_join p (a0, a1, a2) (b0, b1, b2)).2.1), .int .i64 ((i_join p (a0, a1, a2) (b0, b1, b2)).2.2)]) ∧ Ext w w' := by
  have hp1 := hp.1; have hp2 := hp.2; have hp0 : p ≠ 0 := Pr.ne hp
  go_enter Try.func87, Try.ntmps87
  go_wp2_with (first | (go_at_call 105; refine (i_rest_any _ _ _ ?_).mono ?_; (focus (assumption)); rintro e w1 ⟨rfl, rfl⟩) | (go_at_call 72; refine (i_makePlace_any _ _ _ _ _ ?_).mono ?_; (focus (assumption)); rintro e w1 ⟨rfl, hb⟩; obtain ⟨hcl, hfz, hsz⟩ := hb.cells; have hs := hb.size; (try simp only [szA, szS, szD] at hs); (try have hz0 : w.heap.size < w1.heap.size := by omega); (try have hz1 : w.heap.size + 1 < w1.heap.size := by omega); (try have hz2 : w.heap.size + 2 < w1.heap.size := by omega); (try have hz3 : w.heap.size + 3 < w1.heap.size := by omega); (try have hz4 : w.heap.size + 4 < w1.heap.size := by omega); (try have hz5 : w.heap.size + 5 < w1.heap.size := by omega); (try have hq0_0 : w1.cell? ⟨w.heap.size, 0, none⟩ = some (.int .i64 a0) := hb.cell (by simp [go_sem, *])); (try have hq0_1 : w1.cell? ⟨w.heap.size, 1, none⟩ = some (.int .i64 a1) := hb.cell (by simp [go_sem, *])); (try have hq0_2 : w1.cell? ⟨w.heap.size, 2, none⟩ = some (.int .i64 a2) := hb.cell (by simp [go_sem, *])); (try have hq1_0 : w1.cell? ⟨w.heap.size + 1, 0, none⟩ = some (.int .i64 b0) := hb.cell (by simp [go_sem, *])); (try have hq1_1 : w1.cell? ⟨w.heap.size + 1, 1, none⟩ = some (.int .i64 b1) := hb.cell (by simp [go_sem, *])); (try have hq1_2 : w1.cell? ⟨w.heap.size + 1, 2, none⟩ = some (.int .i64 b2) := hb.cell (by simp [go_sem, *])); (try have hq2_0 : w1.cell? ⟨w.heap.size + 2, 0, none⟩ = some (.int .i64 0) := hb.cell (by simp [go_sem, *])); (try have hq2_1 : w1.cell? ⟨w.heap.size + 2, 1, none⟩ = some (.int .i64 0) := hb.cell (by simp [go_sem, *])); (try have hq2_2 : w1.cell? ⟨w.heap.size + 2, 2, none⟩ = some (.int .i64 0) := hb.cell (by simp [go_sem, *]))))
  all_goals try ((first | (refine wp_region_still_tail 41 (by kernel_rfl) (by kernel_rfl) ?_; simp only [List.take_succ_cons, List.take_zero, List.drop_succ_cons, List.drop_zero]; change wpStill _ _ (World.drew _) _ _ _; (repeat (first | still_call ((i_rest_any _ _ _ (by assumption)).mono fun _ _ h => ⟨h.1, h.2.symm⟩) | still_step)); refine wpStill_nil ?_; change wpList _ _ _ _ _ (World.drew _))); all_goals try go_wp2_with (first | (go_at_call 105; refine (i_rest_any _ _ _ ?_).mono ?_; (focus (assumption)); rintro e w1 ⟨rfl, rfl⟩) | (go_at_call 72; refine (i_makePlace_any _ _ _ _ _ ?_).mono ?_; (focus (assumption)); rintro e w1 ⟨rfl, hb⟩; obtain ⟨hcl, hfz, hsz⟩ := hb.cells; have hs := hb.size; (try simp only [szA, szS, szD] at hs); (try have hz0 : w.heap.size < w1.heap.size := by omega); (try have hz1 : w.heap.size + 1 < w1.heap.size := by omega); (try have hz2 : w.heap.size + 2 < w1.heap.size := by omega); (try have hz3 : w.heap.size + 3 < w1.heap.size := by omega); (try have hz4 : w.heap.size + 4 < w1.heap.size := by omega); (try have hz5 : w.heap.size + 5 < w1.heap.size := by omega); (try have hq0_0 : w1.cell? ⟨w.heap.size, 0, none⟩ = some (.int .i64 a0) := hb.cell (by simp [go_sem, *])); (try have hq0_1 : w1.cell? ⟨w.heap.size, 1, none⟩ = some (.int .i64 a1) := hb.cell (by simp [go_sem, *])); (try have hq0_2 : w1.cell? ⟨w.heap.size, 2, none⟩ = some (.int .i64 a2) := hb.cell (by simp [go_sem, *])); (try have hq1_0 : w1.cell? ⟨w.heap.size + 1, 0, none⟩ = some (.int .i64 b0) := hb.cell (by simp [go_sem, *])); (try have hq1_1 : w1.cell? ⟨w.heap.size + 1, 1, none⟩ = some (.int .i64 b1) := hb.cell (by simp [go_sem, *])); (try have hq1_2 : w1.cell? ⟨w.heap.size + 1, 2, none⟩ = some (.int .i64 b2) := hb.cell (by simp [go_sem, *])); (try have hq2_0 : w1.cell? ⟨w.heap.size + 2, 0, none⟩ = some (.int .i64 0) := hb.cell (by simp [go_sem, *])); (try have hq2_1 : w1.cell? ⟨w.heap.size + 2, 1, none⟩ = some (.int .i64 0) := hb.cell (by simp [go_sem, *])); (try have hq2_2 : w1.cell? ⟨w.heap.size + 2, 2, none⟩ = some (.int .i64 0) := hb.cell (by simp [go_sem, *])))))
  all_goals (refine bodyPost_ret (v := .agg #[.int .i64 ((i_join p (a0, a1, a2) (b0, b1, b2)).1), .int .i64 ((i_join p (a0, a1, a2) (b0, b1, b2)).2.1), .int .i64 ((i_join p (a0, a1, a2) (b0, b1, b2)).2.2)]) ?_ rfl ⟨rfl, ?_⟩)
  all_goals first | ((with_reducible (show Ext _ _)); (repeat (first | with_reducible exact Ext.refl _ | with_reducible assumption | with_reducible refine Ext.alloc ?_ _ | with_reducible refine Ext.drewN ?_ _ | with_reducible refine Ext.drew ?_ | with_reducible refine ExtW.ext ?_ _ | (with_reducible refine Ext.trans ?_ (by assumption)) | (with_reducible refine Ext.setCell ?_ (by first | (simp; done) | (simp; omega)) _))); done) | (simp [results, Try.results87, go_sem, IntWalk.i64_left, i_join, *]; done) | (simp [results, Try.results87, go_sem, IntWalk.i64_left, i_join, *]; rfl) | (simp [results, Try.results87, go_sem, IntWalk.i64_left, i_join, *] at *; done)

def s_l09Join (p : Int) (a : P3) (b : P3) : P3 :=
  (s_l09Made p (wrap64 ((wrap64 (a.2.1 * b.2.2)) - (wrap64 (a.2.2 * b.2.1)))) (wrap64 ((wrap64 (a.2.2 * b.1)) - (wrap64 (a.1 * b.2.2)))) (wrap64 ((wrap64 (a.2.1 * b.1)) - (wrap64 (a.1 * b.2.1)))))

set_option maxHeartbeats 400000 in
theorem s_l09Join_any (p : Int) (a0 : Int) (a1 : Int) (a2 : Int) (b0 : Int) (b1 : Int) (b2 : Int) (w : World) (hp : Pr p) :
    Calls Try.prog 73 #[.int .i64 p, .agg #[.int .i64 a0, .int .i64 a1, .int .i64 a2], .agg #[.int .i64 b0, .int .i64 b1, .int .i64 b2]] w fun e w' => e = .returned (.agg #[.int .i64 ((s_l09Join p (a0, a1, a2) (b0, b1, b2)).1), .int .i64 ((s_l09Join p (a0, a1, a2) (b0, b1, b2)).2.1), .int .i64 ((s_l09Join p (a0, a1, a2) (b0, b1, b2)).2.2)]) ∧ Ext w w' := by
  have hp1 := hp.1; have hp2 := hp.2; have hp0 : p ≠ 0 := Pr.ne hp
  go_enter Try.func73, Try.ntmps73
  go_wp2_with (go_at_call 69; refine (s_l09Made_any _ _ _ _ _ ?_).mono ?_; (focus (assumption)); rintro e w1 ⟨rfl, hb⟩; obtain ⟨hcl, hfz, hsz⟩ := hb.cells; have hs := hb.size; (try simp only [szA, szS, szD] at hs); (try have hz0 : w.heap.size < w1.heap.size := by omega); (try have hz1 : w.heap.size + 1 < w1.heap.size := by omega); (try have hz2 : w.heap.size + 2 < w1.heap.size := by omega); (try have hz3 : w.heap.size + 3 < w1.heap.size := by omega); (try have hz4 : w.heap.size + 4 < w1.heap.size := by omega); (try have hz5 : w.heap.size + 5 < w1.heap.size := by omega); (try have hq0_0 : w1.cell? ⟨w.heap.size, 0, none⟩ = some (.int .i64 a0) := hb.cell (by simp [go_sem, *])); (try have hq0_1 : w1.cell? ⟨w.heap.size, 1, none⟩ = some (.int .i64 a1) := hb.cell (by simp [go_sem, *])); (try have hq0_2 : w1.cell? ⟨w.heap.size, 2, none⟩ = some (.int .i64 a2) := hb.cell (by simp [go_sem, *])); (try have hq1_0 : w1.cell? ⟨w.heap.size + 1, 0, none⟩ = some (.int .i64 b0) := hb.cell (by simp [go_sem, *])); (try have hq1_1 : w1.cell? ⟨w.heap.size + 1, 1, none⟩ = some (.int .i64 b1) := hb.cell (by simp [go_sem, *])); (try have hq1_2 : w1.cell? ⟨w.heap.size + 1, 2, none⟩ = some (.int .i64 b2) := hb.cell (by simp [go_sem, *])); (try have hq2_0 : w1.cell? ⟨w.heap.size + 2, 0, none⟩ = some (.int .i64 0) := hb.cell (by simp [go_sem, *])); (try have hq2_1 : w1.cell? ⟨w.heap.size + 2, 1, none⟩ = some (.int .i64 0) := hb.cell (by simp [go_sem, *])); (try have hq2_2 : w1.cell? ⟨w.heap.size + 2, 2, none⟩ = some (.int .i64 0) := hb.cell (by simp [go_sem, *])))
  all_goals (refine bodyPost_ret (v := .agg #[.int .i64 ((s_l09Join p (a0, a1, a2) (b0, b1, b2)).1), .int .i64 ((s_l09Join p (a0, a1, a2) (b0, b1, b2)).2.1), .int .i64 ((s_l09Join p (a0, a1, a2) (b0, b1, b2)).2.2)]) ?_ rfl ⟨rfl, ?_⟩)
  all_goals first | ((with_reducible (show Ext _ _)); (repeat (first | with_reducible exact Ext.refl _ | with_reducible assumption | with_reducible refine Ext.alloc ?_ _ | with_reducible refine Ext.drewN ?_ _ | with_reducible refine Ext.drew ?_ | with_reducible refine ExtW.ext ?_ _ | (with_reducible refine Ext.trans ?_ (by assumption)) | (with_reducible refine Ext.setCell ?_ (by first | (simp; done) | (simp; omega)) _))); done) | (simp [results, Try.results73, go_sem, IntWalk.i64_left, s_l09Join, *]; done) | (simp [results, Try.results73, go_sem, IntWalk.i64_left, s_l09Join, *]; rfl) | (simp [results, Try.results73, go_sem, IntWalk.i64_left, s_l09Join, *] at *; done)

def i_threeBy (p : Int) (a : P3) (b : P3) (c : P3) : Int :=
  (i_rest p (wrap64 ((wrap64 ((wrap64 (a.1 * (i_rest p (wrap64 ((wrap64 (b.2.1 * c.2.2)) - (wrap64 (b.2.2 * c.2.1))))))) + (wrap64 (a.2.1 * (i_rest p (wrap64 ((wrap64 (b.2.2 * c.1)) - (wrap64 (b.1 * c.2.2))))))))) + (wrap64 (a.2.2 * (i_rest p (wrap64 ((wrap64 (b.1 * c.2.1)) - (wrap64 (b.2.1 * c.1))))))))))

set_option maxHeartbeats 400000 in
theorem i_threeBy_any (p : Int) (a0 : Int) (a1 : Int) (a2 : Int) (b0 : Int) (b1 : Int) (b2 : Int) (c0 : Int) (c1 : Int) (c2 : Int) (w : World) (hp : Pr p) :
    Calls Try.prog 75 #[.int .i64 p, .agg #[.int .i64 a0, .int .i64 a1, .int .i64 a2], .agg #[.int .i64 b0, .int .i64 b1, .int .i64 b2], .agg #[.int .i64 c0, .int .i64 c1, .int .i64 c2]] w fun e w' => e = .returned (.int .i64 (i_threeBy p (a0, a1, a2) (b0, b1, b2) (c0, c1, c2))) ∧ Ext w w' := by
  have hp1 := hp.1; have hp2 := hp.2; have hp0 : p ≠ 0 := Pr.ne hp
  go_enter Try.func75, Try.ntmps75
  go_wp2_with (go_at_call 105; refine (i_rest_any _ _ _ ?_).mono ?_; (focus (assumption)); rintro e w1 ⟨rfl, rfl⟩)
  all_goals (go_ret; refine ⟨?_, ?_⟩)
  all_goals first | ((with_reducible (show Ext _ _)); (repeat (first | with_reducible exact Ext.refl _ | with_reducible assumption | with_reducible refine Ext.alloc ?_ _ | with_reducible refine Ext.drewN ?_ _ | with_reducible refine Ext.drew ?_ | with_reducible refine ExtW.ext ?_ _ | (with_reducible refine Ext.trans ?_ (by assumption)) | (with_reducible refine Ext.setCell ?_ (by first | (simp; done) | (simp; omega)) _))); done) | (refine congrArg (fun v => Ending.returned (Value.int .i64 v)) ?_; ((try simp only [IntWalk.i64_left]); first | rfl | (simp only [i_threeBy, *, Bool.false_eq_true, ↓reduceIte]; done) | (simp [i_threeBy, *]; done) | (simp_all [i_threeBy]; done) | (simp [i_threeBy, *]; omega)))

def i_placeQuadrance (p : Int) (a : P3) (b : P3) : Int :=
  (i_rest p (wrap64 (1 - (i_divide p (wrap64 ((i_placeProduct p a b) * (i_placeProduct p a b))) (i_rest p (wrap64 ((i_placeProduct p a a) * (i_placeProduct p b b))))))))

set_option maxRecDepth 100000 in
set_option maxHeartbeats 4000000 in
theorem i_placeQuadrance_any (p : Int) (a0 : Int) (a1 : Int) (a2 : Int) (b0 : Int) (b1 : Int) (b2 : Int) (w : World) (hp : Pr p) :
    Calls Try.prog 82 #[.int .i64 p, .agg #[.int .i64 a0, .int .i64 a1, .int .i64 a2], .agg #[.int .i64 b0, .int .i64 b1, .int .i64 b2]] w fun e w' => e = .returned (.int .i64 (i_placeQuadrance p (a0, a1, a2) (b0, b1, b2))) ∧ Ext w w' := by
  have hp1 := hp.1; have hp2 := hp.2; have hp0 : p ≠ 0 := Pr.ne hp
  go_enter Try.func82, Try.ntmps82
  go_wp2_with (first | (go_at_call 67; refine (i_placeProduct_any _ _ _ _ _ _ _ _ ?_).mono ?_; (focus (assumption)); rintro e w1 ⟨rfl, hb⟩; obtain ⟨hcl, hfz, hsz⟩ := hb.cells; have hs := hb.size; (try simp only [szA, szS, szD] at hs); (try have hz0 : w.heap.size < w1.heap.size := by omega); (try have hz1 : w.heap.size + 1 < w1.heap.size := by omega); (try have hz2 : w.heap.size + 2 < w1.heap.size := by omega); (try have hz3 : w.heap.size + 3 < w1.heap.size := by omega); (try have hz4 : w.heap.size + 4 < w1.heap.size := by omega); (try have hz5 : w.heap.size + 5 < w1.heap.size := by omega); (try have hq0_0 : w1.cell? ⟨w.heap.size, 0, none⟩ = some (.int .i64 a0) := hb.cell (by simp [go_sem, *])); (try have hq0_1 : w1.cell? ⟨w.heap.size, 1, none⟩ = some (.int .i64 a1) := hb.cell (by simp [go_sem, *])); (try have hq0_2 : w1.cell? ⟨w.heap.size, 2, none⟩ = some (.int .i64 a2) := hb.cell (by simp [go_sem, *])); (try have hq1_0 : w1.cell? ⟨w.heap.size + 1, 0, none⟩ = some (.int .i64 b0) := hb.cell (by simp [go_sem, *])); (try have hq1_1 : w1.cell? ⟨w.heap.size + 1, 1, none⟩ = some (.int .i64 b1) := hb.cell (by simp [go_sem, *])); (try have hq1_2 : w1.cell? ⟨w.heap.size + 1, 2, none⟩ = some (.int .i64 b2) := hb.cell (by simp [go_sem, *]))) | (go_at_call 105; refine (i_rest_any _ _ _ ?_).mono ?_; (focus (assumption)); rintro e w1 ⟨rfl, rfl⟩) | (go_at_call 109; refine (i_divide_any _ _ _ _ ?_).mono ?_; (focus (assumption)); rintro e w1 ⟨rfl, rfl⟩))
  all_goals try ((first | (refine wp_region_ext (by kernel_rfl) (by kernel_rfl) ?_; (repeat (go_big_quiet_step ((first | (go_at_call 67; exact Calls.ext_of (i_placeProduct_any _ _ _ _ _ _ _ _ (by assumption))) | (go_at_call 105; exact Calls.ext_of_same (i_rest_any _ _ _ (by assumption))) | (go_at_call 109; exact Calls.ext_of_same (i_divide_any _ _ _ _ (by assumption))))))); refine wpQuiet_nil ?_; intro xw; have hs : _ ≤ xw.wd.heap.size := xw.2.size; (try simp only [szA, szS, szD] at hs); (try have hz0 : w.heap.size < xw.wd.heap.size := by omega); (try have hz1 : w.heap.size + 1 < xw.wd.heap.size := by omega); (try have hz2 : w.heap.size + 2 < xw.wd.heap.size := by omega); (try have hz3 : w.heap.size + 3 < xw.wd.heap.size := by omega); (try have hz4 : w.heap.size + 4 < xw.wd.heap.size := by omega); (try have hz5 : w.heap.size + 5 < xw.wd.heap.size := by omega); (try have hq0_0 : xw.wd.cell? ⟨w.heap.size, 0, none⟩ = some (.int .i64 a0) := Ext.cell xw.2 (by simp [go_sem, *])); (try have hq0_1 : xw.wd.cell? ⟨w.heap.size, 1, none⟩ = some (.int .i64 a1) := Ext.cell xw.2 (by simp [go_sem, *])); (try have hq0_2 : xw.wd.cell? ⟨w.heap.size, 2, none⟩ = some (.int .i64 a2) := Ext.cell xw.2 (by simp [go_sem, *])); (try have hq1_0 : xw.wd.cell? ⟨w.heap.size + 1, 0, none⟩ = some (.int .i64 b0) := Ext.cell xw.2 (by simp [go_sem, *])); (try have hq1_1 : xw.wd.cell? ⟨w.heap.size + 1, 1, none⟩ = some (.int .i64 b1) := Ext.cell xw.2 (by simp [go_sem, *])); (try have hq1_2 : xw.wd.cell? ⟨w.heap.size + 1, 2, none⟩ = some (.int .i64 b2) := Ext.cell xw.2 (by simp [go_sem, *])))); all_goals try go_wp2_with (first | (go_at_call 67; refine (i_placeProduct_any _ _ _ _ _ _ _ _ ?_).mono ?_; (focus (assumption)); rintro e w1 ⟨rfl, hb⟩; obtain ⟨hcl, hfz, hsz⟩ := hb.cells; have hs := hb.size; (try simp only [szA, szS, szD] at hs); (try have hz0 : w.heap.size < w1.heap.size := by omega); (try have hz1 : w.heap.size + 1 < w1.heap.size := by omega); (try have hz2 : w.heap.size + 2 < w1.heap.size := by omega); (try have hz3 : w.heap.size + 3 < w1.heap.size := by omega); (try have hz4 : w.heap.size + 4 < w1.heap.size := by omega); (try have hz5 : w.heap.size + 5 < w1.heap.size := by omega); (try have hq0_0 : w1.cell? ⟨w.heap.size, 0, none⟩ = some (.int .i64 a0) := hb.cell (by simp [go_sem, *])); (try have hq0_1 : w1.cell? ⟨w.heap.size, 1, none⟩ = some (.int .i64 a1) := hb.cell (by simp [go_sem, *])); (try have hq0_2 : w1.cell? ⟨w.heap.size, 2, none⟩ = some (.int .i64 a2) := hb.cell (by simp [go_sem, *])); (try have hq1_0 : w1.cell? ⟨w.heap.size + 1, 0, none⟩ = some (.int .i64 b0) := hb.cell (by simp [go_sem, *])); (try have hq1_1 : w1.cell? ⟨w.heap.size + 1, 1, none⟩ = some (.int .i64 b1) := hb.cell (by simp [go_sem, *])); (try have hq1_2 : w1.cell? ⟨w.heap.size + 1, 2, none⟩ = some (.int .i64 b2) := hb.cell (by simp [go_sem, *]))) | (go_at_call 105; refine (i_rest_any _ _ _ ?_).mono ?_; (focus (assumption)); rintro e w1 ⟨rfl, rfl⟩) | (go_at_call 109; refine (i_divide_any _ _ _ _ ?_).mono ?_; (focus (assumption)); rintro e w1 ⟨rfl, rfl⟩)))
  all_goals (go_ret; refine ⟨?_, ?_⟩)
  all_goals first | ((with_reducible (show Ext _ _)); (repeat (first | with_reducible exact Ext.refl _ | with_reducible assumption | with_reducible refine Ext.alloc ?_ _ | with_reducible refine Ext.drewN ?_ _ | with_reducible refine Ext.drew ?_ | with_reducible refine ExtW.ext ?_ _ | (with_reducible refine Ext.trans ?_ (by assumption)) | (with_reducible refine Ext.setCell ?_ (by first | (simp; done) | (simp; omega)) _))); done) | (refine congrArg (fun v => Ending.returned (Value.int .i64 v)) ?_; ((try simp only [IntWalk.i64_left]); first | rfl | (simp only [i_placeQuadrance, *, Bool.false_eq_true, ↓reduceIte]; done) | (simp [i_placeQuadrance, *]; done) | (simp_all [i_placeQuadrance]; done) | (simp [i_placeQuadrance, *]; omega)))

def s_l09Quadrance (p : Int) (a : P3) (b : P3) : Int :=
  (s_l01Mod (wrap64 (1 - (wrap64 (((wrap64 ((s_l09Product p a b) * (s_l09Product p a b))).tmod p) * (s_l01Inverse (wrap64 ((s_l09Product p a a) * (s_l09Product p b b))) p))))) p)

set_option maxRecDepth 100000 in
set_option maxHeartbeats 4000000 in
theorem s_l09Quadrance_any (p : Int) (a0 : Int) (a1 : Int) (a2 : Int) (b0 : Int) (b1 : Int) (b2 : Int) (w : World) (hp : Pr p) :
    Calls Try.prog 80 #[.int .i64 p, .agg #[.int .i64 a0, .int .i64 a1, .int .i64 a2], .agg #[.int .i64 b0, .int .i64 b1, .int .i64 b2]] w fun e w' => e = .returned (.int .i64 (s_l09Quadrance p (a0, a1, a2) (b0, b1, b2))) ∧ Ext w w' := by
  have hp1 := hp.1; have hp2 := hp.2; have hp0 : p ≠ 0 := Pr.ne hp
  go_enter Try.func80, Try.ntmps80
  go_wp2_with (first | (go_at_call 64; refine (s_l09Product_any _ _ _ _ _ _ _ _ ?_).mono ?_; (focus (assumption)); rintro e w1 ⟨rfl, hb⟩; obtain ⟨hcl, hfz, hsz⟩ := hb.cells; have hs := hb.size; (try simp only [szA, szS, szD] at hs); (try have hz0 : w.heap.size < w1.heap.size := by omega); (try have hz1 : w.heap.size + 1 < w1.heap.size := by omega); (try have hz2 : w.heap.size + 2 < w1.heap.size := by omega); (try have hz3 : w.heap.size + 3 < w1.heap.size := by omega); (try have hz4 : w.heap.size + 4 < w1.heap.size := by omega); (try have hz5 : w.heap.size + 5 < w1.heap.size := by omega); (try have hq0_0 : w1.cell? ⟨w.heap.size, 0, none⟩ = some (.int .i64 a0) := hb.cell (by simp [go_sem, *])); (try have hq0_1 : w1.cell? ⟨w.heap.size, 1, none⟩ = some (.int .i64 a1) := hb.cell (by simp [go_sem, *])); (try have hq0_2 : w1.cell? ⟨w.heap.size, 2, none⟩ = some (.int .i64 a2) := hb.cell (by simp [go_sem, *])); (try have hq1_0 : w1.cell? ⟨w.heap.size + 1, 0, none⟩ = some (.int .i64 b0) := hb.cell (by simp [go_sem, *])); (try have hq1_1 : w1.cell? ⟨w.heap.size + 1, 1, none⟩ = some (.int .i64 b1) := hb.cell (by simp [go_sem, *])); (try have hq1_2 : w1.cell? ⟨w.heap.size + 1, 2, none⟩ = some (.int .i64 b2) := hb.cell (by simp [go_sem, *]))) | (go_at_call 107; refine (s_l01Inverse_any _ _ _ ?_).mono ?_; (focus (assumption)); rintro e w1 ⟨rfl, rfl⟩) | (go_at_call 104; refine (s_l01Mod_any _ _ _ ?_).mono ?_; (focus (assumption)); rintro e w1 ⟨rfl, rfl⟩))
  all_goals try ((first | (refine wp_region_ext (by kernel_rfl) (by kernel_rfl) ?_; (repeat (go_big_quiet_step ((first | (go_at_call 64; exact Calls.ext_of (s_l09Product_any _ _ _ _ _ _ _ _ (by assumption))) | (go_at_call 107; exact Calls.ext_of_same (s_l01Inverse_any _ _ _ (by assumption))) | (go_at_call 104; exact Calls.ext_of_same (s_l01Mod_any _ _ _ (by assumption))))))); refine wpQuiet_nil ?_; intro xw; have hs : _ ≤ xw.wd.heap.size := xw.2.size; (try simp only [szA, szS, szD] at hs); (try have hz0 : w.heap.size < xw.wd.heap.size := by omega); (try have hz1 : w.heap.size + 1 < xw.wd.heap.size := by omega); (try have hz2 : w.heap.size + 2 < xw.wd.heap.size := by omega); (try have hz3 : w.heap.size + 3 < xw.wd.heap.size := by omega); (try have hz4 : w.heap.size + 4 < xw.wd.heap.size := by omega); (try have hz5 : w.heap.size + 5 < xw.wd.heap.size := by omega); (try have hq0_0 : xw.wd.cell? ⟨w.heap.size, 0, none⟩ = some (.int .i64 a0) := Ext.cell xw.2 (by simp [go_sem, *])); (try have hq0_1 : xw.wd.cell? ⟨w.heap.size, 1, none⟩ = some (.int .i64 a1) := Ext.cell xw.2 (by simp [go_sem, *])); (try have hq0_2 : xw.wd.cell? ⟨w.heap.size, 2, none⟩ = some (.int .i64 a2) := Ext.cell xw.2 (by simp [go_sem, *])); (try have hq1_0 : xw.wd.cell? ⟨w.heap.size + 1, 0, none⟩ = some (.int .i64 b0) := Ext.cell xw.2 (by simp [go_sem, *])); (try have hq1_1 : xw.wd.cell? ⟨w.heap.size + 1, 1, none⟩ = some (.int .i64 b1) := Ext.cell xw.2 (by simp [go_sem, *])); (try have hq1_2 : xw.wd.cell? ⟨w.heap.size + 1, 2, none⟩ = some (.int .i64 b2) := Ext.cell xw.2 (by simp [go_sem, *])))); all_goals try go_wp2_with (first | (go_at_call 64; refine (s_l09Product_any _ _ _ _ _ _ _ _ ?_).mono ?_; (focus (assumption)); rintro e w1 ⟨rfl, hb⟩; obtain ⟨hcl, hfz, hsz⟩ := hb.cells; have hs := hb.size; (try simp only [szA, szS, szD] at hs); (try have hz0 : w.heap.size < w1.heap.size := by omega); (try have hz1 : w.heap.size + 1 < w1.heap.size := by omega); (try have hz2 : w.heap.size + 2 < w1.heap.size := by omega); (try have hz3 : w.heap.size + 3 < w1.heap.size := by omega); (try have hz4 : w.heap.size + 4 < w1.heap.size := by omega); (try have hz5 : w.heap.size + 5 < w1.heap.size := by omega); (try have hq0_0 : w1.cell? ⟨w.heap.size, 0, none⟩ = some (.int .i64 a0) := hb.cell (by simp [go_sem, *])); (try have hq0_1 : w1.cell? ⟨w.heap.size, 1, none⟩ = some (.int .i64 a1) := hb.cell (by simp [go_sem, *])); (try have hq0_2 : w1.cell? ⟨w.heap.size, 2, none⟩ = some (.int .i64 a2) := hb.cell (by simp [go_sem, *])); (try have hq1_0 : w1.cell? ⟨w.heap.size + 1, 0, none⟩ = some (.int .i64 b0) := hb.cell (by simp [go_sem, *])); (try have hq1_1 : w1.cell? ⟨w.heap.size + 1, 1, none⟩ = some (.int .i64 b1) := hb.cell (by simp [go_sem, *])); (try have hq1_2 : w1.cell? ⟨w.heap.size + 1, 2, none⟩ = some (.int .i64 b2) := hb.cell (by simp [go_sem, *]))) | (go_at_call 107; refine (s_l01Inverse_any _ _ _ ?_).mono ?_; (focus (assumption)); rintro e w1 ⟨rfl, rfl⟩) | (go_at_call 104; refine (s_l01Mod_any _ _ _ ?_).mono ?_; (focus (assumption)); rintro e w1 ⟨rfl, rfl⟩)))
  all_goals (go_ret; refine ⟨?_, ?_⟩)
  all_goals first | ((with_reducible (show Ext _ _)); (repeat (first | with_reducible exact Ext.refl _ | with_reducible assumption | with_reducible refine Ext.alloc ?_ _ | with_reducible refine Ext.drewN ?_ _ | with_reducible refine Ext.drew ?_ | with_reducible refine ExtW.ext ?_ _ | (with_reducible refine Ext.trans ?_ (by assumption)) | (with_reducible refine Ext.setCell ?_ (by first | (simp; done) | (simp; omega)) _))); done) | (refine congrArg (fun v => Ending.returned (Value.int .i64 v)) ?_; ((try simp only [IntWalk.i64_left]); first | rfl | (simp only [s_l09Quadrance, *, Bool.false_eq_true, ↓reduceIte]; done) | (simp [s_l09Quadrance, *]; done) | (simp_all [s_l09Quadrance]; done) | (simp [s_l09Quadrance, *]; omega)))

def l_toPlace (a : P3) : P3 :=
  (a.1, a.2.1, a.2.2)

set_option maxHeartbeats 400000 in
theorem l_toPlace_any (a0 : Int) (a1 : Int) (a2 : Int) (w : World) :
    Calls Try.prog 19 #[.agg #[.int .i64 a0, .int .i64 a1, .int .i64 a2]] w fun e w' => e = .returned (.agg #[.int .i64 ((l_toPlace (a0, a1, a2)).1), .int .i64 ((l_toPlace (a0, a1, a2)).2.1), .int .i64 ((l_toPlace (a0, a1, a2)).2.2)]) ∧ Ext w w' := by
  go_enter Try.func19, Try.ntmps19
  go_wp2
  all_goals try refine wp_loop_rounds 4 ?_
  all_goals try rw [rounds_succ]
  all_goals try go_wp2
  all_goals try rw [rounds_succ]
  all_goals try go_wp2
  all_goals try rw [rounds_succ]
  all_goals try go_wp2
  all_goals try rw [rounds_succ]
  all_goals try go_wp2
  all_goals (refine bodyPost_ret (v := .agg #[.int .i64 ((l_toPlace (a0, a1, a2)).1), .int .i64 ((l_toPlace (a0, a1, a2)).2.1), .int .i64 ((l_toPlace (a0, a1, a2)).2.2)]) ?_ rfl ⟨rfl, ?_⟩)
  all_goals first | ((with_reducible (show Ext _ _)); (repeat (first | with_reducible exact Ext.refl _ | with_reducible assumption | with_reducible refine Ext.alloc ?_ _ | with_reducible refine Ext.drewN ?_ _ | with_reducible refine Ext.drew ?_ | with_reducible refine ExtW.ext ?_ _ | (with_reducible refine Ext.trans ?_ (by assumption)) | (with_reducible refine Ext.setCell ?_ (by first | (simp; done) | (simp; omega)) _))); done) | (simp [results, Try.results19, go_sem, IntWalk.i64_left, l_toPlace, *]; done) | (simp [results, Try.results19, go_sem, IntWalk.i64_left, l_toPlace, *]; rfl) | (simp [results, Try.results19, go_sem, IntWalk.i64_left, l_toPlace, *] at *; done)

def l_eqPlace (a : P3) (b : P3) : Bool :=
  (if (a.1 != b.1) = true then false else (if (a.2.1 != b.2.1) = true then false else (if (a.2.2 != b.2.2) = true then false else true)))

set_option maxRecDepth 100000 in
set_option maxHeartbeats 4000000 in
theorem l_eqPlace_any (a0 : Int) (a1 : Int) (a2 : Int) (b0 : Int) (b1 : Int) (b2 : Int) (w : World) :
    Calls Try.prog 25 #[.agg #[.int .i64 a0, .int .i64 a1, .int .i64 a2], .agg #[.int .i64 b0, .int .i64 b1, .int .i64 b2]] w fun e w' => e = .returned (.bool (l_eqPlace (a0, a1, a2) (b0, b1, b2))) ∧ Ext w w' := by
  go_enter Try.func25, Try.ntmps25
  go_wp2
  all_goals try ((first | go_quiet (fail)); all_goals try go_wp2)
  all_goals try refine wp_loop_rounds 4 ?_
  all_goals try rw [rounds_succ]
  all_goals try go_wp2
  all_goals try ((first | go_quiet (fail)); all_goals try go_wp2)
  all_goals try rw [rounds_succ]
  all_goals try go_wp2
  all_goals try ((first | go_quiet (fail)); all_goals try go_wp2)
  all_goals try rw [rounds_succ]
  all_goals try go_wp2
  all_goals try ((first | go_quiet (fail)); all_goals try go_wp2)
  all_goals try rw [rounds_succ]
  all_goals try go_wp2
  all_goals try ((first | go_quiet (fail)); all_goals try go_wp2)
  all_goals (go_ret; refine ⟨?_, ?_⟩)
  all_goals first | ((with_reducible (show Ext _ _)); (repeat (first | with_reducible exact Ext.refl _ | with_reducible assumption | with_reducible refine Ext.alloc ?_ _ | with_reducible refine Ext.drewN ?_ _ | with_reducible refine Ext.drew ?_ | with_reducible refine ExtW.ext ?_ _ | (with_reducible refine Ext.trans ?_ (by assumption)) | (with_reducible refine Ext.setCell ?_ (by first | (simp; done) | (simp; omega)) _))); done) | (refine congrArg (fun v => Ending.returned (Value.bool v)) ?_; ((try simp only [IntWalk.i64_left]); first | rfl | (simp only [l_eqPlace, *, Bool.false_eq_true, ↓reduceIte]; done) | (simp [l_eqPlace, *]; done) | (simp_all [l_eqPlace]; done) | (simp [l_eqPlace, *]; omega)))


end Go.Proofs.Ytcechmaoihckgaa
