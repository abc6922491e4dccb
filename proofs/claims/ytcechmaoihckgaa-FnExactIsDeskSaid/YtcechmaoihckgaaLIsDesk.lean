import Derived.Test.YtcechmaoihckgaaCb
set_option linter.unusedSimpArgs false
set_option linter.unusedVariables false
namespace Go.Proofs.Ytcechmaoihckgaa
open Go.RowKit

def i_isPoint (p : Int) (a : P2) : Bool :=
  (i_areNumbers p [a.1, a.2])

set_option maxHeartbeats 400000 in
theorem i_isPoint_any (p : Int) (a0 : Int) (a1 : Int) (w : World) :
    Calls Try.prog 115 #[.int .i64 p, .agg #[.int .i64 a0, .int .i64 a1]] w fun e w' => e = .returned (.bool (i_isPoint p (a0, a1))) ∧ Ext w w' := by
  go_enter Try.func115, Try.ntmps115
  go_wp2_with (go_at_call 71; refine (i_areNumbers_any _ [a0, a1] _ _ _ _ (by simp) ?_).mono ?_; (focus (simp [CellsAt, go_sem, *]; done)); rintro e w1 ⟨rfl, rfl⟩)
  all_goals (go_ret; refine ⟨?_, ?_⟩)
  all_goals first | ((with_reducible (show Ext _ _)); (repeat (first | with_reducible exact Ext.refl _ | with_reducible assumption | with_reducible refine Ext.alloc ?_ _ | with_reducible refine Ext.drewN ?_ _ | with_reducible refine Ext.drew ?_ | with_reducible refine ExtW.ext ?_ _ | (with_reducible refine Ext.trans ?_ (by assumption)) | (with_reducible refine Ext.setCell ?_ (by first | (simp; done) | (simp; omega)) _))); done) | (refine congrArg (fun v => Ending.returned (Value.bool v)) ?_; ((try simp only [IntWalk.i64_left]); first | rfl | (simp only [i_isPoint, *, Bool.false_eq_true, ↓reduceIte]; done) | (simp [i_isPoint, *]; done) | (simp_all [i_isPoint]; done) | (simp [i_isPoint, *]; omega)))

def i_arePoints (p : Int) (l : List P2) : Bool := l.all (fun a => i_isPoint p a)
set_option maxHeartbeats 1000000 in
theorem i_arePoints_any (p : Int) (xs : List P2) (b off cap : Nat) (w : World) (hlen : xs.length ≤ 100000000000) (hx : CellsAt2 w b off xs) :
    Calls Try.prog 101 #[.int .i64 p, .slice (some ⟨b, off, none⟩) xs.length cap] w fun e w' => e = .returned (.bool (i_arePoints p xs)) ∧ Ext w w' := by
  have HX := Lib.hid hx; clear hx
  go_enter Try.func101, Try.ntmps101
  go_wp2
  go_loopw [9] (fun i wr => ∃ k : Nat, k ≤ xs.length ∧ i = .int .i64 k ∧ Hid ((xs.take k).all (fun a => i_isPoint p a) = true) ∧ Ext w wr) (fun i _ => xs.length - (intOf i).toNat)
  case atStart => exact ⟨0, Nat.zero_le _, rfl, by unfold Hid; simp, Ext.refl _⟩
  case round =>
    obtain ⟨k, hk, rfl, HA, hbr⟩ := hrel
    by_cases hlt : k < xs.length
    · have hk0 : (0 : Int) ≤ (k : Int) := by omega
      have hk1 : (k : Int) < (xs.length : Int) := by omega
      have hcl0 := (HX.out.ext hbr).get hlt
      obtain ⟨a0, a1, hn⟩ : ∃ a0 a1 : Int, nth2 xs k = (a0, a1) := ⟨_, _, rfl⟩
      rw [hn] at hcl0
      obtain ⟨hcl0a, hcl0b⟩ := hcl0
      have HN := Lib.hid hn; clear hn
      cases hv : i_isPoint p (a0, a1)
      all_goals
        have HV := Lib.hid hv; clear hv
        go_wp2_with (go_at_call 115; refine (i_isPoint_any _ _ _ _).mono ?_; rintro e w1 ⟨rfl, hb⟩; obtain ⟨hcl, hfz, hsz⟩ := hb.cells; have hs := hb.size; (try simp only [szA, szS, szD] at hs); (try have hz0 : w.heap.size < w1.heap.size := by omega); (try have hz1 : w.heap.size + 1 < w1.heap.size := by omega); (try have hz2 : w.heap.size + 2 < w1.heap.size := by omega); (try have hz3 : w.heap.size + 3 < w1.heap.size := by omega); (try have hz4 : w.heap.size + 4 < w1.heap.size := by omega); (try have hz5 : w.heap.size + 5 < w1.heap.size := by omega); rw [HV.out])
      · go_ret
        have hn := HN.out
        have hno : xs.all (fun a => i_isPoint p a) = false := all_false (0, 0) hlt (by show (fun a => i_isPoint p a) (nth2 xs k) = false; rw [hn]; exact HV.out)
        refine ⟨congrArg (fun n => Ending.returned (Value.bool n)) ?_, (by (repeat (first | with_reducible exact Ext.refl _ | with_reducible assumption | with_reducible refine Ext.alloc ?_ _ | with_reducible refine Ext.drewN ?_ _ | with_reducible refine Ext.drew ?_ | with_reducible refine ExtW.ext ?_ _ | (with_reducible refine Ext.trans ?_ (by assumption)) | (with_reducible refine Ext.setCell ?_ (by first | (simp; done) | (simp; omega)) _))))⟩
        show false = _
        exact hno.symm
      · have hn := HN.out
        go_roundw
        case rel => exact ⟨k + 1, by omega, by go_num, by unfold Hid; rw [all_take _ (0, 0) _ _ hlt, HA.out]; show (true && (fun a => i_isPoint p a) (nth2 xs k)) = true; rw [hn]; exact HV.out, by (repeat (first | with_reducible exact Ext.refl _ | with_reducible assumption | with_reducible refine Ext.alloc ?_ _ | with_reducible refine Ext.drewN ?_ _ | with_reducible refine Ext.drew ?_ | with_reducible refine ExtW.ext ?_ _ | (with_reducible refine Ext.trans ?_ (by assumption)) | (with_reducible refine Ext.setCell ?_ (by first | (simp; done) | (simp; omega)) _)))⟩
        case measure => simp [intOf]; omega
    · go_wp2
      go_ret
      have hyes : xs.all (fun a => i_isPoint p a) = true := by
        have := HA.out
        rw [List.take_of_length_le (by omega)] at this
        exact this
      refine ⟨congrArg (fun n => Ending.returned (Value.bool n)) ?_, (by (repeat (first | with_reducible exact Ext.refl _ | with_reducible assumption | with_reducible refine Ext.alloc ?_ _ | with_reducible refine Ext.drewN ?_ _ | with_reducible refine Ext.drew ?_ | with_reducible refine ExtW.ext ?_ _ | (with_reducible refine Ext.trans ?_ (by assumption)) | (with_reducible refine Ext.setCell ?_ (by first | (simp; done) | (simp; omega)) _))))⟩
      show true = _
      exact hyes.symm
set_option maxHeartbeats 400000 in
theorem i_arePoints_nil (p : Int) (w : World) :
    Calls Try.prog 101 #[.int .i64 p, .slice none 0 0] w fun e w' => e = .returned (.bool (i_arePoints p [])) ∧ Ext w w' := by
  go_enter Try.func101, Try.ntmps101
  go_wp2
  refine wp_loop_rounds 1 ?_
  rw [rounds_succ]; go_wp2
  go_ret
  exact ⟨congrArg (fun n => Ending.returned (Value.bool n)) (rfl), Ext.refl _⟩

def s_l01Point (p : Int) (a : P2) : Bool :=
  ((s_l01In a.1 0 (wrap64 (p - 1))) && (s_l01In a.2 0 (wrap64 (p - 1))))

set_option maxHeartbeats 400000 in
theorem s_l01Point_any (p : Int) (a0 : Int) (a1 : Int) (w : World) :
    Calls Try.prog 117 #[.int .i64 p, .agg #[.int .i64 a0, .int .i64 a1]] w fun e w' => e = .returned (.bool (s_l01Point p (a0, a1))) ∧ Ext w w' := by
  go_enter Try.func117, Try.ntmps117
  go_wp2_with (go_at_call 106; refine (s_l01In_any _ _ _ _).mono ?_; rintro e w1 ⟨rfl, rfl⟩)
  all_goals (go_ret; refine ⟨?_, ?_⟩)
  all_goals first | ((with_reducible (show Ext _ _)); (repeat (first | with_reducible exact Ext.refl _ | with_reducible assumption | with_reducible refine Ext.alloc ?_ _ | with_reducible refine Ext.drewN ?_ _ | with_reducible refine Ext.drew ?_ | with_reducible refine ExtW.ext ?_ _ | (with_reducible refine Ext.trans ?_ (by assumption)) | (with_reducible refine Ext.setCell ?_ (by first | (simp; done) | (simp; omega)) _))); done) | (refine congrArg (fun v => Ending.returned (Value.bool v)) ?_; ((try simp only [IntWalk.i64_left]); first | rfl | (simp only [s_l01Point, *, Bool.false_eq_true, ↓reduceIte]; done) | (simp [s_l01Point, *]; done) | (simp_all [s_l01Point]; done) | (simp [s_l01Point, *]; omega)))

def s_l01Code (p : Int) (l : List P2) : Int := if s_l01Field p = true then (if l.all (fun a => s_l01Point p a) = true then 0 else 2) else 1
theorem s_l01Code_ok {p : Int} {l : List P2} (h : s_l01Code p l = 0) : Pr p := by
  refine i_IsField_ok ?_
  cases hi : i_IsField p
  · simp [s_l01Code, s_l01Field, hi] at h
  · rfl
set_option maxHeartbeats 1000000 in
theorem s_l01Code_any (p : Int) (xs : List P2) (b off cap : Nat) (w : World) (hlen : xs.length ≤ 100000000000) (hx : CellsAt2 w b off xs) :
    Calls Try.prog 112 #[.int .i64 p, .slice (some ⟨b, off, none⟩) xs.length cap] w fun e w' => e = .returned (.int .i64 (s_l01Code p xs)) ∧ Ext w w' := by
  have HX := Lib.hid hx; clear hx
  cases hf : s_l01Field p
  · have HF := Lib.hid hf; clear hf
    go_enter Try.func112, Try.ntmps112
    go_wp2_with (go_at_call 102; refine (s_l01Field_any _ _).mono ?_; rintro e w1 ⟨rfl, rfl⟩; rw [HF.out])
    go_ret
    exact ⟨congrArg (fun n => Ending.returned (Value.int .i64 n)) (by show (1 : Int) = _; simp only [s_l01Code, HF.out, Bool.false_eq_true, if_false]), Ext.refl _⟩
  · have HF := Lib.hid hf; clear hf
    go_enter Try.func112, Try.ntmps112
    go_wp2_with (go_at_call 102; refine (s_l01Field_any _ _).mono ?_; rintro e w1 ⟨rfl, rfl⟩; rw [HF.out])
    go_loopw [5] (fun i wr => ∃ k : Nat, k ≤ xs.length ∧ i = .int .i64 k ∧ Hid ((xs.take k).all (fun a => s_l01Point p a) = true) ∧ Ext w wr) (fun i _ => xs.length - (intOf i).toNat)
    case atStart => exact ⟨0, Nat.zero_le _, rfl, by unfold Hid; simp, Ext.refl _⟩
    case round =>
      obtain ⟨k, hk, rfl, HA, hbr⟩ := hrel
      by_cases hlt : k < xs.length
      · have hk0 : (0 : Int) ≤ (k : Int) := by omega
        have hk1 : (k : Int) < (xs.length : Int) := by omega
        have hcl0 := (HX.out.ext hbr).get hlt
        obtain ⟨a0, a1, hn⟩ : ∃ a0 a1 : Int, nth2 xs k = (a0, a1) := ⟨_, _, rfl⟩
        rw [hn] at hcl0
        obtain ⟨hcl0a, hcl0b⟩ := hcl0
        have HN := Lib.hid hn; clear hn
        cases hv : s_l01Point p (a0, a1)
        all_goals
          have HV := Lib.hid hv; clear hv
          go_wp2_with (first | (go_at_call 117; refine (s_l01Point_any _ _ _ _).mono ?_; rintro e w1 ⟨rfl, hb⟩; obtain ⟨hcl, hfz, hsz⟩ := hb.cells; have hs := hb.size; (try simp only [szA, szS, szD] at hs); (try have hz0 : w.heap.size < w1.heap.size := by omega); (try have hz1 : w.heap.size + 1 < w1.heap.size := by omega); (try have hz2 : w.heap.size + 2 < w1.heap.size := by omega); (try have hz3 : w.heap.size + 3 < w1.heap.size := by omega); (try have hz4 : w.heap.size + 4 < w1.heap.size := by omega); (try have hz5 : w.heap.size + 5 < w1.heap.size := by omega); rw [HV.out]) | (go_at_call 102; refine (s_l01Field_any _ _).mono ?_; rintro e w1 ⟨rfl, rfl⟩; rw [HF.out]))
        · go_ret
          have hn := HN.out
          have hno : xs.all (fun a => s_l01Point p a) = false := all_false (0, 0) hlt (by show (fun a => s_l01Point p a) (nth2 xs k) = false; rw [hn]; exact HV.out)
          refine ⟨congrArg (fun n => Ending.returned (Value.int .i64 n)) ?_, (by (repeat (first | with_reducible exact Ext.refl _ | with_reducible assumption | with_reducible refine Ext.alloc ?_ _ | with_reducible refine Ext.drewN ?_ _ | with_reducible refine Ext.drew ?_ | with_reducible refine ExtW.ext ?_ _ | (with_reducible refine Ext.trans ?_ (by assumption)) | (with_reducible refine Ext.setCell ?_ (by first | (simp; done) | (simp; omega)) _))))⟩
          show (2 : Int) = _
          simp only [s_l01Code, HF.out, if_true, hno, Bool.false_eq_true, if_false]
        · have hn := HN.out
          go_roundw
          case rel => exact ⟨k + 1, by omega, by go_num, by unfold Hid; rw [all_take _ (0, 0) _ _ hlt, HA.out]; show (true && (fun a => s_l01Point p a) (nth2 xs k)) = true; rw [hn]; exact HV.out, by (repeat (first | with_reducible exact Ext.refl _ | with_reducible assumption | with_reducible refine Ext.alloc ?_ _ | with_reducible refine Ext.drewN ?_ _ | with_reducible refine Ext.drew ?_ | with_reducible refine ExtW.ext ?_ _ | (with_reducible refine Ext.trans ?_ (by assumption)) | (with_reducible refine Ext.setCell ?_ (by first | (simp; done) | (simp; omega)) _)))⟩
          case measure => simp [intOf]; omega
      · go_wp2
        go_ret
        have hyes : xs.all (fun a => s_l01Point p a) = true := by
          have := HA.out
          rw [List.take_of_length_le (by omega)] at this
          exact this
        refine ⟨congrArg (fun n => Ending.returned (Value.int .i64 n)) ?_, (by (repeat (first | with_reducible exact Ext.refl _ | with_reducible assumption | with_reducible refine Ext.alloc ?_ _ | with_reducible refine Ext.drewN ?_ _ | with_reducible refine Ext.drew ?_ | with_reducible refine ExtW.ext ?_ _ | (with_reducible refine Ext.trans ?_ (by assumption)) | (with_reducible refine Ext.setCell ?_ (by first | (simp; done) | (simp; omega)) _))))⟩
        show (0 : Int) = _
        simp only [s_l01Code, HF.out, if_true, hyes]
set_option maxHeartbeats 400000 in
theorem s_l01Code_nil (p : Int) (w : World) :
    Calls Try.prog 112 #[.int .i64 p, .slice none 0 0] w fun e w' => e = .returned (.int .i64 (s_l01Code p [])) ∧ Ext w w' := by
  cases hf : s_l01Field p
  · have HF := Lib.hid hf; clear hf
    go_enter Try.func112, Try.ntmps112
    go_wp2_with (go_at_call 102; refine (s_l01Field_any _ _).mono ?_; rintro e w1 ⟨rfl, rfl⟩; rw [HF.out])
    go_ret
    exact ⟨congrArg (fun n => Ending.returned (Value.int .i64 n)) (by show (1 : Int) = _; simp only [s_l01Code, HF.out, Bool.false_eq_true, if_false]), Ext.refl _⟩
  · have HF := Lib.hid hf; clear hf
    go_enter Try.func112, Try.ntmps112
    go_wp2_with (go_at_call 102; refine (s_l01Field_any _ _).mono ?_; rintro e w1 ⟨rfl, rfl⟩; rw [HF.out])
    refine wp_loop_rounds 1 ?_
    rw [rounds_succ]; go_wp2
    go_ret
    exact ⟨congrArg (fun n => Ending.returned (Value.int .i64 n)) (by show (0 : Int) = _; simp only [s_l01Code, HF.out, if_true, List.all_nil]), Ext.refl _⟩

def i_IsDesk (d : (Int × Int × (P2 × P2 × P2))) : Bool :=
  (((i_IsField d.1) && (i_isColour d.2.1)) && (i_arePoints d.1 [d.2.2.1, d.2.2.2.1, d.2.2.2.2]))

set_option maxRecDepth 100000 in
set_option maxHeartbeats 4000000 in
theorem i_IsDesk_any (d0 : Int) (d1 : Int) (d2 : Int) (d3 : Int) (d4 : Int) (d5 : Int) (d6 : Int) (d7 : Int) (w : World) :
    Calls Try.prog 57 #[.agg #[.int .i64 d0, .int .i64 d1, .int .i64 d2, .int .i64 d3, .int .i64 d4, .int .i64 d5, .int .i64 d6, .int .i64 d7]] w fun e w' => e = .returned (.bool (i_IsDesk (d0, d1, ((d2, d3), (d4, d5), (d6, d7))))) ∧ Ext w w' := by
  cases hgt : (i_IsField d0)
  case' true => have hp := i_IsField_ok hgt; have hp1 := hp.1; have hp2 := hp.2; have hp0 := Pr.ne hp
  all_goals cases hg0 : (i_IsField d0)
  all_goals cases hg1 : ((i_IsField d0) && (i_isColour d1))
  all_goals try (exfalso; simp_all; done)
  all_goals try simp only [hg0, hgt, Bool.true_and, Bool.false_and, Bool.true_or, Bool.false_or] at hg1
  all_goals
    go_enter Try.func57, Try.ntmps57
  all_goals try go_wp2_with (first | (go_at_call 77; refine (i_IsField_any _ _).mono ?_; rintro e w1 ⟨rfl, rfl⟩) | (go_at_call 100; refine (i_isColour_any _ _).mono ?_; rintro e w1 ⟨rfl, rfl⟩) | (go_at_call 101; refine (i_arePoints_any _ [(d2, d3), (d4, d5), (d6, d7)] _ _ _ _ (by simp) ?_).mono ?_; (focus (simp [CellsAt2, go_sem, *]; done)); rintro e w1 ⟨rfl, hb⟩; obtain ⟨hcl, hfz, hsz⟩ := hb.cells; have hs := hb.size; (try simp only [szA, szS, szD] at hs); (try have hz0 : w.heap.size < w1.heap.size := by omega); (try have hz1 : w.heap.size + 1 < w1.heap.size := by omega); (try have hz2 : w.heap.size + 2 < w1.heap.size := by omega); (try have hz3 : w.heap.size + 3 < w1.heap.size := by omega); (try have hz4 : w.heap.size + 4 < w1.heap.size := by omega); (try have hz5 : w.heap.size + 5 < w1.heap.size := by omega); (try have hq0_0 : w1.cell? ⟨w.heap.size, 0, none⟩ = some (.int .i64 d0) := hb.cell (by simp [go_sem, *])); (try have hq0_1 : w1.cell? ⟨w.heap.size, 1, none⟩ = some (.int .i64 d1) := hb.cell (by simp [go_sem, *])); (try have hq0_2 : w1.cell? ⟨w.heap.size, 2, none⟩ = some (.int .i64 d2) := hb.cell (by simp [go_sem, *])); (try have hq0_3 : w1.cell? ⟨w.heap.size, 3, none⟩ = some (.int .i64 d3) := hb.cell (by simp [go_sem, *])); (try have hq0_4 : w1.cell? ⟨w.heap.size, 4, none⟩ = some (.int .i64 d4) := hb.cell (by simp [go_sem, *])); (try have hq0_5 : w1.cell? ⟨w.heap.size, 5, none⟩ = some (.int .i64 d5) := hb.cell (by simp [go_sem, *])); (try have hq0_6 : w1.cell? ⟨w.heap.size, 6, none⟩ = some (.int .i64 d6) := hb.cell (by simp [go_sem, *])); (try have hq0_7 : w1.cell? ⟨w.heap.size, 7, none⟩ = some (.int .i64 d7) := hb.cell (by simp [go_sem, *]))))
  all_goals try ((first | (refine wp_region_ext (by kernel_rfl) (by kernel_rfl) ?_; (repeat (go_big_quiet_step ((first | (go_at_call 77; first | exact Calls.ext_of_same_b (by assumption) (i_IsField_any _ _) | exact Calls.ext_of_same (i_IsField_any _ _)) | (go_at_call 100; first | exact Calls.ext_of_same_b (by assumption) (i_isColour_any _ _) | exact Calls.ext_of_same (i_isColour_any _ _)) | (go_at_call 101; first | exact Calls.ext_of_b (by assumption) (i_arePoints_any _ [(d2, d3), (d4, d5), (d6, d7)] _ _ _ _ (by simp) (by simp [CellsAt2, go_sem, *])) | exact Calls.ext_of (i_arePoints_any _ [(d2, d3), (d4, d5), (d6, d7)] _ _ _ _ (by simp) (by simp [CellsAt2, go_sem, *]))))))); refine wpQuiet_nil ?_; intro xw; have hs : _ ≤ xw.wd.heap.size := xw.2.size; (try simp only [szA, szS, szD] at hs); (try have hz0 : w.heap.size < xw.wd.heap.size := by omega); (try have hz1 : w.heap.size + 1 < xw.wd.heap.size := by omega); (try have hz2 : w.heap.size + 2 < xw.wd.heap.size := by omega); (try have hz3 : w.heap.size + 3 < xw.wd.heap.size := by omega); (try have hz4 : w.heap.size + 4 < xw.wd.heap.size := by omega); (try have hz5 : w.heap.size + 5 < xw.wd.heap.size := by omega); (try have hq0_0 : xw.wd.cell? ⟨w.heap.size, 0, none⟩ = some (.int .i64 d0) := Ext.cell xw.2 (by simp [go_sem, *])); (try have hq0_1 : xw.wd.cell? ⟨w.heap.size, 1, none⟩ = some (.int .i64 d1) := Ext.cell xw.2 (by simp [go_sem, *])); (try have hq0_2 : xw.wd.cell? ⟨w.heap.size, 2, none⟩ = some (.int .i64 d2) := Ext.cell xw.2 (by simp [go_sem, *])); (try have hq0_3 : xw.wd.cell? ⟨w.heap.size, 3, none⟩ = some (.int .i64 d3) := Ext.cell xw.2 (by simp [go_sem, *])); (try have hq0_4 : xw.wd.cell? ⟨w.heap.size, 4, none⟩ = some (.int .i64 d4) := Ext.cell xw.2 (by simp [go_sem, *])); (try have hq0_5 : xw.wd.cell? ⟨w.heap.size, 5, none⟩ = some (.int .i64 d5) := Ext.cell xw.2 (by simp [go_sem, *])); (try have hq0_6 : xw.wd.cell? ⟨w.heap.size, 6, none⟩ = some (.int .i64 d6) := Ext.cell xw.2 (by simp [go_sem, *])); (try have hq0_7 : xw.wd.cell? ⟨w.heap.size, 7, none⟩ = some (.int .i64 d7) := Ext.cell xw.2 (by simp [go_sem, *])))); all_goals try go_wp2_with (first | (go_at_call 77; refine (i_IsField_any _ _).mono ?_; rintro e w1 ⟨rfl, rfl⟩) | (go_at_call 100; refine (i_isColour_any _ _).mono ?_; rintro e w1 ⟨rfl, rfl⟩) | (go_at_call 101; refine (i_arePoints_any _ [(d2, d3), (d4, d5), (d6, d7)] _ _ _ _ (by simp) ?_).mono ?_; (focus (simp [CellsAt2, go_sem, *]; done)); rintro e w1 ⟨rfl, hb⟩; obtain ⟨hcl, hfz, hsz⟩ := hb.cells; have hs := hb.size; (try simp only [szA, szS, szD] at hs); (try have hz0 : w.heap.size < w1.heap.size := by omega); (try have hz1 : w.heap.size + 1 < w1.heap.size := by omega); (try have hz2 : w.heap.size + 2 < w1.heap.size := by omega); (try have hz3 : w.heap.size + 3 < w1.heap.size := by omega); (try have hz4 : w.heap.size + 4 < w1.heap.size := by omega); (try have hz5 : w.heap.size + 5 < w1.heap.size := by omega); (try have hq0_0 : w1.cell? ⟨w.heap.size, 0, none⟩ = some (.int .i64 d0) := hb.cell (by simp [go_sem, *])); (try have hq0_1 : w1.cell? ⟨w.heap.size, 1, none⟩ = some (.int .i64 d1) := hb.cell (by simp [go_sem, *])); (try have hq0_2 : w1.cell? ⟨w.heap.size, 2, none⟩ = some (.int .i64 d2) := hb.cell (by simp [go_sem, *])); (try have hq0_3 : w1.cell? ⟨w.heap.size, 3, none⟩ = some (.int .i64 d3) := hb.cell (by simp [go_sem, *])); (try have hq0_4 : w1.cell? ⟨w.heap.size, 4, none⟩ = some (.int .i64 d4) := hb.cell (by simp [go_sem, *])); (try have hq0_5 : w1.cell? ⟨w.heap.size, 5, none⟩ = some (.int .i64 d5) := hb.cell (by simp [go_sem, *])); (try have hq0_6 : w1.cell? ⟨w.heap.size, 6, none⟩ = some (.int .i64 d6) := hb.cell (by simp [go_sem, *])); (try have hq0_7 : w1.cell? ⟨w.heap.size, 7, none⟩ = some (.int .i64 d7) := hb.cell (by simp [go_sem, *])))))
  all_goals (go_ret; refine ⟨?_, ?_⟩)
  all_goals first | ((with_reducible (show Ext _ _)); (repeat (first | with_reducible exact Ext.refl _ | with_reducible assumption | with_reducible refine Ext.alloc ?_ _ | with_reducible refine Ext.drewN ?_ _ | with_reducible refine Ext.drew ?_ | with_reducible refine ExtW.ext ?_ _ | (with_reducible refine Ext.trans ?_ (by assumption)) | (with_reducible refine Ext.setCell ?_ (by first | (simp; done) | (simp; omega)) _))); done) | (refine congrArg (fun v => Ending.returned (Value.bool v)) ?_; ((try simp only [IntWalk.i64_left]); first | rfl | (simp only [i_IsDesk, hgt, bne_self_eq_false, beq_self_eq_true, Bool.false_eq_true, Bool.not_true, Bool.not_false, ↓reduceIte]; simp [*]; done) | (simp only [i_IsDesk, hgt, bne_self_eq_false, beq_self_eq_true, Bool.false_eq_true, Bool.not_true, Bool.not_false, ↓reduceIte]; done) | (simp only [i_IsDesk, *, Bool.false_eq_true, ↓reduceIte]; done) | (simp [i_IsDesk, *]; done) | (simp_all [i_IsDesk]; done) | (simp [i_IsDesk, *]; omega)))

def s_l02Code (p colour : Int) (l : List P2) : Int := if ((s_l01Code p l == 0) && !(s_l02Colour colour)) = true then 2 else s_l01Code p l
theorem s_l02Code_ok {p colour : Int} {l : List P2} (h : s_l02Code p colour l = 0) : Pr p := by
  refine s_l01Code_ok (l := l) ?_
  unfold s_l02Code at h
  split at h
  · exact absurd h (by decide)
  · exact h
set_option maxHeartbeats 1000000 in
theorem s_l02Code_any (p colour : Int) (xs : List P2) (b off cap : Nat) (w : World) (hlen : xs.length ≤ 100000000000) (hx : CellsAt2 w b off xs) :
    Calls Try.prog 98 #[.int .i64 p, .int .i64 colour, .slice (some ⟨b, off, none⟩) xs.length cap] w fun e w' => e = .returned (.int .i64 (s_l02Code p colour xs)) ∧ Ext w w' := by
  have HX := Lib.hid hx; clear hx
  by_cases hc : s_l01Code p xs = 0 <;> cases hd : s_l02Colour colour
  all_goals
    go_enter Try.func98, Try.ntmps98
    go_wp2_with (first | (go_at_call 112; refine (s_l01Code_any p xs b off cap _ hlen HX.out).mono ?_; rintro e w1 ⟨rfl, hb⟩) | (go_at_call 113; refine (s_l02Colour_any _ _).mono ?_; rintro e w1 ⟨rfl, rfl⟩))
    go_ret
    exact ⟨congrArg (fun n => Ending.returned (Value.int .i64 n)) (by simp [s_l02Code, hc, hd]), by assumption⟩

def s_IsDesk (d : (Int × Int × (P2 × P2 × P2))) : Bool :=
  ((s_l02Code d.1 d.2.1 [d.2.2.1, d.2.2.2.1, d.2.2.2.2]) == 0)

set_option maxHeartbeats 400000 in
theorem s_IsDesk_any (d0 : Int) (d1 : Int) (d2 : Int) (d3 : Int) (d4 : Int) (d5 : Int) (d6 : Int) (d7 : Int) (w : World) :
    Calls Try.prog 55 #[.agg #[.int .i64 d0, .int .i64 d1, .int .i64 d2, .int .i64 d3, .int .i64 d4, .int .i64 d5, .int .i64 d6, .int .i64 d7]] w fun e w' => e = .returned (.bool (s_IsDesk (d0, d1, ((d2, d3), (d4, d5), (d6, d7))))) ∧ Ext w w' := by
  by_cases hgt : (s_l02Code d0 d1 [(d2, d3), (d4, d5), (d6, d7)]) = 0
  case' pos => have hp := s_l02Code_ok hgt; have hp1 := hp.1; have hp2 := hp.2; have hp0 := Pr.ne hp
  all_goals
    go_enter Try.func55, Try.ntmps55
  all_goals try go_wp2_with (go_at_call 98; refine (s_l02Code_any _ _ [(d2, d3), (d4, d5), (d6, d7)] _ _ _ _ (by simp) ?_).mono ?_; (focus (simp [CellsAt2, go_sem, *]; done)); rintro e w1 ⟨rfl, hb⟩; obtain ⟨hcl, hfz, hsz⟩ := hb.cells; have hs := hb.size; (try simp only [szA, szS, szD] at hs); (try have hz0 : w.heap.size < w1.heap.size := by omega); (try have hz1 : w.heap.size + 1 < w1.heap.size := by omega); (try have hz2 : w.heap.size + 2 < w1.heap.size := by omega); (try have hz3 : w.heap.size + 3 < w1.heap.size := by omega); (try have hz4 : w.heap.size + 4 < w1.heap.size := by omega); (try have hz5 : w.heap.size + 5 < w1.heap.size := by omega); (try have hq0_0 : w1.cell? ⟨w.heap.size, 0, none⟩ = some (.int .i64 d0) := hb.cell (by simp [go_sem, *])); (try have hq0_1 : w1.cell? ⟨w.heap.size, 1, none⟩ = some (.int .i64 d1) := hb.cell (by simp [go_sem, *])); (try have hq0_2 : w1.cell? ⟨w.heap.size, 2, none⟩ = some (.int .i64 d2) := hb.cell (by simp [go_sem, *])); (try have hq0_3 : w1.cell? ⟨w.heap.size, 3, none⟩ = some (.int .i64 d3) := hb.cell (by simp [go_sem, *])); (try have hq0_4 : w1.cell? ⟨w.heap.size, 4, none⟩ = some (.int .i64 d4) := hb.cell (by simp [go_sem, *])); (try have hq0_5 : w1.cell? ⟨w.heap.size, 5, none⟩ = some (.int .i64 d5) := hb.cell (by simp [go_sem, *])); (try have hq0_6 : w1.cell? ⟨w.heap.size, 6, none⟩ = some (.int .i64 d6) := hb.cell (by simp [go_sem, *])); (try have hq0_7 : w1.cell? ⟨w.heap.size, 7, none⟩ = some (.int .i64 d7) := hb.cell (by simp [go_sem, *])))
  all_goals (go_ret; refine ⟨?_, ?_⟩)
  all_goals first | ((with_reducible (show Ext _ _)); (repeat (first | with_reducible exact Ext.refl _ | with_reducible assumption | with_reducible refine Ext.alloc ?_ _ | with_reducible refine Ext.drewN ?_ _ | with_reducible refine Ext.drew ?_ | with_reducible refine ExtW.ext ?_ _ | (with_reducible refine Ext.trans ?_ (by assumption)) | (with_reducible refine Ext.setCell ?_ (by first | (simp; done) | (simp; omega)) _))); done) | (refine congrArg (fun v => Ending.returned (Value.bool v)) ?_; ((try simp only [IntWalk.i64_left]); first | rfl | (simp only [s_IsDesk, hgt, bne_self_eq_false, beq_self_eq_true, Bool.false_eq_true, Bool.not_true, Bool.not_false, ↓reduceIte]; simp [*]; done) | (simp only [s_IsDesk, hgt, bne_self_eq_false, beq_self_eq_true, Bool.false_eq_true, Bool.not_true, Bool.not_false, ↓reduceIte]; done) | (simp only [s_IsDesk, *, Bool.false_eq_true, ↓reduceIte]; done) | (simp [s_IsDesk, *]; done) | (simp_all [s_IsDesk]; done) | (simp [s_IsDesk, *]; omega)))

def l_toPoint (a : P2) : P2 :=
  (a.1, a.2)

set_option maxHeartbeats 400000 in
theorem l_toPoint_any (a0 : Int) (a1 : Int) (w : World) :
    Calls Try.prog 114 #[.agg #[.int .i64 a0, .int .i64 a1]] w fun e w' => e = .returned (.agg #[.int .i64 ((l_toPoint (a0, a1)).1), .int .i64 ((l_toPoint (a0, a1)).2)]) ∧ Ext w w' := by
  go_enter Try.func114, Try.ntmps114
  go_wp2
  all_goals try refine wp_loop_rounds 3 ?_
  all_goals try rw [rounds_succ]
  all_goals try go_wp2
  all_goals try rw [rounds_succ]
  all_goals try go_wp2
  all_goals try rw [rounds_succ]
  all_goals try go_wp2
  all_goals (refine bodyPost_ret (v := .agg #[.int .i64 ((l_toPoint (a0, a1)).1), .int .i64 ((l_toPoint (a0, a1)).2)]) ?_ rfl ⟨rfl, ?_⟩)
  all_goals first | ((with_reducible (show Ext _ _)); (repeat (first | with_reducible exact Ext.refl _ | with_reducible assumption | with_reducible refine Ext.alloc ?_ _ | with_reducible refine Ext.drewN ?_ _ | with_reducible refine Ext.drew ?_ | with_reducible refine ExtW.ext ?_ _ | (with_reducible refine Ext.trans ?_ (by assumption)) | (with_reducible refine Ext.setCell ?_ (by first | (simp; done) | (simp; omega)) _))); done) | (simp [results, Try.results114, go_sem, IntWalk.i64_left, l_toPoint, *]; done) | (simp [results, Try.results114, go_sem, IntWalk.i64_left, l_toPoint, *]; rfl) | (simp [results, Try.results114, go_sem, IntWalk.i64_left, l_toPoint, *] at *; done)

def l_toPointA3 (a : (P2 × P2 × P2)) : (P2 × P2 × P2) :=
  ((l_toPoint a.1), (l_toPoint a.2.1), (l_toPoint a.2.2))

set_option maxHeartbeats 400000 in
theorem l_toPointA3_any (a0 : Int) (a1 : Int) (a2 : Int) (a3 : Int) (a4 : Int) (a5 : Int) (w : World) :
    Calls Try.prog 99 #[.agg #[.int .i64 a0, .int .i64 a1, .int .i64 a2, .int .i64 a3, .int .i64 a4, .int .i64 a5]] w fun e w' => e = .returned (.agg #[.int .i64 (((l_toPointA3 ((a0, a1), (a2, a3), (a4, a5))).1).1), .int .i64 (((l_toPointA3 ((a0, a1), (a2, a3), (a4, a5))).1).2), .int .i64 (((l_toPointA3 ((a0, a1), (a2, a3), (a4, a5))).2.1).1), .int .i64 (((l_toPointA3 ((a0, a1), (a2, a3), (a4, a5))).2.1).2), .int .i64 (((l_toPointA3 ((a0, a1), (a2, a3), (a4, a5))).2.2).1), .int .i64 (((l_toPointA3 ((a0, a1), (a2, a3), (a4, a5))).2.2).2)]) ∧ Ext w w' := by
  go_enter Try.func99, Try.ntmps99
  go_wp2_with (go_at_call 114; refine (l_toPoint_any _ _ _).mono ?_; rintro e w1 ⟨rfl, hb⟩; obtain ⟨hcl, hfz, hsz⟩ := hb.cells; have hs := hb.size; (try simp only [szA, szS, szD] at hs); (try have hz0 : w.heap.size < w1.heap.size := by omega); (try have hz1 : w.heap.size + 1 < w1.heap.size := by omega); (try have hz2 : w.heap.size + 2 < w1.heap.size := by omega); (try have hz3 : w.heap.size + 3 < w1.heap.size := by omega); (try have hz4 : w.heap.size + 4 < w1.heap.size := by omega); (try have hz5 : w.heap.size + 5 < w1.heap.size := by omega); (try have hq0_0 : w1.cell? ⟨w.heap.size, 0, none⟩ = some (.int .i64 a0) := hb.cell (by simp [go_sem, *])); (try have hq0_1 : w1.cell? ⟨w.heap.size, 1, none⟩ = some (.int .i64 a1) := hb.cell (by simp [go_sem, *])); (try have hq0_2 : w1.cell? ⟨w.heap.size, 2, none⟩ = some (.int .i64 a2) := hb.cell (by simp [go_sem, *])); (try have hq0_3 : w1.cell? ⟨w.heap.size, 3, none⟩ = some (.int .i64 a3) := hb.cell (by simp [go_sem, *])); (try have hq0_4 : w1.cell? ⟨w.heap.size, 4, none⟩ = some (.int .i64 a4) := hb.cell (by simp [go_sem, *])); (try have hq0_5 : w1.cell? ⟨w.heap.size, 5, none⟩ = some (.int .i64 a5) := hb.cell (by simp [go_sem, *])); (try have hq1_0 : w1.cell? ⟨w.heap.size + 1, 0, none⟩ = some (.int .i64 0) := hb.cell (by simp [go_sem, *])); (try have hq1_1 : w1.cell? ⟨w.heap.size + 1, 1, none⟩ = some (.int .i64 0) := hb.cell (by simp [go_sem, *])); (try have hq1_2 : w1.cell? ⟨w.heap.size + 1, 2, none⟩ = some (.int .i64 0) := hb.cell (by simp [go_sem, *])); (try have hq1_3 : w1.cell? ⟨w.heap.size + 1, 3, none⟩ = some (.int .i64 0) := hb.cell (by simp [go_sem, *])); (try have hq1_4 : w1.cell? ⟨w.heap.size + 1, 4, none⟩ = some (.int .i64 0) := hb.cell (by simp [go_sem, *])); (try have hq1_5 : w1.cell? ⟨w.heap.size + 1, 5, none⟩ = some (.int .i64 0) := hb.cell (by simp [go_sem, *])))
  all_goals try refine wp_loop_rounds 4 ?_
  all_goals try rw [rounds_succ]
  all_goals try go_wp2_with (go_at_call 114; refine (l_toPoint_any _ _ _).mono ?_; rintro e w1 ⟨rfl, hb⟩; obtain ⟨hcl, hfz, hsz⟩ := hb.cells; have hs := hb.size; (try simp only [szA, szS, szD] at hs); (try have hz0 : w.heap.size < w1.heap.size := by omega); (try have hz1 : w.heap.size + 1 < w1.heap.size := by omega); (try have hz2 : w.heap.size + 2 < w1.heap.size := by omega); (try have hz3 : w.heap.size + 3 < w1.heap.size := by omega); (try have hz4 : w.heap.size + 4 < w1.heap.size := by omega); (try have hz5 : w.heap.size + 5 < w1.heap.size := by omega); (try have hq0_0 : w1.cell? ⟨w.heap.size, 0, none⟩ = some (.int .i64 a0) := hb.cell (by simp [go_sem, *])); (try have hq0_1 : w1.cell? ⟨w.heap.size, 1, none⟩ = some (.int .i64 a1) := hb.cell (by simp [go_sem, *])); (try have hq0_2 : w1.cell? ⟨w.heap.size, 2, none⟩ = some (.int .i64 a2) := hb.cell (by simp [go_sem, *])); (try have hq0_3 : w1.cell? ⟨w.heap.size, 3, none⟩ = some (.int .i64 a3) := hb.cell (by simp [go_sem, *])); (try have hq0_4 : w1.cell? ⟨w.heap.size, 4, none⟩ = some (.int .i64 a4) := hb.cell (by simp [go_sem, *])); (try have hq0_5 : w1.cell? ⟨w.heap.size, 5, none⟩ = some (.int .i64 a5) := hb.cell (by simp [go_sem, *])); (try have hq1_0 : w1.cell? ⟨w.heap.size + 1, 0, none⟩ = some (.int .i64 0) := hb.cell (by simp [go_sem, *])); (try have hq1_1 : w1.cell? ⟨w.heap.size + 1, 1, none⟩ = some (.int .i64 0) := hb.cell (by simp [go_sem, *])); (try have hq1_2 : w1.cell? ⟨w.heap.size + 1, 2, none⟩ = some (.int .i64 0) := hb.cell (by simp [go_sem, *])); (try have hq1_3 : w1.cell? ⟨w.heap.size + 1, 3, none⟩ = some (.int .i64 0) := hb.cell (by simp [go_sem, *])); (try have hq1_4 : w1.cell? ⟨w.heap.size + 1, 4, none⟩ = some (.int .i64 0) := hb.cell (by simp [go_sem, *])); (try have hq1_5 : w1.cell? ⟨w.heap.size + 1, 5, none⟩ = some (.int .i64 0) := hb.cell (by simp [go_sem, *])))
  all_goals try rw [rounds_succ]
  all_goals try go_wp2_with (go_at_call 114; refine (l_toPoint_any _ _ _).mono ?_; rintro e w1 ⟨rfl, hb⟩; obtain ⟨hcl, hfz, hsz⟩ := hb.cells; have hs := hb.size; (try simp only [szA, szS, szD] at hs); (try have hz0 : w.heap.size < w1.heap.size := by omega); (try have hz1 : w.heap.size + 1 < w1.heap.size := by omega); (try have hz2 : w.heap.size + 2 < w1.heap.size := by omega); (try have hz3 : w.heap.size + 3 < w1.heap.size := by omega); (try have hz4 : w.heap.size + 4 < w1.heap.size := by omega); (try have hz5 : w.heap.size + 5 < w1.heap.size := by omega); (try have hq0_0 : w1.cell? ⟨w.heap.size, 0, none⟩ = some (.int .i64 a0) := hb.cell (by simp [go_sem, *])); (try have hq0_1 : w1.cell? ⟨w.heap.size, 1, none⟩ = some (.int .i64 a1) := hb.cell (by simp [go_sem, *])); (try have hq0_2 : w1.cell? ⟨w.heap.size, 2, none⟩ = some (.int .i64 a2) := hb.cell (by simp [go_sem, *])); (try have hq0_3 : w1.cell? ⟨w.heap.size, 3, none⟩ = some (.int .i64 a3) := hb.cell (by simp [go_sem, *])); (try have hq0_4 : w1.cell? ⟨w.heap.size, 4, none⟩ = some (.int .i64 a4) := hb.cell (by simp [go_sem, *])); (try have hq0_5 : w1.cell? ⟨w.heap.size, 5, none⟩ = some (.int .i64 a5) := hb.cell (by simp [go_sem, *])); (try have hq1_0 : w1.cell? ⟨w.heap.size + 1, 0, none⟩ = some (.int .i64 0) := hb.cell (by simp [go_sem, *])); (try have hq1_1 : w1.cell? ⟨w.heap.size + 1, 1, none⟩ = some (.int .i64 0) := hb.cell (by simp [go_sem, *])); (try have hq1_2 : w1.cell? ⟨w.heap.size + 1, 2, none⟩ = some (.int .i64 0) := hb.cell (by simp [go_sem, *])); (try have hq1_3 : w1.cell? ⟨w.heap.size + 1, 3, none⟩ = some (.int .i64 0) := hb.cell (by simp [go_sem, *])); (try have hq1_4 : w1.cell? ⟨w.heap.size + 1, 4, none⟩ = some (.int .i64 0) := hb.cell (by simp [go_sem, *])); (try have hq1_5 : w1.cell? ⟨w.heap.size + 1, 5, none⟩ = some (.int .i64 0) := hb.cell (by simp [go_sem, *])))
  all_goals try rw [rounds_succ]
  all_goals try go_wp2_with (go_at_call 114; refine (l_toPoint_any _ _ _).mono ?_; rintro e w1 ⟨rfl, hb⟩; obtain ⟨hcl, hfz, hsz⟩ := hb.cells; have hs := hb.size; (try simp only [szA, szS, szD] at hs); (try have hz0 : w.heap.size < w1.heap.size := by omega); (try have hz1 : w.heap.size + 1 < w1.heap.size := by omega); (try have hz2 : w.heap.size + 2 < w1.heap.size := by omega); (try have hz3 : w.heap.size + 3 < w1.heap.size := by omega); (try have hz4 : w.heap.size + 4 < w1.heap.size := by omega); (try have hz5 : w.heap.size + 5 < w1.heap.size := by omega); (try have hq0_0 : w1.cell? ⟨w.heap.size, 0, none⟩ = some (.int .i64 a0) := hb.cell (by simp [go_sem, *])); (try have hq0_1 : w1.cell? ⟨w.heap.size, 1, none⟩ = some (.int .i64 a1) := hb.cell (by simp [go_sem, *])); (try have hq0_2 : w1.cell? ⟨w.heap.size, 2, none⟩ = some (.int .i64 a2) := hb.cell (by simp [go_sem, *])); (try have hq0_3 : w1.cell? ⟨w.heap.size, 3, none⟩ = some (.int .i64 a3) := hb.cell (by simp [go_sem, *])); (try have hq0_4 : w1.cell? ⟨w.heap.size, 4, none⟩ = some (.int .i64 a4) := hb.cell (by simp [go_sem, *])); (try have hq0_5 : w1.cell? ⟨w.heap.size, 5, none⟩ = some (.int .i64 a5) := hb.cell (by simp [go_sem, *])); (try have hq1_0 : w1.cell? ⟨w.heap.size + 1, 0, none⟩ = some (.int .i64 0) := hb.cell (by simp [go_sem, *])); (try have hq1_1 : w1.cell? ⟨w.heap.size + 1, 1, none⟩ = some (.int .i64 0) := hb.cell (by simp [go_sem, *])); (try have hq1_2 : w1.cell? ⟨w.heap.size + 1, 2, none⟩ = some (.int .i64 0) := hb.cell (by simp [go_sem, *])); (try have hq1_3 : w1.cell? ⟨w.heap.size + 1, 3, none⟩ = some (.int .i64 0) := hb.cell (by simp [go_sem, *])); (try have hq1_4 : w1.cell? ⟨w.heap.size + 1, 4, none⟩ = some (.int .i64 0) := hb.cell (by simp [go_sem, *])); (try have hq1_5 : w1.cell? ⟨w.heap.size + 1, 5, none⟩ = some (.int .i64 0) := hb.cell (by simp [go_sem, *])))
  all_goals try rw [rounds_succ]
  all_goals try go_wp2_with (go_at_call 114; refine (l_toPoint_any _ _ _).mono ?_; rintro e w1 ⟨rfl, hb⟩; obtain ⟨hcl, hfz, hsz⟩ := hb.cells; have hs := hb.size; (try simp only [szA, szS, szD] at hs); (try have hz0 : w.heap.size < w1.heap.size := by omega); (try have hz1 : w.heap.size + 1 < w1.heap.size := by omega); (try have hz2 : w.heap.size + 2 < w1.heap.size := by omega); (try have hz3 : w.heap.size + 3 < w1.heap.size := by omega); (try have hz4 : w.heap.size + 4 < w1.heap.size := by omega); (try have hz5 : w.heap.size + 5 < w1.heap.size := by omega); (try have hq0_0 : w1.cell? ⟨w.heap.size, 0, none⟩ = some (.int .i64 a0) := hb.cell (by simp [go_sem, *])); (try have hq0_1 : w1.cell? ⟨w.heap.size, 1, none⟩ = some (.int .i64 a1) := hb.cell (by simp [go_sem, *])); (try have hq0_2 : w1.cell? ⟨w.heap.size, 2, none⟩ = some (.int .i64 a2) := hb.cell (by simp [go_sem, *])); (try have hq0_3 : w1.cell? ⟨w.heap.size, 3, none⟩ = some (.int .i64 a3) := hb.cell (by simp [go_sem, *])); (try have hq0_4 : w1.cell? ⟨w.heap.size, 4, none⟩ = some (.int .i64 a4) := hb.cell (by simp [go_sem, *])); (try have hq0_5 : w1.cell? ⟨w.heap.size, 5, none⟩ = some (.int .i64 a5) := hb.cell (by simp [go_sem, *])); (try have hq1_0 : w1.cell? ⟨w.heap.size + 1, 0, none⟩ = some (.int .i64 0) := hb.cell (by simp [go_sem, *])); (try have hq1_1 : w1.cell? ⟨w.heap.size + 1, 1, none⟩ = some (.int .i64 0) := hb.cell (by simp [go_sem, *])); (try have hq1_2 : w1.cell? ⟨w.heap.size + 1, 2, none⟩ = some (.int .i64 0) := hb.cell (by simp [go_sem, *])); (try have hq1_3 : w1.cell? ⟨w.heap.size + 1, 3, none⟩ = some (.int .i64 0) := hb.cell (by simp [go_sem, *])); (try have hq1_4 : w1.cell? ⟨w.heap.size + 1, 4, none⟩ = some (.int .i64 0) := hb.cell (by simp [go_sem, *])); (try have hq1_5 : w1.cell? ⟨w.heap.size + 1, 5, none⟩ = some (.int .i64 0) := hb.cell (by simp [go_sem, *])))
  all_goals (refine bodyPost_ret (v := .agg #[.int .i64 (((l_toPointA3 ((a0, a1), (a2, a3), (a4, a5))).1).1), .int .i64 (((l_toPointA3 ((a0, a1), (a2, a3), (a4, a5))).1).2), .int .i64 (((l_toPointA3 ((a0, a1), (a2, a3), (a4, a5))).2.1).1), .int .i64 (((l_toPointA3 ((a0, a1), (a2, a3), (a4, a5))).2.1).2), .int .i64 (((l_toPointA3 ((a0, a1), (a2, a3), (a4, a5))).2.2).1), .int .i64 (((l_toPointA3 ((a0, a1), (a2, a3), (a4, a5))).2.2).2)]) ?_ rfl ⟨rfl, ?_⟩)
  all_goals first | ((with_reducible (show Ext _ _)); (repeat (first | with_reducible exact Ext.refl _ | with_reducible assumption | with_reducible refine Ext.alloc ?_ _ | with_reducible refine Ext.drewN ?_ _ | with_reducible refine Ext.drew ?_ | with_reducible refine ExtW.ext ?_ _ | (with_reducible refine Ext.trans ?_ (by assumption)) | (with_reducible refine Ext.setCell ?_ (by first | (simp; done) | (simp; omega)) _))); done) | (simp [results, Try.results99, go_sem, IntWalk.i64_left, l_toPointA3, *]; done) | (simp [results, Try.results99, go_sem, IntWalk.i64_left, l_toPointA3, *]; rfl) | (simp [results, Try.results99, go_sem, IntWalk.i64_left, l_toPointA3, *] at *; done)

def l_toDesk (a : (Int × Int × (P2 × P2 × P2))) : (Int × Int × (P2 × P2 × P2)) :=
  (a.1, a.2.1, (l_toPointA3 a.2.2))

set_option maxHeartbeats 400000 in
theorem l_toDesk_any (a0 : Int) (a1 : Int) (a2 : Int) (a3 : Int) (a4 : Int) (a5 : Int) (a6 : Int) (a7 : Int) (w : World) :
    Calls Try.prog 56 #[.agg #[.int .i64 a0, .int .i64 a1, .int .i64 a2, .int .i64 a3, .int .i64 a4, .int .i64 a5, .int .i64 a6, .int .i64 a7]] w fun e w' => e = .returned (.agg #[.int .i64 ((l_toDesk (a0, a1, ((a2, a3), (a4, a5), (a6, a7)))).1), .int .i64 ((l_toDesk (a0, a1, ((a2, a3), (a4, a5), (a6, a7)))).2.1), .int .i64 ((((l_toDesk (a0, a1, ((a2, a3), (a4, a5), (a6, a7)))).2.2).1).1), .int .i64 ((((l_toDesk (a0, a1, ((a2, a3), (a4, a5), (a6, a7)))).2.2).1).2), .int .i64 ((((l_toDesk (a0, a1, ((a2, a3), (a4, a5), (a6, a7)))).2.2).2.1).1), .int .i64 ((((l_toDesk (a0, a1, ((a2, a3), (a4, a5), (a6, a7)))).2.2).2.1).2), .int .i64 ((((l_toDesk (a0, a1, ((a2, a3), (a4, a5), (a6, a7)))).2.2).2.2).1), .int .i64 ((((l_toDesk (a0, a1, ((a2, a3), (a4, a5), (a6, a7)))).2.2).2.2).2)]) ∧ Ext w w' := by
  go_enter Try.func56, Try.ntmps56
  go_wp2_with (go_at_call 99; refine (l_toPointA3_any _ _ _ _ _ _ _).mono ?_; rintro e w1 ⟨rfl, hb⟩; obtain ⟨hcl, hfz, hsz⟩ := hb.cells; have hs := hb.size; (try simp only [szA, szS, szD] at hs); (try have hz0 : w.heap.size < w1.heap.size := by omega); (try have hz1 : w.heap.size + 1 < w1.heap.size := by omega); (try have hz2 : w.heap.size + 2 < w1.heap.size := by omega); (try have hz3 : w.heap.size + 3 < w1.heap.size := by omega); (try have hz4 : w.heap.size + 4 < w1.heap.size := by omega); (try have hz5 : w.heap.size + 5 < w1.heap.size := by omega); (try have hq0_0 : w1.cell? ⟨w.heap.size, 0, none⟩ = some (.int .i64 a0) := hb.cell (by simp [go_sem, *])); (try have hq0_1 : w1.cell? ⟨w.heap.size, 1, none⟩ = some (.int .i64 a1) := hb.cell (by simp [go_sem, *])); (try have hq0_2 : w1.cell? ⟨w.heap.size, 2, none⟩ = some (.int .i64 a2) := hb.cell (by simp [go_sem, *])); (try have hq0_3 : w1.cell? ⟨w.heap.size, 3, none⟩ = some (.int .i64 a3) := hb.cell (by simp [go_sem, *])); (try have hq0_4 : w1.cell? ⟨w.heap.size, 4, none⟩ = some (.int .i64 a4) := hb.cell (by simp [go_sem, *])); (try have hq0_5 : w1.cell? ⟨w.heap.size, 5, none⟩ = some (.int .i64 a5) := hb.cell (by simp [go_sem, *])); (try have hq0_6 : w1.cell? ⟨w.heap.size, 6, none⟩ = some (.int .i64 a6) := hb.cell (by simp [go_sem, *])); (try have hq0_7 : w1.cell? ⟨w.heap.size, 7, none⟩ = some (.int .i64 a7) := hb.cell (by simp [go_sem, *])); (try have hq1_0 : w1.cell? ⟨w.heap.size + 1, 0, none⟩ = some (.int .i64 0) := hb.cell (by simp [go_sem, *])); (try have hq1_1 : w1.cell? ⟨w.heap.size + 1, 1, none⟩ = some (.int .i64 0) := hb.cell (by simp [go_sem, *])); (try have hq1_2 : w1.cell? ⟨w.heap.size + 1, 2, none⟩ = some (.int .i64 0) := hb.cell (by simp [go_sem, *])); (try have hq1_3 : w1.cell? ⟨w.heap.size + 1, 3, none⟩ = some (.int .i64 0) := hb.cell (by simp [go_sem, *])); (try have hq1_4 : w1.cell? ⟨w.heap.size + 1, 4, none⟩ = some (.int .i64 0) := hb.cell (by simp [go_sem, *])); (try have hq1_5 : w1.cell? ⟨w.heap.size + 1, 5, none⟩ = some (.int .i64 0) := hb.cell (by simp [go_sem, *])); (try have hq1_6 : w1.cell? ⟨w.heap.size + 1, 6, none⟩ = some (.int .i64 0) := hb.cell (by simp [go_sem, *])); (try have hq1_7 : w1.cell? ⟨w.heap.size + 1, 7, none⟩ = some (.int .i64 0) := hb.cell (by simp [go_sem, *])))
  all_goals (refine bodyPost_ret (v := .agg #[.int .i64 ((l_toDesk (a0, a1, ((a2, a3), (a4, a5), (a6, a7)))).1), .int .i64 ((l_toDesk (a0, a1, ((a2, a3), (a4, a5), (a6, a7)))).2.1), .int .i64 ((((l_toDesk (a0, a1, ((a2, a3), (a4, a5), (a6, a7)))).2.2).1).1), .int .i64 ((((l_toDesk (a0, a1, ((a2, a3), (a4, a5), (a6, a7)))).2.2).1).2), .int .i64 ((((l_toDesk (a0, a1, ((a2, a3), (a4, a5), (a6, a7)))).2.2).2.1).1), .int .i64 ((((l_toDesk (a0, a1, ((a2, a3), (a4, a5), (a6, a7)))).2.2).2.1).2), .int .i64 ((((l_toDesk (a0, a1, ((a2, a3), (a4, a5), (a6, a7)))).2.2).2.2).1), .int .i64 ((((l_toDesk (a0, a1, ((a2, a3), (a4, a5), (a6, a7)))).2.2).2.2).2)]) ?_ rfl ⟨rfl, ?_⟩)
  all_goals first | ((with_reducible (show Ext _ _)); (repeat (first | with_reducible exact Ext.refl _ | with_reducible assumption | with_reducible refine Ext.alloc ?_ _ | with_reducible refine Ext.drewN ?_ _ | with_reducible refine Ext.drew ?_ | with_reducible refine ExtW.ext ?_ _ | (with_reducible refine Ext.trans ?_ (by assumption)) | (with_reducible refine Ext.setCell ?_ (by first | (simp; done) | (simp; omega)) _))); done) | (simp [results, Try.results56, go_sem, IntWalk.i64_left, l_toDesk, *]; done) | (simp [results, Try.results56, go_sem, IntWalk.i64_left, l_toDesk, *]; rfl) | (simp [results, Try.results56, go_sem, IntWalk.i64_left, l_toDesk, *] at *; done)

def l_FnExactIsDesk (aD : (Int × Int × (P2 × P2 × P2))) : Bool :=
  (if ((i_IsDesk (l_toDesk aD)) != (s_IsDesk (l_toDesk aD))) = true then false else true)

set_option maxHeartbeats 400000 in
theorem l_FnExactIsDesk_any (aD0 : Int) (aD1 : Int) (aD2 : Int) (aD3 : Int) (aD4 : Int) (aD5 : Int) (aD6 : Int) (aD7 : Int) (w : World) :
    Calls Try.prog 17 #[.agg #[.int .i64 aD0, .int .i64 aD1, .int .i64 aD2, .int .i64 aD3, .int .i64 aD4, .int .i64 aD5, .int .i64 aD6, .int .i64 aD7]] w fun e w' => e = .returned (.bool (l_FnExactIsDesk (aD0, aD1, ((aD2, aD3), (aD4, aD5), (aD6, aD7))))) ∧ Ext w w' := by
  go_enter Try.func17, Try.ntmps17
  go_wp2_with (first | (go_at_call 56; refine (l_toDesk_any _ _ _ _ _ _ _ _ _).mono ?_; rintro e w1 ⟨rfl, hb⟩; obtain ⟨hcl, hfz, hsz⟩ := hb.cells; have hs := hb.size; (try simp only [szA, szS, szD] at hs); (try have hz0 : w.heap.size < w1.heap.size := by omega); (try have hz1 : w.heap.size + 1 < w1.heap.size := by omega); (try have hz2 : w.heap.size + 2 < w1.heap.size := by omega); (try have hz3 : w.heap.size + 3 < w1.heap.size := by omega); (try have hz4 : w.heap.size + 4 < w1.heap.size := by omega); (try have hz5 : w.heap.size + 5 < w1.heap.size := by omega); (try have hq0_0 : w1.cell? ⟨w.heap.size, 0, none⟩ = some (.int .i64 aD0) := hb.cell (by simp [go_sem, *])); (try have hq0_1 : w1.cell? ⟨w.heap.size, 1, none⟩ = some (.int .i64 aD1) := hb.cell (by simp [go_sem, *])); (try have hq0_2 : w1.cell? ⟨w.heap.size, 2, none⟩ = some (.int .i64 aD2) := hb.cell (by simp [go_sem, *])); (try have hq0_3 : w1.cell? ⟨w.heap.size, 3, none⟩ = some (.int .i64 aD3) := hb.cell (by simp [go_sem, *])); (try have hq0_4 : w1.cell? ⟨w.heap.size, 4, none⟩ = some (.int .i64 aD4) := hb.cell (by simp [go_sem, *])); (try have hq0_5 : w1.cell? ⟨w.heap.size, 5, none⟩ = some (.int .i64 aD5) := hb.cell (by simp [go_sem, *])); (try have hq0_6 : w1.cell? ⟨w.heap.size, 6, none⟩ = some (.int .i64 aD6) := hb.cell (by simp [go_sem, *])); (try have hq0_7 : w1.cell? ⟨w.heap.size, 7, none⟩ = some (.int .i64 aD7) := hb.cell (by simp [go_sem, *]))) | (go_at_call 55; refine (s_IsDesk_any _ _ _ _ _ _ _ _ _).mono ?_; rintro e w1 ⟨rfl, hb⟩; obtain ⟨hcl, hfz, hsz⟩ := hb.cells; have hs := hb.size; (try simp only [szA, szS, szD] at hs); (try have hz0 : w.heap.size < w1.heap.size := by omega); (try have hz1 : w.heap.size + 1 < w1.heap.size := by omega); (try have hz2 : w.heap.size + 2 < w1.heap.size := by omega); (try have hz3 : w.heap.size + 3 < w1.heap.size := by omega); (try have hz4 : w.heap.size + 4 < w1.heap.size := by omega); (try have hz5 : w.heap.size + 5 < w1.heap.size := by omega); (try have hq0_0 : w1.cell? ⟨w.heap.size, 0, none⟩ = some (.int .i64 aD0) := hb.cell (by simp [go_sem, *])); (try have hq0_1 : w1.cell? ⟨w.heap.size, 1, none⟩ = some (.int .i64 aD1) := hb.cell (by simp [go_sem, *])); (try have hq0_2 : w1.cell? ⟨w.heap.size, 2, none⟩ = some (.int .i64 aD2) := hb.cell (by simp [go_sem, *])); (try have hq0_3 : w1.cell? ⟨w.heap.size, 3, none⟩ = some (.int .i64 aD3) := hb.cell (by simp [go_sem, *])); (try have hq0_4 : w1.cell? ⟨w.heap.size, 4, none⟩ = some (.int .i64 aD4) := hb.cell (by simp [go_sem, *])); (try have hq0_5 : w1.cell? ⟨w.heap.size, 5, none⟩ = some (.int .i64 aD5) := hb.cell (by simp [go_sem, *])); (try have hq0_6 : w1.cell? ⟨w.heap.size, 6, none⟩ = some (.int .i64 aD6) := hb.cell (by simp [go_sem, *])); (try have hq0_7 : w1.cell? ⟨w.heap.size, 7, none⟩ = some (.int .i64 aD7) := hb.cell (by simp [go_sem, *]))) | (go_at_call 57; refine (i_IsDesk_any _ _ _ _ _ _ _ _ _).mono ?_; rintro e w1 ⟨rfl, hb⟩; obtain ⟨hcl, hfz, hsz⟩ := hb.cells; have hs := hb.size; (try simp only [szA, szS, szD] at hs); (try have hz0 : w.heap.size < w1.heap.size := by omega); (try have hz1 : w.heap.size + 1 < w1.heap.size := by omega); (try have hz2 : w.heap.size + 2 < w1.heap.size := by omega); (try have hz3 : w.heap.size + 3 < w1.heap.size := by omega); (try have hz4 : w.heap.size + 4 < w1.heap.size := by omega); (try have hz5 : w.heap.size + 5 < w1.heap.size := by omega); (try have hq0_0 : w1.cell? ⟨w.heap.size, 0, none⟩ = some (.int .i64 aD0) := hb.cell (by simp [go_sem, *])); (try have hq0_1 : w1.cell? ⟨w.heap.size, 1, none⟩ = some (.int .i64 aD1) := hb.cell (by simp [go_sem, *])); (try have hq0_2 : w1.cell? ⟨w.heap.size, 2, none⟩ = some (.int .i64 aD2) := hb.cell (by simp [go_sem, *])); (try have hq0_3 : w1.cell? ⟨w.heap.size, 3, none⟩ = some (.int .i64 aD3) := hb.cell (by simp [go_sem, *])); (try have hq0_4 : w1.cell? ⟨w.heap.size, 4, none⟩ = some (.int .i64 aD4) := hb.cell (by simp [go_sem, *])); (try have hq0_5 : w1.cell? ⟨w.heap.size, 5, none⟩ = some (.int .i64 aD5) := hb.cell (by simp [go_sem, *])); (try have hq0_6 : w1.cell? ⟨w.heap.size, 6, none⟩ = some (.int .i64 aD6) := hb.cell (by simp [go_sem, *])); (try have hq0_7 : w1.cell? ⟨w.heap.size, 7, none⟩ = some (.int .i64 aD7) := hb.cell (by simp [go_sem, *]))))
  all_goals (go_ret; refine ⟨?_, ?_⟩)
  all_goals first | ((with_reducible (show Ext _ _)); (repeat (first | with_reducible exact Ext.refl _ | with_reducible assumption | with_reducible refine Ext.alloc ?_ _ | with_reducible refine Ext.drewN ?_ _ | with_reducible refine Ext.drew ?_ | with_reducible refine ExtW.ext ?_ _ | (with_reducible refine Ext.trans ?_ (by assumption)) | (with_reducible refine Ext.setCell ?_ (by first | (simp; done) | (simp; omega)) _))); done) | (refine congrArg (fun v => Ending.returned (Value.bool v)) ?_; ((try simp only [IntWalk.i64_left]); first | rfl | (simp only [l_FnExactIsDesk, *, Bool.false_eq_true, ↓reduceIte]; done) | (simp [l_FnExactIsDesk, *]; done) | (simp_all [l_FnExactIsDesk]; done) | (simp [l_FnExactIsDesk, *]; omega)))


end Go.Proofs.Ytcechmaoihckgaa
