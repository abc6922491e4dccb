import Derived.Test.YtcechmaoihckgaaBase
set_option linter.unusedSimpArgs false
set_option linter.unusedVariables false
namespace Go.Proofs.Ytcechmaoihckgaa
open Go.RowKit

def i_rest (p x : Int) : Int := x % p
set_option maxHeartbeats 400000 in
theorem i_rest_any (p x : Int) (w : World) (hp : Pr p) :
    Calls Try.prog 105 #[.int .i64 p, .int .i64 x] w fun e w' => e = .returned (.int .i64 (i_rest p x)) ∧ w = w' := by
  obtain ⟨h1, h2⟩ := hp
  obtain ⟨t1, t2⟩ := tmod_bd x p h1
  go_enter Try.func105, Try.ntmps105
  go_wp2
  go_ret
  exact ⟨congrArg (fun n => Ending.returned (Value.int .i64 n)) (rest_eq x p), rfl⟩

def s_l01Mod (x p : Int) : Int := x % p
set_option maxHeartbeats 400000 in
theorem s_l01Mod_any (x p : Int) (w : World) (hp : Pr p) :
    Calls Try.prog 104 #[.int .i64 x, .int .i64 p] w fun e w' => e = .returned (.int .i64 (s_l01Mod x p)) ∧ w = w' := by
  obtain ⟨h1, h2⟩ := hp
  obtain ⟨t1, t2⟩ := tmod_bd x p h1
  go_enter Try.func104, Try.ntmps104
  go_wp2
  go_ret
  exact ⟨congrArg (fun n => Ending.returned (Value.int .i64 n)) (rest_eq x p), rfl⟩

def i_isNumber (p : Int) (x : Int) : Bool :=
  (decide (0 ≤ x) && decide (x < p))

set_option maxHeartbeats 400000 in
theorem i_isNumber_any (p : Int) (x : Int) (w : World) :
    Calls Try.prog 108 #[.int .i64 p, .int .i64 x] w fun e w' => e = .returned (.bool (i_isNumber p x)) ∧ w = w' := by
  go_enter Try.func108, Try.ntmps108
  go_wp2
  all_goals (go_ret; refine ⟨?_, rfl⟩)
  all_goals first | ((with_reducible (show Ext _ _)); (repeat (first | with_reducible exact Ext.refl _ | with_reducible assumption | with_reducible refine Ext.alloc ?_ _ | with_reducible refine Ext.drewN ?_ _ | with_reducible refine Ext.drew ?_ | with_reducible refine ExtW.ext ?_ _ | (with_reducible refine Ext.trans ?_ (by assumption)) | (with_reducible refine Ext.setCell ?_ (by first | (simp; done) | (simp; omega)) _))); done) | (refine congrArg (fun v => Ending.returned (Value.bool v)) ?_; ((try simp only [IntWalk.i64_left]); first | rfl | (simp only [i_isNumber, *, Bool.false_eq_true, ↓reduceIte]; done) | (simp [i_isNumber, *]; done) | (simp_all [i_isNumber]; done) | (simp [i_isNumber, *]; omega)))

def s_l01In (n : Int) (low : Int) (high : Int) : Bool :=
  (decide (low ≤ n) && decide (n ≤ high))

set_option maxHeartbeats 400000 in
theorem s_l01In_any (n : Int) (low : Int) (high : Int) (w : World) :
    Calls Try.prog 106 #[.int .i64 n, .int .i64 low, .int .i64 high] w fun e w' => e = .returned (.bool (s_l01In n low high)) ∧ w = w' := by
  go_enter Try.func106, Try.ntmps106
  go_wp2
  all_goals (go_ret; refine ⟨?_, rfl⟩)
  all_goals first | ((with_reducible (show Ext _ _)); (repeat (first | with_reducible exact Ext.refl _ | with_reducible assumption | with_reducible refine Ext.alloc ?_ _ | with_reducible refine Ext.drewN ?_ _ | with_reducible refine Ext.drew ?_ | with_reducible refine ExtW.ext ?_ _ | (with_reducible refine Ext.trans ?_ (by assumption)) | (with_reducible refine Ext.setCell ?_ (by first | (simp; done) | (simp; omega)) _))); done) | (refine congrArg (fun v => Ending.returned (Value.bool v)) ?_; ((try simp only [IntWalk.i64_left]); first | rfl | (simp only [s_l01In, *, Bool.false_eq_true, ↓reduceIte]; done) | (simp [s_l01In, *]; done) | (simp_all [s_l01In]; done) | (simp [s_l01In, *]; omega)))

def i_IsField (p : Int) : Bool :=
  (if ((p == 3) || (p == 5) || (p == 7) || (p == 11) || (p == 13) || (p == 17) || (p == 19) || (p == 23) || (p == 29) || (p == 31)) = true then true else false)

set_option maxHeartbeats 400000 in
theorem i_IsField_any (p : Int) (w : World) :
    Calls Try.prog 77 #[.int .i64 p] w fun e w' => e = .returned (.bool (i_IsField p)) ∧ w = w' := by
  go_enter Try.func77, Try.ntmps77
  go_wp2
  all_goals (go_ret; refine ⟨?_, rfl⟩)
  all_goals first | ((with_reducible (show Ext _ _)); (repeat (first | with_reducible exact Ext.refl _ | with_reducible assumption | with_reducible refine Ext.alloc ?_ _ | with_reducible refine Ext.drewN ?_ _ | with_reducible refine Ext.drew ?_ | with_reducible refine ExtW.ext ?_ _ | (with_reducible refine Ext.trans ?_ (by assumption)) | (with_reducible refine Ext.setCell ?_ (by first | (simp; done) | (simp; omega)) _))); done) | (refine congrArg (fun v => Ending.returned (Value.bool v)) ?_; ((try simp only [IntWalk.i64_left]); first | rfl | (simp only [i_IsField, *, Bool.false_eq_true, ↓reduceIte]; done) | (simp [i_IsField, *]; done) | (simp_all [i_IsField]; done) | (simp [i_IsField, *]; omega)))

def i_asked (p : Int) (b : Bool) : Int := if i_IsField p = true then (if b = true then 0 else 2) else 1
theorem i_IsField_ok {p : Int} (h : i_IsField p = true) : Pr p := by
  unfold Pr; simp [i_IsField] at h; omega
theorem i_asked_ok {p : Int} {b : Bool} (h : i_asked p b = 0) : Pr p := by
  refine i_IsField_ok ?_
  cases hi : i_IsField p
  · simp [i_asked, hi] at h
  · rfl
set_option maxHeartbeats 400000 in
theorem i_asked_any (p : Int) (f : Nat) (fr : Array Value) (b : Bool) (w : World) (hf : ∀ (args : Array Value) (w : World), Sem.run Try.prog (callFunc f args) w = Result.ok (Next.enter f args) w)
    (hc : Calls Try.prog f fr w fun e w' => e = .returned (.bool b) ∧ Ext w w') :
    Calls Try.prog 60 #[.int .i64 p, .func (.func f) #[] fr] w fun e w' => e = .returned (.int .i64 (i_asked p b)) ∧ Ext w w' := by
  have HC := Lib.hid hc; clear hc
  cases hi : i_IsField p
  all_goals
    have Hi := Lib.hid hi; clear hi
    go_enter Try.func60, Try.ntmps60
    go_wp2_with fail
    refine (i_IsField_any p _).mono ?_; rintro e w1 ⟨rfl, rfl⟩
    rw [Hi.out]
    go_wp2_with fail
  · go_ret; exact ⟨by simp [i_asked, Hi.out], Ext.refl _⟩
  · refine HC.out.mono ?_; rintro e w1 ⟨rfl, hb1⟩
    go_wp2_with fail
    all_goals (go_ret; exact ⟨by simp_all [i_asked, Hi.out], hb1⟩)

def s_l01Field (p : Int) : Bool := i_IsField p
theorem s_l01Field_ok {p : Int} (h : s_l01Field p = true) : Pr p := i_IsField_ok h
theorem s_l01Field_no (p : Int) (h : i_IsField p = false → False) : i_IsField p = true := by
  cases hi : i_IsField p
  · exact (h hi).elim
  · rfl
theorem i_IsField_iff (p : Int) : i_IsField p = true ↔ (p = 3 ∨ p = 5 ∨ p = 7 ∨ p = 11 ∨ p = 13 ∨ p = 17 ∨ p = 19 ∨ p = 23 ∨ p = 29 ∨ p = 31) := by
  simp [i_IsField]; omega
theorem i_IsField_yes {p : Int} (h : p = 3 ∨ p = 5 ∨ p = 7 ∨ p = 11 ∨ p = 13 ∨ p = 17 ∨ p = 19 ∨ p = 23 ∨ p = 29 ∨ p = 31) : i_IsField p = true := (i_IsField_iff p).2 h
theorem i_IsField_not {p : Int} (h : ¬ (p = 3 ∨ p = 5 ∨ p = 7 ∨ p = 11 ∨ p = 13 ∨ p = 17 ∨ p = 19 ∨ p = 23 ∨ p = 29 ∨ p = 31)) : i_IsField p = false := by
  cases hi : i_IsField p
  · rfl
  · exact (h ((i_IsField_iff p).1 hi)).elim
theorem range29 {p : Int} (h3 : 3 ≤ p) (h31 : p ≤ 31) : p = 3 ∨ p = 4 ∨ p = 5 ∨ p = 6 ∨ p = 7 ∨ p = 8 ∨ p = 9 ∨ p = 10 ∨ p = 11 ∨ p = 12 ∨ p = 13 ∨ p = 14 ∨ p = 15 ∨ p = 16 ∨ p = 17 ∨ p = 18 ∨ p = 19 ∨ p = 20 ∨ p = 21 ∨ p = 22 ∨ p = 23 ∨ p = 24 ∨ p = 25 ∨ p = 26 ∨ p = 27 ∨ p = 28 ∨ p = 29 ∨ p = 30 ∨ p = 31 := by omega
set_option maxHeartbeats 1000000 in
theorem s_l01Field_any (p : Int) (w : World) :
    Calls Try.prog 102 #[.int .i64 p] w fun e w' => e = .returned (.bool (s_l01Field p)) ∧ w = w' := by
  by_cases hr : 3 ≤ p ∧ p ≤ 31
  · obtain ⟨h3, h31⟩ := hr
    have hin : s_l01In p 3 31 = true := by simp [s_l01In, h3, h31]
    go_enter Try.func102, Try.ntmps102
    go_wp2_with (go_at_call 106; refine (s_l01In_any _ _ _ _).mono ?_; rintro e w1 ⟨rfl, rfl⟩)
    all_goals try refine wp_loop_rounds 6 ?_
    all_goals try rw [rounds_succ]
    all_goals try go_wp2
    all_goals try rw [rounds_succ]
    all_goals try go_wp2
    all_goals try rw [rounds_succ]
    all_goals try go_wp2
    all_goals try rw [rounds_succ]
    all_goals try go_wp2
    all_goals try rw [rounds_succ]
    all_goals try go_wp2
    all_goals try rw [rounds_succ]
    all_goals try go_wp2
    all_goals (go_ret; refine ⟨congrArg (fun n => Ending.returned (Value.bool n)) ?_, rfl⟩)
    all_goals (obtain rfl | rfl | rfl | rfl | rfl | rfl | rfl | rfl | rfl | rfl | rfl | rfl | rfl | rfl | rfl | rfl | rfl | rfl | rfl | rfl | rfl | rfl | rfl | rfl | rfl | rfl | rfl | rfl | rfl := range29 h3 h31)
    all_goals first | rfl | (exfalso; simp at *; done) | (exfalso; omega)
  · have hin : s_l01In p 3 31 = false := by simp [s_l01In]; omega
    go_enter Try.func102, Try.ntmps102
    go_wp2_with (go_at_call 106; refine (s_l01In_any _ _ _ _).mono ?_; rintro e w1 ⟨rfl, rfl⟩)
    go_ret
    refine ⟨congrArg (fun n => Ending.returned (Value.bool n)) ?_, rfl⟩
    show false = i_IsField p; symm; refine i_IsField_not ?_; omega

def i_areNumbers (p : Int) (l : List Int) : Bool := l.all (fun a => i_isNumber p a)
set_option maxHeartbeats 1000000 in
theorem i_areNumbers_any (p : Int) (xs : List Int) (b off cap : Nat) (w : World) (hlen : xs.length ≤ 100000000000) (hx : CellsAt w b off xs) :
    Calls Try.prog 71 #[.int .i64 p, .slice (some ⟨b, off, none⟩) xs.length cap] w fun e w' => e = .returned (.bool (i_areNumbers p xs)) ∧ w = w' := by
  have HX := Lib.hid hx; clear hx
  go_enter Try.func71, Try.ntmps71
  go_wp2
  go_loop [9] (fun i => ∃ k : Nat, k ≤ xs.length ∧ i = .int .i64 k ∧ Hid ((xs.take k).all (fun a => i_isNumber p a) = true)) (fun i => xs.length - (intOf i).toNat)
  case atStart => exact ⟨0, Nat.zero_le _, rfl, by unfold Hid; simp⟩
  case round =>
    obtain ⟨k, hk, rfl, HA⟩ := hrel
    by_cases hlt : k < xs.length
    · have hk0 : (0 : Int) ≤ (k : Int) := by omega
      have hk1 : (k : Int) < (xs.length : Int) := by omega
      have hcl0 := HX.out.get hlt
      obtain ⟨a, hn⟩ : ∃ a : Int, nth xs k = a := ⟨_, rfl⟩
      rw [hn] at hcl0
      obtain hcl0a := hcl0
      have HN := Lib.hid hn; clear hn
      cases hv : i_isNumber p a
      all_goals
        have HV := Lib.hid hv; clear hv
        go_wp2_with (go_at_call 108; refine (i_isNumber_any _ _ _).mono ?_; rintro e w1 ⟨rfl, rfl⟩; rw [HV.out])
      · go_ret
        have hn := HN.out
        have hno : xs.all (fun a => i_isNumber p a) = false := all_false 0 hlt (by show (fun a => i_isNumber p a) (nth xs k) = false; rw [hn]; exact HV.out)
        refine ⟨congrArg (fun n => Ending.returned (Value.bool n)) ?_, rfl⟩
        show false = _
        exact hno.symm
      · have hn := HN.out
        go_round
        case rel => exact ⟨k + 1, by omega, by go_num, by unfold Hid; rw [all_take _ 0 _ _ hlt, HA.out]; show (true && (fun a => i_isNumber p a) (nth xs k)) = true; rw [hn]; exact HV.out⟩
        case measure => simp [intOf]; omega
    · go_wp2
      go_ret
      have hyes : xs.all (fun a => i_isNumber p a) = true := by
        have := HA.out
        rw [List.take_of_length_le (by omega)] at this
        exact this
      refine ⟨congrArg (fun n => Ending.returned (Value.bool n)) ?_, rfl⟩
      show true = _
      exact hyes.symm
set_option maxHeartbeats 400000 in
theorem i_areNumbers_nil (p : Int) (w : World) :
    Calls Try.prog 71 #[.int .i64 p, .slice none 0 0] w fun e w' => e = .returned (.bool (i_areNumbers p [])) ∧ w = w' := by
  go_enter Try.func71, Try.ntmps71
  go_wp2
  refine wp_loop_rounds 1 ?_
  rw [rounds_succ]; go_wp2
  go_ret
  exact ⟨congrArg (fun n => Ending.returned (Value.bool n)) (rfl), rfl⟩

def s_l01Numbers (p : Int) (l : List Int) : Int := if s_l01Field p = true then (if l.all (fun a => s_l01In a 0 (wrap64 (p - 1))) = true then 0 else 2) else 1
theorem s_l01Numbers_ok {p : Int} {l : List Int} (h : s_l01Numbers p l = 0) : Pr p := by
  refine i_IsField_ok ?_
  cases hi : i_IsField p
  · simp [s_l01Numbers, s_l01Field, hi] at h
  · rfl
set_option maxHeartbeats 1000000 in
theorem s_l01Numbers_any (p : Int) (xs : List Int) (b off cap : Nat) (w : World) (hlen : xs.length ≤ 100000000000) (hx : CellsAt w b off xs) :
    Calls Try.prog 68 #[.int .i64 p, .slice (some ⟨b, off, none⟩) xs.length cap] w fun e w' => e = .returned (.int .i64 (s_l01Numbers p xs)) ∧ w = w' := by
  have HX := Lib.hid hx; clear hx
  cases hf : s_l01Field p
  · have HF := Lib.hid hf; clear hf
    go_enter Try.func68, Try.ntmps68
    go_wp2_with (go_at_call 102; refine (s_l01Field_any _ _).mono ?_; rintro e w1 ⟨rfl, rfl⟩; rw [HF.out])
    go_ret
    exact ⟨congrArg (fun n => Ending.returned (Value.int .i64 n)) (by show (1 : Int) = _; simp only [s_l01Numbers, HF.out, Bool.false_eq_true, if_false]), rfl⟩
  · have HF := Lib.hid hf; clear hf
    go_enter Try.func68, Try.ntmps68
    go_wp2_with (go_at_call 102; refine (s_l01Field_any _ _).mono ?_; rintro e w1 ⟨rfl, rfl⟩; rw [HF.out])
    go_loop [5] (fun i => ∃ k : Nat, k ≤ xs.length ∧ i = .int .i64 k ∧ Hid ((xs.take k).all (fun a => s_l01In a 0 (wrap64 (p - 1))) = true)) (fun i => xs.length - (intOf i).toNat)
    case atStart => exact ⟨0, Nat.zero_le _, rfl, by unfold Hid; simp⟩
    case round =>
      obtain ⟨k, hk, rfl, HA⟩ := hrel
      by_cases hlt : k < xs.length
      · have hk0 : (0 : Int) ≤ (k : Int) := by omega
        have hk1 : (k : Int) < (xs.length : Int) := by omega
        have hcl0 := HX.out.get hlt
        obtain ⟨a, hn⟩ : ∃ a : Int, nth xs k = a := ⟨_, rfl⟩
        rw [hn] at hcl0
        obtain hcl0a := hcl0
        have HN := Lib.hid hn; clear hn
        cases hv : s_l01In a 0 (wrap64 (p - 1))
        all_goals
          have HV := Lib.hid hv; clear hv
          go_wp2_with (first | (go_at_call 106; refine (s_l01In_any _ _ _ _).mono ?_; rintro e w1 ⟨rfl, rfl⟩; rw [HV.out]) | (go_at_call 102; refine (s_l01Field_any _ _).mono ?_; rintro e w1 ⟨rfl, rfl⟩; rw [HF.out]))
        · go_ret
          have hn := HN.out
          have hno : xs.all (fun a => s_l01In a 0 (wrap64 (p - 1))) = false := all_false 0 hlt (by show (fun a => s_l01In a 0 (wrap64 (p - 1))) (nth xs k) = false; rw [hn]; exact HV.out)
          refine ⟨congrArg (fun n => Ending.returned (Value.int .i64 n)) ?_, rfl⟩
          show (2 : Int) = _
          simp only [s_l01Numbers, HF.out, if_true, hno, Bool.false_eq_true, if_false]
        · have hn := HN.out
          go_round
          case rel => exact ⟨k + 1, by omega, by go_num, by unfold Hid; rw [all_take _ 0 _ _ hlt, HA.out]; show (true && (fun a => s_l01In a 0 (wrap64 (p - 1))) (nth xs k)) = true; rw [hn]; exact HV.out⟩
          case measure => simp [intOf]; omega
      · go_wp2
        go_ret
        have hyes : xs.all (fun a => s_l01In a 0 (wrap64 (p - 1))) = true := by
          have := HA.out
          rw [List.take_of_length_le (by omega)] at this
          exact this
        refine ⟨congrArg (fun n => Ending.returned (Value.int .i64 n)) ?_, rfl⟩
        show (0 : Int) = _
        simp only [s_l01Numbers, HF.out, if_true, hyes]
set_option maxHeartbeats 400000 in
theorem s_l01Numbers_nil (p : Int) (w : World) :
    Calls Try.prog 68 #[.int .i64 p, .slice none 0 0] w fun e w' => e = .returned (.int .i64 (s_l01Numbers p [])) ∧ w = w' := by
  cases hf : s_l01Field p
  · have HF := Lib.hid hf; clear hf
    go_enter Try.func68, Try.ntmps68
    go_wp2_with (go_at_call 102; refine (s_l01Field_any _ _).mono ?_; rintro e w1 ⟨rfl, rfl⟩; rw [HF.out])
    go_ret
    exact ⟨congrArg (fun n => Ending.returned (Value.int .i64 n)) (by show (1 : Int) = _; simp only [s_l01Numbers, HF.out, Bool.false_eq_true, if_false]), rfl⟩
  · have HF := Lib.hid hf; clear hf
    go_enter Try.func68, Try.ntmps68
    go_wp2_with (go_at_call 102; refine (s_l01Field_any _ _).mono ?_; rintro e w1 ⟨rfl, rfl⟩; rw [HF.out])
    refine wp_loop_rounds 1 ?_
    rw [rounds_succ]; go_wp2
    go_ret
    exact ⟨congrArg (fun n => Ending.returned (Value.int .i64 n)) (by show (0 : Int) = _; simp only [s_l01Numbers, HF.out, if_true, List.all_nil]), rfl⟩

def invLoop (p a : Int) : Nat → Int → Int
  | 0, _ => 0
  | k + 1, x => if ((wrap64 (a * x)).tmod p == 1) = true then x else invLoop p a k (x + 1)
def i_inverse (p a : Int) : Int := invLoop p a (p - 1).toNat 1
theorem invLoop_step (p a j : Int) (h : j < p) : invLoop p a (p - j).toNat j = if ((wrap64 (a * j)).tmod p == 1) = true then j else invLoop p a (p - (j + 1)).toNat (j + 1) := by
  rw [show (p - j).toNat = (p - (j + 1)).toNat + 1 from by omega]
  rfl
set_option maxHeartbeats 400000 in
theorem i_inverse_any (p a : Int) (w : World) (hp : Pr p) :
    Calls Try.prog 116 #[.int .i64 p, .int .i64 a] w fun e w' => e = .returned (.int .i64 (i_inverse p a)) ∧ w = w' := by
  obtain ⟨h1, h2⟩ := hp
  go_enter Try.func116, Try.ntmps116
  go_wp2
  go_loop [5] (fun x => ∃ j : Int, 1 ≤ j ∧ j ≤ p ∧ x = .int .i64 j ∧ Hid (i_inverse p a = invLoop p a (p - j).toNat j)) (fun x => (p - intOf x).toNat)
  case atStart => exact ⟨1, by omega, by omega, rfl, rfl⟩
  case round =>
    obtain ⟨j, hj1, hj2, rfl, HI⟩ := hrel
    by_cases hlt : j < p
    · have HU := Lib.hid (invLoop_step p a j hlt)
      cases ht : ((wrap64 (a * j)).tmod p == 1)
      all_goals
        have HT := Lib.hid ht
        go_wp2
      · go_round
        case rel => exact ⟨j + 1, by omega, by omega, by go_num, by unfold Hid; rw [HI.out, HU.out, HT.out]; rfl⟩
        case measure => simp [intOf]; omega
      · go_ret
        exact ⟨congrArg (fun n => Ending.returned (Value.int .i64 n)) (by rw [HI.out, HU.out, HT.out]; rfl), rfl⟩
    · go_wp2
      go_ret
      exact ⟨congrArg (fun n => Ending.returned (Value.int .i64 n)) (by rw [HI.out, show (p - j).toNat = 0 from by omega]; rfl), rfl⟩

def powLoop (p : Int) : Nat → Int → Int → Int → Int
  | 0, _, out, _ => out
  | f + 1, k, out, base => if decide (0 < k) = true then powLoop p f (k / 2) (if (k % 2 == 1) = true then (wrap64 (out * base)).tmod p else out) ((wrap64 (base * base)).tmod p) else out
def s_l01Inverse (a p : Int) : Int := powLoop p 5 (p - 2) 1 (s_l01Mod a p)
theorem powLoop_zero (p : Int) (f : Nat) (k out base : Int) (h : ¬ 0 < k) : powLoop p f k out base = out := by
  cases f
  · rfl
  · show (if decide (0 < k) = true then _ else out) = out
    rw [if_neg (by simpa using h)]
set_option maxHeartbeats 1000000 in
theorem s_l01Inverse_any (a p : Int) (w : World) (hp : Pr p) :
    Calls Try.prog 107 #[.int .i64 a, .int .i64 p] w fun e w' => e = .returned (.int .i64 (s_l01Inverse a p)) ∧ w = w' := by
  obtain ⟨h1, h2⟩ := hp
  go_enter Try.func107, Try.ntmps107
  go_wp2_with (go_at_call 104; refine (s_l01Mod_any _ _ _ ⟨h1, h2⟩).mono ?_; rintro e w1 ⟨rfl, rfl⟩)
  go_loop [5, 6, 7] (fun o b k => ∃ (f : Nat) (out base kk : Int), o = .int .i64 out ∧ b = .int .i64 base ∧ k = .int .i64 kk ∧ -1 ≤ kk ∧ kk < 2 ^ f ∧ f ≤ 5 ∧ Hid (s_l01Inverse a p = powLoop p f kk out base)) (fun _ _ k => (intOf k).toNat)
  case atStart => exact ⟨5, 1, _, p - 2, rfl, rfl, rfl, by omega, by omega, by omega, rfl⟩
  case round =>
    obtain ⟨f, out, base, kk, rfl, rfl, rfl, hk1, hk2, hf, HI⟩ := hrel
    by_cases hlt : 0 < kk
    · obtain ⟨f, rfl⟩ : ∃ g, f = g + 1 := ⟨f - 1, by rcases f with _ | f <;> omega⟩
      have hk3 : kk < 32 := by
        have : (2 : Int) ^ (f + 1) ≤ 2 ^ 5 := by
          match f, hf with
          | 0, _ => decide
          | 1, _ => decide
          | 2, _ => decide
          | 3, _ => decide
          | 4, _ => decide
        omega
      have hk4 : kk / 2 < 2 ^ f := by
        rw [Int.pow_succ] at hk2
        omega
      have HK := Lib.hid hk4; clear hk4
      have HK2 := Lib.hid hk2; clear hk2
      have hlt' : decide (0 < kk) = true := by simpa using hlt
      cases ht : (kk % 2 == 1)
      all_goals
        have HT := Lib.hid ht
        go_wp2
        all_goals
          go_round
          case rel => exact ⟨f, _, _, kk / 2, rfl, rfl, rfl, by omega, HK.out, by omega, by unfold Hid; rw [HI.out]; show (if decide (0 < kk) = true then _ else out) = _; rw [hlt', HT.out]; rfl⟩
          case measure => simp [intOf]; omega
    · go_wp2
      go_ret
      exact ⟨congrArg (fun n => Ending.returned (Value.int .i64 n)) (by rw [HI.out, powLoop_zero _ _ _ _ _ (by omega)]), rfl⟩

def i_divide (p : Int) (a : Int) (b : Int) : Int :=
  (i_rest p (wrap64 (a * (i_inverse p b))))

set_option maxHeartbeats 400000 in
theorem i_divide_any (p : Int) (a : Int) (b : Int) (w : World) (hp : Pr p) :
    Calls Try.prog 109 #[.int .i64 p, .int .i64 a, .int .i64 b] w fun e w' => e = .returned (.int .i64 (i_divide p a b)) ∧ w = w' := by
  have hp1 := hp.1; have hp2 := hp.2; have hp0 : p ≠ 0 := Pr.ne hp
  go_enter Try.func109, Try.ntmps109
  go_wp2_with (first | (go_at_call 116; refine (i_inverse_any _ _ _ ?_).mono ?_; (focus (assumption)); rintro e w1 ⟨rfl, rfl⟩) | (go_at_call 105; refine (i_rest_any _ _ _ ?_).mono ?_; (focus (assumption)); rintro e w1 ⟨rfl, rfl⟩))
  all_goals (go_ret; refine ⟨?_, rfl⟩)
  all_goals first | ((with_reducible (show Ext _ _)); (repeat (first | with_reducible exact Ext.refl _ | with_reducible assumption | with_reducible refine Ext.alloc ?_ _ | with_reducible refine Ext.drewN ?_ _ | with_reducible refine Ext.drew ?_ | with_reducible refine ExtW.ext ?_ _ | (with_reducible refine Ext.trans ?_ (by assumption)) | (with_reducible refine Ext.setCell ?_ (by first | (simp; done) | (simp; omega)) _))); done) | (refine congrArg (fun v => Ending.returned (Value.int .i64 v)) ?_; ((try simp only [IntWalk.i64_left]); first | rfl | (simp only [i_divide, *, Bool.false_eq_true, ↓reduceIte]; done) | (simp [i_divide, *]; done) | (simp_all [i_divide]; done) | (simp [i_divide, *]; omega)))

def i_isColour (colour : Int) : Bool :=
  (decide (0 ≤ colour) && decide (colour ≤ 2))

set_option maxHeartbeats 400000 in
theorem i_isColour_any (colour : Int) (w : World) :
    Calls Try.prog 100 #[.int .i64 colour] w fun e w' => e = .returned (.bool (i_isColour colour)) ∧ w = w' := by
  go_enter Try.func100, Try.ntmps100
  go_wp2
  all_goals (go_ret; refine ⟨?_, rfl⟩)
  all_goals first | ((with_reducible (show Ext _ _)); (repeat (first | with_reducible exact Ext.refl _ | with_reducible assumption | with_reducible refine Ext.alloc ?_ _ | with_reducible refine Ext.drewN ?_ _ | with_reducible refine Ext.drew ?_ | with_reducible refine ExtW.ext ?_ _ | (with_reducible refine Ext.trans ?_ (by assumption)) | (with_reducible refine Ext.setCell ?_ (by first | (simp; done) | (simp; omega)) _))); done) | (refine congrArg (fun v => Ending.returned (Value.bool v)) ?_; ((try simp only [IntWalk.i64_left]); first | rfl | (simp only [i_isColour, *, Bool.false_eq_true, ↓reduceIte]; done) | (simp [i_isColour, *]; done) | (simp_all [i_isColour]; done) | (simp [i_isColour, *]; omega)))

def s_l02Colour (colour : Int) : Bool :=
  (s_l01In colour 0 2)

set_option maxHeartbeats 400000 in
theorem s_l02Colour_any (colour : Int) (w : World) :
    Calls Try.prog 113 #[.int .i64 colour] w fun e w' => e = .returned (.bool (s_l02Colour colour)) ∧ w = w' := by
  go_enter Try.func113, Try.ntmps113
  go_wp2_with (go_at_call 106; refine (s_l01In_any _ _ _ _).mono ?_; rintro e w1 ⟨rfl, rfl⟩)
  all_goals (go_ret; refine ⟨?_, rfl⟩)
  all_goals first | ((with_reducible (show Ext _ _)); (repeat (first | with_reducible exact Ext.refl _ | with_reducible assumption | with_reducible refine Ext.alloc ?_ _ | with_reducible refine Ext.drewN ?_ _ | with_reducible refine Ext.drew ?_ | with_reducible refine ExtW.ext ?_ _ | (with_reducible refine Ext.trans ?_ (by assumption)) | (with_reducible refine Ext.setCell ?_ (by first | (simp; done) | (simp; omega)) _))); done) | (refine congrArg (fun v => Ending.returned (Value.bool v)) ?_; ((try simp only [IntWalk.i64_left]); first | rfl | (simp only [s_l02Colour, *, Bool.false_eq_true, ↓reduceIte]; done) | (simp [s_l02Colour, *]; done) | (simp_all [s_l02Colour]; done) | (simp [s_l02Colour, *]; omega)))


end Go.Proofs.Ytcechmaoihckgaa
