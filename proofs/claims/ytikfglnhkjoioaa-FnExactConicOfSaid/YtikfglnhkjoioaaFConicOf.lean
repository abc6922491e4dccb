import Derived.Test.YtikfglnhkjoioaaQl
import Derived.Test.YtikfglnhkjoioaaProg
set_option linter.unusedSimpArgs false
set_option linter.unusedVariables false
namespace Go.Proofs.Ytikfglnhkjoioaa
open Go.RowKit
def S_l_FnExactConicOf : Sums := ⟨tblS [(6, run_l_toInt64S), (5, run_s_ConicOf), (7, run_i_ConicOf), (8, run_l_eqConic), (9, run_l_eqInt64S)], tblM []⟩
theorem SO_l_FnExactConicOf : SumsOK Try.prog S_l_FnExactConicOf := ⟨tblS_ok ⟨⟨Try.call6, sound_l_toInt64S⟩, ⟨Try.call5, sound_s_ConicOf⟩, ⟨Try.call7, sound_i_ConicOf⟩, ⟨Try.call8, sound_l_eqConic⟩, ⟨Try.call9, sound_l_eqInt64S⟩, True.intro⟩, tblM_ok True.intro⟩
def Fo_l_FnExactConicOf (aP : Int) (aListn : Nat) (aListl : List Int) : Option (Bool) :=
  (if (decide (((aListn : Nat) : Int) > 1048576)) = true then some true else (if (lenB aListn 1 aListl && Nat.ble aListn 1048576) = true then (if (lenB ((l_toInt64S aListn aListl).1) 1 ((l_toInt64S aListn aListl).2)) = true then (if (lenB aListn 1 aListl && Nat.ble aListn 1048576) = true then (if (lenB ((l_toInt64S aListn aListl).1) 1 ((l_toInt64S aListn aListl).2)) = true then (if (!(l_eqConic ((i_ConicOf aP ((l_toInt64S aListn aListl).1) ((l_toInt64S aListn aListl).2)).1) ((s_ConicOf aP ((l_toInt64S aListn aListl).1) ((l_toInt64S aListn aListl).2)).1))) = true then some false else (if (((i_ConicOf aP ((l_toInt64S aListn aListl).1) ((l_toInt64S aListn aListl).2)).2) != ((s_ConicOf aP ((l_toInt64S aListn aListl).1) ((l_toInt64S aListn aListl).2)).2)) = true then some false else (if (lenB aListn 1 aListl && Nat.ble aListn 1048576) = true then (if (lenB ((l_toInt64S aListn aListl).1) 1 ((l_toInt64S aListn aListl).2) && lenB ((l_toInt64S aListn aListl).1) 1 ((l_toInt64S aListn aListl).2)) = true then (if (!(l_eqInt64S ((l_toInt64S aListn aListl).1) ((l_toInt64S aListn aListl).2) ((l_toInt64S aListn aListl).1) ((l_toInt64S aListn aListl).2))) = true then some false else some true) else none) else none))) else none) else none) else none) else none))
theorem eq_l_FnExactConicOf (aP : Int) (aListn : Nat) (aListl : List Int) : execT Try.prog S_l_FnExactConicOf 3 42 (fun _ => 1000000) dec_b [.v (.int .i64 aP), .s aListn (.ints aListl)] = Fo_l_FnExactConicOf aP aListn aListl := by
  kernel_rfl
theorem eqConic_self (k : P6) : l_eqConic k k = true := by simp [l_eqConic]
theorem ConicOf_eq {p : Int} {n : Nat} {l : List Int} (h : lenB n 1 l = true) : i_ConicOf p n l = s_ConicOf p n l := by
  obtain ⟨hl, _⟩ := lenB_ok h
  rw [Nat.one_mul] at hl
  unfold i_ConicOf s_ConicOf
  rw [numbers_eq p true]
  by_cases hf : i_IsField p = true
  · by_cases ha : i_areNumbers p l = true
    · by_cases h6 : n = 6
      · subst h6
        obtain ⟨a, b, c, d, e, f, rfl⟩ := len6' hl
        have e1 : i_asked p true (i_ConicOf_c1 6 [a, b, c, d, e, f] p) = 0 := by
          unfold i_asked i_ConicOf_c1
          rw [hf, ha]
          rfl
        have e2 : i_asked p true (i_areNumbers p [a, b, c, d, e, f]) = 0 := by
          unfold i_asked
          rw [hf, ha]
          rfl
        rw [e1, e2]
        have key : i_makeConic p (a, b, c, d, e, f) = s_l08Made p 6 [a, b, c, d, e, f] := by
          obtain ⟨K, inst, φ, H⟩ := hom_of hf
          have hp := i_IsField_ok hf
          unfold i_areNumbers at ha
          simp only [List.all_cons, List.all_nil, Bool.and_true, Bool.and_eq_true, isNumber_iff] at ha
          obtain ⟨a1, a2, a3, a4, a5, a6⟩ := ha
          have r := fun (x : Int) (hx : 0 ≤ x ∧ x < p) => Vl.rw hp (Vl.of (φ := φ) hx)
          by_cases hn : φ a ≠ 0 ∨ φ b ≠ 0 ∨ φ c ≠ 0
          · obtain ⟨u1, u2⟩ := cc_make H hf (l := (a, b, c, d, e, f)) ⟨_, r a a1⟩ ⟨_, r b a2⟩ ⟨_, r c a3⟩ ⟨_, r d a4⟩ ⟨_, r e a5⟩ ⟨_, r f a6⟩ hn
            obtain ⟨w1, w2⟩ := cc_made H hf ⟨_, r a a1⟩ ⟨_, r b a2⟩ ⟨_, r c a3⟩ ⟨_, r d a4⟩ ⟨_, r e a5⟩ ⟨_, r f a6⟩ hn
            exact Prod.ext (Cc.inj H u2 w2) (u1.trans w1.symm)
          · have z : φ a = 0 ∧ φ b = 0 ∧ φ c = 0 := by grind
            rw [make_none H hf (l := (a, b, c, d, e, f)) (r a a1) (r b a2) (r c a3) z.1 z.2.1 z.2.2, made_none H hf (r a a1) (r b a2) (r c a3) z.1 z.2.1 z.2.2]
        show (if ((0 : Int) != 0) = true then _ else if (!(i_makeConic p (a, b, c, d, e, f)).2) = true then _ else ((i_makeConic p (a, b, c, d, e, f)).1, (0 : Int))) = _
        rw [key]
        rfl
      · have e1 : i_asked p true (i_ConicOf_c1 n l p) = 2 := by
          unfold i_asked i_ConicOf_c1
          rw [hf]
          simp
          omega
        have e2 : i_asked p true (i_areNumbers p l) = 0 := by
          unfold i_asked
          rw [hf, ha]
          rfl
        rw [e1, e2, if_pos (by decide), if_neg (by decide), if_pos (by simp; omega)]
    · have e1 : i_asked p true (i_ConicOf_c1 n l p) = 2 := by
        have : i_areNumbers p l = false := by simpa using ha
        unfold i_asked i_ConicOf_c1
        rw [hf, this]
        simp
      have e2 : i_asked p true (i_areNumbers p l) = 2 := by
        have : i_areNumbers p l = false := by simpa using ha
        unfold i_asked
        rw [hf, this]
        rfl
      rw [e1, e2]
      rfl
  · have hf' : i_IsField p = false := by simpa using hf
    have e1 : ∀ k, i_asked p true k = 1 := fun k => by
      unfold i_asked
      rw [hf']
      rfl
    rw [e1, e1]
    rfl
theorem ConicOf_tot (aP : Int) (aListn : Nat) (aListl : List Int) (hp : Nat.beq aListl.length aListn = true) : Fo_l_FnExactConicOf aP aListn aListl = some true := by
  have hl := Nat.eq_of_beq_eq_true hp
  unfold Fo_l_FnExactConicOf
  refine br_step (fun _ => rfl) (fun hb => ?_)
  have hn : aListn ≤ 1048576 := by simp at hb; omega
  have hL : lenB aListn 1 aListl = true := lenB_of (by omega) (by omega)
  have hT : (lenB aListn 1 aListl && Nat.ble aListn 1048576) = true := and_two hL (ble_ok hn)
  have e := ConicOf_eq (p := aP) hL
  refine ck_step hT ?_
  refine ck_step hL ?_
  refine ck_step hT ?_
  refine ck_step hL ?_
  refine nt_step (by show l_eqConic (i_ConicOf aP aListn aListl).1 (s_ConicOf aP aListn aListl).1 = true; rw [e]; exact eqConic_self _) ?_
  refine ne_step (congrArg Prod.snd e) ?_
  refine ck_step hT ?_
  refine ck_step (and_two hL hL) ?_
  exact nt_step (beq_self_eq_true aListl) rfl

def l_FnExactConicOf (aP : Int) (aListn : Nat) (aListl : List Int) : Bool := true
theorem tot_l_FnExactConicOf (aP : Int) (aListn : Nat) (aListl : List Int) (hp : (Nat.beq aListl.length aListn) = true) : Fo_l_FnExactConicOf aP aListn aListl = some (l_FnExactConicOf aP aListn aListl) := by
  exact ConicOf_tot aP aListn aListl hp
def run_l_FnExactConicOf : List PV → Option (Bool × List TR)
  | [.v (.int .i64 aP), .s aListn (.ints aListl)] => some (Nat.beq aListl.length aListn, enc_b (l_FnExactConicOf aP aListn aListl))
  | _ => none
theorem sound_l_FnExactConicOf : Sound Try.prog 3 run_l_FnExactConicOf := by
  refine sound_of de_b SO_l_FnExactConicOf (by kernel_rfl) Try.func3 Try.ntmps3 rfl (by kernel_rfl) ?_
  intro W pvs avs rs hargs hrun
  unfold run_l_FnExactConicOf at hrun
  split at hrun
  · simp only [Option.some.injEq, Prod.mk.injEq] at hrun
    obtain ⟨hp, rfl⟩ := hrun
    rename_i aP aListn aListl
    exact ⟨_, _, _, hargs, rfl, (eq_l_FnExactConicOf aP aListn aListl).trans (tot_l_FnExactConicOf aP aListn aListl hp)⟩
  · cases hrun


end Go.Proofs.Ytikfglnhkjoioaa
