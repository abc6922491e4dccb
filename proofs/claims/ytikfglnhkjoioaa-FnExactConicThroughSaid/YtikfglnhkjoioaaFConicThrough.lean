import Derived.Test.YtikfglnhkjoioaaQp
import Derived.Test.YtikfglnhkjoioaaProg
set_option linter.unusedSimpArgs false
set_option linter.unusedVariables false
namespace Go.Proofs.Ytikfglnhkjoioaa
open Go.RowKit
noncomputable section
def S_l_FnExactConicThrough : Sums := ⟨tblS [(10, run_l_szPointS), (12, run_l_toPointS), (11, run_s_ConicThrough), (13, run_i_ConicThrough), (8, run_l_eqConic), (14, run_l_eqPointS)], tblM [], false, false⟩
theorem SO_l_FnExactConicThrough : SumsOK Try.prog S_l_FnExactConicThrough := ⟨tblS_ok ⟨⟨Try.call10, sound_l_szPointS⟩, ⟨Try.call12, sound_l_toPointS⟩, ⟨Try.call11, sound_s_ConicThrough⟩, ⟨Try.call13, sound_i_ConicThrough⟩, ⟨Try.call8, sound_l_eqConic⟩, ⟨Try.call14, sound_l_eqPointS⟩, True.intro⟩, tblM_ok True.intro⟩
def Fo_l_FnExactConicThrough (aP : Int) (aPointsn : Nat) (aPointsl : List Int) : Option (Bool) :=
  (if (decide ((l_szPointS aPointsn aPointsl 1048576) < 0)) = true then some true else (if (lenB aPointsn 2 aPointsl && Nat.ble aPointsn 1048576) = true then (if (ok_s_ConicThrough aP ((l_toPointS aPointsn aPointsl).1) ((l_toPointS aPointsn aPointsl).2)) = true then (if (lenB aPointsn 2 aPointsl && Nat.ble aPointsn 1048576) = true then (if (ok_i_ConicThrough aP ((l_toPointS aPointsn aPointsl).1) ((l_toPointS aPointsn aPointsl).2)) = true then (if (!(l_eqConic ((i_ConicThrough aP ((l_toPointS aPointsn aPointsl).1) ((l_toPointS aPointsn aPointsl).2)).1) ((s_ConicThrough aP ((l_toPointS aPointsn aPointsl).1) ((l_toPointS aPointsn aPointsl).2)).1))) = true then some false else (if (((i_ConicThrough aP ((l_toPointS aPointsn aPointsl).1) ((l_toPointS aPointsn aPointsl).2)).2) != ((s_ConicThrough aP ((l_toPointS aPointsn aPointsl).1) ((l_toPointS aPointsn aPointsl).2)).2)) = true then some false else (if (lenB aPointsn 2 aPointsl && Nat.ble aPointsn 1048576) = true then (if (lenB ((l_toPointS aPointsn aPointsl).1) 2 ((l_toPointS aPointsn aPointsl).2) && lenB ((l_toPointS aPointsn aPointsl).1) 2 ((l_toPointS aPointsn aPointsl).2)) = true then (if (!(l_eqPointS ((l_toPointS aPointsn aPointsl).1) ((l_toPointS aPointsn aPointsl).2) ((l_toPointS aPointsn aPointsl).1) ((l_toPointS aPointsn aPointsl).2))) = true then some false else some true) else none) else none))) else none) else none) else none) else none))
theorem eq_l_FnExactConicThrough (aP : Int) (aPointsn : Nat) (aPointsl : List Int) : execT Try.prog S_l_FnExactConicThrough 4 45 (fun _ => 1000000) dec_b [.v (.int .i64 aP), .s aPointsn (.ints aPointsl)] = Fo_l_FnExactConicThrough aP aPointsn aPointsl := by
  kernel_rfl
theorem eqConic_self (k : P6) : l_eqConic k k = true := by simp [l_eqConic]
theorem point_eq {p : Int} (hp : Pr p) (a : P2) : s_l01Point p a = i_isPoint p a := by
  unfold s_l01Point i_isPoint i_areNumbers
  rw [in_eq hp, in_eq hp]
  simp only [List.all_cons, List.all_nil, Bool.and_true]
  cases i_isNumber p a.1 <;> rfl
theorem points_code (p : Int) (n : Nat) (l : List Int) (k : Bool) : s_l01Code p (rows2 n l) = i_asked p k (i_arePoints p (rows2 n l)) := by
  unfold s_l01Code i_asked s_l01Field
  cases h : i_IsField p
  · rfl
  · have hp := i_IsField_ok h
    have e : (rows2 n l).all (fun x => s_l01Point p x) = i_arePoints p (rows2 n l) := by unfold i_arePoints; congr 1; funext a; exact point_eq hp a
    rw [e]
theorem rg_pts {p : Int} {pl : List Int} (hf : i_IsField p = true) (ha : i_arePoints p (rows2 5 pl) = true) : Rg p (m5 p pl) := by
  have hp := i_IsField_ok hf
  have hm := field_mem hf
  have hall : ∀ i, i < 5 → (0 ≤ pl.getD (i * 2) 0 ∧ pl.getD (i * 2) 0 < p) ∧ (0 ≤ pl.getD (i * 2 + 1) 0 ∧ pl.getD (i * 2 + 1) 0 < p) := fun i hi => by
    have : i_isPoint p (pl.getD (i * 2) 0, pl.getD (i * 2 + 1) 0) = true := List.all_eq_true.1 ha _ (List.mem_map.2 ⟨i, List.mem_range.2 hi, rfl⟩)
    exact isPoint_num this
  intro i c hi hc
  obtain ⟨hx, hy⟩ := hall i hi
  have key : ∀ a b : Int, 0 ≤ a ∧ a < p → 0 ≤ b ∧ b < p → 0 ≤ (wrap64 (a * b)).tmod p ∧ (wrap64 (a * b)).tmod p < p := fun a b h1 h2 => by
    rw [w_mul (bd_of hp h1) (bd_of hp h2), tmod_pos (mul_b (bd_of hp h1) (bd_of hp h2)).1]
    exact rest_b hp _
  have cc : c = 0 ∨ c = 1 ∨ c = 2 ∨ c = 3 ∨ c = 4 ∨ c = 5 := by omega
  unfold m5 i_row
  rcases cc with rfl | rfl | rfl | rfl | rfl | rfl
  · exact key _ _ hx hx
  · exact key _ _ hx hy
  · exact key _ _ hy hy
  · exact hx
  · exact hy
  · show 0 ≤ (1 : Int) ∧ (1 : Int) < p
    simp at hm
    omega
theorem through_fu (fu : Nat) (hfu : 20 ≤ fu) {p : Int} {n : Nat} {l : List Int} (h : lenB n 2 l = true) : ∃ r, Fo_i_ConicThrough fu p n l = some r ∧ Fo_s_ConicThrough fu p n l = some r := by
  obtain ⟨hl, _⟩ := lenB_ok h
  unfold Fo_i_ConicThrough Fo_s_ConicThrough G_i_ConicThrough G_s_ConicThrough
  rw [h, Bool.true_or, if_pos rfl, if_pos rfl, points_code p n l true]
  by_cases hf : i_IsField p = true
  · by_cases h5 : n = 5
    · subst h5
      have e1 : i_ConicThrough_c1 5 l p = i_arePoints p (rows2 5 l) := by
        unfold i_ConicThrough_c1
        rw [if_pos (by decide)]
      rw [e1]
      by_cases ha : i_arePoints p (rows2 5 l) = true
      · have e0 : i_asked p true (i_arePoints p (rows2 5 l)) = 0 := by
          unfold i_asked
          rw [hf, ha]
          rfl
        obtain ⟨K, inst, φ, H⟩ := hom_of hf
        have hm := rg_pts hf ha
        have hl' : l.length = 10 := by omega
        obtain ⟨F, rfl⟩ : ∃ F, fu = F + 6 := ⟨fu - 6, by omega⟩
        obtain ⟨r, er, hr⟩ := i_out (φ := φ) H hf hl' hm (fu := F + 6) (by omega) (F := F)
        obtain ⟨r', er', hr'⟩ := s_out (φ := φ) H hf hl' hm (fu := F + 6) hfu (F := F)
        have hrr := OutC.uni H hr hr'
        subst hrr
        rw [e0, if_neg (by decide), if_pos (by decide), if_neg (by decide), if_neg (by decide)]
        exact ⟨r, er, er'⟩
      · have ha' : i_arePoints p (rows2 5 l) = false := by simpa using ha
        have e0 : i_asked p true (i_arePoints p (rows2 5 l)) = 2 := by
          unfold i_asked
          rw [hf, ha']
          rfl
        rw [e0, if_pos (by decide), if_neg (by decide), if_pos (by decide)]
        exact ⟨_, rfl, rfl⟩
    · have e1 : i_ConicThrough_c1 n l p = false := by
        unfold i_ConicThrough_c1
        rw [if_neg (by simp; omega)]
      have e2 : i_asked p true false = 2 := by
        unfold i_asked
        rw [hf]
        rfl
      rw [e1, e2, if_pos (by decide)]
      by_cases ha : i_arePoints p (rows2 n l) = true
      · have e0 : i_asked p true (i_arePoints p (rows2 n l)) = 0 := by
          unfold i_asked
          rw [hf, ha]
          rfl
        rw [e0, if_pos (by decide), if_pos (by simp; omega)]
        exact ⟨_, rfl, rfl⟩
      · have ha' : i_arePoints p (rows2 n l) = false := by simpa using ha
        have e0 : i_asked p true (i_arePoints p (rows2 n l)) = 2 := by
          unfold i_asked
          rw [hf, ha']
          rfl
        rw [e0, if_neg (by decide), if_pos (by decide)]
        exact ⟨_, rfl, rfl⟩
  · have hf' : i_IsField p = false := by simpa using hf
    have e1 : ∀ k, i_asked p true k = 1 := fun k => by
      unfold i_asked
      rw [hf']
      rfl
    rw [e1, e1, if_pos (by decide), if_neg (by decide), if_pos (by decide)]
    exact ⟨_, rfl, rfl⟩
theorem through_eq {p : Int} {n : Nat} {l : List Int} (h : lenB n 2 l = true) : ok_i_ConicThrough p n l = true ∧ ok_s_ConicThrough p n l = true ∧ i_ConicThrough p n l = s_ConicThrough p n l := by
  obtain ⟨r, e1, e2⟩ := through_fu 1000000 (by decide) (p := p) h
  exact ⟨ok_i_ConicThrough_of e1, ok_s_ConicThrough_of e2, (i_ConicThrough_of e1).trans (s_ConicThrough_of e2).symm⟩
theorem ConicThrough_tot (aP : Int) (aPointsn : Nat) (aPointsl : List Int) (hp : (Nat.beq aPointsl.length (2 * aPointsn) && Nat.ble aPointsn 9223372036854775807) = true) : Fo_l_FnExactConicThrough aP aPointsn aPointsl = some true := by
  have hl := Nat.eq_of_beq_eq_true (and_l hp)
  have hmx := Nat.le_of_ble_eq_true (and_r hp)
  unfold Fo_l_FnExactConicThrough
  refine br_step (fun _ => rfl) (fun hb => ?_)
  have hn : aPointsn ≤ 1048576 := by
    unfold l_szPointS at hb
    by_cases h : aPointsn ≤ 1048576
    · exact h
    · have e : wrap64 (1048576 - ((aPointsn : Nat) : Int)) = 1048576 - ((aPointsn : Nat) : Int) := by unfold wrap64; omega
      rw [e, if_pos (by simp; omega)] at hb
      simp at hb
  have hL : lenB aPointsn 2 aPointsl = true := lenB_of (by omega) (by omega)
  have hT : (lenB aPointsn 2 aPointsl && Nat.ble aPointsn 1048576) = true := and_two hL (ble_ok hn)
  obtain ⟨k1, k2, e⟩ := through_eq (p := aP) hL
  refine ck_step hT ?_
  refine ck_step k2 ?_
  refine ck_step hT ?_
  refine ck_step k1 ?_
  refine nt_step (by show l_eqConic (i_ConicThrough aP aPointsn aPointsl).1 (s_ConicThrough aP aPointsn aPointsl).1 = true; rw [e]; exact eqConic_self _) ?_
  refine ne_step (congrArg Prod.snd e) ?_
  refine ck_step hT ?_
  refine ck_step (and_two hL hL) ?_
  exact nt_step (beq_self_eq_true aPointsl) rfl

def l_FnExactConicThrough (aP : Int) (aPointsn : Nat) (aPointsl : List Int) : Bool := true
theorem tot_l_FnExactConicThrough (aP : Int) (aPointsn : Nat) (aPointsl : List Int) (hp : (Nat.beq aPointsl.length (2 * aPointsn) && Nat.ble aPointsn 9223372036854775807) = true) : Fo_l_FnExactConicThrough aP aPointsn aPointsl = some (l_FnExactConicThrough aP aPointsn aPointsl) := by
  exact ConicThrough_tot aP aPointsn aPointsl hp
def run_l_FnExactConicThrough : List PV → Option (Bool × List TR)
  | [.v (.int .i64 aP), .s aPointsn (.ints aPointsl)] => some (Nat.beq aPointsl.length (2 * aPointsn) && Nat.ble aPointsn 9223372036854775807, enc_b (l_FnExactConicThrough aP aPointsn aPointsl))
  | _ => none
theorem sound_l_FnExactConicThrough : Sound Try.prog 4 run_l_FnExactConicThrough := by
  refine sound_of de_b SO_l_FnExactConicThrough (by kernel_rfl) Try.func4 Try.ntmps4 rfl (by kernel_rfl) ?_
  intro W pvs avs rs hargs hrun
  unfold run_l_FnExactConicThrough at hrun
  split at hrun
  · simp only [Option.some.injEq, Prod.mk.injEq] at hrun
    obtain ⟨hp, rfl⟩ := hrun
    rename_i aP aPointsn aPointsl
    exact ⟨_, _, _, hargs, rfl, (eq_l_FnExactConicThrough aP aPointsn aPointsl).trans (tot_l_FnExactConicThrough aP aPointsn aPointsl hp)⟩
  · cases hrun


end

end Go.Proofs.Ytikfglnhkjoioaa
