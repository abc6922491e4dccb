import Derived.Test.YtoblkbpejfojjaaGreatDoorFe
import Derived.Test.YtoblkbpejfojjaaGreatDoorGd
import Derived.Test.YtoblkbpejfojjaaGreatDoorZe
set_option linter.unusedSimpArgs false
set_option linter.unusedVariables false
namespace Go.Proofs.YtoblkbpejfojjaaGreatDoor
open Go.RowKit
/-! Turns: both functions give the same, p - 1 or p + 1 of them. -/
theorem TurnsAbout_same (p c : Int) (a : P2) : i_TurnsAbout p c a = s_TurnsAbout p c a := by
  by_cases h : i_asked p true (i_TurnsAbout_c1 c p a) = 0
  · obtain ⟨K, U, V, F⟩ := facts_all (turn_zero h).1 (turn_zero h).2.1
    rw [i_TurnsAbout_of (ITurns_at h F), s_TurnsAbout_of (STurns_at h F)]
  · have e1 : Fo_i_TurnsAbout p c a = some ((0, []), i_asked p true (i_TurnsAbout_c1 c p a)) := by
      unfold Fo_i_TurnsAbout
      rw [if_pos (Bool.true_or _), if_pos (bne_iff_ne.2 h)]
    have e2 : Fo_s_TurnsAbout 1000000 p c a = some ((0, []), i_asked p true (i_TurnsAbout_c1 c p a)) := by
      unfold Fo_s_TurnsAbout G_s_TurnsAbout
      rw [turncode, if_pos (bne_iff_ne.2 h)]
    rw [i_TurnsAbout_of e1, s_TurnsAbout_of e2]
theorem CountTurns_same (p c : Int) : i_CountTurns p c = s_CountTurns p c := by
  by_cases h : i_asked p true (i_CountTurns_c1 c) = 0
  · obtain ⟨K, U, V, F⟩ := facts_all (count_zero h).1 (count_zero h).2
    rw [i_CountTurns_of (ICount_at h F), s_CountTurns_of (SCount_at h F)]
  · have e1 : Fo_i_CountTurns p c = some (0, i_asked p true (i_CountTurns_c1 c)) := by
      unfold Fo_i_CountTurns
      rw [if_pos (Bool.true_or _), if_pos (bne_iff_ne.2 h)]
    have e2 : Fo_s_CountTurns p c = some (0, i_asked p true (i_CountTurns_c1 c)) := by
      unfold Fo_s_CountTurns
      rw [countcode, if_pos (bne_iff_ne.2 h)]
    rw [i_CountTurns_of e1, s_CountTurns_of e2]
theorem turns_count {p c : Int} {a : P2} (h : (i_TurnsAbout p c a).2 = 0) : (((i_TurnsAbout p c a).1.1 : Nat) : Int) = (i_CountTurns p c).1 ∧ ((i_CountTurns p c).1 = p - 1 ∨ (i_CountTurns p c).1 = p + 1) := by
  by_cases hz : i_asked p true (i_TurnsAbout_c1 c p a) = 0
  · obtain ⟨hf, hc, ha⟩ := turn_zero hz
    obtain ⟨K, U, V, F⟩ := facts_all hf hc
    have hz2 : i_asked p true (i_CountTurns_c1 c) = 0 := by
      unfold i_CountTurns_c1
      rcases hc with rfl | rfl | rfl <;> simp [i_asked, hf, i_isColour]
    rw [i_TurnsAbout_of (ITurns_at hz F), i_CountTurns_of (ICount_at hz2 F)]
    have hp := pr_nat (Pr_prB (i_IsField_ok hf))
    refine ⟨rfl, ?_⟩
    rcases F.up with e | e
    · exact Or.inl (by show ((U.length : Nat) : Int) = p - 1; omega)
    · exact Or.inr (by show ((U.length : Nat) : Int) = p + 1; omega)
  · have e1 : Fo_i_TurnsAbout p c a = some ((0, []), i_asked p true (i_TurnsAbout_c1 c p a)) := by
      unfold Fo_i_TurnsAbout
      rw [if_pos (Bool.true_or _), if_pos (bne_iff_ne.2 hz)]
    rw [i_TurnsAbout_of e1] at h
    exact absurd h hz

/-! Moves between two pairs of points: both functions give the same, and they are two. -/
theorem between_list {p k : Int} (hf : i_IsField p = true) {K : List P4o} {U V : List P6o} (F : Facts p k K U V) {a b d e : P2} (ha : i_isPoint p a = true) (hb : i_isPoint p b = true) (hd : i_isPoint p d = true) (he : i_isPoint p e = true) :
    sort6 ((K.filter fun m => i_MovesBetween_c2 m p (i_less p b a) (i_less p e d)).map (shiftM p a d)) = sort6 (((V ++ U).map (aboutC p a d)).filter fun m => s_l07Move p m b == e) := by
  have e1 : (K.filter fun m => i_MovesBetween_c2 m p (i_less p b a) (i_less p e d)).map (shiftM p a d) = ((K.map toM).map (aboutC p a d)).filter fun m => s_l07Move p m b == e := by
    rw [List.map_map, List.filter_map]
    refine congrArg (List.map _) (List.filter_congr fun m hm => ?_)
    exact between_pred hf (F.km m hm).1 ha hb hd he
  have k1 : ((K.map toM).map (aboutC p a d)).Pairwise (fun m n => key6 m ≠ key6 n) := (List.pairwise_map (f := aboutC p a d)).2 F.kd
  have k2 : ((V ++ U).map (aboutC p a d)).Pairwise (fun m n => key6 m ≠ key6 n) := (List.pairwise_map (f := aboutC p a d)).2 F.vd
  rw [e1, ← sort6_filter _ k1, ← sort6_filter _ k2, ← sort6_map (aboutC p a d) (fun _ => rfl), ← sort6_map (aboutC p a d) (fun _ => rfl), F.so]
theorem MovesBetween_same (p k : Int) (a b d e : P2) : i_MovesBetween p k a b d e = s_MovesBetween p k a b d e := by
  by_cases h : i_asked p true (i_MovesBetween_c1 k p a b d e) = 0
  · by_cases hq : i_quadrance p k a b = 0 ∨ i_quadrance p k a b ≠ i_quadrance p k d e
    · rw [i_MovesBetween_of (IBetween_five h hq), s_MovesBetween_of (SBetween_five h hq)]
    · have q1 : i_quadrance p k a b ≠ 0 := fun e => hq (Or.inl e)
      have q2 : i_quadrance p k a b = i_quadrance p k d e := Decidable.byContradiction fun e => hq (Or.inr e)
      obtain ⟨hf, hc, ha, hb, hd, he⟩ := between_zero h
      obtain ⟨K, U, V, F⟩ := facts_all hf hc
      rw [i_MovesBetween_of (IBetween_at h q1 q2 F), s_MovesBetween_of (SBetween_at h q1 q2 F), ← between_list hf F ha hb hd he, sort6_len]
  · rw [i_MovesBetween_of (IBetween_low h), s_MovesBetween_of (SBetween_low h)]

/-! What the turns and the moves between do: their points, their kinds, their number. -/
theorem movepoint_okR {p c : Int} {m : P6} {a : P2} (hz : i_moveAsked p c m true i_always = 0) (ha : i_isPoint p a = true) : i_MovePoint p m a = (i_moved p m a, 0) := by
  obtain ⟨hf, hc, hm, hk, _⟩ := move_ok hz
  unfold i_MovePoint i_MovePoint_c1
  simp [hm, ha, i_asked, hf]
theorem isC_colourR {c : Int} (hc : isC c) : i_isColour c = true := by rcases hc with rfl | rfl | rfl <;> rfl
theorem aboutC_vm {p : Int} {K : Type} [Lean.Grind.Field K] {φ : Int → K} (H : Hom p K φ) (hf : i_IsField p = true) {m : P4o} (hm : i_areNumbers p [m.1, m.2.1, m.2.2.1, m.2.2.2] = true) {a d : P2} (ha : i_isPoint p a = true) (hd : i_isPoint p d = true) :
    Vm p φ (aboutC p a d (toM m)) (φ m.1) (φ m.2.1) (φ m.2.2.1) (φ m.2.2.2) (φ d.1 - (φ m.1 * φ a.1 + φ m.2.1 * φ a.2)) (φ d.2 - (φ m.2.2.1 * φ a.1 + φ m.2.2.2 * φ a.2)) := by
  have h : (0 ≤ m.1 ∧ m.1 < p) ∧ (0 ≤ m.2.1 ∧ m.2.1 < p) ∧ (0 ≤ m.2.2.1 ∧ m.2.2.1 < p) ∧ (0 ≤ m.2.2.2 ∧ m.2.2.2 < p) := by simpa [i_areNumbers, isNumber_iff] using hm
  obtain ⟨h1, h2, h3, h4⟩ := h
  obtain ⟨a1, a2⟩ := isPoint_num ha; obtain ⟨d1, d2⟩ := isPoint_num hd
  have v1 := Vl.of (φ := φ) h1; have v2 := Vl.of (φ := φ) h2; have v3 := Vl.of (φ := φ) h3; have v4 := Vl.of (φ := φ) h4
  have A1 := Vl.of (φ := φ) a1; have A2 := Vl.of (φ := φ) a2; have D1 := Vl.of (φ := φ) d1; have D2 := Vl.of (φ := φ) d2
  obtain ⟨s1, s2⟩ := vl_turned H hf v1 v2 v3 v4 A1 A2
  exact ⟨v1, v2, v3, v4, vl_less1 H hf D1 s1, vl_less2 H hf D2 s2⟩
theorem aboutC_move {p c : Int} (hf : i_IsField p = true) (hc : isC c) {m : P4o} (hm : i_areNumbers p [m.1, m.2.1, m.2.2.1, m.2.2.2] = true ∧ i_keeps p c m = true) {a d : P2} (ha : i_isPoint p a = true) (hd : i_isPoint p d = true) :
    i_moveAsked p c (aboutC p a d (toM m)) true i_always = 0 ∧ i_moved p (aboutC p a d (toM m)) a = d := by
  obtain ⟨K, _, φ, H⟩ := hom_of hf
  have hV := aboutC_vm H hf hm.1 ha hd
  obtain ⟨a1, a2⟩ := isPoint_num ha; obtain ⟨d1, d2⟩ := isPoint_num hd
  have A1 := Vl.of (φ := φ) a1; have A2 := Vl.of (φ := φ) a2; have D1 := Vl.of (φ := φ) d1; have D2 := Vl.of (φ := φ) d2
  obtain ⟨w1, w2⟩ := vl_moved H hf hV A1 A2
  refine ⟨move_zero hf (isC_colourR hc) ?_ hm.2, Prod.ext (Vl.inj H w1 (D1.conv (by grind))) (Vl.inj H w2 (D2.conv (by grind)))⟩
  unfold i_isMap
  refine (if_pos (show i_areNumbers p [(aboutC p a d (toM m)).1, (aboutC p a d (toM m)).2.1, (aboutC p a d (toM m)).2.2.1, (aboutC p a d (toM m)).2.2.2.1] = true from hm.1)).trans ?_
  unfold i_isPoint
  simp [i_areNumbers, isNumber_iff.2 hV.s.1, isNumber_iff.2 hV.t.1]
theorem kind_turn {p c : Int} {m : P6} {a : P2} (hz : i_moveAsked p c m true i_always = 0) (hs : i_sign p (m.1, m.2.1, m.2.2.1, m.2.2.2.1) = 1) (ha : i_isPoint p a = true) (hx : i_moved p m a = a) : i_KindOfMove p c m = (0, 0) ∨ i_KindOfMove p c m = (2, 0) := by
  obtain ⟨hf, hc, hm, hk, _⟩ := move_ok hz
  obtain ⟨K, _, φ, H⟩ := hom_of hf
  have n2 := H.two_ne hf
  have h := Vm.of (φ := φ) hm
  have k := (keeps_iff H hf hc h).1 hk
  have e1 := mat_one H hf h
  have e2 := shift_zero H h
  have e6 := six_eq m
  obtain ⟨a1, a2⟩ := isPoint_num ha
  obtain ⟨w1, w2⟩ := vl_moved H hf h (Vl.of (φ := φ) a1) (Vl.of (φ := φ) a2)
  rw [hx] at w1 w2
  have g1 := w1.2; have g2 := w2.2
  by_cases c1 : (m.1, m.2.1, m.2.2.1, m.2.2.2.1) = (1, 0, 0, 1)
  · obtain ⟨q1, q2, q3, q4⟩ := e1.1 c1
    have c2 : m.2.2.2.2 = (0, 0) := e2.2 ⟨by rw [q1, q2] at g1; grind, by rw [q3, q4] at g2; grind⟩
    left
    unfold i_KindOfMove
    rw [hz, if_neg (by simp), if_pos (by simpa using e6.2 ⟨c1, c2⟩)]
  · right
    have c6 : ¬ m = (1, 0, 0, 1, 0, 0) := fun e => c1 (e6.1 e).1
    have d1 : ¬ (φ m.1 = 1 ∧ φ m.2.1 = 0 ∧ φ m.2.2.1 = 0 ∧ φ m.2.2.2.1 = 1) := fun e => c1 (e1.2 e)
    have hd := (sign_one H hf h).1 hs
    have hv := kp_solve hc n2 k hd d1
    obtain ⟨X, Y, f1, f2⟩ := turn_fix (S := φ m.2.2.2.2.1) (T := φ m.2.2.2.2.2) hv
    have hu := fix_unique H hf h (turn_unique hv f1 f2)
    unfold i_KindOfMove
    rw [hz, if_neg (by simp), if_neg (by simpa using c6), if_neg (by simpa using c1), if_pos (by simpa using hs), hu, if_pos (by decide)]
/-- A turn of the list keeps its point and is the identity or a turn. -/
theorem turns_each {p c : Int} {a : P2} (h : (i_TurnsAbout p c a).2 = 0) : ∀ j, j < (i_TurnsAbout p c a).1.1 → ∃ m : P6,
    ((i_TurnsAbout p c a).1.2.getD (j * 6 + 0) 0, (i_TurnsAbout p c a).1.2.getD (j * 6 + 1) 0, (i_TurnsAbout p c a).1.2.getD (j * 6 + 2) 0, (i_TurnsAbout p c a).1.2.getD (j * 6 + 3) 0, (i_TurnsAbout p c a).1.2.getD (j * 6 + 4) 0, (i_TurnsAbout p c a).1.2.getD (j * 6 + 5) 0) = m ∧
    i_MovePoint p m a = (a, 0) ∧ (i_KindOfMove p c m = (0, 0) ∨ i_KindOfMove p c m = (2, 0)) := by
  by_cases hz : i_asked p true (i_TurnsAbout_c1 c p a) = 0
  · obtain ⟨hf, hc, ha⟩ := turn_zero hz
    obtain ⟨K, U, V, F⟩ := facts_all hf hc
    rw [i_TurnsAbout_of (ITurns_at hz F)]
    intro j hj
    have hj : j < U.length := hj
    refine ⟨_, flat6_row (U.map fun m => s_l07About p m a) j (by rw [List.length_map]; exact hj), ?_⟩
    rw [List.getElem_map]
    have hU : U[j] ∈ sort6 ((K.filter fun m => i_sign p m == 1).map toM) := by rw [F.su]; exact List.getElem_mem hj
    obtain ⟨m, hm, e⟩ := List.mem_map.1 (sort6_mem hU)
    obtain ⟨hK, hs⟩ := List.mem_filter.1 hm
    rw [← e]
    obtain ⟨g1, g2⟩ := aboutC_move hf hc (F.km m hK) ha ha
    refine ⟨?_, kind_turn (a := a) g1 (eq_of_beq hs) ha g2⟩
    have := movepoint_okR g1 ha
    rw [g2] at this
    exact this
  · have e1 : Fo_i_TurnsAbout p c a = some ((0, []), i_asked p true (i_TurnsAbout_c1 c p a)) := by
      unfold Fo_i_TurnsAbout
      rw [if_pos (Bool.true_or _), if_pos (bne_iff_ne.2 hz)]
    rw [i_TurnsAbout_of e1] at h
    exact absurd h hz
/-- A move of the list takes the one pair to the other. -/
theorem between_each (p c : Int) (a b d e : P2) : ∀ j, j < (i_MovesBetween p c a b d e).1.1 → ∃ m : P6,
    ((i_MovesBetween p c a b d e).1.2.getD (j * 6 + 0) 0, (i_MovesBetween p c a b d e).1.2.getD (j * 6 + 1) 0, (i_MovesBetween p c a b d e).1.2.getD (j * 6 + 2) 0, (i_MovesBetween p c a b d e).1.2.getD (j * 6 + 3) 0, (i_MovesBetween p c a b d e).1.2.getD (j * 6 + 4) 0, (i_MovesBetween p c a b d e).1.2.getD (j * 6 + 5) 0) = m ∧
    i_MovePoint p m a = (d, 0) ∧ i_MovePoint p m b = (e, 0) := by
  by_cases h : i_asked p true (i_MovesBetween_c1 c p a b d e) = 0
  · by_cases hq : i_quadrance p c a b = 0 ∨ i_quadrance p c a b ≠ i_quadrance p c d e
    · rw [i_MovesBetween_of (IBetween_five h hq)]
      exact fun j hj => absurd hj (Nat.not_lt_zero j)
    · have q1 : i_quadrance p c a b ≠ 0 := fun e => hq (Or.inl e)
      have q2 : i_quadrance p c a b = i_quadrance p c d e := Decidable.byContradiction fun e => hq (Or.inr e)
      obtain ⟨hf, hc, ha, hb, hd, he⟩ := between_zero h
      obtain ⟨K, U, V, F⟩ := facts_all hf hc
      rw [i_MovesBetween_of (IBetween_at h q1 q2 F)]
      intro j hj
      have hj : j < (sort6 ((K.filter fun m => i_MovesBetween_c2 m p (i_less p b a) (i_less p e d)).map (shiftM p a d))).length := by rw [sort6_len]; exact hj
      refine ⟨_, flat6_row _ j hj, ?_⟩
      obtain ⟨m, hm, g⟩ := List.mem_map.1 (sort6_mem (List.getElem_mem hj))
      obtain ⟨hK, hs⟩ := List.mem_filter.1 hm
      rw [← g]
      obtain ⟨g1, g2⟩ := aboutC_move hf hc (F.km m hK) ha hd
      have hp := between_pred hf (F.km m hK).1 ha hb hd he
      have g3 : i_moved p (aboutC p a d (toM m)) b = e := by
        rw [← move_is]
        exact eq_of_beq (hp.symm.trans hs)
      refine ⟨?_, ?_⟩
      · have := movepoint_okR g1 ha
        rw [g2] at this
        exact this
      · have := movepoint_okR g1 hb
        rw [g3] at this
        exact this
  · rw [i_MovesBetween_of (IBetween_low h)]
    exact fun j hj => absurd hj (Nat.not_lt_zero j)
theorem between_two {p c : Int} {a b d e : P2} (hm : i_IsField p = true → p ∈ ([3, 5, 7, 11, 13] : List Int)) (h : (i_MovesBetween p c a b d e).2 = 0) : (i_MovesBetween p c a b d e).1.1 = 2 := by
  by_cases hz : i_asked p true (i_MovesBetween_c1 c p a b d e) = 0
  · by_cases hq : i_quadrance p c a b = 0 ∨ i_quadrance p c a b ≠ i_quadrance p c d e
    · rw [i_MovesBetween_of (IBetween_five hz hq)] at h
      cases h
    · have q1 : i_quadrance p c a b ≠ 0 := fun e => hq (Or.inl e)
      have q2 : i_quadrance p c a b = i_quadrance p c d e := Decidable.byContradiction fun e => hq (Or.inr e)
      obtain ⟨hf, hc, ha, hb, hd, he⟩ := between_zero hz
      obtain ⟨K, U, V, F⟩ := facts_all hf hc
      have hcm : c ∈ ([0, 1, 2] : List Int) := by rcases hc with rfl | rfl | rfl <;> simp
      have ht := List.all_eq_true.1 (List.all_eq_true.1 two_chk p (hm hf)) c hcm
      rw [i_MovesBetween_of (IBetween_at hz q1 q2 F)]
      show ((K.filter fun m => i_MovesBetween_c2 m p (i_less p b a) (i_less p e d)).map (shiftM p a d)).length = 2
      rw [List.length_map]
      exact pair_two hf hc ht F ha hb hd he q2 q1
  · rw [i_MovesBetween_of (IBetween_low hz)] at h
    exact absurd h hz

end Go.Proofs.YtoblkbpejfojjaaGreatDoor
