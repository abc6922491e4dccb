import Derived.Test.YtcdpfpfbilfpoaaGreatDoorQe
set_option linter.unusedSimpArgs false
set_option linter.unusedVariables false
namespace Go.Proofs.YtcdpfpfbilfpoaaGreatDoor
open Go.RowKit
def Res (s : Option (Dk × ByteArray × Int)) (D : Dk) (n : Nat) (l : List ByteArray) : Prop :=
 (∃ D1 D2 t1 t2 k1 k2, s = some (D1, t1, k1) ∧ Fo_i_change D n l = some (t2, k2, true, D2) ∧ (k1 = 0 ↔ k2 = 0) ∧ (k1 = 0 → D1 = D2 ∧ t1 = t2 ∧ t1.size ≤ 100000000 ∧ i_IsDesk D1 = true)) ∨
 (∃ t1 t2 k, s = some (D, t1, k) ∧ Fo_i_change D n l = some (bs [], 0, false, D) ∧ Fo_i_answer D n l = some (t2, k, D) ∧ (k = 0 → t1 = t2 ∧ t1.size ≤ 100000000))
theorem mk_desk {p c a1 a2 b1 b2 d1 d2 : Int} (hf : i_IsField p = true) (hc : isC c) (ha : i_isPoint p (a1, a2) = true) (hb : i_isPoint p (b1, b2) = true) (hd : i_isPoint p (d1, d2) = true) : i_IsDesk (p, c, a1, a2, b1, b2, d1, d2) = true := by
 unfold i_IsDesk
 dsimp only
 rw [if_pos hf, if_pos (colour_of hc)]
 simp [i_arePoints, ha, hb, hd]
theorem of_desk {p c a1 a2 b1 b2 d1 d2 : Int} (h : i_IsDesk (p, c, a1, a2, b1, b2, d1, d2) = true) : i_IsField p = true ∧ isC c ∧ i_isPoint p (a1, a2) = true ∧ i_isPoint p (b1, b2) = true ∧ i_isPoint p (d1, d2) = true := by
 unfold i_IsDesk at h
 dsimp only at h
 by_cases hf : i_IsField p = true
 ·rw [if_pos hf] at h
  by_cases hc : i_isColour c = true
  ·rw [if_pos hc] at h
   simp [i_arePoints] at h
   exact ⟨hf, isC_of hc, h⟩
  ·rw [if_neg hc] at h
   cases h
 ·rw [if_neg hf] at h
  cases h
theorem chg_c1 {x : P2} (h : num2 x = true) (k : Int) (D : Dk) : ok_i_change_c1 x k D = true ∧ i_change_c1 x k D = (i_pointText x, k, true, D.1, D.2.1, x.1, x.2, D.2.2.2.2) := by
 have e : Fo_i_change_c1 x k D = some (i_pointText x, k, true, D.1, D.2.1, x.1, x.2, D.2.2.2.2) := by
  unfold Fo_i_change_c1
  rw [if_pos h]
 exact ⟨ok_i_change_c1_of e, i_change_c1_of e⟩
theorem put0 {p c a1 a2 b1 b2 d1 d2 : Int} {x : P2} (h : num2 x = true) (k : Int) : ok_s_l11Put (p, c, a1, a2, b1, b2, d1, d2) 0 x k = true ∧ s_l11Put (p, c, a1, a2, b1, b2, d1, d2) 0 x k = (if k = 0 then ((p, c, x.1, x.2, b1, b2, d1, d2), s_l11Point x, 0) else ((p, c, a1, a2, b1, b2, d1, d2), bs [], k)) := by
 have e : Fo_s_l11Put (p, c, a1, a2, b1, b2, d1, d2) 0 x k = some (if k = 0 then ((p, c, x.1, x.2, b1, b2, d1, d2), s_l11Point x, 0) else ((p, c, a1, a2, b1, b2, d1, d2), bs [], k)) := by
  unfold Fo_s_l11Put
  by_cases hk : k = 0
  ·subst hk
   rw [if_neg (by decide), if_pos (by decide), if_pos (by decide), if_pos h]
   rfl
  ·rw [if_pos (bne_iff_ne.2 hk), if_neg hk]
 exact ⟨ok_s_l11Put_of e, s_l11Put_of e⟩
theorem put1 {p c a1 a2 b1 b2 d1 d2 : Int} {x : P2} (h : num2 x = true) (k : Int) : ok_s_l11Put (p, c, a1, a2, b1, b2, d1, d2) 1 x k = true ∧ s_l11Put (p, c, a1, a2, b1, b2, d1, d2) 1 x k = (if k = 0 then ((p, c, a1, a2, x.1, x.2, d1, d2), s_l11Point x, 0) else ((p, c, a1, a2, b1, b2, d1, d2), bs [], k)) := by
 have e : Fo_s_l11Put (p, c, a1, a2, b1, b2, d1, d2) 1 x k = some (if k = 0 then ((p, c, a1, a2, x.1, x.2, d1, d2), s_l11Point x, 0) else ((p, c, a1, a2, b1, b2, d1, d2), bs [], k)) := by
  unfold Fo_s_l11Put
  by_cases hk : k = 0
  ·subst hk
   rw [if_neg (by decide), if_pos (by decide), if_pos (by decide), if_pos h]
   rfl
  ·rw [if_pos (bne_iff_ne.2 hk), if_neg hk]
 exact ⟨ok_s_l11Put_of e, s_l11Put_of e⟩
theorem put2 {p c a1 a2 b1 b2 d1 d2 : Int} {x : P2} (h : num2 x = true) (k : Int) : ok_s_l11Put (p, c, a1, a2, b1, b2, d1, d2) 2 x k = true ∧ s_l11Put (p, c, a1, a2, b1, b2, d1, d2) 2 x k = (if k = 0 then ((p, c, a1, a2, b1, b2, x.1, x.2), s_l11Point x, 0) else ((p, c, a1, a2, b1, b2, d1, d2), bs [], k)) := by
 have e : Fo_s_l11Put (p, c, a1, a2, b1, b2, d1, d2) 2 x k = some (if k = 0 then ((p, c, a1, a2, b1, b2, x.1, x.2), s_l11Point x, 0) else ((p, c, a1, a2, b1, b2, d1, d2), bs [], k)) := by
  unfold Fo_s_l11Put
  by_cases hk : k = 0
  ·subst hk
   rw [if_neg (by decide), if_pos (by decide), if_pos (by decide), if_pos h]
   rfl
  ·rw [if_pos (bne_iff_ne.2 hk), if_neg hk]
 exact ⟨ok_s_l11Put_of e, s_l11Put_of e⟩
theorem set_res {p c a1 a2 b1 b2 d1 d2 : Int} (hf : i_IsField p = true) (hc : isC c) (ha : i_isPoint p (a1, a2) = true) (hb : i_isPoint p (b1, b2) = true) (hd : i_isPoint p (d1, d2) = true) {x : P2} (k : Int) (h : num2 x = true) (hx : i_isPoint p x = true) : ∃ D1 D2 t1 t2, some ((s_l11Put (p, c, a1, a2, b1, b2, d1, d2) 0 x k).1, (s_l11Put (p, c, a1, a2, b1, b2, d1, d2) 0 x k).2.1, (s_l11Put (p, c, a1, a2, b1, b2, d1, d2) 0 x k).2.2) = some (D1, t1, k) ∧ some (i_change_c1 x k (p, c, a1, a2, b1, b2, d1, d2)) = some (t2, k, true, D2) ∧ (k = 0 → D1 = D2 ∧ t1 = t2 ∧ t1.size ≤ 100000000 ∧ i_IsDesk D1 = true) := by
 rw [(put0 h k).2, (chg_c1 h k _).2]
 by_cases hk : k = 0
 ·subst hk
  rw [if_pos rfl]
  exact ⟨_, _, _, _, rfl, rfl, fun _ => ⟨rfl, rfl, pt_size h, mk_desk hf hc hx hb hd⟩⟩
 ·rw [if_neg hk]
  exact ⟨_, _, _, _, rfl, rfl, fun q => absurd q hk⟩
theorem chg_turn {p c a1 a2 b1 b2 d1 d2 : Int} (hf : i_IsField p = true) (hc : isC c) (ha : i_isPoint p (a1, a2) = true) (hb : i_isPoint p (b1, b2) = true) (hd : i_isPoint p (d1, d2) = true) : Res (Fo_s_l11Alone (p, c, a1, a2, b1, b2, d1, d2) (bs [116, 117, 114, 110])) (p, c, a1, a2, b1, b2, d1, d2) 1 [bs [116, 117, 114, 110]] := by
 have n1 : ptsB 3 [b1, b2, d1, d2, a1, a2] = true := by
  have x := num2_pt hf ha; have y := num2_pt hf hb; have z := num2_pt hf hd
  unfold num2 at x y z
  simp only [Bool.and_eq_true] at x y z
  simp [ptsB, lenB, x.1, x.2, y.1, y.2, z.1, z.2]
 refine .inl ⟨(p, c, b1, b2, d1, d2, a1, a2), (p, c, b1, b2, d1, d2, a1, a2), s_l11Points 3 [b1, b2, d1, d2, a1, a2], s_l11Points 3 [b1, b2, d1, d2, a1, a2], 0, 0, ?_, ?_, Iff.rfl, fun _ => ⟨rfl, rfl, pts_size n1, mk_desk hf hc hb hd ha⟩⟩
 ·unfold Fo_s_l11Alone
  rw [if_pos (eq_str _)]
  try dsimp only
  rw [if_pos n1]
 ·unfold Fo_i_change
  rw [if_pos (by decide), if_pos (by decide), if_pos (by rfl)]
  simp only [List.getD_cons_zero]
  rw [if_pos (eq_str _)]
  try dsimp only [k32_0]
  rw [if_pos n1]
  rfl
theorem chg_middle {p c a1 a2 b1 b2 d1 d2 : Int} (hf : i_IsField p = true) (hc : isC c) (ha : i_isPoint p (a1, a2) = true) (hb : i_isPoint p (b1, b2) = true) (hd : i_isPoint p (d1, d2) = true) : Res (Fo_s_l11Alone (p, c, a1, a2, b1, b2, d1, d2) (bs [109, 105, 100, 100, 108, 101])) (p, c, a1, a2, b1, b2, d1, d2) 1 [bs [109, 105, 100, 100, 108, 101]] := by
 have e1 := (cmd_mid hf ha hb).1
 have n1 := (cmd_mid hf ha hb).2
 obtain ⟨D1, D2, t1, t2, h1, h2, h3⟩ := set_res hf hc ha hb hd (s_MidpointOf p (a1, a2) (b1, b2)).2 n1 (pt_mid hf ha hb)
 refine .inl ⟨D1, D2, t1, t2, _, _, ?_, ?_, Iff.rfl, h3⟩
 ·unfold Fo_s_l11Alone
  rw [nE (by decide), if_pos (eq_str _)]
  try dsimp only
  rw [if_pos (put0 n1 _).1]
  exact h1
 ·unfold Fo_i_change
  rw [if_pos (by decide), if_pos (by decide), if_pos (by rfl)]
  simp only [List.getD_cons_zero]
  rw [nE (by decide), if_pos (eq_str _)]
  try dsimp only [k32_1, k32_2]
  rw [if_pos (by rw [e1]; exact (chg_c1 n1 _ _).1), e1]
  exact h2
theorem chg_centre {p c a1 a2 b1 b2 d1 d2 : Int} (hf : i_IsField p = true) (hc : isC c) (ha : i_isPoint p (a1, a2) = true) (hb : i_isPoint p (b1, b2) = true) (hd : i_isPoint p (d1, d2) = true) : Res (Fo_s_l11Alone (p, c, a1, a2, b1, b2, d1, d2) (bs [99, 101, 110, 116, 114, 101])) (p, c, a1, a2, b1, b2, d1, d2) 1 [bs [99, 101, 110, 116, 114, 101]] := by
 have e1 := (cmd_circum (p := p) (c := c) (a1, a2) (b1, b2) (d1, d2)).1
 have n1 := (cmd_circum (p := p) (c := c) (a1, a2) (b1, b2) (d1, d2)).2
 obtain ⟨D1, D2, t1, t2, h1, h2, h3⟩ := set_res hf hc ha hb hd (s_CircumcentreOf p c (a1, a2) (b1, b2) (d1, d2)).2 n1 (pt_circum (c := c) hf (a1, a2) (b1, b2) (d1, d2))
 refine .inl ⟨D1, D2, t1, t2, _, _, ?_, ?_, Iff.rfl, h3⟩
 ·unfold Fo_s_l11Alone
  rw [nE (by decide), nE (by decide), nE (by decide), if_pos (eq_str _)]
  try dsimp only
  rw [if_pos (put0 n1 _).1]
  exact h1
 ·unfold Fo_i_change
  rw [if_pos (by decide), if_pos (by decide), if_pos (by rfl)]
  simp only [List.getD_cons_zero]
  rw [nE (by decide), nE (by decide), nE (by decide), if_pos (eq_str _)]
  try dsimp only [k32_6, k32_7]
  rw [if_pos (by rw [e1]; exact (chg_c1 n1 _ _).1), e1]
  exact h2
theorem chg_high {p c a1 a2 b1 b2 d1 d2 : Int} (hf : i_IsField p = true) (hc : isC c) (ha : i_isPoint p (a1, a2) = true) (hb : i_isPoint p (b1, b2) = true) (hd : i_isPoint p (d1, d2) = true) : Res (Fo_s_l11Alone (p, c, a1, a2, b1, b2, d1, d2) (bs [104, 105, 103, 104])) (p, c, a1, a2, b1, b2, d1, d2) 1 [bs [104, 105, 103, 104]] := by
 have e1 := (cmd_ortho (p := p) (c := c) (a1, a2) (b1, b2) (d1, d2)).1
 have n1 := (cmd_ortho (p := p) (c := c) (a1, a2) (b1, b2) (d1, d2)).2
 obtain ⟨D1, D2, t1, t2, h1, h2, h3⟩ := set_res hf hc ha hb hd (s_OrthocentreOf p c (a1, a2) (b1, b2) (d1, d2)).2 n1 (pt_ortho (c := c) hf (a1, a2) (b1, b2) (d1, d2))
 refine .inl ⟨D1, D2, t1, t2, _, _, ?_, ?_, Iff.rfl, h3⟩
 ·unfold Fo_s_l11Alone
  rw [nE (by decide), nE (by decide), nE (by decide), nE (by decide), if_pos (eq_str _)]
  try dsimp only
  rw [if_pos (put0 n1 _).1]
  exact h1
 ·unfold Fo_i_change
  rw [if_pos (by decide), if_pos (by decide), if_pos (by rfl)]
  simp only [List.getD_cons_zero]
  rw [nE (by decide), nE (by decide), nE (by decide), nE (by decide), if_pos (eq_str _)]
  try dsimp only [k32_8, k32_9]
  rw [if_pos (by rw [e1]; exact (chg_c1 n1 _ _).1), e1]
  exact h2
theorem chg_foot {p c a1 a2 b1 b2 d1 d2 : Int} (hf : i_IsField p = true) (hc : isC c) (ha : i_isPoint p (a1, a2) = true) (hb : i_isPoint p (b1, b2) = true) (hd : i_isPoint p (d1, d2) = true) : Res (Fo_s_l11Alone (p, c, a1, a2, b1, b2, d1, d2) (bs [102, 111, 111, 116])) (p, c, a1, a2, b1, b2, d1, d2) 1 [bs [102, 111, 111, 116]] := by
 obtain ⟨e0, m0, l0⟩ := cmd_line hf hb hd
 by_cases hk : (s_LineThrough p (b1, b2) (d1, d2)).2 = 0
 ·have hl := l0 hk
  have e1 := (cmd_foot hf hc ha hl).1
  have n1 := (cmd_foot hf hc ha hl).2
  have x1 : i_isPoint p (s_FootOf p c (a1, a2) (s_LineThrough p (b1, b2) (d1, d2)).1).1 = true := by rw [← e1]; exact pt_foot hf
  obtain ⟨D1, D2, t1, t2, h1, h2, h3⟩ := set_res hf hc ha hb hd (s_FootOf p c (a1, a2) (s_LineThrough p (b1, b2) (d1, d2)).1).2 n1 x1
  refine .inl ⟨D1, D2, t1, t2, _, _, ?_, ?_, Iff.rfl, h3⟩
  ·unfold Fo_s_l11Alone
   rw [nE (by decide), nE (by decide), if_pos (eq_str _)]
   try dsimp only
   rw [if_neg (by rw [hk]; decide), if_pos (put0 n1 _).1]
   exact h1
  ·unfold Fo_i_change
   rw [if_pos (by decide), if_pos (by decide), if_pos (by rfl)]
   simp only [List.getD_cons_zero]
   rw [nE (by decide), nE (by decide), if_pos (eq_str _)]
   try dsimp only [k32_3, k32_4, k32_5]
   rw [if_neg (by rw [e0, hk]; decide), if_pos (by rw [e0, e1]; exact (chg_c1 n1 _ _).1), e0, e1]
   exact h2
 ·refine .inl ⟨(p, c, a1, a2, b1, b2, d1, d2), (p, c, a1, a2, b1, b2, d1, d2), bs [], bs [], (s_LineThrough p (b1, b2) (d1, d2)).2, (s_LineThrough p (b1, b2) (d1, d2)).2, ?_, ?_, Iff.rfl, fun q => absurd q hk⟩
  ·unfold Fo_s_l11Alone
   rw [nE (by decide), nE (by decide), if_pos (eq_str _)]
   try dsimp only
   rw [if_pos (bne_iff_ne.2 hk)]
  ·unfold Fo_i_change
   rw [if_pos (by decide), if_pos (by decide), if_pos (by rfl)]
   simp only [List.getD_cons_zero]
   rw [nE (by decide), nE (by decide), if_pos (eq_str _)]
   try dsimp only [k32_3, k32_4, k32_5]
   rw [if_pos (by rw [e0]; exact bne_iff_ne.2 hk), e0]
theorem chg_reset {p c a1 a2 b1 b2 d1 d2 : Int} (hf : i_IsField p = true) (hc : isC c) (ha : i_isPoint p (a1, a2) = true) (hb : i_isPoint p (b1, b2) = true) (hd : i_isPoint p (d1, d2) = true) : Res (Fo_s_l11Alone (p, c, a1, a2, b1, b2, d1, d2) (bs [114, 101, 115, 101, 116])) (p, c, a1, a2, b1, b2, d1, d2) 1 [bs [114, 101, 115, 101, 116]] := by
 refine .inl ⟨s_l11Fresh 7, s_l11Fresh 7, bs [111, 107], bs [111, 107], 0, 0, ?_, ?_, Iff.rfl, fun _ => ⟨rfl, rfl, by decide, by decide⟩⟩
 ·unfold Fo_s_l11Alone
  rw [nE (by decide), nE (by decide), nE (by decide), nE (by decide), nE (by decide), if_pos (eq_str _)]
  try dsimp only
  try rfl
 ·unfold Fo_i_change
  rw [if_pos (by decide), if_pos (by decide), if_pos (by rfl)]
  simp only [List.getD_cons_zero]
  rw [nE (by decide), nE (by decide), nE (by decide), nE (by decide), nE (by decide), if_pos (eq_str _)]
  try dsimp only
  rfl
theorem not_chg {p c a1 a2 b1 b2 d1 d2 : Int} {w : ByteArray} (g0 : ¬ eqS w (bs [116, 117, 114, 110]) = true) (g1 : ¬ eqS w (bs [109, 105, 100, 100, 108, 101]) = true) (g2 : ¬ eqS w (bs [102, 111, 111, 116]) = true) (g3 : ¬ eqS w (bs [99, 101, 110, 116, 114, 101]) = true) (g4 : ¬ eqS w (bs [104, 105, 103, 104]) = true) (g5 : ¬ eqS w (bs [114, 101, 115, 101, 116]) = true) (h : Ans p c a1 a2 b1 b2 d1 d2 w) : Res (Fo_s_l11Alone (p, c, a1, a2, b1, b2, d1, d2) w) (p, c, a1, a2, b1, b2, d1, d2) 1 [w] := by
 obtain ⟨t1, t2, k, e1, e2, e3⟩ := h
 refine .inr ⟨t1, t2, k, ?_, ?_, e2, e3⟩
 ·unfold Fo_s_l11Alone
  rw [if_neg g0, if_neg g1, if_neg g2, if_neg g3, if_neg g4, if_neg g5]
  dsimp only
  rw [if_pos (ok_s_l11Ask_of e1), s_l11Ask_of e1]
 ·unfold Fo_i_change
  rw [if_pos (by decide), if_pos (by decide), if_pos (by rfl)]
  simp only [List.getD_cons_zero]
  rw [if_neg g0, if_neg g1, if_neg g2, if_neg g3, if_neg g4, if_neg g5]
theorem ans_none {p c a1 a2 b1 b2 d1 d2 : Int} {w : ByteArray} (g_show : ¬ eqS w (bs [115, 104, 111, 119]) = true) (g_field : ¬ eqS w (bs [102, 105, 101, 108, 100]) = true) (g_area : ¬ eqS w (bs [97, 114, 101, 97]) = true) (g_quadrances : ¬ eqS w (bs [113, 117, 97, 100, 114, 97, 110, 99, 101, 115]) = true) (g_right : ¬ eqS w (bs [114, 105, 103, 104, 116]) = true) (g_spread : ¬ eqS w (bs [115, 112, 114, 101, 97, 100]) = true) (g_quadrea : ¬ eqS w (bs [113, 117, 97, 100, 114, 101, 97]) = true) (g_centroid : ¬ eqS w (bs [99, 101, 110, 116, 114, 111, 105, 100]) = true) (g_circle : ¬ eqS w (bs [99, 105, 114, 99, 108, 101]) = true) (g_orthic : ¬ eqS w (bs [111, 114, 116, 104, 105, 99]) = true) (g_omega : ¬ eqS w (bs [111, 109, 101, 103, 97]) = true) (g_rights : ¬ eqS w (bs [114, 105, 103, 104, 116, 115]) = true) (g_units : ¬ eqS w (bs [117, 110, 105, 116, 115]) = true) (g_side : ¬ eqS w (bs [115, 105, 100, 101]) = true) (g_median : ¬ eqS w (bs [109, 101, 100, 105, 97, 110]) = true) (g_altitude : ¬ eqS w (bs [97, 108, 116, 105, 116, 117, 100, 101]) = true) (g_euler : ¬ eqS w (bs [101, 117, 108, 101, 114]) = true) (g_null : ¬ eqS w (bs [110, 117, 108, 108]) = true) (g_eulers : ¬ eqS w (bs [101, 117, 108, 101, 114, 115]) = true) : Ans p c a1 a2 b1 b2 d1 d2 w := by
 refine ⟨s_l11Lines 0 [], bs [], 6, ?_, ?_, fun q => absurd q (by decide)⟩
 ·have es : Fo_s_l11Some p c (a1, a2) (b1, b2) (d1, d2) w = some ((0, []), 6) := by
   unfold Fo_s_l11Some
   rw [if_neg g_side, if_neg g_median, if_neg g_altitude, if_neg g_euler, if_neg g_null, if_neg g_eulers]
  have es1 := ok_s_l11Some_of es
  have es2 := s_l11Some_of es
  unfold Fo_s_l11Ask
  rw [if_neg g_show, if_neg g_field, if_neg g_area, if_neg g_quadrances, if_neg g_right, if_neg g_spread, if_neg g_quadrea, if_neg g_centroid, if_neg g_circle, if_neg g_orthic, if_neg g_omega, if_neg g_rights, if_neg g_units, if_pos es1, es2, if_pos (by rfl)]
 ·unfold Fo_i_answer
  rw [if_neg (by decide), if_pos (by decide), if_pos (by rfl)]
  simp only [List.getD_cons_zero]
  rw [if_neg g_show, if_neg g_field, if_neg g_area, if_neg g_side, if_neg g_quadrances, if_neg g_null, if_neg g_right, if_neg g_spread, if_neg g_quadrea, if_neg g_centroid, if_neg g_median, if_neg g_altitude, if_neg g_euler, if_neg g_orthic, if_neg g_circle, if_neg g_omega, if_neg g_eulers, if_neg g_rights, if_neg g_units]
theorem one_word {p c a1 a2 b1 b2 d1 d2 : Int} (hf : i_IsField p = true) (hc : isC c) (ha : i_isPoint p (a1, a2) = true) (hb : i_isPoint p (b1, b2) = true) (hd : i_isPoint p (d1, d2) = true) (w : ByteArray) : Res (Fo_s_l11Alone (p, c, a1, a2, b1, b2, d1, d2) w) (p, c, a1, a2, b1, b2, d1, d2) 1 [w] := by
 by_cases g_turn : eqS w (bs [116, 117, 114, 110]) = true
 ·rw [eqS_iff.1 g_turn]
  exact chg_turn hf hc ha hb hd
 by_cases g_middle : eqS w (bs [109, 105, 100, 100, 108, 101]) = true
 ·rw [eqS_iff.1 g_middle]
  exact chg_middle hf hc ha hb hd
 by_cases g_foot : eqS w (bs [102, 111, 111, 116]) = true
 ·rw [eqS_iff.1 g_foot]
  exact chg_foot hf hc ha hb hd
 by_cases g_centre : eqS w (bs [99, 101, 110, 116, 114, 101]) = true
 ·rw [eqS_iff.1 g_centre]
  exact chg_centre hf hc ha hb hd
 by_cases g_high : eqS w (bs [104, 105, 103, 104]) = true
 ·rw [eqS_iff.1 g_high]
  exact chg_high hf hc ha hb hd
 by_cases g_reset : eqS w (bs [114, 101, 115, 101, 116]) = true
 ·rw [eqS_iff.1 g_reset]
  exact chg_reset hf hc ha hb hd
 refine not_chg g_turn g_middle g_foot g_centre g_high g_reset ?_
 by_cases g_show : eqS w (bs [115, 104, 111, 119]) = true
 ·rw [eqS_iff.1 g_show]
  exact ans_show hf hc ha hb hd
 by_cases g_field : eqS w (bs [102, 105, 101, 108, 100]) = true
 ·rw [eqS_iff.1 g_field]
  exact ans_field hf hc ha hb hd
 by_cases g_area : eqS w (bs [97, 114, 101, 97]) = true
 ·rw [eqS_iff.1 g_area]
  exact ans_area hf hc ha hb hd
 by_cases g_quadrances : eqS w (bs [113, 117, 97, 100, 114, 97, 110, 99, 101, 115]) = true
 ·rw [eqS_iff.1 g_quadrances]
  exact ans_quadrances hf hc ha hb hd
 by_cases g_right : eqS w (bs [114, 105, 103, 104, 116]) = true
 ·rw [eqS_iff.1 g_right]
  exact ans_right hf hc ha hb hd
 by_cases g_spread : eqS w (bs [115, 112, 114, 101, 97, 100]) = true
 ·rw [eqS_iff.1 g_spread]
  exact ans_spread hf hc ha hb hd
 by_cases g_quadrea : eqS w (bs [113, 117, 97, 100, 114, 101, 97]) = true
 ·rw [eqS_iff.1 g_quadrea]
  exact ans_quadrea hf hc ha hb hd
 by_cases g_centroid : eqS w (bs [99, 101, 110, 116, 114, 111, 105, 100]) = true
 ·rw [eqS_iff.1 g_centroid]
  exact ans_centroid hf hc ha hb hd
 by_cases g_circle : eqS w (bs [99, 105, 114, 99, 108, 101]) = true
 ·rw [eqS_iff.1 g_circle]
  exact ans_circle hf hc ha hb hd
 by_cases g_orthic : eqS w (bs [111, 114, 116, 104, 105, 99]) = true
 ·rw [eqS_iff.1 g_orthic]
  exact ans_orthic hf hc ha hb hd
 by_cases g_omega : eqS w (bs [111, 109, 101, 103, 97]) = true
 ·rw [eqS_iff.1 g_omega]
  exact ans_omega hf hc ha hb hd
 by_cases g_rights : eqS w (bs [114, 105, 103, 104, 116, 115]) = true
 ·rw [eqS_iff.1 g_rights]
  exact ans_rights hf hc ha hb hd
 by_cases g_units : eqS w (bs [117, 110, 105, 116, 115]) = true
 ·rw [eqS_iff.1 g_units]
  exact ans_units hf hc ha hb hd
 by_cases g_side : eqS w (bs [115, 105, 100, 101]) = true
 ·rw [eqS_iff.1 g_side]
  exact ans_side hf hc ha hb hd
 by_cases g_median : eqS w (bs [109, 101, 100, 105, 97, 110]) = true
 ·rw [eqS_iff.1 g_median]
  exact ans_median hf hc ha hb hd
 by_cases g_altitude : eqS w (bs [97, 108, 116, 105, 116, 117, 100, 101]) = true
 ·rw [eqS_iff.1 g_altitude]
  exact ans_altitude hf hc ha hb hd
 by_cases g_euler : eqS w (bs [101, 117, 108, 101, 114]) = true
 ·rw [eqS_iff.1 g_euler]
  exact ans_euler hf hc ha hb hd
 by_cases g_null : eqS w (bs [110, 117, 108, 108]) = true
 ·rw [eqS_iff.1 g_null]
  exact ans_null hf hc ha hb hd
 by_cases g_eulers : eqS w (bs [101, 117, 108, 101, 114, 115]) = true
 ·rw [eqS_iff.1 g_eulers]
  exact ans_eulers hf hc ha hb hd
 exact ans_none g_show g_field g_area g_quadrances g_right g_spread g_quadrea g_centroid g_circle g_orthic g_omega g_rights g_units g_side g_median g_altitude g_euler g_null g_eulers

theorem two_first {p c a1 a2 b1 b2 d1 d2 : Int} (hf : i_IsField p = true) (hc : isC c) (ha : i_isPoint p (a1, a2) = true) (hb : i_isPoint p (b1, b2) = true) (hd : i_isPoint p (d1, d2) = true) {line w1 : ByteArray} (hcut : cutOK line 32 = true) (hs : s_l01Split line 32 = (2, [bs [102, 105, 114, 115, 116], w1])) (hz : w1.size ≤ 1048576) : Res (Fo_s_l11Execute (p, c, a1, a2, b1, b2, d1, d2) line) (p, c, a1, a2, b1, b2, d1, d2) 2 [bs [102, 105, 114, 115, 116], w1] := by
 obtain ⟨pi, ps, vi, vs⟩ := parse_same hf hz
 have hv := ppt_ok hf (spL 44 (toL w1))
 generalize ppt p (spL 44 (toL w1)) = v at vi vs hv
 obtain ⟨n1, x1⟩ := hv
 by_cases hk : v.2 = 0
 ·refine .inl ⟨(p, c, v.1.1, v.1.2, b1, b2, d1, d2), (p, c, v.1.1, v.1.2, b1, b2, d1, d2), s_l11Point v.1, s_l11Point v.1, 0, 0, ?_, ?_, Iff.rfl, fun _ => ⟨rfl, rfl, pt_size n1, mk_desk hf hc (x1 hk) hb hd⟩⟩
  ·unfold Fo_s_l11Execute
   rw [hs]
   simp only [List.getD_cons_zero, List.getD_cons_succ]
   rw [if_pos hcut, if_pos (by first | decide | rfl), if_pos (by rfl), if_neg (by first | decide | simp), if_neg (by first | decide | simp), if_pos (eq_str _), if_pos (by first | decide | rfl), if_pos (by rfl), if_pos ps, if_pos (by rw [vs]; exact (put0 n1 _).1), vs, (put0 n1 _).2, if_pos hk]
   try rfl
  ·unfold Fo_i_change
   rw [if_neg (by first | decide | simp), if_pos (by first | decide | rfl), if_pos (by rfl)]
   simp only [List.getD_cons_zero, List.getD_cons_succ]
   rw [if_pos (eq_str _), if_pos (by first | decide | rfl), if_pos (by rfl), if_pos pi, if_pos (by show num2 (i_ParsePoint p w1).1 = true; rw [vi]; exact n1)]
   show some (i_pointText (i_ParsePoint p w1).1, (i_ParsePoint p w1).2, true, p, c, (i_ParsePoint p w1).1.1, (i_ParsePoint p w1).1.2, b1, b2, d1, d2) = _
   rw [vi, hk]
   try rfl
 ·refine .inl ⟨(p, c, a1, a2, b1, b2, d1, d2), (p, c, v.1.1, v.1.2, b1, b2, d1, d2), bs [], s_l11Point v.1, v.2, v.2, ?_, ?_, Iff.rfl, fun q => absurd q hk⟩
  ·unfold Fo_s_l11Execute
   rw [hs]
   simp only [List.getD_cons_zero, List.getD_cons_succ]
   rw [if_pos hcut, if_pos (by first | decide | rfl), if_pos (by rfl), if_neg (by first | decide | simp), if_neg (by first | decide | simp), if_pos (eq_str _), if_pos (by first | decide | rfl), if_pos (by rfl), if_pos ps, if_pos (by rw [vs]; exact (put0 n1 _).1), vs, (put0 n1 _).2, if_neg hk]
   try rfl
  ·unfold Fo_i_change
   rw [if_neg (by first | decide | simp), if_pos (by first | decide | rfl), if_pos (by rfl)]
   simp only [List.getD_cons_zero, List.getD_cons_succ]
   rw [if_pos (eq_str _), if_pos (by first | decide | rfl), if_pos (by rfl), if_pos pi, if_pos (by show num2 (i_ParsePoint p w1).1 = true; rw [vi]; exact n1)]
   show some (i_pointText (i_ParsePoint p w1).1, (i_ParsePoint p w1).2, true, p, c, (i_ParsePoint p w1).1.1, (i_ParsePoint p w1).1.2, b1, b2, d1, d2) = _
   rw [vi]
   try rfl
theorem two_second {p c a1 a2 b1 b2 d1 d2 : Int} (hf : i_IsField p = true) (hc : isC c) (ha : i_isPoint p (a1, a2) = true) (hb : i_isPoint p (b1, b2) = true) (hd : i_isPoint p (d1, d2) = true) {line w1 : ByteArray} (hcut : cutOK line 32 = true) (hs : s_l01Split line 32 = (2, [bs [115, 101, 99, 111, 110, 100], w1])) (hz : w1.size ≤ 1048576) : Res (Fo_s_l11Execute (p, c, a1, a2, b1, b2, d1, d2) line) (p, c, a1, a2, b1, b2, d1, d2) 2 [bs [115, 101, 99, 111, 110, 100], w1] := by
 obtain ⟨pi, ps, vi, vs⟩ := parse_same hf hz
 have hv := ppt_ok hf (spL 44 (toL w1))
 generalize ppt p (spL 44 (toL w1)) = v at vi vs hv
 obtain ⟨n1, x1⟩ := hv
 by_cases hk : v.2 = 0
 ·refine .inl ⟨(p, c, a1, a2, v.1.1, v.1.2, d1, d2), (p, c, a1, a2, v.1.1, v.1.2, d1, d2), s_l11Point v.1, s_l11Point v.1, 0, 0, ?_, ?_, Iff.rfl, fun _ => ⟨rfl, rfl, pt_size n1, mk_desk hf hc ha (x1 hk) hd⟩⟩
  ·unfold Fo_s_l11Execute
   rw [hs]
   simp only [List.getD_cons_zero, List.getD_cons_succ]
   rw [if_pos hcut, if_pos (by first | decide | rfl), if_pos (by rfl), if_neg (by first | decide | simp), if_neg (by first | decide | simp), nE (by decide), if_pos (eq_str _), if_pos (by first | decide | rfl), if_pos (by rfl), if_pos ps, if_pos (by rw [vs]; exact (put1 n1 _).1), vs, (put1 n1 _).2, if_pos hk]
   try rfl
  ·unfold Fo_i_change
   rw [if_neg (by first | decide | simp), if_pos (by first | decide | rfl), if_pos (by rfl)]
   simp only [List.getD_cons_zero, List.getD_cons_succ]
   rw [nE (by decide), if_pos (by first | decide | rfl), if_pos (by rfl), if_pos (eq_str _), if_pos (by first | decide | rfl), if_pos (by rfl), if_pos pi, if_pos (by show num2 (i_ParsePoint p w1).1 = true; rw [vi]; exact n1)]
   show some (i_pointText (i_ParsePoint p w1).1, (i_ParsePoint p w1).2, true, p, c, a1, a2, (i_ParsePoint p w1).1.1, (i_ParsePoint p w1).1.2, d1, d2) = _
   rw [vi, hk]
   try rfl
 ·refine .inl ⟨(p, c, a1, a2, b1, b2, d1, d2), (p, c, a1, a2, v.1.1, v.1.2, d1, d2), bs [], s_l11Point v.1, v.2, v.2, ?_, ?_, Iff.rfl, fun q => absurd q hk⟩
  ·unfold Fo_s_l11Execute
   rw [hs]
   simp only [List.getD_cons_zero, List.getD_cons_succ]
   rw [if_pos hcut, if_pos (by first | decide | rfl), if_pos (by rfl), if_neg (by first | decide | simp), if_neg (by first | decide | simp), nE (by decide), if_pos (eq_str _), if_pos (by first | decide | rfl), if_pos (by rfl), if_pos ps, if_pos (by rw [vs]; exact (put1 n1 _).1), vs, (put1 n1 _).2, if_neg hk]
   try rfl
  ·unfold Fo_i_change
   rw [if_neg (by first | decide | simp), if_pos (by first | decide | rfl), if_pos (by rfl)]
   simp only [List.getD_cons_zero, List.getD_cons_succ]
   rw [nE (by decide), if_pos (by first | decide | rfl), if_pos (by rfl), if_pos (eq_str _), if_pos (by first | decide | rfl), if_pos (by rfl), if_pos pi, if_pos (by show num2 (i_ParsePoint p w1).1 = true; rw [vi]; exact n1)]
   show some (i_pointText (i_ParsePoint p w1).1, (i_ParsePoint p w1).2, true, p, c, a1, a2, (i_ParsePoint p w1).1.1, (i_ParsePoint p w1).1.2, d1, d2) = _
   rw [vi]
   try rfl
theorem two_third {p c a1 a2 b1 b2 d1 d2 : Int} (hf : i_IsField p = true) (hc : isC c) (ha : i_isPoint p (a1, a2) = true) (hb : i_isPoint p (b1, b2) = true) (hd : i_isPoint p (d1, d2) = true) {line w1 : ByteArray} (hcut : cutOK line 32 = true) (hs : s_l01Split line 32 = (2, [bs [116, 104, 105, 114, 100], w1])) (hz : w1.size ≤ 1048576) : Res (Fo_s_l11Execute (p, c, a1, a2, b1, b2, d1, d2) line) (p, c, a1, a2, b1, b2, d1, d2) 2 [bs [116, 104, 105, 114, 100], w1] := by
 obtain ⟨pi, ps, vi, vs⟩ := parse_same hf hz
 have hv := ppt_ok hf (spL 44 (toL w1))
 generalize ppt p (spL 44 (toL w1)) = v at vi vs hv
 obtain ⟨n1, x1⟩ := hv
 by_cases hk : v.2 = 0
 ·refine .inl ⟨(p, c, a1, a2, b1, b2, v.1.1, v.1.2), (p, c, a1, a2, b1, b2, v.1.1, v.1.2), s_l11Point v.1, s_l11Point v.1, 0, 0, ?_, ?_, Iff.rfl, fun _ => ⟨rfl, rfl, pt_size n1, mk_desk hf hc ha hb (x1 hk)⟩⟩
  ·unfold Fo_s_l11Execute
   rw [hs]
   simp only [List.getD_cons_zero, List.getD_cons_succ]
   rw [if_pos hcut, if_pos (by first | decide | rfl), if_pos (by rfl), if_neg (by first | decide | simp), if_neg (by first | decide | simp), nE (by decide), nE (by decide), if_pos (eq_str _), if_pos (by first | decide | rfl), if_pos (by rfl), if_pos ps, if_pos (by rw [vs]; exact (put2 n1 _).1), vs, (put2 n1 _).2, if_pos hk]
   try rfl
  ·unfold Fo_i_change
   rw [if_neg (by first | decide | simp), if_pos (by first | decide | rfl), if_pos (by rfl)]
   simp only [List.getD_cons_zero, List.getD_cons_succ]
   rw [nE (by decide), if_pos (by first | decide | rfl), if_pos (by rfl), nE (by decide), if_pos (by first | decide | rfl), if_pos (by rfl), if_pos (eq_str _), if_pos (by first | decide | rfl), if_pos (by rfl), if_pos pi, if_pos (by show num2 (i_ParsePoint p w1).1 = true; rw [vi]; exact n1)]
   show some (i_pointText (i_ParsePoint p w1).1, (i_ParsePoint p w1).2, true, p, c, a1, a2, b1, b2, (i_ParsePoint p w1).1.1, (i_ParsePoint p w1).1.2) = _
   rw [vi, hk]
   try rfl
 ·refine .inl ⟨(p, c, a1, a2, b1, b2, d1, d2), (p, c, a1, a2, b1, b2, v.1.1, v.1.2), bs [], s_l11Point v.1, v.2, v.2, ?_, ?_, Iff.rfl, fun q => absurd q hk⟩
  ·unfold Fo_s_l11Execute
   rw [hs]
   simp only [List.getD_cons_zero, List.getD_cons_succ]
   rw [if_pos hcut, if_pos (by first | decide | rfl), if_pos (by rfl), if_neg (by first | decide | simp), if_neg (by first | decide | simp), nE (by decide), nE (by decide), if_pos (eq_str _), if_pos (by first | decide | rfl), if_pos (by rfl), if_pos ps, if_pos (by rw [vs]; exact (put2 n1 _).1), vs, (put2 n1 _).2, if_neg hk]
   try rfl
  ·unfold Fo_i_change
   rw [if_neg (by first | decide | simp), if_pos (by first | decide | rfl), if_pos (by rfl)]
   simp only [List.getD_cons_zero, List.getD_cons_succ]
   rw [nE (by decide), if_pos (by first | decide | rfl), if_pos (by rfl), nE (by decide), if_pos (by first | decide | rfl), if_pos (by rfl), if_pos (eq_str _), if_pos (by first | decide | rfl), if_pos (by rfl), if_pos pi, if_pos (by show num2 (i_ParsePoint p w1).1 = true; rw [vi]; exact n1)]
   show some (i_pointText (i_ParsePoint p w1).1, (i_ParsePoint p w1).2, true, p, c, a1, a2, b1, b2, (i_ParsePoint p w1).1.1, (i_ParsePoint p w1).1.2) = _
   rw [vi]
   try rfl
theorem sn_none {w : ByteArray} (h : numL (toL w) = none) : s_l01Number w = -1 ∧ i_wordNumber w = (0, false) := by
 unfold s_l01Number i_wordNumber
 rw [h]
 exact ⟨rfl, rfl⟩
theorem sn_some {w : ByteArray} {n : Nat} (h : numL (toL w) = some n) : s_l01Number w = (n : Int) ∧ i_wordNumber w = ((n : Int), true) := by
 unfold s_l01Number i_wordNumber
 rw [h]
 exact ⟨rfl, rfl⟩
theorem dec_back {w : ByteArray} {n : Nat} (h : numL (toL w) = some n) : s_l01Dec (n : Int) = w := by
 apply toL_inj
 rw [toL_dec, Int.toNat_natCast]
 exact num_back h
theorem two_bad {p c a1 a2 b1 b2 d1 d2 : Int} {line w0 w1 : ByteArray} (hcut : cutOK line 32 = true) (hs : s_l01Split line 32 = (2, [w0, w1])) (g_first : ¬ eqS w0 (bs [102, 105, 114, 115, 116]) = true) (g_second : ¬ eqS w0 (bs [115, 101, 99, 111, 110, 100]) = true) (g_third : ¬ eqS w0 (bs [116, 104, 105, 114, 100]) = true) (hn : numL (toL w1) = none) : Res (Fo_s_l11Execute (p, c, a1, a2, b1, b2, d1, d2) line) (p, c, a1, a2, b1, b2, d1, d2) 2 [w0, w1] := by
 obtain ⟨sn, iw⟩ := sn_none hn
 refine .inl ⟨(p, c, a1, a2, b1, b2, d1, d2), (p, c, a1, a2, b1, b2, d1, d2), bs [], bs [], 6, 6, ?_, ?_, Iff.rfl, fun q => absurd q (by decide)⟩
 ·unfold Fo_s_l11Execute
  rw [hs]
  simp only [List.getD_cons_zero, List.getD_cons_succ]
  rw [if_pos hcut, if_pos (by first | decide | rfl), if_pos (by rfl), if_neg (by first | decide | simp), if_neg (by first | decide | simp), if_neg g_first, if_neg g_second, if_neg g_third, if_pos (by first | decide | rfl), if_pos (by rfl), if_pos (by rw [sn]; decide)]
 ·unfold Fo_i_change
  rw [if_neg (by first | decide | simp), if_pos (by first | decide | rfl), if_pos (by rfl)]
  simp only [List.getD_cons_zero, List.getD_cons_succ]
  rw [if_neg g_first, if_pos (by first | decide | rfl), if_pos (by rfl), if_neg g_second, if_pos (by first | decide | rfl), if_pos (by rfl), if_neg g_third, if_pos (by first | decide | rfl), if_pos (by rfl), if_pos (by show (!(i_wordNumber w1).2) = true; rw [iw]; simp)]
theorem exec_num {p c a1 a2 b1 b2 d1 d2 : Int} {line w0 w1 : ByteArray} (hcut : cutOK line 32 = true) (hs : s_l01Split line 32 = (2, [w0, w1])) (g_first : ¬ eqS w0 (bs [102, 105, 114, 115, 116]) = true) (g_second : ¬ eqS w0 (bs [115, 101, 99, 111, 110, 100]) = true) (g_third : ¬ eqS w0 (bs [116, 104, 105, 114, 100]) = true) {n : Nat} (hn : numL (toL w1) = some n) {v : Dk × ByteArray × Int} (e : Fo_s_l11Number (p, c, a1, a2, b1, b2, d1, d2) w0 (n : Int) = some v) : Fo_s_l11Execute (p, c, a1, a2, b1, b2, d1, d2) line = some v := by
 obtain ⟨sn, iw⟩ := sn_some hn
 have hl := num_lt hn
 unfold Fo_s_l11Execute
 rw [hs]
 simp only [List.getD_cons_zero, List.getD_cons_succ]
 rw [if_pos hcut, if_pos (by first | decide | rfl), if_pos (by rfl), if_neg (by first | decide | simp), if_neg (by first | decide | simp), if_neg g_first, if_neg g_second, if_neg g_third, if_pos (by first | decide | rfl), if_pos (by rfl), if_neg (by rw [sn]; simp), if_neg (by rw [sn]; simp; omega), sn, if_pos (ok_s_l11Number_of e), s_l11Number_of e]
theorem two_prime {p c a1 a2 b1 b2 d1 d2 : Int} (hf : i_IsField p = true) (hc : isC c) (ha : i_isPoint p (a1, a2) = true) (hb : i_isPoint p (b1, b2) = true) (hd : i_isPoint p (d1, d2) = true) {line w1 : ByteArray} (hcut : cutOK line 32 = true) (hs : s_l01Split line 32 = (2, [bs [112, 114, 105, 109, 101], w1])) {n : Nat} (hn : numL (toL w1) = some n) : Res (Fo_s_l11Execute (p, c, a1, a2, b1, b2, d1, d2) line) (p, c, a1, a2, b1, b2, d1, d2) 2 [bs [112, 114, 105, 109, 101], w1] := by
 obtain ⟨sn, iw⟩ := sn_some hn
 have hb1 := dec_back hn
 by_cases hF : i_IsField (n : Int) = true
 ·have hF' : s_l01Field (n : Int) = true := hF
  have hm : num1 (n : Int) = true := by rw [num1_iff]; have := field_le hF; omega
  have hd : i_IsDesk (s_l11Fresh (n : Int)) = true := by
   have h3 := field_le hF
   exact mk_desk hF (.inl rfl) (zero_pt hF) (by simp [i_isPoint, i_areNumbers, isNumber_iff]; omega) (by simp [i_isPoint, i_areNumbers, isNumber_iff]; omega)
  refine .inl ⟨s_l11Fresh n, s_l11Fresh n, s_l01Dec n, s_l01Dec n, 0, 0, ?_, ?_, Iff.rfl, fun _ => ⟨rfl, rfl, num_size hm, hd⟩⟩
  ·refine exec_num hcut hs (ne_str (by decide)) (ne_str (by decide)) (ne_str (by decide)) hn ?_
   unfold Fo_s_l11Number
   rw [if_pos (eq_str _), if_neg (by rw [hF']; decide), if_pos (num1_dec hm)]
  ·unfold Fo_i_change
   rw [if_neg (by first | decide | simp), if_pos (by first | decide | rfl), if_pos (by rfl)]
   simp only [List.getD_cons_zero, List.getD_cons_succ]
   rw [nE (by decide), if_pos (by first | decide | rfl), if_pos (by rfl), nE (by decide), if_pos (by first | decide | rfl), if_pos (by rfl), nE (by decide), if_pos (by first | decide | rfl), if_pos (by rfl), if_neg (by show ¬ (!(i_wordNumber w1).2) = true; rw [iw]; simp), if_pos (by first | decide | rfl), if_pos (by rfl), if_pos (eq_str _), if_neg (by show ¬ (!(i_IsField (i_wordNumber w1).1)) = true; rw [iw]; show ¬ (!(i_IsField (n : Int))) = true; rw [hF]; decide), if_pos (by first | decide | rfl), if_pos (by rfl)]
   show some (w1, (0 : Int), true, i_fresh (i_wordNumber w1).1) = _
   rw [iw, hb1]
   rfl
 ·have hF' : ¬ s_l01Field (n : Int) = true := hF
  refine .inl ⟨(p, c, a1, a2, b1, b2, d1, d2), (p, c, a1, a2, b1, b2, d1, d2), bs [], bs [], 2, 1, ?_, ?_, by decide, fun q => absurd q (by decide)⟩
  ·refine exec_num hcut hs (ne_str (by decide)) (ne_str (by decide)) (ne_str (by decide)) hn ?_
   unfold Fo_s_l11Number
   rw [if_pos (eq_str _), if_pos (by rw [Bool.eq_false_iff.2 hF']; rfl)]
  ·unfold Fo_i_change
   rw [if_neg (by first | decide | simp), if_pos (by first | decide | rfl), if_pos (by rfl)]
   simp only [List.getD_cons_zero, List.getD_cons_succ]
   rw [nE (by decide), if_pos (by first | decide | rfl), if_pos (by rfl), nE (by decide), if_pos (by first | decide | rfl), if_pos (by rfl), nE (by decide), if_pos (by first | decide | rfl), if_pos (by rfl), if_neg (by show ¬ (!(i_wordNumber w1).2) = true; rw [iw]; simp), if_pos (by first | decide | rfl), if_pos (by rfl), if_pos (eq_str _), if_pos (by show (!(i_IsField (i_wordNumber w1).1)) = true; rw [iw]; show (!(i_IsField (n : Int))) = true; rw [Bool.eq_false_iff.2 hF]; rfl)]
theorem two_colour {p c a1 a2 b1 b2 d1 d2 : Int} (hf : i_IsField p = true) (hc : isC c) (ha : i_isPoint p (a1, a2) = true) (hb : i_isPoint p (b1, b2) = true) (hd : i_isPoint p (d1, d2) = true) {line w1 : ByteArray} (hcut : cutOK line 32 = true) (hs : s_l01Split line 32 = (2, [bs [99, 111, 108, 111, 117, 114], w1])) {n : Nat} (hn : numL (toL w1) = some n) : Res (Fo_s_l11Execute (p, c, a1, a2, b1, b2, d1, d2) line) (p, c, a1, a2, b1, b2, d1, d2) 2 [bs [99, 111, 108, 111, 117, 114], w1] := by
 obtain ⟨sn, iw⟩ := sn_some hn
 have hb1 := dec_back hn
 by_cases hF : i_isColour (n : Int) = true
 ·have hF' : s_l02Colour (n : Int) = true := by rw [colour_eq]; exact hF
  have hC := isC_of hF
  have hm : num1 (n : Int) = true := num_c hC
  refine .inl ⟨(p, (n : Int), a1, a2, b1, b2, d1, d2), (p, (n : Int), a1, a2, b1, b2, d1, d2), s_l01Dec n, s_l01Dec n, 0, 0, ?_, ?_, Iff.rfl, fun _ => ⟨rfl, rfl, num_size hm, mk_desk hf hC ha hb hd⟩⟩
  ·refine exec_num hcut hs (ne_str (by decide)) (ne_str (by decide)) (ne_str (by decide)) hn ?_
   unfold Fo_s_l11Number
   rw [nE (by decide), if_pos (eq_str _), if_neg (by rw [hF']; decide), if_pos (num1_dec hm)]
  ·unfold Fo_i_change
   rw [if_neg (by first | decide | simp), if_pos (by first | decide | rfl), if_pos (by rfl)]
   simp only [List.getD_cons_zero, List.getD_cons_succ]
   rw [nE (by decide), if_pos (by first | decide | rfl), if_pos (by rfl), nE (by decide), if_pos (by first | decide | rfl), if_pos (by rfl), nE (by decide), if_pos (by first | decide | rfl), if_pos (by rfl), if_neg (by show ¬ (!(i_wordNumber w1).2) = true; rw [iw]; simp), if_pos (by first | decide | rfl), if_pos (by rfl), nE (by decide), if_pos (eq_str _), if_neg (by show ¬ (!(i_isColour (i_wordNumber w1).1)) = true; rw [iw]; show ¬ (!(i_isColour (n : Int))) = true; rw [hF]; decide), if_pos (by first | decide | rfl), if_pos (by rfl)]
   show some (w1, (0 : Int), true, p, (i_wordNumber w1).1, a1, a2, b1, b2, d1, d2) = _
   rw [iw, hb1]
 ·have hF' : ¬ s_l02Colour (n : Int) = true := by rw [colour_eq]; exact hF
  refine .inl ⟨(p, c, a1, a2, b1, b2, d1, d2), (p, c, a1, a2, b1, b2, d1, d2), bs [], bs [], 2, 2, ?_, ?_, Iff.rfl, fun q => absurd q (by decide)⟩
  ·refine exec_num hcut hs (ne_str (by decide)) (ne_str (by decide)) (ne_str (by decide)) hn ?_
   unfold Fo_s_l11Number
   rw [nE (by decide), if_pos (eq_str _), if_pos (by rw [Bool.eq_false_iff.2 hF']; rfl)]
  ·unfold Fo_i_change
   rw [if_neg (by first | decide | simp), if_pos (by first | decide | rfl), if_pos (by rfl)]
   simp only [List.getD_cons_zero, List.getD_cons_succ]
   rw [nE (by decide), if_pos (by first | decide | rfl), if_pos (by rfl), nE (by decide), if_pos (by first | decide | rfl), if_pos (by rfl), nE (by decide), if_pos (by first | decide | rfl), if_pos (by rfl), if_neg (by show ¬ (!(i_wordNumber w1).2) = true; rw [iw]; simp), if_pos (by first | decide | rfl), if_pos (by rfl), nE (by decide), if_pos (eq_str _), if_pos (by show (!(i_isColour (i_wordNumber w1).1)) = true; rw [iw]; show (!(i_isColour (n : Int))) = true; rw [Bool.eq_false_iff.2 hF]; rfl)]
theorem two_combine {p c a1 a2 b1 b2 d1 d2 : Int} (hf : i_IsField p = true) (hc : isC c) (ha : i_isPoint p (a1, a2) = true) (hb : i_isPoint p (b1, b2) = true) (hd : i_isPoint p (d1, d2) = true) {line w1 : ByteArray} (hcut : cutOK line 32 = true) (hs : s_l01Split line 32 = (2, [bs [99, 111, 109, 98, 105, 110, 101], w1])) {n : Nat} (hn : numL (toL w1) = some n) : Res (Fo_s_l11Execute (p, c, a1, a2, b1, b2, d1, d2) line) (p, c, a1, a2, b1, b2, d1, d2) 2 [bs [99, 111, 109, 98, 105, 110, 101], w1] := by
 obtain ⟨sn, iw⟩ := sn_some hn
 have hb1 := dec_back hn
 obtain ⟨e1, n1⟩ := cmd_comb hf ha hb (n : Int)
 have x1 : i_isPoint p (s_CombinationOf p (a1, a2) (b1, b2) (n : Int)).1 = true := by rw [← e1]; exact pt_comb hf _
 have iw1 : (i_wordNumber w1).1 = (n : Int) := by rw [iw]
 obtain ⟨D1, D2, t1, t2, h1, h2, h3⟩ := set_res hf hc ha hb hd (s_CombinationOf p (a1, a2) (b1, b2) (n : Int)).2 n1 x1
 refine .inl ⟨D1, D2, t1, t2, _, _, ?_, ?_, Iff.rfl, h3⟩
 ·refine exec_num hcut hs (ne_str (by decide)) (ne_str (by decide)) (ne_str (by decide)) hn ?_
  unfold Fo_s_l11Number
  rw [nE (by decide), nE (by decide), if_pos (eq_str _), if_pos (put0 n1 _).1]
  exact h1
 ·unfold Fo_i_change
  rw [if_neg (by first | decide | simp), if_pos (by first | decide | rfl), if_pos (by rfl)]
  simp only [List.getD_cons_zero, List.getD_cons_succ]
  rw [nE (by decide), if_pos (by first | decide | rfl), if_pos (by rfl), nE (by decide), if_pos (by first | decide | rfl), if_pos (by rfl), nE (by decide), if_pos (by first | decide | rfl), if_pos (by rfl), if_neg (by show ¬ (!(i_wordNumber w1).2) = true; rw [iw]; simp), if_pos (by first | decide | rfl), if_pos (by rfl), nE (by decide), nE (by decide), if_pos (eq_str _), if_pos (by show ok_i_change_c1 (i_CombinationOf p (a1, a2) (b1, b2) (i_wordNumber w1).1).1 (i_CombinationOf p (a1, a2) (b1, b2) (i_wordNumber w1).1).2 _ = true; rw [iw1, e1]; exact (chg_c1 n1 _ _).1)]
  show some (i_change_c1 (i_CombinationOf p (a1, a2) (b1, b2) (i_wordNumber w1).1).1 (i_CombinationOf p (a1, a2) (b1, b2) (i_wordNumber w1).1).2 _) = _
  rw [iw1, e1]
  exact h2
theorem not_done {p c a1 a2 b1 b2 d1 d2 : Int} {w0 w1 : ByteArray} (g_first : ¬ eqS w0 (bs [102, 105, 114, 115, 116]) = true) (g_second : ¬ eqS w0 (bs [115, 101, 99, 111, 110, 100]) = true) (g_third : ¬ eqS w0 (bs [116, 104, 105, 114, 100]) = true) (g_prime : ¬ eqS w0 (bs [112, 114, 105, 109, 101]) = true) (g_colour : ¬ eqS w0 (bs [99, 111, 108, 111, 117, 114]) = true) (g_combine : ¬ eqS w0 (bs [99, 111, 109, 98, 105, 110, 101]) = true) {n : Nat} (hn : numL (toL w1) = some n) : Fo_i_change (p, c, a1, a2, b1, b2, d1, d2) 2 [w0, w1] = some (bs [], 0, false, (p, c, a1, a2, b1, b2, d1, d2)) := by
 obtain ⟨sn, iw⟩ := sn_some hn
 unfold Fo_i_change
 rw [if_neg (by first | decide | simp), if_pos (by first | decide | rfl), if_pos (by rfl)]
 simp only [List.getD_cons_zero, List.getD_cons_succ]
 rw [if_neg g_first, if_pos (by first | decide | rfl), if_pos (by rfl), if_neg g_second, if_pos (by first | decide | rfl), if_pos (by rfl), if_neg g_third, if_pos (by first | decide | rfl), if_pos (by rfl), if_neg (by show ¬ (!(i_wordNumber w1).2) = true; rw [iw]; simp), if_pos (by first | decide | rfl), if_pos (by rfl), if_neg g_prime, if_neg g_colour, if_neg g_combine]
theorem two_at {p c a1 a2 b1 b2 d1 d2 : Int} (hf : i_IsField p = true) (hc : isC c) (ha : i_isPoint p (a1, a2) = true) (hb : i_isPoint p (b1, b2) = true) (hd : i_isPoint p (d1, d2) = true) {line w1 : ByteArray} (hcut : cutOK line 32 = true) (hs : s_l01Split line 32 = (2, [bs [97, 116], w1])) {n : Nat} (hn : numL (toL w1) = some n) : Res (Fo_s_l11Execute (p, c, a1, a2, b1, b2, d1, d2) line) (p, c, a1, a2, b1, b2, d1, d2) 2 [bs [97, 116], w1] := by
 obtain ⟨sn, iw⟩ := sn_some hn
 have hb1 := dec_back hn
 obtain ⟨e1, n1⟩ := cmd_at hf hc ha (n : Int)
 have iw1 : (i_wordNumber w1).1 = (n : Int) := by rw [iw]
 obtain ⟨o1, o2⟩ := many_pts n1 (s_PointsAt p c (a1, a2) (n : Int)).2
 refine .inr ⟨s_l11Points (s_PointsAt p c (a1, a2) (n : Int)).1.1 (s_PointsAt p c (a1, a2) (n : Int)).1.2, s_l11Points (s_PointsAt p c (a1, a2) (n : Int)).1.1 (s_PointsAt p c (a1, a2) (n : Int)).1.2, (s_PointsAt p c (a1, a2) (n : Int)).2, ?_, not_done (ne_str (by decide)) (ne_str (by decide)) (ne_str (by decide)) (ne_str (by decide)) (ne_str (by decide)) (ne_str (by decide)) hn, ?_, fun _ => ⟨rfl, pts_size n1⟩⟩
 ·refine exec_num hcut hs (ne_str (by decide)) (ne_str (by decide)) (ne_str (by decide)) hn ?_
  unfold Fo_s_l11Number
  rw [nE (by decide), nE (by decide), nE (by decide), if_pos (eq_str _), if_pos n1]
 ·unfold Fo_i_answer
  rw [if_pos (by first | decide | rfl), if_pos (by first | decide | rfl), if_pos (by rfl), if_pos (by first | decide | rfl), if_pos (by rfl)]
  simp only [List.getD_cons_zero, List.getD_cons_succ]
  rw [if_pos (eq_str _), if_pos (by show ok_i_manyPoints (i_PointsAt p c (a1, a2) (i_wordNumber w1).1).1.1 (i_PointsAt p c (a1, a2) (i_wordNumber w1).1).1.2 (i_PointsAt p c (a1, a2) (i_wordNumber w1).1).2 = true; rw [iw1, e1]; exact o1)]
  show some ((i_manyPoints (i_PointsAt p c (a1, a2) (i_wordNumber w1).1).1.1 (i_PointsAt p c (a1, a2) (i_wordNumber w1).1).1.2 (i_PointsAt p c (a1, a2) (i_wordNumber w1).1).2).1, (i_manyPoints (i_PointsAt p c (a1, a2) (i_wordNumber w1).1).1.1 (i_PointsAt p c (a1, a2) (i_wordNumber w1).1).1.2 (i_PointsAt p c (a1, a2) (i_wordNumber w1).1).2).2, (p, c, a1, a2, b1, b2, d1, d2)) = _
  rw [iw1, e1, o2]
theorem two_count {p c a1 a2 b1 b2 d1 d2 : Int} (hf : i_IsField p = true) (hc : isC c) (ha : i_isPoint p (a1, a2) = true) (hb : i_isPoint p (b1, b2) = true) (hd : i_isPoint p (d1, d2) = true) {line w1 : ByteArray} (hcut : cutOK line 32 = true) (hs : s_l01Split line 32 = (2, [bs [99, 111, 117, 110, 116], w1])) {n : Nat} (hn : numL (toL w1) = some n) : Res (Fo_s_l11Execute (p, c, a1, a2, b1, b2, d1, d2) line) (p, c, a1, a2, b1, b2, d1, d2) 2 [bs [99, 111, 117, 110, 116], w1] := by
 obtain ⟨sn, iw⟩ := sn_some hn
 have hb1 := dec_back hn
 obtain ⟨e1, n1⟩ := cmd_count hf hc (n : Int)
 have iw1 : (i_wordNumber w1).1 = (n : Int) := by rw [iw]
 obtain ⟨o1, o2⟩ := one_num n1 (s_CountAt p c (n : Int)).2
 refine .inr ⟨s_l01Dec (s_CountAt p c (n : Int)).1, s_l01Dec (s_CountAt p c (n : Int)).1, (s_CountAt p c (n : Int)).2, ?_, not_done (ne_str (by decide)) (ne_str (by decide)) (ne_str (by decide)) (ne_str (by decide)) (ne_str (by decide)) (ne_str (by decide)) hn, ?_, fun _ => ⟨rfl, num_size n1⟩⟩
 ·refine exec_num hcut hs (ne_str (by decide)) (ne_str (by decide)) (ne_str (by decide)) hn ?_
  unfold Fo_s_l11Number
  rw [nE (by decide), nE (by decide), nE (by decide), nE (by decide), if_pos (eq_str _), if_pos (num1_dec n1)]
 ·unfold Fo_i_answer
  rw [if_pos (by first | decide | rfl), if_pos (by first | decide | rfl), if_pos (by rfl), if_pos (by first | decide | rfl), if_pos (by rfl)]
  simp only [List.getD_cons_zero, List.getD_cons_succ]
  rw [nE (by decide), if_pos (eq_str _), if_pos (by show ok_i_oneNumber (i_CountAt p c (i_wordNumber w1).1).1 (i_CountAt p c (i_wordNumber w1).1).2 = true; rw [iw1, e1]; exact o1)]
  show some ((i_oneNumber (i_CountAt p c (i_wordNumber w1).1).1 (i_CountAt p c (i_wordNumber w1).1).2).1, (i_oneNumber (i_CountAt p c (i_wordNumber w1).1).1 (i_CountAt p c (i_wordNumber w1).1).2).2, (p, c, a1, a2, b1, b2, d1, d2)) = _
  rw [iw1, e1, o2]
theorem two_none {p c a1 a2 b1 b2 d1 d2 : Int} {line w0 w1 : ByteArray} (hcut : cutOK line 32 = true) (hs : s_l01Split line 32 = (2, [w0, w1])) (g_first : ¬ eqS w0 (bs [102, 105, 114, 115, 116]) = true) (g_second : ¬ eqS w0 (bs [115, 101, 99, 111, 110, 100]) = true) (g_third : ¬ eqS w0 (bs [116, 104, 105, 114, 100]) = true) (g_prime : ¬ eqS w0 (bs [112, 114, 105, 109, 101]) = true) (g_colour : ¬ eqS w0 (bs [99, 111, 108, 111, 117, 114]) = true) (g_combine : ¬ eqS w0 (bs [99, 111, 109, 98, 105, 110, 101]) = true) (g_at : ¬ eqS w0 (bs [97, 116]) = true) (g_count : ¬ eqS w0 (bs [99, 111, 117, 110, 116]) = true) {n : Nat} (hn : numL (toL w1) = some n) : Res (Fo_s_l11Execute (p, c, a1, a2, b1, b2, d1, d2) line) (p, c, a1, a2, b1, b2, d1, d2) 2 [w0, w1] := by
 refine .inr ⟨bs [], bs [], 6, ?_, not_done g_first g_second g_third g_prime g_colour g_combine hn, ?_, fun q => absurd q (by decide)⟩
 ·refine exec_num hcut hs g_first g_second g_third hn ?_
  unfold Fo_s_l11Number
  rw [if_neg g_prime, if_neg g_colour, if_neg g_combine, if_neg g_at, if_neg g_count]
 ·unfold Fo_i_answer
  rw [if_pos (by first | decide | rfl), if_pos (by first | decide | rfl), if_pos (by rfl), if_pos (by first | decide | rfl), if_pos (by rfl)]
  simp only [List.getD_cons_zero, List.getD_cons_succ]
  rw [if_neg g_at, if_neg g_count]
theorem two_words {p c a1 a2 b1 b2 d1 d2 : Int} (hf : i_IsField p = true) (hc : isC c) (ha : i_isPoint p (a1, a2) = true) (hb : i_isPoint p (b1, b2) = true) (hd : i_isPoint p (d1, d2) = true) {line w0 w1 : ByteArray} (hcut : cutOK line 32 = true) (hs : s_l01Split line 32 = (2, [w0, w1])) (hz : w1.size ≤ 1048576) : Res (Fo_s_l11Execute (p, c, a1, a2, b1, b2, d1, d2) line) (p, c, a1, a2, b1, b2, d1, d2) 2 [w0, w1] := by
 by_cases g_first : eqS w0 (bs [102, 105, 114, 115, 116]) = true
 ·obtain rfl := eqS_iff.1 g_first
  exact two_first hf hc ha hb hd hcut hs hz
 by_cases g_second : eqS w0 (bs [115, 101, 99, 111, 110, 100]) = true
 ·obtain rfl := eqS_iff.1 g_second
  exact two_second hf hc ha hb hd hcut hs hz
 by_cases g_third : eqS w0 (bs [116, 104, 105, 114, 100]) = true
 ·obtain rfl := eqS_iff.1 g_third
  exact two_third hf hc ha hb hd hcut hs hz
 cases hn : numL (toL w1) with
 | none => exact two_bad hcut hs g_first g_second g_third hn
 | some n =>
  by_cases g_prime : eqS w0 (bs [112, 114, 105, 109, 101]) = true
  ·obtain rfl := eqS_iff.1 g_prime
   exact two_prime hf hc ha hb hd hcut hs hn
  by_cases g_colour : eqS w0 (bs [99, 111, 108, 111, 117, 114]) = true
  ·obtain rfl := eqS_iff.1 g_colour
   exact two_colour hf hc ha hb hd hcut hs hn
  by_cases g_combine : eqS w0 (bs [99, 111, 109, 98, 105, 110, 101]) = true
  ·obtain rfl := eqS_iff.1 g_combine
   exact two_combine hf hc ha hb hd hcut hs hn
  by_cases g_at : eqS w0 (bs [97, 116]) = true
  ·obtain rfl := eqS_iff.1 g_at
   exact two_at hf hc ha hb hd hcut hs hn
  by_cases g_count : eqS w0 (bs [99, 111, 117, 110, 116]) = true
  ·obtain rfl := eqS_iff.1 g_count
   exact two_count hf hc ha hb hd hcut hs hn
  exact two_none hcut hs g_first g_second g_third g_prime g_colour g_combine g_at g_count hn
theorem desk_same (D : Dk) : s_IsDesk D = i_IsDesk D := by
 obtain ⟨p, c, a1, a2, b1, b2, d1, d2⟩ := D
 unfold s_IsDesk i_IsDesk s_l02Code
 dsimp only
 have e : s_l01Code p (rows2 3 [a1, a2, b1, b2, d1, d2]) = i_asked p true (i_arePoints p [(a1, a2), (b1, b2), (d1, d2)]) := pointcode p true [(a1, a2), (b1, b2), (d1, d2)]
 rw [e, colour_eq]
 cases hf : i_IsField p
 ·simp [i_asked, hf]
 ·cases hc : i_isColour c
  ·cases hp : i_arePoints p [(a1, a2), (b1, b2), (d1, d2)] <;> simp [i_asked, hf]
  ·cases hp : i_arePoints p [(a1, a2), (b1, b2), (d1, d2)] <;> simp [i_asked, hf]
def ERR : ByteArray := bs [101, 114, 114, 111, 114]
theorem ERR_size : ERR.size ≤ 100000000 := by decide
def Same (D : Dk) (line : ByteArray) : Prop := ∃ r : Dk × ByteArray, Fo_s_RunLine D line = some r ∧ Fo_i_RunLine D line = some r ∧ r.2.size ≤ 100000000 ∧ (i_IsDesk D = true → i_IsDesk r.1 = true)
theorem run_res {D : Dk} {line : ByteArray} {n : Nat} {l : List ByteArray} (h : Res (Fo_s_l11Execute D line) D n l) (hx : x_Split line (bs [32]) = (n, l)) (hn : n ≤ 2) (hd : i_IsDesk D = true) (hsp : splitOK line (bs [32]) = true) : Same D line := by
 have hd1 : ¬ (!(s_IsDesk D)) = true := by rw [desk_same, hd]; decide
 have hd2 : ¬ (!(i_IsDesk D)) = true := by rw [hd]; decide
 have hn2 : ¬ decide (((n : Nat) : Int) > 2) = true := by simp; omega
 rcases h with ⟨D1, D2, t1, t2, k1, k2, e1, e2, e3, e4⟩ | ⟨t1, t2, k, e1, e2, e3, e4⟩
 ·have ic := i_change_of e2
  by_cases hk : k1 = 0
  ·obtain ⟨rfl, rfl, hz, hD⟩ := e4 hk
   have hk2 := e3.1 hk
   refine ⟨(D1, t1), ?_, ?_, hz, fun _ => hD⟩
   ·unfold Fo_s_RunLine
    rw [if_neg hd1, if_pos (ok_s_l11Execute_of e1), s_l11Execute_of e1, if_neg (by rw [hk]; simp)]
   ·unfold Fo_i_RunLine
    rw [if_neg hd2, if_pos hsp, hx]
    dsimp only
    rw [if_neg hn2, if_pos (ok_i_change_of e2), ic]
    dsimp only
    rw [if_neg (by first | decide | simp), if_neg (by rw [hk2]; simp)]
  ·have hk2 : k2 ≠ 0 := fun q => hk (e3.2 q)
   refine ⟨(D, ERR), ?_, ?_, ERR_size, fun _ => hd⟩
   ·unfold Fo_s_RunLine
    rw [if_neg hd1, if_pos (ok_s_l11Execute_of e1), s_l11Execute_of e1, if_pos (bne_iff_ne.2 hk)]
    rfl
   ·unfold Fo_i_RunLine
    rw [if_neg hd2, if_pos hsp, hx]
    dsimp only
    rw [if_neg hn2, if_pos (ok_i_change_of e2), ic]
    dsimp only
    rw [if_neg (by first | decide | simp), if_pos (bne_iff_ne.2 hk2)]
    rfl
 ·have ic := i_change_of e2
  by_cases hk : k = 0
  ·obtain ⟨rfl, hz⟩ := e4 hk
   refine ⟨(D, t1), ?_, ?_, hz, fun _ => hd⟩
   ·unfold Fo_s_RunLine
    rw [if_neg hd1, if_pos (ok_s_l11Execute_of e1), s_l11Execute_of e1, if_neg (by rw [hk]; simp)]
   ·unfold Fo_i_RunLine
    rw [if_neg hd2, if_pos hsp, hx]
    dsimp only
    rw [if_neg hn2, if_pos (ok_i_change_of e2), ic]
    dsimp only
    rw [if_pos (by first | decide | rfl), if_pos (ok_i_answer_of e3), i_answer_of e3]
    dsimp only
    rw [if_neg (by rw [hk]; simp)]
  ·refine ⟨(D, ERR), ?_, ?_, ERR_size, fun _ => hd⟩
   ·unfold Fo_s_RunLine
    rw [if_neg hd1, if_pos (ok_s_l11Execute_of e1), s_l11Execute_of e1, if_pos (bne_iff_ne.2 hk)]
    rfl
   ·unfold Fo_i_RunLine
    rw [if_neg hd2, if_pos hsp, hx]
    dsimp only
    rw [if_neg hn2, if_pos (ok_i_change_of e2), ic]
    dsimp only
    rw [if_pos (by first | decide | rfl), if_pos (ok_i_answer_of e3), i_answer_of e3]
    dsimp only
    rw [if_pos (bne_iff_ne.2 hk)]
    rfl
theorem run_same (D : Dk) (line : ByteArray) (hz : line.size ≤ 1048576) : Same D line := by
 by_cases hd : i_IsDesk D = true
 ·have hcut : cutOK line 32 = true := by unfold cutOK; simp; omega
  have hsp : splitOK line (bs [32]) = true := by
   unfold splitOK
   rw [Nat.ble_eq_true_of_le (by omega)]
   rfl
  have es : s_l01Split line 32 = ((spL 32 (toL line)).length, (spL 32 (toL line)).map bs) := rfl
  have ex : x_Split line (bs [32]) = ((spL 32 (toL line)).length, (spL 32 (toL line)).map bs) := rfl
  have hpart : ∀ x ∈ spL 32 (toL line), x.length ≤ 1048576 := fun x hx => Nat.le_trans (spL_part hx) (by rw [← size_toL]; exact hz)
  have hne := spL_ne 32 (toL line)
  generalize spL 32 (toL line) = L at es ex hpart hne
  obtain ⟨p, c, a1, a2, b1, b2, d1, d2⟩ := D
  obtain ⟨hf, hc, ha, hb, hdd⟩ := of_desk hd
  match L, hne with
  | [x], _ =>
   have hr := one_word hf hc ha hb hdd (bs x)
   refine run_res (n := 1) (l := [bs x]) ?_ ex (by decide) hd hsp
   have e : Fo_s_l11Execute (p, c, a1, a2, b1, b2, d1, d2) line = Fo_s_l11Alone (p, c, a1, a2, b1, b2, d1, d2) (bs x) := by
    have : ∃ v, Fo_s_l11Alone (p, c, a1, a2, b1, b2, d1, d2) (bs x) = some v := by
     rcases hr with ⟨D1, D2, t1, t2, k1, k2, e1, _⟩ | ⟨t1, t2, k, e1, _⟩
     ·exact ⟨_, e1⟩
     ·exact ⟨_, e1⟩
    obtain ⟨v, e1⟩ := this
    have es' : s_l01Split line 32 = (1, [bs x]) := es
    rw [e1]
    unfold Fo_s_l11Execute
    rw [es']
    simp only [List.getD_cons_zero]
    rw [if_pos hcut, if_pos (by first | decide | rfl), if_pos (by rfl), if_pos (by first | decide | rfl), if_pos (ok_s_l11Alone_of e1), s_l11Alone_of e1]
   rw [e]
   exact hr
  | [x, y], _ =>
   have es' : s_l01Split line 32 = (2, [bs x, bs y]) := es
   refine run_res (n := 2) (l := [bs x, bs y]) ?_ ex (by decide) hd hsp
   exact two_words hf hc ha hb hdd hcut es' (by rw [size_toL, toL_bs]; exact hpart y (by simp))
  | x :: y :: z :: r, _ =>
   have hd1 : ¬ (!(s_IsDesk (p, c, a1, a2, b1, b2, d1, d2))) = true := by rw [desk_same, hd]; decide
   have hd2 : ¬ (!(i_IsDesk (p, c, a1, a2, b1, b2, d1, d2))) = true := by rw [hd]; decide
   have hlen : (x :: y :: z :: r).length = r.length + 3 := rfl
   have hl2 : ((x :: y :: z :: r).map bs).length = r.length + 3 := by simp
   have e1 : Fo_s_l11Execute (p, c, a1, a2, b1, b2, d1, d2) line = some ((p, c, a1, a2, b1, b2, d1, d2), bs [], 6) := by
    unfold Fo_s_l11Execute
    rw [es]
    dsimp only
    rw [if_pos hcut, if_pos (by rw [hlen]; simp; omega), if_pos (by rw [hl2]; simp), if_neg (by rw [hlen]; simp; omega), if_pos (by rw [hlen]; simp; omega)]
   refine ⟨((p, c, a1, a2, b1, b2, d1, d2), ERR), ?_, ?_, ERR_size, fun _ => hd⟩
   ·unfold Fo_s_RunLine
    rw [if_neg hd1, if_pos (ok_s_l11Execute_of e1), s_l11Execute_of e1, if_pos (by first | decide | rfl)]
    rfl
   ·unfold Fo_i_RunLine
    rw [if_neg hd2, if_pos hsp, ex]
    dsimp only
    rw [if_pos (by rw [hlen]; simp; omega)]
    rfl
 ·refine ⟨((0, 0, 0, 0, 0, 0, 0, 0), bs []), ?_, ?_, by decide, fun q => absurd q hd⟩
  ·unfold Fo_s_RunLine
   rw [if_pos (by rw [desk_same, Bool.eq_false_iff.2 hd]; rfl)]
  ·unfold Fo_i_RunLine
   rw [if_pos (by rw [Bool.eq_false_iff.2 hd]; rfl)]

end Go.Proofs.YtcdpfpfbilfpoaaGreatDoor
