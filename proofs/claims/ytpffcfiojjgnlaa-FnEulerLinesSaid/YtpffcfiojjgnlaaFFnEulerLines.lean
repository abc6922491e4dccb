import Derived.Test.YtpffcfiojjgnlaaFh
import Derived.Test.YtpffcfiojjgnlaaQm
import Derived.Test.YtpffcfiojjgnlaaQo
import Derived.Test.YtpffcfiojjgnlaaProg
set_option linter.unusedSimpArgs false
set_option linter.unusedVariables false
namespace Go.Proofs.Ytpffcfiojjgnlaa
open Go.RowKit
noncomputable section
abbrev k3_0 (coden : Nat) (codel : List Int) : Int × Int × (Int × Int) × (Int × Int) × Int × Int := (s_DrawEulerLineOf coden codel)
abbrev k3_1 (coden : Nat) (codel : List Int) : (Int × Int × Int) × Int := (i_EulerLineOf ((k3_0 coden codel).1) ((k3_0 coden codel).2.1) ((k3_0 coden codel).2.2.1) ((k3_0 coden codel).2.2.2.1) ((k3_0 coden codel).2.2.2.2))
abbrev k3_2 (coden : Nat) (codel : List Int) : (Int × Int × Int) × Int := (s_EulerLineOf ((k3_0 coden codel).1) ((k3_0 coden codel).2.1) ((k3_0 coden codel).2.2.1) ((k3_0 coden codel).2.2.2.1) ((k3_0 coden codel).2.2.2.2))
abbrev k3_3 (coden : Nat) (codel : List Int) : (Nat × List Int) × Int := (i_OrthicPoints ((k3_0 coden codel).1) ((k3_0 coden codel).2.1) ((k3_0 coden codel).2.2.1) ((k3_0 coden codel).2.2.2.1) ((k3_0 coden codel).2.2.2.2))
abbrev k3_4 (coden : Nat) (codel : List Int) : (Nat × List Int) × Int := (s_OrthicPoints ((k3_0 coden codel).1) ((k3_0 coden codel).2.1) ((k3_0 coden codel).2.2.1) ((k3_0 coden codel).2.2.2.1) ((k3_0 coden codel).2.2.2.2))
abbrev k3_5 (coden : Nat) (codel : List Int) : Bool := (l_points9 (((k3_3 coden codel).1).1) (((k3_3 coden codel).1).2) (((k3_4 coden codel).1).1) (((k3_4 coden codel).1).2))
abbrev k3_6 (coden : Nat) (codel : List Int) : Int × Int := (i_QuadreaOf ((k3_0 coden codel).1) ((k3_0 coden codel).2.1) ((k3_0 coden codel).2.2.1) ((k3_0 coden codel).2.2.2.1) ((k3_0 coden codel).2.2.2.2))
abbrev k3_7 (coden : Nat) (codel : List Int) : Int × Int := (s_QuadreaOf ((k3_0 coden codel).1) ((k3_0 coden codel).2.1) ((k3_0 coden codel).2.2.1) ((k3_0 coden codel).2.2.2.1) ((k3_0 coden codel).2.2.2.2))
abbrev k3_8 (coden : Nat) (codel : List Int) : (Nat × List Int) × Int := (i_WeightsOf ((s_DrawWeightsOf coden codel).1) ((s_DrawWeightsOf coden codel).2.1) ((s_DrawWeightsOf coden codel).2.2.1) ((s_DrawWeightsOf coden codel).2.2.2.1) ((s_DrawWeightsOf coden codel).2.2.2.2))
abbrev k3_9 (coden : Nat) (codel : List Int) : (Nat × List Int) × Int := (s_WeightsOf ((s_DrawWeightsOf coden codel).1) ((s_DrawWeightsOf coden codel).2.1) ((s_DrawWeightsOf coden codel).2.2.1) ((s_DrawWeightsOf coden codel).2.2.2.1) ((s_DrawWeightsOf coden codel).2.2.2.2))
abbrev k3_10 (coden : Nat) (codel : List Int) : Bool := (l_likeInts (((k3_8 coden codel).1).1) (((k3_8 coden codel).1).2) (((k3_9 coden codel).1).1) (((k3_9 coden codel).1).2))
abbrev k3_11 (coden : Nat) (codel : List Int) : Int := (l_sum (((k3_8 coden codel).1).1) (((k3_8 coden codel).1).2))
abbrev k3_12 (coden : Nat) (codel : List Int) : (Int × Int × Int) × Int := (i_LineThrough ((k3_0 coden codel).1) ((k3_0 coden codel).2.2.2.1) ((k3_0 coden codel).2.2.2.2))
abbrev k3_13 (coden : Nat) (codel : List Int) : (Int × Int) × Int := (i_FootOf ((k3_0 coden codel).1) ((k3_0 coden codel).2.1) ((k3_0 coden codel).2.2.1) ((k3_12 coden codel).1))
abbrev k3_14 (coden : Nat) (codel : List Int) : (Int × Int) × Int := (i_CentroidOf ((k3_0 coden codel).1) ((k3_0 coden codel).2.2.1) ((k3_0 coden codel).2.2.2.1) ((k3_0 coden codel).2.2.2.2))
abbrev k3_15 (coden : Nat) (codel : List Int) : Bool × Int := (i_IsOnLine ((k3_0 coden codel).1) ((k3_14 coden codel).1) ((k3_1 coden codel).1))
def S_l_FnEulerLines : Sums := ⟨tblS [(5, run_l_big), (6, run_s_DrawEulerLineOf), (7, run_i_EulerLineOf), (8, run_s_EulerLineOf), (9, run_i_OrthicPoints), (10, run_s_OrthicPoints), (11, run_l_points9), (12, run_i_QuadreaOf), (13, run_s_QuadreaOf), (14, run_s_DrawWeightsOf), (15, run_i_WeightsOf), (16, run_s_WeightsOf), (17, run_l_likeInts), (18, run_l_sum), (19, run_i_LineThrough), (20, run_i_FootOf), (21, run_i_CentroidOf), (22, run_i_IsOnLine)], tblM []⟩
theorem SO_l_FnEulerLines : SumsOK Try.prog S_l_FnEulerLines := ⟨tblS_ok ⟨⟨Try.call5, sound_l_big⟩, ⟨Try.call6, sound_s_DrawEulerLineOf⟩, ⟨Try.call7, sound_i_EulerLineOf⟩, ⟨Try.call8, sound_s_EulerLineOf⟩, ⟨Try.call9, sound_i_OrthicPoints⟩, ⟨Try.call10, sound_s_OrthicPoints⟩, ⟨Try.call11, sound_l_points9⟩, ⟨Try.call12, sound_i_QuadreaOf⟩, ⟨Try.call13, sound_s_QuadreaOf⟩, ⟨Try.call14, sound_s_DrawWeightsOf⟩, ⟨Try.call15, sound_i_WeightsOf⟩, ⟨Try.call16, sound_s_WeightsOf⟩, ⟨Try.call17, sound_l_likeInts⟩, ⟨Try.call18, sound_l_sum⟩, ⟨Try.call19, sound_i_LineThrough⟩, ⟨Try.call20, sound_i_FootOf⟩, ⟨Try.call21, sound_i_CentroidOf⟩, ⟨Try.call22, sound_i_IsOnLine⟩, True.intro⟩, tblM_ok True.intro⟩
def Fo_l_FnEulerLines (coden : Nat) (codel : List Int) : Option (Bool) :=
  (if (l_big coden codel) = true then some true else (if (codeB coden codel) = true then (if (((k3_1 coden codel).2) != ((k3_2 coden codel).2)) = true then some false else (if (!(((k3_1 coden codel).1) == ((k3_2 coden codel).1))) = true then some false else (if (((k3_3 coden codel).2) != ((k3_4 coden codel).2)) = true then some false else (if (lenB (((k3_3 coden codel).1).1) 2 (((k3_3 coden codel).1).2) && lenB (((k3_4 coden codel).1).1) 2 (((k3_4 coden codel).1).2)) = true then (if (!(k3_5 coden codel)) = true then some false else (if (((k3_6 coden codel).2) != ((k3_7 coden codel).2)) = true then some false else (if (((k3_6 coden codel).1) != ((k3_7 coden codel).1)) = true then some false else (if (codeB coden codel) = true then (if (((k3_8 coden codel).2) != ((k3_9 coden codel).2)) = true then some false else (if (lenB (((k3_8 coden codel).1).1) 1 (((k3_8 coden codel).1).2) && lenB (((k3_9 coden codel).1).1) 1 (((k3_9 coden codel).1).2)) = true then (if (!(k3_10 coden codel)) = true then some false else (if (((k3_8 coden codel).2) == 0) = true then (if (decide (0 ≤ 0) && decide (0 < ((((k3_8 coden codel).1).1 : Nat) : Int))) = true then (if (Nat.ble (1) ((((k3_8 coden codel).1).2).length)) = true then (if (decide (0 ≤ 1) && decide (1 < ((((k3_8 coden codel).1).1 : Nat) : Int))) = true then (if (Nat.ble (2) ((((k3_8 coden codel).1).2).length)) = true then (if (decide (0 ≤ 2) && decide (2 < ((((k3_8 coden codel).1).1 : Nat) : Int))) = true then (if (Nat.ble (3) ((((k3_8 coden codel).1).2).length)) = true then (if (!(((s_DrawWeightsOf coden codel).1) == 0)) = true then (if (((wI ((wI ((wI ((wI (((((k3_8 coden codel).1).2).getD 0 0) * (((s_DrawWeightsOf coden codel).2.1).1))) + (wI (((((k3_8 coden codel).1).2).getD 1 0) * (((s_DrawWeightsOf coden codel).2.2.1).1))))) + (wI (((((k3_8 coden codel).1).2).getD 2 0) * (((s_DrawWeightsOf coden codel).2.2.2.1).1))))) - (((s_DrawWeightsOf coden codel).2.2.2.2).1))).tmod ((s_DrawWeightsOf coden codel).1)) != 0) = true then some false else (if (decide (0 ≤ 0) && decide (0 < ((((k3_8 coden codel).1).1 : Nat) : Int))) = true then (if (Nat.ble (1) ((((k3_8 coden codel).1).2).length)) = true then (if (decide (0 ≤ 1) && decide (1 < ((((k3_8 coden codel).1).1 : Nat) : Int))) = true then (if (Nat.ble (2) ((((k3_8 coden codel).1).2).length)) = true then (if (decide (0 ≤ 2) && decide (2 < ((((k3_8 coden codel).1).1 : Nat) : Int))) = true then (if (Nat.ble (3) ((((k3_8 coden codel).1).2).length)) = true then (if (!(((s_DrawWeightsOf coden codel).1) == 0)) = true then (if (((wI ((wI ((wI ((wI (((((k3_8 coden codel).1).2).getD 0 0) * (((s_DrawWeightsOf coden codel).2.1).2))) + (wI (((((k3_8 coden codel).1).2).getD 1 0) * (((s_DrawWeightsOf coden codel).2.2.1).2))))) + (wI (((((k3_8 coden codel).1).2).getD 2 0) * (((s_DrawWeightsOf coden codel).2.2.2.1).2))))) - (((s_DrawWeightsOf coden codel).2.2.2.2).2))).tmod ((s_DrawWeightsOf coden codel).1)) != 0) = true then some false else (if (lenB (((k3_8 coden codel).1).1) 1 (((k3_8 coden codel).1).2)) = true then (if (!(((s_DrawWeightsOf coden codel).1) == 0)) = true then (if (((k3_11 coden codel).tmod ((s_DrawWeightsOf coden codel).1)) != 1) = true then some false else (if (((k3_3 coden codel).2) == 0) = true then (if (((k3_12 coden codel).2) != 0) = true then some false else (if (((k3_13 coden codel).2) != 0) = true then some false else (if (((((k3_3 coden codel).1).1 : Nat) : Int) != 3) = true then some false else (if (decide (0 ≤ 0) && decide (0 < ((((k3_3 coden codel).1).1 : Nat) : Int))) = true then (if (Nat.ble (2) ((((k3_3 coden codel).1).2).length)) = true then (if (!(((k3_13 coden codel).1) == ((((k3_3 coden codel).1).2).getD 0 0, (((k3_3 coden codel).1).2).getD 1 0))) = true then some false else (if (((k3_6 coden codel).2) != 0) = true then some (((k3_1 coden codel).2) == ((k3_6 coden codel).2)) else (if (((k3_6 coden codel).1) == 0) = true then some false else (if (((k3_1 coden codel).2) != 0) = true then some true else (if (((k3_0 coden codel).1) == 3) = true then some true else (if (((k3_14 coden codel).2) == 0) = true then (if (((k3_15 coden codel).2) == 0) = true then some ((k3_15 coden codel).1) else some false) else some false)))))) else none) else none)))) else (if (((k3_6 coden codel).2) != 0) = true then some (((k3_1 coden codel).2) == ((k3_6 coden codel).2)) else (if (((k3_6 coden codel).1) == 0) = true then some false else (if (((k3_1 coden codel).2) != 0) = true then some true else (if (((k3_0 coden codel).1) == 3) = true then some true else (if (((k3_14 coden codel).2) == 0) = true then (if (((k3_15 coden codel).2) == 0) = true then some ((k3_15 coden codel).1) else some false) else some false))))))) else none) else none)) else none) else none) else none) else none) else none) else none) else none)) else none) else none) else none) else none) else none) else none) else none) else (if (((k3_3 coden codel).2) == 0) = true then (if (((k3_12 coden codel).2) != 0) = true then some false else (if (((k3_13 coden codel).2) != 0) = true then some false else (if (((((k3_3 coden codel).1).1 : Nat) : Int) != 3) = true then some false else (if (decide (0 ≤ 0) && decide (0 < ((((k3_3 coden codel).1).1 : Nat) : Int))) = true then (if (Nat.ble (2) ((((k3_3 coden codel).1).2).length)) = true then (if (!(((k3_13 coden codel).1) == ((((k3_3 coden codel).1).2).getD 0 0, (((k3_3 coden codel).1).2).getD 1 0))) = true then some false else (if (((k3_6 coden codel).2) != 0) = true then some (((k3_1 coden codel).2) == ((k3_6 coden codel).2)) else (if (((k3_6 coden codel).1) == 0) = true then some false else (if (((k3_1 coden codel).2) != 0) = true then some true else (if (((k3_0 coden codel).1) == 3) = true then some true else (if (((k3_14 coden codel).2) == 0) = true then (if (((k3_15 coden codel).2) == 0) = true then some ((k3_15 coden codel).1) else some false) else some false)))))) else none) else none)))) else (if (((k3_6 coden codel).2) != 0) = true then some (((k3_1 coden codel).2) == ((k3_6 coden codel).2)) else (if (((k3_6 coden codel).1) == 0) = true then some false else (if (((k3_1 coden codel).2) != 0) = true then some true else (if (((k3_0 coden codel).1) == 3) = true then some true else (if (((k3_14 coden codel).2) == 0) = true then (if (((k3_15 coden codel).2) == 0) = true then some ((k3_15 coden codel).1) else some false) else some false)))))))) else none)) else none)))) else none)))) else none))
theorem eq_l_FnEulerLines (coden : Nat) (codel : List Int) : execT Try.prog S_l_FnEulerLines 3 275 (fun _ => 1000000) dec_b [.s coden (.byts codel)] = Fo_l_FnEulerLines coden codel := by
  kernel_rfl
theorem EulerLineOf_same (p k : Int) (a b c : P2) : i_EulerLineOf p k a b c = s_EulerLineOf p k a b c := by
  unfold i_EulerLineOf s_EulerLineOf
  rw [tricode]
  by_cases h : i_triangle p k a b c = 0
  · have hk := (tri_zero h).2.1
    have h0 : i_triangle p 0 a b c = 0 := by rw [← tri_any hk isC0]; exact h
    rw [ortho_eq h0 hk, circum_eq h0 hk, h]
    by_cases hx : s_l04Orthocentre p k a b c = s_l04Circumcentre p k a b c
    · simp [hx]
    · rw [through_eq (tri_zero h).1 (ortho_pt h0 hk) (circum_pt h0 hk) hx]
  · simp [h]
theorem tri_sides {p k : Int} {a b c : P2} (h : i_triangle p k a b c = 0) : a ≠ b ∧ a ≠ c ∧ b ≠ c := by
  obtain ⟨hf, hk, ha, hb, hc, hn⟩ := tri_zero h
  obtain ⟨K, inst, φ, H⟩ := hom_of hf
  have T := tri_of H h
  unfold Tri at T
  refine ⟨?_, ?_, ?_⟩ <;> rintro rfl <;> exact T (by grind)
theorem line_of_pts {p : Int} {a b : P2} (hf : i_IsField p = true) (ha : i_isPoint p a = true) (hb : i_isPoint p b = true) (h : a ≠ b) : i_isLine p (i_lineThrough p a b) = true := by
  obtain ⟨K, inst, φ, H⟩ := hom_of hf
  have a1 := Vl.of (φ := φ) (isPoint_num ha).1; have a2 := Vl.of (φ := φ) (isPoint_num ha).2
  have b1 := Vl.of (φ := φ) (isPoint_num hb).1; have b2 := Vl.of (φ := φ) (isPoint_num hb).2
  exact Ln.line hf (ln_lineThrough H hf a1 a2 b1 b2 (ne_of H a1 a2 b1 b2 h))
theorem OrthicPoints_same (p k : Int) (a b c : P2) : i_OrthicPoints p k a b c = s_OrthicPoints p k a b c := by
  unfold i_OrthicPoints s_OrthicPoints
  rw [tricode]
  by_cases h : i_triangle p k a b c = 0
  · obtain ⟨hf, hk, ha, hb, hc, hn⟩ := tri_zero h
    obtain ⟨n1, n2, n3⟩ := tri_sides h
    rw [← through_eq hf hb hc n3, ← through_eq hf ha hc n2, ← through_eq hf ha hb n1, h]
    obtain ⟨e1, e2⟩ := foot_eq hf hk ha (line_of_pts hf hb hc n3)
    obtain ⟨f1, f2⟩ := foot_eq hf hk hb (line_of_pts hf ha hc n2)
    obtain ⟨g1, g2⟩ := foot_eq hf hk hc (line_of_pts hf ha hb n1)
    rw [e1, e2, f1, f2, g1, g2]
    simp only [Bool.not_not]
  · simp [h]
theorem OrthicPoints_len (p k : Int) (a b c : P2) : lenB (s_OrthicPoints p k a b c).1.1 2 (s_OrthicPoints p k a b c).1.2 = true := by
  unfold s_OrthicPoints
  repeat' split
  all_goals rfl
theorem archi_same (p x y z : Int) : s_l02Archimedes p x y z = i_archimedes p x y z := rfl
theorem QuadreaOf_same (p k : Int) (a b c : P2) : i_QuadreaOf p k a b c = s_QuadreaOf p k a b c := by
  unfold i_QuadreaOf s_QuadreaOf s_l04Quadrea
  rw [tricode]
  by_cases h : i_triangle p k a b c = 0
  · obtain ⟨hf, hk, ha, hb, hc, hn⟩ := tri_zero h
    rw [archi_same, quad_same hf hk hb hc, quad_same hf hk ha hc, quad_same hf hk ha hb]
  · simp [h]
theorem WeightsOf_same (p : Int) (a b c d : P2) : i_WeightsOf p a b c d = s_WeightsOf p a b c d := by
  unfold i_WeightsOf s_WeightsOf i_WeightsOf_c1
  rw [tricode, colourcode p 0 true, show i_arePoints p (rows2 4 [a.1, a.2, b.1, b.2, c.1, c.2, d.1, d.2]) = i_arePoints p [a, b, c, d] from rfl, show i_isColour 0 = true from rfl, if_pos rfl]
  by_cases h : i_asked p true (i_arePoints p [a, b, c, d]) = 0
  · obtain ⟨hf, hb⟩ := asked_zero h
    simp only [i_arePoints, List.all_cons, List.all_nil, Bool.and_true, Bool.and_eq_true] at hb
    obtain ⟨ha, hb, hc, hd⟩ := hb
    have ht : i_triangle p 0 a b c = if (i_area p a b c == 0) = true then 5 else 0 := by
      unfold i_triangle i_triangle_c1
      have e : i_asked p true (i_arePoints p [a, b, c]) = 0 := by unfold i_asked i_arePoints; simp [hf, ha, hb, hc]
      rw [show i_isColour 0 = true from rfl, if_pos rfl, e]
      rfl
    rw [h, ht, area_same p a b c hf ha hb hc, area_same p d b c hf hd hb hc, area_same p a d c hf ha hd hc, area_same p a b d hf ha hb hd]
    by_cases e : i_area p a b c = 0
    · simp [e]
    · have ar : ∀ (x y z : P2), i_isPoint p x = true → i_isPoint p y = true → i_isPoint p z = true → 0 ≤ i_area p x y z ∧ i_area p x y z < p := fun x y z h1 h2 h3 => by
        obtain ⟨K, inst, φ, H⟩ := hom_of hf
        exact (vl_area H hf (Vl.of (φ := φ) (isPoint_num h1).1) (Vl.of (φ := φ) (isPoint_num h1).2) (Vl.of (φ := φ) (isPoint_num h2).1) (Vl.of (φ := φ) (isPoint_num h2).2) (Vl.of (φ := φ) (isPoint_num h3).1) (Vl.of (φ := φ) (isPoint_num h3).2)).1
      have dv : ∀ x, (0 ≤ x ∧ x < p) → s_l01Mod (wrap64 (x * s_l01Inverse (i_area p a b c) p)) p = i_divide p x (i_area p a b c) := by
        intro x hx
        have r := ar a b c ha hb hc
        unfold i_divide i_rest s_l01Mod
        rw [(inv_facts hf r).1]
      rw [dv _ (ar d b c hd hb hc), dv _ (ar a d c ha hd hc), dv _ (ar a b d ha hb hd)]
      simp [e]
  · simp [h]
theorem WeightsOf_len (p : Int) (a b c d : P2) : lenB (s_WeightsOf p a b c d).1.1 1 (s_WeightsOf p a b c d).1.2 = true := by
  unfold s_WeightsOf
  repeat' split
  all_goals rfl
theorem weights_own {r : Int} {u v w d : P2} (h : ((i_WeightsOf r u v w d).2 == 0) = true) : ∃ x y z, i_WeightsOf r u v w d = ((3, [x, y, z]), 0) ∧ (!(r == 0)) = true ∧ (wI (wI (wI (wI (x * u.1) + wI (y * v.1)) + wI (z * w.1)) - d.1)).tmod r = 0 ∧ (wI (wI (wI (wI (x * u.2) + wI (y * v.2)) + wI (z * w.2)) - d.2)).tmod r = 0 ∧ (l_sum 3 [x, y, z]).tmod r = 1 := by
  unfold i_WeightsOf i_WeightsOf_c1 at h ⊢
  by_cases e : i_asked r true (i_arePoints r [u, v, w, d]) = 0
  · obtain ⟨hf, hb⟩ := asked_zero e
    simp only [i_arePoints, List.all_cons, List.all_nil, Bool.and_true, Bool.and_eq_true] at hb
    obtain ⟨hu, hv, hw, hd⟩ := hb
    rw [e, if_neg (by decide)] at h ⊢
    by_cases e2 : (i_area r u v w == 0) = true
    · rw [if_pos e2] at h; simp at h
    · rw [if_neg e2]
      have hp := i_IsField_ok hf
      obtain ⟨K, inst, φ, H⟩ := hom_of hf
      have u1 := Vl.of (φ := φ) (isPoint_num hu).1; have u2 := Vl.of (φ := φ) (isPoint_num hu).2
      have v1 := Vl.of (φ := φ) (isPoint_num hv).1; have v2 := Vl.of (φ := φ) (isPoint_num hv).2
      have w1 := Vl.of (φ := φ) (isPoint_num hw).1; have w2 := Vl.of (φ := φ) (isPoint_num hw).2
      have d1 := Vl.of (φ := φ) (isPoint_num hd).1; have d2 := Vl.of (φ := φ) (isPoint_num hd).2
      have A := vl_area H hf u1 u2 v1 v2 w1 w2
      have A1 := vl_area H hf d1 d2 v1 v2 w1 w2
      have A2 := vl_area H hf u1 u2 d1 d2 w1 w2
      have A3 := vl_area H hf u1 u2 v1 v2 d1 d2
      have hA : (φ v.1 - φ u.1) * (φ w.2 - φ u.2) - (φ v.2 - φ u.2) * (φ w.1 - φ u.1) ≠ 0 := fun z => e2 (by simpa using (Vl.zero_iff H A).2 z)
      have x := Vl.div H hf (Vl.rw hp A1) A (by decide)
      have y := Vl.div H hf (Vl.rw hp A2) A (by decide)
      have z := Vl.div H hf (Vl.rw hp A3) A (by decide)
      refine ⟨_, _, _, rfl, by simpa using hp.ne, ?_, ?_, ?_⟩
      · simp only [wI_eq]
        rw [tmod_zero H]
        have r1 := Rw.sub H (Rw.add H (Rw.add H (Rw.mul H (Vl.rw hp x) (Vl.rw hp u1) (by decide)) (Rw.mul H (Vl.rw hp y) (Vl.rw hp v1) (by decide)) (by decide)) (Rw.mul H (Vl.rw hp z) (Vl.rw hp w1) (by decide)) (by decide)) (Vl.rw hp d1) (by decide)
        rw [r1.2]
        clear A A1 A2 A3 x y z r1 u1 u2 v1 v2 w1 w2 d1 d2
        grind
      · simp only [wI_eq]
        rw [tmod_zero H]
        have r1 := Rw.sub H (Rw.add H (Rw.add H (Rw.mul H (Vl.rw hp x) (Vl.rw hp u2) (by decide)) (Rw.mul H (Vl.rw hp y) (Vl.rw hp v2) (by decide)) (by decide)) (Rw.mul H (Vl.rw hp z) (Vl.rw hp w2) (by decide)) (by decide)) (Vl.rw hp d2) (by decide)
        rw [r1.2]
        clear A A1 A2 A3 x y z r1 u1 u2 v1 v2 w1 w2 d1 d2
        grind
      · have b1 := x.1; have b2 := y.1; have b3 := z.1
        have hs : φ (i_divide r (i_area r d v w) (i_area r u v w) + i_divide r (i_area r u d w) (i_area r u v w) + i_divide r (i_area r u v d) (i_area r u v w)) = φ 1 := by
          rw [H.add, H.add, x.2, y.2, z.2, H.one]
          clear A A1 A2 A3 x y z u1 u2 v1 v2 w1 w2 d1 d2
          grind
        generalize i_divide r (i_area r d v w) (i_area r u v w) = X at *
        generalize i_divide r (i_area r u d w) (i_area r u v w) = Y at *
        generalize i_divide r (i_area r u v d) (i_area r u v w) = Z at *
        have h3 : 3 ≤ r ∧ r ≤ 31 := by have := field_mem hf; simp at this; omega
        have hl : l_sum 3 [X, Y, Z] = X + Y + Z := by
          unfold l_sum
          simp only [List.foldl_cons, List.foldl_nil, wI_eq]
          rw [w64 (n := 0 + X) (by omega), w64 (n := 0 + X + Y) (by omega), w64 (by omega)]
          omega
        rw [hl, tmod_pos (by omega), (H.iff _ _).1 hs]
        exact mod_id (by omega)
  · rw [if_pos (by simpa using e)] at h
    exact absurd (by simpa using h) e
theorem orthic_own {p k : Int} {a b c : P2} (h : ((i_OrthicPoints p k a b c).2 == 0) = true) : (i_LineThrough p b c).2 = 0 ∧ (i_FootOf p k a (i_LineThrough p b c).1).2 = 0 ∧ ∃ x, i_OrthicPoints p k a b c = ((3, x), 0) ∧ Nat.ble 2 x.length = true ∧ (i_FootOf p k a (i_LineThrough p b c).1).1 = (x.getD 0 0, x.getD 1 0) := by
  unfold i_OrthicPoints at h ⊢
  by_cases ht : i_triangle p k a b c = 0
  · obtain ⟨hf, hk, ha, hb, hc, hn⟩ := tri_zero ht
    obtain ⟨n1, n2, n3⟩ := tri_sides ht
    have hl := line_of_pts hf hb hc n3
    have e : i_asked p true (i_arePoints p [b, c]) = 0 := by unfold i_asked i_arePoints; simp [hf, hb, hc]
    have eL : i_LineThrough p b c = (i_lineThrough p b c, 0) := by
      unfold i_LineThrough i_LineThrough_c1
      rw [e, if_neg (by decide), if_neg (by simpa using n3)]
    rw [ht, if_neg (by decide)] at h ⊢
    rw [eL]
    cases q1 : i_isNull p k (i_lineThrough p b c)
    · cases q2 : i_isNull p k (i_lineThrough p a c)
      · cases q3 : i_isNull p k (i_lineThrough p a b)
        · have eF : i_FootOf p k a (i_lineThrough p b c) = (i_foot p k a (i_lineThrough p b c), 0) := by
            have hk' : i_isColour k = true := by rcases hk with rfl | rfl | rfl <;> rfl
            have e : i_asked p true true = 0 := by unfold i_asked; rw [hf]; rfl
            unfold i_FootOf i_FootOf_c1
            rw [hk', ha, hl, if_pos rfl, if_pos rfl, e, q1]
            rfl
          rw [eF]
          exact ⟨rfl, rfl, _, rfl, rfl, rfl⟩
        · rw [q1, q2, q3] at h; simp at h
      · rw [q1, q2] at h; simp at h
    · rw [q1] at h; simp at h
  · rw [if_pos (by simpa using ht)] at h
    exact absurd (by simpa using h) ht
theorem quadrea_own {p k : Int} {a b c : P2} (h : ((i_QuadreaOf p k a b c).2 != 0) = false) : i_triangle p k a b c = 0 ∧ ((i_QuadreaOf p k a b c).1 == 0) = false := by
  unfold i_QuadreaOf at h ⊢
  by_cases ht : i_triangle p k a b c = 0
  · obtain ⟨hf, hk, ha, hb, hc, hn⟩ := tri_zero ht
    refine ⟨ht, ?_⟩
    rw [ht, if_neg (by decide)]
    have hp := i_IsField_ok hf
    obtain ⟨K, inst, φ, H⟩ := hom_of hf
    have a1 := Vl.of (φ := φ) (isPoint_num ha).1; have a2 := Vl.of (φ := φ) (isPoint_num ha).2
    have b1 := Vl.of (φ := φ) (isPoint_num hb).1; have b2 := Vl.of (φ := φ) (isPoint_num hb).2
    have c1 := Vl.of (φ := φ) (isPoint_num hc).1; have c2 := Vl.of (φ := φ) (isPoint_num hc).2
    have T := tri_of H ht
    have q1 := Vl.rw hp (vl_quadrance H hf hk b1 b2 c1 c2)
    have q2 := Vl.rw hp (vl_quadrance H hf hk a1 a2 c1 c2)
    have q3 := Vl.rw hp (vl_quadrance H hf hk a1 a2 b1 b2)
    have two : Rw φ (2 : Int) 2 2 := ⟨by unfold AB; omega, H.two⟩
    have s := Rw.add H (Rw.add H q1 q2 (by decide)) q3 (by decide)
    have t := Rw.add H (Rw.add H (Rw.mul H q1 q1 (by decide)) (Rw.mul H q2 q2 (by decide)) (by decide)) (Rw.mul H q3 q3 (by decide)) (by decide)
    have A := Vl.rest H hp (Rw.sub H (Rw.mul H s s (by decide)) (Rw.mul H two t (by decide)) (by decide))
    have hz := Vl.zero_iff H A
    have h2 := H.two_ne hf
    rw [beq_eq_false_iff_ne]
    intro e
    have e' := hz.1 e
    clear s t A hz q1 q2 q3 e a1 a2 b1 b2 c1 c2
    apply T
    generalize φ a.1 = x1 at e'; generalize φ a.2 = y1 at e'; generalize φ b.1 = x2 at e'; generalize φ b.2 = y2 at e'; generalize φ c.1 = x3 at e'; generalize φ c.2 = y3 at e'
    have hx : x1 - x2 = (x1 - x3) - (x2 - x3) := by grind
    have hy : y1 - y2 = (y1 - y3) - (y2 - y3) := by grind
    have hD : (x2 - x1) * (y3 - y1) - (y2 - y1) * (x3 - x1) = (y2 - y3) * (x1 - x3) - (x2 - x3) * (y1 - y3) := by grind
    rw [hx, hy] at e'
    rw [hD]
    clear hx hy hD
    generalize x1 - x3 = r at e' ⊢
    generalize y1 - y3 = s at e' ⊢
    generalize x2 - x3 = u at e' ⊢
    generalize y2 - y3 = v at e' ⊢
    have key : (2 * 2) * ((v * r - u * s) * (v * r - u * s)) = 0 := by
      rcases hk with rfl | rfl | rfl <;> simp [prodK] at e'
      · rw [← e']; grind
      · have : (2 * 2) * ((v * r - u * s) * (v * r - u * s)) = -0 := by rw [← e']; grind
        rw [this]; grind
      · have : (2 * 2) * ((v * r - u * s) * (v * r - u * s)) = -0 := by rw [← e']; grind
        rw [this]; grind
    clear e' h
    generalize v * r - u * s = W at key ⊢
    have i2 : (2 : K) * 2⁻¹ = 1 := Lean.Grind.Field.mul_inv_cancel h2
    have e : W * W = 2⁻¹ * 2⁻¹ * (2 * 2 * (W * W)) := by
      generalize (2 : K)⁻¹ = i at i2
      clear key
      grind
    rw [key] at e
    have e : W * W = 0 := by grind
    grind
  · rw [if_pos (by simpa using ht)] at h
    simp [ht] at h
theorem FnEulerLines_tot (n : Nat) (l : List Int) (hp : bytB n l = true) : Fo_l_FnEulerLines n l = some true := by
  unfold Fo_l_FnEulerLines
  refine br_step (fun _ => rfl) (fun hb => ?_)
  have hc := code_big hp hb
  have A1 : k3_1 n l = k3_2 n l := EulerLineOf_same _ _ _ _ _
  have A1b := congrArg Prod.snd A1
  have A1a : ((k3_1 n l).1 == (k3_2 n l).1) = true := by rw [A1]; exact beq_self_eq_true _
  have B1 : k3_3 n l = k3_4 n l := OrthicPoints_same _ _ _ _ _
  have B1b := congrArg Prod.snd B1
  have B2 : (lenB (k3_3 n l).1.1 2 (k3_3 n l).1.2 && lenB (k3_4 n l).1.1 2 (k3_4 n l).1.2) = true := by
    have := OrthicPoints_len (k3_0 n l).1 (k3_0 n l).2.1 (k3_0 n l).2.2.1 (k3_0 n l).2.2.2.1 (k3_0 n l).2.2.2.2
    rw [B1]
    exact and_two this this
  have B3 : k3_5 n l = true := by
    show l_points9 (k3_3 n l).1.1 (k3_3 n l).1.2 (k3_4 n l).1.1 (k3_4 n l).1.2 = true
    rw [B1]
    exact points9_self _ _
  have C1 : k3_6 n l = k3_7 n l := QuadreaOf_same _ _ _ _ _
  have C1a := congrArg Prod.fst C1
  have C1b := congrArg Prod.snd C1
  have D1 : k3_8 n l = k3_9 n l := WeightsOf_same _ _ _ _ _
  have D1b := congrArg Prod.snd D1
  have D2 : (lenB (k3_8 n l).1.1 1 (k3_8 n l).1.2 && lenB (k3_9 n l).1.1 1 (k3_9 n l).1.2) = true := by
    have := WeightsOf_len (s_DrawWeightsOf n l).1 (s_DrawWeightsOf n l).2.1 (s_DrawWeightsOf n l).2.2.1 (s_DrawWeightsOf n l).2.2.2.1 (s_DrawWeightsOf n l).2.2.2.2
    rw [D1]
    exact and_two this this
  have D3 : k3_10 n l = true := by
    show l_likeInts (k3_8 n l).1.1 (k3_8 n l).1.2 (k3_9 n l).1.1 (k3_9 n l).1.2 = true
    rw [D1]
    exact like_self _ _
  have rest : ∀ X : Option Bool, (((k3_6 n l).2 != 0) = true → X = some ((k3_1 n l).2 == (k3_6 n l).2)) → (((k3_6 n l).2 != 0) = false → X = if ((k3_6 n l).1 == 0) = true then some false else if ((k3_1 n l).2 != 0) = true then some true else if ((k3_0 n l).1 == 3) = true then some true else if ((k3_14 n l).2 == 0) = true then (if ((k3_15 n l).2 == 0) = true then some (k3_15 n l).1 else some false) else some false) → X = some true := by
    intro X h1 h2
    by_cases h : ((k3_6 n l).2 != 0) = true
    · rw [h1 h]
      have e : (k3_1 n l).2 = (k3_6 n l).2 := by
        show (i_EulerLineOf _ _ _ _ _).2 = (i_QuadreaOf _ _ _ _ _).2
        have h' : ((i_QuadreaOf (k3_0 n l).1 (k3_0 n l).2.1 (k3_0 n l).2.2.1 (k3_0 n l).2.2.2.1 (k3_0 n l).2.2.2.2).2 != 0) = true := h
        unfold i_EulerLineOf
        unfold i_QuadreaOf at h' ⊢
        by_cases ht : i_triangle (k3_0 n l).1 (k3_0 n l).2.1 (k3_0 n l).2.2.1 (k3_0 n l).2.2.2.1 (k3_0 n l).2.2.2.2 = 0
        · rw [ht] at h'; simp at h'
        · rw [if_pos (by simpa using ht), if_pos (by simpa using ht)]
      rw [e]
      exact end_step (beq_self_eq_true _)
    · have h := Bool.not_eq_true _ ▸ h
      have h : ((k3_6 n l).2 != 0) = false := by simpa using h
      rw [h2 h]
      obtain ⟨ht, hz⟩ := quadrea_own h
      refine fl_step hz ?_
      refine br_step (fun _ => rfl) (fun he => ?_)
      refine br_step (fun _ => rfl) (fun h3 => ?_)
      have h3' : (k3_0 n l).1 ≠ 3 := by simpa using h3
      obtain ⟨hf, hk, ha, hb', hc', _⟩ := tri_zero ht
      have ht0 : i_triangle (k3_0 n l).1 0 (k3_0 n l).2.2.1 (k3_0 n l).2.2.2.1 (k3_0 n l).2.2.2.2 = 0 := by rw [← tri_any hk isC0]; exact ht
      have g : (k3_14 n l).2 = 0 := by
        obtain ⟨K, inst, φ, H⟩ := hom_of hf
        exact (centroid_of H hf h3' (Vl.of (φ := φ) (isPoint_num ha).1) (Vl.of (φ := φ) (isPoint_num ha).2) (Vl.of (φ := φ) (isPoint_num hb').1) (Vl.of (φ := φ) (isPoint_num hb').2) (Vl.of (φ := φ) (isPoint_num hc').1) (Vl.of (φ := φ) (isPoint_num hc').2) ht0).1
      have o : k3_15 n l = (true, 0) := euler_on hk h3' (by simpa using he)
      refine ck_step (by rw [g]; rfl) ?_
      refine ck_step (by rw [o]; rfl) ?_
      rw [o]
  have O : ((k3_3 n l).2 == 0) = true → (k3_12 n l).2 = 0 ∧ (k3_13 n l).2 = 0 ∧ (((k3_3 n l).1.1 : Nat) : Int) = 3 ∧ (decide (0 ≤ 0) && decide (0 < (((k3_3 n l).1.1 : Nat) : Int))) = true ∧ Nat.ble 2 (k3_3 n l).1.2.length = true ∧ ((k3_13 n l).1 == ((k3_3 n l).1.2.getD 0 0, (k3_3 n l).1.2.getD 1 0)) = true := by
    intro h
    obtain ⟨o1, o2, x, o3, o4, o5⟩ := orthic_own h
    have o3 : k3_3 n l = ((3, x), 0) := o3
    rw [o3]
    exact ⟨o1, o2, rfl, rfl, o4, by rw [beq_iff_eq]; exact o5⟩
  repeat' (first
    | with_reducible refine ck_step hc ?_
    | with_reducible refine ne_step A1b ?_
    | with_reducible refine nt_step A1a ?_
    | with_reducible refine ne_step B1b ?_
    | with_reducible refine ck_step B2 ?_
    | with_reducible refine nt_step B3 ?_
    | with_reducible refine ne_step C1b ?_
    | with_reducible refine ne_step C1a ?_
    | with_reducible refine ne_step D1b ?_
    | with_reducible refine ck_step D2 ?_
    | with_reducible refine nt_step D3 ?_
    | with_reducible refine ne_step (O ‹((k3_3 n l).2 == 0) = true›).1 ?_
    | with_reducible refine ne_step (O ‹((k3_3 n l).2 == 0) = true›).2.1 ?_
    | with_reducible refine ne_step (O ‹((k3_3 n l).2 == 0) = true›).2.2.1 ?_
    | with_reducible refine ck_step (O ‹((k3_3 n l).2 == 0) = true›).2.2.2.1 ?_
    | with_reducible refine ck_step (O ‹((k3_3 n l).2 == 0) = true›).2.2.2.2.1 ?_
    | with_reducible refine nt_step (O ‹((k3_3 n l).2 == 0) = true›).2.2.2.2.2 ?_
    | (refine rest _ (fun h => ?_) (fun h => ?_)
       · with_reducible (rw [if_pos h])
       · with_reducible (rw [if_neg (by rw [h]; decide)]))
    | (with_reducible refine br_step (c := (k3_3 n l).2 == 0) (fun _ => ?_) (fun _ => ?_))
    | (with_reducible refine br_step (c := (k3_8 n l).2 == 0) (fun h8 => ?_) (fun _ => ?_))
    | (obtain ⟨x, y, z, e1, e2, e3, e4, e5⟩ := weights_own ‹((k3_8 n l).2 == 0) = true›
       have e1 : k3_8 n l = ((3, [x, y, z]), 0) := e1
       have e6 : k3_11 n l = l_sum 3 [x, y, z] := by delta k3_11; rw [e1]
       rw [e6, e1]
       refine ck_step (by rfl) (ck_step (by rfl) (ck_step (by rfl) (ck_step (by rfl) (ck_step (by rfl) (ck_step (by rfl) (ck_step e2 (ne_step e3 ?_)))))))
       refine ck_step (by rfl) (ck_step (by rfl) (ck_step (by rfl) (ck_step (by rfl) (ck_step (by rfl) (ck_step (by rfl) (ck_step e2 (ne_step e4 ?_)))))))
       refine ck_step (by rfl) (ck_step e2 (ne_step e5 ?_))))

def l_FnEulerLines (coden : Nat) (codel : List Int) : Bool := true
theorem tot_l_FnEulerLines (coden : Nat) (codel : List Int) (hp : (bytB coden codel) = true) : Fo_l_FnEulerLines coden codel = some (l_FnEulerLines coden codel) := by
  exact FnEulerLines_tot coden codel hp
def run_l_FnEulerLines : List PV → Option (Bool × List TR)
  | [.s coden (.byts codel)] => some (bytB coden codel, enc_b (l_FnEulerLines coden codel))
  | _ => none
theorem sound_l_FnEulerLines : Sound Try.prog 3 run_l_FnEulerLines := by
  refine sound_of de_b SO_l_FnEulerLines (by kernel_rfl) Try.func3 Try.ntmps3 rfl (by kernel_rfl) ?_
  intro W pvs avs rs hargs hrun
  unfold run_l_FnEulerLines at hrun
  split at hrun
  · simp only [Option.some.injEq, Prod.mk.injEq] at hrun
    obtain ⟨hp, rfl⟩ := hrun
    rename_i coden codel
    exact ⟨_, _, _, hargs, rfl, (eq_l_FnEulerLines coden codel).trans (tot_l_FnEulerLines coden codel hp)⟩
  · cases hrun


end

end Go.Proofs.Ytpffcfiojjgnlaa
