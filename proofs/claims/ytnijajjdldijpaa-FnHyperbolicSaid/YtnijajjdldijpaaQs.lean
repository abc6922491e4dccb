import Derived.Test.YtnijajjdldijpaaQi
import Derived.Test.YtnijajjdldijpaaFd
set_option linter.unusedSimpArgs false
set_option linter.unusedVariables false
namespace Go.Proofs.Ytnijajjdldijpaa
open Go.RowKit
/-! Drawn places. -/
theorem field_is9 (sn : Nat) (sl : List Int) (ss : Int × Int) (hs : srcB sn sl ss = true) : i_IsField (s_l01DrawField sn sl ss).1 = true := by
  have h := field_mem9 sn sl ss hs
  have : ∀ x ∈ [3, 5, 5, 7, 7, 11, 13, 13, 17, 19, 23, 29, (31 : Int)], i_IsField x = true := by decide +kernel
  exact this _ h
theorem made_place {p X Y Z : Int} (hf : i_IsField p = true) (hn : ¬ (X % p = 0 ∧ Y % p = 0 ∧ Z % p = 0)) : i_isPlace p (s_l09Made p X Y Z) = true := by
  have hp := i_IsField_ok hf
  obtain ⟨K, _, φ, H⟩ := hom_of hf
  rw [made_rest]
  have v : ∀ x : Int, Vl p φ (x % p) (φ x) := fun x => ⟨rest_b hp x, H.mod x⟩
  refine Pc.place hp (made_pc H hf (Vl.rw hp (v X)) (Vl.rw hp (v Y)) (Vl.rw hp (v Z)) ?_)
  have z := fun x => Vl.zero_iff H (v x)
  rw [z X, z Y, z Z] at hn
  by_cases c1 : φ X = 0
  · by_cases c2 : φ Y = 0
    · exact Or.inr (Or.inr fun c3 => hn ⟨c1, c2, c3⟩)
    · exact Or.inr (Or.inl c2)
  · exact Or.inl c1
theorem null_made {p x v : Int} (hf : i_IsField p = true) (hx : 0 ≤ x ∧ x < p) (hv : 1 ≤ v ∧ v < p) : i_isPlace p (s_l09Made p (wrap64 (wrap64 (x * x) - wrap64 (v * v))) (wrap64 (wrap64 (2 * x) * v)) (wrap64 (wrap64 (x * x) + wrap64 (v * v)))) = true := by
  have hp := i_IsField_ok hf
  obtain ⟨K, _, φ, H⟩ := hom_of hf
  have two := H.two_ne hf
  have vx : Rw φ x (φ x) 30 := Vl.rw hp (Vl.of hx)
  have vv : Vl p φ v (φ v) := Vl.of (by omega)
  have vw := Vl.rw hp vv
  have hne : φ v ≠ 0 := fun e => by have := (Vl.zero_iff H vv).2 e; omega
  have v2 : Rw φ (2 : Int) 2 2 := ⟨by unfold AB; omega, H.two⟩
  exact Pc.place hp (made_pc H hf (Rw.sub H (Rw.mul H vx vx (by decide)) (Rw.mul H vw vw (by decide)) (by decide)) (Rw.mul H (Rw.mul H v2 vx (by decide)) vw (by decide)) (Rw.add H (Rw.mul H vx vx (by decide)) (Rw.mul H vw vw (by decide)) (by decide)) (by grind))
theorem drawPlace_ok (sn : Nat) (sl : List Int) (ss : Int × Int) {p : Int} (hs : srcB sn sl ss = true) (hf : i_IsField p = true) : i_isPlace p (s_l09DrawPlace sn sl ss p).1 = true := by
  have h3 : 3 ≤ p ∧ p ≤ 31 := by have := field_mem hf; simp at this; omega
  have hw : wrap64 (p - 1) = p - 1 := w64 (by omega)
  rw [s_l09DrawPlace_eq]
  unfold s_l09DrawPlace_d
  delta k90_0 k90_1 k90_2 k90_3 k90_4 k90_5 k90_6 k90_7 k90_8
  simp only [wI_eq]
  have s1 := post_s_l01Next sn sl ss p hs
  have r1 := next_rng sn sl ss p hs (by omega)
  generalize (s_l01Next sn sl ss p) = N1 at s1 r1 ⊢
  have s2 := post_s_l01Next sn sl _ p s1
  have r2 := next_rng sn sl _ p s1 (by omega)
  generalize (s_l01Next sn sl N1.2.2.2 p) = N2 at s2 r2 ⊢
  have s3 := post_s_l01Next sn sl _ p s2
  have r3 := next_rng sn sl _ p s2 (by omega)
  generalize (s_l01Next sn sl N2.2.2.2 p) = N3 at s3 r3 ⊢
  have s4 := post_s_l01Next sn sl _ 6 s3
  generalize (s_l01Next sn sl N3.2.2.2 6) = N4 at s4 ⊢
  have r5 := next_rng sn sl _ (p - 1) s4 (by omega)
  rw [hw]
  generalize (s_l01Next sn sl N4.2.2.2 (p - 1)) = N5 at r5 ⊢
  have e5 : wrap64 (1 + N5.1) = 1 + N5.1 := w64 (by omega)
  rw [e5]
  have m := fun x (h : 0 ≤ x ∧ x < p) => mod_id h
  have h1 : (1 : Int) % p = 1 := mod_id (by omega)
  have h0 : (0 : Int) % p = 0 := mod_id (by omega)
  repeat' split
  · exact null_made hf r1 (by omega)
  all_goals
    refine made_place hf ?_
    simp only [m _ r1, m _ r2, m _ r3, h0, h1]
    simp_all
theorem on_pos {p : Int} {a b : P3} (hf : i_IsField p = true) (ha : i_isPlace p a = true) (hb : i_isPlace p b = true) (hne : (!(a == b)) = true) : (1 : Int) ≤ (((s_l09On p (s_l09Join p a b)).1 : Nat) : Int) ∧ (s_l09On p (s_l09Join p a b)).2.length = 3 * (s_l09On p (s_l09Join p a b)).1 := by
  obtain ⟨K, _, φ, H⟩ := hom_of hf
  have hp := i_IsField_ok hf
  have h : i_isPlace p (s_l09Join p a b) = true := Pc.place hp (join_pc H hf (Pc.of H ha) (Pc.of H hb) (by simpa using hne))
  unfold s_l09On
  dsimp only
  refine ⟨?_, flat3_len _⟩
  have := on_len H hf h
  simp only [product_same]
  rw [this]
  omega
theorem on_ble {sn : Nat} {sl : List Int} {ss : Int × Int} {n : Nat} {l : List Int} (hs : srcB sn sl ss = true) (h : (1 : Int) ≤ (n : Int) ∧ l.length = 3 * n) : (s_l01Next sn sl ss (n : Int)).1.toNat * 3 + 3 ≤ l.length := by
  have := next_rng sn sl ss n hs h.1
  omega

end Go.Proofs.Ytnijajjdldijpaa
