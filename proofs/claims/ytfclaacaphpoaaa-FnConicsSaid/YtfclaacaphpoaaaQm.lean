import Derived.Test.YtfclaacaphpoaaaQl
set_option linter.unusedSimpArgs false
set_option linter.unusedVariables false
namespace Go.Proofs.Ytfclaacaphpoaaa
open Go.RowKit
theorem centre_find {p : Int} {k : P6} (hf : i_IsField p = true) (hk : i_isConic p k = true) (hd : i_conicKind p k ≠ 0) :
    (pts p).findSome? (fun zz => if ((i_polar p k zz).1 == 0 && (i_polar p k zz).2.1 == 0) = true then some (zz, (0 : Int)) else none) = some ((s_l01Meet p (s_l01Normal p (wrap64 (2 * k.1)) k.2.1 k.2.2.2.1) (s_l01Normal p k.2.1 (wrap64 (2 * k.2.2.1)) k.2.2.2.2.1)).1, 0) := by
  obtain ⟨K, inst, φ, H⟩ := hom_of hf
  have h2 := H.two_ne hf
  rw [Ne, kind_zero H hf hk] at hd
  have l1 := ln_axis1 H hf hk (by grind)
  have l2 := ln_axis2 H hf hk (by grind)
  obtain ⟨_, _, X, Y, v1, v2, q1, q2⟩ := Ln.meet H hf l1 l2 (by grind)
  generalize hc : (s_l01Meet p (s_l01Normal p (wrap64 (2 * k.1)) k.2.1 k.2.2.2.1) (s_l01Normal p k.2.1 (wrap64 (2 * k.2.2.1)) k.2.2.2.2.1)).1 = c at v1 v2 ⊢
  have hmem : c ∈ pts p := mem_pts.2 ⟨v1.1, v2.1⟩
  have hfind : (pts p).find? (fun zz => (i_polar p k zz).1 == 0 && (i_polar p k zz).2.1 == 0) = some c := by
    have key : ∀ z, z ∈ pts p → (((i_polar p k z).1 == 0 && (i_polar p k z).2.1 == 0) = true ↔ (2 * φ k.1 * φ z.1 + φ k.2.1 * φ z.2 + φ k.2.2.2.1 = 0 ∧ φ k.2.1 * φ z.1 + 2 * φ k.2.2.1 * φ z.2 + φ k.2.2.2.2.1 = 0)) := by
      intro z hz
      have e1 := Vl.zero_iff H (vl_polar1 H hf hk (isPoint_mem hz))
      have e2 := Vl.zero_iff H (vl_polar2 H hf hk (isPoint_mem hz))
      rw [Bool.and_eq_true, beq_iff_eq, beq_iff_eq, e1, e2]
    refine find_only hmem ?_ ?_
    · rw [key c hmem, v1.2, v2.2]
      exact ⟨q1, q2⟩
    · intro z hz hq
      have hq := (key z hz).1 hq
      have hz' := mem_pts.1 hz
      have z1 := Vl.of (φ := φ) hz'.1; have z2 := Vl.of (φ := φ) hz'.2
      have hxy : φ z.1 = X ∧ φ z.2 = Y := by
        obtain ⟨r1, r2⟩ := hq
        generalize φ z.1 = Z at r1 r2 ⊢; generalize φ z.2 = W at r1 r2 ⊢
        clear z1 z2 v1 v2 l1 l2 key
        constructor <;> grind
      exact pair_eq ((Vl.eq_iff H z1 v1).2 hxy.1) ((Vl.eq_iff H z2 v2).2 hxy.2)
  have e : ∀ l : List P2, l.findSome? (fun zz => if ((i_polar p k zz).1 == 0 && (i_polar p k zz).2.1 == 0) = true then some (zz, (0 : Int)) else none) = (l.find? (fun zz => (i_polar p k zz).1 == 0 && (i_polar p k zz).2.1 == 0)).map fun z => (z, 0) := by
    intro l
    induction l with
    | nil => rfl
    | cons z l ih => rw [List.findSome?_cons, List.find?_cons, ih]; cases ((i_polar p k z).1 == 0 && (i_polar p k z).2.1 == 0) <;> rfl
  rw [e, hfind]
  rfl
end Go.Proofs.Ytfclaacaphpoaaa
