import Derived.Test.YtoblkbpejfojjaaGreatDoorGc
set_option linter.unusedSimpArgs false
set_option linter.unusedVariables false
namespace Go.Proofs.YtoblkbpejfojjaaGreatDoor
open Go.RowKit
/-! Two keepers take a vector to one of the same quadrance. -/
theorem cast_lin {p a b x y : Int} (hp : 0 ≤ p) (ha : 0 ≤ a) (hb : 0 ≤ b) (hx : 0 ≤ x) (hy : 0 ≤ y) : (((a.toNat * x.toNat + b.toNat * y.toNat) % p.toNat : Nat) : Int) = (a * x + b * y) % p := by
  obtain ⟨p, rfl⟩ := Int.eq_ofNat_of_zero_le hp
  obtain ⟨a, rfl⟩ := Int.eq_ofNat_of_zero_le ha
  obtain ⟨b, rfl⟩ := Int.eq_ofNat_of_zero_le hb
  obtain ⟨x, rfl⟩ := Int.eq_ofNat_of_zero_le hx
  obtain ⟨y, rfl⟩ := Int.eq_ofNat_of_zero_le hy
  simp only [Int.toNat_natCast]
  rfl
theorem cast_one {p x y : Int} (hp : 1 ≤ p) (hx : 0 ≤ x) (hy : 0 ≤ y) : (((x.toNat * x.toNat + (p.toNat - 1) * (y.toNat * y.toNat)) % p.toNat : Nat) : Int) = (x * x + (p - 1) * (y * y)) % p := by
  obtain ⟨q, hq⟩ := Int.eq_ofNat_of_zero_le (show 0 ≤ p - 1 by omega)
  obtain rfl : p = (q : Int) + 1 := by omega
  obtain ⟨x, rfl⟩ := Int.eq_ofNat_of_zero_le hx
  obtain ⟨y, rfl⟩ := Int.eq_ofNat_of_zero_le hy
  rw [show ((q : Int) + 1).toNat = q + 1 by omega, show (q : Int) + 1 - 1 = (q : Int) by omega, Nat.add_sub_cancel]
  simp only [Int.toNat_natCast]
  rfl
theorem quadN_vl {p c : Int} {K : Type} [Lean.Grind.Field K] {φ : Int → K} (H : Hom p K φ) (hc : isC c) {x y : Int} (hx : 0 ≤ x ∧ x < p) (hy : 0 ≤ y ∧ y < p) : Vl p φ ((quadN p.toNat c.toNat x.toNat y.toNat : Nat) : Int) (prodK c (φ x) (φ y) (φ x) (φ y)) := by
  have hp : 0 < p := by omega
  rcases hc with rfl | rfl | rfl
  · show Vl p φ (((x.toNat * x.toNat + y.toNat * y.toNat) % p.toNat : Nat) : Int) _
    rw [cast_lin (by omega) hx.1 hy.1 hx.1 hy.1]
    exact ⟨⟨Int.emod_nonneg _ (by omega), Int.emod_lt_of_pos _ hp⟩, by rw [H.mod, H.add, H.mul, H.mul]; rfl⟩
  · show Vl p φ (((x.toNat * x.toNat + (p.toNat - 1) * (y.toNat * y.toNat)) % p.toNat : Nat) : Int) _
    rw [cast_one (by omega) hx.1 hy.1]
    refine ⟨⟨Int.emod_nonneg _ (by omega), Int.emod_lt_of_pos _ hp⟩, ?_⟩
    rw [H.mod, H.add, H.mul, H.mul, H.mul, H.sub, H.self, H.one]
    show _ = φ x * φ x - φ y * φ y
    grind
  · show Vl p φ (((x.toNat * y.toNat + y.toNat * x.toNat) % p.toNat : Nat) : Int) _
    rw [cast_lin (by omega) hx.1 hy.1 hy.1 hx.1]
    exact ⟨⟨Int.emod_nonneg _ (by omega), Int.emod_lt_of_pos _ hp⟩, by rw [H.mod, H.add, H.mul, H.mul]; rfl⟩
theorem hitN_is {p : Int} (hf : i_IsField p = true) {m : P4o} (hm : i_areNumbers p [m.1, m.2.1, m.2.2.1, m.2.2.2] = true) {v w : P2} (hv : (0 ≤ v.1 ∧ v.1 < p) ∧ (0 ≤ v.2 ∧ v.2 < p)) (hw : (0 ≤ w.1 ∧ w.1 < p) ∧ (0 ≤ w.2 ∧ w.2 < p)) :
    hitN p.toNat v.1.toNat v.2.toNat w.1.toNat w.2.toNat (natM m) = (i_turned p m v == w) := by
  obtain ⟨K, _, φ, H⟩ := hom_of hf
  have h : (0 ≤ m.1 ∧ m.1 < p) ∧ (0 ≤ m.2.1 ∧ m.2.1 < p) ∧ (0 ≤ m.2.2.1 ∧ m.2.2.1 < p) ∧ (0 ≤ m.2.2.2 ∧ m.2.2.2 < p) := by simpa [i_areNumbers, isNumber_iff] using hm
  obtain ⟨h1, h2, h3, h4⟩ := h
  have hp : 0 < p := by omega
  obtain ⟨t1, t2⟩ := vl_turned H hf (Vl.of (φ := φ) h1) (Vl.of (φ := φ) h2) (Vl.of (φ := φ) h3) (Vl.of (φ := φ) h4) (Vl.of (φ := φ) hv.1) (Vl.of (φ := φ) hv.2)
  have c1 := cast_lin (p := p) (by omega) h1.1 h2.1 hv.1.1 hv.2.1
  have c2 := cast_lin (p := p) (by omega) h3.1 h4.1 hv.1.1 hv.2.1
  have e1 : i_turned p m v = ((m.1 * v.1 + m.2.1 * v.2) % p, (m.2.2.1 * v.1 + m.2.2.2 * v.2) % p) := by
    have g1 : φ ((m.1 * v.1 + m.2.1 * v.2) % p) = φ m.1 * φ v.1 + φ m.2.1 * φ v.2 := by rw [H.mod, H.add, H.mul, H.mul]
    have g2 : φ ((m.2.2.1 * v.1 + m.2.2.2 * v.2) % p) = φ m.2.2.1 * φ v.1 + φ m.2.2.2 * φ v.2 := by rw [H.mod, H.add, H.mul, H.mul]
    exact Prod.ext (Vl.inj H t1 ⟨⟨Int.emod_nonneg _ (by omega), Int.emod_lt_of_pos _ hp⟩, g1⟩) (Vl.inj H t2 ⟨⟨Int.emod_nonneg _ (by omega), Int.emod_lt_of_pos _ hp⟩, g2⟩)
  rw [e1, ← c1, ← c2, Bool.eq_iff_iff, beq_iff_eq]
  unfold hitN natM
  rw [Bool.and_eq_true]
  generalize (m.1.toNat * v.1.toNat + m.2.1.toNat * v.2.toNat) % p.toNat = r
  generalize (m.2.2.1.toNat * v.1.toNat + m.2.2.2.toNat * v.2.toNat) % p.toNat = s
  obtain ⟨w1, w2⟩ := w
  dsimp only at hw ⊢
  constructor
  · rintro ⟨g1, g2⟩
    have g1 := Nat.eq_of_beq_eq_true g1
    have g2 := Nat.eq_of_beq_eq_true g2
    exact Prod.ext (by dsimp only; omega) (by dsimp only; omega)
  · intro g
    have g1 := congrArg Prod.fst g
    have g2 := congrArg Prod.snd g
    dsimp only at g1 g2
    exact ⟨by rw [show r = w1.toNat by omega]; exact Nat.beq_refl _, by rw [show s = w2.toNat by omega]; exact Nat.beq_refl _⟩
theorem pair_two {p c : Int} (hf : i_IsField p = true) (hc : isC c) (ht : twoB p c = true) {K : List P4o} {U V : List P6o} (F : Facts p c K U V) {a b d e : P2} (ha : i_isPoint p a = true) (hb : i_isPoint p b = true) (hd : i_isPoint p d = true) (he : i_isPoint p e = true)
    (hq : i_quadrance p c a b = i_quadrance p c d e) (hn : i_quadrance p c a b ≠ 0) : (K.filter fun m => i_turned p m (i_less p b a) == i_less p e d).length = 2 := by
  obtain ⟨Q, _, φ, H⟩ := hom_of hf
  obtain ⟨a1, a2⟩ := isPoint_num ha; obtain ⟨b1, b2⟩ := isPoint_num hb; obtain ⟨d1, d2⟩ := isPoint_num hd; obtain ⟨e1, e2⟩ := isPoint_num he
  have A1 := Vl.of (φ := φ) a1; have A2 := Vl.of (φ := φ) a2; have B1 := Vl.of (φ := φ) b1; have B2 := Vl.of (φ := φ) b2
  have D1 := Vl.of (φ := φ) d1; have D2 := Vl.of (φ := φ) d2; have E1 := Vl.of (φ := φ) e1; have E2 := Vl.of (φ := φ) e2
  have v1 := vl_less1 H hf B1 A1; have v2 := vl_less2 H hf B2 A2
  have w1 := vl_less1 H hf E1 D1; have w2 := vl_less2 H hf E2 D2
  have q1 := (vl_quadrance H hf hc A1 A2 B1 B2).conv (prodK_neg hc _ _ _ _)
  have q2 := (vl_quadrance H hf hc D1 D2 E1 E2).conv (prodK_neg hc _ _ _ _)
  generalize i_less p b a = v at *
  generalize i_less p e d = w at *
  have n1 := quadN_vl H hc v1.1 v2.1
  have n2 := quadN_vl H hc w1.1 w2.1
  rw [v1.2, v2.2] at n1
  rw [w1.2, w2.2] at n2
  have m1 := Vl.inj H q1 n1
  have m2 := Vl.inj H q2 n2
  unfold twoB at ht
  rw [F.k] at ht
  have ht : pairN p.toNat c.toNat ((unflat4 K.length (flat4 K)).map natM) = true := ht
  rw [unflat4_flat4] at ht
  have g := List.all_eq_true.1 (List.all_eq_true.1 ht v.1.toNat (List.mem_range.2 (by have := v1.1; omega))) v.2.toNat (List.mem_range.2 (by have := v2.1; omega))
  rw [Bool.or_eq_true] at g
  rcases g with g | g
  · have g := Nat.eq_of_beq_eq_true g
    exact absurd (by rw [m1, g]; rfl) hn
  have g := List.all_eq_true.1 (List.all_eq_true.1 g w.1.toNat (List.mem_range.2 (by have := w1.1; omega))) w.2.toNat (List.mem_range.2 (by have := w2.1; omega))
  rw [show quadN p.toNat c.toNat v.1.toNat v.2.toNat = quadN p.toNat c.toNat w.1.toNat w.2.toNat by omega, Nat.beq_refl, Bool.not_true, Bool.false_or] at g
  have g := Nat.eq_of_beq_eq_true g
  rw [List.filter_map, List.length_map] at g
  rw [← g]
  congr 1
  refine List.filter_congr fun m hm => ?_
  exact (hitN_is hf (F.km m hm).1 ⟨v1.1, v2.1⟩ ⟨w1.1, w2.1⟩).symm

end Go.Proofs.YtoblkbpejfojjaaGreatDoor
