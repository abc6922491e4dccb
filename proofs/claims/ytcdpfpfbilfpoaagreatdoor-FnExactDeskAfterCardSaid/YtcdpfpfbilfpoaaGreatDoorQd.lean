import Derived.Test.YtcdpfpfbilfpoaaGreatDoorQc
set_option linter.unusedSimpArgs false
set_option linter.unusedVariables false
namespace Go.Proofs.YtcdpfpfbilfpoaaGreatDoor
open Go.RowKit
def quadN (p c x y : Nat) : Nat := match c with
 | 0 => (x * x + y * y) % p
 | 1 => (x * x + (p - 1) * (y * y)) % p
 | _ => (x * y + y * x) % p
theorem cast_lin {p a b x y : Int} (hp : 0 ≤ p) (ha : 0 ≤ a) (hb : 0 ≤ b) (hx : 0 ≤ x) (hy : 0 ≤ y) : (((a.toNat * x.toNat + b.toNat * y.toNat) % p.toNat : Nat) : Int) = (a * x + b * y) % p := by
 obtain ⟨p, rfl⟩ := Int.eq_ofNat_of_zero_le hp
 obtain ⟨a, rfl⟩ := Int.eq_ofNat_of_zero_le ha
 obtain ⟨b, rfl⟩ := Int.eq_ofNat_of_zero_le hb
 obtain ⟨x, rfl⟩ := Int.eq_ofNat_of_zero_le hx
 obtain ⟨y, rfl⟩ := Int.eq_ofNat_of_zero_le hy
 simp only [Int.toNat_natCast]
 rfl
theorem cast_one {p x y : Int} (hp : 1 ≤ p) (hx : 0 ≤ x) (hy : 0 ≤ y) : (((x.toNat * x.toNat + (p.toNat - 1) * (y.toNat * y.toNat)) % p.toNat : Nat) : Int) = (x * x + (p - 1) * (y * y)) % p := by
 obtain ⟨q, hq⟩ := Int.eq_ofNat_of_zero_le (show 0 ≤ p - 1 by omega)
 obtain rfl : p = (q : Int) + 1 := by omega
 obtain ⟨x, rfl⟩ := Int.eq_ofNat_of_zero_le hx
 obtain ⟨y, rfl⟩ := Int.eq_ofNat_of_zero_le hy
 rw [show ((q : Int) + 1).toNat = q + 1 by omega, show (q : Int) + 1 - 1 = (q : Int) by omega, Nat.add_sub_cancel]
 simp only [Int.toNat_natCast]
 rfl
theorem quadN_vl {p c : Int} {K : Type} [Lean.Grind.Field K] {φ : Int → K} (H : Hom p K φ) (hc : isC c) {x y : Int} (hx : 0 ≤ x ∧ x < p) (hy : 0 ≤ y ∧ y < p) : Vl p φ ((quadN p.toNat c.toNat x.toNat y.toNat : Nat) : Int) (prodK c (φ x) (φ y) (φ x) (φ y)) := by
 have hp : 0 < p := by omega
 rcases hc with rfl | rfl | rfl
 ·show Vl p φ (((x.toNat * x.toNat + y.toNat * y.toNat) % p.toNat : Nat) : Int) _
  rw [cast_lin (by omega) hx.1 hy.1 hx.1 hy.1]
  exact ⟨⟨Int.emod_nonneg _ (by omega), Int.emod_lt_of_pos _ hp⟩, by rw [H.mod, H.add, H.mul, H.mul]; rfl⟩
 ·show Vl p φ (((x.toNat * x.toNat + (p.toNat - 1) * (y.toNat * y.toNat)) % p.toNat : Nat) : Int) _
  rw [cast_one (by omega) hx.1 hy.1]
  refine ⟨⟨Int.emod_nonneg _ (by omega), Int.emod_lt_of_pos _ hp⟩, ?_⟩
  rw [H.mod, H.add, H.mul, H.mul, H.mul, H.sub, H.self, H.one]
  show _ = φ x * φ x - φ y * φ y
  grind
 ·show Vl p φ (((x.toNat * y.toNat + y.toNat * x.toNat) % p.toNat : Nat) : Int) _
  rw [cast_lin (by omega) hx.1 hy.1 hy.1 hx.1]
  exact ⟨⟨Int.emod_nonneg _ (by omega), Int.emod_lt_of_pos _ hp⟩, by rw [H.mod, H.add, H.mul, H.mul]; rfl⟩
def tabN (p c : Nat) : List Nat := (List.range p).flatMap fun x => (List.range p).map fun y => quadN p c x y
def cntL (q : Nat) : List Nat → Nat
 | [] => 0
 | x :: l => bif Nat.beq x q then Nat.succ (cntL q l) else cntL q l
def cntOK (p c : Nat) : Bool := (List.range p).all fun q => Nat.ble (cntL q (tabN p c)) 99
theorem cnt_chk : (([3, 5, 7, 11, 13, 17, 19, 23, 29, 31] : List Nat).all fun p => ([0, 1, 2] : List Nat).all fun c => cntOK p c) = true := by decide +kernel
theorem cntL_is (q : Nat) (f : P2 → Nat) (g : P2 → Bool) : ∀ L : List P2, (∀ z ∈ L, g z = Nat.beq (f z) q) → (L.filter g).length = cntL q (L.map f)
 | [], _ => rfl
 | z :: L, h => by
  have ih := cntL_is q f g L fun x hx => h x (by simp [hx])
  have hz := h z (by simp)
  rw [List.map_cons, cntL]
  cases hb : Nat.beq (f z) q
  ·rw [List.filter_cons_of_neg (by rw [hz, hb]; simp), ih]; rfl
  ·rw [List.filter_cons_of_pos (by rw [hz, hb]), List.length_cons, ih]; rfl
theorem tab_pts {p : Int} (c : Nat) : (pts p).map (fun z => quadN p.toNat c z.1.toNat z.2.toNat) = tabN p.toNat c := by
 unfold pts tabN
 rw [List.map_flatMap]
 congr 1
 funext x
 rw [List.map_map]
 rfl
theorem count_le {p c : Int} (hf : i_IsField p = true) (hc : isC c) {q : Int} (hq : 0 ≤ q ∧ q < p) : (s_l02At p c (0, 0) q).1 ≤ 99 := by
 obtain ⟨K, _, φ, H⟩ := hom_of hf
 have z0 : i_isPoint p (0, 0) = true := by
  have := i_IsField_ok hf
  unfold Pr at this
  simp [i_isPoint, i_areNumbers, i_isNumber]; omega
 have e := cntL_is q.toNat (fun z => quadN p.toNat c.toNat z.1.toNat z.2.toNat) (fun zz => s_l02Quadrance p c (0, 0) zz == q) (pts p) fun z hz => by
  obtain ⟨h1, h2⟩ := mem_pts.1 hz
  have v := quadN_vl (φ := φ) H hc h1 h2
  obtain ⟨o1, o2⟩ := isPoint_num z0
  have w := vl_quadrance H hf hc (Vl.of (φ := φ) o1) (Vl.of (φ := φ) o2) (Vl.of (φ := φ) h1) (Vl.of (φ := φ) h2)
  rw [quad_same hf hc z0 (pt_of_mem hz)]
  have : i_quadrance p c (0, 0) z = ((quadN p.toNat c.toNat z.1.toNat z.2.toNat : Nat) : Int) := by
   refine Vl.inj H (w.conv ?_) v
   have h0 : φ 0 = 0 := H.zero
   rw [h0]
   rcases hc with rfl | rfl | rfl <;> simp only [prodK] <;> grind
  rw [this, Bool.eq_iff_iff, beq_iff_eq]
  constructor
  ·intro h; rw [show quadN p.toNat c.toNat z.1.toNat z.2.toNat = q.toNat by omega]; exact Nat.beq_refl _
  ·intro h; have := Nat.eq_of_beq_eq_true h; omega
 have hm : p.toNat ∈ ([3, 5, 7, 11, 13, 17, 19, 23, 29, 31] : List Nat) := by
  have hm := field_mem hf
  simp only [List.mem_cons, List.not_mem_nil, or_false] at hm ⊢
  omega
 have hcm : c.toNat ∈ ([0, 1, 2] : List Nat) := by rcases hc with rfl | rfl | rfl <;> simp
 have hk := List.all_eq_true.1 (List.all_eq_true.1 (List.all_eq_true.1 cnt_chk _ hm) _ hcm) q.toNat (List.mem_range.2 (by omega))
 show ((pts p).filter fun zz => s_l02Quadrance p c (0, 0) zz == q).length ≤ 99
 rw [e, tab_pts]
 exact Nat.le_of_ble_eq_true hk
theorem nat_num {n : Nat} (h : n ≤ 99) : num1 ((n : Nat) : Int) = true := by rw [num1_iff]; omega
theorem cmd_count {p c : Int} (hf : i_IsField p = true) (hc : isC c) (q : Int) : i_CountAt p c q = s_CountAt p c q ∧ num1 (s_CountAt p c q).1 = true := by
 have z0 : i_isPoint p (0, 0) = true := by
  have := i_IsField_ok hf
  unfold Pr at this
  simp [i_isPoint, i_areNumbers, i_isNumber]; omega
 have hn : s_l01Numbers p [q] = i_asked p true (i_areNumbers p [q]) := numbers_eq p true [q]
 have e1 : i_CountAt_c1 c p q = i_areNumbers p [q] := by unfold i_CountAt_c1; simp [colour_of hc, i_areNumbers]
 have hcc : s_l02Colour c = true := by rw [colour_eq]; exact colour_of hc
 unfold i_CountAt s_CountAt
 rw [hn, e1, hcc, (at_same hf hc z0 q).1]
 cases h : i_areNumbers p [q]
 ·rw [ask2 hf rfl]
  exact ⟨rfl, rfl⟩
 ·rw [ask1 hf rfl]
  have hq : 0 ≤ q ∧ q < p := by simpa [i_areNumbers, isNumber_iff] using h
  exact ⟨rfl, nat_num (count_le hf hc hq)⟩
theorem cmd_units {p : Int} (hf : i_IsField p = true) : i_UnitCounts p = s_UnitCounts p ∧ numB (s_UnitCounts p).1.1 (s_UnitCounts p).1.2 = true := by
 refine ⟨UnitCounts_same p, ?_⟩
 have hf' : s_l01Field p = true := hf
 have h1 : (0 : Int) ≤ 1 ∧ 1 < p := by have hm := field_mem hf; simp at hm; omega
 unfold s_UnitCounts
 rw [hf', if_neg (by decide)]
 have a0 := nat_num (count_le hf isC0 h1); have a1 := nat_num (count_le hf isC1 h1); have a2 := nat_num (count_le hf isC2 h1)
 unfold numB
 simp [a0, a1, a2, lenB]

end Go.Proofs.YtcdpfpfbilfpoaaGreatDoor
