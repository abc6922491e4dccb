import Derived.Test.YtfclaacaphpoaaaQt
set_option linter.unusedSimpArgs false
set_option linter.unusedVariables false
namespace Go.Proofs.Ytfclaacaphpoaaa
open Go.RowKit
/-! Conics: the desk's and the specification's answers are the same; what a code of 0 says. -/
theorem PolarOf_same (p : Int) (k : P6) (a : P2) : i_PolarOf p k a = s_PolarOf p k a := by
  unfold i_PolarOf s_PolarOf i_PolarOf_c1
  rw [given_eq p true]
  refine ite_congr rfl (fun _ => rfl) fun h => ?_
  obtain ⟨hf, hb⟩ := asked_zero (by simpa using h)
  cases hk : i_isConic p k
  · rw [hk] at hb; cases hb
  · rw [hk] at hb
    rw [polar_same hf hk hb]
theorem conic_both {p : Int} {k : P6} {B : Bool} : (if i_isConic p k = true then B else false) = true → i_isConic p k = true ∧ B = true := by cases i_isConic p k <;> simp
theorem TangentOf_same (p : Int) (k : P6) (a : P2) : i_TangentOf p k a = s_TangentOf p k a := by
  unfold i_TangentOf s_TangentOf i_TangentOf_c1
  rw [given_eq p true]
  have hBk : (if i_isConic p k = true then i_isPoint p a else false) = true → i_isConic p k = true ∧ i_isPoint p a = true := conic_both
  generalize (if i_isConic p k = true then i_isPoint p a else false) = B at hBk ⊢
  by_cases h : i_asked p true B = 0
  · obtain ⟨hf, hb⟩ := asked_zero h
    obtain ⟨hk, hb⟩ := hBk hb
    rw [determinant_eq hf hk, onconic_eq hf hk hb, polar_same hf hk hb]
    by_cases hd : i_determinant p k = 0
    · simp [h, hd]
    · by_cases hv : s_l08Value p k a = 0
      · simp [h, hd, hv, tangent_ok hf hk hb hd hv]
      · simp [h, hd, hv]
  · simp [h]
theorem CentreOf_same (p : Int) (k : P6) : i_CentreOf p k = s_CentreOf p k := by
  unfold i_CentreOf s_CentreOf i_CentreOf_c1 V_i_CentreOf_0
  rw [coniccode_eq p true, kind_same]
  by_cases h : i_asked p true (i_isConic p k) = 0
  · obtain ⟨hf, hk⟩ := asked_zero h
    by_cases hd : i_conicKind p k = 0
    · simp [h, hd]
    · rw [centre_find hf hk hd]
      simp [h, hd]
  · simp [h]
theorem KindOf_same (p : Int) (k : P6) : i_KindOf p k = s_KindOf p k := by
  unfold i_KindOf s_KindOf i_KindOf_c1
  rw [coniccode_eq p true, kind_same]
theorem DeterminantOf_same (p : Int) (k : P6) : i_DeterminantOf p k = s_DeterminantOf p k := by
  unfold i_DeterminantOf s_DeterminantOf i_DeterminantOf_c1
  rw [coniccode_eq p true]
  by_cases h : i_asked p true (i_isConic p k) = 0
  · obtain ⟨hf, hk⟩ := asked_zero h
    rw [determinant_eq hf hk]
  · simp [h]
theorem PoleOf_same (p : Int) (k : P6) (l : P3) : i_PoleOf p k l = s_PoleOf p k l := by
  unfold i_PoleOf s_PoleOf i_PoleOf_c1 V_i_PoleOf_0 V_s_PoleOf_2 V_s_PoleOf_6 V_s_PoleOf_10 V_s_PoleOf_14
  rw [coniccode_eq p true, linecode p true]
  cases hf : i_IsField p
  · simp [i_asked, hf]
  · cases hk : i_isConic p k
    · simp [i_asked, hf]
    · cases hl : i_isLine p l
      · simp [i_asked, hf]
      · have h0 : i_asked p true true = 0 := by simp [i_asked, hf]
        have hfind : (pts p).findSome? (fun zz => if ((i_polarLine p k zz).2 && (i_polarLine p k zz).1 == l) = true then some (zz, (0 : Int)) else none) = (pts p).findSome? (fun zz => if ((s_l08Polar p k zz).2 && (s_l08Polar p k zz).1 == l) = true then some (zz, (0 : Int)) else none) := by
          have key : ∀ r : List P2, (∀ z ∈ r, i_isPoint p z = true) → r.findSome? (fun zz => if ((i_polarLine p k zz).2 && (i_polarLine p k zz).1 == l) = true then some (zz, (0 : Int)) else none) = r.findSome? (fun zz => if ((s_l08Polar p k zz).2 && (s_l08Polar p k zz).1 == l) = true then some (zz, (0 : Int)) else none) := by
            intro r
            induction r with
            | nil => intro _; rfl
            | cons z r ih =>
              intro hr
              rw [List.findSome?_cons, List.findSome?_cons, ih (fun w hw => hr w (List.mem_cons_of_mem _ hw)), polar_same hf hk (hr z List.mem_cons_self)]
          exact key _ fun z hz => isPoint_mem hz
        rw [determinant_eq hf hk, hfind]
        simp [h0]
theorem asked_of {p : Int} (hf : i_IsField p = true) : i_asked p true true = 0 := by simp [i_asked, hf]
theorem PolarOf_ok {p : Int} {k : P6} {a : P2} (hf : i_IsField p = true) (hk : i_isConic p k = true) (ha : i_isPoint p a = true) (h : (i_polarLine p k a).2 = true) : i_PolarOf p k a = ((i_polarLine p k a).1, 0) := by
  unfold i_PolarOf i_PolarOf_c1
  rw [if_pos hk, ha, asked_of hf, h]
  rfl
theorem PoleOf_ok {p : Int} {k : P6} {l : P3} (h : (i_PoleOf p k l).2 = 0) : i_PolarOf p k (i_PoleOf p k l).1 = (l, 0) := by
  unfold i_PoleOf i_PoleOf_c1 V_i_PoleOf_0 at h ⊢
  by_cases h1 : i_asked p true (if i_isConic p k = true then i_isLine p l else false) = 0
  · obtain ⟨hf, hb⟩ := asked_zero h1
    obtain ⟨hk, hl⟩ := conic_both hb
    rw [h1] at h ⊢
    rw [if_neg (by decide)] at h ⊢
    by_cases hd : (i_determinant p k == 0) = true
    · rw [if_pos hd] at h
      exact absurd h (show ¬ ((5 : Int) = 0) by decide)
    · rw [if_neg hd] at h ⊢
      cases hs : (pts p).findSome? (fun zz => if ((i_polarLine p k zz).2 && ((i_polarLine p k zz).1 == l)) = true then some (zz, (0 : Int)) else none) with
      | none =>
        rw [hs] at h
        exact absurd h (show ¬ ((4 : Int) = 0) by decide)
      | some r =>
        obtain ⟨z, hz, hq⟩ := List.exists_of_findSome?_eq_some hs
        split at hq
        · rename_i hc
          simp only [Option.some.injEq] at hq
          subst hq
          rw [Bool.and_eq_true, beq_iff_eq] at hc
          show i_PolarOf p k z = _
          rw [PolarOf_ok hf hk (isPoint_mem hz) hc.1, hc.2]
        · cases hq
  · rw [if_pos (by simpa using h1)] at h
    exact absurd h h1
theorem ConicPoints_ok {p : Int} {k : P6} (h : (i_ConicPoints p k).2 = 0) : i_IsField p = true ∧ i_isConic p k = true := by
  unfold i_ConicPoints i_ConicPoints_c1 at h
  by_cases h1 : i_asked p true (i_isConic p k) = 0
  · exact asked_zero h1
  · rw [if_pos (by simpa using h1)] at h
    exact absurd h h1
theorem ConicPoints_is {p : Int} {k : P6} (hf : i_IsField p = true) (hk : i_isConic p k = true) : i_ConicPoints p k = ((((pts p).filter fun a => i_isOnConic p a k).length, flat2 ((pts p).filter fun a => i_isOnConic p a k)), 0) := by
  unfold i_ConicPoints i_ConicPoints_c1
  rw [hk, asked_of hf]
  rfl
theorem KindOf_is {p : Int} {k : P6} (hf : i_IsField p = true) (hk : i_isConic p k = true) : i_KindOf p k = (i_conicKind p k, 0) := by
  unfold i_KindOf i_KindOf_c1
  rw [hk, asked_of hf]
  rfl
theorem DeterminantOf_is {p : Int} {k : P6} (hf : i_IsField p = true) (hk : i_isConic p k = true) : i_DeterminantOf p k = (i_determinant p k, 0) := by
  unfold i_DeterminantOf i_DeterminantOf_c1
  rw [hk, asked_of hf]
  rfl
/-- The centre: there is one if and only if the kind is not 0. -/
theorem CentreOf_is {p : Int} {k : P6} (hf : i_IsField p = true) (hk : i_isConic p k = true) : ((i_CentreOf p k).2 = 0 ↔ i_conicKind p k ≠ 0) ∧ ((i_CentreOf p k).2 = 0 → i_isPoint p (i_CentreOf p k).1 = true ∧ (i_polar p k (i_CentreOf p k).1).1 = 0 ∧ (i_polar p k (i_CentreOf p k).1).2.1 = 0) := by
  unfold i_CentreOf i_CentreOf_c1 V_i_CentreOf_0
  rw [hk, asked_of hf]
  rw [if_neg (by decide)]
  by_cases hd : i_conicKind p k = 0
  · rw [if_pos (by simpa using hd)]
    exact ⟨⟨fun h => absurd h (show ¬ ((5 : Int) = 0) by decide), fun h => absurd hd h⟩, fun h => absurd h (show ¬ ((5 : Int) = 0) by decide)⟩
  · rw [if_neg (by simpa using hd)]
    have hs := centre_find hf hk hd
    obtain ⟨z, hz, hq⟩ := List.exists_of_findSome?_eq_some hs
    rw [hs]
    split at hq
    · rename_i hc
      simp only [Option.some.injEq, Prod.mk.injEq, and_true] at hq
      rw [Bool.and_eq_true, beq_iff_eq, beq_iff_eq] at hc
      rw [← hq]
      exact ⟨⟨fun _ => hd, fun _ => rfl⟩, fun _ => ⟨isPoint_mem hz, hc.1, hc.2⟩⟩
    · cases hq
theorem TangentOf_ok {p : Int} {k : P6} {a : P2} (h : (i_TangentOf p k a).2 = 0) : i_IsField p = true ∧ i_isConic p k = true ∧ i_isPoint p a = true ∧ i_determinant p k ≠ 0 ∧ i_isOnConic p a k = true ∧ (i_polarLine p k a).2 = true ∧ (i_TangentOf p k a).1 = (i_polarLine p k a).1 := by
  unfold i_TangentOf i_TangentOf_c1 at h ⊢
  by_cases h1 : i_asked p true (if i_isConic p k = true then i_isPoint p a else false) = 0
  · obtain ⟨hf, hb⟩ := asked_zero h1
    obtain ⟨hk, ha⟩ := conic_both hb
    rw [h1] at h ⊢
    rw [if_neg (by decide)] at h ⊢
    by_cases hd : (i_determinant p k == 0) = true
    · rw [if_pos hd] at h
      exact absurd h (show ¬ ((5 : Int) = 0) by decide)
    · rw [if_neg hd] at h ⊢
      cases ho : i_isOnConic p a k
      · rw [ho] at h
        exact absurd h (show ¬ ((5 : Int) = 0) by decide)
      · cases hl : (i_polarLine p k a).2
        · rw [ho, hl] at h
          exact absurd h (show ¬ ((5 : Int) = 0) by decide)
        · exact ⟨hf, hk, ha, by simpa using hd, rfl, rfl, by simp⟩
  · rw [if_pos (by simpa using h1)] at h
    exact absurd h h1
theorem TangentOf_bad {p : Int} {k : P6} {a : P2} (h : (i_TangentOf p k a).2 ≠ 0) : (i_TangentOf p k a).1 = (0, 0, 0) := by
  unfold i_TangentOf at h ⊢
  repeat' split
  all_goals first | rfl | (simp_all)
section
variable {K : Type} [Lean.Grind.Field K] {p : Int} {φ : Int → K}
theorem sq_zero {s F : K} (hs : s ≠ 0) (h : F * F * s = 0) : F = 0 := by
  by_cases hF : F = 0
  · exact hF
  · exfalso
    apply hs
    exact mul_zero_of hF (mul_zero_of hF (by grind))
theorem tangent_alg {A B C D E F x y z t u v : K} (hd : 4 * A * C * F - A * E * E - B * B * F + B * D * E - C * D * D ≠ 0) (hu : u = 2 * A * x + B * y + D) (hv : v = B * x + 2 * C * y + E)
    (q1 : A * x * x + B * x * y + C * y * y + D * x + E * y + F = 0) (q2 : A * z * z + B * z * t + C * t * t + D * z + E * t + F = 0) (q3 : u * (z - x) + v * (t - y) = 0) : z = x ∧ t = y := by
  have e : A * v * v - B * u * v + C * u * u = -(4 * A * C * F - A * E * E - B * B * F + B * D * E - C * D * D) := by
    subst hu hv
    grind
  have q4 : A * (z - x) * (z - x) + B * (z - x) * (t - y) + C * (t - y) * (t - y) = 0 := by
    subst hu hv
    grind
  have hn : A * v * v - B * u * v + C * u * u ≠ 0 := by
    rw [e]
    intro h
    apply hd
    grind
  clear hd hu hv q1 q2 e
  have zz : ∀ d w : K, u * d + v * w = 0 → A * d * d + B * d * w + C * w * w = 0 → d = 0 ∧ w = 0 := by
    intro d w h3 h4
    clear q3 q4
    have hw : w = 0 := sq_zero hn (by grind)
    have hd : d = 0 := sq_zero hn (by grind)
    exact ⟨hd, hw⟩
  have r := zz (z - x) (t - y) q3 q4
  constructor
  · have := r.1; grind
  · have := r.2; grind
/-- A tangent has one point of the conic. -/
theorem ln_polar (H : Hom p K φ) (hf : i_IsField p = true) {k : P6} {a : P2} (hk : i_isConic p k = true) (ha : i_isPoint p a = true) (h : (i_polarLine p k a).2 = true) : Ln p φ (i_polarLine p k a).1 (2 * φ k.1 * φ a.1 + φ k.2.1 * φ a.2 + φ k.2.2.2.1) (φ k.2.1 * φ a.1 + 2 * φ k.2.2.1 * φ a.2 + φ k.2.2.2.2.1) (φ k.2.2.2.1 * φ a.1 + φ k.2.2.2.2.1 * φ a.2 + 2 * φ k.2.2.2.2.2) := by
  have hp := i_IsField_ok hf
  obtain ⟨k0, k1, k2, k3, k4, k5⟩ := isConic_num hk
  obtain ⟨a0, a1⟩ := isPoint_num ha
  have v3 := Vl.of (φ := φ) k3; have v4 := Vl.of (φ := φ) k4; have v5 := Vl.of (φ := φ) k5; have w0 := Vl.of (φ := φ) a0; have w1 := Vl.of (φ := φ) a1
  have p1 := vl_polar1 H hf hk ha
  have p2 := vl_polar2 H hf hk ha
  have p3 : Vl p φ (i_polar p k a).2.2 (φ k.2.2.2.1 * φ a.1 + φ k.2.2.2.2.1 * φ a.2 + φ 2 * φ k.2.2.2.2.2) := by
    unfold i_polar
    dsimp only
    (repeat' (first | assumption | exact Vl.rw hp (by assumption) | exact Rw.lit _ (by decide) | exact Rw.nlit _ (by decide) | with_reducible apply Vl.rest H hp | with_reducible apply Vl.smod H hp | with_reducible apply Vl.div H hf | with_reducible apply Vl.inv H hf | with_reducible apply Vl.sinvV H hf | with_reducible apply Vl.sinvR H hf | with_reducible apply Rw.tmod H hp | with_reducible apply Rw.mul H | with_reducible apply Rw.neg0 H | with_reducible apply Rw.sub H | with_reducible apply Rw.add H | with_reducible apply Vl.rw hp | decide))
  rw [H.two] at p3
  have key : ((i_polar p k a).1 ≠ 0 ∨ (i_polar p k a).2.1 ≠ 0) ∧ (i_polarLine p k a).1 = i_makeLine p (i_polar p k a).1 (i_polar p k a).2.1 (i_polar p k a).2.2 := by
    unfold i_polarLine at h ⊢
    by_cases h1 : (i_polar p k a).1 = 0
    · rw [if_pos (by simpa using h1)] at h ⊢
      by_cases h2 : (i_polar p k a).2.1 = 0
      · rw [if_pos (by simpa using h2)] at h
        cases h
      · rw [if_neg (by simpa using h2)]
        exact ⟨Or.inr h2, rfl⟩
    · rw [if_neg (by simpa using h1)]
      exact ⟨Or.inl h1, rfl⟩
  rw [key.2]
  refine ln_make H hf (Vl.rw hp p1) (Vl.rw hp p2) (Vl.rw hp p3) ?_
  rcases key.1 with h | h
  · exact Or.inl fun e => h ((Vl.zero_iff H p1).2 e)
  · exact Or.inr fun e => h ((Vl.zero_iff H p2).2 e)
theorem Ln.isLine {l : P3} {a b c : K} (h : Ln p φ l a b c) : i_isLine p l = true := by
  obtain ⟨t, _, h1, h2, h3, h4⟩ := h
  have n1 := h1.1; have n2 := h2.1; have n3 := h3.1
  unfold i_isLine
  have hn : i_areNumbers p [l.1, l.2.1, l.2.2] = true := by simp [i_areNumbers, isNumber_iff, n1, n2, n3]
  rw [hn]
  rcases h4 with h4 | ⟨h4, h5⟩
  · rw [h4]; rfl
  · rw [h4, h5]; rfl
theorem Ln.on (H : Hom p K φ) (hf : i_IsField p = true) {l : P3} {a b c : K} (h : Ln p φ l a b c) {z : P2} (hz : i_isPoint p z = true) : i_isOn p z l = true ↔ a * φ z.1 + b * φ z.2 + c = 0 := by
  have hp := i_IsField_ok hf
  obtain ⟨t, ht, h1, h2, h3, _⟩ := h
  obtain ⟨z0, z1⟩ := isPoint_num hz
  have w0 := Vl.of (φ := φ) z0; have w1 := Vl.of (φ := φ) z1
  have r : Rw φ (wrap64 (wrap64 (wrap64 (l.1 * z.1) + wrap64 (l.2.1 * z.2)) + l.2.2)) (a * t * φ z.1 + b * t * φ z.2 + c * t) (30 * 30 + 30 * 30 + 30) := by (repeat' (first | assumption | exact Vl.rw hp (by assumption) | exact Rw.lit _ (by decide) | exact Rw.nlit _ (by decide) | with_reducible apply Vl.rest H hp | with_reducible apply Vl.smod H hp | with_reducible apply Vl.div H hf | with_reducible apply Vl.inv H hf | with_reducible apply Vl.sinvV H hf | with_reducible apply Vl.sinvR H hf | with_reducible apply Rw.tmod H hp | with_reducible apply Rw.mul H | with_reducible apply Rw.neg0 H | with_reducible apply Rw.sub H | with_reducible apply Rw.add H | with_reducible apply Vl.rw hp | decide))
  have e : i_isOn p z l = ((wrap64 (wrap64 (wrap64 (l.1 * z.1) + wrap64 (l.2.1 * z.2)) + l.2.2)) % p == 0) := by
    unfold i_isOn
    exact tmod0 _ _
  have v : Vl p φ ((wrap64 (wrap64 (wrap64 (l.1 * z.1) + wrap64 (l.2.1 * z.2)) + l.2.2)) % p) (a * t * φ z.1 + b * t * φ z.2 + c * t) := ⟨rest_b hp _, by rw [H.mod]; exact r.2⟩
  rw [e, beq_iff_eq, Vl.zero_iff H v]
  clear v e r w0 w1 h1 h2 h3
  generalize φ z.1 = X at *
  generalize φ z.2 = Y at *
  constructor
  · intro h
    exact mul_zero_of ht (by grind)
  · intro h
    grind
theorem tangent_only (H : Hom p K φ) (hf : i_IsField p = true) {k : P6} {a : P2} (hk : i_isConic p k = true) (ha : i_isPoint p a = true) (hd : i_determinant p k ≠ 0) (ho : i_isOnConic p a k = true) (h : (i_polarLine p k a).2 = true) {z : P2} (hz : i_isPoint p z = true) (hoz : i_isOnConic p z k = true) : i_isOn p z (i_polarLine p k a).1 = true ↔ z = a := by
  rw [(ln_polar H hf hk ha h).on H hf hz]
  have q1 := (oncon_iff H hf hk ha).1 ho
  have q2 := (oncon_iff H hf hk hz).1 hoz
  have hd' := cdet_ne H hf hk hd
  have za := isPoint_num hz
  have aa := isPoint_num ha
  constructor
  · intro q3
    have r := tangent_alg (u := 2 * φ k.1 * φ a.1 + φ k.2.1 * φ a.2 + φ k.2.2.2.1) (v := φ k.2.1 * φ a.1 + 2 * φ k.2.2.1 * φ a.2 + φ k.2.2.2.2.1) hd' rfl rfl q1 q2 (by
      generalize φ z.1 = Z at *; generalize φ z.2 = T at *; generalize φ a.1 = X at *; generalize φ a.2 = Y at *
      generalize φ k.1 = A at *; generalize φ k.2.1 = B at *; generalize φ k.2.2.1 = C at *; generalize φ k.2.2.2.1 = D at *; generalize φ k.2.2.2.2.1 = E at *; generalize φ k.2.2.2.2.2 = F at *
      clear hd' q2 hd ho hoz h
      grind)
    exact pair_eq (phi_inj H za.1 aa.1 r.1) (phi_inj H za.2 aa.2 r.2)
  · rintro rfl
    generalize φ z.1 = Z at *; generalize φ z.2 = T at *
    generalize φ k.1 = A at *; generalize φ k.2.1 = B at *; generalize φ k.2.2.1 = C at *; generalize φ k.2.2.2.1 = D at *; generalize φ k.2.2.2.2.1 = E at *; generalize φ k.2.2.2.2.2 = F at *
    clear hd' hd ho hoz h q1
    grind
end
theorem pts_nodup (p : Int) : (pts p).Nodup := by
  unfold pts List.Nodup
  rw [List.pairwise_flatMap]
  refine ⟨fun x _ => ?_, ?_⟩
  · rw [List.pairwise_map]
    refine List.Pairwise.imp (fun {a b} hab e => hab ?_) (List.nodup_range (n := p.toNat))
    simp only [Prod.mk.injEq] at e
    omega
  · refine List.Pairwise.imp (fun {a b} hab => ?_) (List.nodup_range (n := p.toNat))
    intro z hz w hw e
    subst e
    obtain ⟨c, _, rfl⟩ := List.mem_map.1 hz
    obtain ⟨d, _, he⟩ := List.mem_map.1 hw
    simp only [Prod.mk.injEq] at he
    exact hab (by omega)
theorem pts_one {p : Int} {a : P2} (ha : a ∈ pts p) {P Q : P2 → Bool} (h : ∀ z ∈ pts p, (P z && Q z) = true ↔ z = a) : (((pts p).filter P).filter Q).length = 1 := by
  rw [List.filter_filter, ← List.countP_eq_length_filter]
  have e : (pts p).countP (fun z => Q z && P z) = (pts p).count a := by
    unfold List.count
    refine List.countP_congr fun z hz => ?_
    have := h z hz
    rw [Bool.and_comm] at this
    rw [beq_iff_eq]
    exact this
  rw [e, (pts_nodup p).count, if_pos ha]
theorem tangent_one {p : Int} {k : P6} {a : P2} (hf : i_IsField p = true) (hk : i_isConic p k = true) (ha : i_isPoint p a = true) (hd : i_determinant p k ≠ 0) (ho : i_isOnConic p a k = true) (h : (i_polarLine p k a).2 = true) : (((pts p).filter fun z => i_isOnConic p z k).filter fun z => i_isOn p z (i_polarLine p k a).1).length = 1 := by
  obtain ⟨K, _, φ, H⟩ := hom_of hf
  refine pts_one (mem_pts.2 (isPoint_num ha)) fun z hz => ?_
  rw [Bool.and_eq_true]
  constructor
  · intro ⟨h1, h2⟩
    exact (tangent_only H hf hk ha hd ho h (isPoint_mem hz) h1).1 h2
  · rintro rfl
    exact ⟨ho, (tangent_only H hf hk ha hd ho h ha ho).2 rfl⟩
theorem polar_isLine {p : Int} {k : P6} {a : P2} (hf : i_IsField p = true) (hk : i_isConic p k = true) (ha : i_isPoint p a = true) (h : (i_polarLine p k a).2 = true) : i_isLine p (i_polarLine p k a).1 = true := by
  obtain ⟨K, _, φ, H⟩ := hom_of hf
  exact (ln_polar H hf hk ha h).isLine
theorem IsOnLine_is {p : Int} {z : P2} {l : P3} (hf : i_IsField p = true) (hz : i_isPoint p z = true) (hl : i_isLine p l = true) : i_IsOnLine p z l = (i_isOn p z l, 0) := by
  unfold i_IsOnLine i_IsOnLine_c1
  rw [hz, hl, if_pos rfl, asked_of hf]
  rfl
theorem conic_count2 {p : Int} {k : P6} (hf : i_IsField p = true) (hk : i_isConic p k = true) (hd : i_determinant p k ≠ 0) : ((((pts p).filter fun a => i_isOnConic p a k).length : Nat) : Int) = p - i_conicKind p k := by
  obtain ⟨K, _, φ, H⟩ := hom_of hf
  exact conic_len H hf hk hd
theorem other_has {p : Int} {k : P6} {c : P2} (hf : i_IsField p = true) (hk : i_isConic p k = true) (hc : i_isPoint p c = true) (c1 : (i_polar p k c).1 = 0) (c2 : (i_polar p k c).2.1 = 0) {i : Nat} (hi : i < ((pts p).filter fun a => i_isOnConic p a k).length) :
    l_hasPoint9 ((pts p).filter fun a => i_isOnConic p a k).length (flat2 ((pts p).filter fun a => i_isOnConic p a k)) ((wI (wI (wI (2 * c.1) + p) - (flat2 ((pts p).filter fun a => i_isOnConic p a k)).getD (i * 2 + 0) 0)).tmod p, (wI (wI (wI (2 * c.2) + p) - (flat2 ((pts p).filter fun a => i_isOnConic p a k)).getD (i * 2 + 1) 0)).tmod p) = true := by
  obtain ⟨K, _, φ, H⟩ := hom_of hf
  have hg := R2_flat ((pts p).filter fun a => i_isOnConic p a k) i
  rw [List.getD_eq_getElem?_getD, List.getElem?_eq_getElem hi] at hg
  have hz := List.getElem_mem hi
  simp only [Option.getD_some] at hg
  generalize ((pts p).filter fun a => i_isOnConic p a k)[i] = z at hg hz
  rw [List.mem_filter] at hz
  have g1 : (flat2 ((pts p).filter fun a => i_isOnConic p a k)).getD (i * 2 + 0) 0 = z.1 := congrArg Prod.fst hg
  have g2 : (flat2 ((pts p).filter fun a => i_isOnConic p a k)).getD (i * 2 + 1) 0 = z.2 := congrArg Prod.snd hg
  rw [g1, g2]
  obtain ⟨w, hw, hwp, hwo⟩ := other_on H hf hk hc (isPoint_mem hz.1) c1 c2 hz.2
  rw [← hw]
  unfold l_hasPoint9
  rw [rows2_flat2, List.any_eq_true]
  exact ⟨w, List.mem_filter.2 ⟨hwp, hwo⟩, by simp⟩
/-- A walk that counts. -/
theorem walk_count {L : Nat → Int → Int → Option Bool} {n : Nat} {q : Nat → Bool} {T : Int} (hn : n ≤ 100000) (hL : ∀ (f : Nat) (c : Int) (k : Nat), k < n → 0 ≤ c → c ≤ k → L (f + 1) c (k : Int) = if q k = true then L f (wI (c + 1)) (wI ((k : Int) + 1)) else L f c (wI ((k : Int) + 1))) (hE : ∀ f : Nat, L (f + 1) T (n : Int) = some true) :
    ∀ (m k F : Nat) (c : Int), k + m = n → m < F → 0 ≤ c → c ≤ k → c + (((List.range' k m).filter q).length : Nat) = T → L F c (k : Int) = some true
  | m, k, 0, c, _, h, _, _, _ => absurd h (Nat.not_lt_zero m)
  | 0, k, F + 1, c, h, _, _, _, hT => by
    obtain rfl : k = n := by omega
    have : c = T := by simpa using hT
    rw [this]
    exact hE F
  | m + 1, k, F + 1, c, h, hF, h0, h1, hT => by
    rw [hL F c k (by omega) h0 h1, wrap_add1 (n := n) (by omega) (by omega)]
    rw [List.range'_succ, List.filter_cons] at hT
    cases hq : q k
    · rw [if_neg (by simp)]
      rw [hq, if_neg (by simp)] at hT
      exact walk_count hn hL hE m (k + 1) F c (by omega) (by omega) h0 (by omega) hT
    · rw [if_pos rfl, wI_eq, w64 (by omega)]
      rw [hq, if_pos rfl, List.length_cons] at hT
      exact walk_count hn hL hE m (k + 1) F (c + 1) (by omega) (by omega) (by omega) (by omega) (by omega)

end Go.Proofs.Ytfclaacaphpoaaa
