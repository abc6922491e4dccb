import Derived.Test.YtjdpbaefonekmaaQb
import Derived.Test.YtjdpbaefonekmaaFb
import Derived.Test.YtjdpbaefonekmaaFc
set_option linter.unusedSimpArgs false
set_option linter.unusedVariables false
namespace Go.Proofs.Ytjdpbaefonekmaa
open Go.RowKit
/-! Spread polynomials. -/
def vn (p s : Int) : Nat → Int × Int
  | 0 => (0, s)
  | k + 1 => ((vn p s k).2, ((2 * (1 - 2 * s)) * (vn p s k).2 - (vn p s k).1 + 2 * s) % p)
def vv (p s : Int) (k : Nat) : Int := (vn p s k).1
theorem vv_zero (p s : Int) : vv p s 0 = 0 := rfl
theorem vv_one (p s : Int) : vv p s 1 = s := rfl
theorem vv_two (p s : Int) (k : Nat) : vv p s (k + 2) = ((2 * (1 - 2 * s)) * vv p s (k + 1) - vv p s k + 2 * s) % p := rfl
theorem vv_b {p s : Int} (hs : 0 ≤ s ∧ s < p) : ∀ k, (0 ≤ vv p s k ∧ vv p s k < p) ∧ (0 ≤ vv p s (k + 1) ∧ vv p s (k + 1) < p)
  | 0 => ⟨by rw [vv_zero]; omega, hs⟩
  | k + 1 => ⟨(vv_b hs k).2, by
    rw [vv_two]
    exact ⟨Int.emod_nonneg _ (by omega), Int.emod_lt_of_pos _ (by omega)⟩⟩
theorem mulb {a b : Int} (ha : -1000 ≤ a ∧ a ≤ 1000) (hb : 0 ≤ b ∧ b ≤ 31) : -31000 ≤ a * b ∧ a * b ≤ 31000 := by
  have h1 := Int.mul_le_mul_of_nonneg_right ha.1 hb.1
  have h2 := Int.mul_le_mul_of_nonneg_right ha.2 hb.1
  omega
theorem step_i {p s a b : Int} (hp : prB p = true) (hs : 0 ≤ s ∧ s < p) (ha : 0 ≤ a ∧ a < p) (hb : 0 ≤ b ∧ b < p) : i_rest p (wI ((wI ((wI ((wI (2 * (wI (1 - (wI (2 * s)))))) * b)) - a)) + (wI (2 * s)))) = ((2 * (1 - 2 * s)) * b - a + 2 * s) % p := by
  have hP := prB_Pr hp
  unfold Pr at hP
  have hm := mulb (a := 2 * (1 - 2 * s)) (b := b) (by omega) (by omega)
  unfold i_rest
  simp only [wI_eq]
  rw [w64 (n := 2 * s) (by omega), w64 (n := 1 - 2 * s) (by omega), w64 (n := 2 * (1 - 2 * s)) (by omega), w64 (n := 2 * (1 - 2 * s) * b) (by omega), w64 (n := 2 * (1 - 2 * s) * b - a) (by omega), w64 (n := 2 * (1 - 2 * s) * b - a + 2 * s) (by omega)]
theorem step_s {p s a b : Int} (hp : prB p = true) (hs : 0 ≤ s ∧ s < p) (ha : 0 ≤ a ∧ a < p) (hb : 0 ≤ b ∧ b < p) : s_l01Mod (wI ((wI ((wI (((wI (2 * (wI (1 - (wI (2 * s)))))).tmod p) * b)) - a)) + (wI (2 * s)))) p = ((2 * (1 - 2 * s)) * b - a + 2 * s) % p := by
  have hP := prB_Pr hp
  unfold Pr at hP
  have ht := tmod_bd (2 * (1 - 2 * s)) p hP.1
  have hm := mulb (a := (2 * (1 - 2 * s)).tmod p) (b := b) (by omega) (by omega)
  have he := Int.tmod_add_mul_tdiv (2 * (1 - 2 * s)) p
  unfold s_l01Mod
  simp only [wI_eq]
  rw [w64 (n := 2 * s) (by omega), w64 (n := 1 - 2 * s) (by omega), w64 (n := 2 * (1 - 2 * s)) (by omega), w64 (n := (2 * (1 - 2 * s)).tmod p * b) (by omega), w64 (n := (2 * (1 - 2 * s)).tmod p * b - a) (by omega), w64 (n := (2 * (1 - 2 * s)).tmod p * b - a + 2 * s) (by omega)]
  generalize (2 * (1 - 2 * s)).tmod p = t at *
  generalize (2 * (1 - 2 * s)).tdiv p = d at *
  rw [← he, show (t + p * d) * b - a + 2 * s = (t * b - a + 2 * s) + p * (d * b) by grind, Int.add_mul_emod_self_left]
theorem val_go {p s : Int} (hp : prB p = true) (hs : 0 ≤ s ∧ s < p) (n_ : Int) : ∀ (m k f : Nat), m < f → m ≤ 1000000 → L_s_l05Value_0 1000000 p n_ s f (m : Int) (vv p s k) (vv p s (k + 1)) = some (vv p s (k + m))
  | m, k, 0, h, _ => absurd h (Nat.not_lt_zero m)
  | 0, k, f + 1, _, _ => by
    show B_s_l05Value_0 p n_ s (L_s_l05Value_0 1000000 p n_ s f) ((0 : Nat) : Int) (vv p s k) (vv p s (k + 1)) = _
    unfold B_s_l05Value_0
    rw [if_neg (by decide)]
    rfl
  | m + 1, k, f + 1, h, hm => by
    show B_s_l05Value_0 p n_ s (L_s_l05Value_0 1000000 p n_ s f) ((m + 1 : Nat) : Int) (vv p s k) (vv p s (k + 1)) = _
    unfold B_s_l05Value_0
    have e : wI (((m + 1 : Nat) : Int) - 1) = (m : Int) := by rw [wI_eq, w64 (by omega)]; omega
    rw [if_pos (by rw [decide_eq_true_eq]; omega), if_pos (prB_ne hp), if_pos hp, step_s hp hs (vv_b hs k).1 (vv_b hs k).2, e, show k + (m + 1) = k + 1 + m by omega]
    exact val_go hp hs n_ m (k + 1) f (by omega) (by omega)
theorem value_eq {p s n : Int} (hp : prB p = true) (hs : 0 ≤ s ∧ s < p) (hn : 0 ≤ n ∧ n ≤ 1000000) : Fo_s_l05Value 1000000 p n s = some (vv p s n.toNat) := by
  have h := val_go hp hs n n.toNat 0 (1000000 + 100) (by omega) (by omega)
  rw [Int.toNat_of_nonneg hn.1, Nat.zero_add n.toNat] at h
  exact h
theorem value_is {p s n : Int} (hp : prB p = true) (hs : 0 ≤ s ∧ s < p) (hn : 0 ≤ n ∧ n ≤ 1000000) : s_l05Value p n s = vv p s n.toNat := by
  unfold s_l05Value
  rw [value_eq hp hs hn]
  rfl
theorem some_of {α : Type} {o : Option α} {a : α} (h : o = some a) : o.isSome = true := by rw [h]; rfl
theorem idxN {a n : Nat} {x : Int} (hx : x = (a : Int)) (h : a < n) : (decide (0 ≤ x) && decide (x < ((n : Nat) : Int))) = true := idx_ok (by omega)
def vl (p s : Int) (m : Nat) : List Int := (List.range m).map (vv p s)
theorem vl_len (p s : Int) (m : Nat) : (vl p s m).length = m := by simp [vl]
theorem vl_at {p s : Int} {m k : Nat} (h : k < m) : (vl p s m).getD k 0 = vv p s k := by
  unfold vl
  rw [List.getD_eq_getElem?_getD, List.getElem?_map, List.getElem?_range h]
  rfl
theorem vl_add (p s : Int) (m : Nat) : vl p s m ++ [vv p s m] = vl p s (m + 1) := by
  unfold vl
  rw [List.range_succ, List.map_append]
  rfl
theorem ap_ok {m : Nat} (h : m < 1000000) : (Nat.ble 1 1 && Nat.ble (m + 1) 1000000 && Nat.beq 1 1) = true := by simp; omega
theorem spr_go {p s : Int} (hp : prB p = true) (hs : 0 ≤ s ∧ s < p) (N : Nat) (hN : N ≤ 100000) : ∀ (j k f : Nat), k + 1 + j = N → j < f → L_i_spreads_0 1000000 p (N : Int) s f (vl p s (k + 1 + 1)) (k + 1 + 1) ((k + 1 : Nat) : Int) = some (N + 1, vl p s (N + 1))
  | j, k, 0, _, h => absurd h (Nat.not_lt_zero j)
  | 0, k, f + 1, hk, _ => by
    obtain rfl : k + 1 = N := by omega
    show B_i_spreads_0 p ((k + 1 : Nat) : Int) s (L_i_spreads_0 1000000 p ((k + 1 : Nat) : Int) s f) (vl p s (k + 1 + 1)) (k + 1 + 1) ((k + 1 : Nat) : Int) = _
    unfold B_i_spreads_0
    rw [if_neg (by simp)]
  | j + 1, k, f + 1, hk, hf => by
    show B_i_spreads_0 p (N : Int) s (L_i_spreads_0 1000000 p (N : Int) s f) (vl p s (k + 1 + 1)) (k + 1 + 1) ((k + 1 : Nat) : Int) = _
    unfold B_i_spreads_0
    have e : wI (((k + 1 : Nat) : Int) - 1) = (k : Int) := by rw [wI_eq, w64 (by omega)]; omega
    rw [if_pos (by simp; omega), if_pos (cnd2 (by omega)), Int.toNat_natCast, if_pos (ble_ok (by rw [vl_len]; omega)), e, if_pos (cnd2 (by omega)), Int.toNat_natCast, if_pos (ble_ok (by rw [vl_len]; omega)), if_pos hp, if_pos (ap_ok (by omega)), Nat.mul_one, Nat.mul_one, vl_at (by omega), vl_at (by omega), step_i hp hs (vv_b hs k).1 (vv_b hs k).2, ← vv_two, vl_add, wrap_add1 (n := k + 2) (by omega) (by omega)]
    exact spr_go hp hs N hN j (k + 1) f (by omega) (by omega)
theorem spreads_eq {p s n : Int} (hp : prB p = true) (hs : 0 ≤ s ∧ s < p) (hn : 0 ≤ n ∧ n ≤ 100000) : ∃ M, n.toNat ≤ M ∧ Fo_i_spreads 1000000 p n s = some (M + 1, vl p s (M + 1)) := by
  unfold Fo_i_spreads G_i_spreads
  by_cases h : 1 ≤ n
  · refine ⟨n.toNat, Nat.le_refl _, ?_⟩
    have := spr_go hp hs n.toNat (by omega) (n.toNat - 1) 0 (1000000 + 100) (by omega) (by omega)
    rw [Int.toNat_of_nonneg hn.1] at this
    exact this
  · refine ⟨1, by omega, ?_⟩
    show B_i_spreads_0 p n s (L_i_spreads_0 1000000 p n s (1000000 + 99)) [0, s] 2 1 = _
    unfold B_i_spreads_0
    rw [if_neg (by simp; omega)]
    rfl
theorem spreadOf_eq {p s n : Int} (hp : prB p = true) (hs : 0 ≤ s ∧ s < p) (hn : 0 ≤ n ∧ n ≤ 100000) : Fo_i_spreadOf p n s = some (vv p s n.toNat) := by
  obtain ⟨M, hM, e⟩ := spreads_eq hp hs hn
  have e2 : i_spreads p n s = (M + 1, vl p s (M + 1)) := by unfold i_spreads; rw [e]; rfl
  unfold Fo_i_spreadOf
  rw [if_pos (some_of e), e2, if_pos (idxN (a := n.toNat) (by omega) (by omega)), if_pos (ble_ok (by rw [vl_len]; omega)), Nat.mul_one, vl_at (by omega)]
theorem spreadOf_is {p s n : Int} (hp : prB p = true) (hs : 0 ≤ s ∧ s < p) (hn : 0 ≤ n ∧ n ≤ 100000) : i_spreadOf p n s = vv p s n.toNat := by
  have e := tot_i_spreadOf p n s (some_of (spreadOf_eq hp hs hn))
  rw [spreadOf_eq hp hs hn] at e
  exact (Option.some.inj e).symm
def vtab (p : Int) (n : Nat) : List Int := (List.range p.toNat).map fun x : Nat => vv p (x : Int) n
theorem vtab_len (p : Int) (n : Nat) : (vtab p n).length = p.toNat := by simp [vtab]
theorem vtab_at {p : Int} {n k : Nat} (h : k < p.toNat) : (vtab p n).getD k 0 = vv p (k : Int) n := by
  unfold vtab
  rw [List.getD_eq_getElem?_getD, List.getElem?_map, List.getElem?_range h]
  rfl
theorem valuesOf_eq {p n : Int} (hp : prB p = true) (hn : 0 ≤ n ∧ n ≤ 100000) : Fo_i_valuesOf 1000000 p n = some (p.toNat, vtab p n.toNat) := by
  obtain ⟨h31, h0, hpn⟩ := prB_nat hp
  have hf : ((List.range p.toNat).flatMap fun k : Nat => [vv p (k : Int) n.toNat]) = vtab p n.toNat := flatMap_one _ _
  unfold Fo_i_valuesOf G_i_valuesOf
  refine gather (flat := id) flat1_app rfl (L := fun f l m i => L_i_valuesOf_0 1000000 p n f l m i) (n := p.toNat) (b := 1) (M := 0) (fun k : Nat => [vv p (k : Int) n.toNat]) (fun k _ => Nat.le_refl 1)
    (fun f k l m hk hm => ?_) (fun f _ => ?_) (by omega) (Nat.le_refl 0)
  · show B_i_valuesOf_0 p n (L_i_valuesOf_0 1000000 p n f) l m (k : Int) = _
    unfold B_i_valuesOf_0
    have hs : 0 ≤ (k : Int) ∧ (k : Int) < p := by omega
    rw [if_pos (cndp hk), if_pos (some_of (spreadOf_eq hp hs hn)), if_pos (ap_ok (by omega)), spreadOf_is hp hs hn, wrap_add1 hk (by omega)]
    rfl
  · show B_i_valuesOf_0 p n (L_i_valuesOf_0 1000000 p n f) _ _ ((p.toNat : Nat) : Int) = _
    unfold B_i_valuesOf_0
    rw [if_neg (by simp; omega), hf, vtab_len, Nat.zero_add]
    rfl
theorem valuesOf_is {p n : Int} (hp : prB p = true) (hn : 0 ≤ n ∧ n ≤ 100000) : i_valuesOf p n = (p.toNat, vtab p n.toNat) := by
  unfold i_valuesOf
  rw [valuesOf_eq hp hn]
  rfl
/-! Orders. -/
def ordF (p s : Int) : Nat → Int → Int → Nat → Option Nat
  | 0, _, _, _ => none
  | f + 1, a, b, k => if a = 0 then (if b = s then some k else none) else ordF p s f b (((2 * (1 - 2 * s)) * b - a + 2 * s) % p) (k + 1)
def ordN (p s : Int) : Nat := (ordF p s 40 (vv p s 1) (vv p s 2) 1).getD 0
theorem ordF_ok {p s : Int} : ∀ (f k r : Nat), ordF p s f (vv p s k) (vv p s (k + 1)) k = some r → k ≤ r ∧ (∀ j, k ≤ j → j < r → vv p s j ≠ 0) ∧ vv p s r = 0 ∧ vv p s (r + 1) = s
  | 0, k, r, h => by cases h
  | f + 1, k, r, h => by
    unfold ordF at h
    by_cases h0 : vv p s k = 0
    · rw [if_pos h0] at h
      by_cases h1 : vv p s (k + 1) = s
      · rw [if_pos h1] at h
        obtain rfl : k = r := Option.some.inj h
        exact ⟨Nat.le_refl _, fun j a b => by omega, h0, h1⟩
      · rw [if_neg h1] at h
        cases h
    · rw [if_neg h0] at h
      obtain ⟨a, b, c, d⟩ := ordF_ok f (k + 1) r h
      refine ⟨by omega, fun j h1 h2 => ?_, c, d⟩
      by_cases e : j = k
      · rw [e]; exact h0
      · exact b j (by omega) h2
theorem ord_chk : ∀ p ∈ ([3, 5, 7, 11, 13, 17, 19, 23, 29, 31] : List Int), ((List.range p.toNat).all fun s : Nat => (ordF p (s : Int) 40 (vv p s 1) (vv p s 2) 1).isSome && Nat.ble (ordN p s) (p.toNat + 1)) = true := by decide +kernel
theorem ord_ok {p s : Int} (hf : i_IsField p = true) (hs : 0 ≤ s ∧ s < p) : 1 ≤ ordN p s ∧ ordN p s ≤ p.toNat + 1 ∧ (∀ j, 1 ≤ j → j < ordN p s → vv p s j ≠ 0) ∧ vv p s (ordN p s) = 0 ∧ vv p s (ordN p s + 1) = s := by
  have h := List.all_eq_true.1 (ord_chk p (field_mem hf)) s.toNat (List.mem_range.2 (by omega))
  rw [Int.toNat_of_nonneg hs.1] at h
  have h1 := of_isSome (d := 0) (and_l h)
  have h2 := and_r h
  obtain ⟨a, b, c, d⟩ := ordF_ok _ _ _ h1
  exact ⟨a, Nat.le_of_ble_eq_true h2, b, c, d⟩
theorem two_pp {p : Int} (hp : prB p = true) : ∃ N : Nat, wI ((wI ((wI (2 * p)) * p)) + 2) = (N : Int) ∧ wI ((wI ((wI (2 * p)) * p)) + 3) = ((N + 1 : Nat) : Int) ∧ 2 * p.toNat + 2 ≤ N ∧ N ≤ 3000 := by
  have hP := prB_Pr hp
  unfold Pr at hP
  have h1 := Int.mul_le_mul_of_nonneg_right hP.1 (show 0 ≤ p by omega)
  have h2 := Int.mul_le_mul_of_nonneg_right hP.2 (show 0 ≤ p by omega)
  have e : 2 * p * p = 2 * (p * p) := Int.mul_assoc 2 p p
  refine ⟨(2 * (p * p) + 2).toNat, ?_, ?_, by omega, by omega⟩
  · simp only [wI_eq]
    rw [w64 (n := 2 * p) (by omega), e, w64 (n := 2 * (p * p)) (by omega), w64 (by omega)]
    omega
  · simp only [wI_eq]
    rw [w64 (n := 2 * p) (by omega), e, w64 (n := 2 * (p * p)) (by omega), w64 (by omega)]
    omega
theorem iord_go {p s : Int} (hf : i_IsField p = true) (hs : 0 ≤ s ∧ s < p) {M : Nat} (hS : i_spreads p (wI ((wI ((wI (2 * p)) * p)) + 2)) s = (M + 1, vl p s (M + 1))) (hM : p.toNat + 2 ≤ M) (hM2 : M ≤ 100000) : ∀ (j k f : Nat), k + j = ordN p s → 1 ≤ k → j < f → L_i_orderOf_0 1000000 p s f 0 (k : Int) = some ((ordN p s : Int), (ordN p s : Int))
  | j, k, 0, _, _, h => absurd h (Nat.not_lt_zero j)
  | 0, k, f + 1, hk, _, _ => by
    obtain rfl : k = ordN p s := by omega
    obtain ⟨a, b, c, d, e⟩ := ord_ok hf hs
    generalize ordN p s = o at *
    show B_i_orderOf_0 p s (L_i_orderOf_0 1000000 p s f) 0 (o : Int) = _
    unfold B_i_orderOf_0
    rw [hS, wrap_add1 (n := o + 1) (by omega) (by omega)]
    simp only [Int.toNat_natCast, Nat.mul_one]
    rw [if_pos (cnd (by omega)), if_pos (cnd2 (by omega)), if_pos (ble_ok (by rw [vl_len]; omega)), vl_at (by omega), d, if_neg (by decide), if_pos (by decide), if_pos (cnd2 (by omega)), if_pos (ble_ok (by rw [vl_len]; omega)), vl_at (by omega), e, if_pos (beq_self_eq_true s)]
  | j + 1, k, f + 1, hk, h1, hj => by
    obtain ⟨a, b, c, d, e⟩ := ord_ok hf hs
    show B_i_orderOf_0 p s (L_i_orderOf_0 1000000 p s f) 0 (k : Int) = _
    unfold B_i_orderOf_0
    rw [hS, wrap_add1 (n := k + 1) (by omega) (by omega)]
    simp only [Int.toNat_natCast, Nat.mul_one]
    rw [if_pos (cnd (by omega)), if_pos (cnd2 (by omega)), if_pos (ble_ok (by rw [vl_len]; omega)), vl_at (by omega), if_pos (by simpa using c k h1 (by omega))]
    exact iord_go hf hs hS hM hM2 j (k + 1) f (by omega) (by omega) (by omega)
theorem orderOf_eq {p s : Int} (hf : i_IsField p = true) (hs : 0 ≤ s ∧ s < p) : Fo_i_orderOf 1000000 p s = some ((ordN p s : Int), (ordN p s : Int)) := by
  have hp := Pr_prB (i_IsField_ok hf)
  obtain ⟨N, e, _, h1, h2⟩ := two_pp hp
  obtain ⟨M, hM, hS⟩ := spreads_eq (n := (N : Int)) hp hs (by omega)
  have hM2 : M ≤ 100000 := by
    by_cases hN : 1 ≤ (N : Int)
    · have := congrArg (fun o => (o.getD (0, [])).1) hS
      have h3 := spr_go hp hs N (by omega) (N - 1) 0 (1000000 + 100) (by omega) (by omega)
      have h4 : Fo_i_spreads 1000000 p (N : Int) s = some (N + 1, vl p s (N + 1)) := h3
      rw [h4] at hS
      have := congrArg Prod.fst (Option.some.inj hS)
      simp at this
      omega
    · omega
  have hS2 : i_spreads p (wI ((wI ((wI (2 * p)) * p)) + 2)) s = (M + 1, vl p s (M + 1)) := by
    unfold i_spreads
    rw [e, hS]
    rfl
  obtain ⟨a, b, _⟩ := ord_ok hf hs
  unfold Fo_i_orderOf G_i_orderOf
  rw [if_pos (by rw [e]; exact some_of hS)]
  exact iord_go hf hs hS2 (by omega) hM2 (ordN p s - 1) 1 (1000000 + 100) (by omega) (by omega) (by have := (prB_nat hp).1; omega)
theorem orderOf_is {p s : Int} (hf : i_IsField p = true) (hs : 0 ≤ s ∧ s < p) : i_orderOf p s = ((ordN p s : Int), (ordN p s : Int)) := by
  unfold i_orderOf
  rw [orderOf_eq hf hs]
  rfl
theorem sord_go {p s : Int} (hf : i_IsField p = true) (hs : 0 ≤ s ∧ s < p) : ∀ (j k f : Nat), k + j = ordN p s → 1 ≤ k → j < f → L_s_l05Order_0 1000000 p s f (k : Int) = some (ordN p s : Int)
  | j, k, 0, _, _, h => absurd h (Nat.not_lt_zero j)
  | 0, k, f + 1, hk, _, _ => by
    have hp := Pr_prB (i_IsField_ok hf)
    have h31 := (prB_nat hp).1
    obtain rfl : k = ordN p s := by omega
    obtain ⟨a, b, c, d, e⟩ := ord_ok hf hs
    have hn : 0 ≤ ((ordN p s : Nat) : Int) ∧ ((ordN p s : Nat) : Int) ≤ 1000000 := by omega
    show B_s_l05Order_0 p s (L_s_l05Order_0 1000000 p s f) ((ordN p s : Nat) : Int) = _
    unfold B_s_l05Order_0
    rw [if_pos (some_of (value_eq hp hs hn)), value_is hp hs hn, Int.toNat_natCast, d, if_neg (by decide)]
  | j + 1, k, f + 1, hk, h1, hj => by
    have hp := Pr_prB (i_IsField_ok hf)
    have h31 := (prB_nat hp).1
    obtain ⟨a, b, c, d, e⟩ := ord_ok hf hs
    have hn : 0 ≤ ((k : Nat) : Int) ∧ ((k : Nat) : Int) ≤ 1000000 := by omega
    show B_s_l05Order_0 p s (L_s_l05Order_0 1000000 p s f) (k : Int) = _
    unfold B_s_l05Order_0
    rw [if_pos (some_of (value_eq hp hs hn)), value_is hp hs hn, Int.toNat_natCast, if_pos (by simpa using c k h1 (by omega)), wrap_add1 (n := k + 1) (by omega) (by omega)]
    exact sord_go hf hs j (k + 1) f (by omega) (by omega) (by omega)
theorem sorder_eq {p s : Int} (hf : i_IsField p = true) (hs : 0 ≤ s ∧ s < p) : Fo_s_l05Order 1000000 p s = some (ordN p s : Int) := by
  have h31 := (prB_nat (Pr_prB (i_IsField_ok hf))).1
  obtain ⟨a, b, _⟩ := ord_ok hf hs
  exact sord_go hf hs (ordN p s - 1) 1 (1000000 + 100) (by omega) (by omega) (by omega)
theorem sorder_is {p s : Int} (hf : i_IsField p = true) (hs : 0 ≤ s ∧ s < p) : s_l05Order p s = (ordN p s : Int) := by
  unfold s_l05Order
  rw [sorder_eq hf hs]
  rfl
theorem sper_go {p s : Int} (hf : i_IsField p = true) (hs : 0 ≤ s ∧ s < p) : ∀ (j k f : Nat), k + j = ordN p s → 1 ≤ k → j < f → L_s_PeriodOfSpread_0 1000000 p s f (k : Int) = some ((ordN p s : Int), 0)
  | j, k, 0, _, _, h => absurd h (Nat.not_lt_zero j)
  | 0, k, f + 1, hk, _, _ => by
    have hp := Pr_prB (i_IsField_ok hf)
    have h31 := (prB_nat hp).1
    obtain rfl : k = ordN p s := by omega
    obtain ⟨a, b, c, d, e⟩ := ord_ok hf hs
    have hn : 0 ≤ ((ordN p s : Nat) : Int) ∧ ((ordN p s : Nat) : Int) ≤ 1000000 := by omega
    have hn2 : 0 ≤ ((ordN p s + 1 : Nat) : Int) ∧ ((ordN p s + 1 : Nat) : Int) ≤ 1000000 := by omega
    show B_s_PeriodOfSpread_0 p s (L_s_PeriodOfSpread_0 1000000 p s f) ((ordN p s : Nat) : Int) = _
    unfold B_s_PeriodOfSpread_0
    rw [if_pos (some_of (value_eq hp hs hn)), value_is hp hs hn, Int.toNat_natCast, d, if_neg (by decide), wrap_add1 (n := ordN p s + 1) (by omega) (by omega), if_pos (some_of (value_eq hp hs hn2)), value_is hp hs hn2, Int.toNat_natCast, e, if_neg (by simp)]
  | j + 1, k, f + 1, hk, h1, hj => by
    have hp := Pr_prB (i_IsField_ok hf)
    have h31 := (prB_nat hp).1
    obtain ⟨a, b, c, d, e⟩ := ord_ok hf hs
    have hn : 0 ≤ ((k : Nat) : Int) ∧ ((k : Nat) : Int) ≤ 1000000 := by omega
    show B_s_PeriodOfSpread_0 p s (L_s_PeriodOfSpread_0 1000000 p s f) (k : Int) = _
    unfold B_s_PeriodOfSpread_0
    rw [if_pos (some_of (value_eq hp hs hn)), value_is hp hs hn, Int.toNat_natCast, if_pos (by simpa using c k h1 (by omega)), wrap_add1 (n := k + 1) (by omega) (by omega)]
    exact sper_go hf hs j (k + 1) f (by omega) (by omega) (by omega)

end Go.Proofs.Ytjdpbaefonekmaa
