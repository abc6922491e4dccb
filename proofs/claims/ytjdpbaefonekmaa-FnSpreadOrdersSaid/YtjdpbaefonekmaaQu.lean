import Derived.Test.YtjdpbaefonekmaaQt
set_option linter.unusedSimpArgs false
set_option linter.unusedVariables false
namespace Go.Proofs.Ytjdpbaefonekmaa
open Go.RowKit
/-! Counts by orders. -/
def cn (p : Int) (j : Nat) : Int := (((nums p).filter fun s => Nat.beq (ordN p s) j).length : Nat)
theorem cn_nn (p : Int) (j : Nat) : 0 ≤ cn p j := by unfold cn; omega
theorem ord_pos {p s : Int} (hf : i_IsField p = true) (hs : s ∈ nums p) : 1 ≤ ordN p s ∧ ordN p s ≤ p.toNat + 1 := ⟨(ord_ok hf (nums_mem.1 hs)).1, (ord_ok hf (nums_mem.1 hs)).2.1⟩
theorem cn_out {p : Int} (hf : i_IsField p = true) {j : Nat} (h : j = 0 ∨ p.toNat + 2 ≤ j) : cn p j = 0 := by
  have e : ((nums p).filter fun s => Nat.beq (ordN p s) j) = [] := by
    rw [List.filter_eq_nil_iff]
    intro s hs hb
    have h1 := Nat.eq_of_beq_eq_true hb
    have h2 := ord_pos hf hs
    omega
  unfold cn
  rw [e]
  rfl
theorem cn_chk : ∀ p ∈ ([3, 5, 7, 11, 13, 17, 19, 23, 29, 31] : List Int), cn p 1 = 1 := by decide +kernel
def cnts (p : Int) (len : Nat) : List Int := (nums p).foldl (fun l s => bump l (ordN p s)) (List.replicate len 0)
theorem cnts_ok {p : Int} (hf : i_IsField p = true) {len : Nat} (h : p.toNat + 2 ≤ len) : (cnts p len).length = len ∧ sumZ (cnts p len) = p ∧ ∀ j, (cnts p len).getD j 0 = cn p j := by
  obtain ⟨h31, h0, hpn⟩ := prB_nat (Pr_prB (i_IsField_ok hf))
  obtain ⟨h1, h2, h3⟩ := fold_bump (N := len) (fun s => ordN p s) (nums p) (List.replicate len 0) 0 (by simp) (fun s hs => by have := ord_pos hf hs; omega) (fun x hx => rep_mem hx) (by rw [nums_len]; omega)
  refine ⟨?_, ?_, fun j => ?_⟩
  · unfold cnts
    rw [bumps_len]
    simp
  · unfold cnts
    rw [h1, rep_sum, nums_len]
    omega
  · unfold cnts cn
    rw [h3, rep_getD]
    omega
def pos (p : Int) (t : Nat) : Bool := decide (0 < cn p t)
def OL (p : Int) : List Nat := (List.range' 1 (p.toNat + 1)).filter (pos p)
theorem OL_from {p : Int} (hf : i_IsField p = true) {a b : Nat} (ha : a ≤ 1) (hb : p.toNat + 2 ≤ a + b) : (List.range' a b).filter (pos p) = OL p := by
  have key : ∀ n, p.toNat + 1 ≤ n → (List.range' 1 n).filter (pos p) = OL p := fun n hn => by
    obtain ⟨d, rfl⟩ : ∃ d, n = (p.toNat + 1) + d := ⟨n - (p.toNat + 1), by omega⟩
    unfold OL
    rw [← List.range'_append_1, List.filter_append]
    have e : (List.range' (1 + (p.toNat + 1)) d).filter (pos p) = [] := by
      rw [List.filter_eq_nil_iff]
      intro t ht hb
      have h1 := (List.mem_range'_1.1 ht).1
      unfold pos at hb
      rw [cn_out hf (.inr (by omega))] at hb
      simp at hb
    rw [e, List.append_nil]
  by_cases h : a = 1
  · subst h
    exact key b (by omega)
  · obtain rfl : a = 0 := by omega
    obtain ⟨c, rfl⟩ : ∃ c, b = c + 1 := ⟨b - 1, by omega⟩
    rw [List.range'_succ, List.filter_cons]
    have : pos p 0 = false := by
      unfold pos
      rw [cn_out hf (.inl rfl)]
      rfl
    rw [this]
    exact key c (by omega)
def ordsR (p : Int) : (Nat × List Int) × (Nat × List Int) × Int := if i_IsField p = true then (((OL p).length, (OL p).map fun t : Nat => (t : Int)), ((OL p).length, (OL p).map (cn p)), 0) else ((0, []), (0, []), 1)
theorem app_cons {α : Type} (A : List α) (x : α) (l : List α) : A ++ [x] ++ l = A ++ x :: l := by simp
def preC (p : Int) (len k : Nat) : List Int := ((List.range k).map fun k : Nat => (k : Int)).foldl (fun l s => bump l (ordN p s)) (List.replicate len 0)
theorem preC_len (p : Int) (len k : Nat) : (preC p len k).length = len := by
  unfold preC
  rw [bumps_len]
  simp
theorem preC_add (p : Int) (len k : Nat) : preC p len (k + 1) = bump (preC p len k) (ordN p (k : Int)) := by
  unfold preC
  rw [List.range_succ, List.map_append, List.foldl_append]
  rfl
theorem mk_okN {x : Int} {n : Nat} (h : x = (n : Int)) (hn : n ≤ 5000) : (decide (0 ≤ x) && decide (x ≤ 2000000) && x == x) = true := by
  simp
  omega
theorem four_p {p : Int} (hp : prB p = true) : wI ((wI (4 * p)) + 4) = ((4 * p.toNat + 4 : Nat) : Int) := by
  have hP := prB_Pr hp
  unfold Pr at hP
  simp only [wI_eq]
  rw [w64 (n := 4 * p) (by omega), w64 (by omega)]
  omega
theorem sumZ_filter {T : Type} (c : T → Int) (q : T → Bool) (hq : ∀ t, q t = false → c t = 0) : ∀ l : List T, sumZ ((l.filter q).map c) = sumZ (l.map c)
  | [] => rfl
  | t :: l => by
    have ih := sumZ_filter c q hq l
    rw [List.filter_cons]
    cases h : q t
    · simp only [Bool.false_eq_true, if_false, List.map_cons]
      show _ = c t + sumZ (l.map c)
      rw [hq t h, ih, Int.zero_add]
    · simp only [if_true, List.map_cons]
      show c t + sumZ ((l.filter q).map c) = c t + sumZ (l.map c)
      rw [ih]
theorem OL_sum {p : Int} (hf : i_IsField p = true) : sumZ ((OL p).map (cn p)) = p := by
  obtain ⟨c1, c2, c3⟩ := cnts_ok hf (len := p.toNat + 2) (Nat.le_refl _)
  rw [← OL_from hf (a := 0) (b := p.toNat + 2) (by omega) (by omega), sumZ_filter (cn p) (pos p) (fun t h => by
    have := cn_nn p t
    unfold pos at h
    simp at h
    omega)]
  have e : (List.range' 0 (p.toNat + 2)).map (cn p) = cnts p (p.toNat + 2) := by
    refine list_of_getD (by simp [c1]) fun t ht => ?_
    rw [c3, ← List.range_eq_range', List.getD_eq_getElem?_getD, List.getElem?_map, List.getElem?_range (by simpa using ht)]
    rfl
  rw [e, c2]
theorem OL_head {p : Int} (hf : i_IsField p = true) : ∃ l, OL p = 1 :: l ∧ cn p 1 = 1 := by
  have h := cn_chk p (field_mem hf)
  refine ⟨(List.range' 2 p.toNat).filter (pos p), ?_, h⟩
  unfold OL
  rw [List.range'_succ, List.filter_cons, if_pos (by unfold pos; rw [h]; rfl)]
theorem OL_mem {p : Int} {t : Nat} (h : t ∈ OL p) : 1 ≤ t ∧ t ≤ p.toNat + 1 := by
  have := List.mem_range'_1.1 (List.mem_filter.1 h).1
  omega
theorem ofOrd_len (p : Int) (t : Nat) : (((ofOrd p (t : Int)).length : Nat) : Int) = cn p t := by
  unfold ofOrd cn
  congr 2
  refine filter_same fun s _ => ?_
  by_cases h : ordN p s = t
  · subst h
    simp
  · have e1 : Nat.beq (ordN p s) t = false := by
      cases hb : Nat.beq (ordN p s) t
      · rfl
      · exact absurd (Nat.eq_of_beq_eq_true hb) h
    have e2 : ((ordN p s : Int) == (t : Int)) = false := by
      simp
      omega
    rw [e1, e2]

end Go.Proofs.Ytjdpbaefonekmaa
