import Derived.Test.YtnijajjdldijpaaDi
set_option linter.unusedSimpArgs false
set_option linter.unusedVariables false
namespace Go.Proofs.Ytnijajjdldijpaa
open Go.RowKit
/-! Plain helpers for the functions' own forms. -/
abbrev P2 := Int × Int
abbrev P3 := Int × Int × Int
abbrev P4 := Int × Int × Int × Int
abbrev P6 := Int × Int × Int × Int × Int × Int
def Pr (p : Int) : Prop := 1 ≤ p ∧ p ≤ 31
theorem prB_Pr {p : Int} (h : prB p = true) : Pr p := by
  unfold prB at h
  simp at h
  exact h
theorem Pr_prB {p : Int} (h : Pr p) : prB p = true := by
  unfold prB Pr at *
  simp
  exact h
theorem Pr.ne {p : Int} (h : Pr p) : p ≠ 0 := by unfold Pr at h; omega
theorem tmod_bd (x p : Int) (h1 : 1 ≤ p) : -p < x.tmod p ∧ x.tmod p < p := by
  have := Int.tmod_lt_of_pos x (show 0 < p by omega)
  have h2 := Int.lt_tmod_of_pos x (show 0 < p by omega)
  omega
theorem rest_eq (x p : Int) : (x.tmod p + p) % p = x % p := by
  rw [Int.add_emod_right]
  have h := Int.mul_tdiv_add_tmod x p
  conv => rhs; rw [← h, Int.add_comm, Int.add_mul_emod_self_left]
theorem rest_raw {p : Int} (hp : prB p = true) (x : Int) : (wrap64 (x.tmod p + p)).tmod p = x % p := by
  obtain ⟨h1, h2⟩ := prB_Pr hp
  obtain ⟨t1, t2⟩ := tmod_bd x p h1
  have : wrap64 (x.tmod p + p) = x.tmod p + p := by unfold wrap64; omega
  rw [this, Int.tmod_eq_emod_of_nonneg (by omega), rest_eq]
theorem wrap_add1 {k n : Nat} (h : k < n) (hn : n ≤ 100000000001) : wI ((k : Int) + 1) = ((k + 1 : Nat) : Int) := by
  rw [wI_eq]; unfold wrap64; omega
def rows2 (n : Nat) (l : List Int) : List P2 := (List.range n).map fun k => (l.getD (k * 2) 0, l.getD (k * 2 + 1) 0)
def rows3 (n : Nat) (l : List Int) : List P3 := (List.range n).map fun k => (l.getD (k * 3) 0, l.getD (k * 3 + 1) 0, l.getD (k * 3 + 2) 0)
/-- A check of every member of a slice. -/
theorem scan_go {α : Type} {L : Nat → Int → Option α} {n : Nat} {q : Nat → Bool} {bad good : α} (hL : ∀ f k : Nat, k < n → L (f + 1) (k : Int) = if (!(q k)) = true then some bad else L f ((k + 1 : Nat) : Int)) (hE : ∀ f : Nat, L (f + 1) (n : Int) = some good) :
    ∀ (m k f : Nat), k + m = n → m < f → L f (k : Int) = some (if (List.range' k m).all q = true then good else bad)
  | m, k, 0, _, h => absurd h (Nat.not_lt_zero m)
  | 0, k, f + 1, h, _ => by
    obtain rfl : k = n := by omega
    rw [hE]; rfl
  | m + 1, k, f + 1, h, hf => by
    rw [hL f k (by omega), scan_go hL hE m (k + 1) f (by omega) (by omega), List.range'_succ, List.all_cons]
    cases q k <;> simp only [Bool.not_false, Bool.not_true, if_true, Bool.false_and, Bool.true_and, Bool.false_eq_true, if_false]
theorem scan {α : Type} {L : Nat → Int → Option α} {n F : Nat} {q : Nat → Bool} {bad good : α} (hF : n < F) (hL : ∀ f k : Nat, k < n → L (f + 1) (k : Int) = if (!(q k)) = true then some bad else L f ((k + 1 : Nat) : Int)) (hE : ∀ f : Nat, L (f + 1) (n : Int) = some good) :
    L F 0 = some (if (List.range n).all q = true then good else bad) := by
  rw [List.range_eq_range']
  exact scan_go hL hE n 0 F (by omega) hF
theorem all_rows3 (n : Nat) (l : List Int) (g : P3 → Bool) : (rows3 n l).all g = (List.range n).all fun k => g (l.getD (k * 3) 0, l.getD (k * 3 + 1) 0, l.getD (k * 3 + 2) 0) := by
  unfold rows3; rw [List.all_map]; rfl
theorem all_rows2 (n : Nat) (l : List Int) (g : P2 → Bool) : (rows2 n l).all g = (List.range n).all fun k => g (l.getD (k * 2) 0, l.getD (k * 2 + 1) 0) := by
  unfold rows2; rw [List.all_map]; rfl
theorem all_rows1 (n : Nat) (l : List Int) (h : l.length = n) (g : Int → Bool) : l.all g = (List.range n).all fun k => g (l.getD (k * 1) 0) := by
  subst h
  have : l = (List.range l.length).map fun k => l.getD (k * 1) 0 := by
    apply List.ext_getElem (by simp)
    intro i h1 h2
    simp [List.getD_eq_getElem?_getD, h1]
  conv => lhs; rw [this]
  rw [List.all_map]; rfl
theorem leb {a b : Nat} (h : a ≤ b) : Nat.ble a b = true := Nat.ble_eq_true_of_le h
def lenB (n sz : Nat) (l : List Int) : Bool := Nat.beq l.length (sz * n) && Nat.ble n 100000000000
theorem lenB_ok {n sz : Nat} {l : List Int} (h : lenB n sz l = true) : l.length = sz * n ∧ n ≤ 100000000000 := by
  unfold lenB at h
  simp at h
  exact ⟨h.1, h.2⟩
/-! Slices that are marked. -/
def seq1 (m : Nat) : List Int := (List.range m).map fun i => ((i : Nat) : Int) + 1
theorem seq1_len (m : Nat) : (seq1 m).length = m := by simp [seq1]
theorem list_of_getD {l r : List Int} (h : l.length = r.length) (hp : ∀ t, t < l.length → l.getD t 0 = r.getD t 0) : l = r := by
  apply List.ext_getElem h
  intro i h1 h2
  have := hp i h1
  simpa [List.getD_eq_getElem?_getD, h1, h2] using this
theorem seq1_getD {m t : Nat} (h : t < m) : (seq1 m).getD t 0 = (t : Int) + 1 := by
  simp [seq1, List.getD_eq_getElem?_getD, h]
theorem seq1_of {m : Nat} {l : List Int} (hl : l.length = m) (hp : ∀ t, t < m → l.getD t 0 = (t : Int) + 1) : l = seq1 m :=
  list_of_getD (by rw [hl, seq1_len]) fun t ht => by rw [hp t (by omega), seq1_getD (by omega)]
theorem getD_set {l : List Int} {i t : Nat} {v : Int} (hi : i < l.length) : (l.set i v).getD t 0 = if i = t then v else l.getD t 0 := by
  by_cases e : i = t
  · subst e
    simp [List.getD_eq_getElem?_getD, hi]
  · simp [List.getD_eq_getElem?_getD, List.getElem?_set, e]
theorem wrapS {x : Int} (h : -1000000000000 ≤ x ∧ x ≤ 1000000000000) : wrap64 x = x := by unfold wrap64; omega
theorem lenB_of {n sz : Nat} {l : List Int} (h : l.length = sz * n) (hn : n ≤ 100000000000) : lenB n sz l = true := by
  unfold lenB
  simp [h, hn]
theorem and_one {b : Bool} (h : b = true) : (b && ((1 : Int) == 1)) = true := by rw [h]; rfl
theorem and_two {a b : Bool} (h : a = true) (k : b = true) : (a && b) = true := by rw [h, k]; rfl
theorem lenB_seq {n sz m : Nat} {l : List Int} (h : lenB n sz l = true) (hm : m = sz * n) : lenB n sz (seq1 m) = true := lenB_of (by rw [seq1_len, hm]) (lenB_ok h).2

end Go.Proofs.Ytnijajjdldijpaa
