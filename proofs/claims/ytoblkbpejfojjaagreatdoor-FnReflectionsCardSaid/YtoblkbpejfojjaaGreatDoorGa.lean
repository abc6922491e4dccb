import Derived.Test.YtoblkbpejfojjaaGreatDoorQc
set_option linter.unusedSimpArgs false
set_option linter.unusedVariables false
namespace Go.Proofs.YtoblkbpejfojjaaGreatDoor
open Go.RowKit
/-! Lists of moves, sorted by their matrices. -/
abbrev P6o := Int × Int × Int × Int × Int × Int
def key6 (m : P6o) : List Int := [m.1, m.2.1, m.2.2.1, m.2.2.2.1]
def lt6 (m n : P6o) : Bool := lexB (key6 m) (key6 n)
theorem lt6_iff (m n : P6o) : lt6 m n = true ↔ m.1 < n.1 ∨ m.1 = n.1 ∧ (m.2.1 < n.2.1 ∨ m.2.1 = n.2.1 ∧ (m.2.2.1 < n.2.2.1 ∨ m.2.2.1 = n.2.2.1 ∧ m.2.2.2.1 < n.2.2.2.1)) := by
  unfold lt6 key6
  simp only [lexB]
  by_cases h1 : m.1 = n.1
  · by_cases h2 : m.2.1 = n.2.1
    · by_cases h3 : m.2.2.1 = n.2.2.1
      · by_cases h4 : m.2.2.2.1 = n.2.2.2.1
        · simp [h1, h2, h3, h4]
        · simp [h1, h2, h3, h4]
      · simp [h1, h2, h3]
    · simp [h1, h2]
  · simp [h1]
theorem key6_iff (m n : P6o) : key6 m = key6 n ↔ m.1 = n.1 ∧ m.2.1 = n.2.1 ∧ m.2.2.1 = n.2.2.1 ∧ m.2.2.2.1 = n.2.2.2.1 := by
  unfold key6
  simp
theorem lt6_trans {a b c : P6o} (h1 : lt6 a b = true) (h2 : lt6 b c = true) : lt6 a c = true := by
  rw [lt6_iff] at *
  omega
theorem lt6_asym {a b : P6o} (h : lt6 a b = true) : lt6 b a = false := by
  rw [Bool.eq_false_iff]
  intro k
  rw [lt6_iff] at *
  omega
theorem lt6_tri {a b : P6o} (h : lt6 a b = false) (n : key6 b ≠ key6 a) : lt6 b a = true := by
  rw [Bool.eq_false_iff] at h
  rw [ne_eq, key6_iff] at n
  rw [ne_eq, lt6_iff] at h
  rw [lt6_iff]
  omega
theorem lt6_ne {a b : P6o} (h : lt6 a b = true) : key6 a ≠ key6 b := by
  rw [ne_eq, key6_iff]
  rw [lt6_iff] at h
  omega
def insR (x : P6o) : List P6o → List P6o
  | [] => [x]
  | y :: r => if lt6 x y = true then y :: insR x r else x :: y :: r
def ins6 (x : P6o) (L : List P6o) : List P6o := (insR x L.reverse).reverse
def sort6 (L : List P6o) : List P6o := L.foldl (fun A x => ins6 x A) []
theorem insR_eq (x : P6o) : ∀ R : List P6o, R.Pairwise (fun a b => lt6 b a = true) → (∀ y ∈ R, key6 y ≠ key6 x) → insR x R = R.filter (fun y => lt6 x y) ++ x :: R.filter (fun y => lt6 y x)
  | [], _, _ => rfl
  | y :: r, hs, hx => by
    rw [List.pairwise_cons] at hs
    have hy := hx y (by simp)
    unfold insR
    by_cases h : lt6 x y = true
    · rw [if_pos h, insR_eq x r hs.2 (fun z hz => hx z (by simp [hz]))]
      simp [List.filter_cons, h, lt6_asym h]
    · have h' : lt6 y x = true := lt6_tri (by simpa using h) hy
      have hr : ∀ z ∈ r, lt6 z x = true := fun z hz => lt6_trans (hs.1 z hz) h'
      have e1 : r.filter (fun y => lt6 x y) = [] := List.filter_eq_nil_iff.2 (fun z hz => by simp [lt6_asym (hr z hz)])
      have e2 : r.filter (fun y => lt6 y x) = r := List.filter_eq_self.2 hr
      rw [if_neg h]
      simp [List.filter_cons, h, h', e1, e2]
theorem ins6_eq {x : P6o} {L : List P6o} (hs : L.Pairwise (fun a b => lt6 a b = true)) (hx : ∀ y ∈ L, key6 y ≠ key6 x) : ins6 x L = L.filter (fun y => lt6 y x) ++ x :: L.filter (fun y => lt6 x y) := by
  unfold ins6
  rw [insR_eq x L.reverse (List.pairwise_reverse.2 hs) (fun y hy => hx y (by simpa using hy))]
  simp [List.filter_reverse]
theorem ins6_sorted {x : P6o} {L : List P6o} (hs : L.Pairwise (fun a b => lt6 a b = true)) (hx : ∀ y ∈ L, key6 y ≠ key6 x) : (ins6 x L).Pairwise (fun a b => lt6 a b = true) := by
  rw [ins6_eq hs hx, List.pairwise_append, List.pairwise_cons]
  refine ⟨hs.filter _, ⟨fun z hz => (List.mem_filter.1 hz).2, hs.filter _⟩, fun a ha b hb => ?_⟩
  have h1 := (List.mem_filter.1 ha).2
  rcases List.mem_cons.1 hb with rfl | hb
  · exact h1
  · exact lt6_trans h1 (List.mem_filter.1 hb).2
theorem insR_mem (x z : P6o) : ∀ R : List P6o, z ∈ insR x R ↔ z = x ∨ z ∈ R
  | [] => by simp [insR]
  | y :: r => by
    unfold insR
    split
    · rw [List.mem_cons, insR_mem x z r, List.mem_cons]
      constructor <;> intro h <;> rcases h with h | h | h <;> simp [h]
    · rw [List.mem_cons]
theorem ins6_mem {x z : P6o} {L : List P6o} : z ∈ ins6 x L ↔ z = x ∨ z ∈ L := by
  unfold ins6
  rw [List.mem_reverse, insR_mem, List.mem_reverse]
theorem ins6_filter {x : P6o} {L : List P6o} (q : P6o → Bool) (hs : L.Pairwise (fun a b => lt6 a b = true)) (hx : ∀ y ∈ L, key6 y ≠ key6 x) : (ins6 x L).filter q = if q x = true then ins6 x (L.filter q) else L.filter q := by
  have hf : ∀ y ∈ L.filter q, key6 y ≠ key6 x := fun y hy => hx y (List.mem_filter.1 hy).1
  rw [ins6_eq hs hx, ins6_eq (hs.filter q) hf, List.filter_append]
  have c : ∀ r : P6o → Bool, (L.filter r).filter q = (L.filter q).filter r := fun r => by
    rw [List.filter_filter, List.filter_filter]
    congr 1
    funext y
    exact Bool.and_comm _ _
  by_cases h : q x = true
  · rw [if_pos h, List.filter_cons_of_pos h, c (fun y => lt6 y x), c (fun y => lt6 x y)]
  · rw [if_neg h, List.filter_cons_of_neg h, c (fun y => lt6 y x), c (fun y => lt6 x y)]
    -- the two parts of a sorted list
    have : ∀ M : List P6o, M.Pairwise (fun a b => lt6 a b = true) → (∀ y ∈ M, key6 y ≠ key6 x) → M.filter (fun y => lt6 y x) ++ M.filter (fun y => lt6 x y) = M := by
      intro M
      induction M with
      | nil => intro _ _; rfl
      | cons y r ih =>
        intro hs hx
        rw [List.pairwise_cons] at hs
        by_cases hy : lt6 y x = true
        · have e := ih hs.2 (fun z hz => hx z (by simp [hz]))
          simp only [List.filter_cons, hy, lt6_asym hy, if_true, List.cons_append]
          simpa using e
        · have hy' : lt6 x y = true := lt6_tri (by simpa using hy) (fun e => hx y (by simp) e.symm)
          have hr : ∀ z ∈ r, lt6 x z = true := fun z hz => lt6_trans hy' (hs.1 z hz)
          have e1 : r.filter (fun y => lt6 y x) = [] := List.filter_eq_nil_iff.2 (fun z hz => by simp [lt6_asym (hr z hz)])
          have e2 : r.filter (fun y => lt6 x y) = r := List.filter_eq_self.2 hr
          simp [List.filter_cons, hy, hy', e1, e2]
    exact this _ (hs.filter q) hf
theorem insR_map (f : P6o → P6o) (hf : ∀ m, key6 (f m) = key6 m) (x : P6o) : ∀ R : List P6o, (insR x R).map f = insR (f x) (R.map f)
  | [] => rfl
  | y :: r => by
    have e : lt6 (f x) (f y) = lt6 x y := by unfold lt6; rw [hf, hf]
    show (insR x (y :: r)).map f = insR (f x) (f y :: r.map f)
    unfold insR
    rw [e]
    split
    · rw [List.map_cons, insR_map f hf x r]
    · rfl
theorem ins6_map (f : P6o → P6o) (hf : ∀ m, key6 (f m) = key6 m) (x : P6o) (L : List P6o) : (ins6 x L).map f = ins6 (f x) (L.map f) := by
  unfold ins6
  rw [List.map_reverse, insR_map f hf, List.map_reverse]
theorem fold_map (f : P6o → P6o) (hf : ∀ m, key6 (f m) = key6 m) : ∀ L A : List P6o, (L.foldl (fun A x => ins6 x A) A).map f = (L.map f).foldl (fun A x => ins6 x A) (A.map f)
  | [], _ => rfl
  | x :: L, A => by
    show (L.foldl _ (ins6 x A)).map f = (L.map f).foldl _ (ins6 (f x) (A.map f))
    rw [fold_map f hf L, ins6_map f hf]
theorem sort6_map (f : P6o → P6o) (hf : ∀ m, key6 (f m) = key6 m) (L : List P6o) : (sort6 L).map f = sort6 (L.map f) := fold_map f hf L []
theorem fold_filter (q : P6o → Bool) : ∀ L A : List P6o, A.Pairwise (fun a b => lt6 a b = true) → L.Pairwise (fun a b => key6 a ≠ key6 b) → (∀ a ∈ A, ∀ x ∈ L, key6 a ≠ key6 x) →
    (L.foldl (fun A x => ins6 x A) A).Pairwise (fun a b => lt6 a b = true) ∧ (L.foldl (fun A x => ins6 x A) A).filter q = (L.filter q).foldl (fun A x => ins6 x A) (A.filter q)
  | [], _, hA, _, _ => ⟨hA, rfl⟩
  | x :: L, A, hA, hL, hd => by
    rw [List.pairwise_cons] at hL
    have hx : ∀ y ∈ A, key6 y ≠ key6 x := fun y hy => hd y hy x (by simp)
    have hs := ins6_sorted hA hx
    obtain ⟨h1, h2⟩ := fold_filter q L (ins6 x A) hs hL.2 (fun a ha z hz => by
      rcases ins6_mem.1 ha with rfl | ha
      · exact hL.1 z hz
      · exact hd a ha z (by simp [hz]))
    refine ⟨h1, ?_⟩
    show (L.foldl _ (ins6 x A)).filter q = _
    rw [h2, ins6_filter q hA hx]
    by_cases h : q x = true
    · rw [if_pos h, List.filter_cons_of_pos h]
      rfl
    · rw [if_neg h, List.filter_cons_of_neg h]
theorem sort6_sorted {L : List P6o} (hL : L.Pairwise (fun a b => key6 a ≠ key6 b)) : (sort6 L).Pairwise (fun a b => lt6 a b = true) := (fold_filter (fun _ => true) L [] List.Pairwise.nil hL (fun a ha => by cases ha)).1
theorem sort6_filter {L : List P6o} (q : P6o → Bool) (hL : L.Pairwise (fun a b => key6 a ≠ key6 b)) : (sort6 L).filter q = sort6 (L.filter q) := (fold_filter q L [] List.Pairwise.nil hL (fun a ha => by cases ha)).2
/-- What is sorted stays. -/
theorem ins6_last {x : P6o} {L : List P6o} (h : ∀ y ∈ L, lt6 y x = true) : ins6 x L = L ++ [x] := by
  unfold ins6
  cases hr : L.reverse with
  | nil =>
    obtain rfl : L = [] := by simpa using hr
    rfl
  | cons y r =>
    have hy : y ∈ L := by
      have : y ∈ L.reverse := by rw [hr]; simp
      simpa using this
    have e : insR x (y :: r) = x :: y :: r := by
      unfold insR
      rw [if_neg (by simp [lt6_asym (h y hy)])]
    rw [e, ← hr]
    simp
theorem sort6_id : ∀ L : List P6o, L.Pairwise (fun a b => lt6 a b = true) → sort6 L = L := by
  have key : ∀ L A : List P6o, L.Pairwise (fun a b => lt6 a b = true) → (∀ a ∈ A, ∀ x ∈ L, lt6 a x = true) → L.foldl (fun A x => ins6 x A) A = A ++ L := by
    intro L
    induction L with
    | nil => intro A _ _; simp
    | cons x L ih =>
      intro A hL hd
      rw [List.pairwise_cons] at hL
      show L.foldl _ (ins6 x A) = _
      rw [ins6_last (fun y hy => hd y hy x (by simp)), ih (A ++ [x]) hL.2 (fun a ha z hz => by
        rcases List.mem_append.1 ha with ha | ha
        · exact hd a ha z (by simp [hz])
        · obtain rfl : a = x := by simpa using ha
          exact hL.1 z hz)]
      simp
  intro L hL
  exact key L [] hL (fun a ha => by cases ha)

/-! Rows of moves; putting one into a list. -/
def flat6 (L : List P6o) : List Int := L.flatMap fun m => [m.1, m.2.1, m.2.2.1, m.2.2.2.1, m.2.2.2.2.1, m.2.2.2.2.2]
theorem flat6_cons (m : P6o) (L : List P6o) : flat6 (m :: L) = [m.1, m.2.1, m.2.2.1, m.2.2.2.1, m.2.2.2.2.1, m.2.2.2.2.2] ++ flat6 L := rfl
theorem flat6_app (A B : List P6o) : flat6 (A ++ B) = flat6 A ++ flat6 B := by simp [flat6]
theorem flat6_len : ∀ L : List P6o, (flat6 L).length = 6 * L.length
  | [] => rfl
  | m :: L => by
    rw [flat6_cons, List.length_append, flat6_len L, List.length_cons]
    simp
    omega
theorem flat6_take : ∀ (L : List P6o) (j : Nat), (flat6 L).take (j * 6) = flat6 (L.take j)
  | [], j => by simp [flat6]
  | m :: L, 0 => by simp [flat6]
  | m :: L, j + 1 => by
    have e : (j + 1) * 6 = j * 6 + 1 + 1 + 1 + 1 + 1 + 1 := by omega
    rw [List.take_succ_cons, flat6_cons, flat6_cons, e]
    simp only [List.cons_append, List.nil_append, List.take_succ_cons]
    rw [flat6_take L j]
theorem flat6_drop : ∀ (L : List P6o) (j : Nat), (flat6 L).drop (j * 6) = flat6 (L.drop j)
  | [], j => by simp [flat6]
  | m :: L, 0 => by simp
  | m :: L, j + 1 => by
    have e : (j + 1) * 6 = j * 6 + 1 + 1 + 1 + 1 + 1 + 1 := by omega
    rw [List.drop_succ_cons, flat6_cons, e]
    simp only [List.cons_append, List.nil_append, List.drop_succ_cons]
    rw [flat6_drop L j]
theorem flat6_row : ∀ (L : List P6o) (j : Nat) (h : j < L.length), ((flat6 L).getD (j * 6 + 0) 0, (flat6 L).getD (j * 6 + 1) 0, (flat6 L).getD (j * 6 + 2) 0, (flat6 L).getD (j * 6 + 3) 0, (flat6 L).getD (j * 6 + 4) 0, (flat6 L).getD (j * 6 + 5) 0) = L[j]
  | [], j, h => absurd h (Nat.not_lt_zero j)
  | m :: L, 0, _ => rfl
  | m :: L, j + 1, h => by
    have ih := flat6_row L j (by simpa using h)
    rw [List.getElem_cons_succ, ← ih, flat6_cons]
    have e : ∀ q, ([m.1, m.2.1, m.2.2.1, m.2.2.2.1, m.2.2.2.2.1, m.2.2.2.2.2] ++ flat6 L).getD ((j + 1) * 6 + q) 0 = (flat6 L).getD (j * 6 + q) 0 := fun q => by
      rw [show (j + 1) * 6 + q = (j * 6 + q) + 1 + 1 + 1 + 1 + 1 + 1 by omega]
      simp only [List.cons_append, List.nil_append, List.getD_cons_succ]
    rw [e, e, e, e, e, e]
def insG (x : P6o) : List P6o → List P6o
  | [] => [x]
  | y :: r => if s_l07Less x y = true then y :: insG x r else x :: y :: r
theorem less_lt {x y : P6o} (h : key6 y ≠ key6 x) : s_l07Less x y = lt6 x y := by
  rw [ne_eq, key6_iff] at h
  rw [Bool.eq_iff_iff, lt6_iff]
  unfold s_l07Less
  by_cases h1 : x.1 = y.1
  · by_cases h2 : x.2.1 = y.2.1
    · by_cases h3 : x.2.2.1 = y.2.2.1
      · have h4 : ¬ x.2.2.2.1 = y.2.2.2.1 := fun e => h ⟨h1.symm, h2.symm, h3.symm, e.symm⟩
        simp [h1, h2, h3, h4]
      · simp [h1, h2, h3]
    · simp [h1, h2]
  · simp [h1]
theorem insG_eq (x : P6o) : ∀ R : List P6o, (∀ y ∈ R, key6 y ≠ key6 x) → insG x R = insR x R
  | [], _ => rfl
  | y :: r, h => by
    unfold insG insR
    rw [less_lt (h y (by simp)), insG_eq x r (fun z hz => h z (by simp [hz]))]
theorem put_end (fu : Nat) (L : List P6o) (x : P6o) (j : Nat) (hj : j ≤ L.length) (hn : L.length < 1000) :
    (if (decide (0 ≤ 0) && decide (0 ≤ ((j : Nat) : Int)) && decide (((j : Nat) : Int) ≤ ((L.length : Nat) : Int))) = true then (if (Nat.ble 0 ((j : Nat) : Int).toNat && Nat.ble (0 + ((j : Nat) : Int).toNat) 1000000 && Nat.beq ((((flat6 L).drop 0).take (((j : Nat) : Int).toNat * 6)).length) (((j : Nat) : Int).toNat * 6)) = true then (if (Nat.ble 0 1 && Nat.ble (0 + ((j : Nat) : Int).toNat + 1) 1000000 && Nat.beq 6 (6)) = true then (if (decide (0 ≤ ((j : Nat) : Int)) && decide (((j : Nat) : Int) ≤ ((L.length : Nat) : Int)) && decide (((L.length : Nat) : Int) ≤ ((L.length : Nat) : Int))) = true then (if (Nat.ble 0 (L.length - ((j : Nat) : Int).toNat) && Nat.ble (0 + ((j : Nat) : Int).toNat + 1 + (L.length - ((j : Nat) : Int).toNat)) 1000000 && Nat.beq ((((flat6 L).drop (((j : Nat) : Int).toNat * 6)).take ((L.length - ((j : Nat) : Int).toNat) * 6)).length) ((L.length - ((j : Nat) : Int).toNat) * 6)) = true then some (0 + ((j : Nat) : Int).toNat + 1 + (L.length - ((j : Nat) : Int).toNat), (([] ++ ((flat6 L).drop 0).take (((j : Nat) : Int).toNat * 6)) ++ [x.1, x.2.1, x.2.2.1, x.2.2.2.1, x.2.2.2.2.1, x.2.2.2.2.2]) ++ (((flat6 L).drop (((j : Nat) : Int).toNat * 6)).take ((L.length - ((j : Nat) : Int).toNat) * 6))) else none) else none) else none) else none) else none) =
    some (L.length + 1, flat6 (L.take j ++ x :: L.drop j)) := by
  have hl := flat6_len L
  have e1 : ((flat6 L).drop (j * 6)).take ((L.length - j) * 6) = flat6 (L.drop j) := by
    rw [flat6_drop, List.take_of_length_le (by rw [flat6_len, List.length_drop]; omega)]
  have e2 : (flat6 (L.take j)).length = j * 6 := by rw [flat6_len, List.length_take]; omega
  have e3 : (flat6 (L.drop j)).length = (L.length - j) * 6 := by rw [flat6_len, List.length_drop]; omega
  have b : ∀ a c : Nat, a ≤ c → Nat.ble a c = true := fun a c h => Nat.ble_eq_true_of_le h
  have q : ∀ a : Nat, Nat.beq a a = true := fun a => Nat.beq_refl a
  rw [Int.toNat_natCast, List.drop_zero, flat6_take, e1, e2, e3]
  rw [if_pos (by simp; omega), if_pos (by rw [b _ _ (by omega), b _ _ (by omega), q]; rfl), if_pos (by rw [b _ _ (by omega), b _ _ (by omega)]; rfl), if_pos (by simp; omega), if_pos (by rw [b _ _ (by omega), b _ _ (by omega), q]; rfl)]
  rw [List.nil_append, flat6_app, flat6_cons, List.append_assoc]
  congr 2
  omega
theorem put_go (fu : Nat) (L : List P6o) (x : P6o) (hn : L.length < 1000) : ∀ j F : Nat, j ≤ L.length → j < F → L_s_l07Put_0 fu L.length (flat6 L) x F ((j : Nat) : Int) = some (L.length + 1, flat6 ((insG x (L.take j).reverse).reverse ++ L.drop j))
  | j, 0, _, h => absurd h (Nat.not_lt_zero j)
  | 0, F + 1, _, _ => by
    show B_s_l07Put_0 L.length (flat6 L) x (L_s_l07Put_0 fu L.length (flat6 L) x F) ((0 : Nat) : Int) = _
    unfold B_s_l07Put_0
    rw [if_neg (by simp)]
    exact (put_end fu L x 0 (by omega) hn).trans rfl
  | j + 1, F + 1, hj, hF => by
    have ih := put_go fu L x hn j F (by omega) (by omega)
    show B_s_l07Put_0 L.length (flat6 L) x (L_s_l07Put_0 fu L.length (flat6 L) x F) ((j + 1 : Nat) : Int) = _
    have hw : wI (((j + 1 : Nat) : Int) - 1) = (j : Int) := by
      rw [wI_eq, show (((j + 1 : Nat) : Int) - 1) = (j : Int) by omega]
      unfold wrap64
      omega
    have hl := flat6_len L
    have ht : L.take (j + 1) = L.take j ++ [L[j]] := by rw [List.take_succ_eq_append_getElem (by omega)]
    have hd : L.drop j = L[j] :: L.drop (j + 1) := List.drop_eq_getElem_cons (by omega)
    unfold B_s_l07Put_0
    rw [hw, if_pos (by simp), if_pos (by simp; omega), if_pos (by rw [Int.toNat_natCast]; exact Nat.ble_eq_true_of_le (by omega)), Int.toNat_natCast, flat6_row L j (by omega), ht]
    by_cases h : s_l07Less x L[j] = true
    · rw [if_pos h, ih, hd, List.reverse_append]
      simp only [List.reverse_cons, List.reverse_nil, List.nil_append, List.cons_append, insG, h, if_true, List.append_assoc]
    · rw [if_neg h]
      refine (put_end fu L x (j + 1) hj hn).trans ?_
      have e : insG x (L[j] :: (L.take j).reverse) = x :: L[j] :: (L.take j).reverse := by
        unfold insG
        rw [if_neg h]
      rw [ht, List.reverse_append]
      show _ = some (L.length + 1, flat6 ((insG x (L[j] :: (L.take j).reverse)).reverse ++ L.drop (j + 1)))
      rw [e]
      simp
theorem put_is (L : List P6o) (x : P6o) (hn : L.length < 1000) (hx : ∀ y ∈ L, key6 y ≠ key6 x) : Fo_s_l07Put 1000000 L.length (flat6 L) x = some (L.length + 1, flat6 (ins6 x L)) := by
  unfold Fo_s_l07Put G_s_l07Put
  rw [put_go 1000000 L x hn L.length (1000000 + 100) (Nat.le_refl _) (by omega), List.take_length, List.drop_length, List.append_nil, insG_eq x L.reverse (fun y hy => hx y (by simpa using hy))]
  rfl
theorem put_val (L : List P6o) (x : P6o) (hn : L.length < 1000) (hx : ∀ y ∈ L, key6 y ≠ key6 x) : s_l07Put L.length (flat6 L) x = (L.length + 1, flat6 (ins6 x L)) := by
  unfold s_l07Put
  rw [put_is L x hn hx]
  rfl

/-! The sort by swaps. -/
theorem flat6_key : ∀ (L : List P6o) (j : Nat) (h : j < L.length), ((flat6 L).drop (j * 6 + 0)).take 4 = key6 L[j]
  | [], j, h => absurd h (Nat.not_lt_zero j)
  | m :: L, 0, _ => rfl
  | m :: L, j + 1, h => by
    have ih := flat6_key L j (by simpa using h)
    rw [List.getElem_cons_succ, ← ih, flat6_cons, show (j + 1) * 6 + 0 = (j * 6 + 0) + 1 + 1 + 1 + 1 + 1 + 1 by omega]
    simp only [List.cons_append, List.nil_append, List.drop_succ_cons]
    rfl
theorem flat6_set (m : P6o) : ∀ (L : List P6o) (j : Nat), ((((((flat6 L).set (j * 6 + 0) m.1).set (j * 6 + 1) m.2.1).set (j * 6 + 2) m.2.2.1).set (j * 6 + 3) m.2.2.2.1).set (j * 6 + 4) m.2.2.2.2.1).set (j * 6 + 5) m.2.2.2.2.2 = flat6 (L.set j m)
  | [], j => by simp [flat6]
  | y :: L, 0 => by
    rw [flat6_cons]
    simp only [Nat.zero_mul, Nat.zero_add, List.cons_append, List.nil_append, List.set_cons_zero, List.set_cons_succ, flat6_cons]
  | y :: L, j + 1 => by
    rw [flat6_cons]
    have e : ∀ q, (j + 1) * 6 + q = (j * 6 + q) + 1 + 1 + 1 + 1 + 1 + 1 := fun q => by omega
    rw [e, e, e, e, e, e]
    simp only [List.cons_append, List.nil_append, List.set_cons_succ, flat6_cons]
    have ih := flat6_set m L j
    simp only [Nat.add_zero] at ih ⊢
    rw [ih]
theorem insR_len (x : P6o) : ∀ R : List P6o, (insR x R).length = R.length + 1
  | [] => rfl
  | y :: r => by
    unfold insR
    split
    · rw [List.length_cons, insR_len x r, List.length_cons]
    · rfl
theorem ins6_len (x : P6o) (L : List P6o) : (ins6 x L).length = L.length + 1 := by
  unfold ins6
  rw [List.length_reverse, insR_len, List.length_reverse]
theorem swap_go (fu : Nat) (p c : Int) (a b : Int × Int) (rk rh : (Int × Int × Int × Int) → Bool) (l16 : List Int) (t21 : Int) (l16' : List Int) (t43 : Int) (rec0 : List Int → Nat → Int → Option (Nat × List Int)) (rec3 : List Int → Int → Option (Nat × List Int)) (x : P6o) :
    ∀ (R S : List P6o) (m16 F : Nat), m16 = (R.reverse ++ x :: S).length → m16 < 1000 → R.length < F → L_i_movesWith_4 fu p c a b rk rh l16 m16 t21 l16' t43 rec0 rec3 F (flat6 (R.reverse ++ x :: S)) ((R.length : Nat) : Int) = rec3 (flat6 ((insR x R).reverse ++ S)) (wI (t43 + 1))
  | R, S, m16, 0, _, _, h => absurd h (Nat.not_lt_zero _)
  | [], S, m16, F + 1, hm, hn, _ => by
    show B_i_movesWith_4 p c a b rk rh l16 m16 t21 l16' t43 rec0 rec3 _ (flat6 (x :: S)) ((0 : Nat) : Int) = _
    unfold B_i_movesWith_4
    rw [if_neg (by simp)]
    rfl
  | y :: r, S, m16, F + 1, hm, hn, hF => by
    have ih := swap_go fu p c a b rk rh l16 t21 l16' t43 rec0 rec3 x r (y :: S) m16 F (by rw [hm]; simp) hn (by simpa using hF)
    have hL : (y :: r).reverse ++ x :: S = r.reverse ++ y :: x :: S := by simp
    have hlen : m16 = r.length + 2 + S.length := by rw [hm]; simp; omega
    have hw : wI (((y :: r).length : Nat) - 1 : Int) = ((r.length : Nat) : Int) := by
      rw [wI_eq, show ((((y :: r).length : Nat) : Int) - 1) = (r.length : Int) by simp only [List.length_cons]; omega]
      unfold wrap64
      omega
    have hk : (((y :: r).length : Nat) : Int).toNat = r.length + 1 := by rw [Int.toNat_natCast, List.length_cons]
    have hj : ((r.length : Nat) : Int).toNat = r.length := Int.toNat_natCast _
    have hll : (r.reverse ++ y :: x :: S).length = m16 := by rw [hlen]; simp; omega
    have gx : (r.reverse ++ y :: x :: S)[r.length + 1]'(by omega) = x := by simp
    have gy : (r.reverse ++ y :: x :: S)[r.length]'(by omega) = y := by simp
    have kx := flat6_key (r.reverse ++ y :: x :: S) (r.length + 1) (by omega)
    have ky := flat6_key (r.reverse ++ y :: x :: S) r.length (by omega)
    have rx := flat6_row (r.reverse ++ y :: x :: S) (r.length + 1) (by omega)
    have ry := flat6_row (r.reverse ++ y :: x :: S) r.length (by omega)
    rw [gx] at kx rx
    rw [gy] at ky ry
    have hfl := flat6_len (r.reverse ++ y :: x :: S)
    rw [hll] at hfl
    have d1 : (decide ((0 : Int) ≤ (((y :: r).length : Nat) : Int)) && decide ((((y :: r).length : Nat) : Int) < ((m16 : Nat) : Int))) = true := by simp; omega
    have d2 : (decide ((0 : Int) ≤ ((r.length : Nat) : Int)) && decide (((r.length : Nat) : Int) < ((m16 : Nat) : Int))) = true := by simp; omega
    have b1 : Nat.ble ((r.length + 1) * 6 + 6) (flat6 (r.reverse ++ y :: x :: S)).length = true := Nat.ble_eq_true_of_le (by rw [hfl]; omega)
    have b2 : Nat.ble (r.length * 6 + 6) (flat6 (r.reverse ++ y :: x :: S)).length = true := Nat.ble_eq_true_of_le (by rw [hfl]; omega)
    show B_i_movesWith_4 p c a b rk rh l16 m16 t21 l16' t43 rec0 rec3 (L_i_movesWith_4 fu p c a b rk rh l16 m16 t21 l16' t43 rec0 rec3 F) (flat6 ((y :: r).reverse ++ x :: S)) (((y :: r).length : Nat) : Int) = _
    rw [hL]
    simp only [Prod.ext_iff] at rx ry
    obtain ⟨x0, x1, x2, x3, x4, x5⟩ := rx
    obtain ⟨y0, y1, y2, y3, y4, y5⟩ := ry
    unfold B_i_movesWith_4
    rw [hw, hk, hj, kx, ky, if_pos (by simp), if_pos d1, if_pos d2, if_pos (by rfl)]
    have hb : i_before 4 (key6 x) 4 (key6 y) = lt6 x y := rfl
    rw [hb]
    by_cases h : lt6 x y = true
    · rw [if_pos h, if_pos d2, if_pos b2, if_pos d1, if_pos b1, if_pos d1, if_pos b1, if_pos d2, if_pos (by simp only [List.length_set]; exact b2)]
      rw [x0, x1, x2, x3, x4, x5, y0, y1, y2, y3, y4, y5, flat6_set, flat6_set]
      have e : ((r.reverse ++ y :: x :: S).set (r.length + 1) y).set r.length x = r.reverse ++ x :: y :: S := by
        rw [List.set_append_right _ _ (by simp), List.set_append_right _ _ (by simp)]
        simp
      have ep : insR x (y :: r) = y :: insR x r := by
        show (if lt6 x y = true then y :: insR x r else x :: y :: r) = _
        rw [if_pos h]
      rw [e, ih, ep]
      simp
    · rw [if_neg h]
      unfold insR
      rw [if_neg h]
      simp
theorem sortl_go (fu : Nat) (p c : Int) (a b : Int × Int) (rk rh : (Int × Int × Int × Int) → Bool) (l16 : List Int) (t21 : Int) (rec0 : List Int → Nat → Int → Option (Nat × List Int)) (m16 : Nat) (hn : m16 < 1000) (hfu : 1000 < fu) :
    ∀ (Q A : List P6o) (F : Nat), m16 = (A ++ Q).length → Q.length < F → L_i_movesWith_3 fu p c a b rk rh l16 m16 t21 rec0 F (flat6 (A ++ Q)) ((A.length : Nat) : Int) = some (m16, flat6 (Q.foldl (fun A x => ins6 x A) A))
  | Q, A, 0, _, h => absurd h (Nat.not_lt_zero _)
  | [], A, F + 1, hm, _ => by
    show B_i_movesWith_3 p c a b rk rh l16 m16 t21 rec0 _ _ (flat6 (A ++ [])) ((A.length : Nat) : Int) = _
    unfold B_i_movesWith_3
    rw [if_neg (by rw [hm]; simp), List.append_nil]
    rfl
  | x :: Q, A, F + 1, hm, hF => by
    have ih := sortl_go fu p c a b rk rh l16 t21 rec0 m16 hn hfu Q (ins6 x A) F (by rw [hm, List.length_append, List.length_append, ins6_len, List.length_cons]; omega) (by simpa using hF)
    have hA : A.length < 1000 := by rw [hm, List.length_append] at hn; omega
    have hs := swap_go fu p c a b rk rh l16 t21 (flat6 (A ++ x :: Q)) ((A.length : Nat) : Int) rec0 (L_i_movesWith_3 fu p c a b rk rh l16 m16 t21 rec0 F) x A.reverse Q m16 fu (by rw [List.reverse_reverse]; exact hm) hn (by rw [List.length_reverse]; omega)
    rw [List.reverse_reverse, List.length_reverse] at hs
    have hw : wI (((A.length : Nat) : Int) + 1) = (((ins6 x A).length : Nat) : Int) := by
      rw [ins6_len, wI_eq]
      unfold wrap64
      omega
    show B_i_movesWith_3 p c a b rk rh l16 m16 t21 rec0 (L_i_movesWith_4 fu p c a b rk rh l16 m16 t21 (flat6 (A ++ x :: Q)) ((A.length : Nat) : Int) rec0 (L_i_movesWith_3 fu p c a b rk rh l16 m16 t21 rec0 F) fu) (L_i_movesWith_3 fu p c a b rk rh l16 m16 t21 rec0 F) (flat6 (A ++ x :: Q)) ((A.length : Nat) : Int) = _
    unfold B_i_movesWith_3
    rw [if_pos (by rw [hm]; simp; omega), hs, hw]
    exact ih
theorem fold_len : ∀ L A : List P6o, (L.foldl (fun A x => ins6 x A) A).length = A.length + L.length
  | [], A => rfl
  | x :: L, A => by
    show (L.foldl _ (ins6 x A)).length = _
    rw [fold_len L, ins6_len, List.length_cons]
    omega
theorem sort6_len (L : List P6o) : (sort6 L).length = L.length := by
  have h := fold_len L []
  simp only [List.length_nil, Nat.zero_add] at h
  exact h
theorem fold_mem : ∀ L A : List P6o, ∀ y, y ∈ L.foldl (fun A x => ins6 x A) A → y ∈ A ∨ y ∈ L
  | [], A, y, h => Or.inl h
  | x :: L, A, y, h => by
    rcases fold_mem L (ins6 x A) y h with h | h
    · rcases ins6_mem.1 h with rfl | h
      · exact Or.inr (by simp)
      · exact Or.inl h
    · exact Or.inr (by simp [h])
theorem sort6_mem {L : List P6o} {y : P6o} (h : y ∈ sort6 L) : y ∈ L := by
  rcases fold_mem L [] y h with h | h
  · cases h
  · exact h
theorem sort6_snoc (L : List P6o) (x : P6o) : ins6 x (sort6 L) = sort6 (L ++ [x]) := by
  unfold sort6
  rw [List.foldl_append]
  rfl
def aboutC (p : Int) (a c : Int × Int) (m : P6o) : P6o := (m.1, m.2.1, m.2.2.1, m.2.2.2.1, (s_l01Minus p c (s_l07Lead p m a)).1, (s_l01Minus p c (s_l07Lead p m a)).2)
theorem aboutC_key (p : Int) (a c : Int × Int) (m : P6o) : key6 (aboutC p a c m) = key6 m := rfl

/-! The moves that a list of matrices gives. -/
abbrev P4o := Int × Int × Int × Int
def flat4 (L : List P4o) : List Int := L.flatMap fun m => [m.1, m.2.1, m.2.2.1, m.2.2.2]
theorem flat4_cons (m : P4o) (L : List P4o) : flat4 (m :: L) = [m.1, m.2.1, m.2.2.1, m.2.2.2] ++ flat4 L := rfl
theorem flat4_len : ∀ L : List P4o, (flat4 L).length = 4 * L.length
  | [] => rfl
  | m :: L => by
    rw [flat4_cons, List.length_append, flat4_len L, List.length_cons]
    simp
    omega
theorem flat4_row : ∀ (L : List P4o) (j : Nat) (h : j < L.length), ((flat4 L).getD (j * 4 + 0) 0, (flat4 L).getD (j * 4 + 1) 0, (flat4 L).getD (j * 4 + 2) 0, (flat4 L).getD (j * 4 + 3) 0) = L[j]
  | [], j, h => absurd h (Nat.not_lt_zero j)
  | m :: L, 0, _ => rfl
  | m :: L, j + 1, h => by
    have ih := flat4_row L j (by simpa using h)
    rw [List.getElem_cons_succ, ← ih, flat4_cons]
    have e : ∀ q, ([m.1, m.2.1, m.2.2.1, m.2.2.2] ++ flat4 L).getD ((j + 1) * 4 + q) 0 = (flat4 L).getD (j * 4 + q) 0 := fun q => by
      rw [show (j + 1) * 4 + q = (j * 4 + q) + 1 + 1 + 1 + 1 by omega]
      simp only [List.cons_append, List.nil_append, List.getD_cons_succ]
    rw [e, e, e, e]
/-- A matrix with the shift that takes a to b. -/
def shiftM (p : Int) (a b : Int × Int) (m : P4o) : P6o := (m.1, m.2.1, m.2.2.1, m.2.2.2, (i_less p b (i_turned p m a)).1, (i_less p b (i_turned p m a)).2)
theorem filt_go {p c : Int} (hp : prB p = true) (a b : Int × Int) (rk rh : P4o → Bool) {KL : List P4o} (hk : i_keepers p c = (KL.length, flat4 KL)) (hr : ∀ m, rk m = true) :
    ∀ (Q D : List P4o) (A : List P6o) (F : Nat), KL = D ++ Q → A.length + Q.length < 1000 → KL.length < 1000 → Q.length < F → L_i_movesWith_0 1000000 p c a b rk rh F (flat6 A) A.length ((D.length : Nat) : Int) =
      some ((A ++ (Q.filter rh).map (shiftM p a b)).length, flat6 (sort6 (A ++ (Q.filter rh).map (shiftM p a b))))
  | Q, D, A, 0, _, _, _, h => absurd h (Nat.not_lt_zero _)
  | [], D, A, F + 1, e, hn, hK, _ => by
    have hs := sortl_go 1000000 p c a b rk rh (flat6 A) ((D.length : Nat) : Int) (L_i_movesWith_0 1000000 p c a b rk rh F) A.length (by simpa using hn) (by omega) A [] 1000000 (by simp) (by simp at hn; omega)
    show B_i_movesWith_0 p c a b rk rh (L_i_movesWith_3 1000000 p c a b rk rh (flat6 A) A.length ((D.length : Nat) : Int) (L_i_movesWith_0 1000000 p c a b rk rh F) 1000000) (L_i_movesWith_0 1000000 p c a b rk rh F) (flat6 A) A.length ((D.length : Nat) : Int) = _
    unfold B_i_movesWith_0
    rw [if_neg (by rw [hk, e]; simp)]
    simp only [List.filter_nil, List.map_nil, List.append_nil]
    exact hs
  | m :: Q, D, A, F + 1, e, hn, hK, hF => by
    have hlt : D.length < KL.length := by rw [e]; simp
    have hrow := flat4_row KL D.length hlt
    have hg : KL[D.length] = m := by simp only [e]; simp
    rw [hg] at hrow
    have hw : wI (((D.length : Nat) : Int) + 1) = (((D ++ [m]).length : Nat) : Int) := by
      rw [wI_eq, List.length_append]
      unfold wrap64
      simp
      omega
    have hfl := flat4_len KL
    have e2 : KL = (D ++ [m]) ++ Q := by rw [e]; simp
    show B_i_movesWith_0 p c a b rk rh (L_i_movesWith_3 1000000 p c a b rk rh (flat6 A) A.length ((D.length : Nat) : Int) (L_i_movesWith_0 1000000 p c a b rk rh F) 1000000) (L_i_movesWith_0 1000000 p c a b rk rh F) (flat6 A) A.length ((D.length : Nat) : Int) = _
    unfold B_i_movesWith_0
    have r0 := congrArg (fun z : P4o => z.1) hrow
    have r1 := congrArg (fun z : P4o => z.2.1) hrow
    have r2 := congrArg (fun z : P4o => z.2.2.1) hrow
    have r3 := congrArg (fun z : P4o => z.2.2.2) hrow
    dsimp only at r0 r1 r2 r3
    simp only [hk]
    rw [if_pos (by simpa using hlt), if_pos (by simpa using hlt), if_pos (by rw [Int.toNat_natCast]; exact Nat.ble_eq_true_of_le (by omega)), Int.toNat_natCast, r0, r1, r2, r3, if_pos (hr _), hw]
    by_cases h : rh m = true
    · have ih := filt_go hp a b rk rh hk hr Q (D ++ [m]) (A ++ [shiftM p a b m]) F e2 (by simp at hn ⊢; omega) hK (by simpa using hF)
      rw [if_pos h, if_pos hp, if_pos hp, if_pos (by rw [Nat.ble_eq_true_of_le (show 0 ≤ 1 by omega), Nat.ble_eq_true_of_le (show A.length + 1 ≤ 1000000 by simp at hn; omega)]; rfl)]
      rw [List.filter_cons_of_pos h, List.map_cons]
      have ef : flat6 (A ++ [shiftM p a b m]) = flat6 A ++ [m.1, m.2.1, m.2.2.1, m.2.2.2, (i_less p b (i_turned p m a)).1, (i_less p b (i_turned p m a)).2] := by rw [flat6_app]; rfl
      rw [ef, List.length_append, List.append_assoc] at ih
      exact ih
    · have ih := filt_go hp a b rk rh hk hr Q (D ++ [m]) A F e2 (by simp at hn ⊢; omega) hK (by simpa using hF)
      rw [if_neg h, List.filter_cons_of_neg h]
      exact ih
theorem movesWith_is {p c : Int} (hp : prB p = true) (a b : Int × Int) (rk rh : P4o → Bool) {KL : List P4o} (hk : Fo_i_keepers 1000000 p c = some (KL.length, flat4 KL)) (hK : KL.length < 1000) (hr : ∀ m, rk m = true) :
    Fo_i_movesWith 1000000 p c a b rk rh = some (((KL.filter rh).map (shiftM p a b)).length, flat6 (sort6 ((KL.filter rh).map (shiftM p a b)))) := by
  unfold Fo_i_movesWith G_i_movesWith
  rw [if_pos (by rw [hk]; rfl)]
  have hk' : i_keepers p c = (KL.length, flat4 KL) := by unfold i_keepers; rw [hk]; rfl
  exact filt_go hp a b rk rh hk' hr KL [] [] 1000000 rfl (by simpa using hK) hK (by omega)

/-! The finite facts on keepers and on the reference's lists. -/
def unflat4 : Nat → List Int → List P4o
  | 0, _ => []
  | n + 1, a :: b :: c :: d :: l => (a, b, c, d) :: unflat4 n l
  | _ + 1, _ => []
def unflat6 : Nat → List Int → List P6o
  | 0, _ => []
  | n + 1, a :: b :: c :: d :: s :: t :: l => (a, b, c, d, s, t) :: unflat6 n l
  | _ + 1, _ => []
def distB : List P6o → Bool
  | [] => true
  | x :: l => l.all (fun y => key6 x != key6 y) && distB l
theorem distB_of : ∀ L : List P6o, distB L = true → L.Pairwise (fun m n => key6 m ≠ key6 n)
  | [], _ => List.Pairwise.nil
  | x :: l, h => by
    unfold distB at h
    rw [Bool.and_eq_true] at h
    exact List.pairwise_cons.2 ⟨fun y hy => by simpa using List.all_eq_true.1 h.1 y hy, distB_of l h.2⟩
def toM (m : P4o) : P6o := (m.1, m.2.1, m.2.2.1, m.2.2.2, 0, 0)
def factB (p c : Int) (kn : Nat) (kl : List Int) (un : Nat) (ul : List Int) (vn : Nat) (vl : List Int) (K : List P4o) (U V : List P6o) : Bool :=
  (kl == flat4 K) && ((ul == flat6 U) && ((vl == flat6 V) && (Nat.beq K.length kn && (Nat.beq U.length un && (Nat.beq V.length vn && (Nat.ble K.length 400 && (Nat.beq K.length (2 * U.length) && (Nat.beq U.length V.length &&
    ((Nat.beq (U.length + 1) p.toNat || Nat.beq U.length (p.toNat + 1)) && (distB (K.map toM) && (distB (V ++ U) && ((sort6 (K.map toM) == sort6 (V ++ U)) && ((sort6 ((K.filter fun m => i_sign p m == 1).map toM) == U) && K.all fun m => i_areNumbers p [m.1, m.2.1, m.2.2.1, m.2.2.2] && i_keeps p c m)))))))))))))
def keyB (p c : Int) : Bool := match Fo_i_keepers 1000000 p c, Fo_s_l07All 1000000 p c 1, Fo_s_l07All 1000000 p c (-1) with
  | some k, some u, some v => factB p c k.1 k.2 u.1 u.2 v.1 v.2 (unflat4 k.1 k.2) (unflat6 u.1 u.2) (unflat6 v.1 v.2)
  | _, _, _ => false
structure Facts (p c : Int) (K : List P4o) (U V : List P6o) : Prop where
  k : Fo_i_keepers 1000000 p c = some (K.length, flat4 K)
  u : Fo_s_l07All 1000000 p c 1 = some (U.length, flat6 U)
  v : Fo_s_l07All 1000000 p c (-1) = some (V.length, flat6 V)
  kn : K.length ≤ 400
  ku : K.length = 2 * U.length
  uv : U.length = V.length
  up : U.length + 1 = p.toNat ∨ U.length = p.toNat + 1
  kd : (K.map toM).Pairwise (fun m n => key6 m ≠ key6 n)
  vd : (V ++ U).Pairwise (fun m n => key6 m ≠ key6 n)
  so : sort6 (K.map toM) = sort6 (V ++ U)
  su : sort6 ((K.filter fun m => i_sign p m == 1).map toM) = U
  km : ∀ m ∈ K, i_areNumbers p [m.1, m.2.1, m.2.2.1, m.2.2.2] = true ∧ i_keeps p c m = true
theorem facts_of {p c : Int} (h : keyB p c = true) : ∃ K U V, Facts p c K U V := by
  unfold keyB at h
  generalize hk : Fo_i_keepers 1000000 p c = k at h
  generalize hu : Fo_s_l07All 1000000 p c 1 = u at h
  generalize hv : Fo_s_l07All 1000000 p c (-1) = v at h
  match k, u, v, h with
  | some k, some u, some v, h =>
    have h : factB p c k.1 k.2 u.1 u.2 v.1 v.2 (unflat4 k.1 k.2) (unflat6 u.1 u.2) (unflat6 v.1 v.2) = true := h
    generalize unflat4 k.1 k.2 = K at h
    generalize unflat6 u.1 u.2 = U at h
    generalize unflat6 v.1 v.2 = V at h
    unfold factB at h
    simp only [Bool.and_eq_true] at h
    obtain ⟨h1, h2, h3, h4, h5, h6, h7, h8, h9, h10, h11, h12, h13, h14, h15⟩ := h
    have h1 := eq_of_beq h1; have h2 := eq_of_beq h2; have h3 := eq_of_beq h3
    have h4 := Nat.eq_of_beq_eq_true h4; have h5 := Nat.eq_of_beq_eq_true h5; have h6 := Nat.eq_of_beq_eq_true h6
    refine ⟨K, U, V, ?_, ?_, ?_, Nat.le_of_ble_eq_true h7, Nat.eq_of_beq_eq_true h8, Nat.eq_of_beq_eq_true h9, ?_, distB_of _ h11, distB_of _ h12, eq_of_beq h13, eq_of_beq h14, fun m hm => by simpa using List.all_eq_true.1 h15 m hm⟩
    · rw [hk, h4, ← h1]
    · rw [hu, h5, ← h2]
    · rw [hv, h6, ← h3]
    · rw [Bool.or_eq_true] at h10
      rcases h10 with h | h
      · exact Or.inl (Nat.eq_of_beq_eq_true h)
      · exact Or.inr (Nat.eq_of_beq_eq_true h)
theorem lt6_pair {L : List P6o} (h : L.Pairwise (fun a b => lt6 a b = true)) : L.Pairwise (fun m n => key6 m ≠ key6 n) := h.imp fun q => lt6_ne q
theorem facts_sorted {p c : Int} {K : List P4o} {U V : List P6o} (F : Facts p c K U V) : U.Pairwise (fun a b => lt6 a b = true) := by
  rw [← F.su]
  refine sort6_sorted ?_
  have : ((K.filter fun m => i_sign p m == 1).map toM) = (K.map toM).filter fun m => i_sign p (m.1, m.2.1, m.2.2.1, m.2.2.2.1) == 1 := by
    rw [List.filter_map]
    rfl
  rw [this]
  exact F.kd.filter _
theorem iturns_is {p c : Int} (hp : prB p = true) {K : List P4o} {U V : List P6o} (F : Facts p c K U V) (a : Int × Int) : Fo_i_turnsAbout p c a = some (U.length, flat6 (U.map fun m => s_l07About p m a)) := by
  have hm := movesWith_is (c := c) hp a a (fun _ => prB p) (fun a0 => i_turnsAbout_c1 a0 p) F.k (by have := F.kn; omega) (fun _ => hp)
  have e : ((K.filter fun a0 => i_turnsAbout_c1 a0 p).map (shiftM p a a)) = ((K.filter fun m => i_sign p m == 1).map toM).map fun m => s_l07About p m a := by
    rw [List.map_map]
    rfl
  rw [e, ← sort6_map (fun m => s_l07About p m a) (fun _ => rfl), F.su] at hm
  have hl : (((K.filter fun m => i_sign p m == 1).map toM).map fun m => s_l07About p m a).length = U.length := by
    rw [List.length_map, ← F.su, sort6_len]
  rw [hl] at hm
  unfold Fo_i_turnsAbout
  have hv : i_movesWith p c a a (fun _ => prB p) (fun a0 => i_turnsAbout_c1 a0 p) = (U.length, flat6 (U.map fun m => s_l07About p m a)) := by
    unfold i_movesWith
    rw [hm]
    rfl
  rw [hm, hv]
  rfl

end Go.Proofs.YtoblkbpejfojjaaGreatDoor
