import Derived.Test.YtnijajjdldijpaaQh
set_option linter.unusedSimpArgs false
set_option linter.unusedVariables false
namespace Go.Proofs.Ytnijajjdldijpaa
open Go.RowKit
/-! Places on a line, and null ones among them. -/
theorem product_same (p : Int) (a b : P3) : s_l09Product p a b = i_placeProduct p a b := rfl
theorem PlaceProduct_same (p : Int) (a b : P3) : i_PlaceProduct p a b = s_PlaceProduct p a b := by
  unfold i_PlaceProduct s_PlaceProduct i_PlaceProduct_c1
  rw [placecode_eq p true]
  rfl
theorem IsNullPlace_same (p : Int) (a : P3) : i_IsNullPlace p a = s_IsNullPlace p a := by
  unfold i_IsNullPlace s_IsNullPlace i_IsNullPlace_c1
  rw [code1 p true]
  rfl
theorem JoinOf_same (p : Int) (a b : P3) : i_JoinOf p a b = s_JoinOf p a b := by
  unfold i_JoinOf s_JoinOf i_JoinOf_c1
  rw [placecode_eq p true]
  refine ite_congr rfl (fun _ => rfl) fun h => ite_congr rfl (fun _ => rfl) fun _ => ?_
  rw [join_same (asked_zero (by simpa using h)).1]
theorem KindOfLine_same (p : Int) (pole : P3) : i_KindOfLine p pole = s_KindOfLine p pole := by
  unfold i_KindOfLine s_KindOfLine i_KindOfLine_c1 V_i_KindOfLine_0 V_s_KindOfLine_0
  rw [placecode_eq p true, show i_arePlaces p [pole] = i_isPlace p pole from by simp [i_arePlaces]]
  rfl
theorem placecode_zero {p : Int} {l : List P3} (h : s_l09Code p l = 0) : i_IsField p = true ∧ ∀ a ∈ l, i_isPlace p a = true := by
  rw [placecode_eq p true] at h
  obtain ⟨h1, h2⟩ := asked_zero h
  refine ⟨h1, ?_⟩
  unfold i_arePlaces at h2
  simpa using h2
theorem placecode_ok {p : Int} {l : List P3} (h : i_IsField p = true) (h2 : ∀ a ∈ l, i_isPlace p a = true) : s_l09Code p l = 0 := by
  rw [placecode_eq p true]
  have e : i_arePlaces p l = true := by unfold i_arePlaces; simpa using h2
  rw [e]
  unfold i_asked
  rw [h]
  rfl
theorem AreInLine_same (p : Int) (a b c : P3) : i_AreInLine p a b c = s_AreInLine p a b c := by
  unfold i_AreInLine s_AreInLine i_AreInLine_c1
  rw [placecode_eq p true]
  refine ite_congr rfl (fun _ => rfl) fun h => ?_
  obtain ⟨h1, h2⟩ := asked_zero (by simpa using h)
  unfold i_arePlaces at h2
  simp at h2
  rw [line_eq h1 h2.1 h2.2.1 h2.2.2]
  by_cases e : a = b
  · simp [e]
  · simp [e]
theorem PlaceOf_same (p x y z : Int) : i_PlaceOf p x y z = s_PlaceOf p x y z := by
  unfold i_PlaceOf s_PlaceOf i_PlaceOf_c1
  rw [numbers_eq p true]
  refine ite_congr rfl (fun _ => rfl) fun h => ?_
  obtain ⟨h1, h2⟩ := asked_zero (by simpa using h)
  simp only [i_areNumbers, List.all_cons, List.all_nil, Bool.and_true, Bool.and_eq_true, isNumber_iff] at h2
  rw [made_eq h1 h2.1 h2.2.1 h2.2.2]
theorem JoinOf_ok {p : Int} {a b : P3} (h : (s_JoinOf p a b).2 = 0) : i_IsField p = true ∧ i_isPlace p a = true ∧ i_isPlace p b = true ∧ a ≠ b ∧ (s_JoinOf p a b).1 = s_l09Join p a b := by
  unfold s_JoinOf at h ⊢
  by_cases c : s_l09Code p [a, b] = 0
  · obtain ⟨h1, h2⟩ := placecode_zero c
    simp only [c] at h ⊢
    by_cases e : a = b
    · simp [e] at h
    · simp at h2
      simp [e, h1, h2]
  · simp [c] at h
theorem pp_comm (p : Int) (a b : P3) : i_placeProduct p a b = i_placeProduct p b a := by
  unfold i_placeProduct
  rw [Int.mul_comm a.1, Int.mul_comm a.2.1, Int.mul_comm a.2.2]
section
variable {p : Int} {K : Type} [Lean.Grind.Field K] {φ : Int → K}
theorem on_len (H : Hom p K φ) (hf : i_IsField p = true) {pole : P3} (h : i_isPlace p pole = true) : ((places p).filter fun zz => (i_placeProduct p zz pole == 0)).length = p.toNat + 1 := by
  have hn := Pc.ne H (Pc.of H h)
  refine linear_count H hf (X := φ pole.1) (Y := φ pole.2.1) (Z := -φ pole.2.2) (by grind) fun a ha => ?_
  have := pp_zero H hf (Pc.of H ha) (Pc.of H h)
  rw [beq_iff_eq, this]
  grind
theorem nodup_one {α : Type} {l : List α} {x : α} (hn : l.Nodup) (hx : x ∈ l) (h : ∀ y ∈ l, y = x) : l.length = 1 := by
  match l, hn, hx, h with
  | [a], _, _, _ => rfl
  | a :: b :: r, hn, _, h =>
    have h1 := h a (by simp)
    have h2 := h b (by simp)
    simp [h1, h2] at hn
theorem nodup_other {α : Type} {l : List α} (x : α) (hn : l.Nodup) (h : 2 ≤ l.length) : ∃ y ∈ l, y ≠ x := by
  match l, hn, h with
  | a :: b :: r, hn, _ =>
    by_cases e : a = x
    · refine ⟨b, by simp, ?_⟩
      rintro rfl
      subst e
      simp at hn
    · exact ⟨a, by simp, e⟩
theorem one_all {α : Type} {l : List α} {x : α} (h : l.length = 1) (hx : x ∈ l) : ∀ y ∈ l, y = x := by
  match l, h with
  | [a], _ =>
    simp at hx
    simp [hx]
/-- A line has one null place if its pole is null, and else none or two. -/
theorem kind_iff (H : Hom p K φ) (hf : i_IsField p = true) {pole : P3} (h : i_isPlace p pole = true) : (((places p).filter fun zz => (i_placeProduct p zz pole == 0)).filter fun zz => i_isNullPlace p zz).length = 1 ↔ i_isNullPlace p pole = true := by
  have hp := i_IsField_ok hf
  have two := H.two_ne hf
  have mem : ∀ {a : P3}, a ∈ (((places p).filter fun zz => (i_placeProduct p zz pole == 0)).filter fun zz => i_isNullPlace p zz) ↔ i_isPlace p a = true ∧ i_placeProduct p a pole = 0 ∧ i_placeProduct p a a = 0 := by
    intro a
    rw [List.mem_filter, List.mem_filter, mem_places hf]
    unfold i_isNullPlace
    simp [and_assoc]
  have hnd : (((places p).filter fun zz => (i_placeProduct p zz pole == 0)).filter fun zz => i_isNullPlace p zz).Nodup := ((places_nodup p).filter _).filter _
  have P := Pc.of H h
  have uniq : ∀ {x y : P3}, i_isPlace p x = true → i_isPlace p y = true → x ≠ y → i_placeProduct p x x = 0 → i_placeProduct p x y = 0 → i_placeProduct p x pole = 0 → i_placeProduct p y pole = 0 → x = pole := by
    intro x y hx hy hne h1 h2 h3 h4
    have X := Pc.of H hx; have Y := Pc.of H hy
    have e1 := (pp_zero H hf X X).1 h1
    have e2 := (pp_zero H hf X Y).1 h2
    have e3 := (pp_zero H hf X P).1 h3
    have e4 := (pp_zero H hf Y P).1 h4
    rw [perp_one H hf X Y X hne e1 e2, ← perp_one H hf X Y P hne (by grind) (by grind)]
  constructor
  · intro h1
    obtain ⟨x, hx⟩ : ∃ x, x ∈ (((places p).filter fun zz => (i_placeProduct p zz pole == 0)).filter fun zz => i_isNullPlace p zz) := by
      cases hl : (((places p).filter fun zz => (i_placeProduct p zz pole == 0)).filter fun zz => i_isNullPlace p zz) with
      | nil => rw [hl] at h1; cases h1
      | cons a r => exact ⟨a, List.mem_cons_self⟩
    have all := one_all h1 hx
    obtain ⟨x1, x2, x3⟩ := mem.1 hx
    have hl := on_len H hf h
    have h3 : 3 ≤ p := by have := field_mem hf; simp at this; omega
    obtain ⟨y, hy, hyx⟩ := nodup_other x ((places_nodup p).filter fun zz => (i_placeProduct p zz pole == 0)) (by rw [hl]; omega)
    rw [List.mem_filter, mem_places hf] at hy
    obtain ⟨y1, y2⟩ := hy
    have y2 : i_placeProduct p y pole = 0 := by simpa using y2
    by_cases hxy : i_placeProduct p x y = 0
    · have := uniq x1 y1 (fun e => hyx e.symm) x3 hxy x2 y2
      subst this
      unfold i_isNullPlace
      simpa using x3
    · exfalso
      have X := Pc.of H x1; have Y := Pc.of H y1
      have q1 : ¬ _ := fun e => hxy ((pp_zero H hf X Y).2 e)
      have q2 := (pp_zero H hf X X).1 x3
      have q3 := (pp_zero H hf X P).1 x2
      have q4 := (pp_zero H hf Y P).1 y2
      generalize φ x.1 = a1 at X q1 q2 q3
      generalize φ x.2.1 = a2 at X q1 q2 q3
      generalize φ x.2.2 = a3 at X q1 q2 q3
      generalize φ y.1 = b1 at Y q1 q4
      generalize φ y.2.1 = b2 at Y q1 q4
      generalize φ y.2.2 = b3 at Y q1 q4
      generalize hu : b1 * b1 + b2 * b2 - b3 * b3 = u
      generalize hv : a1 * b1 + a2 * b2 - a3 * b3 = v at q1
      have hz : u * a1 - 2 * v * b1 ≠ 0 ∨ u * a2 - 2 * v * b2 ≠ 0 ∨ u * a3 - 2 * v * b3 ≠ 0 := by
        by_cases c1 : u * a1 - 2 * v * b1 = 0
        · by_cases c2 : u * a2 - 2 * v * b2 = 0
          · refine Or.inr (Or.inr fun c3 => hyx ?_)
            exact Pc.eq_of H Y X (by grind) (by grind) (by grind)
          · exact Or.inr (Or.inl c2)
        · exact Or.inl c1
      obtain ⟨z1, _, e1⟩ := H.sur (u * a1 - 2 * v * b1)
      obtain ⟨z2, _, e2⟩ := H.sur (u * a2 - 2 * v * b2)
      obtain ⟨z3, _, e3⟩ := H.sur (u * a3 - 2 * v * b3)
      have Z := made_pc H hf (Vl.rw hp ⟨⟨by assumption, e1.1⟩, e1.2⟩) (Vl.rw hp ⟨⟨by assumption, e2.1⟩, e2.2⟩) (Vl.rw hp ⟨⟨by assumption, e3.1⟩, e3.2⟩) hz
      have z0 := all _ (mem.2 ⟨Pc.place hp Z, (pp_zero H hf Z P).2 (by grind), (pp_zero H hf Z Z).2 (by grind)⟩)
      rw [z0] at Z
      refine hyx ?_
      obtain ⟨t, ht, t1, t2, t3, _⟩ := Z
      obtain ⟨s, hs, s1, s2, s3, _⟩ := X
      have k1 := t1.2.symm.trans s1.2
      have k2 := t2.2.symm.trans s2.2
      have k3 := t3.2.symm.trans s3.2
      exact Pc.eq_of H Y (Pc.of H x1) (by rw [s1.2, s2.2]; grind) (by rw [s3.2, s2.2]; grind) (by rw [s1.2, s3.2]; grind)
  · intro hn
    have hn' : i_placeProduct p pole pole = 0 := by unfold i_isNullPlace at hn; simpa using hn
    refine nodup_one hnd (mem.2 ⟨h, hn', hn'⟩) fun y hy => ?_
    obtain ⟨y1, y2, y3⟩ := mem.1 hy
    by_cases e : y = pole
    · exact e
    · exact uniq y1 h e y3 y2 y2 hn'
end
theorem null_count {p : Int} (h : i_IsField p = true) : ((places p).filter fun zz => i_isNullPlace p zz).length = p.toNat + 1 := by
  have hall : ∀ p ∈ ([3, 5, 7, 11, 13, 17, 19, 23, 29, 31] : List Int), ((places p).filter fun zz => i_isNullPlace p zz).length = p.toNat + 1 := by decide +kernel
  exact hall _ (field_mem h)

end Go.Proofs.Ytnijajjdldijpaa
