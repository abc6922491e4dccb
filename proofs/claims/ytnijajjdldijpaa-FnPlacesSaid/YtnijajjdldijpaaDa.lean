import Derived.Test.YtnijajjdldijpaaCz
set_option linter.unusedSimpArgs false
set_option linter.unusedVariables false
namespace Go.Proofs.Ytnijajjdldijpaa
open Go.RowKit
/-! Calls. -/
section
variable {P : Program} {S : Sums} {W : World} {M : MV} {n : Nat} {s : FSt} {a : Act} {w w' : World} {ρ ρ' : Nat → Value} {H : Nat → Option Blk} {o : Oper} {r : Out} {Q : Exit → Act → World → Prop} {K : Act → World → Prop}
theorem fresh_cons {i : Nat} {b : Blk} {l : List (Nat × Blk)} (h : s.fresh ((i, b) :: l) = true) : s.heap i = none ∧ s.fresh l = true := by
  simp only [FSt.fresh] at h
  split at h
  · cases h
  · exact ⟨by assumption, h⟩
theorem fresh_set {i : Nat} {b : Blk} : ∀ {l : List (Nat × Blk)}, s.fresh l = true → (∀ x ∈ l, x.1 ≠ i) → (s.set i b).fresh l = true
  | [], _, _ => rfl
  | (j, c) :: l, h, hne => by
    obtain ⟨h1, h2⟩ := fresh_cons h
    have hj : j ≠ i := hne (j, c) (by simp)
    have : (s.set i b).heap j = none := by simp only [FSt.set, nbeq hj, cond_false]; exact h1
    simp only [FSt.fresh, this]
    exact fresh_set h2 fun x hx => hne x (by simp [hx])
theorem news_ge : ∀ (rs : List TR) (i : Nat), ∀ x ∈ (newsOf i rs).1, i ≤ x.1
  | [], i, x, h => by cases h
  | .v _ :: l, i, x, h => by have := news_ge l (i + 1) x h; omega
  | .s e sz k c :: l, i, x, h => by
    simp only [newsOf] at h
    rcases List.mem_cons.1 h with rfl | h
    · exact Nat.le_refl _
    · have := news_ge l (i + 1) x h; omega
/-- The results of a call take their names. -/
theorem R.news (B : World) : ∀ (rs : List TR) (vs : List Value) (i : Nat) (s : FSt) (ρ : Nat → Value), R P W M n s a w ρ → All2 (TRel B w) rs vs → TApart rs vs → s.fresh (newsOf i rs).1 = true → W.heap.size ≤ B.heap.size →
    (∀ j bj g, s.heap j = some bj → ownB bj = true → ownOf (ρ j) = some g → B.heap.size ≤ g → SOff g rs vs) →
    ∃ ρ', R P W M n (s.news (newsOf i rs).1) a w ρ' ∧ All2 (TIRel ρ' (s.news (newsOf i rs).1).heap) (newsOf i rs).2 vs ∧ (∀ id, (s.heap id).isSome = true → ((s.news (newsOf i rs).1).heap id).isSome = true ∧ ρ' id = ρ id)
  | [], [], i, s, ρ, h, _, _, _, _, _ => ⟨ρ, h, True.intro, fun id hid => ⟨hid, rfl⟩⟩
  | .v x :: rs, v :: vs, i, s, ρ, h, ⟨p, q⟩, hap, hf, hB, hoff => by
    obtain ⟨ρ', h1, h2, h3⟩ := R.news B rs vs (i + 1) s ρ h q (by simpa [TApart] using hap) hf hB (fun j bj g hj oj gj hg => hoff j bj g hj oj gj hg)
    exact ⟨ρ', h1, ⟨p, h2⟩, h3⟩
  | .s e sz k c :: rs, v :: vs, i, s, ρ, h, ⟨p, q⟩, hap, hf, hB, hoff => by
    obtain ⟨hc, hown⟩ := p
    obtain ⟨ap1, ap2⟩ := hap
    obtain ⟨hi, hf'⟩ := fresh_cons hf
    have hge : ∀ g, ownOf v = some g → B.heap.size ≤ g := fun g hg => (hown.lt g (by rw [ownOf_row hown]; exact hg)).1
    have hR : R P W M n (s.set i (.row e sz k c)) a w (fun x => if x = i then v else ρ x) := by
      refine h.new hi ⟨hc, ?_, fun g hg => ?_⟩ fun ob g hg j bj hj oj gj => (hoff j bj g hj oj gj (hge g hg)).1 hg
      · simp only [if_true]; exact owns_zero hown
      · simp only [if_true] at hg
        exact .inl (Nat.le_trans hB (hge g hg))
    have hset : ∀ j bj, (s.set i (.row e sz k c)).heap j = some bj → (j = i) ∨ (j ≠ i ∧ s.heap j = some bj) := by
      intro j bj hj
      by_cases e : j = i
      · exact .inl e
      · exact .inr ⟨e, by simpa only [FSt.set, nbeq e, cond_false] using hj⟩
    obtain ⟨ρ', h1, h2, h3⟩ := R.news B rs vs (i + 1) _ _ hR q ap2 (fresh_set hf' fun x hx => by have := news_ge rs (i + 1) x hx; omega) hB (by
      intro j bj g hj oj gj hgB
      rcases hset j bj hj with rfl | ⟨hne, hj⟩
      · simp only [if_true] at gj
        exact ap1 g gj
      · simp only [if_neg hne] at gj
        exact (hoff j bj g hj oj gj hgB).2)
    have hlive : ((s.set i (.row e sz k c)).heap i).isSome = true := by
      show (bif Nat.beq i i then some (Blk.row e sz k c) else s.heap i).isSome = true
      simp
    refine ⟨ρ', h1, ⟨⟨(h3 i hlive).1, ?_⟩, h2⟩, fun id hid => ?_⟩
    · rw [(h3 i hlive).2]; simp
    · have hne : id ≠ i := by rintro rfl; rw [hi] at hid; cases hid
      have : ((s.set i (.row e sz k c)).heap id).isSome = true := by simp only [FSt.set, nbeq hne, cond_false]; exact hid
      exact ⟨(h3 id this).1, by rw [(h3 id this).2, if_neg hne]⟩
theorem outOf_news {d : Option Nat} {c : Bool} {rs : List TR} (h : outOf d c rs = some r) : r.drop = none ∧ r.upd = none ∧ r.chk = c := by
  unfold outOf at h
  cases d with
  | none =>
    dsimp only at h
    split at h
    · simp only [Option.some.injEq] at h; subst h; exact ⟨rfl, rfl, rfl⟩
    · simp only [Option.some.injEq] at h; subst h; exact ⟨rfl, rfl, rfl⟩
    · cases h
  | some d =>
    dsimp only at h
    cases hv : isOneV rs with
    | some x => rw [hv] at h; simp only [Option.some.injEq] at h; subst h; exact ⟨rfl, rfl, rfl⟩
    | none =>
      rw [hv] at h
      dsimp only at h
      unfold outMany at h
      split at h
      · split at h <;> (simp only [Option.some.injEq] at h; subst h; exact ⟨rfl, rfl, rfl⟩)
      · cases h
theorem isOneV_some {rs : List TR} {x : Value} (h : isOneV rs = some x) : rs = [.v x] := by
  cases rs with
  | nil => cases h
  | cons y l =>
    cases l with
    | nil => cases y with
      | v z => simp only [isOneV, Option.some.injEq] at h; rw [h]
      | s e sz k cc => cases h
    | cons z l => cases y <;> cases h
theorem isOneV_none {rs : List TR} (h : isOneV rs = none) : ∀ x, rs = [.v x] → False := by
  rintro x rfl
  cases h
theorem newsOf_one {i j : Nat} {rs : List TR} (h : (newsOf i rs).2 = [.r j]) : ∃ e sz k cc, rs = [.s e sz k cc] := by
  cases rs with
  | nil => cases h
  | cons x l =>
    cases l with
    | nil =>
      cases x with
      | v x => cases h
      | s e sz k cc => exact ⟨e, sz, k, cc, rfl⟩
    | cons y l => cases x <;> cases y <;> cases h
theorem res_many {i : Nat} {rs : List TR} {rv : Value} (h1 : ∀ x, rs = [.v x] → False) (h2 : ∀ j, (newsOf i rs).2 = [.r j] → False) (h : ResRel w w' rs rv) : ∃ vs : List Value, rv = .tuple vs.toArray ∧ All2 (TRel w w') rs vs ∧ TApart rs vs := by
  cases rs with
  | nil => exact h
  | cons x l =>
    cases l with
    | nil =>
      cases x with
      | v x => exact (h1 x rfl).elim
      | s e sz k cc => exact (h2 i rfl).elim
    | cons y l => exact h
/-- Behind a call. -/
theorem after_call (h : R P W M n s a w ρ) (hd : inRange n o.dst = true) {c : Bool} {rs : List TR} (hr : outOf o.dst c rs = some r) (hf : s.fresh r.news = true) {rv : Value} (hg : w.grownBy w' none) (hres : ResRel w w' rs rv) :
    ∃ ρ', R P W M n (s.apply o.dst r) (a.put o.dst rv) w' ρ' := by
  have hR := h.ext hg
  have hoff : ∀ vs : List Value, ∀ j bj g, s.heap j = some bj → ownB bj = true → ownOf (ρ j) = some g → w.heap.size ≤ g → SOff g rs vs := by
    intro vs j bj g hj oj e hge
    have := own_lt (h.heap j bj hj) oj e
    omega
  cases hdst : o.dst with
  | none => exact ⟨ρ, by
      obtain ⟨h1, h2, _⟩ := outOf_news hr
      have hn : r.news = [] := by
        rw [hdst] at hr
        unfold outOf at hr
        dsimp only at hr
        split at hr
        · simp only [Option.some.injEq] at hr; subst hr; rfl
        · simp only [Option.some.injEq] at hr; subst hr; rfl
        · cases hr
      show R P W M n ((((s.dropped r.drop).news r.news).upd r.upd).put none r.v) _ _ _
      rw [h1, h2, hn]
      exact hR⟩
  | some d =>
    rw [hdst] at hr hd
    unfold outOf at hr
    dsimp only at hr
    cases hv : isOneV rs with
    | some x =>
      rw [hv] at hr
      simp only [Option.some.injEq] at hr; subst hr
      rw [isOneV_some hv] at hres
      exact ⟨ρ, hR.put hd (.inr hres)⟩
    | none =>
      rw [hv] at hr
      dsimp only at hr
      unfold outMany at hr
      split at hr
      · have key : ∀ vs : List Value, All2 (TRel w w') rs vs → TApart rs vs → s.fresh (newsOf (4 * d) rs).1 = true → _ := fun vs h1 h2 h3 => R.news w rs vs (4 * d) s ρ hR h1 h2 h3 h.grown.size (hoff vs)
        split at hr
        · rename_i i hi
          simp only [Option.some.injEq] at hr; subst hr
          obtain ⟨e, sz, k, cc, rfl⟩ := newsOf_one hi
          have hres' : TRel w w' (.s e sz k cc) rv := hres
          obtain ⟨ρ', h1, h2, h3⟩ := key [rv] ⟨hres', True.intro⟩ ⟨fun _ _ => True.intro, True.intro⟩ hf
          rw [hi] at h2
          exact ⟨ρ', h1.put hd (.inr h2.1)⟩
        · rename_i l hl
          simp only [Option.some.injEq] at hr; subst hr
          obtain ⟨vs, rfl, hall, hap⟩ := res_many (isOneV_none hv) (fun j e => hl j e) hres
          obtain ⟨ρ', h1, h2, h3⟩ := key vs hall hap hf
          exact ⟨ρ', h1.put hd (.inr ⟨vs, rfl, h2⟩)⟩
      · cases hr
end

end Go.Proofs.Ytnijajjdldijpaa
