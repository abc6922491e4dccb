import Derived.Test.YtnijajjdldijpaaDc
set_option linter.unusedSimpArgs false
set_option linter.unusedVariables false
namespace Go.Proofs.Ytnijajjdldijpaa
open Go.RowKit
/-! What an operation leaves behind. -/
structure Spec (S : Sums) (s : FSt) (o : Oper) (r : Out) : Prop where
  drop : r.drop = none
  upd : cls S o.op ≠ 3 → r.upd = none
  st : cls S o.op = 3 → r.news = []
  ids : ∀ x ∈ r.news, ∃ d j, o.dst = some d ∧ j < 4 ∧ x.1 = 4 * d + j
  live : ∀ u, r.upd = some u → (s.heap u.1).isSome = true
  ok : ∀ H', Grow s.heap H' → (∀ x ∈ r.news, (H' x.1).isSome = true) → SVok H' r.v ∧ (∀ x ∈ r.news, Bok H' x.2) ∧ ∀ u, r.upd = some u → Bok H' u.2
section
variable {P : Program} {S : Sums} {n : Nat} {s s' : FSt} {H H' : Nat → Option Blk} {o q : Oper} {r : Out}
theorem mem_one {α : Type} {x y : α} (h : x ∈ [y]) : x = y := by simpa using h
theorem spec_pure {c : Bool} {v : SV} (h : SVok s.heap v) : Spec S s o (.pure c v) where
  drop := rfl
  upd := fun _ => rfl
  st := fun _ => rfl
  ids := fun x hx => by cases hx
  live := fun u hu => by cases hu
  ok := fun H' hg _ => ⟨h.grow hg, fun x hx => (by cases hx), fun u hu => (by cases hu)⟩
theorem spec_new {c : Bool} {v : SV} {d : Nat} {b : Blk} (hd : o.dst = some d) (hcl : cls S o.op ≠ 3) (h : ∀ H', Grow s.heap H' → (H' (4 * d)).isSome = true → SVok H' v ∧ Bok H' b) : Spec S s o ⟨c, v, [(4 * d, b)], none, none⟩ where
  drop := rfl
  upd := fun _ => rfl
  st := fun e => absurd e hcl
  ids := fun x hx => by
    obtain rfl : x = (4 * d, b) := mem_one hx
    exact ⟨d, 0, hd, by omega, rfl⟩
  live := fun u hu => by cases hu
  ok := fun H' hg hl => by
    have := h H' hg (hl (4 * d, b) (by simp))
    refine ⟨this.1, fun x hx => ?_, fun u hu => (by cases hu)⟩
    obtain rfl : x = (4 * d, b) := mem_one hx
    exact this.2
theorem spec_upd {id : Nat} {b b' : Blk} {c : Bool} (hcl : cls S o.op = 3) (hb : s.heap id = some b) (h : ∀ H', Grow s.heap H' → Bok H' b') : Spec S s o ⟨c, .val undef, [], some (id, b'), none⟩ where
  drop := rfl
  upd := fun e => absurd hcl e
  st := fun _ => rfl
  ids := fun x hx => by cases hx
  live := fun u hu => by
    simp only [Option.some.injEq] at hu
    subst hu
    exact live_some hb
  ok := fun H' hg _ => by
    refine ⟨True.intro, fun x hx => (by cases hx), fun u hu => ?_⟩
    simp only [Option.some.injEq] at hu
    subst hu
    exact h H' hg
theorem newSV_ok {H : Nat → Option Blk} : ∀ {cells : List SV} {bcs : List BC}, (∀ x ∈ cells, SVok H x) → ∀ x ∈ newSV cells bcs, SVok H x
  | [], [], _, x, hx => by simp [newSV] at hx
  | [], .v _ :: _, _, x, hx => by simp [newSV] at hx
  | [], .s _ _ :: _, _, x, hx => by simp [newSV] at hx
  | _ :: _, [], _, x, hx => by simp [newSV] at hx
  | c :: cs, .v v :: bs, h, x, hx => by
    rcases List.mem_cons.1 (show x ∈ SV.val v :: newSV cs bs from hx) with rfl | hx
    · exact True.intro
    · exact newSV_ok (fun y hy => h y (List.mem_cons_of_mem _ hy)) x hx
  | c :: cs, .s _ _ :: bs, h, x, hx => by
    rcases List.mem_cons.1 (show x ∈ c :: newSV cs bs from hx) with rfl | hx
    · exact h _ List.mem_cons_self
    · exact newSV_ok (fun y hy => h y (List.mem_cons_of_mem _ hy)) x hx
theorem isSome_of {α : Type} {o : Option α} {x : α} (h : o = some x) : o.isSome = true := by rw [h]; rfl
theorem retV_ok {H : Nat → Option Blk} (l : List Value) : SVok H (retV l) := by
  have : ∀ l : List Value, SVok H (.tup (l.map TI.v)) := by
    intro l id hid
    simp at hid
  match l with
  | [] => exact this []
  | [x] => exact True.intro
  | x :: y :: l => exact this (x :: y :: l)
theorem vals_ok (l : List Value) : ∀ v ∈ l.map SV.val, SVok H v := by
  intro v hv
  obtain ⟨x, _, rfl⟩ := List.mem_map.1 hv
  exact True.intro
theorem parts_ok {x : SV} (h : SVok H x) : ∀ v ∈ x.parts, SVok H v := by
  cases x with
  | val y => exact vals_ok _
  | agr l =>
    intro v hv
    obtain ⟨q, hq, rfl⟩ := List.mem_map.1 hv
    cases q with
    | v y => exact True.intro
    | r id => exact h id hq
  | _ =>
    intro v hv
    simp only [SV.parts, List.mem_singleton] at hv
    subst hv
    exact h
theorem setAll_ok : ∀ (xs l : List SV) (i : Nat), (∀ v ∈ l, SVok H v) → (∀ v ∈ xs, SVok H v) → ∀ v ∈ setAll l i xs, SVok H v
  | [], l, i, h, _ => h
  | x :: xs, l, i, h, hx => setAll_ok xs _ (i + 1) (fun v hv => by
      rw [set1_eq] at hv
      rcases List.mem_or_eq_of_mem_set hv with hv | rfl
      · exact h v hv
      · exact hx v (by simp)) fun v hv => hx v (by simp [hv])
theorem opVal_spec (h : opVal P s o = some r) : Spec S s o r := by
  unfold opVal at h
  split at h
  · split at h
    · simp only [Option.some.injEq] at h; subst h; exact spec_pure True.intro
    · cases h
  · cases h
theorem ld_spec (wf : WF s) {ga : Bool} {sz id off : Nat} (h : ld s.heap ga sz id off = some r) : Spec S s o r := by
  have boxc : ∀ (cells : List SV), (∀ v ∈ cells, SVok s.heap v) → (if ga = true then
      match SV.vals ((cells.drop off).take sz) with
      | some l => if Nat.beq l.length sz = true then some (Out.pure true (.val (.agg l.toArray))) else none
      | none => none
    else match cells[off]? with
      | some v => some (.pure true v)
      | none => none) = some r → Spec S s o r := by
    intro cells hok h
    split at h
    · split at h
      · split at h
        · simp only [Option.some.injEq] at h; subst h; exact spec_pure True.intro
        · cases h
      · cases h
    · split at h
      · rename_i v hv
        simp only [Option.some.injEq] at h; subst h
        exact spec_pure (hok v (List.mem_of_getElem? hv))
      · cases h
  unfold ld at h
  split at h
  · rename_i e cells hb; exact boxc cells (wf.heap id _ hb) h
  · rename_i cells hb; exact boxc cells (wf.heap id _ hb) h
  · split at h <;> (simp only [Option.some.injEq] at h; subst h; exact spec_pure True.intro)
  · split at h <;> (simp only [Option.some.injEq] at h; subst h; exact spec_pure True.intro)
  · cases h
theorem st_spec (wf : WF s) {sz id off : Nat} {x : SV} (hx : SVok s.heap x) (hcl : cls S o.op = 3) (h : st s.heap sz id off x = some r) : Spec S s o r := by
  unfold st at h
  split at h
  · split at h
    · rename_i e cells hb
      · simp only [Option.some.injEq] at h; subst h
        exact spec_upd hcl hb fun H' hg => setAll_ok _ _ _ (fun v hv => (wf.heap id _ hb v hv).grow hg) (fun v hv => (parts_ok hx v hv).grow hg)
    · rename_i e z m c hb
      split at h
      · split at h
        · simp only [Option.some.injEq] at h; subst h
          exact spec_upd hcl hb fun H' hg => True.intro
        · cases h
      · cases h
    · cases h
  · cases h
theorem news_spec : ∀ (rs : List TR) (i : Nat), (∀ x ∈ (newsOf i rs).1, ∃ j, j < rs.length ∧ x.1 = i + j ∧ ∀ H, Bok H x.2) ∧ ∀ id, TI.r id ∈ (newsOf i rs).2 → ∃ x ∈ (newsOf i rs).1, x.1 = id
  | [], i => ⟨fun x hx => (by cases hx), fun id h => (by cases h)⟩
  | .v y :: l, i => by
    obtain ⟨h1, h2⟩ := news_spec l (i + 1)
    refine ⟨fun x hx => ?_, fun id h => ?_⟩
    · obtain ⟨j, hj, e, hb⟩ := h1 x hx
      exact ⟨j + 1, by simp; omega, by omega, hb⟩
    · have h : TI.r id ∈ (newsOf (i + 1) l).2 := by
        rcases List.mem_cons.1 h with h | h
        · cases h
        · exact h
      exact h2 id h
  | .s e sz k c :: l, i => by
    obtain ⟨h1, h2⟩ := news_spec l (i + 1)
    refine ⟨fun x hx => ?_, fun id h => ?_⟩
    · rcases List.mem_cons.1 hx with rfl | hx
      · exact ⟨0, by simp, rfl, fun _ => True.intro⟩
      · obtain ⟨j, hj, e, hb⟩ := h1 x hx
        exact ⟨j + 1, by simp; omega, by omega, hb⟩
    · rcases List.mem_cons.1 h with h | h
      · cases h
        exact ⟨_, List.mem_cons_self, rfl⟩
      · obtain ⟨x, hx, e⟩ := h2 id h
        exact ⟨x, List.mem_cons_of_mem _ hx, e⟩
theorem outOf_spec {c : Bool} {rs : List TR} (hcl : cls S o.op ≠ 3) (h : outOf o.dst c rs = some r) : Spec S s o r := by
  cases hdst : o.dst with
  | none =>
    rw [hdst] at h
    unfold outOf at h
    dsimp only at h
    split at h
    · simp only [Option.some.injEq] at h; subst h; exact spec_pure True.intro
    · simp only [Option.some.injEq] at h; subst h; exact spec_pure True.intro
    · cases h
  | some d =>
    rw [hdst] at h
    unfold outOf at h
    dsimp only at h
    cases hv : isOneV rs with
    | some x => rw [hv] at h; simp only [Option.some.injEq] at h; subst h; exact spec_pure True.intro
    | none =>
      rw [hv] at h
      dsimp only at h
      unfold outMany at h
      split at h
      · rename_i hlen
        have hlen := nle hlen
        obtain ⟨h1, h2⟩ := news_spec rs (4 * d)
        have ids : ∀ x ∈ (newsOf (4 * d) rs).1, ∃ d' j, o.dst = some d' ∧ j < 4 ∧ x.1 = 4 * d' + j := fun x hx => by
          obtain ⟨j, hj, e, _⟩ := h1 x hx
          exact ⟨d, j, hdst, by omega, e⟩
        split at h
        · rename_i i hi
          simp only [Option.some.injEq] at h; subst h
          refine ⟨rfl, fun _ => rfl, fun e => absurd e hcl, ids, fun u hu => (by cases hu), fun H' hg hl => ⟨?_, fun x hx => (h1 x hx).choose_spec.2.2 H', fun u hu => (by cases hu)⟩⟩
          obtain ⟨x, hx, e⟩ := h2 i (by rw [hi]; simp)
          rw [← e]
          exact hl x hx
        · rename_i l hl'
          simp only [Option.some.injEq] at h; subst h
          refine ⟨rfl, fun _ => rfl, fun e => absurd e hcl, ids, fun u hu => (by cases hu), fun H' hg hl => ⟨?_, fun x hx => (h1 x hx).choose_spec.2.2 H', fun u hu => (by cases hu)⟩⟩
          intro id hid
          obtain ⟨x, hx, e⟩ := h2 id hid
          rw [← e]
          exact hl x hx
      · cases h
theorem opOut_spec (hc : cls S o.op ≠ 4) (wf : WF s) (h : opOut P S s o = some r) : Spec S s o r := by
  unfold opOut at h
  cases ho : o.op <;> rw [ho] at h hc <;> dsimp only at h
  case move x => simp only [Option.some.injEq] at h; subst h; exact spec_pure (wf.ev x)
  case assign x => simp only [Option.some.injEq] at h; subst h; exact spec_pure (wf.ev x)
  case pick c x y =>
    split at h
    · split at h <;> (simp only [Option.some.injEq] at h; subst h)
      · exact spec_pure (wf.ev x)
      · exact spec_pure (wf.ev y)
    · cases h
  case alloc e =>
    split at h
    · simp only [Option.some.injEq] at h; subst h
      exact spec_new (by assumption) (by rw [ho]; simp [cls]) fun H' _ hl => ⟨hl, vals_ok _⟩
    · cases h
  case box e x =>
    split at h
    · cases h
    · simp only [Option.some.injEq] at h; subst h
      exact spec_new (by assumption) (by rw [ho]; simp [cls]) fun H' hg hl => ⟨hl, fun v hv => (parts_ok (wf.ev x) v hv).grow hg⟩
    · cases h
  case buildSlice t len ps =>
    split at h
    · split at h
      · split at h
        · split at h
          · simp only [Option.some.injEq] at h; subst h
            exact spec_new (by assumption) (by rw [ho]; simp [cls]) fun H' _ hl => ⟨hl, True.intro⟩
          · cases h
        · cases h
      · cases h
    · cases h
  case load t x =>
    split at h
    · exact ld_spec wf h
    · cases h
  case store t x y =>
    split at h
    · cases h
    · split at h
      · exact st_spec wf (wf.ev y) (by rw [ho]; rfl) h
      · cases h
  case binOp op t x y u =>
    unfold opBin at h
    split at h
    · split at h
      · simp only [Option.some.injEq] at h; subst h; exact spec_pure True.intro
      · cases h
    · split at h
      · simp only [Option.some.injEq] at h; subst h; exact spec_pure True.intro
      · cases h
    · split at h
      · split at h
        · simp only [Option.some.injEq] at h; subst h; exact spec_pure True.intro
        · cases h
      · cases h
    · split at h
      · split at h
        · simp only [Option.some.injEq] at h; subst h; exact spec_pure True.intro
        · cases h
      · cases h
    · exact opVal_spec h
  case unOp op t x => exact opVal_spec h
  case build t ps =>
    split at h
    · rename_i r' hr'
      simp only [Option.some.injEq] at h; subst h
      unfold agrOut at hr'
      split at hr'
      · rename_i i x rest hps
        split at hr'
        · rename_i id hx
          have hxo := wf.ev x
          rw [hx] at hxo
          (repeat' split at hr') <;> first
            | (cases hr'; done)
            | (simp only [Option.some.injEq] at hr'; subst hr'
               refine spec_pure fun j hj => ?_
               rcases List.mem_cons.1 hj with e | hj
               · cases e; exact hxo
               · obtain ⟨v, _, e⟩ := List.mem_map.1 hj
                 cases e)
        · cases hr'
      · cases hr'
    · exact opVal_spec h
  case field t x f => exact opVal_spec h
  case convert t u x => exact opVal_spec h
  case makeFunc fn first captured =>
    cases fn <;> dsimp only at h <;> try (cases h; done)
    split at h
    · split at h
      · rename_i l hl
        simp only [Option.some.injEq] at h; subst h
        refine spec_pure fun i hi => ?_
        obtain ⟨x, hx, hr⟩ := all2_mem (optMap_all2 hl) i hi
        have hx' := wf.ev x
        split at hr
        · rename_i id he
          simp only [Option.some.injEq] at hr; subst hr
          rw [he] at hx'
          exact hx'
        · cases hr
      · cases h
    · cases h
  case makeSlice t x y =>
    split at h
    · split at h
      · split at h
        · simp only [Option.some.injEq] at h; subst h
          exact spec_new (by assumption) (by rw [ho]; simp [cls]) fun H' _ hl => ⟨hl, True.intro⟩
        · cases h
      · cases h
    · cases h
  case fieldAddr t x f =>
    have hx := wf.ev x
    split at h
    · rename_i he _
      rw [he] at hx
      split at h
      · split at h
        · split at h
          · simp only [Option.some.injEq] at h; subst h; exact spec_pure hx
          · cases h
        · cases h
      · cases h
    · cases h
  case nilCheck x =>
    have hx := wf.ev x
    split at h
    · rename_i he
      rw [he] at hx
      simp only [Option.some.injEq] at h; subst h; exact spec_pure hx
    · cases h
  case sliceToArrayPointer t x =>
    have hx := wf.ev x
    split at h
    · rename_i he _
      rw [he] at hx
      split at h
      · simp only [Option.some.injEq] at h; subst h; exact spec_pure hx
      · simp only [Option.some.injEq] at h; subst h; exact spec_pure hx
      · cases h
    · cases h
  case indexAddr t x i =>
    have hx := wf.ev x
    split at h
    · rename_i he _ _
      rw [he] at hx
      split at h
      · simp only [Option.some.injEq] at h; subst h; exact spec_pure hx
      · cases h
    · rename_i he _ _
      rw [he] at hx
      split at h
      · simp only [Option.some.injEq] at h; subst h; exact spec_pure hx
      · simp only [Option.some.injEq] at h; subst h; exact spec_pure hx
      · cases h
    · rename_i he _ _
      rw [he] at hx
      split at h
      · simp only [Option.some.injEq] at h; subst h; exact spec_pure hx
      · cases h
    · cases h
  case index t x i =>
    split at h
    · split at h
      · split at h
        · simp only [Option.some.injEq] at h; subst h; exact spec_pure True.intro
        · cases h
      · cases h
    · simp only [Option.some.injEq] at h; subst h; exact spec_pure True.intro
    · cases h
  case slice t x lo hi mx =>
    have hx := wf.ev x
    clear ho hc
    split at h
    · rename_i he _
      rw [he] at hx
      split at h
      · simp only [Option.some.injEq] at h; subst h; exact spec_pure hx
      · cases h
    · rename_i he _
      rw [he] at hx
      split at h
      · split at h
        · split at h
          · simp only [Option.some.injEq] at h; subst h; exact spec_pure hx
          · cases h
        · cases h
      · cases h
    · rename_i he _
      rw [he] at hx
      split at h
      · split at h
        · simp only [Option.some.injEq] at h; subst h; exact spec_pure hx
        · simp only [Option.some.injEq] at h; subst h; exact spec_pure hx
        · cases h
      · cases h
    · cases h
  case extract x i =>
    have hx := wf.ev x
    split at h
    · rename_i l he
      rw [he] at hx
      split at h
      · simp only [Option.some.injEq] at h; subst h; exact spec_pure True.intro
      · rename_i id hi
        simp only [Option.some.injEq] at h; subst h; exact spec_pure (hx id (List.mem_of_getElem? hi))
      · cases h
    · cases h
  case call c =>
    cases hcc : c.callee with
    | value f =>
      rw [hcc] at h
      dsimp only at h
      cases hm : mutOf S f with
      | some run =>
        cases run with
        | box run =>
          have hcl : cls S o.op = 3 := by rw [ho]; simp [cls, hcc, hm]
          rw [hm] at h
          have h : boxOut s run _ = _ := h
          unfold boxOut at h
          split at h
          · split at h
            · rename_i id _ _ e cells hb
              split at h
              · split at h
                · split at h
                  · simp only [Option.some.injEq] at h; subst h
                    refine ⟨rfl, fun e => absurd hcl e, fun _ => rfl, fun x hx => (by cases hx), fun u hu => ?_, fun H' hg _ => ⟨retV_ok _, fun x hx => (by cases hx), fun u hu => ?_⟩⟩
                    · simp only [Option.some.injEq] at hu
                      subst hu
                      exact live_some hb
                    · simp only [Option.some.injEq] at hu
                      subst hu
                      exact newSV_ok fun x hx => (wf.heap _ _ hb x hx).grow hg
                  · cases h
                · cases h
              · cases h
            · cases h
          · cases h
        | _ => exact absurd (by simp [cls, hcc, hm]) hc
      | none =>
      rw [hm] at h
      have hcl : cls S o.op ≠ 3 := by rw [ho]; simp [cls, hcc, hm]
      dsimp only at h
      split at h
      · split at h
        · split at h
          · exact outOf_spec hcl h
          · cases h
        · cases h
      · split at h
        · split at h
          · exact outOf_spec hcl h
          · cases h
        · cases h
      · cases h
    | invoke x m => rw [hcc] at h; cases h
    | builtin b =>
      rw [hcc] at h
      cases b <;> dsimp only at h <;> try (cases h; done)
      · exact absurd (by simp [cls, hcc]) hc
      · split at h
        · split at h
          · simp only [Option.some.injEq] at h; subst h; exact spec_pure True.intro
          · cases h
        · split at h
          · simp only [Option.some.injEq] at h; subst h; exact spec_pure True.intro
          · simp only [Option.some.injEq] at h; subst h; exact spec_pure True.intro
          · cases h
        · split at h
          · simp only [Option.some.injEq] at h; subst h; exact spec_pure True.intro
          · cases h
        · cases h
  all_goals cases h
end

end Go.Proofs.Ytnijajjdldijpaa
