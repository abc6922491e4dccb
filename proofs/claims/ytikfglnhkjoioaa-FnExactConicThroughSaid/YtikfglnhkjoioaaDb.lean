import Derived.Test.YtikfglnhkjoioaaCy
set_option linter.unusedSimpArgs false
set_option linter.unusedVariables false
namespace Go.Proofs.Ytikfglnhkjoioaa
open Go.RowKit
/-! Slices made and grown; calls. -/
section
variable {P : Program} {S : Sums} {W : World} {M : MV} {n : Nat} {s : FSt} {a : Act} {w w' : World} {ρ ρ' : Nat → Value} {H : Nat → Option Blk} {o : Oper} {r : Out} {Q : Exit → Act → World → Prop} {K : Act → World → Prop}
theorem only_info {t : TypeId} {i : TypeInfo} (h : semOnly P (typeInfo t) = some i) : P.info? t = some i := by
  have : semOnly P (typeInfo t) = P.info? t := by
    show semOnly P (match P.info? t with | some d => Pure.pure d | none => stuck "no such type") = _
    cases P.info? t <;> rfl
  rw [← this]; exact h
theorem owns_zero {b e sz m : Nat} {v : Value} {xs : List Value} (h : w.ownsRow b e sz v m xs) : w.ownsRow 0 e sz v m xs := by
  refine ⟨h.1, ?_⟩
  rcases h.2 with h | ⟨g, cap, cur, h1, h2, h3⟩
  · exact .inl h
  · exact .inr ⟨g, cap, cur, h1, Nat.zero_le _, h3⟩
theorem made_spec {z : Value} (h : z.oneCell' = true) (k : Nat) : (madeC z k).ok ∧ (madeC z k).toVals = List.replicate k z := by
  unfold madeC
  split
  · exact ⟨True.intro, by simp [Cells.toVals]⟩
  · exact ⟨True.intro, by simp [Cells.toVals]⟩
  · exact ⟨True.intro, by simp [Cells.toVals]⟩
  · exact ⟨fun u hu => by rw [List.eq_of_mem_replicate hu]; exact h, rfl⟩
theorem one_cells {z : Value} (h : z.oneCell' = true) : z.cells = #[z] := by cases z <;> first | rfl | cases h
theorem intsOf_cells : ∀ {l : List Value} {zs : List Int}, intsOf l = some zs → l = zs.map (Value.int .i64)
  | [], zs, h => by simp only [intsOf, Option.some.injEq] at h; subst h; rfl
  | v :: l, zs, h => by
    cases v with
    | int k n =>
      cases k <;> first | (simp only [intsOf] at h; cases h; done) | skip
      simp only [intsOf] at h
      split at h
      · rename_i m hm
        simp only [Option.some.injEq] at h; subst h
        rw [intsOf_cells hm]; rfl
      · cases h
    | _ => simp [intsOf] at h
theorem madeR_spec {z : Value} {sz k : Nat} {c : Cells} (h : madeR z sz k = some c) : c.ok ∧ c.toVals = (madeCells z.cells (k * sz)).toList := by
  unfold madeR at h
  split at h
  · split at h
    · rename_i ho
      simp only [Option.some.injEq] at h; subst h
      obtain ⟨c1, c2⟩ := made_spec ho k
      exact ⟨c1, by rw [c2, one_cells ho, Nat.mul_one, toList_madeCells_one]⟩
    · cases h
  · split at h
    · rename_i zs hz
      split at h
      · rename_i hck
        simp only [Option.some.injEq] at h; subst h
        simp only [Bool.and_eq_true] at hck
        have hl := Nat.eq_of_beq_eq_true hck.2
        have hc := intsOf_cells hz
        have hsz : z.cells.size = sz := by rw [← Array.length_toList, hc, List.length_map]; exact hl
        refine ⟨True.intro, ?_⟩
        apply List.ext_getElem
        · simp [Cells.toVals, size_madeCells]
        · intro i h1 h2
          have hi : i < k * sz := by simpa [Cells.toVals] using h1
          have hs0 : 0 < sz := by
            rcases Nat.eq_zero_or_pos sz with e | e
            · subst e; simp at hi
            · exact e
          have hm : i % sz < zs.length := by rw [hl]; exact Nat.mod_lt _ hs0
          have h0 : zs[i % sz] = 0 := by
            have := List.all_eq_true.1 hck.1 _ (List.getElem_mem hm)
            simpa using this
          have hq : z.cells[i % sz]? = some (Value.int .i64 0) := by
            rw [← Array.getElem?_toList, hc, List.getElem?_map, List.getElem?_eq_getElem hm, h0]; rfl
          have hb : i % sz < z.cells.size := by rw [hsz]; exact Nat.mod_lt _ hs0
          have hv : z.cells[i % sz]! = Value.int .i64 0 := by
            rw [getElem!_pos z.cells _ hb]
            exact Option.some.inj ((Array.getElem?_eq_getElem hb).symm.trans hq)
          simp [Cells.toVals, madeCells, hsz, hv]
      · cases h
    · cases h
theorem goal_makeSlice (h : R P W M n s a w ρ) (hd : inRange n o.dst = true) {t : TypeId} {x y : Operand} (ho : o.op = .makeSlice t x y)
    (hr : (match o.dst, s.ev x, s.ev y, P.underlying t with
    | some d, .val (.int .i64 n), .val (.int .i64 m), some (.slice e) => match semOnly P (sizeOf e), semOnly P (zeroValue e), semOnly P (typeInfo e) with
      | some sz, some z, some i => match madeR z sz n.toNat with
        | some c => if Nat.ble i.bytes 1000 = true then some (⟨decide (0 ≤ n) && decide (n ≤ 2000000) && n == m, .row (4 * d), [(4 * d, .row e sz n.toNat c)], none, none⟩ : Out) else none
        | none => none
      | _, _, _ => none
    | _, _, _, _ => none) = some r) (hchk : r.chk = true) (hf : s.fresh r.news = true) : Goal P W M n o s r a w Q := by
  split at hr
  · rename_i d k m e hdst hx hy hu
    split at hr
    · rename_i sz z i hs hz hi
      split at hr
      · rename_i c hmade
        split at hr
        · rename_i hck
          simp only [Option.some.injEq] at hr; subst hr
          simp only [Bool.and_eq_true, decide_eq_true_eq, beq_iff_eq] at hchk
          obtain ⟨⟨h0, h1⟩, rfl⟩ := hchk
          have hinfo := only_info hi
          have hby := nle hck
          have hzi : i.zero = some z := by
            have := semOnly_run hz (default : World)
            unfold zeroValue at this
            rw [run_only hi] at this
            cases hq : i.zero with
            | none => rw [hq] at this; cases this
            | some z' => rw [hq] at this; simpa using this
          have hsi : i.size = sz := by
            obtain ⟨i', h1, h2⟩ := only_sizeOf hs
            rw [hinfo] at h1
            simp only [Option.some.injEq] at h1
            rw [h1]; exact h2
          obtain ⟨N, rfl⟩ : ∃ N : Nat, k = (N : Int) := ⟨k.toNat, by omega⟩
          have hN : N ≤ 2000000 := by omega
          obtain ⟨w', hrun, hown, hgr⟩ := run_make_full (P := P) w w.heap.size t e i z sz hu hinfo hzi hsi .i64 .i64 N (by have := Nat.mul_le_mul hby hN; omega) (by unfold maxLen; omega) (Nat.le_refl _)
          simp only [Int.toNat_natCast] at hf hmade ⊢
          obtain ⟨c1, c2⟩ := madeR_spec hmade
          refine goal_new (w' := w') (u := .slice (some ⟨w.heap.size, 0, none⟩) N N) (v := .slice (some ⟨w.heap.size, 0, none⟩) N N) h hd hf ?_ hgr ⟨c1, ?_, fun g hg => ?_⟩ (fun _ g hg => ?_) (fun H hH => ⟨hH, ?_⟩)
          · simp only [execOp, ho, ev_val h hx, ev_val h hy]
            exact run_bind_val hrun
          · simp only [if_true]; rw [c2]; exact owns_zero hown
          · simp only [if_true] at hg
            obtain rfl : w.heap.size = g := by simpa [ownOf, atOf] using hg
            exact own_new h
          · obtain rfl : w.heap.size = g := by simpa [ownOf, atOf] using hg
            exact Nat.le_refl _
          · simp only [if_true]
        · cases hr
      · cases hr
    · cases hr
  · cases hr
theorem app_spec {c1 c2 c : Cells} (h : c1.app c2 = some c) (h1 : c1.ok) (h2 : c2.ok) : c.ok ∧ c.toVals = c1.toVals ++ c2.toVals := by
  unfold Cells.app at h
  split at h
  · simp only [Option.some.injEq] at h; subst h
    exact ⟨True.intro, by simp [Cells.toVals]⟩
  · simp only [Option.some.injEq] at h; subst h
    exact ⟨True.intro, by simp [Cells.toVals]⟩
  · simp only [Option.some.injEq] at h; subst h
    exact ⟨True.intro, by simp [Cells.toVals]⟩
  · simp only [Option.some.injEq] at h; subst h
    exact ⟨True.intro, by simp [Cells.toVals]⟩
  · simp only [Option.some.injEq] at h; subst h
    exact ⟨True.intro, by simp [Cells.toVals]⟩
  · simp only [Option.some.injEq] at h; subst h
    exact ⟨True.intro, by simp [Cells.toVals]⟩
  · simp only [Option.some.injEq] at h; subst h
    exact ⟨True.intro, by simp [Cells.toVals]⟩
  · simp only [Option.some.injEq] at h; subst h
    refine ⟨fun u hu => ?_, rfl⟩
    rcases List.mem_append.1 hu with hu | hu
    · exact h1 u hu
    · exact h2 u hu
  · simp only [Option.some.injEq] at h; subst h
    exact ⟨h2, rfl⟩
  · simp only [Option.some.injEq] at h; subst h
    exact ⟨h1, by simp [Cells.toVals]⟩
  · cases h
theorem goal_append (hB : Base W M) (h : R P W M n s a w ρ) (hd : inRange n o.dst = true) {c : Call} (ho : o.op = .call c) (hc : c.callee = .builtin .append)
    (hr : (match o.dst, c.args.toList.map s.ev, c.argTypes.toList with
      | some d, [x, y], [t, u] => if Nat.beq t u = true then appendOut P s d t x y else none
      | _, _, _ => none) = some r) (hchk : r.chk = true) (hf : (s.dropped r.drop).fresh r.news = true) : Goal P W M n o s r a w Q := by
  split at hr
  · rename_i d x y t u hdst hargs htys
    split at hr
    · rename_i htu
      have htu := neq htu
      subst htu
      obtain ⟨X, Y, hXY, hX, hY⟩ : ∃ X Y, c.args.toList = [X, Y] ∧ s.ev X = x ∧ s.ev Y = y := by
        match hq : c.args.toList, hargs with
        | [X, Y], hargs => simp at hargs; exact ⟨X, Y, rfl, hargs.1, hargs.2⟩
        | [], hargs => cases hargs
        | [_], hargs => cases hargs
        | _ :: _ :: _ :: _, hargs => simp at hargs
      have e1 : c.args = #[X, Y] := Array.toList_inj.1 hXY
      have e2 : c.argTypes = #[t, t] := Array.toList_inj.1 htys
      have hrun : ∀ {v : Value} {w' : World}, (Builtin.append_ #[t, t] o.type #[a.eval X, a.eval Y]).run P w = .ok v w' → (execOp a.eval o).run P w = .ok (.value v) w' := by
        intro v w' hl
        simp only [execOp, ho]
        obtain ⟨cs, this⟩ := resolve_builtin (P := P) (a := a) (ty := o.type) hc
        rw [e1, e2, show Array.map a.eval #[X, Y] = #[a.eval X, a.eval Y] from by simp] at this
        rw [run_bind_ok (this w)]
        exact run_bind_val hl
      unfold appendOut at hr
      split at hr
      · rename_i e hu
        split at hr
        · rename_i i hi
          have hinfo := only_info hi
          split at hr
          · rename_i hck
            simp only [Bool.and_eq_true] at hck
            obtain ⟨⟨k1, k2⟩, k3⟩ := hck
            have k1 := nle k1; have k2 := nle k2
            obtain ⟨z, hz, hzs⟩ : ∃ z, i.zero = some z ∧ z.cells.size = i.size := by
              unfold zeroOK at k3
              cases hq : i.zero with
              | none => rw [hq] at k3; cases k3
              | some z => rw [hq] at k3; exact ⟨z, rfl, neq k3⟩
            split at hr
            · rename_i m c2 hpv
              have hsrc : RosRel w none (a.eval Y) m c2 := by
                have hrel := h.ev Y
                rw [hY] at hrel
                have hpv' : PVof s.heap (cloFn ⟨fun _ => none, fun _ => none, false, false⟩ s.heap) y = some (.s m c2) := by
                  have : cloFn ⟨fun _ => none, fun _ => none, false, false⟩ s.heap = fun _ _ => none := by funext f caps; rfl
                  rw [this]; exact hpv
                exact PVof_ok (S := ⟨fun _ => none, fun _ => none, false, false⟩) ⟨⟨fun _ _ e => (by cases e), fun _ _ e => (by cases e)⟩, hB⟩ h hrel hpv'
              have fin : ∀ (v : Value) (n1 : Nat) (c1 cc : Cells) (dr : Option Nat), (∃ s1, s1 = s.dropped dr ∧ R P W M n s1 a w ρ ∧ ∀ j bj g, s1.heap j = some bj → Touch w (ρ j) bj g → v.ownBlock ≠ some g) → a.eval X = v → w.ownsRow 0 e i.size v n1 c1.toVals → (∀ g, v.ownBlock = some g → Own W M g) → cc.ok → cc.toVals = c1.toVals ++ c2.toVals →
                  n1 + m ≤ 2000000 → c2.len = m * i.size → (s.dropped dr).fresh [(4 * d, .row e i.size (n1 + m) cc)] = true → ∀ b, Goal P W M n o s ⟨b, .row (4 * d), [(4 * d, .row e i.size (n1 + m) cc)], none, dr⟩ a w Q := by
                intro v n1 c1 cc dr ⟨s1, hs1, hR1, hoff⟩ hX' hown hOwn hcc hcv hnm hlen hfr b
                rcases hsrc.2 with ⟨hy0, h0, hc0⟩ | ⟨g2, o2, cap2, hy2, hcap2, _, hcells⟩
                · have hap := run_append_owned_none (P := P) w 0 t o.type e i i.size hu hinfo v n1 c1.toVals hown
                  rw [← hX', show (Value.slice none 0 0) = a.eval Y from hy0.symm] at hap
                  have hi0 : s1.heap (4 * d) = none := by rw [hs1]; exact fresh1 hfr
                  have hcv' : cc.toVals = c1.toVals := by rw [hcv, hc0, List.append_nil]
                  subst h0
                  refine wp_val (hrun hap) ⟨fun x => if x = 4 * d then a.eval X else ρ x, ?_⟩
                  show R P W M n ((((s.dropped dr).news [_]).upd none).put o.dst _) _ _ _
                  rw [← hs1]
                  refine R.put (R.new (b := .row e i.size (n1 + 0) cc) (v := a.eval X) hR1 hi0 (show BRel P W M w _ _ (4 * d) (.row e i.size (n1 + 0) cc) from ⟨hcc, ?_, fun g hg => ?_⟩) (fun ob g hg j bj hj oj => ?_) (by intro _ hh; cases hh)) hd (.inr ⟨?_, ?_⟩)
                  · simp only [if_true]; rw [hcv', hX']; exact hown
                  · simp only [if_true] at hg
                    rw [hX', ← ownOf_row hown] at hg
                    exact hOwn g hg
                  · rw [hX', ← ownOf_row hown] at hg
                    exact hoff j bj g hj oj hg
                  · show (bif Nat.beq (4 * d) (4 * d) then some (Blk.row e i.size (n1 + 0) cc) else s1.heap (4 * d)).isSome = true
                    simp
                  · simp only [if_true]
                · obtain ⟨v', w', hap, hown', hgr, _, hblk⟩ := run_append_own_at (P := P) w 0 t o.type e i z i.size i.bytes hu hinfo hz rfl rfl hzs k1 v n1 c1.toVals hown ⟨g2, o2, none⟩ m cap2 c2.toVals (by rw [Cells.len_toVals, hlen])
                    (fun j u hj => by rw [addr_add]; exact hcells j u hj) (Cells.ok_one hsrc.1) (by unfold maxLen; omega) (by have := Nat.mul_le_mul hnm k2; omega) (Nat.zero_le _)
                  rw [← hX', ← hy2] at hap
                  have hR2 : R P W M n s1 a w' ρ := hR1.extOff hgr fun g hg => ⟨hOwn g hg, fun j bj hj oj => hoff j bj g hj oj hg⟩
                  have hi0 : s1.heap (4 * d) = none := by rw [hs1]; exact fresh1 hfr
                  refine wp_val (hrun hap) ⟨fun x => if x = 4 * d then v' else ρ x, ?_⟩
                  show R P W M n ((((s.dropped dr).news [_]).upd none).put o.dst _) _ _ _
                  rw [← hs1]
                  refine R.put (R.new (b := .row e i.size (n1 + m) cc) (v := v') hR2 hi0 (show BRel P W M w' _ _ (4 * d) (.row e i.size (n1 + m) cc) from ⟨hcc, ?_, fun g hg => ?_⟩) (fun ob g hg j bj hj oj => ?_) (by intro _ hh; cases hh)) hd (.inr ⟨?_, ?_⟩)
                  · simp only [if_true]; rw [hcv]; exact hown'
                  · simp only [if_true] at hg
                    rw [← ownOf_row hown'] at hg
                    rcases hblk with hb | hb
                    · exact hOwn g (by rw [← hb]; exact hg)
                    · rw [hb] at hg
                      simp only [Option.some.injEq] at hg; subst hg
                      exact own_new h
                  · rw [← ownOf_row hown'] at hg
                    have oj := touch_back (hR1.heap j bj hj) hgr (fun g' ht e => hoff j bj g' hj ht e) oj
                    rcases hblk with hb | hb
                    · exact hoff j bj g hj oj (by rw [← hb]; exact hg)
                    · rw [hb] at hg
                      simp only [Option.some.injEq] at hg; subst hg
                      have := touch_lt (hR1.heap j bj hj) oj
                      omega
                  · show (bif Nat.beq (4 * d) (4 * d) then some (Blk.row e i.size (n1 + m) cc) else s1.heap (4 * d)).isSome = true
                    simp
                  · simp only [if_true]
              split at hr
              · rename_i hx
                simp only [Option.some.injEq] at hr; subst hr
                simp only [Bool.and_eq_true] at hchk
                have hxv : a.eval X = nilS := ev_val h hX
                have := fin nilS 0 (.ints []) c2 none ⟨s, rfl, h, fun j bj g hj oj e => by cases e⟩ hxv (World.ownsRow_nil w 0 e i.size) (fun g hg => by cases hg) hsrc.1 (by simp [Cells.toVals]) (by have := nle hchk.1.2; omega) (neq hchk.2)
                simp only [Nat.zero_add] at this
                exact this hf _
              · rename_i id
                have hrel := h.ev X
                rw [hX] at hrel
                obtain ⟨hl, hxe⟩ := hrel
                split at hr
                · rename_i e' sz n1 c1 hb
                  split at hr
                  · rename_i hck2
                    simp only [Bool.and_eq_true] at hck2
                    have q1 := neq hck2.1.1; have q2 := neq hck2.1.2; have q3 := nle hck2.2
                    subst q1; subst q2
                    split at hr
                    · rename_i cc happ
                      simp only [Option.some.injEq] at hr; subst hr
                      simp only [Bool.and_eq_true] at hchk
                      obtain ⟨r1, r2, r3⟩ := h.heap id _ hb
                      obtain ⟨a1, a2⟩ := app_spec happ r1 hsrc.1
                      refine fin (ρ id) n1 c1 cc (some id) ⟨_, rfl, h.kill id ⟨by omega, by omega⟩, fun j bj g hj oj e => ?_⟩ hxe r2 (fun g hg => r3 g (by rw [← ownOf_row r2]; exact hg)) a1 a2 (nle hchk.1.2) (neq hchk.2) hf _
                      obtain ⟨hne, bj', hj', rfl⟩ := kill_inv hj
                      rw [ownOf_row r2] at e
                      rcases touch_kill oj with ⟨oj, gj⟩ | hh
                      · exact h.apart id j _ bj' g (Ne.symm hne) hb hj' rfl oj e gj
                      · exact h.froz j bj' g hj' hh id _ hb rfl e
                    · cases hr
                  · cases hr
                · cases hr
              · cases hr
            · cases hr
          · cases hr
        · cases hr
      · cases hr
    · cases hr
  · cases hr
end

/-! Calls. -/
section
variable {P : Program} {S : Sums} {W : World} {M : MV} {n : Nat} {s : FSt} {a : Act} {w w' : World} {ρ ρ' : Nat → Value} {H : Nat → Option Blk} {o : Oper} {r : Out} {Q : Exit → Act → World → Prop} {K : Act → World → Prop}
theorem fresh_cons {i : Nat} {b : Blk} {l : List (Nat × Blk)} (h : s.fresh ((i, b) :: l) = true) : s.heap i = none ∧ s.fresh l = true := by
  simp only [FSt.fresh] at h
  split at h
  · cases h
  · exact ⟨by assumption, h⟩
theorem fresh_set {i : Nat} {b : Blk} : ∀ {l : List (Nat × Blk)}, s.fresh l = true → (∀ x ∈ l, x.1 ≠ i) → (s.set i b).fresh l = true
  | [], _, _ => rfl
  | (j, c) :: l, h, hne => by
    obtain ⟨h1, h2⟩ := fresh_cons h
    have hj : j ≠ i := hne (j, c) (by simp)
    have : (s.set i b).heap j = none := by simp only [FSt.set, nbeq hj, cond_false]; exact h1
    simp only [FSt.fresh, this]
    exact fresh_set h2 fun x hx => hne x (by simp [hx])
theorem news_ge : ∀ (rs : List TR) (i : Nat), ∀ x ∈ (newsOf i rs).1, i ≤ x.1
  | [], i, x, h => by cases h
  | .v _ :: l, i, x, h => by have := news_ge l (i + 1) x h; omega
  | .s e sz k c :: l, i, x, h => by
    simp only [newsOf] at h
    rcases List.mem_cons.1 h with rfl | h
    · exact Nat.le_refl _
    · have := news_ge l (i + 1) x h; omega
  | .d e ls :: l, i, x, h => by
    simp only [newsOf] at h
    rcases List.mem_cons.1 h with rfl | h
    · exact Nat.le_refl _
    · have := news_ge l (i + 1) x h; omega
/-- The results of a call take their names. -/
theorem R.news (B : World) : ∀ (rs : List TR) (vs : List Value) (i : Nat) (s : FSt) (ρ : Nat → Value), R P W M n s a w ρ → All2 (TRel B w) rs vs → TApart rs vs → s.fresh (newsOf i rs).1 = true → W.heap.size ≤ B.heap.size →
    (∀ j bj g, s.heap j = some bj → Touch w (ρ j) bj g → B.heap.size ≤ g → SOff g rs vs) →
    ∃ ρ', R P W M n (s.news (newsOf i rs).1) a w ρ' ∧ All2 (TIRel ρ' (s.news (newsOf i rs).1).heap) (newsOf i rs).2 vs ∧ (∀ id, (s.heap id).isSome = true → ((s.news (newsOf i rs).1).heap id).isSome = true ∧ ρ' id = ρ id)
  | [], [], i, s, ρ, h, _, _, _, _, _ => ⟨ρ, h, True.intro, fun id hid => ⟨hid, rfl⟩⟩
  | .v x :: rs, v :: vs, i, s, ρ, h, ⟨p, q⟩, hap, hf, hB, hoff => by
    obtain ⟨ρ', h1, h2, h3⟩ := R.news B rs vs (i + 1) s ρ h q (by simpa [TApart] using hap) hf hB (fun j bj g hj oj hg => hoff j bj g hj oj hg)
    exact ⟨ρ', h1, ⟨p, h2⟩, h3⟩
  | .s e sz k c :: rs, v :: vs, i, s, ρ, h, ⟨p, q⟩, hap, hf, hB, hoff => by
    obtain ⟨hc, hown⟩ := p
    obtain ⟨ap1, ap2⟩ := hap
    obtain ⟨hi, hf'⟩ := fresh_cons hf
    have hge : ∀ g, ownOf v = some g → B.heap.size ≤ g := fun g hg => (hown.lt g (by rw [ownOf_row hown]; exact hg)).1
    have hR : R P W M n (s.set i (.row e sz k c)) a w (fun x => if x = i then v else ρ x) := by
      refine h.new hi (b := .row e sz k c) ⟨hc, ?_, fun g hg => ?_⟩ (fun ob g hg j bj hj oj => (hoff j bj g hj oj (hge g hg)).1 hg) (by intro _ hh; cases hh)
      · simp only [if_true]; exact owns_zero hown
      · simp only [if_true] at hg
        exact .inl (Nat.le_trans hB (hge g hg))
    have hset : ∀ j bj, (s.set i (.row e sz k c)).heap j = some bj → (j = i) ∨ (j ≠ i ∧ s.heap j = some bj) := by
      intro j bj hj
      by_cases e : j = i
      · exact .inl e
      · exact .inr ⟨e, by simpa only [FSt.set, nbeq e, cond_false] using hj⟩
    obtain ⟨ρ', h1, h2, h3⟩ := R.news B rs vs (i + 1) _ _ hR q ap2 (fresh_set hf' fun x hx => by have := news_ge rs (i + 1) x hx; omega) hB (by
      intro j bj g hj oj hgB
      rcases hset j bj hj with rfl | ⟨hne, hj⟩
      · simp only [if_true] at oj
        have hbj : bj = .row e sz k c := by simpa [FSt.set] using hj.symm
        subst hbj
        rcases oj with ⟨_, gj⟩ | hh
        · exact ap1 g gj
        · cases hh
      · simp only [if_neg hne] at oj
        exact (hoff j bj g hj oj hgB).2)
    have hlive : ((s.set i (.row e sz k c)).heap i).isSome = true := by
      show (bif Nat.beq i i then some (Blk.row e sz k c) else s.heap i).isSome = true
      simp
    refine ⟨ρ', h1, ⟨⟨(h3 i hlive).1, ?_⟩, h2⟩, fun id hid => ?_⟩
    · rw [(h3 i hlive).2]; simp
    · have hne : id ≠ i := by rintro rfl; rw [hi] at hid; cases hid
      have : ((s.set i (.row e sz k c)).heap id).isSome = true := by simp only [FSt.set, nbeq hne, cond_false]; exact hid
      exact ⟨(h3 id this).1, by rw [(h3 id this).2, if_neg hne]⟩
  | .d e ls :: rs, v :: vs, i, s, ρ, h, ⟨⟨us, p1, p2, p3⟩, q⟩, hap, hf, hB, hoff => by
    obtain rfl : rs = [] := hap
    cases vs with
    | cons _ _ => exact q.elim
    | nil =>
      obtain ⟨hi, _⟩ := fresh_cons hf
      have hge : ∀ g, ownOf v = some g → B.heap.size ≤ g := fun g hg => (p2.lt g (by rw [ownOf_row p2]; exact hg)).1
      have p2' := owns_zero p2
      have hm : ∀ g, Held w v (.dee true true e ls) g → ∃ u ∈ us, ownOf u = some g := fun g hh => by
        rcases held_mem p1.len.symm (fun _ => p2') (fun e => by cases e) hh with ⟨e, _⟩ | h
        · cases e
        · exact h
      have hR : R P W M n (s.set i (.dee true true e ls)) a w (fun x => if x = i then v else ρ x) := by
        refine h.new hi ⟨⟨us, p1, fun _ => ?_, fun e => by cases e⟩, fun _ g hg => ?_, fun _ g hh => ?_⟩ (fun ob g hg j bj hj ht => hoff j bj g hj ht (hge g hg)) fun g hh => ?_
        · simp only [if_true]; exact p2'
        · simp only [if_true] at hg
          exact .inl (Nat.le_trans hB (hge g hg))
        · simp only [if_true] at hh
          obtain ⟨u, hu, hg⟩ := hm g hh
          exact .inl (Nat.le_trans hB (p3 u hu g hg).1)
        · obtain ⟨u, hu, hg⟩ := hm g hh
          exact ⟨fun _ => (p3 u hu g hg).2, fun j bj hj oj gj => hoff j bj g hj (.inl ⟨oj, gj⟩) (p3 u hu g hg).1⟩
      have hlive : ((s.set i (.dee true true e ls)).heap i).isSome = true := by
        show (bif Nat.beq i i then some (Blk.dee true true e ls) else s.heap i).isSome = true
        simp
      refine ⟨_, hR, ⟨⟨hlive, by simp⟩, True.intro⟩, fun id hid => ?_⟩
      have hne : id ≠ i := by rintro rfl; rw [hi] at hid; cases hid
      refine ⟨?_, if_neg hne⟩
      show (bif Nat.beq id i then some (Blk.dee true true e ls) else s.heap id).isSome = true
      rw [nbeq hne, cond_false]; exact hid
theorem outOf_news {d : Option Nat} {c : Bool} {rs : List TR} (h : outOf d c rs = some r) : r.drop = none ∧ r.upd = none ∧ r.chk = c := by
  unfold outOf at h
  cases d with
  | none =>
    dsimp only at h
    split at h
    · simp only [Option.some.injEq] at h; subst h; exact ⟨rfl, rfl, rfl⟩
    · simp only [Option.some.injEq] at h; subst h; exact ⟨rfl, rfl, rfl⟩
    · cases h
  | some d =>
    dsimp only at h
    cases hv : isOneV rs with
    | some x => rw [hv] at h; simp only [Option.some.injEq] at h; subst h; exact ⟨rfl, rfl, rfl⟩
    | none =>
      rw [hv] at h
      dsimp only at h
      unfold outMany at h
      split at h
      · split at h <;> (simp only [Option.some.injEq] at h; subst h; exact ⟨rfl, rfl, rfl⟩)
      · cases h
theorem isOneV_some {rs : List TR} {x : Value} (h : isOneV rs = some x) : rs = [.v x] := by
  cases rs with
  | nil => cases h
  | cons y l =>
    cases l with
    | nil => cases y with
      | v z => simp only [isOneV, Option.some.injEq] at h; rw [h]
      | s e sz k cc => cases h
      | d e ls => cases h
    | cons z l => cases y <;> cases h
theorem isOneV_none {rs : List TR} (h : isOneV rs = none) : ∀ x, rs = [.v x] → False := by
  rintro x rfl
  cases h
theorem newsOf_one {i j : Nat} {rs : List TR} (h : (newsOf i rs).2 = [.r j]) : ∃ x, rs = [x] ∧ ∀ y, x ≠ .v y := by
  cases rs with
  | nil => cases h
  | cons x l =>
    cases l with
    | nil =>
      cases x with
      | v x => cases h
      | s e sz k cc => exact ⟨_, rfl, fun y hy => by cases hy⟩
      | d e ls => exact ⟨_, rfl, fun y hy => by cases hy⟩
    | cons y l => cases x <;> cases y <;> cases h
theorem res_many {i : Nat} {rs : List TR} {rv : Value} (h1 : ∀ x, rs = [.v x] → False) (h2 : ∀ j, (newsOf i rs).2 = [.r j] → False) (h : ResRel w w' rs rv) : ∃ vs : List Value, rv = .tuple vs.toArray ∧ All2 (TRel w w') rs vs ∧ TApart rs vs := by
  cases rs with
  | nil => exact h
  | cons x l =>
    cases l with
    | nil =>
      cases x with
      | v x => exact (h1 x rfl).elim
      | s e sz k cc => exact (h2 i rfl).elim
      | d e ls => exact (h2 i rfl).elim
    | cons y l => exact h
/-- Behind a call. -/
theorem after_call (h : R P W M n s a w ρ) (hd : inRange n o.dst = true) {c : Bool} {rs : List TR} (hr : outOf o.dst c rs = some r) (hf : s.fresh r.news = true) {rv : Value} (hg : w.grownBy w' none) (hres : ResRel w w' rs rv) :
    ∃ ρ', R P W M n (s.apply o.dst r) (a.put o.dst rv) w' ρ' := by
  have hR := h.ext hg
  have hoff : ∀ vs : List Value, ∀ j bj g, s.heap j = some bj → Touch w' (ρ j) bj g → w.heap.size ≤ g → SOff g rs vs := by
    intro vs j bj g hj oj hge
    have := touch_lt (h.heap j bj hj) (touch_back (h.heap j bj hj) hg (fun _ _ e => by cases e) oj)
    omega
  cases hdst : o.dst with
  | none => exact ⟨ρ, by
      obtain ⟨h1, h2, _⟩ := outOf_news hr
      have hn : r.news = [] := by
        rw [hdst] at hr
        unfold outOf at hr
        dsimp only at hr
        split at hr
        · simp only [Option.some.injEq] at hr; subst hr; rfl
        · simp only [Option.some.injEq] at hr; subst hr; rfl
        · cases hr
      show R P W M n ((((s.dropped r.drop).news r.news).upd r.upd).put none r.v) _ _ _
      rw [h1, h2, hn]
      exact hR⟩
  | some d =>
    rw [hdst] at hr hd
    unfold outOf at hr
    dsimp only at hr
    cases hv : isOneV rs with
    | some x =>
      rw [hv] at hr
      simp only [Option.some.injEq] at hr; subst hr
      rw [isOneV_some hv] at hres
      exact ⟨ρ, hR.put hd (.inr hres)⟩
    | none =>
      rw [hv] at hr
      dsimp only at hr
      unfold outMany at hr
      split at hr
      · have key : ∀ vs : List Value, All2 (TRel w w') rs vs → TApart rs vs → s.fresh (newsOf (4 * d) rs).1 = true → _ := fun vs h1 h2 h3 => R.news w rs vs (4 * d) s ρ hR h1 h2 h3 h.grown.size (hoff vs)
        split at hr
        · rename_i i hi
          simp only [Option.some.injEq] at hr; subst hr
          obtain ⟨x, rfl, hx⟩ := newsOf_one hi
          have hres' : TRel w w' x rv := hres
          obtain ⟨ρ', h1, h2, h3⟩ := key [rv] ⟨hres', True.intro⟩ (by
            cases x with
            | v y => exact absurd rfl (hx y)
            | s e sz k cc => exact ⟨fun _ _ => True.intro, True.intro⟩
            | d e ls => exact rfl) hf
          rw [hi] at h2
          exact ⟨ρ', h1.put hd (.inr h2.1)⟩
        · rename_i l hl
          simp only [Option.some.injEq] at hr; subst hr
          obtain ⟨vs, rfl, hall, hap⟩ := res_many (isOneV_none hv) (fun j e => hl j e) hres
          obtain ⟨ρ', h1, h2, h3⟩ := key vs hall hap hf
          exact ⟨ρ', h1.put hd (.inr ⟨vs, rfl, h2⟩)⟩
      · cases hr
end

/-! Calls: the operation. -/
section
variable {P : Program} {S : Sums} {W : World} {M : MV} {n : Nat} {s : FSt} {a : Act} {w w' : World} {ρ ρ' : Nat → Value} {H : Nat → Option Blk} {o : Oper} {r : Out} {Q : Exit → Act → World → Prop} {K : Act → World → Prop}
theorem resolve_value {c : Call} {f : Operand} {g : Nat} {caps : Array Value} {ty : TypeId} (hc : c.callee = .value f) (hf : a.eval f = .func (.func g) #[] caps) (w : World) :
    (resolve a.eval c ty).run P w = .ok { target := .fn (.func g) caps, args := c.args.map a.eval } w := by
  unfold resolve
  rw [hc]
  dsimp only
  rw [hf]
  unfold Deferred.ofValue
  dsimp only
  simp
theorem wp_enter {c : Call} {f : Operand} {g : Nat} {caps : Array Value} (ho : o.op = .call c) (hc : c.callee = .value f) (hf : a.eval f = .func (.func g) #[] caps) (hcall : ∀ (args : Array Value) (w : World), (callFunc g args).run P w = .ok (.enter g args) w)
    {R : Value → World → Prop} (h : Calls P g (c.args.map a.eval ++ caps) w fun e w' => ∃ rv, e = .returned rv ∧ R rv w') (hk : ∀ rv w', R rv w' → K (a.put o.dst rv) w') : o.wp P a w K Q := by
  have hrun : (execOp a.eval o).run P w = .ok (.enter g (c.args.map a.eval ++ caps)) w := by
    simp only [execOp, ho]
    rw [run_bind_ok (resolve_value hc hf w)]
    unfold invoke
    dsimp only
    exact hcall _ _
  unfold Oper.wp
  rw [hrun]
  refine h.mono fun e w' ⟨rv, he, hr⟩ => ?_
  subst he
  exact hk rv w' hr
theorem optMap_args {f : Operand → Option PV} (h : R P W M n s a w ρ) : ∀ {l : List Operand} {m : List PV}, optMap f l = some m → (∀ x pv, f x = some pv → ArgRel P w pv (a.eval x)) → All2 (ArgRel P w) m (l.map a.eval)
  | [], m, hl, _ => by simp only [optMap, Option.some.injEq] at hl; subst hl; exact True.intro
  | x :: l, m, hl, hf => by
    simp only [optMap] at hl
    split at hl
    · rename_i b hb
      split at hl
      · rename_i m' hm
        simp only [Option.some.injEq] at hl; subst hl
        exact ⟨hf x b hb, optMap_args h hm hf⟩
      · cases hl
    · cases hl
theorem R.write' (h : R P W M n s a w ρ) {i : Nat} {b b' : Blk} {w' : World} (hi : s.heap i = some b) (hob : ownB b = true) (hob' : ownB b' = true) (hown : ∀ g, ownOf (ρ i) = some g → Own W M g) (hg : w.grownBy w' (ownOf (ρ i)))
    (hb : BRel P W M w' ρ s.heap i b') (hfz : ∀ g, Held w' (ρ i) b' g → ∀ j bj, s.heap j = some bj → ownB bj = true → ownOf (ρ j) ≠ some g := by intro _ hh; cases hh) : R P W M n (s.set i b') a w' ρ := by
  have hm : ∀ id, (s.heap id).isSome = true → ((s.set i b').heap id).isSome = true ∧ ρ id = ρ id := by
    intro id hid
    refine ⟨?_, rfl⟩
    show (bif Nat.beq id i then some b' else s.heap id).isSome = true
    cases Nat.beq id i
    · exact hid
    · rfl
  have hheap : ∀ id c, (s.set i b').heap id = some c → (id = i ∧ c = b') ∨ (id ≠ i ∧ s.heap id = some c) := by
    intro id c hc
    by_cases e : id = i
    · subst e
      have : Nat.beq id id = true := by simp
      simp only [FSt.set, this, cond_true, Option.some.injEq] at hc
      exact .inl ⟨rfl, hc.symm⟩
    · have : Nat.beq id i = false := nbeq e
      simp only [FSt.set, this, cond_false] at hc
      exact .inr ⟨e, hc⟩
  have hoff : ∀ id c, id ≠ i → s.heap id = some c → ∀ g', Touch w (ρ id) c g' → ownOf (ρ i) ≠ some g' := by
    intro id c hne hc g' ht e
    rcases ht with ⟨oc, hg'⟩ | hh
    · exact h.apart i id b c g' (Ne.symm hne) hi hc hob oc e hg'
    · exact h.froz id c g' hc hh i b hi hob e
  refine ⟨grown_step h.grown hg hown, h.size, h.defers, fun t => (h.slots t).mono hm, fun id c hc => ?_, fun x y bx by_ g' hxy hx hy ox oy gx => ?_, fun x bx g2 hx hh y by_ hy oy gy => ?_, fun v0 hv0 => ⟨(h.fix v0 hv0).1, ⟨(hm 0 (h.fix v0 hv0).2.1.1).1, (h.fix v0 hv0).2.1.2⟩, fun u hu => ⟨(hm 1 ((h.fix v0 hv0).2.2 u hu).1).1, ((h.fix v0 hv0).2.2 u hu).2⟩⟩⟩
  · rcases hheap id c hc with ⟨rfl, rfl⟩ | ⟨hne, hc⟩
    · exact hb.mono hm rfl
    · exact ((h.heap id c hc).grown hg (hoff id c hne hc)).mono hm rfl
  · rcases hheap x bx hx with ⟨rfl, rfl⟩ | ⟨hnx, hx'⟩ <;> rcases hheap y by_ hy with ⟨rfl, rfl⟩ | ⟨hny, hy'⟩
    · exact absurd rfl hxy
    · exact h.apart _ _ _ _ g' hxy hi hy' hob oy gx
    · exact h.apart _ _ _ _ g' hxy hx' hi ox hob gx
    · exact h.apart _ _ _ _ g' hxy hx' hy' ox oy gx
  · rcases hheap x bx hx with ⟨rfl, rfl⟩ | ⟨hnx, hx'⟩ <;> rcases hheap y by_ hy with ⟨rfl, rfl⟩ | ⟨hny, hy'⟩
    · exact hfz g2 hh _ _ hi hob gy
    · exact hfz g2 hh y by_ hy' oy gy
    · exact h.froz x bx g2 hx' (Held.back (h.heap x bx hx') hg (hoff x bx hnx hx') hh) _ _ hi hob gy
    · exact h.froz x bx g2 hx' (Held.back (h.heap x bx hx') hg (hoff x bx hnx hx') hh) y by_ hy' oy gy
theorem rel_args (h : R P W M n s a w ρ) : ∀ (l : List Operand), All2 (Rel P W M ρ s.heap) (l.map s.ev) (l.map a.eval)
  | [] => True.intro
  | x :: l => ⟨h.ev x, rel_args h l⟩
/-- A call that writes its first argument's cells. -/
theorem goal_row (hS : SumsAt P S W M) (h : R P W M n s a w ρ) (hd : inRange n o.dst = true) {c : Call} {f : Operand} (ho : o.op = .call c) (hc : c.callee = .value f) {run : MRun} (hm : mutOf S f = some (.row run))
    (hr : rowOut s run (c.args.toList.map s.ev) = some r) (hchk : r.chk = true) : Goal P W M n o s r a w Q := by
  cases f with
  | func g =>
    have hrun : S.m g = some (.row run) := hm
    obtain ⟨hcall, hsound⟩ := hS.1.2 g _ hrun
    have hsound : SoundM P g run := hsound
    have hrel := h.ev (.func g)
    obtain ⟨vs0, hfe, hcaps⟩ := (show ∃ vs : List Value, a.eval (.func g) = .func (.func g) #[] vs.toArray ∧ All2 (CapRel ρ s.heap) [] vs from hrel)
    obtain rfl : vs0 = [] := by
      cases vs0 with
      | nil => rfl
      | cons x l => cases hcaps
    have hargs := rel_args h c.args.toList
    unfold rowOut at hr
    split at hr
    · rename_i id xs hev
      rw [hev] at hargs
      split at hr
      · rename_i e sz m cl vs hb hvs
        split at hr
        · rename_i ok rv c' hres
          simp only [Option.some.injEq] at hr; subst hr
          obtain rfl : ok = true := hchk
          obtain ⟨k1, k2, k3⟩ := h.heap id _ hb
          cases hal : c.args.toList.map a.eval with
          | nil => rw [hal] at hargs; cases hargs
          | cons v0 l0 =>
            rw [hal] at hargs
            obtain ⟨⟨_, hv0⟩, hl0⟩ := hargs
            have hl0 := vals_all2 hvs hl0
            subst hv0; subst hl0
            have hcalls := hsound w e sz m cl (ρ id) _ rv c' (h.gok hS.2) (fun g hg => Own.far hS.2 (k3 g hg)) k1 k2 hres
            rw [show (ρ id :: l0).toArray = c.args.map a.eval ++ (#[] : Array Value) from by rw [← hal]; apply Array.toList_inj.1; simp] at hcalls
            refine wp_enter (R := fun v w' => v = rv ∧ c'.ok ∧ w'.ownsRow 0 e sz (ρ id) m c'.toVals ∧ w.grownBy w' (ownOf (ρ id))) ho hc hfe hcall (hcalls.mono fun x w' ⟨h1, h2⟩ => ⟨rv, h1, rfl, h2⟩) fun v w' ⟨h1, h2, h3, h4⟩ => ⟨ρ, ?_⟩
            subst h1
            exact (h.write' (b' := .row e sz m c') hb rfl rfl k3 h4 ⟨h2, h3, k3⟩).put hd (.inr rfl)
        · cases hr
      · cases hr
    · cases hr
  | tmp t => exact absurd hm (by unfold mutOf; cases S.k <;> simp)
  | const v => cases hm
  | global g => cases hm
theorem ros_off (h : R P W M n s a w ρ) {id m : Nat} {c : Cells} (hb : s.heap id = some (.ros m c)) {b : Nat} (hown : Own W M b) : RosRel w (some b) (ρ id) m c := by
  have k : RosRel W (mB M) (ρ id) m c := h.heap id _ hb
  refine ⟨k.1, ?_⟩
  rcases k.2 with h0 | ⟨g, o, cap, h1, h2, h3, h4⟩
  · exact .inl h0
  · refine .inr ⟨g, o, cap, h1, h2, ⟨fun e => ?_, Nat.lt_of_lt_of_le h3.2 h.grown.size⟩, fun j u hu => World.grownBy.cell h.grown (h4 j u hu) (fun e => h3.1 e.symm)⟩
    obtain rfl : b = g := by simpa using e
    rcases hown with ho | ho
    · have := h3.2; omega
    · exact h3.1 ho
theorem row_off (h : R P W M n s a w ρ) {id jd e z m b : Nat} {c : Cells} {B : Blk} (hb' : s.heap jd = some (.row e z m c)) (hb : s.heap id = some B) (hob : ownB B = true) (hg : ownOf (ρ id) = some b) (hne : jd ≠ id) : RosRel w (some b) (ρ jd) m c := by
  have k := row_at h hb'
  refine ⟨k.1, ?_⟩
  rcases k.2 with h0 | ⟨g, o, cap, h1, h2, h3, h4⟩
  · exact .inl h0
  · refine .inr ⟨g, o, cap, h1, h2, ⟨fun e' => ?_, h3.2⟩, h4⟩
    obtain rfl : b = g := by simpa using e'
    exact h.apart jd id _ B b hne hb' hb rfl hob (by rw [h1]; rfl) hg
theorem src_after (h : R P W M n s a w ρ) (hd : inRange n o.dst = true) {d m id : Nat} {cl : Cells} {e : TypeId} {vals : List Value} (hdst : o.dst = some d) (hb : s.heap id = some (.ros m cl))
    (hf : s.fresh [(4 * d, .box e (.row id :: vals.map SV.val))] = true) {b : Nat} {w' : World} (h2 : w.heap.size ≤ b) (h3 : w'.heap[b]? = some (.cells (ρ id :: vals).toArray e (0, 0))) (hg : w.grownBy w' none) :
    ∃ ρ', R P W M n (s.apply o.dst ⟨true, .ptr (4 * d) 0, [(4 * d, .box e (.row id :: vals.map SV.val))], none, none⟩) (a.put o.dst (.pointer (some ⟨b, 0, none⟩))) w' ρ' := by
  have hi := fresh1 hf
  have hne : id ≠ 4 * d := by rintro rfl; rw [hb] at hi; cases hi
  have hset : (s.set (4 * d) (.box e (.row id :: vals.map SV.val))).heap (4 * d) = some (.box e (.row id :: vals.map SV.val)) := by
    show (bif Nat.beq (4 * d) (4 * d) then _ else _) = _
    simp
  have hbr : BRel P W M w' (fun x => if x = 4 * d then .pointer (some ⟨b, 0, none⟩) else ρ x) (s.set (4 * d) (.box e (.row id :: vals.map SV.val))).heap (4 * d) (.box e (.row id :: vals.map SV.val)) := by
    refine ⟨b, _, if_pos rfl, .inl (Nat.le_trans h.grown.size h2), h3, ⟨?_, ?_⟩, rel_vals vals⟩
    · show (bif Nat.beq id (4 * d) then _ else s.heap id).isSome = true
      rw [nbeq hne, cond_false, hb]; rfl
    · show ρ id = if id = 4 * d then _ else ρ id
      rw [if_neg hne]
  exact ⟨_, R.put (R.new (h.ext hg) hi hbr (fun ob g hgu j bj hj oj => by
    have := touch_lt (h.heap j bj hj) (touch_back (h.heap j bj hj) hg (fun _ _ e => by cases e) oj)
    have hbg : b = g := by simpa [ownOf, atOf] using hgu
    omega) (by intro _ hh; cases hh)) hd (.inr ⟨by
      show (bif Nat.beq (4 * d) (4 * d) then some _ else s.heap (4 * d)).isSome = true
      simp, b, 0, by simp [atOf], rfl⟩)⟩
theorem bc_rel (h : R P W M n s a w ρ) {g : Nat} (hown : Own W M g) {x : SV} {bc : BC} (hx : bcOf s.heap x = some bc) {v : Value} (hv : Rel P W M ρ s.heap x v) : BCRel w g bc v := by
  unfold bcOf at hx
  split at hx
  · simp only [Option.some.injEq] at hx; subst hx; exact hv
  · rename_i id
    split at hx
    · rename_i m c hb
      simp only [Option.some.injEq] at hx; subst hx
      obtain ⟨_, rfl⟩ := hv
      exact ros_off h hb hown
    · cases hx
  · cases hx
theorem All2.ofOpt {α β γ : Type} {f : α → Option β} {R1 : α → γ → Prop} {R2 : β → γ → Prop} (hf : ∀ x y v, f x = some y → R1 x v → R2 y v) : ∀ {l : List α} {m : List β} {vs : List γ}, optMap f l = some m → All2 R1 l vs → All2 R2 m vs
  | [], m, [], h, _ => by simp only [optMap, Option.some.injEq] at h; subst h; exact True.intro
  | x :: l, m, v :: vs, h, hr => by
    simp only [optMap] at h
    split at h
    · rename_i y hy
      split at h
      · rename_i m' hm
        simp only [Option.some.injEq] at h; subst h
        exact ⟨hf x y v hy hr.1, All2.ofOpt hf hm hr.2⟩
      · cases h
    · cases h
theorem newSV_rel {ρ : Nat → Value} {H : Nat → Option Blk} : ∀ {bcs bcs' : List BC} {cells : List SV} {vs : List Value}, sameB bcs bcs' = true → bcs.length = cells.length → All2 (Rel P W M ρ H) cells vs → All2 (Rel P W M ρ H) (newSV cells bcs') (newC bcs' vs)
  | [], [], [], [], _, _, _ => True.intro
  | .v _ :: bs, .v x :: bs', _ :: cs, _ :: vs, h, hl, hr => ⟨rfl, newSV_rel (bcs := bs) h (by simpa using hl) hr.2⟩
  | .s _ _ :: bs, .s _ _ :: bs', c :: cs, v :: vs, h, hl, hr => ⟨hr.1, newSV_rel (bcs := bs) h (by simpa using hl) hr.2⟩
theorem optMap_len {α β : Type} {f : α → Option β} : ∀ {l : List α} {m : List β}, optMap f l = some m → m.length = l.length
  | [], m, h => by simp only [optMap, Option.some.injEq] at h; subst h; rfl
  | x :: l, m, h => by
    simp only [optMap] at h
    split at h
    · split at h
      · rename_i m' hm
        simp only [Option.some.injEq] at h; subst h
        simp [optMap_len hm]
      · cases h
    · cases h
theorem retV_rel {ρ : Nat → Value} {H : Nat → Option Blk} (l : List Value) : Rel P W M ρ H (retV l) (retOf l) := by
  have tr : ∀ l : List Value, All2 (TIRel ρ H) (l.map TI.v) l := by
    intro l
    induction l with
    | nil => exact True.intro
    | cons x l ih => exact ⟨rfl, ih⟩
  match l with
  | [] => exact ⟨[], rfl, tr []⟩
  | [x] => exact rfl
  | x :: y :: l => exact ⟨_, rfl, tr _⟩
/-- A call that is handed a variable's address. -/
theorem goal_boxcall (hS : SumsAt P S W M) (h : R P W M n s a w ρ) (hd : inRange n o.dst = true) {c : Call} {f : Operand} (ho : o.op = .call c) (hc : c.callee = .value f) {run : PRun} (hm : mutOf S f = some (.box run))
    (hr : boxOut s run (c.args.toList.map s.ev) = some r) (hchk : r.chk = true) : Goal P W M n o s r a w Q := by
  cases f with
  | func g =>
    have hrun : S.m g = some (.box run) := hm
    obtain ⟨hcall, hsound⟩ := hS.1.2 g _ hrun
    have hsound : SoundP P g run := hsound
    have hrel := h.ev (.func g)
    obtain ⟨vs0, hfe, hcaps⟩ := (show ∃ vs : List Value, a.eval (.func g) = .func (.func g) #[] vs.toArray ∧ All2 (CapRel ρ s.heap) [] vs from hrel)
    obtain rfl : vs0 = [] := by
      cases vs0 with
      | nil => rfl
      | cons x l => cases hcaps
    have hargs := rel_args h c.args.toList
    unfold boxOut at hr
    split at hr
    · rename_i id xs hev
      rw [hev] at hargs
      split at hr
      · rename_i e cells hb
        split at hr
        · rename_i bcs pvs hbcs hpvs
          split at hr
          · rename_i ok rs bcs' hres
            split at hr
            · rename_i hsame
              simp only [Option.some.injEq] at hr; subst hr
              obtain rfl : ok = true := hchk
              obtain ⟨b, cs, k1, k2, k3, k4⟩ := h.heap id _ hb
              cases hal : c.args.toList.map a.eval with
              | nil => rw [hal] at hargs; cases hargs
              | cons v0 l0 =>
                rw [hal] at hargs
                obtain ⟨⟨_, g', o', hat, hv0⟩, hl0⟩ := hargs
                rw [k1] at hat
                obtain ⟨rfl, rfl⟩ : b = g' ∧ 0 = o' := by simpa [atOf] using hat
                obtain rfl : v0 = .pointer (some ⟨b, 0, none⟩) := hv0
                have hbc : All2 (BCRel w b) bcs cs.toList := All2.ofOpt (R2 := BCRel w b) (fun x y v hx hv => bc_rel h k2 hx hv) hbcs k4
                have hpv : All2 (ArgB w b) pvs l0 := All2.ofOpt (R2 := ArgB w b) (fun x y v hx hv => by
                  unfold pvB at hx
                  split at hx
                  · simp only [Option.some.injEq] at hx; subst hx; exact hv
                  · rename_i jd
                    obtain ⟨_, rfl⟩ := hv
                    split at hx
                    · rename_i m c hb'
                      simp only [Option.some.injEq] at hx; subst hx
                      exact ros_off h hb' k2
                    · rename_i e' z m c hb'
                      simp only [Option.some.injEq] at hx; subst hx
                      exact row_off h hb' hb rfl (by rw [k1]; rfl) (by rintro rfl; rw [hb] at hb'; cases hb')
                    · cases hx
                  · cases hx) hpvs hl0
                have hcalls := hsound w e b cs bcs pvs l0 rs bcs' (h.gok hS.2) (Own.far hS.2 k2) k3 hbc hpv hres hsame
                rw [show (Value.pointer (some ⟨b, 0, none⟩) :: l0).toArray = c.args.map a.eval ++ (#[] : Array Value) from by rw [← hal]; apply Array.toList_inj.1; simp] at hcalls
                refine wp_enter (R := fun v w' => v = retOf rs ∧ w'.heap[b]? = some (.cells (newC bcs' cs.toList).toArray e (0, 0)) ∧ w.grownBy w' (some b)) ho hc hfe hcall (hcalls.mono fun x w' ⟨h1, h2⟩ => ⟨_, h1, rfl, h2⟩) fun v w' ⟨h1, h2, h3⟩ => ⟨ρ, ?_⟩
                subst h1
                refine (h.write' (b' := .box e (newSV cells bcs')) hb rfl rfl (fun g hg => ?_) (by rw [k1]; exact h3) ⟨b, _, k1, k2, h2, newSV_rel hsame (optMap_len hbcs) k4⟩).put hd (.inr (retV_rel rs))
                rw [k1] at hg
                obtain rfl : b = g := by simpa [ownOf, atOf] using hg
                exact k2
            · cases hr
          · cases hr
        · cases hr
      · cases hr
    · cases hr
  | tmp t => exact absurd hm (by unfold mutOf; cases S.k <;> simp)
  | const v => cases hm
  | global g => cases hm
/-- A call that makes a variable around a slice. -/
theorem goal_src (hS : SumsAt P S W M) (h : R P W M n s a w ρ) (hd : inRange n o.dst = true) {c : Call} {f : Operand} (ho : o.op = .call c) (hc : c.callee = .value f) {run : BRun} (hm : mutOf S f = some (.src run))
    (hr : srcOut s o.dst run (c.args.toList.map s.ev) = some r) (hchk : r.chk = true) (hf : s.fresh r.news = true) : Goal P W M n o s r a w Q := by
  cases f with
  | func g =>
    have hrun : S.m g = some (.src run) := hm
    obtain ⟨hcall, hsound⟩ := hS.1.2 g _ hrun
    have hsound : SoundB P g run := hsound
    have hrel := h.ev (.func g)
    obtain ⟨vs0, hfe, hcaps⟩ := (show ∃ vs : List Value, a.eval (.func g) = .func (.func g) #[] vs.toArray ∧ All2 (CapRel ρ s.heap) [] vs from hrel)
    obtain rfl : vs0 = [] := by
      cases vs0 with
      | nil => rfl
      | cons x l => cases hcaps
    have hargs := rel_args h c.args.toList
    unfold srcOut at hr
    split at hr
    · rename_i id hev
      rw [hev] at hargs
      split at hr
      · rename_i m cl d hb hdst
        split at hr
        · rename_i ok e vals hres
          simp only [Option.some.injEq] at hr; subst hr
          obtain rfl : ok = true := hchk
          cases hal : c.args.toList.map a.eval with
          | nil => rw [hal] at hargs; cases hargs
          | cons v0 l0 =>
            rw [hal] at hargs
            obtain ⟨⟨hlive, hv0⟩, hl0⟩ := hargs
            cases l0 with
            | cons x l => cases hl0
            | nil =>
              subst hv0
              have hcalls := hsound w m cl (ρ id) e vals (h.gok hS.2) (ros_at h hb) hres
              rw [show [ρ id].toArray = c.args.map a.eval ++ (#[] : Array Value) from by rw [← hal]; apply Array.toList_inj.1; simp] at hcalls
              refine wp_enter (R := fun v w' => ∃ b, v = .pointer (some ⟨b, 0, none⟩) ∧ w.heap.size ≤ b ∧ w'.heap[b]? = some (.cells (ρ id :: vals).toArray e (0, 0)) ∧ w.grownBy w' none) ho hc hfe hcall (hcalls.mono fun x w' ⟨b, h1, h2⟩ => ⟨_, h1, b, rfl, h2⟩) fun v w' ⟨b, h1, h2, h3, h4⟩ => ?_
              subst h1
              exact src_after h hd hdst hb hf h2 h3 h4
        · cases hr
      · cases hr
    · cases hr
  | tmp t => exact absurd hm (by unfold mutOf; cases S.k <;> simp)
  | const v => cases hm
  | global g => cases hm
/-- A call of a function value that writes what a captured variable points to. -/
theorem goal_capcall (hS : SumsAt P S W M) (h : R P W M n s a w ρ) (hd : inRange n o.dst = true) {c : Call} {f : Operand} (ho : o.op = .call c) (hc : c.callee = .value f)
    (hr : capOut S s (s.ev f) (c.args.toList.map s.ev) = some r) (hchk : r.chk = true) : Goal P W M n o s r a w Q := by
  have hfrel := h.ev f
  generalize hfe : s.ev f = F at hr hfrel
  have hargs := rel_args h c.args.toList
  unfold capOut at hr
  split at hr
  · rename_i xs0 g ib
    split at hr
    · rename_i run hrun
      split at hr
      · rename_i eb id hib
        obtain ⟨hcall, hsound⟩ := hS.1.2 g _ hrun
        have hsound : SoundC P g run := hsound
        obtain ⟨vs0, hfv, hcaps⟩ := (show ∃ vs : List Value, a.eval f = .func (.func g) #[] vs.toArray ∧ All2 (CapRel ρ s.heap) [ib] vs from hfrel)
        obtain ⟨vc, rfl, _, g', o', hat, rfl⟩ : ∃ vc, vs0 = [vc] ∧ CapRel ρ s.heap ib vc := by
          match vs0, hcaps with
          | [vc], hcaps => exact ⟨vc, rfl, hcaps.1⟩
        obtain ⟨gb, csb, j1, j2, j3, j4⟩ := h.heap ib _ hib
        rw [j1] at hat
        obtain ⟨rfl, rfl⟩ : gb = g' ∧ 0 = o' := by simpa [atOf] using hat
        unfold boxOut at hr
        split at hr
        · rename_i id' xs hev
          simp only [List.cons.injEq, SV.ptr.injEq] at hev
          obtain ⟨⟨rfl, _⟩, rfl⟩ := hev
          split at hr
          · rename_i e cells hb
            split at hr
            · rename_i bcs pvs hbcs hpvs
              split at hr
              · rename_i ok rs bcs' hres
                split at hr
                · rename_i hsame
                  simp only [Option.some.injEq] at hr; subst hr
                  obtain rfl : ok = true := hchk
                  obtain ⟨b, cs, k1, k2, k3, k4⟩ := h.heap id _ hb
                  have hne : ib ≠ id := by
                    rintro rfl
                    rw [hib] at hb
                    simp only [Option.some.injEq, Blk.box.injEq] at hb
                    obtain ⟨_, rfl⟩ := hb
                    simp [optMap, bcOf] at hbcs
                  have hgb : gb ≠ b := fun e' => h.apart ib id _ _ gb hne hib hb rfl rfl (by rw [j1]; rfl) (by rw [k1, e']; rfl)
                  have hcell : w.cell? ⟨gb, 0, none⟩ = some (.pointer (some ⟨b, 0, none⟩)) := by
                    obtain ⟨u, hu, _, g2, o2, ha2, hu2⟩ := box_cell h hib (.inr ⟨_, rfl⟩) (by rw [j1]; rfl) 0 _ rfl
                    rw [k1] at ha2
                    obtain ⟨rfl, rfl⟩ : b = g2 ∧ 0 = o2 := by simpa [atOf] using ha2
                    rw [hu2] at hu
                    exact hu
                  have hbc : All2 (BCRel w b) bcs cs.toList := All2.ofOpt (R2 := BCRel w b) (fun x y v hx hv => bc_rel h k2 hx hv) hbcs k4
                  have hpv : All2 (ArgB w b) pvs (c.args.toList.map a.eval) := All2.ofOpt (R2 := ArgB w b) (fun x y v hx hv => by
                    unfold pvB at hx
                    split at hx
                    · simp only [Option.some.injEq] at hx; subst hx; exact hv
                    · rename_i jd
                      obtain ⟨_, rfl⟩ := hv
                      split at hx
                      · rename_i m c hb'
                        simp only [Option.some.injEq] at hx; subst hx
                        exact ros_off h hb' k2
                      · rename_i e' z m c hb'
                        simp only [Option.some.injEq] at hx; subst hx
                        exact row_off h hb' hb rfl (by rw [k1]; rfl) (by rintro rfl; rw [hb] at hb'; cases hb')
                      · cases hx
                    · cases hx) hpvs hargs
                  have hcalls := hsound w e b gb 0 cs bcs pvs _ rs bcs' (h.gok hS.2) (Own.far hS.2 k2) k3 hcell hgb hbc hpv hres hsame
                  rw [show (c.args.toList.map a.eval ++ [Value.pointer (some ⟨gb, 0, none⟩)]).toArray = c.args.map a.eval ++ ([Value.pointer (some ⟨gb, 0, none⟩)] : List Value).toArray from by apply Array.toList_inj.1; simp] at hcalls
                  refine wp_enter (R := fun v w' => v = retOf rs ∧ w'.heap[b]? = some (.cells (newC bcs' cs.toList).toArray e (0, 0)) ∧ w.grownBy w' (some b)) ho hc hfv hcall (hcalls.mono fun x w' ⟨h1, h2⟩ => ⟨_, h1, rfl, h2⟩) fun v w' ⟨h1, h2, h3⟩ => ⟨ρ, ?_⟩
                  subst h1
                  refine (h.write' (b' := .box e (newSV cells bcs')) hb rfl rfl (fun g hg => ?_) (by rw [k1]; exact h3) ⟨b, _, k1, k2, h2, newSV_rel hsame (optMap_len hbcs) k4⟩).put hd (.inr (retV_rel rs))
                  rw [k1] at hg
                  obtain rfl : b = g := by simpa [ownOf, atOf] using hg
                  exact k2
                · cases hr
              · cases hr
            · cases hr
          · cases hr
        · cases hr
      · cases hr
    · cases hr
  · cases hr
theorem goal_mut (hS : SumsAt P S W M) (h : R P W M n s a w ρ) (hd : inRange n o.dst = true) {c : Call} {f : Operand} (ho : o.op = .call c) (hc : c.callee = .value f) {run : MFn} (hm : mutOf S f = some run)
    (hr : mutOut S s o.dst (s.ev f) run (c.args.toList.map s.ev) = some r) (hchk : r.chk = true) (hf : s.fresh r.news = true) : Goal P W M n o s r a w Q := by
  cases run with
  | row run => exact goal_row hS h hd ho hc hm hr hchk
  | box run => exact goal_boxcall hS h hd ho hc hm hr hchk
  | src run => exact goal_src hS h hd ho hc hm hr hchk hf
  | cap run => exact goal_capcall hS h hd ho hc hr hchk
theorem goal_call (hS : SumsAt P S W M) (h : R P W M n s a w ρ) (hd : inRange n o.dst = true) {c : Call} {f : Operand} (ho : o.op = .call c) (hc : c.callee = .value f)
    (hr : (match s.ev f with
      | .clo g caps => match S.f g, optMap (fun x => PVof s.heap (cloFn S s.heap) (s.ev x)) c.args.toList, optMap (capOf s.heap) caps with
        | some run, some args, some cs => match run (args ++ cs) with
          | some (ok, rs) => outOf o.dst ok rs
          | none => none
        | _, _, _ => none
      | .fn g => match SV.vals (c.args.toList.map s.ev) with
        | some args => match g args with
          | some (ok, r) => outOf o.dst ok [.v r]
          | none => none
        | none => none
      | _ => none) = some r) (hchk : r.chk = true) (hf : s.fresh r.news = true) : Goal P W M n o s r a w Q := by
  have hrel := h.ev f
  split at hr
  · rename_i g caps hev
    rw [hev] at hrel
    obtain ⟨vs, hfe, hcaps⟩ := hrel
    split at hr
    · rename_i run args cs hrun hargs hcs
      split at hr
      · rename_i ok rs hres
        obtain ⟨_, _, hck⟩ := outOf_news hr
        obtain rfl : ok = true := by rw [← hck]; exact hchk
        obtain ⟨hcall, hsound⟩ := hS.1.1 g run hrun
        have hall : All2 (ArgRel P w) (args ++ cs) (c.args.toList.map a.eval ++ vs) :=
          All2.app (optMap_args h hargs fun x pv hx => PVof_ok hS h (h.ev x) hx) (All2.join (T := ArgRel P w) (fun id pv x (hp : capOf s.heap id = some pv) (hx : CapRel ρ s.heap id x) => capOf_ok h (World.grownBy.refl w none) hx hp) (optMap_all2 hcs) hcaps)
        have hcalls := hsound w _ _ rs (h.gok hS.2) hall hres
        rw [show (c.args.toList.map a.eval ++ vs).toArray = c.args.map a.eval ++ vs.toArray from by apply Array.toList_inj.1; simp] at hcalls
        exact wp_enter ho hc hfe hcall hcalls fun rv w' ⟨h1, h2⟩ => after_call h hd hr hf h2 h1
      · cases hr
    · cases hr
  · rename_i g hev
    rw [hev] at hrel
    obtain ⟨fid, caps, hfe, hcall, hsound⟩ := hrel
    split at hr
    · rename_i args hargs
      split at hr
      · rename_i ok rv hg
        obtain ⟨_, _, hck⟩ := outOf_news hr
        obtain rfl : ok = true := by rw [← hck]; exact hchk
        have hargs' : c.args.toList.map a.eval = args := by
          have hall : All2 (Rel P W M ρ s.heap) (c.args.toList.map s.ev) (c.args.toList.map a.eval) := by
            clear hargs hr ho hc hg
            generalize c.args.toList = l
            induction l with
            | nil => exact True.intro
            | cons x l ih => exact ⟨h.ev x, ih⟩
          exact vals_all2 hargs hall
        have hcalls := hsound w h.grown args rv hg
        rw [show args.toArray ++ caps = c.args.map a.eval ++ caps from by rw [← hargs']; apply Array.toList_inj.1; simp] at hcalls
        refine wp_enter (R := fun v w' => v = rv ∧ w.grownBy w' none) ho hc hfe hcall (hcalls.mono fun e w' ⟨h1, h2⟩ => ⟨rv, h1, rfl, h2⟩) fun v w' ⟨h1, h2⟩ => ?_
        subst h1
        exact after_call h hd hr hf h2 rfl
      · cases hr
    · cases hr
  · cases hr
theorem fresh_kill {id : Nat} : ∀ {l : List (Nat × Blk)}, s.fresh l = true → (s.kill id).fresh l = true
  | [], _ => rfl
  | (i, b) :: l, h => by
    obtain ⟨h1, h2⟩ := fresh_cons h
    have : (s.kill id).heap i = none := by
      show (bif Nat.beq i id then none else match s.heap i with | some b => some (killB id b) | none => none) = none
      rw [h1]
      cases Nat.beq i id <;> rfl
    simp only [FSt.fresh, this]
    exact fresh_kill h2
/-! Slices of slices. -/
/-- A block is looked at in another way. -/
theorem R.change (h : R P W M n s a w ρ) {i : Nat} {b b' : Blk} (hi : s.heap i = some b) (hob : ownB b' = true → ownB b = true) (hb : BRel P W M w ρ s.heap i b')
    (hh : ∀ g, Held w (ρ i) b' g → (ownB b' = true → ownOf (ρ i) ≠ some g) ∧ ∀ j bj, j ≠ i → s.heap j = some bj → ownB bj = true → ownOf (ρ j) ≠ some g) : R P W M n (s.set i b') a w ρ := by
  have hm : ∀ id, (s.heap id).isSome = true → ((s.set i b').heap id).isSome = true ∧ ρ id = ρ id := by
    intro id hid
    refine ⟨?_, rfl⟩
    show (bif Nat.beq id i then some b' else s.heap id).isSome = true
    cases Nat.beq id i
    · exact hid
    · rfl
  have hheap : ∀ id c, (s.set i b').heap id = some c → (id = i ∧ c = b') ∨ (id ≠ i ∧ s.heap id = some c) := by
    intro id c hc
    by_cases e : id = i
    · subst e
      have : Nat.beq id id = true := by simp
      simp only [FSt.set, this, cond_true, Option.some.injEq] at hc
      exact .inl ⟨rfl, hc.symm⟩
    · have : Nat.beq id i = false := nbeq e
      simp only [FSt.set, this, cond_false] at hc
      exact .inr ⟨e, hc⟩
  refine ⟨h.grown, h.size, h.defers, fun t => (h.slots t).mono hm, fun id c hc => ?_, fun x y bx by_ g' hxy hx hy ox oy gx => ?_, fun x bx g2 hx hq y by_ hy oy gy => ?_, fun v0 hv0 => ⟨(h.fix v0 hv0).1, ⟨(hm 0 (h.fix v0 hv0).2.1.1).1, (h.fix v0 hv0).2.1.2⟩, fun u hu => ⟨(hm 1 ((h.fix v0 hv0).2.2 u hu).1).1, ((h.fix v0 hv0).2.2 u hu).2⟩⟩⟩
  · rcases hheap id c hc with ⟨rfl, rfl⟩ | ⟨hne, hc⟩
    · exact hb.mono hm rfl
    · exact (h.heap id c hc).mono hm rfl
  · rcases hheap x bx hx with ⟨rfl, rfl⟩ | ⟨hnx, hx'⟩ <;> rcases hheap y by_ hy with ⟨rfl, rfl⟩ | ⟨hny, hy'⟩
    · exact absurd rfl hxy
    · exact h.apart _ _ _ _ g' hxy hi hy' (hob ox) oy gx
    · exact h.apart _ _ _ _ g' hxy hx' hi ox (hob oy) gx
    · exact h.apart _ _ _ _ g' hxy hx' hy' ox oy gx
  · rcases hheap x bx hx with ⟨rfl, rfl⟩ | ⟨hnx, hx'⟩ <;> rcases hheap y by_ hy with ⟨rfl, rfl⟩ | ⟨hny, hy'⟩
    · exact (hh g2 hq).1 oy gy
    · exact (hh g2 hq).2 y by_ hny hy' oy gy
    · exact h.froz x bx g2 hx' hq _ _ hi (hob oy) gy
    · exact h.froz x bx g2 hx' hq y by_ hy' oy gy
theorem R.freeze (h : R P W M n s a w ρ) {j : Nat} {e sz m : Nat} {c : Cells} (hj : s.heap j = some (.row e sz m c)) : R P W M n (s.set j (.fro true m c)) a w ρ :=
  h.change hj (fun e => by cases e) ⟨row_at h hj, fun _ g hg => (h.heap j _ hj).2.2 g hg⟩ fun g hg => ⟨fun e => (by cases e), fun i bi hne hi oi => h.apart j i _ bi g (Ne.symm hne) hj hi rfl oi hg⟩
theorem R.weakD (h : R P W M n s a w ρ) {i : Nat} {own fr : Bool} {e : TypeId} {ls : List (List Int)} (hb : s.heap i = some (.dee own fr e ls)) {own2 fr2 : Bool} {e2 : TypeId} (ho' : own2 = true → own = true ∧ e2 = e) (hf : fr2 = true → fr = true ∧ own2 = own) : R P W M n (s.set i (.dee own2 fr2 e2 ls)) a w ρ := by
  have ho : own2 = true → own = true := fun e => (ho' e).1
  obtain ⟨⟨vs, q2, q3, q4⟩, q5, q6⟩ := h.heap i _ hb
  have hros : RosRel w none (ρ i) ls.length (.vals vs) := by
    cases own with
    | true => exact ros_of_row (c := .vals vs) (inn_ones q2) (q3 rfl)
    | false => exact q4 rfl
  have q3' : own2 = true → w.ownsRow 0 e2 1 (ρ i) ls.length vs := fun e => by rw [(ho' e).2]; exact q3 (ho e)
  refine h.change hb ho ⟨⟨vs, q2, q3', fun _ => hros⟩, fun e => q5 (ho e), fun e g hg => ?_⟩ fun g hg => ⟨fun e he => ?_, fun j bj hne hj oj gj => ?_⟩
  · obtain ⟨h1, rfl⟩ := hf e
    exact q6 h1 g hg
  · have e' : own2 = true := e
    have h1 := ho e'
    subst h1; subst e'
    exact h.froz i _ g hb hg i _ hb rfl he
  · rcases held_mem q2.len.symm q3' (fun _ => hros) hg with ⟨_, hg⟩ | ⟨u, hu, hg⟩
    · cases own with
      | true => exact h.apart i j _ bj g (Ne.symm hne) hb hj rfl oj hg gj
      | false => exact h.froz i _ g hb (.inl ⟨rfl, hg⟩) j bj hj oj gj
    · exact h.froz i _ g hb (mem_held q2.len.symm q3 q4 hu hg) j bj hj oj gj
theorem frz_apply {d : Option Nat} {x : SV} {c : Bool} {i e sz m : Nat} {cc : Cells} : (s.apply d ⟨c, x, [(i, .row e sz m cc)], none, none⟩).set i (.fro true m cc) = s.apply d (Out.frz ⟨c, x, [(i, .row e sz m cc)], none, none⟩) := by
  have key : ∀ (d : Option Nat) (q : FSt) (b : Blk), (q.put d x).set i b = (q.set i b).put d x := fun d q b => by cases d <;> rfl
  show ((s.set i _).put d x).set i _ = (s.set i _).put d x
  rw [key]
  congr 1
  show (⟨_, _⟩ : FSt) = ⟨_, _⟩
  congr 1
  funext y
  show (bif Nat.beq y i then some _ else bif Nat.beq y i then some _ else s.heap y) = bif Nat.beq y i then some _ else s.heap y
  cases Nat.beq y i <;> rfl
theorem frz_inv (r : Out) : (∃ i e sz m cc, r.news = [(i, .row e sz m cc)] ∧ r.frz = ⟨r.chk, r.v, [(i, .fro true m cc)], r.upd, r.drop⟩) ∨ r.frz = r := by
  obtain ⟨c, v, news, upd, drop⟩ := r
  match news with
  | [(i, .row e sz m cc)] => exact .inl ⟨i, e, sz, m, cc, rfl, rfl⟩
  | [] => exact .inr rfl
  | [(i, .box _ _)] => exact .inr rfl
  | [(i, .ros _ _)] => exact .inr rfl
  | [(i, .rop _)] => exact .inr rfl
  | [(i, .fro _ _ _)] => exact .inr rfl
  | [(i, .dee _ _ _ _)] => exact .inr rfl
  | _ :: _ :: _ => exact .inr (by unfold Out.frz; congr 1; unfold frzN; split <;> first | rfl | (rename_i h; cases h))
theorem frz_fresh {r : Out} (h : s.fresh r.frz.news = true) : s.fresh r.news = true := by
  rcases frz_inv r with ⟨i, e, sz, m, cc, h1, h2⟩ | h1
  · rw [h2] at h
    rw [h1]
    exact h
  · rwa [h1] at h
/-- What an operation makes is written no more. -/
theorem goal_frz (hu : r.upd = none) (hdr : r.drop = none) (h : Goal P W M n o s r a w Q) : Goal P W M n o s r.frz a w Q := by
  rcases frz_inv r with ⟨i, e, sz, m, cc, h1, h2⟩ | h1
  · obtain ⟨c, v, news, upd, drop⟩ := r
    simp only at hu hdr h1
    subst hu; subst hdr; subst h1
    refine Oper.wp_mono (fun a' w' ⟨ρ', hR⟩ => ⟨ρ', ?_⟩) h
    rw [← frz_apply]
    refine hR.freeze (e := e) (sz := sz) ?_
    have : (s.apply o.dst ⟨c, v, [(i, .row e sz m cc)], none, none⟩).heap i = (s.set i (.row e sz m cc)).heap i := by
      show ((s.set i (.row e sz m cc)).put o.dst v).heap i = _
      cases o.dst <;> rfl
    rw [this]
    show (bif Nat.beq i i then _ else _) = _
    simp
  · rw [h1]; exact h
theorem sliceE_spec {t e : TypeId} (h : sliceE P t = some e) : P.underlying t = some (.slice e) ∧ semOnly P (sizeOf e) = some 1 ∧ ∃ z, semOnly P (zeroValue e) = some z := by
  unfold sliceE at h
  split at h
  · rename_i e' hu
    split at h
    · rename_i k z _ hs hz
      simp only [Option.some.injEq] at h; subst h
      exact ⟨hu, hs, _, hz⟩
    · cases h
  · cases h
theorem only_und {t : TypeId} {d : TypeDesc} (h : P.underlying t = some d) : semOnly P (underlying t) = some d := by
  show semOnly P (match P.underlying t with | some d => Pure.pure d | none => stuck "no such type") = _
  rw [h]; rfl
theorem bs_zero {t e : TypeId} (h : sliceE P t = some e) : semOnly P (bsCells t 0 #[]) = some (e, 1, #[]) := by
  obtain ⟨h1, h2, z, h3⟩ := sliceE_spec h
  unfold bsCells
  rw [semOnly_bind, only_und h1]
  simp only [Option.bind_some]
  rw [semOnly_bind, h2]
  simp [semOnly_bind, semOnly, Instr.fill]
  rw [show Array.map (fun _ => (default : Value)) (Array.range 0) = #[] from Array.toList_inj.1 (by simp)]
  rfl
theorem bs_one {t e : TypeId} {v : Value} (h : sliceE P t = some e) (hv : v.cells = #[v]) : semOnly P (bsCells t 1 #[(0, v)]) = some (e, 1, #[v]) := by
  obtain ⟨h1, h2, z, h3⟩ := sliceE_spec h
  unfold bsCells
  rw [semOnly_bind, only_und h1]
  simp only [Option.bind_some]
  rw [semOnly_bind, h2]
  simp [semOnly_bind, semOnly, Instr.fill, h3, hv]
  rw [map_eq_pure_bind, semOnly_bind, h3]
  show some (e, 1, _) = _
  congr 3
  apply Array.toList_inj.1
  simp
theorem rowOf_spec {x : SV} {fr : Bool} {m : Nat} {l : List Int} (h : rowOf s.heap x = some (fr, m, l)) : ∃ j, x = .row j ∧ s.heap j = some (.fro fr m (.ints l)) := by
  unfold rowOf at h
  split at h
  · rename_i j
    split at h
    · rename_i hb
      simp only [Option.some.injEq, Prod.mk.injEq] at h
      obtain ⟨rfl, rfl, rfl⟩ := h
      exact ⟨j, rfl, hb⟩
    · cases h
  · cases h
theorem inn_grown {w' : World} {row : Option Nat} {l : List Int} {u : Value} (h : Inn w l u) (hg : w.grownBy w' row) (hne : ∀ g, ownOf u = some g → row ≠ some g) : Inn w' l u := ros_none h hg hne
theorem inns_grown {w' : World} {row : Option Nat} (hg : w.grownBy w' row) : ∀ {ls : List (List Int)} {vs : List Value}, All2 (Inn w) ls vs → (∀ u ∈ vs, ∀ g, ownOf u = some g → row ≠ some g) → All2 (Inn w') ls vs
  | [], [], _, _ => True.intro
  | _ :: _, _ :: _, ⟨p, q⟩, h => ⟨inn_grown p hg fun g hg' => h _ (by simp) g hg', inns_grown hg q fun u hu => h u (by simp [hu])⟩
theorem inns_lt : ∀ {ls : List (List Int)} {vs : List Value}, All2 (Inn w) ls vs → ∀ u ∈ vs, ∀ g, ownOf u = some g → g < w.heap.size
  | [], [], _, u, hu, _, _ => by cases hu
  | _ :: _, _ :: _, ⟨p, q⟩, u, hu, g, hg => by
    rcases List.mem_cons.1 hu with rfl | hu
    · exact ros_lt p hg
    · exact inns_lt q u hu g hg
theorem goal_buildD (h : R P W M n s a w ρ) (hd : inRange n o.dst = true) {t : TypeId} {len d : Nat} {parts : Array (Nat × Operand)} (ho : o.op = .buildSlice t len parts) (hdst : o.dst = some d)
    (hr : buildD P s d t len parts.toList = some r) (hchk : r.chk = true) (hf : s.fresh r.news = true) : Goal P W M n o s r a w Q := by
  have new : ∀ (e : TypeId) (fr : Bool) (ls : List (List Int)) (vs : List Value) (L : Nat), L ≤ 1 → ls.length = L → All2 (Inn w) ls vs → (fr = true → ∀ u ∈ vs, ∀ g, ownOf u = some g → Own W M g) → (∀ u ∈ vs, ∀ g, ownOf u = some g → ∀ j bj, s.heap j = some bj → ownB bj = true → ownOf (ρ j) ≠ some g) →
      semOnly P (bsCells t L (parts.map fun (i, x) => (i, a.eval x))) = some (e, 1, vs.toArray) → len = L → ∀ c, s.fresh [(4 * d, .dee true fr e ls)] = true → Goal P W M n o s ⟨c, .row (4 * d), [(4 * d, .dee true fr e ls)], none, none⟩ a w Q := by
    intro e fr ls vs L hL hls q2 hfr hap hbs hlen c hf
    have hvl : vs.length = L := by rw [← q2.len]; exact hls
    have hrow : (w.alloc (.cells vs.toArray e)).ownsRow 0 e 1 (.slice (some ⟨w.heap.size, 0, none⟩) ls.length ls.length) ls.length vs := by
      have := World.ownsRow_lit (e := e) (size := 1) (base := 0) w vs.toArray L (Nat.zero_le _) (by unfold maxLen; omega) (by simpa using hvl)
      rw [hls]; simpa using this
    have q2' := inns_grown (alloc_grown w (.cells vs.toArray e)) q2 fun _ _ _ _ e => by cases e
    refine goal_new (w' := w.alloc (.cells vs.toArray e)) (u := .slice (some ⟨w.heap.size, 0, none⟩) ls.length ls.length) (v := .slice (some ⟨w.heap.size, 0, none⟩) ls.length ls.length) h hd hf ?_ (alloc_grown _ _) ⟨⟨vs, q2', fun _ => ?_, fun e => by cases e⟩, fun _ g hg => ?_, fun hfr' g hg => ?_⟩ (fun _ g hg => ?_) (fun H hH => ⟨hH, by simp only [if_true]⟩) fun g hg => ?_
    · simp only [execOp, ho]
      rw [hlen, hls]
      exact (run_bind_ok (bs_run hbs w)).trans rfl
    · simp only [if_true]; exact hrow
    · simp only [if_true] at hg
      obtain rfl : w.heap.size = g := by simpa [ownOf, atOf] using hg
      exact own_new h
    · simp only [if_true] at hg
      rcases held_mem q2.len.symm (fun _ => hrow) (fun e => by cases e) hg with ⟨e, _⟩ | ⟨u, hu, hg⟩
      · cases e
      · exact hfr hfr' u hu g hg
    · obtain rfl : w.heap.size = g := by simpa [ownOf, atOf] using hg
      exact Nat.le_refl _
    · rcases held_mem q2.len.symm (fun _ => hrow) (fun e => by cases e) hg with ⟨e, _⟩ | ⟨u, hu, hg⟩
      · cases e
      · refine ⟨fun _ he => ?_, hap u hu g hg⟩
        have h1 := inns_lt q2 u hu g hg
        obtain rfl : w.heap.size = g := by simpa [ownOf, atOf] using he
        omega
  match hp : parts.toList, hr with
  | [], hr =>
    simp only [buildD] at hr
    split at hr
    · rename_i e hE
      split at hr
      · rename_i hl
        simp only [Option.some.injEq] at hr; subst hr
        refine new e true [] [] 0 (by omega) rfl True.intro (fun _ u hu => by cases hu) (fun u hu => by cases hu) ?_ (neq hl) _ hf
        rw [show parts = #[] from Array.toList_inj.1 hp]
        simpa using bs_zero hE
      · cases hr
    · cases hr
  | [(0, x)], hr =>
    simp only [buildD] at hr
    split at hr
    · rename_i e fr m l hE hrow
      split at hr
      · rename_i hl
        simp only [Option.some.injEq] at hr; subst hr
        obtain ⟨j, hx, hb⟩ := rowOf_spec hrow
        have hv := h.ev x
        rw [hx] at hv
        obtain ⟨hl1, he⟩ := hv
        have hlm := neq hchk
        obtain ⟨k1, k2⟩ := h.heap j _ hb
        have hinn : Inn w l (ρ j) := by
          unfold Inn; rw [hlm]; exact k1
        refine new e fr [l] [ρ j] 1 (by omega) rfl ⟨hinn, True.intro⟩ (fun hfr u hu g hg => ?_) (fun u hu g hg i bi hi oi => ?_) ?_ (neq hl) _ hf
        · obtain rfl : u = ρ j := by simpa using hu
          exact k2 hfr g hg
        · obtain rfl : u = ρ j := by simpa using hu
          exact h.froz j _ g hb hg i bi hi oi
        · rw [show parts = #[(0, x)] from Array.toList_inj.1 hp]
          rw [show (Array.map (fun (x : Nat × Operand) => match x with | (i, x) => (i, a.eval x)) #[(0, x)]) = #[(0, ρ j)] from by rw [← he]; simp]
          exact bs_one hE (rho_one h hl1).1
      · cases hr
    · cases hr
  | (i + 1, x) :: l, hr => simp only [buildD] at hr; cases hr
  | (0, x) :: y :: l, hr => simp only [buildD] at hr; cases hr
theorem goal_loadD (h : R P W M n s a w ρ) (hd : inRange n o.dst = true) {t : TypeId} {x : Operand} {d : Nat} (ho : o.op = .load t x) (hdst : o.dst = some d)
    (hr : loadD P s d t (s.ev x) = some r) (hchk : r.chk = true) (hf : s.fresh r.news = true) : Goal P W M n o s r a w Q := by
  have hv := h.ev x
  unfold loadD at hr
  split at hr
  · rename_i id off hx
    rw [hx] at hv
    obtain ⟨hl, g, o', ha, he⟩ := hv
    split at hr
    · rename_i own fr e ls hb hag hsz
      simp only [Option.some.injEq] at hr; subst hr
      have hle := nle hchk
      obtain ⟨⟨vs, q2, q3, q4⟩, q5, q6⟩ := h.heap id _ hb
      have hoff : off < vs.length := by rw [← q2.len]; exact hle
      have hoff' : off < ls.length := hle
      obtain ⟨c1, g0, o1, c2, c3, c4⟩ := dee_cell q2.len.symm q3 q4 (List.getElem?_eq_getElem hoff)
      rw [ha] at c2
      obtain ⟨rfl, rfl⟩ : g = g0 ∧ o' = o1 := by simpa using c2
      have hinn : Inn w (ls.getD off []) vs[off] := by
        have := all2_pick q2 (List.getElem?_eq_getElem hoff') (List.getElem?_eq_getElem hoff)
        rwa [List.getD_eq_getElem?_getD, List.getElem?_eq_getElem hoff', Option.getD_some]
      have hheld : ∀ g, ownOf vs[off] = some g → Held w (ρ id) (.dee own fr e ls) g := fun g hg => mem_held q2.len.symm q3 q4 (List.getElem_mem hoff) hg
      refine goal_new (w' := w) (u := vs[off]) (v := vs[off]) h hd hf ?_ (World.grownBy.refl w none) ⟨?_, fun hfr g hg => ?_⟩ (fun e => by cases e) (fun H hH => ⟨hH, by simp only [if_true]⟩) fun g hg => ⟨fun e => (by cases e), h.froz id _ g hb (hheld g hg)⟩
      · simp only [execOp, ho, he]
        exact (run_bind_ok (load_run1 hag c4)).trans rfl
      · simp only [if_true]; exact hinn
      · simp only [if_true] at hg
        exact q6 hfr g (hheld g hg)
    · cases hr
  · cases hr
theorem goal_storeD (h : R P W M n s a w ρ) (hd : inRange n o.dst = true) {t : TypeId} {x y : Operand} (ho : o.op = .store t x y) (hdst : o.dst = none)
    (hr : storeD P s t (s.ev y) (s.ev x) = some r) (hchk : r.chk = true) : Goal P W M n o s r a w Q := by
  have hv := h.ev x
  have hy := h.ev y
  unfold storeD at hr
  split at hr
  · rename_i id off hx
    rw [hx] at hv
    obtain ⟨hl, g, o', ha, he⟩ := hv
    split at hr
    · rename_i fr e ls fr2 m l hb hrow hsz
      simp only [Option.some.injEq] at hr; subst hr
      simp only [Bool.and_eq_true] at hchk
      have hle := nle hchk.1
      have hlm := neq hchk.2
      obtain ⟨j, hyj, hbj⟩ := rowOf_spec hrow
      rw [hyj] at hy
      obtain ⟨hlj, hye⟩ := hy
      obtain ⟨k1, k2⟩ := h.heap j _ hbj
      have hinn : Inn w l (ρ j) := by
        unfold Inn; rw [hlm]; exact k1
      obtain ⟨⟨vs, q2, q3, q4⟩, q5, q6⟩ := h.heap id _ hb
      have hown := q3 rfl
      have hone := rho_one h hlj
      have hheld : ∀ u ∈ vs, ∀ g, ownOf u = some g → Held w (ρ id) (.dee true fr e ls) g := fun u hu g hg => mem_held q2.len.symm q3 q4 hu hg
      rcases hown.2 with ⟨h0, _⟩ | ⟨g', cap, cur, hv, hb0, hg, hc, hm, hz, hx0⟩
      · rw [h0] at ha; cases ha
      · rw [hv] at ha
        obtain ⟨rfl, rfl⟩ : g' = g ∧ 0 = o' := by simpa [atOf] using ha
        have hgi : ownOf (ρ id) = some g' := by rw [hv]; rfl
        obtain ⟨⟨cs', hh, hcs'⟩, hgr⟩ := setCells_heap [ρ j] off w cur hg
        have hcur : cur.size = cap * 1 := hz
        have hcl : (a.eval y).cells.toList = [ρ j] := by rw [hye, hone.1]
        have hrun : (execOp a.eval o).run P w = .ok .skip (w.setCells g' off [ρ j]) := by
          simp only [execOp, ho, he]
          have := store_run (P := P) (w := w) (g := g') (i := off) (v := a.eval y) hsz (by rw [hye, hone.1]; rfl) (fun j hj => by
            have hlt : off + j < cur.size := by omega
            exact ⟨by simp [World.cell?, hg, hlt], by simp [World.frozen?, hg]⟩) (fun u hu => by
              rw [hcl] at hu
              obtain rfl : u = ρ j := by simpa using hu
              exact hone.2)
          rw [hcl] at this
          rw [Nat.zero_add]
          exact (run_bind_ok this).trans rfl
        have hmem : ∀ u ∈ vs.set off (ρ j), u ∈ vs ∨ u = ρ j := fun u hu => List.mem_or_eq_of_mem_set hu
        have hne : ∀ u ∈ vs.set off (ρ j), ∀ g2, ownOf u = some g2 → ∀ i bi, s.heap i = some bi → ownB bi = true → ownOf (ρ i) ≠ some g2 := fun u hu g2 hg2 => by
          rcases hmem u hu with hu | rfl
          · exact h.froz id _ g2 hb (hheld u hu g2 hg2)
          · exact h.froz j _ g2 hbj hg2
        have q2' : All2 (Inn (w.setCells g' off [ρ j])) (ls.set off l) (vs.set off (ρ j)) := inns_grown hgr (q2.set off hinn) fun u hu g2 hg2 e => by
          cases e
          exact hne u hu g' hg2 id _ hb rfl hgi
        have hlen : (ls.set off l).length = ls.length := by simp
        have hown' : (w.setCells g' off [ρ j]).ownsRow 0 e 1 (ρ id) (ls.set off l).length (vs.set off (ρ j)) := by
          rw [hlen]
          refine ⟨by rw [List.length_set]; exact hown.1, .inr ⟨g', cap, cs', hv, hb0, hh, hc, hm, ?_, ?_⟩⟩
          · have := congrArg List.length hcs'
            rw [setV_len] at this
            simp at this
            omega
          · rw [hcs', setV_take, hx0]; rfl
        have hfz : ∀ g2, Held (w.setCells g' off [ρ j]) (ρ id) (.dee true (fr && fr2) e (ls.set off l)) g2 → ∃ u ∈ vs.set off (ρ j), ownOf u = some g2 := fun g2 hg2 => by
          rcases held_mem q2'.len.symm (fun _ => hown') (fun e => by cases e) hg2 with ⟨e, _⟩ | hq
          · cases e
          · exact hq
        refine wp_skp hrun ⟨ρ, ?_⟩
        rw [hdst]
        show R P W M n (s.set id _) a _ ρ
        refine h.write hb rfl rfl hgi (q5 rfl g' hgi) hgr ⟨⟨_, q2', fun _ => hown', fun e => by cases e⟩, fun _ => q5 rfl, fun hfr g2 hg2 => ?_⟩ fun g2 hg2 => ?_
        · rw [Bool.and_eq_true] at hfr
          obtain ⟨u, hu, hg2⟩ := hfz g2 hg2
          rcases hmem u hu with hu | rfl
          · exact q6 hfr.1 g2 (hheld u hu g2 hg2)
          · exact k2 hfr.2 g2 hg2
        · obtain ⟨u, hu, hg2⟩ := hfz g2 hg2
          exact hne u hu g2 hg2
    · cases hr
  · cases hr
/-- A slice of slices that is read. -/
theorem deeOf_ok (h : R P W M n s a w ρ) {x : SV} {v : Value} (hx : Rel P W M ρ s.heap x v) {fr : Bool} {ms : List (List Int)} (hr : deeOf s.heap x = some (true, fr, ms)) :
    ∃ us, All2 (Inn w) ms us ∧ RosRel w none v ms.length (.vals us) ∧ (∀ u ∈ us, ∀ g, ownOf u = some g → ∀ j bj, s.heap j = some bj → ownB bj = true → ownOf (ρ j) ≠ some g) ∧ (fr = true → ∀ u ∈ us, ∀ g, ownOf u = some g → Own W M g) := by
  have base : ∀ {id : Nat} {own fr : Bool} {e : TypeId} {ls : List (List Int)}, s.heap id = some (.dee own fr e ls) → ∃ us, All2 (Inn w) ls us ∧ RosRel w none (ρ id) ls.length (.vals us) ∧ (∀ u ∈ us, ∀ g, ownOf u = some g → ∀ j bj, s.heap j = some bj → ownB bj = true → ownOf (ρ j) ≠ some g) ∧ (fr = true → ∀ u ∈ us, ∀ g, ownOf u = some g → Own W M g) := by
    intro id own fr e ls hb
    obtain ⟨⟨vs, q2, q3, q4⟩, q5, q6⟩ := h.heap id _ hb
    have hheld : ∀ u ∈ vs, ∀ g, ownOf u = some g → Held w (ρ id) (.dee own fr e ls) g := fun u hu g hg => mem_held q2.len.symm q3 q4 hu hg
    refine ⟨vs, q2, ?_, fun u hu g hg => h.froz id _ g hb (hheld u hu g hg), fun hf u hu g hg => q6 hf g (hheld u hu g hg)⟩
    cases own with
    | true => exact ros_of_row (c := .vals vs) (inn_ones q2) (q3 rfl)
    | false => exact q4 rfl
  unfold deeOf at hr
  split at hr
  · rename_i id
    split at hr
    · rename_i own fr' e ls hb
      simp only [Option.some.injEq, Prod.mk.injEq, true_and] at hr
      obtain ⟨rfl, rfl⟩ := hr
      obtain ⟨_, rfl⟩ := hx
      exact base hb
    · cases hr
  · rename_i id off k sz
    split at hr
    · rename_i own fr' e ls hb
      split at hr
      · rename_i hsz
        simp only [Option.some.injEq, Prod.mk.injEq] at hr
        obtain ⟨hck, rfl, rfl⟩ := hr
        have hck := nle hck
        obtain ⟨_, q, cap, rfl, hq⟩ := hx
        obtain ⟨us, u1, u2, u3, u4⟩ := base hb
        have hmem : ∀ u ∈ (us.drop off).take k, u ∈ us := fun u hu => List.mem_of_mem_drop (List.mem_of_mem_take hu)
        have hl : ((ls.drop off).take k).length = k := by simp; omega
        refine ⟨(us.drop off).take k, (u1.drop off).take k, ?_, fun u hu => u3 u (hmem u hu), fun hf u hu => u4 hf u (hmem u hu)⟩
        rw [hl]
        have := ros_sub (sz := 1) u2 rfl hq
        rwa [Nat.mul_one] at this
      · cases hr
    · cases hr
  · cases hr
theorem goal_appD (h : R P W M n s a w ρ) (hd : inRange n o.dst = true) {c : Call} {d : Nat} {t u : TypeId} {x y : SV} (ho : o.op = .call c) (hc : c.callee = .builtin .append) (hdst : o.dst = some d) (hargs : c.args.toList.map s.ev = [x, y]) (htys : c.argTypes.toList = [t, u]) (htu : Nat.beq t u = true)
    (hr : appD P s d t y x = some r) (hchk : r.chk = true) (hf : (s.dropped r.drop).fresh r.news = true) : Goal P W M n o s r a w Q := by
  have htu := neq htu
  subst htu
  obtain ⟨X, Y, hXY, hX, hY⟩ : ∃ X Y, c.args.toList = [X, Y] ∧ s.ev X = x ∧ s.ev Y = y := by
    match hq : c.args.toList, hargs with
    | [X, Y], hargs => simp at hargs; exact ⟨X, Y, rfl, hargs.1, hargs.2⟩
    | [], hargs => cases hargs
    | [_], hargs => cases hargs
    | _ :: _ :: _ :: _, hargs => simp at hargs
  have e1 : c.args = #[X, Y] := Array.toList_inj.1 hXY
  have e2 : c.argTypes = #[t, t] := Array.toList_inj.1 htys
  have hrun : ∀ {v : Value} {w' : World}, (Builtin.append_ #[t, t] o.type #[a.eval X, a.eval Y]).run P w = .ok v w' → (execOp a.eval o).run P w = .ok (.value v) w' := by
    intro v w' hl
    simp only [execOp, ho]
    obtain ⟨cs, this⟩ := resolve_builtin (P := P) (a := a) (ty := o.type) hc
    rw [e1, e2, show Array.map a.eval #[X, Y] = #[a.eval X, a.eval Y] from by simp] at this
    rw [run_bind_ok (this w)]
    exact run_bind_val hl
  unfold appD at hr
  split at hr
  · rename_i id
    have hrel := h.ev X
    rw [hX] at hrel
    obtain ⟨hl, hxe⟩ := hrel
    split at hr
    · rename_i fr e ls ck fr2 ms e' hb hdee hu
      split at hr
      · rename_i i hi
        have hinfo := only_info hi
        split at hr
        · rename_i hck
          simp only [Bool.and_eq_true] at hck
          obtain ⟨⟨⟨⟨k0, k1⟩, k2⟩, k3⟩, k4⟩ := hck
          have k0 := neq k0; have k1 := nle k1; have k2 := neq k2; have k3 := nle k3
          subst k0
          obtain ⟨z, hz, hzs⟩ : ∃ z, i.zero = some z ∧ z.cells.size = i.size := by
            unfold zeroOK at k4
            cases hq : i.zero with
            | none => rw [hq] at k4; cases k4
            | some z => rw [hq] at k4; exact ⟨z, rfl, neq k4⟩
          simp only [Option.some.injEq] at hr; subst hr
          simp only [Bool.and_eq_true] at hchk
          obtain ⟨rfl, hlen⟩ := hchk
          have hlen := nle hlen
          have hyr := h.ev Y
          rw [hY] at hyr
          obtain ⟨us, u1, u2, u3, u4⟩ := deeOf_ok h hyr hdee
          obtain ⟨⟨vs, q2, q3, q4⟩, q5, q6⟩ := h.heap id _ hb
          have hown := q3 rfl
          have hheld : ∀ u ∈ vs, ∀ g, ownOf u = some g → Held w (ρ id) (.dee true fr e ls) g := fun u hu g hg => mem_held q2.len.symm q3 q4 hu hg
          have hne : ∀ u ∈ vs ++ us, ∀ g, ownOf u = some g → ∀ j bj, s.heap j = some bj → ownB bj = true → ownOf (ρ j) ≠ some g := fun u hu g hg => by
            rcases List.mem_append.1 hu with hu | hu
            · exact h.froz id _ g hb (hheld u hu g hg)
            · exact u3 u hu g hg
          have hall := q2.app u1
          have hlt := inns_lt hall
          have hoff : ∀ j bj g, (s.kill id).heap j = some bj → Touch w (ρ j) bj g → ownOf (ρ id) ≠ some g := fun j bj g hj ht e => by
            obtain ⟨hne, bj', hj', rfl⟩ := kill_inv hj
            rcases touch_kill ht with ⟨oj, gj⟩ | hh
            · exact h.apart id j _ bj' g (Ne.symm hne) hb hj' rfl oj e gj
            · exact h.froz j bj' g hj' hh id _ hb rfl e
          have hR1 : R P W M n (s.kill id) a w ρ := h.kill id ⟨by omega, by omega⟩
          have hi0 : (s.kill id).heap (4 * d) = none := fresh1 hf
          have hlen2 : (ls ++ ms).length = ls.length + ms.length := List.length_append
          -- what the append leaves behind
          obtain ⟨v', w', hap, hgr, hown', hblk⟩ : ∃ v' w', (Builtin.append_ #[t, t] o.type #[a.eval X, a.eval Y]).run P w = .ok v' w' ∧ w.grownBy w' (ρ id).ownBlock ∧ w'.ownsRow 0 e 1 v' (ls ++ ms).length (vs ++ us) ∧ (v'.ownBlock = (ρ id).ownBlock ∨ v'.ownBlock = some w.heap.size) := by
            rw [hlen2]
            rcases u2.2 with ⟨hy0, h0, hc0⟩ | ⟨g2, o2, cap2, hy2, hcap2, _, hcells⟩
            · have hap := run_append_owned_none (P := P) w 0 t o.type e i 1 hu hinfo (ρ id) ls.length vs hown
              rw [← hxe, show (Value.slice none 0 0) = a.eval Y from hy0.symm] at hap
              have hc0 : us = [] := hc0
              refine ⟨a.eval X, w, hap, World.grownBy.refl w _, ?_, .inl (by rw [hxe])⟩
              rw [h0, hc0, hxe, Nat.add_zero, List.append_nil]
              exact hown
            · obtain ⟨v', w', hap, hown', hgr, _, hblk⟩ := run_append_own_at (P := P) w 0 t o.type e i z 1 i.bytes hu hinfo hz k2 rfl (by rw [hzs, k2]) (Nat.le_refl 1) (ρ id) ls.length vs hown ⟨g2, o2, none⟩ ms.length cap2 us (by rw [← u1.len, Nat.mul_one])
                (fun j u hj => by rw [addr_add]; exact hcells j u hj) (inn_ones u1) (by unfold maxLen; omega) (by have := Nat.mul_le_mul hlen k3; omega) (Nat.zero_le _)
              rw [← hxe, ← hy2] at hap
              refine ⟨v', w', hap, ?_, hown', ?_⟩
              · exact hgr
              · exact hblk
          rw [ownOf_row hown] at hgr hblk
          have hR2 : R P W M n (s.kill id) a w' ρ := hR1.extOff hgr fun g hg => ⟨q5 rfl g hg, fun j bj hj ht => hoff j bj g hj ht hg⟩
          have hall' := inns_grown hgr hall fun u hu g hg e => hne u hu g hg id _ hb rfl e
          have hh : ∀ g, Held w' v' (.dee true (fr && fr2) e (ls ++ ms)) g → ∃ u ∈ vs ++ us, ownOf u = some g := fun g hg => by
            rcases held_mem hall'.len.symm (fun _ => hown') (fun e => by cases e) hg with ⟨e, _⟩ | hq
            · cases e
            · exact hq
          have hv'g : ∀ g, ownOf v' = some g → ownOf (ρ id) = some g ∨ g = w.heap.size := fun g hg => by
            rw [← ownOf_row hown'] at hg
            rcases hblk with hb | hb
            · exact .inl (by rw [← hb]; exact hg)
            · rw [hb] at hg
              exact .inr (by simpa using hg.symm)
          refine wp_val (hrun hap) ⟨fun x => if x = 4 * d then v' else ρ x, ?_⟩
          show R P W M n ((((s.dropped (some id)).news [_]).upd none).put o.dst _) _ _ _
          refine R.put (R.new (s := s.kill id) (b := .dee true (fr && fr2) e (ls ++ ms)) (v := v') hR2 hi0 ⟨⟨vs ++ us, hall', fun _ => ?_, fun e => by cases e⟩, fun _ g hg => ?_, fun hfr g hg => ?_⟩ (fun ob g hg j bj hj ht => ?_) fun g hg => ?_) hd (.inr ⟨?_, ?_⟩)
          · simp only [if_true]; exact hown'
          · simp only [if_true] at hg
            rcases hv'g g hg with hg | rfl
            · exact q5 rfl g hg
            · exact own_new h
          · simp only [if_true] at hg
            rw [Bool.and_eq_true] at hfr
            obtain ⟨u, hu, hg⟩ := hh g hg
            rcases List.mem_append.1 hu with hu | hu
            · exact q6 hfr.1 g (hheld u hu g hg)
            · exact u4 hfr.2 u hu g hg
          · have ht := touch_back (hR1.heap j bj hj) hgr (fun g' ht e => hoff j bj g' hj ht e) ht
            rcases hv'g g hg with hg | rfl
            · exact hoff j bj g hj ht hg
            · have := touch_lt (hR1.heap j bj hj) ht
              omega
          · obtain ⟨u, hu, hg⟩ := hh g hg
            refine ⟨fun _ he => ?_, fun j bj hj oj => ?_⟩
            · rcases hv'g g he with he | rfl
              · exact hne u hu g hg id _ hb rfl he
              · have := hlt u hu _ hg
                omega
            · obtain ⟨_, bj', hj', rfl⟩ := kill_inv hj
              rw [ownB_kill] at oj
              exact hne u hu g hg j bj' hj' oj
          · show (bif Nat.beq (4 * d) (4 * d) then some (Blk.dee true (fr && fr2) e (ls ++ ms)) else (s.kill id).heap (4 * d)).isSome = true
            simp
          · simp only [if_true]
        · cases hr
      · cases hr
    · cases hr
  · cases hr
/-- Every operation. -/
theorem op_sim0 (hS : SumsAt P S W M) (h : R P W M n s a w ρ) (hd : inRange n o.dst = true) (hr : opOut0 P S s o = some r) (hchk : r.chk = true) (hf : s.fresh r.news = true) : Goal P W M n o s r a w Q := by
  have hdep : 2 ≤ P.depth := by unfold Program.depth; omega
  unfold opOut0 at hr
  cases ho : o.op <;> rw [ho] at hr <;> dsimp only at hr
  case move x => exact goal_move h hd (.inl ho) hr
  case assign x => exact goal_move h hd (.inr ho) hr
  case pick c x y => exact goal_pick h hd ho hr
  case alloc e => exact goal_alloc h hd ho hr hf
  case box e x => exact goal_box h hd ho hr hf
  case buildSlice t len parts => exact goal_buildSlice h hd ho hr hf
  case load t x =>
    cases hg : globOf x with
    | some g =>
      rw [hg] at hr
      have hx := globOf_some hg
      subst hx
      exact goal_gload hS.2 h hd ho hr
    | none => rw [hg] at hr; exact goal_load h hd ho hr hchk
  case store t x y =>
    cases hdst : o.dst with
    | some d => rw [hdst] at hr; cases hr
    | none => rw [hdst] at hr; exact goal_store h hd ho hr hchk hdst
  case binOp op t x y u => exact goal_bin h hd ho (fun k hk => eqGuard_ints hk hdep) hr hchk
  case unOp op t x => exact goal_opVal h hd (.inr (.inl ⟨_, _, _, ho⟩)) hr
  case build t ps =>
    split at hr
    · rename_i r' hr'
      simp only [Option.some.injEq] at hr; subst hr
      exact goal_agr h hd ho hr'
    · exact goal_opVal h hd (.inr (.inr (.inl ⟨_, _, ho⟩))) hr
  case field t x f => exact goal_opVal h hd (.inr (.inr (.inr (.inl ⟨_, _, _, ho⟩)))) hr
  case convert t u x =>
    cases hx : s.ev x with
    | row id => rw [hx] at hr; exact goal_toStr h hd ho hx hr hchk
    | _ => rw [hx] at hr; exact goal_opVal h hd (.inr (.inr (.inr (.inr ⟨_, _, _, ho⟩)))) hr
  case makeFunc fn first captured =>
    cases fn <;> dsimp only at hr <;> try (cases hr; done)
    exact goal_makeFunc h hd ho hr
  case makeSlice t x y => exact goal_makeSlice h hd ho hr hchk hf
  case fieldAddr t x f => exact goal_fieldAddr h hd ho hr
  case indexAddr t x i => exact goal_indexAddr h hd ho hr hchk
  case index t x i => exact goal_index h hd ho hr hchk
  case slice t x lo hi mx => exact goal_slice h hd hr hchk ho
  case nilCheck x => exact goal_nilCheck h hd ho hr
  case sliceToArrayPointer t x => exact goal_sliceArr h hd ho hr hchk
  case extract x i => exact goal_extract h hd ho hr
  case call c =>
    cases hc : c.callee with
    | value f =>
      rw [hc] at hr
      dsimp only at hr
      cases hm : mutOf S f with
      | some run => rw [hm] at hr; exact goal_mut hS h hd ho hc hm hr hchk hf
      | none => rw [hm] at hr; exact goal_call hS h hd ho hc hr hchk hf
    | invoke x m => rw [hc] at hr; cases hr
    | builtin b =>
      rw [hc] at hr
      cases b <;> dsimp only at hr <;> try (cases hr; done)
      case len => exact goal_len h hd ho hc hr
      case max => exact goal_max h hd ho hc hr
      case min => exact goal_min h hd ho hc hr
      case append =>
        refine goal_append hS.2 h hd ho hc hr hchk ?_
        cases hdr : r.drop with
        | none => exact hf
        | some id => exact fresh_kill hf
  all_goals cases hr
theorem build_plain {t : TypeId} {len : Nat} {parts : Array (Nat × Operand)} (ho : o.op = .buildSlice t len parts) (hr : opOut0 P S s o = some r) : r.upd = none ∧ r.drop = none := by
  unfold opOut0 at hr
  rw [ho] at hr
  dsimp only at hr
  split at hr
  · split at hr
    · split at hr
      · split at hr
        · simp only [Option.some.injEq] at hr; subst hr; exact ⟨rfl, rfl⟩
        · cases hr
      · cases hr
    · cases hr
  · cases hr
theorem call_plain {c : Call} {f : Operand} (ho : o.op = .call c) (hc : c.callee = .value f) (hm : mutOf S f = none) (hr : opOut0 P S s o = some r) : r.upd = none ∧ r.drop = none := by
  unfold opOut0 at hr
  rw [ho] at hr
  dsimp only at hr
  rw [hc] at hr
  dsimp only at hr
  rw [hm] at hr
  dsimp only at hr
  split at hr
  · split at hr
    · split at hr
      · exact ⟨(outOf_news hr).2.1, (outOf_news hr).1⟩
      · cases hr
    · cases hr
  · split at hr
    · split at hr
      · exact ⟨(outOf_news hr).2.1, (outOf_news hr).1⟩
      · cases hr
    · cases hr
  · cases hr
theorem goal_opD (hS : SumsAt P S W M) (h : R P W M n s a w ρ) (hd : inRange n o.dst = true) (hr : opD P S s o = some r) (hchk : r.chk = true) (hf : s.fresh r.news = true) : Goal P W M n o s r a w Q := by
  unfold opD at hr
  split at hr
  · rename_i t len parts d ho hdst
    split at hr
    · rename_i r' hb
      simp only [Option.some.injEq] at hr; subst hr
      exact goal_buildD h hd ho hdst hb hchk hf
    · split at hr
      · cases hr
      · split at hr
        · rename_i r' h0
          simp only [Option.some.injEq] at hr; subst hr
          obtain ⟨h1, h2⟩ := build_plain ho h0
          exact goal_frz h1 h2 (op_sim0 hS h hd h0 hchk (frz_fresh hf))
        · cases hr
  · rename_i t x d ho hdst
    exact goal_loadD h hd ho hdst hr hchk hf
  · rename_i t x y ho hdst
    exact goal_storeD h hd ho hdst hr hchk
  · rename_i c d ho hdst
    split at hr
    · rename_i f hc
      split at hr
      · cases hr
      · rename_i hm
        split at hr
        · rename_i r' h0
          simp only [Option.some.injEq] at hr; subst hr
          obtain ⟨h1, h2⟩ := call_plain ho hc hm h0
          exact goal_frz h1 h2 (op_sim0 hS h hd h0 hchk (frz_fresh hf))
        · cases hr
    · rename_i hc
      split at hr
      · rename_i hargs htys
        split at hr
        · rename_i htu
          refine goal_appD h hd ho hc hdst hargs htys htu hr hchk ?_
          cases hdr : r.drop with
          | none => exact hf
          | some id => exact fresh_kill hf
        · cases hr
      · cases hr
    · cases hr
  · cases hr
/-- Every operation. -/
theorem op_sim (hS : SumsAt P S W M) (h : R P W M n s a w ρ) (hd : inRange n o.dst = true) (hr : opOut P S s o = some r) (hchk : r.chk = true) (hf : s.fresh r.news = true) : Goal P W M n o s r a w Q := by
  unfold opOut at hr
  cases hz : S.z
  · rw [hz] at hr
    exact op_sim0 hS h hd hr hchk hf
  · rw [hz] at hr
    simp only [cond_true] at hr
    split at hr
    · rename_i r' hD
      simp only [Option.some.injEq] at hr; subst hr
      exact goal_opD hS h hd hD hchk hf
    · exact op_sim0 hS h hd hr hchk hf
end

end Go.Proofs.Ytikfglnhkjoioaa
