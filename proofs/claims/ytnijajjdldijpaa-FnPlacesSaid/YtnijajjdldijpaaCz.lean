import Derived.Test.YtnijajjdldijpaaCy
set_option linter.unusedSimpArgs false
set_option linter.unusedVariables false
namespace Go.Proofs.Ytnijajjdldijpaa
open Go.RowKit
/-! Slices made and grown; calls. -/
section
variable {P : Program} {S : Sums} {W : World} {M : MV} {n : Nat} {s : FSt} {a : Act} {w w' : World} {ρ ρ' : Nat → Value} {H : Nat → Option Blk} {o : Oper} {r : Out} {Q : Exit → Act → World → Prop} {K : Act → World → Prop}
theorem only_info {t : TypeId} {i : TypeInfo} (h : semOnly P (typeInfo t) = some i) : P.info? t = some i := by
  have : semOnly P (typeInfo t) = P.info? t := by
    show semOnly P (match P.info? t with | some d => Pure.pure d | none => stuck "no such type") = _
    cases P.info? t <;> rfl
  rw [← this]; exact h
theorem owns_zero {b e sz m : Nat} {v : Value} {xs : List Value} (h : w.ownsRow b e sz v m xs) : w.ownsRow 0 e sz v m xs := by
  refine ⟨h.1, ?_⟩
  rcases h.2 with h | ⟨g, cap, cur, h1, h2, h3⟩
  · exact .inl h
  · exact .inr ⟨g, cap, cur, h1, Nat.zero_le _, h3⟩
theorem made_spec {z : Value} (h : z.oneCell' = true) (k : Nat) : (madeC z k).ok ∧ (madeC z k).toVals = List.replicate k z := by
  unfold madeC
  split
  · exact ⟨True.intro, by simp [Cells.toVals]⟩
  · exact ⟨True.intro, by simp [Cells.toVals]⟩
  · exact ⟨fun u hu => by rw [List.eq_of_mem_replicate hu]; exact h, rfl⟩
theorem one_cells {z : Value} (h : z.oneCell' = true) : z.cells = #[z] := by cases z <;> first | rfl | cases h
theorem goal_makeSlice (h : R P W M n s a w ρ) (hd : inRange n o.dst = true) {t : TypeId} {x y : Operand} (ho : o.op = .makeSlice t x y)
    (hr : (match o.dst, s.ev x, s.ev y, P.underlying t with
    | some d, .val (.int .i64 n), .val (.int .i64 m), some (.slice e) => match semOnly P (sizeOf e), semOnly P (zeroValue e), semOnly P (typeInfo e) with
      | some 1, some z, some i => if (Nat.ble i.bytes 1000 && z.oneCell') = true then some (⟨decide (0 ≤ n) && decide (n ≤ 1000000) && n == m, .row (4 * d), [(4 * d, .row e 1 n.toNat (madeC z n.toNat))], none, none⟩ : Out) else none
      | _, _, _ => none
    | _, _, _, _ => none) = some r) (hchk : r.chk = true) (hf : s.fresh r.news = true) : Goal P W M n o s r a w Q := by
  split at hr
  · rename_i d k m e hdst hx hy hu
    split at hr
    · rename_i z i hs hz hi
      split at hr
      · rename_i hck
        simp only [Option.some.injEq] at hr; subst hr
        simp only [Bool.and_eq_true] at hck
        simp only [Bool.and_eq_true, decide_eq_true_eq, beq_iff_eq] at hchk
        obtain ⟨⟨h0, h1⟩, rfl⟩ := hchk
        have hinfo := only_info hi
        have hby := nle hck.1
        have hzi : i.zero = some z := by
          have := semOnly_run hz (default : World)
          unfold zeroValue at this
          rw [run_only hi] at this
          cases hq : i.zero with
          | none => rw [hq] at this; cases this
          | some z' => rw [hq] at this; simpa using this
        have hsi : i.size = 1 := by
          obtain ⟨i', h1, h2⟩ := only_sizeOf hs
          rw [hinfo] at h1
          simp only [Option.some.injEq] at h1
          rw [h1]; exact h2
        obtain ⟨N, rfl⟩ : ∃ N : Nat, k = (N : Int) := ⟨k.toNat, by omega⟩
        have hN : N ≤ 1000000 := by omega
        obtain ⟨w', hrun, hown, hgr⟩ := run_make_full (P := P) w w.heap.size t e i z 1 hu hinfo hzi hsi .i64 .i64 N (by have := Nat.mul_le_mul hby hN; omega) (by unfold maxLen; omega) (Nat.le_refl _)
        have hcells : (madeCells z.cells (N * 1)).toList = List.replicate N z := by rw [one_cells hck.2, Nat.mul_one, toList_madeCells_one]
        rw [hcells] at hown
        simp only [Int.toNat_natCast] at hf ⊢
        obtain ⟨c1, c2⟩ := made_spec hck.2 N
        refine goal_new (w' := w') (u := .slice (some ⟨w.heap.size, 0, none⟩) N N) (v := .slice (some ⟨w.heap.size, 0, none⟩) N N) h hd hf ?_ hgr ⟨c1, ?_, fun g hg => ?_⟩ (fun _ g hg => ?_) (fun H hH => ⟨hH, ?_⟩)
        · simp only [execOp, ho, ev_val h hx, ev_val h hy]
          exact run_bind_val hrun
        · simp only [if_true]; rw [c2]; exact owns_zero hown
        · simp only [if_true] at hg
          obtain rfl : w.heap.size = g := by simpa [ownOf, atOf] using hg
          exact own_new h
        · obtain rfl : w.heap.size = g := by simpa [ownOf, atOf] using hg
          exact Nat.le_refl _
        · simp only [if_true]
      · cases hr
    · cases hr
  · cases hr
theorem app_spec {c1 c2 c : Cells} (h : c1.app c2 = some c) (h1 : c1.ok) (h2 : c2.ok) : c.ok ∧ c.toVals = c1.toVals ++ c2.toVals := by
  unfold Cells.app at h
  split at h
  · simp only [Option.some.injEq] at h; subst h
    exact ⟨True.intro, by simp [Cells.toVals]⟩
  · simp only [Option.some.injEq] at h; subst h
    exact ⟨True.intro, by simp [Cells.toVals]⟩
  · simp only [Option.some.injEq] at h; subst h
    exact ⟨True.intro, by simp [Cells.toVals]⟩
  · simp only [Option.some.injEq] at h; subst h
    exact ⟨True.intro, by simp [Cells.toVals]⟩
  · simp only [Option.some.injEq] at h; subst h
    refine ⟨fun u hu => ?_, rfl⟩
    rcases List.mem_append.1 hu with hu | hu
    · exact h1 u hu
    · exact h2 u hu
  · simp only [Option.some.injEq] at h; subst h
    exact ⟨h2, rfl⟩
  · simp only [Option.some.injEq] at h; subst h
    exact ⟨h1, by simp [Cells.toVals]⟩
  · cases h
theorem goal_append (h : R P W M n s a w ρ) (hd : inRange n o.dst = true) {c : Call} (ho : o.op = .call c) (hc : c.callee = .builtin .append)
    (hr : (match o.dst, c.args.toList.map s.ev, c.argTypes.toList with
      | some d, [x, y], [t, u] => if Nat.beq t u = true then appendOut P s d t x y else none
      | _, _, _ => none) = some r) (hchk : r.chk = true) (hf : (s.dropped r.drop).fresh r.news = true) : Goal P W M n o s r a w Q := by
  split at hr
  · rename_i d x y t u hdst hargs htys
    split at hr
    · rename_i htu
      have htu := neq htu
      subst htu
      obtain ⟨X, Y, hXY, hX, hY⟩ : ∃ X Y, c.args.toList = [X, Y] ∧ s.ev X = x ∧ s.ev Y = y := by
        match hq : c.args.toList, hargs with
        | [X, Y], hargs => simp at hargs; exact ⟨X, Y, rfl, hargs.1, hargs.2⟩
        | [], hargs => cases hargs
        | [_], hargs => cases hargs
        | _ :: _ :: _ :: _, hargs => simp at hargs
      have e1 : c.args = #[X, Y] := Array.toList_inj.1 hXY
      have e2 : c.argTypes = #[t, t] := Array.toList_inj.1 htys
      have hrun : ∀ {v : Value} {w' : World}, (Builtin.append_ #[t, t] o.type #[a.eval X, a.eval Y]).run P w = .ok v w' → (execOp a.eval o).run P w = .ok (.value v) w' := by
        intro v w' hl
        simp only [execOp, ho]
        obtain ⟨cs, this⟩ := resolve_builtin (P := P) (a := a) (ty := o.type) hc
        rw [e1, e2, show Array.map a.eval #[X, Y] = #[a.eval X, a.eval Y] from by simp] at this
        rw [run_bind_ok (this w)]
        exact run_bind_val hl
      unfold appendOut at hr
      split at hr
      · rename_i e hu
        split at hr
        · rename_i i hi
          have hinfo := only_info hi
          split at hr
          · rename_i hck
            simp only [Bool.and_eq_true] at hck
            obtain ⟨⟨k1, k2⟩, k3⟩ := hck
            have k1 := nle k1; have k2 := nle k2
            obtain ⟨z, hz, hzs⟩ : ∃ z, i.zero = some z ∧ z.cells.size = i.size := by
              unfold zeroOK at k3
              cases hq : i.zero with
              | none => rw [hq] at k3; cases k3
              | some z => rw [hq] at k3; exact ⟨z, rfl, neq k3⟩
            split at hr
            · rename_i m c2 hpv
              have hsrc : RosRel w none (a.eval Y) m c2 := by
                have hrel := h.ev Y
                rw [hY] at hrel
                have hpv' : PVof s.heap (cloFn ⟨fun _ => none, fun _ => none⟩ s.heap) y = some (.s m c2) := by
                  have : cloFn ⟨fun _ => none, fun _ => none⟩ s.heap = fun _ _ => none := by funext f caps; rfl
                  rw [this]; exact hpv
                exact PVof_ok (S := ⟨fun _ => none, fun _ => none⟩) ⟨fun _ _ e => (by cases e), fun _ _ e => (by cases e)⟩ h hrel hpv'
              have fin : ∀ (v : Value) (n1 : Nat) (c1 cc : Cells) (dr : Option Nat), (∃ s1, s1 = s.dropped dr ∧ R P W M n s1 a w ρ ∧ ∀ j bj g, s1.heap j = some bj → ownB bj = true → ownOf (ρ j) = some g → v.ownBlock ≠ some g) → a.eval X = v → w.ownsRow 0 e i.size v n1 c1.toVals → (∀ g, v.ownBlock = some g → Own W M g) → cc.ok → cc.toVals = c1.toVals ++ c2.toVals →
                  1 ≤ m → n1 + m ≤ 1000000 → c2.len = m * i.size → (s.dropped dr).fresh [(4 * d, .row e i.size (n1 + m) cc)] = true → ∀ b, Goal P W M n o s ⟨b, .row (4 * d), [(4 * d, .row e i.size (n1 + m) cc)], none, dr⟩ a w Q := by
                intro v n1 c1 cc dr ⟨s1, hs1, hR1, hoff⟩ hX' hown hOwn hcc hcv hm hnm hlen hfr b
                rcases hsrc.2 with ⟨_, h0, _⟩ | ⟨g2, o2, cap2, hy2, hcap2, _, hcells⟩
                · omega
                · obtain ⟨v', w', hap, hown', hgr, _, hblk⟩ := run_append_own_at (P := P) w 0 t o.type e i z i.size i.bytes hu hinfo hz rfl rfl hzs k1 v n1 c1.toVals hown ⟨g2, o2, none⟩ m cap2 c2.toVals (by rw [Cells.len_toVals, hlen])
                    (fun j u hj => by rw [addr_add]; exact hcells j u hj) (Cells.ok_one hsrc.1) (by unfold maxLen; omega) (by have := Nat.mul_le_mul hnm k2; omega) (Nat.zero_le _)
                  rw [← hX', ← hy2] at hap
                  have hR2 : R P W M n s1 a w' ρ := hR1.extOff hgr fun g hg => ⟨hOwn g hg, fun j bj hj oj e => hoff j bj g hj oj e hg⟩
                  have hi0 : s1.heap (4 * d) = none := by rw [hs1]; exact fresh1 hfr
                  refine wp_val (hrun hap) ⟨fun x => if x = 4 * d then v' else ρ x, ?_⟩
                  show R P W M n ((((s.dropped dr).news [_]).upd none).put o.dst _) _ _ _
                  rw [← hs1]
                  refine R.put (R.new (b := .row e i.size (n1 + m) cc) (v := v') hR2 hi0 (show BRel P W M w' _ _ (4 * d) (.row e i.size (n1 + m) cc) from ⟨hcc, ?_, fun g hg => ?_⟩) fun ob g hg j bj hj oj gj => ?_) hd (.inr ⟨?_, ?_⟩)
                  · simp only [if_true]; rw [hcv]; exact hown'
                  · simp only [if_true] at hg
                    rw [← ownOf_row hown'] at hg
                    rcases hblk with hb | hb
                    · exact hOwn g (by rw [← hb]; exact hg)
                    · rw [hb] at hg
                      simp only [Option.some.injEq] at hg; subst hg
                      exact own_new h
                  · rw [← ownOf_row hown'] at hg
                    rcases hblk with hb | hb
                    · exact hoff j bj g hj oj gj (by rw [← hb]; exact hg)
                    · rw [hb] at hg
                      simp only [Option.some.injEq] at hg; subst hg
                      have := own_lt (hR1.heap j bj hj) oj gj
                      omega
                  · show (bif Nat.beq (4 * d) (4 * d) then some (Blk.row e i.size (n1 + m) cc) else s1.heap (4 * d)).isSome = true
                    simp
                  · simp only [if_true]
              split at hr
              · rename_i hx
                simp only [Option.some.injEq] at hr; subst hr
                simp only [Bool.and_eq_true] at hchk
                have hxv : a.eval X = nilS := ev_val h hX
                have := fin nilS 0 (.ints []) c2 none ⟨s, rfl, h, fun j bj g hj oj gj e => by cases e⟩ hxv (World.ownsRow_nil w 0 e i.size) (fun g hg => by cases hg) hsrc.1 (by simp [Cells.toVals]) (nle hchk.1.1) (by have := nle hchk.1.2; omega) (neq hchk.2)
                simp only [Nat.zero_add] at this
                exact this hf _
              · rename_i id
                have hrel := h.ev X
                rw [hX] at hrel
                obtain ⟨hl, hxe⟩ := hrel
                split at hr
                · rename_i e' sz n1 c1 hb
                  split at hr
                  · rename_i hck2
                    simp only [Bool.and_eq_true] at hck2
                    have q1 := neq hck2.1.1; have q2 := neq hck2.1.2; have q3 := nle hck2.2
                    subst q1; subst q2
                    split at hr
                    · rename_i cc happ
                      simp only [Option.some.injEq] at hr; subst hr
                      simp only [Bool.and_eq_true] at hchk
                      obtain ⟨r1, r2, r3⟩ := h.heap id _ hb
                      obtain ⟨a1, a2⟩ := app_spec happ r1 hsrc.1
                      refine fin (ρ id) n1 c1 cc (some id) ⟨_, rfl, h.kill id ⟨by omega, by omega⟩, fun j bj g hj oj gj e => ?_⟩ hxe r2 (fun g hg => r3 g (by rw [← ownOf_row r2]; exact hg)) a1 a2 (nle hchk.1.1) (nle hchk.1.2) (neq hchk.2) hf _
                      obtain ⟨hne, bj', hj', rfl⟩ := kill_inv hj
                      rw [ownB_kill] at oj
                      rw [ownOf_row r2] at e
                      exact h.apart id j _ bj' g (Ne.symm hne) hb hj' rfl oj e gj
                    · cases hr
                  · cases hr
                · cases hr
              · cases hr
            · cases hr
          · cases hr
        · cases hr
      · cases hr
    · cases hr
  · cases hr
end

end Go.Proofs.Ytnijajjdldijpaa
