import Derived.Test.YtfclaacaphpoaaaCy
set_option linter.unusedSimpArgs false
set_option linter.unusedVariables false
namespace Go.Proofs.Ytfclaacaphpoaaa
open Go.RowKit
section
variable {P : Program} {S : Sums} {W : World} {M : MV} {n : Nat} {s : FSt} {a : Act} {w w' : World} {ρ ρ' : Nat -> Value} {H : Nat -> Option Blk} {o : Oper} {r : Out} {Q : Exit -> Act -> World -> Prop} {K : Act -> World -> Prop}
theorem Zie {t : TypeId} {i : TypeInfo} (h : Zu P (typeInfo t) = some i) : P.info? t = some i := by
 have : Zu P (typeInfo t) = P.info? t := by
  show Zu P (match P.info? t with | some d => Pure.pure d | none => stuck "no such type") = _
  cases P.info? t <;> rfl
 rw [<- this]; exact h
theorem Zig {b e sz m : Nat} {v : Value} {xs : List Value} (h : w.ownsRow b e sz v m xs) : w.ownsRow 0 e sz v m xs := by
 refine ⟨h.1, ?_⟩
 rcases h.2 with h | ⟨g, cap, cur, h1, h2, h3⟩
 ·exact .inl h
 ·exact .inr ⟨g, cap, cur, h1, Nat.zero_le _, h3⟩
theorem ZtX {z : Value} (h : z.oneCell' = true) (k : Nat) : (Zt5 z k).ok /\ (Zt5 z k).toVals = List.replicate k z := by
 unfold Zt5
 split
 ·exact ⟨True.intro, by simp [Cells.toVals]⟩
 ·exact ⟨True.intro, by simp [Cells.toVals]⟩
 ·exact ⟨True.intro, by simp [Cells.toVals]⟩
 ·exact ⟨fun u hu => by rw [List.eq_of_mem_replicate hu]; exact h, rfl⟩
theorem Zu2 {z : Value} (h : z.oneCell' = true) : z.cells = #[z] := by cases z <;> first | rfl | cases h
theorem ZgS : ∀ {l : List Value} {zs : List Int}, Z1M l = some zs -> l = zs.map (Value.int .i64)
 | [], zs, h => by simp only [Z1M, Option.some.injEq] at h; subst h; rfl
 | v :: l, zs, h => by
  cases v with
  | int k n =>
   cases k <;> first | (simp only [Z1M] at h; cases h; done) | skip
   simp only [Z1M] at h
   split at h
   ·rename_i m hm
    simp only [Option.some.injEq] at h; subst h
    rw [ZgS hm]; rfl
   ·cases h
  | _ => simp [Z1M] at h
theorem ZrR {z : Value} {sz k : Nat} {c : Cells} (h : Zt6 z sz k = some c) : c.ok /\ c.toVals = (madeCells z.cells (k * sz)).toList := by
 unfold Zt6 at h
 split at h
 ·split at h
  ·rename_i ho
   simp only [Option.some.injEq] at h; subst h
   obtain ⟨c1, c2⟩ := ZtX ho k
   exact ⟨c1, by rw [c2, Zu2 ho, Nat.mul_one, toList_madeCells_one]⟩
  ·cases h
 ·split at h
  ·rename_i zs hz
   split at h
   ·rename_i hck
    simp only [Option.some.injEq] at h; subst h
    simp only [Bool.and_eq_true] at hck
    have hl := Nat.eq_of_beq_eq_true hck.2
    have hc := ZgS hz
    have hsz : z.cells.size = sz := by rw [<- Array.length_toList, hc, List.length_map]; exact hl
    refine ⟨True.intro, ?_⟩
    apply List.ext_getElem
    ·simp [Cells.toVals, size_madeCells]
    ·intro i h1 h2
     have hi : i < k * sz := by simpa [Cells.toVals] using h1
     have hs0 : 0 < sz := by
      rcases Nat.eq_zero_or_pos sz with e | e
      ·subst e; simp at hi
      ·exact e
     have hm : i % sz < zs.length := by rw [hl]; exact Nat.mod_lt _ hs0
     have h0 : zs[i % sz] = 0 := by
      have := List.all_eq_true.1 hck.1 _ (List.getElem_mem hm)
      simpa using this
     have hq : z.cells[i % sz]? = some (Value.int .i64 0) := by
      rw [<- Array.getElem?_toList, hc, List.getElem?_map, List.getElem?_eq_getElem hm, h0]; rfl
     have hb : i % sz < z.cells.size := by rw [hsz]; exact Nat.mod_lt _ hs0
     have hv : z.cells[i % sz]! = Value.int .i64 0 := by
      rw [getElem!_pos z.cells _ hb]
      exact Option.some.inj ((Array.getElem?_eq_getElem hb).symm.trans hq)
     simp [Cells.toVals, madeCells, hsz, hv]
   ·cases h
  ·cases h
theorem Zly (h : R P W M n s a w ρ) (hd : Z0b n o.dst = true) {t : TypeId} {x y : Operand} (ho : o.op = .makeSlice t x y)
  (hr : (match o.dst, s.ev x, s.ev y, P.underlying t with
  | some d, .val (.int .i64 n), .val (.int .i64 m), some (.slice e) => match Zu P (sizeOf e), Zu P (zeroValue e), Zu P (typeInfo e) with
   | some sz, some z, some i => match Zt6 z sz n.toNat with
    | some c => if Nat.ble i.bytes 1000 = true then some (⟨decide (0 <= n) && decide (n <= 2000000) && n == m, .row (4 * d), [(4 * d, .row e sz n.toNat c)], none, none⟩ : Out) else none
    | none => none
   | _, _, _ => none
  | _, _, _, _ => none) = some r) (Z0t : r.chk = true) (hf : s.fresh r.news = true) : Goal P W M n o s r a w Q := by
 split at hr
 ·rename_i d k m e hdst hx hy hu
  split at hr
  ·rename_i sz z i hs hz hi
   split at hr
   ·rename_i c hmade
    split at hr
    ·rename_i hck
     simp only [Option.some.injEq] at hr; subst hr
     simp only [Bool.and_eq_true, decide_eq_true_eq, beq_iff_eq] at Z0t
     obtain ⟨⟨h0, h1⟩, rfl⟩ := Z0t
     have hinfo := Zie hi
     have hby := nle hck
     have hzi : i.zero = some z := by
      have := Z47 hz (default : World)
      unfold zeroValue at this
      rw [Z0l hi] at this
      cases hq : i.zero with
      | none => rw [hq] at this; cases this
      | some z' => rw [hq] at this; simpa using this
     have hsi : i.size = sz := by
      obtain ⟨i', h1, h2⟩ := ZqQ hs
      rw [hinfo] at h1
      simp only [Option.some.injEq] at h1
      rw [h1]; exact h2
     obtain ⟨N, rfl⟩ : ∃ N : Nat, k = (N : Int) := ⟨k.toNat, by omega⟩
     have hN : N <= 2000000 := by omega
     obtain ⟨w', hrun, hown, hgr⟩ := run_make_full (P := P) w w.heap.size t e i z sz hu hinfo hzi hsi .i64 .i64 N (by have := Nat.mul_le_mul hby hN; omega) (by unfold maxLen; omega) (Nat.le_refl _)
     simp only [Int.toNat_natCast] at hf hmade ⊢
     obtain ⟨c1, c2⟩ := ZrR hmade
     refine Zbl (w' := w') (u := .slice (some ⟨w.heap.size, 0, none⟩) N N) (v := .slice (some ⟨w.heap.size, 0, none⟩) N N) h hd hf ?_ hgr ⟨c1, ?_, fun g hg => ?_⟩ (fun _ g hg => ?_) (fun H hH => ⟨hH, ?_⟩)
     ·simp only [execOp, ho, Z1L h hx, Z1L h hy]
      exact Z0R hrun
     ·simp only [if_true]; rw [c2]; exact Zig hown
     ·simp only [if_true] at hg
      obtain rfl : w.heap.size = g := by simpa [Z07, atOf] using hg
      exact Zes h
     ·obtain rfl : w.heap.size = g := by simpa [Z07, atOf] using hg
      exact Nat.le_refl _
     ·simp only [if_true]
    ·cases hr
   ·cases hr
  ·cases hr
 ·cases hr
theorem Zuq {c1 c2 c : Cells} (h : c1.app c2 = some c) (h1 : c1.ok) (h2 : c2.ok) : c.ok /\ c.toVals = c1.toVals ++ c2.toVals := by
 unfold Cells.app at h
 split at h
 ·simp only [Option.some.injEq] at h; subst h
  exact ⟨True.intro, by simp [Cells.toVals]⟩
 ·simp only [Option.some.injEq] at h; subst h
  exact ⟨True.intro, by simp [Cells.toVals]⟩
 ·simp only [Option.some.injEq] at h; subst h
  exact ⟨True.intro, by simp [Cells.toVals]⟩
 ·simp only [Option.some.injEq] at h; subst h
  exact ⟨True.intro, by simp [Cells.toVals]⟩
 ·simp only [Option.some.injEq] at h; subst h
  exact ⟨True.intro, by simp [Cells.toVals]⟩
 ·simp only [Option.some.injEq] at h; subst h
  exact ⟨True.intro, by simp [Cells.toVals]⟩
 ·simp only [Option.some.injEq] at h; subst h
  exact ⟨True.intro, by simp [Cells.toVals]⟩
 ·simp only [Option.some.injEq] at h; subst h
  refine ⟨fun u hu => ?_, rfl⟩
  rcases List.mem_append.1 hu with hu | hu
  ·exact h1 u hu
  ·exact h2 u hu
 ·simp only [Option.some.injEq] at h; subst h
  exact ⟨h2, rfl⟩
 ·simp only [Option.some.injEq] at h; subst h
  exact ⟨h1, by simp [Cells.toVals]⟩
 ·cases h
theorem Zqt (hB : Base W M) (h : R P W M n s a w ρ) (hd : Z0b n o.dst = true) {c : Call} (ho : o.op = .call c) (hc : c.callee = .builtin .append)
  (hr : (match o.dst, c.args.toList.map s.ev, c.argTypes.toList with
   | some d, [x, y], [t, u] => if Nat.beq t u = true then Z7k P s d t x y else none
   | _, _, _ => none) = some r) (Z0t : r.chk = true) (hf : (s.dropped r.drop).fresh r.news = true) : Goal P W M n o s r a w Q := by
 split at hr
 ·rename_i d x y t u hdst hargs htys
  split at hr
  ·rename_i htu
   have htu := neq htu
   subst htu
   obtain ⟨X, Y, hXY, hX, hY⟩ : ∃ X Y, c.args.toList = [X, Y] /\ s.ev X = x /\ s.ev Y = y := by
    match hq : c.args.toList, hargs with
    | [X, Y], hargs => simp at hargs; exact ⟨X, Y, rfl, hargs.1, hargs.2⟩
    | [], hargs => cases hargs
    | [_], hargs => cases hargs
    | _ :: _ :: _ :: _, hargs => simp at hargs
   have e1 : c.args = #[X, Y] := Array.toList_inj.1 hXY
   have e2 : c.argTypes = #[t, t] := Array.toList_inj.1 htys
   have hrun : ∀ {v : Value} {w' : World}, (Builtin.append_ #[t, t] o.type #[a.eval X, a.eval Y]).run P w = .ok v w' -> (execOp a.eval o).run P w = .ok (.value v) w' := by
    intro v w' hl
    simp only [execOp, ho]
    obtain ⟨cs, this⟩ := Z5C (P := P) (a := a) (ty := o.type) hc
    rw [e1, e2, show Array.map a.eval #[X, Y] = #[a.eval X, a.eval Y] from by simp] at this
    rw [Zv (this w)]
    exact Z0R hl
   unfold Z7k at hr
   split at hr
   ·rename_i e hu
    split at hr
    ·rename_i i hi
     have hinfo := Zie hi
     split at hr
     ·rename_i hck
      simp only [Bool.and_eq_true] at hck
      obtain ⟨⟨k1, k2⟩, k3⟩ := hck
      have k1 := nle k1; have k2 := nle k2
      obtain ⟨z, hz, hzs⟩ : ∃ z, i.zero = some z /\ z.cells.size = i.size := by
       unfold ZpG at k3
       cases hq : i.zero with
       | none => rw [hq] at k3; cases k3
       | some z => rw [hq] at k3; exact ⟨z, rfl, neq k3⟩
      split at hr
      ·rename_i m c2 hpv
       have hsrc : Z16 w none (a.eval Y) m c2 := by
        have hrel := h.ev Y
        rw [hY] at hrel
        have hpv' : PVof s.heap (Zao ⟨fun _ => none, fun _ => none, false, false⟩ s.heap) y = some (.s m c2) := by
         have : Zao ⟨fun _ => none, fun _ => none, false, false⟩ s.heap = fun _ _ => none := by funext f caps; rfl
         rw [this]; exact hpv
        exact Zsj (S := ⟨fun _ => none, fun _ => none, false, false⟩) ⟨⟨fun _ _ e => (by cases e), fun _ _ e => (by cases e)⟩, hB⟩ h hrel hpv'
       have fin : ∀ (v : Value) (n1 : Nat) (c1 cc : Cells) (dr : Option Nat), (∃ s1, s1 = s.dropped dr /\ R P W M n s1 a w ρ /\ ∀ j bj g, s1.heap j = some bj -> Touch w (ρ j) bj g -> v.ownBlock ≠ some g) -> a.eval X = v -> w.ownsRow 0 e i.size v n1 c1.toVals -> (∀ g, v.ownBlock = some g -> Own W M g) -> cc.ok -> cc.toVals = c1.toVals ++ c2.toVals ->
         n1 + m <= 2000000 -> c2.len = m * i.size -> (s.dropped dr).fresh [(4 * d, .row e i.size (n1 + m) cc)] = true -> ∀ b, Goal P W M n o s ⟨b, .row (4 * d), [(4 * d, .row e i.size (n1 + m) cc)], none, dr⟩ a w Q := by
        intro v n1 c1 cc dr ⟨s1, hs1, hR1, hoff⟩ hX' hown hOwn hcc hcv hnm Z5e hfr b
        rcases hsrc.2 with ⟨hy0, h0, hc0⟩ | ⟨g2, o2, cap2, hy2, hcap2, _, Zc7⟩
        ·have hap := run_append_owned_none (P := P) w 0 t o.type e i i.size hu hinfo v n1 c1.toVals hown
         rw [<- hX', show (Value.slice none 0 0) = a.eval Y from hy0.symm] at hap
         have hi0 : s1.heap (4 * d) = none := by rw [hs1]; exact ZhY hfr
         have hcv' : cc.toVals = c1.toVals := by rw [hcv, hc0, List.append_nil]
         subst h0
         refine Zmj (hrun hap) ⟨fun x => if x = 4 * d then a.eval X else ρ x, ?_⟩
         show R P W M n ((((s.dropped dr).news [_]).upd none).put o.dst _) _ _ _
         rw [<- hs1]
         refine R.put (R.new (b := .row e i.size (n1 + 0) cc) (v := a.eval X) hR1 hi0 (show BRel P W M w _ _ (4 * d) (.row e i.size (n1 + 0) cc) from ⟨hcc, ?_, fun g hg => ?_⟩) (fun ob g hg j bj hj oj => ?_) (by intro _ hh; cases hh)) hd (.inr ⟨?_, ?_⟩)
         ·simp only [if_true]; rw [hcv', hX']; exact hown
         ·simp only [if_true] at hg
          rw [hX', <- Z3O hown] at hg
          exact hOwn g hg
         ·rw [hX', <- Z3O hown] at hg
          exact hoff j bj g hj oj hg
         ·show (bif Nat.beq (4 * d) (4 * d) then some (Blk.row e i.size (n1 + 0) cc) else s1.heap (4 * d)).isSome = true
          simp
         ·simp only [if_true]
        ·obtain ⟨v', w', hap, hown', hgr, _, hblk⟩ := run_append_own_at (P := P) w 0 t o.type e i z i.size i.bytes hu hinfo hz rfl rfl hzs k1 v n1 c1.toVals hown ⟨g2, o2, none⟩ m cap2 c2.toVals (by rw [Cells.len_toVals, Z5e])
          (fun j u hj => by rw [Z8D]; exact Zc7 j u hj) (Cells.ok_one hsrc.1) (by unfold maxLen; omega) (by have := Nat.mul_le_mul hnm k2; omega) (Nat.zero_le _)
         rw [<- hX', <- hy2] at hap
         have hR2 : R P W M n s1 a w' ρ := hR1.extOff hgr fun g hg => ⟨hOwn g hg, fun j bj hj oj => hoff j bj g hj oj hg⟩
         have hi0 : s1.heap (4 * d) = none := by rw [hs1]; exact ZhY hfr
         refine Zmj (hrun hap) ⟨fun x => if x = 4 * d then v' else ρ x, ?_⟩
         show R P W M n ((((s.dropped dr).news [_]).upd none).put o.dst _) _ _ _
         rw [<- hs1]
         refine R.put (R.new (b := .row e i.size (n1 + m) cc) (v := v') hR2 hi0 (show BRel P W M w' _ _ (4 * d) (.row e i.size (n1 + m) cc) from ⟨hcc, ?_, fun g hg => ?_⟩) (fun ob g hg j bj hj oj => ?_) (by intro _ hh; cases hh)) hd (.inr ⟨?_, ?_⟩)
         ·simp only [if_true]; rw [hcv]; exact hown'
         ·simp only [if_true] at hg
          rw [<- Z3O hown'] at hg
          rcases hblk with hb | hb
          ·exact hOwn g (by rw [<- hb]; exact hg)
          ·rw [hb] at hg
           simp only [Option.some.injEq] at hg; subst hg
           exact Zes h
         ·rw [<- Z3O hown'] at hg
          have oj := Zah (hR1.heap j bj hj) hgr (fun g' ht e => hoff j bj g' hj ht e) oj
          rcases hblk with hb | hb
          ·exact hoff j bj g hj oj (by rw [<- hb]; exact hg)
          ·rw [hb] at hg
           simp only [Option.some.injEq] at hg; subst hg
           have := Zeg (hR1.heap j bj hj) oj
           omega
         ·show (bif Nat.beq (4 * d) (4 * d) then some (Blk.row e i.size (n1 + m) cc) else s1.heap (4 * d)).isSome = true
          simp
         ·simp only [if_true]
       split at hr
       ·rename_i hx
        simp only [Option.some.injEq] at hr; subst hr
        simp only [Bool.and_eq_true] at Z0t
        have hxv : a.eval X = nilS := Z1L h hX
        have := fin nilS 0 (.ints []) c2 none ⟨s, rfl, h, fun j bj g hj oj e => by cases e⟩ hxv (World.ownsRow_nil w 0 e i.size) (fun g hg => by cases hg) hsrc.1 (by simp [Cells.toVals]) (by have := nle Z0t.1.2; omega) (neq Z0t.2)
        simp only [Nat.zero_add] at this
        exact this hf _
       ·rename_i id
        have hrel := h.ev X
        rw [hX] at hrel
        obtain ⟨hl, hxe⟩ := hrel
        split at hr
        ·rename_i e' sz n1 c1 hb
         split at hr
         ·rename_i hck2
          simp only [Bool.and_eq_true] at hck2
          have q1 := neq hck2.1.1; have q2 := neq hck2.1.2; have q3 := nle hck2.2
          subst q1; subst q2
          split at hr
          ·rename_i cc happ
           simp only [Option.some.injEq] at hr; subst hr
           simp only [Bool.and_eq_true] at Z0t
           obtain ⟨r1, r2, r3⟩ := h.heap id _ hb
           obtain ⟨a1, a2⟩ := Zuq happ r1 hsrc.1
           refine fin (ρ id) n1 c1 cc (some id) ⟨_, rfl, h.kill id ⟨by omega, by omega⟩, fun j bj g hj oj e => ?_⟩ hxe r2 (fun g hg => r3 g (by rw [<- Z3O r2]; exact hg)) a1 a2 (nle Z0t.1.2) (neq Z0t.2) hf _
           obtain ⟨hne, bj', hj', rfl⟩ := Z7I hj
           rw [Z3O r2] at e
           rcases Zmh oj with ⟨oj, gj⟩ | hh
           ·exact h.apart id j _ bj' g (Ne.symm hne) hb hj' rfl oj e gj
           ·exact h.froz j bj' g hj' hh id _ hb rfl e
          ·cases hr
         ·cases hr
        ·cases hr
       ·cases hr
      ·cases hr
     ·cases hr
    ·cases hr
   ·cases hr
  ·cases hr
 ·cases hr
end

section
variable {P : Program} {S : Sums} {W : World} {M : MV} {n : Nat} {s : FSt} {a : Act} {w w' : World} {ρ ρ' : Nat -> Value} {H : Nat -> Option Blk} {o : Oper} {r : Out} {Q : Exit -> Act -> World -> Prop} {K : Act -> World -> Prop}
theorem Zc6 {i : Nat} {b : Blk} {l : List (Nat × Blk)} (h : s.fresh ((i, b) :: l) = true) : s.heap i = none /\ s.fresh l = true := by
 simp only [FSt.fresh] at h
 split at h
 ·cases h
 ·exact ⟨by assumption, h⟩
theorem Znl {i : Nat} {b : Blk} : ∀ {l : List (Nat × Blk)}, s.fresh l = true -> (∀ x ∈ l, x.1 ≠ i) -> (s.set i b).fresh l = true
 | [], _, _ => rfl
 | (j, c) :: l, h, hne => by
  obtain ⟨h1, h2⟩ := Zc6 h
  have hj : j ≠ i := hne (j, c) (by simp)
  have : (s.set i b).heap j = none := by simp only [FSt.set, nbeq hj, cond_false]; exact h1
  simp only [FSt.fresh, this]
  exact Znl h2 fun x hx => hne x (by simp [hx])
theorem Zkq : ∀ (rs : List TR) (i : Nat), ∀ x ∈ (Z4t i rs).1, i <= x.1
 | [], i, x, h => by cases h
 | .v _ :: l, i, x, h => by have := Zkq l (i + 1) x h; omega
 | .s e sz k c :: l, i, x, h => by
  simp only [Z4t] at h
  rcases List.mem_cons.1 h with rfl | h
  ·exact Nat.le_refl _
  ·have := Zkq l (i + 1) x h; omega
 | .d e ls :: l, i, x, h => by
  simp only [Z4t] at h
  rcases List.mem_cons.1 h with rfl | h
  ·exact Nat.le_refl _
  ·have := Zkq l (i + 1) x h; omega
theorem R.news (B : World) : ∀ (rs : List TR) (vs : List Value) (i : Nat) (s : FSt) (ρ : Nat -> Value), R P W M n s a w ρ -> All2 (TRel B w) rs vs -> TApart rs vs -> s.fresh (Z4t i rs).1 = true -> W.heap.size <= B.heap.size ->
  (∀ j bj g, s.heap j = some bj -> Touch w (ρ j) bj g -> B.heap.size <= g -> SOff g rs vs) ->
  ∃ ρ', R P W M n (s.news (Z4t i rs).1) a w ρ' /\ All2 (TIRel ρ' (s.news (Z4t i rs).1).heap) (Z4t i rs).2 vs /\ (∀ id, (s.heap id).isSome = true -> ((s.news (Z4t i rs).1).heap id).isSome = true /\ ρ' id = ρ id)
 | [], [], i, s, ρ, h, _, _, _, _, _ => ⟨ρ, h, True.intro, fun id hid => ⟨hid, rfl⟩⟩
 | .v x :: rs, v :: vs, i, s, ρ, h, ⟨p, q⟩, hap, hf, hB, hoff => by
  obtain ⟨ρ', h1, h2, h3⟩ := R.news B rs vs (i + 1) s ρ h q (by simpa [TApart] using hap) hf hB (fun j bj g hj oj hg => hoff j bj g hj oj hg)
  exact ⟨ρ', h1, ⟨p, h2⟩, h3⟩
 | .s e sz k c :: rs, v :: vs, i, s, ρ, h, ⟨p, q⟩, hap, hf, hB, hoff => by
  obtain ⟨hc, hown⟩ := p
  obtain ⟨ap1, ap2⟩ := hap
  obtain ⟨hi, hf'⟩ := Zc6 hf
  have hge : ∀ g, Z07 v = some g -> B.heap.size <= g := fun g hg => (hown.lt g (by rw [Z3O hown]; exact hg)).1
  have hR : R P W M n (s.set i (.row e sz k c)) a w (fun x => if x = i then v else ρ x) := by
   refine h.new hi (b := .row e sz k c) ⟨hc, ?_, fun g hg => ?_⟩ (fun ob g hg j bj hj oj => (hoff j bj g hj oj (hge g hg)).1 hg) (by intro _ hh; cases hh)
   ·simp only [if_true]; exact Zig hown
   ·simp only [if_true] at hg
    exact .inl (Nat.le_trans hB (hge g hg))
  have hset : ∀ j bj, (s.set i (.row e sz k c)).heap j = some bj -> (j = i) \/ (j ≠ i /\ s.heap j = some bj) := by
   intro j bj hj
   by_cases e : j = i
   ·exact .inl e
   ·exact .inr ⟨e, by simpa only [FSt.set, nbeq e, cond_false] using hj⟩
  obtain ⟨ρ', h1, h2, h3⟩ := R.news B rs vs (i + 1) _ _ hR q ap2 (Znl hf' fun x hx => by have := Zkq rs (i + 1) x hx; omega) hB (by
   intro j bj g hj oj hgB
   rcases hset j bj hj with rfl | ⟨hne, hj⟩
   ·simp only [if_true] at oj
    have hbj : bj = .row e sz k c := by simpa [FSt.set] using hj.symm
    subst hbj
    rcases oj with ⟨_, gj⟩ | hh
    ·exact ap1 g gj
    ·cases hh
   ·simp only [if_neg hne] at oj
    exact (hoff j bj g hj oj hgB).2)
  have hlive : ((s.set i (.row e sz k c)).heap i).isSome = true := by
   show (bif Nat.beq i i then some (Blk.row e sz k c) else s.heap i).isSome = true
   simp
  refine ⟨ρ', h1, ⟨⟨(h3 i hlive).1, ?_⟩, h2⟩, fun id hid => ?_⟩
  ·rw [(h3 i hlive).2]; simp
  ·have hne : id ≠ i := by rintro rfl; rw [hi] at hid; cases hid
   have : ((s.set i (.row e sz k c)).heap id).isSome = true := by simp only [FSt.set, nbeq hne, cond_false]; exact hid
   exact ⟨(h3 id this).1, by rw [(h3 id this).2, if_neg hne]⟩
 | .d e ls :: rs, v :: vs, i, s, ρ, h, ⟨⟨us, p1, p2, p3⟩, q⟩, hap, hf, hB, hoff => by
  obtain rfl : rs = [] := hap
  cases vs with
  | cons _ _ => exact q.elim
  | nil =>
   obtain ⟨hi, _⟩ := Zc6 hf
   have hge : ∀ g, Z07 v = some g -> B.heap.size <= g := fun g hg => (p2.lt g (by rw [Z3O p2]; exact hg)).1
   have p2' := Zig p2
   have hm : ∀ g, Held w v (.dee true true e ls) g -> ∃ u ∈ us, Z07 u = some g := fun g hh => by
    rcases Zbm p1.len.symm (fun _ => p2') (fun e => by cases e) hh with ⟨e, _⟩ | h
    ·cases e
    ·exact h
   have hR : R P W M n (s.set i (.dee true true e ls)) a w (fun x => if x = i then v else ρ x) := by
    refine h.new hi ⟨⟨us, p1, fun _ => ?_, fun e => by cases e⟩, fun _ g hg => ?_, fun _ g hh => ?_⟩ (fun ob g hg j bj hj ht => hoff j bj g hj ht (hge g hg)) fun g hh => ?_
    ·simp only [if_true]; exact p2'
    ·simp only [if_true] at hg
     exact .inl (Nat.le_trans hB (hge g hg))
    ·simp only [if_true] at hh
     obtain ⟨u, hu, hg⟩ := hm g hh
     exact .inl (Nat.le_trans hB (p3 u hu g hg).1)
    ·obtain ⟨u, hu, hg⟩ := hm g hh
     exact ⟨fun _ => (p3 u hu g hg).2, fun j bj hj oj gj => hoff j bj g hj (.inl ⟨oj, gj⟩) (p3 u hu g hg).1⟩
   have hlive : ((s.set i (.dee true true e ls)).heap i).isSome = true := by
    show (bif Nat.beq i i then some (Blk.dee true true e ls) else s.heap i).isSome = true
    simp
   refine ⟨_, hR, ⟨⟨hlive, by simp⟩, True.intro⟩, fun id hid => ?_⟩
   have hne : id ≠ i := by rintro rfl; rw [hi] at hid; cases hid
   refine ⟨?_, if_neg hne⟩
   show (bif Nat.beq id i then some (Blk.dee true true e ls) else s.heap id).isSome = true
   rw [nbeq hne, cond_false]; exact hid
theorem Z79 {d : Option Nat} {c : Bool} {rs : List TR} (h : ZcM d c rs = some r) : r.drop = none /\ r.upd = none /\ r.chk = c := by
 unfold ZcM at h
 cases d with
 | none =>
  dsimp only at h
  split at h
  ·simp only [Option.some.injEq] at h; subst h; exact ⟨rfl, rfl, rfl⟩
  ·simp only [Option.some.injEq] at h; subst h; exact ⟨rfl, rfl, rfl⟩
  ·cases h
 | some d =>
  dsimp only at h
  cases hv : ZfS rs with
  | some x => rw [hv] at h; simp only [Option.some.injEq] at h; subst h; exact ⟨rfl, rfl, rfl⟩
  | none =>
   rw [hv] at h
   dsimp only at h
   unfold Zks at h
   split at h
   ·split at h <;> (simp only [Option.some.injEq] at h; subst h; exact ⟨rfl, rfl, rfl⟩)
   ·cases h
theorem ZqD {rs : List TR} {x : Value} (h : ZfS rs = some x) : rs = [.v x] := by
 cases rs with
 | nil => cases h
 | cons y l =>
  cases l with
  | nil => cases y with
   | v z => simp only [ZfS, Option.some.injEq] at h; rw [h]
   | s e sz k cc => cases h
   | d e ls => cases h
  | cons z l => cases y <;> cases h
theorem ZqC {rs : List TR} (h : ZfS rs = none) : ∀ x, rs = [.v x] -> False := by
 rintro x rfl
 cases h
theorem ZrS {i j : Nat} {rs : List TR} (h : (Z4t i rs).2 = [.r j]) : ∃ x, rs = [x] /\ ∀ y, x ≠ .v y := by
 cases rs with
 | nil => cases h
 | cons x l =>
  cases l with
  | nil =>
   cases x with
   | v x => cases h
   | s e sz k cc => exact ⟨_, rfl, fun y hy => by cases hy⟩
   | d e ls => exact ⟨_, rfl, fun y hy => by cases hy⟩
  | cons y l => cases x <;> cases y <;> cases h
theorem ZvG {i : Nat} {rs : List TR} {rv : Value} (h1 : ∀ x, rs = [.v x] -> False) (h2 : ∀ j, (Z4t i rs).2 = [.r j] -> False) (h : Zfs w w' rs rv) : ∃ vs : List Value, rv = .tuple vs.toArray /\ All2 (TRel w w') rs vs /\ TApart rs vs := by
 cases rs with
 | nil => exact h
 | cons x l =>
  cases l with
  | nil =>
   cases x with
   | v x => exact (h1 x rfl).elim
   | s e sz k cc => exact (h2 i rfl).elim
   | d e ls => exact (h2 i rfl).elim
  | cons y l => exact h
theorem ZkX (h : R P W M n s a w ρ) (hd : Z0b n o.dst = true) {c : Bool} {rs : List TR} (hr : ZcM o.dst c rs = some r) (hf : s.fresh r.news = true) {rv : Value} (hg : w.grownBy w' none) (hres : Zfs w w' rs rv) :
  ∃ ρ', R P W M n (s.apply o.dst r) (a.put o.dst rv) w' ρ' := by
 have hR := h.ext hg
 have hoff : ∀ vs : List Value, ∀ j bj g, s.heap j = some bj -> Touch w' (ρ j) bj g -> w.heap.size <= g -> SOff g rs vs := by
  intro vs j bj g hj oj hge
  have := Zeg (h.heap j bj hj) (Zah (h.heap j bj hj) hg (fun _ _ e => by cases e) oj)
  omega
 cases hdst : o.dst with
 | none => exact ⟨ρ, by
   obtain ⟨h1, h2, _⟩ := Z79 hr
   have hn : r.news = [] := by
    rw [hdst] at hr
    unfold ZcM at hr
    dsimp only at hr
    split at hr
    ·simp only [Option.some.injEq] at hr; subst hr; rfl
    ·simp only [Option.some.injEq] at hr; subst hr; rfl
    ·cases hr
   show R P W M n ((((s.dropped r.drop).news r.news).upd r.upd).put none r.v) _ _ _
   rw [h1, h2, hn]
   exact hR⟩
 | some d =>
  rw [hdst] at hr hd
  unfold ZcM at hr
  dsimp only at hr
  cases hv : ZfS rs with
  | some x =>
   rw [hv] at hr
   simp only [Option.some.injEq] at hr; subst hr
   rw [ZqD hv] at hres
   exact ⟨ρ, hR.put hd (.inr hres)⟩
  | none =>
   rw [hv] at hr
   dsimp only at hr
   unfold Zks at hr
   split at hr
   ·have key : ∀ vs : List Value, All2 (TRel w w') rs vs -> TApart rs vs -> s.fresh (Z4t (4 * d) rs).1 = true -> _ := fun vs h1 h2 h3 => R.news w rs vs (4 * d) s ρ hR h1 h2 h3 h.grown.size (hoff vs)
    split at hr
    ·rename_i i hi
     simp only [Option.some.injEq] at hr; subst hr
     obtain ⟨x, rfl, hx⟩ := ZrS hi
     have hres' : TRel w w' x rv := hres
     obtain ⟨ρ', h1, h2, h3⟩ := key [rv] ⟨hres', True.intro⟩ (by
      cases x with
      | v y => exact absurd rfl (hx y)
      | s e sz k cc => exact ⟨fun _ _ => True.intro, True.intro⟩
      | d e ls => exact rfl) hf
     rw [hi] at h2
     exact ⟨ρ', h1.put hd (.inr h2.1)⟩
    ·rename_i l hl
     simp only [Option.some.injEq] at hr; subst hr
     obtain ⟨vs, rfl, hall, hap⟩ := ZvG (ZqC hv) (fun j e => hl j e) hres
     obtain ⟨ρ', h1, h2, h3⟩ := key vs hall hap hf
     exact ⟨ρ', h1.put hd (.inr ⟨vs, rfl, h2⟩)⟩
   ·cases hr
end

section
variable {P : Program} {S : Sums} {W : World} {M : MV} {n : Nat} {s : FSt} {a : Act} {w w' : World} {ρ ρ' : Nat -> Value} {H : Nat -> Option Blk} {o : Oper} {r : Out} {Q : Exit -> Act -> World -> Prop} {K : Act -> World -> Prop}
theorem ZmI {c : Call} {f : Operand} {g : Nat} {caps : Array Value} {ty : TypeId} (hc : c.callee = .value f) (hf : a.eval f = .func (.func g) #[] caps) (w : World) :
  (resolve a.eval c ty).run P w = .ok { target := .fn (.func g) caps, args := c.args.map a.eval } w := by
 unfold resolve
 rw [hc]
 dsimp only
 rw [hf]
 unfold Deferred.ofValue
 dsimp only
 simp
theorem ZbE {c : Call} {f : Operand} {g : Nat} {caps : Array Value} (ho : o.op = .call c) (hc : c.callee = .value f) (hf : a.eval f = .func (.func g) #[] caps) (hcall : ∀ (args : Array Value) (w : World), (callFunc g args).run P w = .ok (.enter g args) w)
  {R : Value -> World -> Prop} (h : Calls P g (c.args.map a.eval ++ caps) w fun e w' => ∃ rv, e = .returned rv /\ R rv w') (hk : ∀ rv w', R rv w' -> K (a.put o.dst rv) w') : o.wp P a w K Q := by
 have hrun : (execOp a.eval o).run P w = .ok (.enter g (c.args.map a.eval ++ caps)) w := by
  simp only [execOp, ho]
  rw [Zv (ZmI hc hf w)]
  unfold invoke
  dsimp only
  exact hcall _ _
 unfold Oper.wp
 rw [hrun]
 refine h.mono fun e w' ⟨rv, he, hr⟩ => ?_
 subst he
 exact hk rv w' hr
theorem Zjf {f : Operand -> Option PV} (h : R P W M n s a w ρ) : ∀ {l : List Operand} {m : List PV}, Z1N f l = some m -> (∀ x pv, f x = some pv -> Z5s P w pv (a.eval x)) -> All2 (Z5s P w) m (l.map a.eval)
 | [], m, hl, _ => by simp only [Z1N, Option.some.injEq] at hl; subst hl; exact True.intro
 | x :: l, m, hl, hf => by
  simp only [Z1N] at hl
  split at hl
  ·rename_i b hb
   split at hl
   ·rename_i m' hm
    simp only [Option.some.injEq] at hl; subst hl
    exact ⟨hf x b hb, Zjf h hm hf⟩
   ·cases hl
  ·cases hl
theorem R.write' (h : R P W M n s a w ρ) {i : Nat} {b b' : Blk} {w' : World} (hi : s.heap i = some b) (hob : ownB b = true) (hob' : ownB b' = true) (hown : ∀ g, Z07 (ρ i) = some g -> Own W M g) (hg : w.grownBy w' (Z07 (ρ i)))
  (hb : BRel P W M w' ρ s.heap i b') (hfz : ∀ g, Held w' (ρ i) b' g -> ∀ j bj, s.heap j = some bj -> ownB bj = true -> Z07 (ρ j) ≠ some g := by intro _ hh; cases hh) : R P W M n (s.set i b') a w' ρ := by
 have hm : ∀ id, (s.heap id).isSome = true -> ((s.set i b').heap id).isSome = true /\ ρ id = ρ id := by
  intro id hid
  refine ⟨?_, rfl⟩
  show (bif Nat.beq id i then some b' else s.heap id).isSome = true
  cases Nat.beq id i
  ·exact hid
  ·rfl
 have hheap : ∀ id c, (s.set i b').heap id = some c -> (id = i /\ c = b') \/ (id ≠ i /\ s.heap id = some c) := by
  intro id c hc
  by_cases e : id = i
  ·subst e
   have : Nat.beq id id = true := by simp
   simp only [FSt.set, this, cond_true, Option.some.injEq] at hc
   exact .inl ⟨rfl, hc.symm⟩
  ·have : Nat.beq id i = false := nbeq e
   simp only [FSt.set, this, cond_false] at hc
   exact .inr ⟨e, hc⟩
 have hoff : ∀ id c, id ≠ i -> s.heap id = some c -> ∀ g', Touch w (ρ id) c g' -> Z07 (ρ i) ≠ some g' := by
  intro id c hne hc g' ht e
  rcases ht with ⟨oc, hg'⟩ | hh
  ·exact h.apart i id b c g' (Ne.symm hne) hi hc hob oc e hg'
  ·exact h.froz id c g' hc hh i b hi hob e
 refine ⟨Z78 h.grown hg hown, h.size, h.defers, fun t => (h.slots t).mono hm, fun id c hc => ?_, fun x y bx by_ g' hxy hx hy ox oy gx => ?_, fun x bx g2 hx hh y by_ hy oy gy => ?_, fun v0 hv0 => ⟨(h.fix v0 hv0).1, ⟨(hm 0 (h.fix v0 hv0).2.1.1).1, (h.fix v0 hv0).2.1.2⟩, fun u hu => ⟨(hm 1 ((h.fix v0 hv0).2.2 u hu).1).1, ((h.fix v0 hv0).2.2 u hu).2⟩⟩⟩
 ·rcases hheap id c hc with ⟨rfl, rfl⟩ | ⟨hne, hc⟩
  ·exact hb.mono hm rfl
  ·exact ((h.heap id c hc).grown hg (hoff id c hne hc)).mono hm rfl
 ·rcases hheap x bx hx with ⟨rfl, rfl⟩ | ⟨hnx, hx'⟩ <;> rcases hheap y by_ hy with ⟨rfl, rfl⟩ | ⟨hny, hy'⟩
  ·exact absurd rfl hxy
  ·exact h.apart _ _ _ _ g' hxy hi hy' hob oy gx
  ·exact h.apart _ _ _ _ g' hxy hx' hi ox hob gx
  ·exact h.apart _ _ _ _ g' hxy hx' hy' ox oy gx
 ·rcases hheap x bx hx with ⟨rfl, rfl⟩ | ⟨hnx, hx'⟩ <;> rcases hheap y by_ hy with ⟨rfl, rfl⟩ | ⟨hny, hy'⟩
  ·exact hfz g2 hh _ _ hi hob gy
  ·exact hfz g2 hh y by_ hy' oy gy
  ·exact h.froz x bx g2 hx' (Held.back (h.heap x bx hx') hg (hoff x bx hnx hx') hh) _ _ hi hob gy
  ·exact h.froz x bx g2 hx' (Held.back (h.heap x bx hx') hg (hoff x bx hnx hx') hh) y by_ hy' oy gy
theorem ZdR (h : R P W M n s a w ρ) : ∀ (l : List Operand), All2 (Rel P W M ρ s.heap) (l.map s.ev) (l.map a.eval)
 | [] => True.intro
 | x :: l => ⟨h.ev x, ZdR h l⟩
theorem Zv1 (hS : Z6w P S W M) (h : R P W M n s a w ρ) (hd : Z0b n o.dst = true) {c : Call} {f : Operand} (ho : o.op = .call c) (hc : c.callee = .value f) {run : MRun} (hm : Z7X S f = some (.row run))
  (hr : ZlV s run (c.args.toList.map s.ev) = some r) (Z0t : r.chk = true) : Goal P W M n o s r a w Q := by
 cases f with
 | func g =>
  have hrun : S.m g = some (.row run) := hm
  obtain ⟨hcall, hsound⟩ := hS.1.2 g _ hrun
  have hsound : Zum P g run := hsound
  have hrel := h.ev (.func g)
  obtain ⟨vs0, hfe, hcaps⟩ := (show ∃ vs : List Value, a.eval (.func g) = .func (.func g) #[] vs.toArray /\ All2 (CapRel ρ s.heap) [] vs from hrel)
  obtain rfl : vs0 = [] := by
   cases vs0 with
   | nil => rfl
   | cons x l => cases hcaps
  have hargs := ZdR h c.args.toList
  unfold ZlV at hr
  split at hr
  ·rename_i id xs hev
   rw [hev] at hargs
   split at hr
   ·rename_i e sz m cl vs hb hvs
    split at hr
    ·rename_i ok rv c' hres
     simp only [Option.some.injEq] at hr; subst hr
     obtain rfl : ok = true := Z0t
     obtain ⟨k1, k2, k3⟩ := h.heap id _ hb
     cases hal : c.args.toList.map a.eval with
     | nil => rw [hal] at hargs; cases hargs
     | cons v0 l0 =>
      rw [hal] at hargs
      obtain ⟨⟨_, hv0⟩, hl0⟩ := hargs
      have hl0 := Zey hvs hl0
      subst hv0; subst hl0
      have hcalls := hsound w e sz m cl (ρ id) _ rv c' (h.gok hS.2) (fun g hg => Own.far hS.2 (k3 g hg)) k1 k2 hres
      rw [show (ρ id :: l0).toArray = c.args.map a.eval ++ (#[] : Array Value) from by rw [<- hal]; apply Array.toList_inj.1; simp] at hcalls
      refine ZbE (R := fun v w' => v = rv /\ c'.ok /\ w'.ownsRow 0 e sz (ρ id) m c'.toVals /\ w.grownBy w' (Z07 (ρ id))) ho hc hfe hcall (hcalls.mono fun x w' ⟨h1, h2⟩ => ⟨rv, h1, rfl, h2⟩) fun v w' ⟨h1, h2, h3, h4⟩ => ⟨ρ, ?_⟩
      subst h1
      exact (h.write' (b' := .row e sz m c') hb rfl rfl k3 h4 ⟨h2, h3, k3⟩).put hd (.inr rfl)
    ·cases hr
   ·cases hr
  ·cases hr
 | tmp t => exact absurd hm (by unfold Z7X; cases S.k <;> simp)
 | const v => cases hm
 | global g => cases hm
theorem Zpo (h : R P W M n s a w ρ) {id m : Nat} {c : Cells} (hb : s.heap id = some (.ros m c)) {b : Nat} (hown : Own W M b) : Z16 w (some b) (ρ id) m c := by
 have k : Z16 W (mB M) (ρ id) m c := h.heap id _ hb
 refine ⟨k.1, ?_⟩
 rcases k.2 with h0 | ⟨g, o, cap, h1, h2, h3, h4⟩
 ·exact .inl h0
 ·refine .inr ⟨g, o, cap, h1, h2, ⟨fun e => ?_, Nat.lt_of_lt_of_le h3.2 h.grown.size⟩, fun j u hu => World.grownBy.cell h.grown (h4 j u hu) (fun e => h3.1 e.symm)⟩
  obtain rfl : b = g := by simpa using e
  rcases hown with ho | ho
  ·have := h3.2; omega
  ·exact h3.1 ho
theorem Ztb (h : R P W M n s a w ρ) {id jd e z m b : Nat} {c : Cells} {B : Blk} (hb' : s.heap jd = some (.row e z m c)) (hb : s.heap id = some B) (hob : ownB B = true) (hg : Z07 (ρ id) = some b) (hne : jd ≠ id) : Z16 w (some b) (ρ jd) m c := by
 have k := Z8X h hb'
 refine ⟨k.1, ?_⟩
 rcases k.2 with h0 | ⟨g, o, cap, h1, h2, h3, h4⟩
 ·exact .inl h0
 ·refine .inr ⟨g, o, cap, h1, h2, ⟨fun e' => ?_, h3.2⟩, h4⟩
  obtain rfl : b = g := by simpa using e'
  exact h.apart jd id _ B b hne hb' hb rfl hob (by rw [h1]; rfl) hg
theorem Zuc (h : R P W M n s a w ρ) (hd : Z0b n o.dst = true) {d m id : Nat} {cl : Cells} {e : TypeId} {vals : List Value} (hdst : o.dst = some d) (hb : s.heap id = some (.ros m cl))
  (hf : s.fresh [(4 * d, .box e (.row id :: vals.map SV.val))] = true) {b : Nat} {w' : World} (h2 : w.heap.size <= b) (h3 : w'.heap[b]? = some (.cells (ρ id :: vals).toArray e (0, 0))) (hg : w.grownBy w' none) :
  ∃ ρ', R P W M n (s.apply o.dst ⟨true, .ptr (4 * d) 0, [(4 * d, .box e (.row id :: vals.map SV.val))], none, none⟩) (a.put o.dst (.pointer (some ⟨b, 0, none⟩))) w' ρ' := by
 have hi := ZhY hf
 have hne : id ≠ 4 * d := by rintro rfl; rw [hb] at hi; cases hi
 have hset : (s.set (4 * d) (.box e (.row id :: vals.map SV.val))).heap (4 * d) = some (.box e (.row id :: vals.map SV.val)) := by
  show (bif Nat.beq (4 * d) (4 * d) then _ else _) = _
  simp
 have hbr : BRel P W M w' (fun x => if x = 4 * d then .pointer (some ⟨b, 0, none⟩) else ρ x) (s.set (4 * d) (.box e (.row id :: vals.map SV.val))).heap (4 * d) (.box e (.row id :: vals.map SV.val)) := by
  refine ⟨b, _, if_pos rfl, .inl (Nat.le_trans h.grown.size h2), h3, ⟨?_, ?_⟩, ZlR vals⟩
  ·show (bif Nat.beq id (4 * d) then _ else s.heap id).isSome = true
   rw [nbeq hne, cond_false, hb]; rfl
  ·show ρ id = if id = 4 * d then _ else ρ id
   rw [if_neg hne]
 exact ⟨_, R.put (R.new (h.ext hg) hi hbr (fun ob g hgu j bj hj oj => by
  have := Zeg (h.heap j bj hj) (Zah (h.heap j bj hj) hg (fun _ _ e => by cases e) oj)
  have hbg : b = g := by simpa [Z07, atOf] using hgu
  omega) (by intro _ hh; cases hh)) hd (.inr ⟨by
   show (bif Nat.beq (4 * d) (4 * d) then some _ else s.heap (4 * d)).isSome = true
   simp, b, 0, by simp [atOf], rfl⟩)⟩
theorem Zut (h : R P W M n s a w ρ) {g : Nat} (hown : Own W M g) {x : SV} {bc : BC} (hx : bcOf s.heap x = some bc) {v : Value} (hv : Rel P W M ρ s.heap x v) : BCRel w g bc v := by
 unfold bcOf at hx
 split at hx
 ·simp only [Option.some.injEq] at hx; subst hx; exact hv
 ·rename_i id
  split at hx
  ·rename_i m c hb
   simp only [Option.some.injEq] at hx; subst hx
   obtain ⟨_, rfl⟩ := hv
   exact Zpo h hb hown
  ·cases hx
 ·cases hx
theorem All2.ofOpt {α β γ : Type} {f : α -> Option β} {R1 : α -> γ -> Prop} {R2 : β -> γ -> Prop} (hf : ∀ x y v, f x = some y -> R1 x v -> R2 y v) : ∀ {l : List α} {m : List β} {vs : List γ}, Z1N f l = some m -> All2 R1 l vs -> All2 R2 m vs
 | [], m, [], h, _ => by simp only [Z1N, Option.some.injEq] at h; subst h; exact True.intro
 | x :: l, m, v :: vs, h, hr => by
  simp only [Z1N] at h
  split at h
  ·rename_i y hy
   split at h
   ·rename_i m' hm
    simp only [Option.some.injEq] at h; subst h
    exact ⟨hf x y v hy hr.1, All2.ofOpt hf hm hr.2⟩
   ·cases h
  ·cases h
theorem Zen {ρ : Nat -> Value} {H : Nat -> Option Blk} : ∀ {bcs bcs' : List BC} {cells : List SV} {vs : List Value}, Zhb bcs bcs' = true -> bcs.length = cells.length -> All2 (Rel P W M ρ H) cells vs -> All2 (Rel P W M ρ H) (Zbs cells bcs') (newC bcs' vs)
 | [], [], [], [], _, _, _ => True.intro
 | .v _ :: bs, .v x :: bs', _ :: cs, _ :: vs, h, hl, hr => ⟨rfl, Zen (bcs := bs) h (by simpa using hl) hr.2⟩
 | .s _ _ :: bs, .s _ _ :: bs', c :: cs, v :: vs, h, hl, hr => ⟨hr.1, Zen (bcs := bs) h (by simpa using hl) hr.2⟩
theorem Zg4 {α β : Type} {f : α -> Option β} : ∀ {l : List α} {m : List β}, Z1N f l = some m -> m.length = l.length
 | [], m, h => by simp only [Z1N, Option.some.injEq] at h; subst h; rfl
 | x :: l, m, h => by
  simp only [Z1N] at h
  split at h
  ·split at h
   ·rename_i m' hm
    simp only [Option.some.injEq] at h; subst h
    simp [Zg4 hm]
   ·cases h
  ·cases h
theorem ZqZ {ρ : Nat -> Value} {H : Nat -> Option Blk} (l : List Value) : Rel P W M ρ H (retV l) (Zjg l) := by
 have tr : ∀ l : List Value, All2 (TIRel ρ H) (l.map TI.v) l := by
  intro l
  induction l with
  | nil => exact True.intro
  | cons x l ih => exact ⟨rfl, ih⟩
 match l with
 | [] => exact ⟨[], rfl, tr []⟩
 | [x] => exact rfl
 | x :: y :: l => exact ⟨_, rfl, tr _⟩
theorem ZoT (hS : Z6w P S W M) (h : R P W M n s a w ρ) (hd : Z0b n o.dst = true) {c : Call} {f : Operand} (ho : o.op = .call c) (hc : c.callee = .value f) {run : PRun} (hm : Z7X S f = some (.box run))
  (hr : Z89 s run (c.args.toList.map s.ev) = some r) (Z0t : r.chk = true) : Goal P W M n o s r a w Q := by
 cases f with
 | func g =>
  have hrun : S.m g = some (.box run) := hm
  obtain ⟨hcall, hsound⟩ := hS.1.2 g _ hrun
  have hsound : Z7E P g run := hsound
  have hrel := h.ev (.func g)
  obtain ⟨vs0, hfe, hcaps⟩ := (show ∃ vs : List Value, a.eval (.func g) = .func (.func g) #[] vs.toArray /\ All2 (CapRel ρ s.heap) [] vs from hrel)
  obtain rfl : vs0 = [] := by
   cases vs0 with
   | nil => rfl
   | cons x l => cases hcaps
  have hargs := ZdR h c.args.toList
  unfold Z89 at hr
  split at hr
  ·rename_i id xs hev
   rw [hev] at hargs
   split at hr
   ·rename_i e cells hb
    split at hr
    ·rename_i bcs pvs hbcs hpvs
     split at hr
     ·rename_i ok rs bcs' hres
      split at hr
      ·rename_i hsame
       simp only [Option.some.injEq] at hr; subst hr
       obtain rfl : ok = true := Z0t
       obtain ⟨b, cs, k1, k2, k3, k4⟩ := h.heap id _ hb
       cases hal : c.args.toList.map a.eval with
       | nil => rw [hal] at hargs; cases hargs
       | cons v0 l0 =>
        rw [hal] at hargs
        obtain ⟨⟨_, g', o', hat, hv0⟩, hl0⟩ := hargs
        rw [k1] at hat
        obtain ⟨rfl, rfl⟩ : b = g' /\ 0 = o' := by simpa [atOf] using hat
        obtain rfl : v0 = .pointer (some ⟨b, 0, none⟩) := hv0
        have hbc : All2 (BCRel w b) bcs cs.toList := All2.ofOpt (R2 := BCRel w b) (fun x y v hx hv => Zut h k2 hx hv) hbcs k4
        have hpv : All2 (ArgB w b) pvs l0 := All2.ofOpt (R2 := ArgB w b) (fun x y v hx hv => by
         unfold pvB at hx
         split at hx
         ·simp only [Option.some.injEq] at hx; subst hx; exact hv
         ·rename_i jd
          obtain ⟨_, rfl⟩ := hv
          split at hx
          ·rename_i m c hb'
           simp only [Option.some.injEq] at hx; subst hx
           exact Zpo h hb' k2
          ·rename_i e' z m c hb'
           simp only [Option.some.injEq] at hx; subst hx
           exact Ztb h hb' hb rfl (by rw [k1]; rfl) (by rintro rfl; rw [hb] at hb'; cases hb')
          ·cases hx
         ·cases hx) hpvs hl0
        have hcalls := hsound w e b cs bcs pvs l0 rs bcs' (h.gok hS.2) (Own.far hS.2 k2) k3 hbc hpv hres hsame
        rw [show (Value.pointer (some ⟨b, 0, none⟩) :: l0).toArray = c.args.map a.eval ++ (#[] : Array Value) from by rw [<- hal]; apply Array.toList_inj.1; simp] at hcalls
        refine ZbE (R := fun v w' => v = Zjg rs /\ w'.heap[b]? = some (.cells (newC bcs' cs.toList).toArray e (0, 0)) /\ w.grownBy w' (some b)) ho hc hfe hcall (hcalls.mono fun x w' ⟨h1, h2⟩ => ⟨_, h1, rfl, h2⟩) fun v w' ⟨h1, h2, h3⟩ => ⟨ρ, ?_⟩
        subst h1
        refine (h.write' (b' := .box e (Zbs cells bcs')) hb rfl rfl (fun g hg => ?_) (by rw [k1]; exact h3) ⟨b, _, k1, k2, h2, Zen hsame (Zg4 hbcs) k4⟩).put hd (.inr (ZqZ rs))
        rw [k1] at hg
        obtain rfl : b = g := by simpa [Z07, atOf] using hg
        exact k2
      ·cases hr
     ·cases hr
    ·cases hr
   ·cases hr
  ·cases hr
 | tmp t => exact absurd hm (by unfold Z7X; cases S.k <;> simp)
 | const v => cases hm
 | global g => cases hm
theorem Zv2 (hS : Z6w P S W M) (h : R P W M n s a w ρ) (hd : Z0b n o.dst = true) {c : Call} {f : Operand} (ho : o.op = .call c) (hc : c.callee = .value f) {run : BRun} (hm : Z7X S f = some (.src run))
  (hr : Zm4 s o.dst run (c.args.toList.map s.ev) = some r) (Z0t : r.chk = true) (hf : s.fresh r.news = true) : Goal P W M n o s r a w Q := by
 cases f with
 | func g =>
  have hrun : S.m g = some (.src run) := hm
  obtain ⟨hcall, hsound⟩ := hS.1.2 g _ hrun
  have hsound : Zod P g run := hsound
  have hrel := h.ev (.func g)
  obtain ⟨vs0, hfe, hcaps⟩ := (show ∃ vs : List Value, a.eval (.func g) = .func (.func g) #[] vs.toArray /\ All2 (CapRel ρ s.heap) [] vs from hrel)
  obtain rfl : vs0 = [] := by
   cases vs0 with
   | nil => rfl
   | cons x l => cases hcaps
  have hargs := ZdR h c.args.toList
  unfold Zm4 at hr
  split at hr
  ·rename_i id hev
   rw [hev] at hargs
   split at hr
   ·rename_i m cl d hb hdst
    split at hr
    ·rename_i ok e vals hres
     simp only [Option.some.injEq] at hr; subst hr
     obtain rfl : ok = true := Z0t
     cases hal : c.args.toList.map a.eval with
     | nil => rw [hal] at hargs; cases hargs
     | cons v0 l0 =>
      rw [hal] at hargs
      obtain ⟨⟨hlive, hv0⟩, hl0⟩ := hargs
      cases l0 with
      | cons x l => cases hl0
      | nil =>
       subst hv0
       have hcalls := hsound w m cl (ρ id) e vals (h.gok hS.2) (ZaY h hb) hres
       rw [show [ρ id].toArray = c.args.map a.eval ++ (#[] : Array Value) from by rw [<- hal]; apply Array.toList_inj.1; simp] at hcalls
       refine ZbE (R := fun v w' => ∃ b, v = .pointer (some ⟨b, 0, none⟩) /\ w.heap.size <= b /\ w'.heap[b]? = some (.cells (ρ id :: vals).toArray e (0, 0)) /\ w.grownBy w' none) ho hc hfe hcall (hcalls.mono fun x w' ⟨b, h1, h2⟩ => ⟨_, h1, b, rfl, h2⟩) fun v w' ⟨b, h1, h2, h3, h4⟩ => ?_
       subst h1
       exact Zuc h hd hdst hb hf h2 h3 h4
    ·cases hr
   ·cases hr
  ·cases hr
 | tmp t => exact absurd hm (by unfold Z7X; cases S.k <;> simp)
 | const v => cases hm
 | global g => cases hm
theorem ZoU (hS : Z6w P S W M) (h : R P W M n s a w ρ) (hd : Z0b n o.dst = true) {c : Call} {f : Operand} (ho : o.op = .call c) (hc : c.callee = .value f)
  (hr : Zl2 S s (s.ev f) (c.args.toList.map s.ev) = some r) (Z0t : r.chk = true) : Goal P W M n o s r a w Q := by
 have hfrel := h.ev f
 generalize hfe : s.ev f = F at hr hfrel
 have hargs := ZdR h c.args.toList
 unfold Zl2 at hr
 split at hr
 ·rename_i xs0 g ib
  split at hr
  ·rename_i run hrun
   split at hr
   ·rename_i eb id hib
    obtain ⟨hcall, hsound⟩ := hS.1.2 g _ hrun
    have hsound : Zul P g run := hsound
    obtain ⟨vs0, hfv, hcaps⟩ := (show ∃ vs : List Value, a.eval f = .func (.func g) #[] vs.toArray /\ All2 (CapRel ρ s.heap) [ib] vs from hfrel)
    obtain ⟨vc, rfl, _, g', o', hat, rfl⟩ : ∃ vc, vs0 = [vc] /\ CapRel ρ s.heap ib vc := by
     match vs0, hcaps with
     | [vc], hcaps => exact ⟨vc, rfl, hcaps.1⟩
    obtain ⟨gb, csb, j1, j2, j3, j4⟩ := h.heap ib _ hib
    rw [j1] at hat
    obtain ⟨rfl, rfl⟩ : gb = g' /\ 0 = o' := by simpa [atOf] using hat
    unfold Z89 at hr
    split at hr
    ·rename_i id' xs hev
     simp only [List.cons.injEq, SV.ptr.injEq] at hev
     obtain ⟨⟨rfl, _⟩, rfl⟩ := hev
     split at hr
     ·rename_i e cells hb
      split at hr
      ·rename_i bcs pvs hbcs hpvs
       split at hr
       ·rename_i ok rs bcs' hres
        split at hr
        ·rename_i hsame
         simp only [Option.some.injEq] at hr; subst hr
         obtain rfl : ok = true := Z0t
         obtain ⟨b, cs, k1, k2, k3, k4⟩ := h.heap id _ hb
         have hne : ib ≠ id := by
          rintro rfl
          rw [hib] at hb
          simp only [Option.some.injEq, Blk.box.injEq] at hb
          obtain ⟨_, rfl⟩ := hb
          simp [Z1N, bcOf] at hbcs
         have hgb : gb ≠ b := fun e' => h.apart ib id _ _ gb hne hib hb rfl rfl (by rw [j1]; rfl) (by rw [k1, e']; rfl)
         have hcell : w.cell? ⟨gb, 0, none⟩ = some (.pointer (some ⟨b, 0, none⟩)) := by
          obtain ⟨u, hu, _, g2, o2, ha2, hu2⟩ := Z9W h hib (.inr ⟨_, rfl⟩) (by rw [j1]; rfl) 0 _ rfl
          rw [k1] at ha2
          obtain ⟨rfl, rfl⟩ : b = g2 /\ 0 = o2 := by simpa [atOf] using ha2
          rw [hu2] at hu
          exact hu
         have hbc : All2 (BCRel w b) bcs cs.toList := All2.ofOpt (R2 := BCRel w b) (fun x y v hx hv => Zut h k2 hx hv) hbcs k4
         have hpv : All2 (ArgB w b) pvs (c.args.toList.map a.eval) := All2.ofOpt (R2 := ArgB w b) (fun x y v hx hv => by
          unfold pvB at hx
          split at hx
          ·simp only [Option.some.injEq] at hx; subst hx; exact hv
          ·rename_i jd
           obtain ⟨_, rfl⟩ := hv
           split at hx
           ·rename_i m c hb'
            simp only [Option.some.injEq] at hx; subst hx
            exact Zpo h hb' k2
           ·rename_i e' z m c hb'
            simp only [Option.some.injEq] at hx; subst hx
            exact Ztb h hb' hb rfl (by rw [k1]; rfl) (by rintro rfl; rw [hb] at hb'; cases hb')
           ·cases hx
          ·cases hx) hpvs hargs
         have hcalls := hsound w e b gb 0 cs bcs pvs _ rs bcs' (h.gok hS.2) (Own.far hS.2 k2) k3 hcell hgb hbc hpv hres hsame
         rw [show (c.args.toList.map a.eval ++ [Value.pointer (some ⟨gb, 0, none⟩)]).toArray = c.args.map a.eval ++ ([Value.pointer (some ⟨gb, 0, none⟩)] : List Value).toArray from by apply Array.toList_inj.1; simp] at hcalls
         refine ZbE (R := fun v w' => v = Zjg rs /\ w'.heap[b]? = some (.cells (newC bcs' cs.toList).toArray e (0, 0)) /\ w.grownBy w' (some b)) ho hc hfv hcall (hcalls.mono fun x w' ⟨h1, h2⟩ => ⟨_, h1, rfl, h2⟩) fun v w' ⟨h1, h2, h3⟩ => ⟨ρ, ?_⟩
         subst h1
         refine (h.write' (b' := .box e (Zbs cells bcs')) hb rfl rfl (fun g hg => ?_) (by rw [k1]; exact h3) ⟨b, _, k1, k2, h2, Zen hsame (Zg4 hbcs) k4⟩).put hd (.inr (ZqZ rs))
         rw [k1] at hg
         obtain rfl : b = g := by simpa [Z07, atOf] using hg
         exact k2
        ·cases hr
       ·cases hr
      ·cases hr
     ·cases hr
    ·cases hr
   ·cases hr
  ·cases hr
 ·cases hr
theorem ZuZ (hS : Z6w P S W M) (h : R P W M n s a w ρ) (hd : Z0b n o.dst = true) {c : Call} {f : Operand} (ho : o.op = .call c) (hc : c.callee = .value f) {run : MFn} (hm : Z7X S f = some run)
  (hr : Zvr S s o.dst (s.ev f) run (c.args.toList.map s.ev) = some r) (Z0t : r.chk = true) (hf : s.fresh r.news = true) : Goal P W M n o s r a w Q := by
 cases run with
 | row run => exact Zv1 hS h hd ho hc hm hr Z0t
 | box run => exact ZoT hS h hd ho hc hm hr Z0t
 | src run => exact Zv2 hS h hd ho hc hm hr Z0t hf
 | cap run => exact ZoU hS h hd ho hc hr Z0t
theorem ZtN (hS : Z6w P S W M) (h : R P W M n s a w ρ) (hd : Z0b n o.dst = true) {c : Call} {f : Operand} (ho : o.op = .call c) (hc : c.callee = .value f)
  (hr : (match s.ev f with
   | .clo g caps => match S.f g, Z1N (fun x => PVof s.heap (Zao S s.heap) (s.ev x)) c.args.toList, Z1N (Zfh s.heap) caps with
    | some run, some args, some cs => match run (args ++ cs) with
     | some (ok, rs) => ZcM o.dst ok rs
     | none => none
    | _, _, _ => none
   | .fn g => match SV.vals (c.args.toList.map s.ev) with
    | some args => match g args with
     | some (ok, r) => ZcM o.dst ok [.v r]
     | none => none
    | none => none
   | _ => none) = some r) (Z0t : r.chk = true) (hf : s.fresh r.news = true) : Goal P W M n o s r a w Q := by
 have hrel := h.ev f
 split at hr
 ·rename_i g caps hev
  rw [hev] at hrel
  obtain ⟨vs, hfe, hcaps⟩ := hrel
  split at hr
  ·rename_i run args cs hrun hargs hcs
   split at hr
   ·rename_i ok rs hres
    obtain ⟨_, _, hck⟩ := Z79 hr
    obtain rfl : ok = true := by rw [<- hck]; exact Z0t
    obtain ⟨hcall, hsound⟩ := hS.1.1 g run hrun
    have hall : All2 (Z5s P w) (args ++ cs) (c.args.toList.map a.eval ++ vs) :=
     All2.app (Zjf h hargs fun x pv hx => Zsj hS h (h.ev x) hx) (All2.join (T := Z5s P w) (fun id pv x (hp : Zfh s.heap id = some pv) (hx : CapRel ρ s.heap id x) => ZpV h (World.grownBy.refl w none) hx hp) (Z8H hcs) hcaps)
    have hcalls := hsound w _ _ rs (h.gok hS.2) hall hres
    rw [show (c.args.toList.map a.eval ++ vs).toArray = c.args.map a.eval ++ vs.toArray from by apply Array.toList_inj.1; simp] at hcalls
    exact ZbE ho hc hfe hcall hcalls fun rv w' ⟨h1, h2⟩ => ZkX h hd hr hf h2 h1
   ·cases hr
  ·cases hr
 ·rename_i g hev
  rw [hev] at hrel
  obtain ⟨fid, caps, hfe, hcall, hsound⟩ := hrel
  split at hr
  ·rename_i args hargs
   split at hr
   ·rename_i ok rv hg
    obtain ⟨_, _, hck⟩ := Z79 hr
    obtain rfl : ok = true := by rw [<- hck]; exact Z0t
    have hargs' : c.args.toList.map a.eval = args := by
     have hall : All2 (Rel P W M ρ s.heap) (c.args.toList.map s.ev) (c.args.toList.map a.eval) := by
      clear hargs hr ho hc hg
      generalize c.args.toList = l
      induction l with
      | nil => exact True.intro
      | cons x l ih => exact ⟨h.ev x, ih⟩
     exact Zey hargs hall
    have hcalls := hsound w h.grown args rv hg
    rw [show args.toArray ++ caps = c.args.map a.eval ++ caps from by rw [<- hargs']; apply Array.toList_inj.1; simp] at hcalls
    refine ZbE (R := fun v w' => v = rv /\ w.grownBy w' none) ho hc hfe hcall (hcalls.mono fun e w' ⟨h1, h2⟩ => ⟨rv, h1, rfl, h2⟩) fun v w' ⟨h1, h2⟩ => ?_
    subst h1
    exact ZkX h hd hr hf h2 rfl
   ·cases hr
  ·cases hr
 ·cases hr
theorem ZfR {id : Nat} : ∀ {l : List (Nat × Blk)}, s.fresh l = true -> (s.kill id).fresh l = true
 | [], _ => rfl
 | (i, b) :: l, h => by
  obtain ⟨h1, h2⟩ := Zc6 h
  have : (s.kill id).heap i = none := by
   show (bif Nat.beq i id then none else match s.heap i with | some b => some (Z9f id b) | none => none) = none
   rw [h1]
   cases Nat.beq i id <;> rfl
  simp only [FSt.fresh, this]
  exact ZfR h2
theorem R.change (h : R P W M n s a w ρ) {i : Nat} {b b' : Blk} (hi : s.heap i = some b) (hob : ownB b' = true -> ownB b = true) (hb : BRel P W M w ρ s.heap i b')
  (hh : ∀ g, Held w (ρ i) b' g -> (ownB b' = true -> Z07 (ρ i) ≠ some g) /\ ∀ j bj, j ≠ i -> s.heap j = some bj -> ownB bj = true -> Z07 (ρ j) ≠ some g) : R P W M n (s.set i b') a w ρ := by
 have hm : ∀ id, (s.heap id).isSome = true -> ((s.set i b').heap id).isSome = true /\ ρ id = ρ id := by
  intro id hid
  refine ⟨?_, rfl⟩
  show (bif Nat.beq id i then some b' else s.heap id).isSome = true
  cases Nat.beq id i
  ·exact hid
  ·rfl
 have hheap : ∀ id c, (s.set i b').heap id = some c -> (id = i /\ c = b') \/ (id ≠ i /\ s.heap id = some c) := by
  intro id c hc
  by_cases e : id = i
  ·subst e
   have : Nat.beq id id = true := by simp
   simp only [FSt.set, this, cond_true, Option.some.injEq] at hc
   exact .inl ⟨rfl, hc.symm⟩
  ·have : Nat.beq id i = false := nbeq e
   simp only [FSt.set, this, cond_false] at hc
   exact .inr ⟨e, hc⟩
 refine ⟨h.grown, h.size, h.defers, fun t => (h.slots t).mono hm, fun id c hc => ?_, fun x y bx by_ g' hxy hx hy ox oy gx => ?_, fun x bx g2 hx hq y by_ hy oy gy => ?_, fun v0 hv0 => ⟨(h.fix v0 hv0).1, ⟨(hm 0 (h.fix v0 hv0).2.1.1).1, (h.fix v0 hv0).2.1.2⟩, fun u hu => ⟨(hm 1 ((h.fix v0 hv0).2.2 u hu).1).1, ((h.fix v0 hv0).2.2 u hu).2⟩⟩⟩
 ·rcases hheap id c hc with ⟨rfl, rfl⟩ | ⟨hne, hc⟩
  ·exact hb.mono hm rfl
  ·exact (h.heap id c hc).mono hm rfl
 ·rcases hheap x bx hx with ⟨rfl, rfl⟩ | ⟨hnx, hx'⟩ <;> rcases hheap y by_ hy with ⟨rfl, rfl⟩ | ⟨hny, hy'⟩
  ·exact absurd rfl hxy
  ·exact h.apart _ _ _ _ g' hxy hi hy' (hob ox) oy gx
  ·exact h.apart _ _ _ _ g' hxy hx' hi ox (hob oy) gx
  ·exact h.apart _ _ _ _ g' hxy hx' hy' ox oy gx
 ·rcases hheap x bx hx with ⟨rfl, rfl⟩ | ⟨hnx, hx'⟩ <;> rcases hheap y by_ hy with ⟨rfl, rfl⟩ | ⟨hny, hy'⟩
  ·exact (hh g2 hq).1 oy gy
  ·exact (hh g2 hq).2 y by_ hny hy' oy gy
  ·exact h.froz x bx g2 hx' hq _ _ hi (hob oy) gy
  ·exact h.froz x bx g2 hx' hq y by_ hy' oy gy
theorem R.freeze (h : R P W M n s a w ρ) {j : Nat} {e sz m : Nat} {c : Cells} (hj : s.heap j = some (.row e sz m c)) : R P W M n (s.set j (.fro true m c)) a w ρ :=
 h.change hj (fun e => by cases e) ⟨Z8X h hj, fun _ g hg => (h.heap j _ hj).2.2 g hg⟩ fun g hg => ⟨fun e => (by cases e), fun i bi hne hi oi => h.apart j i _ bi g (Ne.symm hne) hj hi rfl oi hg⟩
theorem R.weakD (h : R P W M n s a w ρ) {i : Nat} {own fr : Bool} {e : TypeId} {ls : List (List Int)} (hb : s.heap i = some (.dee own fr e ls)) {own2 fr2 : Bool} {e2 : TypeId} (ho' : own2 = true -> own = true /\ e2 = e) (hf : fr2 = true -> fr = true /\ own2 = own) : R P W M n (s.set i (.dee own2 fr2 e2 ls)) a w ρ := by
 have ho : own2 = true -> own = true := fun e => (ho' e).1
 obtain ⟨⟨vs, q2, q3, q4⟩, q5, q6⟩ := h.heap i _ hb
 have hros : Z16 w none (ρ i) ls.length (.vals vs) := by
  cases own with
  | true => exact Zcn (c := .vals vs) (ZdI q2) (q3 rfl)
  | false => exact q4 rfl
 have q3' : own2 = true -> w.ownsRow 0 e2 1 (ρ i) ls.length vs := fun e => by rw [(ho' e).2]; exact q3 (ho e)
 refine h.change hb ho ⟨⟨vs, q2, q3', fun _ => hros⟩, fun e => q5 (ho e), fun e g hg => ?_⟩ fun g hg => ⟨fun e he => ?_, fun j bj hne hj oj gj => ?_⟩
 ·obtain ⟨h1, rfl⟩ := hf e
  exact q6 h1 g hg
 ·have e' : own2 = true := e
  have h1 := ho e'
  subst h1; subst e'
  exact h.froz i _ g hb hg i _ hb rfl he
 ·rcases Zbm q2.len.symm q3' (fun _ => hros) hg with ⟨_, hg⟩ | ⟨u, hu, hg⟩
  ·cases own with
   | true => exact h.apart i j _ bj g (Ne.symm hne) hb hj rfl oj hg gj
   | false => exact h.froz i _ g hb (.inl ⟨rfl, hg⟩) j bj hj oj gj
  ·exact h.froz i _ g hb (Zbr q2.len.symm q3 q4 hu hg) j bj hj oj gj
theorem ZtL {d : Option Nat} {x : SV} {c : Bool} {i e sz m : Nat} {cc : Cells} : (s.apply d ⟨c, x, [(i, .row e sz m cc)], none, none⟩).set i (.fro true m cc) = s.apply d (Out.frz ⟨c, x, [(i, .row e sz m cc)], none, none⟩) := by
 have key : ∀ (d : Option Nat) (q : FSt) (b : Blk), (q.put d x).set i b = (q.set i b).put d x := fun d q b => by cases d <;> rfl
 show ((s.set i _).put d x).set i _ = (s.set i _).put d x
 rw [key]
 congr 1
 show (⟨_, _⟩ : FSt) = ⟨_, _⟩
 congr 1
 funext y
 show (bif Nat.beq y i then some _ else bif Nat.beq y i then some _ else s.heap y) = bif Nat.beq y i then some _ else s.heap y
 cases Nat.beq y i <;> rfl
theorem ZoS (r : Out) : (∃ i e sz m cc, r.news = [(i, .row e sz m cc)] /\ r.frz = ⟨r.chk, r.v, [(i, .fro true m cc)], r.upd, r.drop⟩) \/ r.frz = r := by
 obtain ⟨c, v, news, upd, drop⟩ := r
 match news with
 | [(i, .row e sz m cc)] => exact .inl ⟨i, e, sz, m, cc, rfl, rfl⟩
 | [] => exact .inr rfl
 | [(i, .box _ _)] => exact .inr rfl
 | [(i, .ros _ _)] => exact .inr rfl
 | [(i, .rop _)] => exact .inr rfl
 | [(i, .fro _ _ _)] => exact .inr rfl
 | [(i, .dee _ _ _ _)] => exact .inr rfl
 | _ :: _ :: _ => exact .inr (by unfold Out.frz; congr 1; unfold frzN; split <;> first | rfl | (rename_i h; cases h))
theorem Znn {r : Out} (h : s.fresh r.frz.news = true) : s.fresh r.news = true := by
 rcases ZoS r with ⟨i, e, sz, m, cc, h1, h2⟩ | h1
 ·rw [h2] at h
  rw [h1]
  exact h
 ·rwa [h1] at h
theorem Zqv (hu : r.upd = none) (hdr : r.drop = none) (h : Goal P W M n o s r a w Q) : Goal P W M n o s r.frz a w Q := by
 rcases ZoS r with ⟨i, e, sz, m, cc, h1, h2⟩ | h1
 ·obtain ⟨c, v, news, upd, drop⟩ := r
  simp only at hu hdr h1
  subst hu; subst hdr; subst h1
  refine Oper.wp_mono (fun a' w' ⟨ρ', hR⟩ => ⟨ρ', ?_⟩) h
  rw [<- ZtL]
  refine hR.freeze (e := e) (sz := sz) ?_
  have : (s.apply o.dst ⟨c, v, [(i, .row e sz m cc)], none, none⟩).heap i = (s.set i (.row e sz m cc)).heap i := by
   show ((s.set i (.row e sz m cc)).put o.dst v).heap i = _
   cases o.dst <;> rfl
  rw [this]
  show (bif Nat.beq i i then _ else _) = _
  simp
 ·rw [h1]; exact h
theorem Zjj {t e : TypeId} (h : Zim P t = some e) : P.underlying t = some (.slice e) /\ Zu P (sizeOf e) = some 1 /\ ∃ z, Zu P (zeroValue e) = some z := by
 unfold Zim at h
 split at h
 ·rename_i e' hu
  split at h
  ·rename_i k z _ hs hz
   simp only [Option.some.injEq] at h; subst h
   exact ⟨hu, hs, _, hz⟩
  ·cases h
 ·cases h
theorem ZqR {t : TypeId} {d : TypeDesc} (h : P.underlying t = some d) : Zu P (underlying t) = some d := by
 show Zu P (match P.underlying t with | some d => Pure.pure d | none => stuck "no such type") = _
 rw [h]; rfl
theorem ZvX {t e : TypeId} (h : Zim P t = some e) : Zu P (Z9i t 0 #[]) = some (e, 1, #[]) := by
 obtain ⟨h1, h2, z, h3⟩ := Zjj h
 unfold Z9i
 rw [Z43, ZqR h1]
 simp only [Option.bind_some]
 rw [Z43, h2]
 simp [Z43, Zu, Instr.fill]
 rw [show Array.map (fun _ => (default : Value)) (Array.range 0) = #[] from Array.toList_inj.1 (by simp)]
 rfl
theorem Zx4 {t e : TypeId} {v : Value} (h : Zim P t = some e) (hv : v.cells = #[v]) : Zu P (Z9i t 1 #[(0, v)]) = some (e, 1, #[v]) := by
 obtain ⟨h1, h2, z, h3⟩ := Zjj h
 unfold Z9i
 rw [Z43, ZqR h1]
 simp only [Option.bind_some]
 rw [Z43, h2]
 simp [Z43, Zu, Instr.fill, h3, hv]
 rw [map_eq_pure_bind, Z43, h3]
 show some (e, 1, _) = _
 congr 3
 apply Array.toList_inj.1
 simp
theorem ZlU {x : SV} {fr : Bool} {m : Nat} {l : List Int} (h : ZlT s.heap x = some (fr, m, l)) : ∃ j, x = .row j /\ s.heap j = some (.fro fr m (.ints l)) := by
 unfold ZlT at h
 split at h
 ·rename_i j
  split at h
  ·rename_i hb
   simp only [Option.some.injEq, Prod.mk.injEq] at h
   obtain ⟨rfl, rfl, rfl⟩ := h
   exact ⟨j, rfl, hb⟩
  ·cases h
 ·cases h
theorem ZtR {w' : World} {row : Option Nat} {l : List Int} {u : Value} (h : Inn w l u) (hg : w.grownBy w' row) (hne : ∀ g, Z07 u = some g -> row ≠ some g) : Inn w' l u := Zh9 h hg hne
theorem Zc8 {w' : World} {row : Option Nat} (hg : w.grownBy w' row) : ∀ {ls : List (List Int)} {vs : List Value}, All2 (Inn w) ls vs -> (∀ u ∈ vs, ∀ g, Z07 u = some g -> row ≠ some g) -> All2 (Inn w') ls vs
 | [], [], _, _ => True.intro
 | _ :: _, _ :: _, ⟨p, q⟩, h => ⟨ZtR p hg fun g hg' => h _ (by simp) g hg', Zc8 hg q fun u hu => h u (by simp [hu])⟩
theorem ZoX : ∀ {ls : List (List Int)} {vs : List Value}, All2 (Inn w) ls vs -> ∀ u ∈ vs, ∀ g, Z07 u = some g -> g < w.heap.size
 | [], [], _, u, hu, _, _ => by cases hu
 | _ :: _, _ :: _, ⟨p, q⟩, u, hu, g, hg => by
  rcases List.mem_cons.1 hu with rfl | hu
  ·exact Zpn p hg
  ·exact ZoX q u hu g hg
theorem Zqu (h : R P W M n s a w ρ) (hd : Z0b n o.dst = true) {t : TypeId} {len d : Nat} {parts : Array (Nat × Operand)} (ho : o.op = .buildSlice t len parts) (hdst : o.dst = some d)
  (hr : ZaU P s d t len parts.toList = some r) (Z0t : r.chk = true) (hf : s.fresh r.news = true) : Goal P W M n o s r a w Q := by
 have new : ∀ (e : TypeId) (fr : Bool) (ls : List (List Int)) (vs : List Value) (L : Nat), L <= 1 -> ls.length = L -> All2 (Inn w) ls vs -> (fr = true -> ∀ u ∈ vs, ∀ g, Z07 u = some g -> Own W M g) -> (∀ u ∈ vs, ∀ g, Z07 u = some g -> ∀ j bj, s.heap j = some bj -> ownB bj = true -> Z07 (ρ j) ≠ some g) ->
   Zu P (Z9i t L (parts.map fun (i, x) => (i, a.eval x))) = some (e, 1, vs.toArray) -> len = L -> ∀ c, s.fresh [(4 * d, .dee true fr e ls)] = true -> Goal P W M n o s ⟨c, .row (4 * d), [(4 * d, .dee true fr e ls)], none, none⟩ a w Q := by
  intro e fr ls vs L hL hls q2 hfr hap hbs Z5e c hf
  have hvl : vs.length = L := by rw [<- q2.len]; exact hls
  have ZoW : (w.alloc (.cells vs.toArray e)).ownsRow 0 e 1 (.slice (some ⟨w.heap.size, 0, none⟩) ls.length ls.length) ls.length vs := by
   have := World.ownsRow_lit (e := e) (size := 1) (base := 0) w vs.toArray L (Nat.zero_le _) (by unfold maxLen; omega) (by simpa using hvl)
   rw [hls]; simpa using this
  have q2' := Zc8 (Z8E w (.cells vs.toArray e)) q2 fun _ _ _ _ e => by cases e
  refine Zbl (w' := w.alloc (.cells vs.toArray e)) (u := .slice (some ⟨w.heap.size, 0, none⟩) ls.length ls.length) (v := .slice (some ⟨w.heap.size, 0, none⟩) ls.length ls.length) h hd hf ?_ (Z8E _ _) ⟨⟨vs, q2', fun _ => ?_, fun e => by cases e⟩, fun _ g hg => ?_, fun hfr' g hg => ?_⟩ (fun _ g hg => ?_) (fun H hH => ⟨hH, by simp only [if_true]⟩) fun g hg => ?_
  ·simp only [execOp, ho]
   rw [Z5e, hls]
   exact (Zv (Zuw hbs w)).trans rfl
  ·simp only [if_true]; exact ZoW
  ·simp only [if_true] at hg
   obtain rfl : w.heap.size = g := by simpa [Z07, atOf] using hg
   exact Zes h
  ·simp only [if_true] at hg
   rcases Zbm q2.len.symm (fun _ => ZoW) (fun e => by cases e) hg with ⟨e, _⟩ | ⟨u, hu, hg⟩
   ·cases e
   ·exact hfr hfr' u hu g hg
  ·obtain rfl : w.heap.size = g := by simpa [Z07, atOf] using hg
   exact Nat.le_refl _
  ·rcases Zbm q2.len.symm (fun _ => ZoW) (fun e => by cases e) hg with ⟨e, _⟩ | ⟨u, hu, hg⟩
   ·cases e
   ·refine ⟨fun _ he => ?_, hap u hu g hg⟩
    have h1 := ZoX q2 u hu g hg
    obtain rfl : w.heap.size = g := by simpa [Z07, atOf] using he
    omega
 match hp : parts.toList, hr with
 | [], hr =>
  simp only [ZaU] at hr
  split at hr
  ·rename_i e hE
   split at hr
   ·rename_i hl
    simp only [Option.some.injEq] at hr; subst hr
    refine new e true [] [] 0 (by omega) rfl True.intro (fun _ u hu => by cases hu) (fun u hu => by cases hu) ?_ (neq hl) _ hf
    rw [show parts = #[] from Array.toList_inj.1 hp]
    simpa using ZvX hE
   ·cases hr
  ·cases hr
 | [(0, x)], hr =>
  simp only [ZaU] at hr
  split at hr
  ·rename_i e fr m l hE ZoW
   split at hr
   ·rename_i hl
    simp only [Option.some.injEq] at hr; subst hr
    obtain ⟨j, hx, hb⟩ := ZlU ZoW
    have hv := h.ev x
    rw [hx] at hv
    obtain ⟨hl1, he⟩ := hv
    have hlm := neq Z0t
    obtain ⟨k1, k2⟩ := h.heap j _ hb
    have hinn : Inn w l (ρ j) := by
     unfold Inn; rw [hlm]; exact k1
    refine new e fr [l] [ρ j] 1 (by omega) rfl ⟨hinn, True.intro⟩ (fun hfr u hu g hg => ?_) (fun u hu g hg i bi hi oi => ?_) ?_ (neq hl) _ hf
    ·obtain rfl : u = ρ j := by simpa using hu
     exact k2 hfr g hg
    ·obtain rfl : u = ρ j := by simpa using hu
     exact h.froz j _ g hb hg i bi hi oi
    ·rw [show parts = #[(0, x)] from Array.toList_inj.1 hp]
     rw [show (Array.map (fun (x : Nat × Operand) => match x with | (i, x) => (i, a.eval x)) #[(0, x)]) = #[(0, ρ j)] from by rw [<- he]; simp]
     exact Zx4 hE (Zh8 h hl1).1
   ·cases hr
  ·cases hr
 | (i + 1, x) :: l, hr => simp only [ZaU] at hr; cases hr
 | (0, x) :: y :: l, hr => simp only [ZaU] at hr; cases hr
theorem ZrK (h : R P W M n s a w ρ) (hd : Z0b n o.dst = true) {t : TypeId} {x : Operand} {d : Nat} (ho : o.op = .load t x) (hdst : o.dst = some d)
  (hr : ZqI P s d t (s.ev x) = some r) (Z0t : r.chk = true) (hf : s.fresh r.news = true) : Goal P W M n o s r a w Q := by
 have hv := h.ev x
 unfold ZqI at hr
 split at hr
 ·rename_i id off hx
  rw [hx] at hv
  obtain ⟨hl, g, o', ha, he⟩ := hv
  split at hr
  ·rename_i own fr e ls hb hag hsz
   simp only [Option.some.injEq] at hr; subst hr
   have hle := nle Z0t
   obtain ⟨⟨vs, q2, q3, q4⟩, q5, q6⟩ := h.heap id _ hb
   have hoff : off < vs.length := by rw [<- q2.len]; exact hle
   have hoff' : off < ls.length := hle
   obtain ⟨c1, g0, o1, c2, c3, c4⟩ := Zbj q2.len.symm q3 q4 (List.getElem?_eq_getElem hoff)
   rw [ha] at c2
   obtain ⟨rfl, rfl⟩ : g = g0 /\ o' = o1 := by simpa using c2
   have hinn : Inn w (ls.getD off []) vs[off] := by
    have := ZhN q2 (List.getElem?_eq_getElem hoff') (List.getElem?_eq_getElem hoff)
    rwa [List.getD_eq_getElem?_getD, List.getElem?_eq_getElem hoff', Option.getD_some]
   have hheld : ∀ g, Z07 vs[off] = some g -> Held w (ρ id) (.dee own fr e ls) g := fun g hg => Zbr q2.len.symm q3 q4 (List.getElem_mem hoff) hg
   refine Zbl (w' := w) (u := vs[off]) (v := vs[off]) h hd hf ?_ (World.grownBy.refl w none) ⟨?_, fun hfr g hg => ?_⟩ (fun e => by cases e) (fun H hH => ⟨hH, by simp only [if_true]⟩) fun g hg => ⟨fun e => (by cases e), h.froz id _ g hb (hheld g hg)⟩
   ·simp only [execOp, ho, he]
    exact (Zv (Zel hag c4)).trans rfl
   ·simp only [if_true]; exact hinn
   ·simp only [if_true] at hg
    exact q6 hfr g (hheld g hg)
  ·cases hr
 ·cases hr
theorem Zqw (h : R P W M n s a w ρ) (hd : Z0b n o.dst = true) {t : TypeId} {x y : Operand} (ho : o.op = .store t x y) (hdst : o.dst = none)
  (hr : Zm8 P s t (s.ev y) (s.ev x) = some r) (Z0t : r.chk = true) : Goal P W M n o s r a w Q := by
 have hv := h.ev x
 have hy := h.ev y
 unfold Zm8 at hr
 split at hr
 ·rename_i id off hx
  rw [hx] at hv
  obtain ⟨hl, g, o', ha, he⟩ := hv
  split at hr
  ·rename_i fr e ls fr2 m l hb ZoW hsz
   simp only [Option.some.injEq] at hr; subst hr
   simp only [Bool.and_eq_true] at Z0t
   have hle := nle Z0t.1
   have hlm := neq Z0t.2
   obtain ⟨j, hyj, hbj⟩ := ZlU ZoW
   rw [hyj] at hy
   obtain ⟨hlj, hye⟩ := hy
   obtain ⟨k1, k2⟩ := h.heap j _ hbj
   have hinn : Inn w l (ρ j) := by
    unfold Inn; rw [hlm]; exact k1
   obtain ⟨⟨vs, q2, q3, q4⟩, q5, q6⟩ := h.heap id _ hb
   have hown := q3 rfl
   have hone := Zh8 h hlj
   have hheld : ∀ u ∈ vs, ∀ g, Z07 u = some g -> Held w (ρ id) (.dee true fr e ls) g := fun u hu g hg => Zbr q2.len.symm q3 q4 hu hg
   rcases hown.2 with ⟨h0, _⟩ | ⟨g', cap, cur, hv, hb0, hg, hc, hm, hz, hx0⟩
   ·rw [h0] at ha; cases ha
   ·rw [hv] at ha
    obtain ⟨rfl, rfl⟩ : g' = g /\ 0 = o' := by simpa [atOf] using ha
    have hgi : Z07 (ρ id) = some g' := by rw [hv]; rfl
    obtain ⟨⟨cs', hh, hcs'⟩, hgr⟩ := Z8v [ρ j] off w cur hg
    have hcur : cur.size = cap * 1 := hz
    have hcl : (a.eval y).cells.toList = [ρ j] := by rw [hye, hone.1]
    have hrun : (execOp a.eval o).run P w = .ok .skip (w.setCells g' off [ρ j]) := by
     simp only [execOp, ho, he]
     have := ZnP (P := P) (w := w) (g := g') (i := off) (v := a.eval y) hsz (by rw [hye, hone.1]; rfl) (fun j hj => by
      have hlt : off + j < cur.size := by omega
      exact ⟨by simp [World.cell?, hg, hlt], by simp [World.frozen?, hg]⟩) (fun u hu => by
       rw [hcl] at hu
       obtain rfl : u = ρ j := by simpa using hu
       exact hone.2)
     rw [hcl] at this
     rw [Nat.zero_add]
     exact (Zv this).trans rfl
    have hmem : ∀ u ∈ vs.set off (ρ j), u ∈ vs \/ u = ρ j := fun u hu => List.mem_or_eq_of_mem_set hu
    have hne : ∀ u ∈ vs.set off (ρ j), ∀ g2, Z07 u = some g2 -> ∀ i bi, s.heap i = some bi -> ownB bi = true -> Z07 (ρ i) ≠ some g2 := fun u hu g2 hg2 => by
     rcases hmem u hu with hu | rfl
     ·exact h.froz id _ g2 hb (hheld u hu g2 hg2)
     ·exact h.froz j _ g2 hbj hg2
    have q2' : All2 (Inn (w.setCells g' off [ρ j])) (ls.set off l) (vs.set off (ρ j)) := Zc8 hgr (q2.set off hinn) fun u hu g2 hg2 e => by
     cases e
     exact hne u hu g' hg2 id _ hb rfl hgi
    have Z5e : (ls.set off l).length = ls.length := by simp
    have hown' : (w.setCells g' off [ρ j]).ownsRow 0 e 1 (ρ id) (ls.set off l).length (vs.set off (ρ j)) := by
     rw [Z5e]
     refine ⟨by rw [List.length_set]; exact hown.1, .inr ⟨g', cap, cs', hv, hb0, hh, hc, hm, ?_, ?_⟩⟩
     ·have := congrArg List.length hcs'
      rw [ZlY] at this
      simp at this
      omega
     ·rw [hcs', Zil, hx0]; rfl
    have hfz : ∀ g2, Held (w.setCells g' off [ρ j]) (ρ id) (.dee true (fr && fr2) e (ls.set off l)) g2 -> ∃ u ∈ vs.set off (ρ j), Z07 u = some g2 := fun g2 hg2 => by
     rcases Zbm q2'.len.symm (fun _ => hown') (fun e => by cases e) hg2 with ⟨e, _⟩ | hq
     ·cases e
     ·exact hq
    refine Zsf hrun ⟨ρ, ?_⟩
    rw [hdst]
    show R P W M n (s.set id _) a _ ρ
    refine h.write hb rfl rfl hgi (q5 rfl g' hgi) hgr ⟨⟨_, q2', fun _ => hown', fun e => by cases e⟩, fun _ => q5 rfl, fun hfr g2 hg2 => ?_⟩ fun g2 hg2 => ?_
    ·rw [Bool.and_eq_true] at hfr
     obtain ⟨u, hu, hg2⟩ := hfz g2 hg2
     rcases hmem u hu with hu | rfl
     ·exact q6 hfr.1 g2 (hheld u hu g2 hg2)
     ·exact k2 hfr.2 g2 hg2
    ·obtain ⟨u, hu, hg2⟩ := hfz g2 hg2
     exact hne u hu g2 hg2
  ·cases hr
 ·cases hr
theorem ZuE (h : R P W M n s a w ρ) {x : SV} {v : Value} (hx : Rel P W M ρ s.heap x v) {fr : Bool} {ms : List (List Int)} (hr : ZuD s.heap x = some (true, fr, ms)) :
  ∃ us, All2 (Inn w) ms us /\ Z16 w none v ms.length (.vals us) /\ (∀ u ∈ us, ∀ g, Z07 u = some g -> ∀ j bj, s.heap j = some bj -> ownB bj = true -> Z07 (ρ j) ≠ some g) /\ (fr = true -> ∀ u ∈ us, ∀ g, Z07 u = some g -> Own W M g) := by
 have base : ∀ {id : Nat} {own fr : Bool} {e : TypeId} {ls : List (List Int)}, s.heap id = some (.dee own fr e ls) -> ∃ us, All2 (Inn w) ls us /\ Z16 w none (ρ id) ls.length (.vals us) /\ (∀ u ∈ us, ∀ g, Z07 u = some g -> ∀ j bj, s.heap j = some bj -> ownB bj = true -> Z07 (ρ j) ≠ some g) /\ (fr = true -> ∀ u ∈ us, ∀ g, Z07 u = some g -> Own W M g) := by
  intro id own fr e ls hb
  obtain ⟨⟨vs, q2, q3, q4⟩, q5, q6⟩ := h.heap id _ hb
  have hheld : ∀ u ∈ vs, ∀ g, Z07 u = some g -> Held w (ρ id) (.dee own fr e ls) g := fun u hu g hg => Zbr q2.len.symm q3 q4 hu hg
  refine ⟨vs, q2, ?_, fun u hu g hg => h.froz id _ g hb (hheld u hu g hg), fun hf u hu g hg => q6 hf g (hheld u hu g hg)⟩
  cases own with
  | true => exact Zcn (c := .vals vs) (ZdI q2) (q3 rfl)
  | false => exact q4 rfl
 unfold ZuD at hr
 split at hr
 ·rename_i id
  split at hr
  ·rename_i own fr' e ls hb
   simp only [Option.some.injEq, Prod.mk.injEq, true_and] at hr
   obtain ⟨rfl, rfl⟩ := hr
   obtain ⟨_, rfl⟩ := hx
   exact base hb
  ·cases hr
 ·rename_i id off k sz
  split at hr
  ·rename_i own fr' e ls hb
   split at hr
   ·rename_i hsz
    simp only [Option.some.injEq, Prod.mk.injEq] at hr
    obtain ⟨hck, rfl, rfl⟩ := hr
    have hck := nle hck
    obtain ⟨_, q, cap, rfl, hq⟩ := hx
    obtain ⟨us, u1, u2, u3, u4⟩ := base hb
    have hmem : ∀ u ∈ (us.drop off).take k, u ∈ us := fun u hu => List.mem_of_mem_drop (List.mem_of_mem_take hu)
    have hl : ((ls.drop off).take k).length = k := by simp; omega
    refine ⟨(us.drop off).take k, (u1.drop off).take k, ?_, fun u hu => u3 u (hmem u hu), fun hf u hu => u4 hf u (hmem u hu)⟩
    rw [hl]
    have := Zku (sz := 1) u2 rfl hq
    rwa [Nat.mul_one] at this
   ·cases hr
  ·cases hr
 ·cases hr
theorem ZtM (h : R P W M n s a w ρ) (hd : Z0b n o.dst = true) {c : Call} {d : Nat} {t u : TypeId} {x y : SV} (ho : o.op = .call c) (hc : c.callee = .builtin .append) (hdst : o.dst = some d) (hargs : c.args.toList.map s.ev = [x, y]) (htys : c.argTypes.toList = [t, u]) (htu : Nat.beq t u = true)
  (hr : appD P s d t y x = some r) (Z0t : r.chk = true) (hf : (s.dropped r.drop).fresh r.news = true) : Goal P W M n o s r a w Q := by
 have htu := neq htu
 subst htu
 obtain ⟨X, Y, hXY, hX, hY⟩ : ∃ X Y, c.args.toList = [X, Y] /\ s.ev X = x /\ s.ev Y = y := by
  match hq : c.args.toList, hargs with
  | [X, Y], hargs => simp at hargs; exact ⟨X, Y, rfl, hargs.1, hargs.2⟩
  | [], hargs => cases hargs
  | [_], hargs => cases hargs
  | _ :: _ :: _ :: _, hargs => simp at hargs
 have e1 : c.args = #[X, Y] := Array.toList_inj.1 hXY
 have e2 : c.argTypes = #[t, t] := Array.toList_inj.1 htys
 have hrun : ∀ {v : Value} {w' : World}, (Builtin.append_ #[t, t] o.type #[a.eval X, a.eval Y]).run P w = .ok v w' -> (execOp a.eval o).run P w = .ok (.value v) w' := by
  intro v w' hl
  simp only [execOp, ho]
  obtain ⟨cs, this⟩ := Z5C (P := P) (a := a) (ty := o.type) hc
  rw [e1, e2, show Array.map a.eval #[X, Y] = #[a.eval X, a.eval Y] from by simp] at this
  rw [Zv (this w)]
  exact Z0R hl
 unfold appD at hr
 split at hr
 ·rename_i id
  have hrel := h.ev X
  rw [hX] at hrel
  obtain ⟨hl, hxe⟩ := hrel
  split at hr
  ·rename_i fr e ls ck fr2 ms e' hb hdee hu
   split at hr
   ·rename_i i hi
    have hinfo := Zie hi
    split at hr
    ·rename_i hck
     simp only [Bool.and_eq_true] at hck
     obtain ⟨⟨⟨⟨k0, k1⟩, k2⟩, k3⟩, k4⟩ := hck
     have k0 := neq k0; have k1 := nle k1; have k2 := neq k2; have k3 := nle k3
     subst k0
     obtain ⟨z, hz, hzs⟩ : ∃ z, i.zero = some z /\ z.cells.size = i.size := by
      unfold ZpG at k4
      cases hq : i.zero with
      | none => rw [hq] at k4; cases k4
      | some z => rw [hq] at k4; exact ⟨z, rfl, neq k4⟩
     simp only [Option.some.injEq] at hr; subst hr
     simp only [Bool.and_eq_true] at Z0t
     obtain ⟨rfl, Z5e⟩ := Z0t
     have Z5e := nle Z5e
     have hyr := h.ev Y
     rw [hY] at hyr
     obtain ⟨us, u1, u2, u3, u4⟩ := ZuE h hyr hdee
     obtain ⟨⟨vs, q2, q3, q4⟩, q5, q6⟩ := h.heap id _ hb
     have hown := q3 rfl
     have hheld : ∀ u ∈ vs, ∀ g, Z07 u = some g -> Held w (ρ id) (.dee true fr e ls) g := fun u hu g hg => Zbr q2.len.symm q3 q4 hu hg
     have hne : ∀ u ∈ vs ++ us, ∀ g, Z07 u = some g -> ∀ j bj, s.heap j = some bj -> ownB bj = true -> Z07 (ρ j) ≠ some g := fun u hu g hg => by
      rcases List.mem_append.1 hu with hu | hu
      ·exact h.froz id _ g hb (hheld u hu g hg)
      ·exact u3 u hu g hg
     have hall := q2.app u1
     have hlt := ZoX hall
     have hoff : ∀ j bj g, (s.kill id).heap j = some bj -> Touch w (ρ j) bj g -> Z07 (ρ id) ≠ some g := fun j bj g hj ht e => by
      obtain ⟨hne, bj', hj', rfl⟩ := Z7I hj
      rcases Zmh ht with ⟨oj, gj⟩ | hh
      ·exact h.apart id j _ bj' g (Ne.symm hne) hb hj' rfl oj e gj
      ·exact h.froz j bj' g hj' hh id _ hb rfl e
     have hR1 : R P W M n (s.kill id) a w ρ := h.kill id ⟨by omega, by omega⟩
     have hi0 : (s.kill id).heap (4 * d) = none := ZhY hf
     have hlen2 : (ls ++ ms).length = ls.length + ms.length := List.length_append
     -- what the append leaves behind
     obtain ⟨v', w', hap, hgr, hown', hblk⟩ : ∃ v' w', (Builtin.append_ #[t, t] o.type #[a.eval X, a.eval Y]).run P w = .ok v' w' /\ w.grownBy w' (ρ id).ownBlock /\ w'.ownsRow 0 e 1 v' (ls ++ ms).length (vs ++ us) /\ (v'.ownBlock = (ρ id).ownBlock \/ v'.ownBlock = some w.heap.size) := by
      rw [hlen2]
      rcases u2.2 with ⟨hy0, h0, hc0⟩ | ⟨g2, o2, cap2, hy2, hcap2, _, Zc7⟩
      ·have hap := run_append_owned_none (P := P) w 0 t o.type e i 1 hu hinfo (ρ id) ls.length vs hown
       rw [<- hxe, show (Value.slice none 0 0) = a.eval Y from hy0.symm] at hap
       have hc0 : us = [] := hc0
       refine ⟨a.eval X, w, hap, World.grownBy.refl w _, ?_, .inl (by rw [hxe])⟩
       rw [h0, hc0, hxe, Nat.add_zero, List.append_nil]
       exact hown
      ·obtain ⟨v', w', hap, hown', hgr, _, hblk⟩ := run_append_own_at (P := P) w 0 t o.type e i z 1 i.bytes hu hinfo hz k2 rfl (by rw [hzs, k2]) (Nat.le_refl 1) (ρ id) ls.length vs hown ⟨g2, o2, none⟩ ms.length cap2 us (by rw [<- u1.len, Nat.mul_one])
        (fun j u hj => by rw [Z8D]; exact Zc7 j u hj) (ZdI u1) (by unfold maxLen; omega) (by have := Nat.mul_le_mul Z5e k3; omega) (Nat.zero_le _)
       rw [<- hxe, <- hy2] at hap
       refine ⟨v', w', hap, ?_, hown', ?_⟩
       ·exact hgr
       ·exact hblk
     rw [Z3O hown] at hgr hblk
     have hR2 : R P W M n (s.kill id) a w' ρ := hR1.extOff hgr fun g hg => ⟨q5 rfl g hg, fun j bj hj ht => hoff j bj g hj ht hg⟩
     have hall' := Zc8 hgr hall fun u hu g hg e => hne u hu g hg id _ hb rfl e
     have hh : ∀ g, Held w' v' (.dee true (fr && fr2) e (ls ++ ms)) g -> ∃ u ∈ vs ++ us, Z07 u = some g := fun g hg => by
      rcases Zbm hall'.len.symm (fun _ => hown') (fun e => by cases e) hg with ⟨e, _⟩ | hq
      ·cases e
      ·exact hq
     have hv'g : ∀ g, Z07 v' = some g -> Z07 (ρ id) = some g \/ g = w.heap.size := fun g hg => by
      rw [<- Z3O hown'] at hg
      rcases hblk with hb | hb
      ·exact .inl (by rw [<- hb]; exact hg)
      ·rw [hb] at hg
       exact .inr (by simpa using hg.symm)
     refine Zmj (hrun hap) ⟨fun x => if x = 4 * d then v' else ρ x, ?_⟩
     show R P W M n ((((s.dropped (some id)).news [_]).upd none).put o.dst _) _ _ _
     refine R.put (R.new (s := s.kill id) (b := .dee true (fr && fr2) e (ls ++ ms)) (v := v') hR2 hi0 ⟨⟨vs ++ us, hall', fun _ => ?_, fun e => by cases e⟩, fun _ g hg => ?_, fun hfr g hg => ?_⟩ (fun ob g hg j bj hj ht => ?_) fun g hg => ?_) hd (.inr ⟨?_, ?_⟩)
     ·simp only [if_true]; exact hown'
     ·simp only [if_true] at hg
      rcases hv'g g hg with hg | rfl
      ·exact q5 rfl g hg
      ·exact Zes h
     ·simp only [if_true] at hg
      rw [Bool.and_eq_true] at hfr
      obtain ⟨u, hu, hg⟩ := hh g hg
      rcases List.mem_append.1 hu with hu | hu
      ·exact q6 hfr.1 g (hheld u hu g hg)
      ·exact u4 hfr.2 u hu g hg
     ·have ht := Zah (hR1.heap j bj hj) hgr (fun g' ht e => hoff j bj g' hj ht e) ht
      rcases hv'g g hg with hg | rfl
      ·exact hoff j bj g hj ht hg
      ·have := Zeg (hR1.heap j bj hj) ht
       omega
     ·obtain ⟨u, hu, hg⟩ := hh g hg
      refine ⟨fun _ he => ?_, fun j bj hj oj => ?_⟩
      ·rcases hv'g g he with he | rfl
       ·exact hne u hu g hg id _ hb rfl he
       ·have := hlt u hu _ hg
        omega
      ·obtain ⟨_, bj', hj', rfl⟩ := Z7I hj
       rw [Zer] at oj
       exact hne u hu g hg j bj' hj' oj
     ·show (bif Nat.beq (4 * d) (4 * d) then some (Blk.dee true (fr && fr2) e (ls ++ ms)) else (s.kill id).heap (4 * d)).isSome = true
      simp
     ·simp only [if_true]
    ·cases hr
   ·cases hr
  ·cases hr
 ·cases hr
theorem Zkr (hS : Z6w P S W M) (h : R P W M n s a w ρ) (hd : Z0b n o.dst = true) (hr : Z1f P S s o = some r) (Z0t : r.chk = true) (hf : s.fresh r.news = true) : Goal P W M n o s r a w Q := by
 have hdep : 2 <= P.depth := by unfold Program.depth; omega
 unfold Z1f at hr
 cases ho : o.op <;> rw [ho] at hr <;> dsimp only at hr
 case move x => exact Zno h hd (.inl ho) hr
 case assign x => exact Zno h hd (.inr ho) hr
 case pick c x y => exact ZtP h hd ho hr
 case alloc e => exact ZrH h hd ho hr hf
 case box e x => exact ZuV h hd ho hr hf
 case buildSlice t len parts => exact ZjM h hd ho hr hf
 case load t x =>
  cases hg : ZdE x with
  | some g =>
   rw [hg] at hr
   have hx := Zqs hg
   subst hx
   exact ZrI hS.2 h hd ho hr
  | none => rw [hg] at hr; exact ZtO h hd ho hr Z0t
 case store t x y =>
  cases hdst : o.dst with
  | some d => rw [hdst] at hr; cases hr
  | none => rw [hdst] at hr; exact ZrM h hd ho hr Z0t hdst
 case binOp op t x y u => exact ZuU h hd ho (fun k hk => Zoq hk hdep) hr Z0t
 case unOp op t x => exact Z9Z h hd (.inr (.inl ⟨_, _, _, ho⟩)) hr
 case build t ps =>
  split at hr
  ·rename_i r' hr'
   simp only [Option.some.injEq] at hr; subst hr
   exact ZuT h hd ho hr'
  ·exact Z9Z h hd (.inr (.inr (.inl ⟨_, _, ho⟩))) hr
 case field t x f => exact Z9Z h hd (.inr (.inr (.inr (.inl ⟨_, _, _, ho⟩)))) hr
 case convert t u x =>
  cases hx : s.ev x with
  | row id => rw [hx] at hr; exact ZrN h hd ho hx hr Z0t
  | _ => rw [hx] at hr; exact Z9Z h hd (.inr (.inr (.inr (.inr ⟨_, _, _, ho⟩)))) hr
 case makeFunc fn first captured =>
  cases fn <;> dsimp only at hr <;> try (cases hr; done)
  exact ZmC h hd ho hr
 case makeSlice t x y => exact Zly h hd ho hr Z0t hf
 case fieldAddr t x f => exact Zlw h hd ho hr
 case indexAddr t x i => exact Zlx h hd ho hr Z0t
 case index t x i => exact ZrJ h hd ho hr Z0t
 case slice t x lo hi mx => exact ZrL h hd hr Z0t ho
 case nilCheck x => exact ZmD h hd ho hr
 case sliceToArrayPointer t x => exact ZmE h hd ho hr Z0t
 case extract x i => exact ZoV h hd ho hr
 case call c =>
  cases hc : c.callee with
  | value f =>
   rw [hc] at hr
   dsimp only at hr
   cases hm : Z7X S f with
   | some run => rw [hm] at hr; exact ZuZ hS h hd ho hc hm hr Z0t hf
   | none => rw [hm] at hr; exact ZtN hS h hd ho hc hr Z0t hf
  | invoke x m => rw [hc] at hr; cases hr
  | builtin b =>
   rw [hc] at hr
   cases b <;> dsimp only at hr <;> try (cases hr; done)
   case len => exact ZuW h hd ho hc hr
   case max => exact ZuX h hd ho hc hr
   case min => exact ZuY h hd ho hc hr
   case append =>
    refine Zqt hS.2 h hd ho hc hr Z0t ?_
    cases hdr : r.drop with
    | none => exact hf
    | some id => exact ZfR hf
 all_goals cases hr
theorem ZpT {t : TypeId} {len : Nat} {parts : Array (Nat × Operand)} (ho : o.op = .buildSlice t len parts) (hr : Z1f P S s o = some r) : r.upd = none /\ r.drop = none := by
 unfold Z1f at hr
 rw [ho] at hr
 dsimp only at hr
 split at hr
 ·split at hr
  ·split at hr
   ·split at hr
    ·simp only [Option.some.injEq] at hr; subst hr; exact ⟨rfl, rfl⟩
    ·cases hr
   ·cases hr
  ·cases hr
 ·cases hr
theorem Zrt {c : Call} {f : Operand} (ho : o.op = .call c) (hc : c.callee = .value f) (hm : Z7X S f = none) (hr : Z1f P S s o = some r) : r.upd = none /\ r.drop = none := by
 unfold Z1f at hr
 rw [ho] at hr
 dsimp only at hr
 rw [hc] at hr
 dsimp only at hr
 rw [hm] at hr
 dsimp only at hr
 split at hr
 ·split at hr
  ·split at hr
   ·exact ⟨(Z79 hr).2.1, (Z79 hr).1⟩
   ·cases hr
  ·cases hr
 ·split at hr
  ·split at hr
   ·exact ⟨(Z79 hr).2.1, (Z79 hr).1⟩
   ·cases hr
  ·cases hr
 ·cases hr
theorem Zv0 (hS : Z6w P S W M) (h : R P W M n s a w ρ) (hd : Z0b n o.dst = true) (hr : opD P S s o = some r) (Z0t : r.chk = true) (hf : s.fresh r.news = true) : Goal P W M n o s r a w Q := by
 unfold opD at hr
 split at hr
 ·rename_i t len parts d ho hdst
  split at hr
  ·rename_i r' hb
   simp only [Option.some.injEq] at hr; subst hr
   exact Zqu h hd ho hdst hb Z0t hf
  ·split at hr
   ·cases hr
   ·split at hr
    ·rename_i r' h0
     simp only [Option.some.injEq] at hr; subst hr
     obtain ⟨h1, h2⟩ := ZpT ho h0
     exact Zqv h1 h2 (Zkr hS h hd h0 Z0t (Znn hf))
    ·cases hr
 ·rename_i t x d ho hdst
  exact ZrK h hd ho hdst hr Z0t hf
 ·rename_i t x y ho hdst
  exact Zqw h hd ho hdst hr Z0t
 ·rename_i c d ho hdst
  split at hr
  ·rename_i f hc
   split at hr
   ·cases hr
   ·rename_i hm
    split at hr
    ·rename_i r' h0
     simp only [Option.some.injEq] at hr; subst hr
     obtain ⟨h1, h2⟩ := Zrt ho hc hm h0
     exact Zqv h1 h2 (Zkr hS h hd h0 Z0t (Znn hf))
    ·cases hr
  ·rename_i hc
   split at hr
   ·rename_i hargs htys
    split at hr
    ·rename_i htu
     refine ZtM h hd ho hc hdst hargs htys htu hr Z0t ?_
     cases hdr : r.drop with
     | none => exact hf
     | some id => exact ZfR hf
    ·cases hr
   ·cases hr
  ·cases hr
 ·cases hr
theorem Zxj (hS : Z6w P S W M) (h : R P W M n s a w ρ) (hd : Z0b n o.dst = true) (hr : Z2v P S s o = some r) (Z0t : r.chk = true) (hf : s.fresh r.news = true) : Goal P W M n o s r a w Q := by
 unfold Z2v at hr
 cases hz : S.z
 ·rw [hz] at hr
  exact Zkr hS h hd hr Z0t hf
 ·rw [hz] at hr
  simp only [cond_true] at hr
  split at hr
  ·rename_i r' hD
   simp only [Option.some.injEq] at hr; subst hr
   exact Zv0 hS h hd hD Z0t hf
  ·exact Zkr hS h hd hr Z0t hf
end

end Go.Proofs.Ytfclaacaphpoaaa
