import Derived.Test.YtcdpfpfbilfpoaaGreatDoorCy
set_option linter.unusedSimpArgs false
set_option linter.unusedVariables false
namespace Go.Proofs.YtcdpfpfbilfpoaaGreatDoor
open Go.RowKit
section
variable {P : Program} {S : Sums} {W : World} {M : MV} {n : Nat} {s : FSt} {a : Act} {w w' : World} {ρ ρ' : Nat -> Value} {H : Nat -> Option Blk} {o : Oper} {r : Out} {Q : Exit -> Act -> World -> Prop} {K : Act -> World -> Prop}
theorem ZF8 {t : TypeId} {i : TypeInfo} (h : Zt P (typeInfo t) = some i) : P.info? t = some i := by
 have : Zt P (typeInfo t) = P.info? t := by
  show Zt P (match P.info? t with | some d => Pure.pure d | none => stuck "no such type") = _
  cases P.info? t <;> rfl
 rw [<- this]; exact h
theorem ZFa {b e sz m : Nat} {v : Value} {xs : List Value} (h : w.ownsRow b e sz v m xs) : w.ownsRow 0 e sz v m xs := by
 refine ⟨h.1, ?_⟩
 rcases h.2 with h | ⟨g, cap, cur, h1, h2, h3⟩
 ·exact .inl h
 ·exact .inr ⟨g, cap, cur, h1, Nat.zero_le _, h3⟩
theorem ZMT {z : Value} (h : z.oneCell' = true) (k : Nat) : (ZLN z k).ok /\ (ZLN z k).toVals = List.replicate k z := by
 unfold ZLN
 split
 ·exact ⟨True.intro, by simp [Cells.toVals]⟩
 ·exact ⟨True.intro, by simp [Cells.toVals]⟩
 ·exact ⟨True.intro, by simp [Cells.toVals]⟩
 ·exact ⟨fun u hu => by rw [List.eq_of_mem_replicate hu]; exact h, rfl⟩
theorem ZMY {z : Value} (h : z.oneCell' = true) : z.cells = #[z] := by cases z <;> first | rfl | cases h
theorem Zsj : ∀ {l : List Value} {zs : List Int}, Z2k l = some zs -> l = zs.map (Value.int .i64)
 | [], zs, h => by simp only [Z2k, Option.some.injEq] at h; subst h; rfl
 | v :: l, zs, h => by
  cases v with
  | int k n =>
   cases k <;> first | (simp only [Z2k] at h; cases h; done) | skip
   simp only [Z2k] at h
   split at h
   ·rename_i m hm
    simp only [Option.some.injEq] at h; subst h
    rw [Zsj hm]; rfl
   ·cases h
  | _ => simp [Z2k] at h
theorem ZKF {z : Value} {sz k : Nat} {c : Cells} (h : ZLO z sz k = some c) : c.ok /\ c.toVals = (madeCells z.cells (k * sz)).toList := by
 unfold ZLO at h
 split at h
 ·split at h
  ·rename_i ho
   simp only [Option.some.injEq] at h; subst h
   obtain ⟨c1, c2⟩ := ZMT ho k
   exact ⟨c1, by rw [c2, ZMY ho, Nat.mul_one, toList_madeCells_one]⟩
  ·cases h
 ·split at h
  ·rename_i zs hz
   split at h
   ·rename_i hck
    simp only [Option.some.injEq] at h; subst h
    simp only [Bool.and_eq_true] at hck
    have hl := Nat.eq_of_beq_eq_true hck.2
    have hc := Zsj hz
    have hsz : z.cells.size = sz := by rw [<- Array.length_toList, hc, List.length_map]; exact hl
    refine ⟨True.intro, ?_⟩
    apply List.ext_getElem
    ·simp [Cells.toVals, size_madeCells]
    ·intro i h1 h2
     have hi : i < k * sz := by simpa [Cells.toVals] using h1
     have hs0 : 0 < sz := by
      rcases Nat.eq_zero_or_pos sz with e | e
      ·subst e; simp at hi
      ·exact e
     have hm : i % sz < zs.length := by rw [hl]; exact Nat.mod_lt _ hs0
     have h0 : zs[i % sz] = 0 := by
      have := List.all_eq_true.1 hck.1 _ (List.getElem_mem hm)
      simpa using this
     have hq : z.cells[i % sz]? = some (Value.int .i64 0) := by
      rw [<- Array.getElem?_toList, hc, List.getElem?_map, List.getElem?_eq_getElem hm, h0]; rfl
     have hb : i % sz < z.cells.size := by rw [hsz]; exact Nat.mod_lt _ hs0
     have hv : z.cells[i % sz]! = Value.int .i64 0 := by
      rw [getElem!_pos z.cells _ hb]
      exact Option.some.inj ((Array.getElem?_eq_getElem hb).symm.trans hq)
     simp [Cells.toVals, madeCells, hsz, hv]
   ·cases h
  ·cases h
theorem ZB0 (h : R P W M n s a w ρ) (hd : Z0F n o.dst = true) {t : TypeId} {x y : Operand} (ho : o.op = .makeSlice t x y)
  (hr : (match o.dst, s.ev x, s.ev y, P.underlying t with
  | some d, .val (.int .i64 n), .val (.int .i64 m), some (.slice e) => match Zt P (sizeOf e), Zt P (zeroValue e), Zt P (typeInfo e) with
   | some sz, some z, some i => match ZLO z sz n.toNat with
    | some c => if Nat.ble i.bytes 1000 = true then some (⟨decide (0 <= n) && decide (n <= 2000000) && n == m, .row (4 * d), [(4 * d, .row e sz n.toNat c)], none, none⟩ : Out) else none
    | none => none
   | _, _, _ => none
  | _, _, _, _ => none) = some r) (Z1b : r.chk = true) (hf : s.fresh r.news = true) : Goal P W M n o s r a w Q := by
 split at hr
 ·rename_i d k m e hdst hx hy hu
  split at hr
  ·rename_i sz z i hs hz hi
   split at hr
   ·rename_i c hmade
    split at hr
    ·rename_i hck
     simp only [Option.some.injEq] at hr; subst hr
     simp only [Bool.and_eq_true, decide_eq_true_eq, beq_iff_eq] at Z1b
     obtain ⟨⟨h0, h1⟩, rfl⟩ := Z1b
     have hinfo := ZF8 hi
     have hby := nle hck
     have hzi : i.zero = some z := by
      have := Z5w hz (default : World)
      unfold zeroValue at this
      rw [Z0r hi] at this
      cases hq : i.zero with
      | none => rw [hq] at this; cases this
      | some z' => rw [hq] at this; simpa using this
     have hsi : i.size = sz := by
      obtain ⟨i', h1, h2⟩ := ZJ8 hs
      rw [hinfo] at h1
      simp only [Option.some.injEq] at h1
      rw [h1]; exact h2
     obtain ⟨N, rfl⟩ : ∃ N : Nat, k = (N : Int) := ⟨k.toNat, by omega⟩
     have hN : N <= 2000000 := by omega
     obtain ⟨w', hrun, hown, hgr⟩ := run_make_full (P := P) w w.heap.size t e i z sz hu hinfo hzi hsi .i64 .i64 N (by have := Nat.mul_le_mul hby hN; omega) (by unfold maxLen; omega) (Nat.le_refl _)
     simp only [Int.toNat_natCast] at hf hmade ⊢
     obtain ⟨c1, c2⟩ := ZKF hmade
     refine Zsg (w' := w') (u := .slice (some ⟨w.heap.size, 0, none⟩) N N) (v := .slice (some ⟨w.heap.size, 0, none⟩) N N) h hd hf ?_ hgr ⟨c1, ?_, fun g hg => ?_⟩ (fun _ g hg => ?_) (fun H hH => ⟨hH, ?_⟩)
     ·simp only [execOp, ho, Z2j h hx, Z2j h hy]
      exact Z1d hrun
     ·simp only [if_true]; rw [c2]; exact ZFa hown
     ·simp only [if_true] at hg
      obtain rfl : w.heap.size = g := by simpa [Z2Q, atOf] using hg
      exact Zzb h
     ·obtain rfl : w.heap.size = g := by simpa [Z2Q, atOf] using hg
      exact Nat.le_refl _
     ·simp only [if_true]
    ·cases hr
   ·cases hr
  ·cases hr
 ·cases hr
theorem ZNx {c1 c2 c : Cells} (h : c1.app c2 = some c) (h1 : c1.ok) (h2 : c2.ok) : c.ok /\ c.toVals = c1.toVals ++ c2.toVals := by
 unfold Cells.app at h
 split at h
 ·simp only [Option.some.injEq] at h; subst h
  exact ⟨True.intro, by simp [Cells.toVals]⟩
 ·simp only [Option.some.injEq] at h; subst h
  exact ⟨True.intro, by simp [Cells.toVals]⟩
 ·simp only [Option.some.injEq] at h; subst h
  exact ⟨True.intro, by simp [Cells.toVals]⟩
 ·simp only [Option.some.injEq] at h; subst h
  exact ⟨True.intro, by simp [Cells.toVals]⟩
 ·simp only [Option.some.injEq] at h; subst h
  exact ⟨True.intro, by simp [Cells.toVals]⟩
 ·simp only [Option.some.injEq] at h; subst h
  exact ⟨True.intro, by simp [Cells.toVals]⟩
 ·simp only [Option.some.injEq] at h; subst h
  exact ⟨True.intro, by simp [Cells.toVals]⟩
 ·simp only [Option.some.injEq] at h; subst h
  refine ⟨fun u hu => ?_, rfl⟩
  rcases List.mem_append.1 hu with hu | hu
  ·exact h1 u hu
  ·exact h2 u hu
 ·simp only [Option.some.injEq] at h; subst h
  exact ⟨h2, rfl⟩
 ·simp only [Option.some.injEq] at h; subst h
  exact ⟨h1, by simp [Cells.toVals]⟩
 ·cases h
theorem ZIG (hB : Base W M) (h : R P W M n s a w ρ) (hd : Z0F n o.dst = true) {c : Call} (ho : o.op = .call c) (hc : c.callee = .builtin .append)
  (hr : (match o.dst, c.args.toList.map s.ev, c.argTypes.toList with
   | some d, [x, y], [t, u] => if Nat.beq t u = true then Z9Q P s d t x y else none
   | _, _, _ => none) = some r) (Z1b : r.chk = true) (hf : (s.dropped r.drop).fresh r.news = true) : Goal P W M n o s r a w Q := by
 split at hr
 ·rename_i d x y t u hdst hargs htys
  split at hr
  ·rename_i htu
   have htu := neq htu
   subst htu
   obtain ⟨X, Y, hXY, hX, hY⟩ : ∃ X Y, c.args.toList = [X, Y] /\ s.ev X = x /\ s.ev Y = y := by
    match hq : c.args.toList, hargs with
    | [X, Y], hargs => simp at hargs; exact ⟨X, Y, rfl, hargs.1, hargs.2⟩
    | [], hargs => cases hargs
    | [_], hargs => cases hargs
    | _ :: _ :: _ :: _, hargs => simp at hargs
   have e1 : c.args = #[X, Y] := Array.toList_inj.1 hXY
   have e2 : c.argTypes = #[t, t] := Array.toList_inj.1 htys
   have hrun : ∀ {v : Value} {w' : World}, (Builtin.append_ #[t, t] o.type #[a.eval X, a.eval Y]).run P w = .ok v w' -> (execOp a.eval o).run P w = .ok (.value v) w' := by
    intro v w' hl
    simp only [execOp, ho]
    obtain ⟨cs, this⟩ := ZaQ (P := P) (a := a) (ty := o.type) hc
    rw [e1, e2, show Array.map a.eval #[X, Y] = #[a.eval X, a.eval Y] from by simp] at this
    rw [Zq (this w)]
    exact Z1d hl
   unfold Z9Q at hr
   split at hr
   ·rename_i e hu
    split at hr
    ·rename_i i hi
     have hinfo := ZF8 hi
     split at hr
     ·rename_i hck
      simp only [Bool.and_eq_true] at hck
      obtain ⟨⟨k1, k2⟩, k3⟩ := hck
      have k1 := nle k1; have k2 := nle k2
      obtain ⟨z, hz, hzs⟩ : ∃ z, i.zero = some z /\ z.cells.size = i.size := by
       unfold ZOT at k3
       cases hq : i.zero with
       | none => rw [hq] at k3; cases k3
       | some z => rw [hq] at k3; exact ⟨z, rfl, neq k3⟩
      split at hr
      ·rename_i m c2 hpv
       have hsrc : Z3i w none (a.eval Y) m c2 := by
        have hrel := h.ev Y
        rw [hY] at hrel
        have hpv' : PVof s.heap (ZhF ⟨fun _ => none, fun _ => none, false⟩ s.heap) y = some (.s m c2) := by
         have : ZhF ⟨fun _ => none, fun _ => none, false⟩ s.heap = fun _ _ => none := by funext f caps; rfl
         rw [this]; exact hpv
        exact ZL5 (S := ⟨fun _ => none, fun _ => none, false⟩) ⟨⟨fun _ _ e => (by cases e), fun _ _ e => (by cases e)⟩, hB⟩ h hrel hpv'
       have fin : ∀ (v : Value) (n1 : Nat) (c1 cc : Cells) (dr : Option Nat), (∃ s1, s1 = s.dropped dr /\ R P W M n s1 a w ρ /\ ∀ j bj g, s1.heap j = some bj -> ownB bj = true -> Z2Q (ρ j) = some g -> v.ownBlock ≠ some g) -> a.eval X = v -> w.ownsRow 0 e i.size v n1 c1.toVals -> (∀ g, v.ownBlock = some g -> Own W M g) -> cc.ok -> cc.toVals = c1.toVals ++ c2.toVals ->
         n1 + m <= 2000000 -> c2.len = m * i.size -> (s.dropped dr).fresh [(4 * d, .row e i.size (n1 + m) cc)] = true -> ∀ b, Goal P W M n o s ⟨b, .row (4 * d), [(4 * d, .row e i.size (n1 + m) cc)], none, dr⟩ a w Q := by
        intro v n1 c1 cc dr ⟨s1, hs1, hR1, hoff⟩ hX' hown hOwn hcc hcv hnm Z4X hfr b
        rcases hsrc.2 with ⟨hy0, h0, hc0⟩ | ⟨g2, o2, cap2, hy2, hcap2, _, Zki⟩
        ·have hap := run_append_owned_none (P := P) w 0 t o.type e i i.size hu hinfo v n1 c1.toVals hown
         rw [<- hX', show (Value.slice none 0 0) = a.eval Y from hy0.symm] at hap
         have hi0 : s1.heap (4 * d) = none := by rw [hs1]; exact ZAW hfr
         have hcv' : cc.toVals = c1.toVals := by rw [hcv, hc0, List.append_nil]
         subst h0
         refine ZHB (hrun hap) ⟨fun x => if x = 4 * d then a.eval X else ρ x, ?_⟩
         show R P W M n ((((s.dropped dr).news [_]).upd none).put o.dst _) _ _ _
         rw [<- hs1]
         refine R.put (R.new (b := .row e i.size (n1 + 0) cc) (v := a.eval X) hR1 hi0 (show BRel P W M w _ _ (4 * d) (.row e i.size (n1 + 0) cc) from ⟨hcc, ?_, fun g hg => ?_⟩) fun ob g hg j bj hj oj gj => ?_) hd (.inr ⟨?_, ?_⟩)
         ·simp only [if_true]; rw [hcv', hX']; exact hown
         ·simp only [if_true] at hg
          rw [hX', <- Z9Z hown] at hg
          exact hOwn g hg
         ·rw [hX', <- Z9Z hown] at hg
          exact hoff j bj g hj oj gj hg
         ·show (bif Nat.beq (4 * d) (4 * d) then some (Blk.row e i.size (n1 + 0) cc) else s1.heap (4 * d)).isSome = true
          simp
         ·simp only [if_true]
        ·obtain ⟨v', w', hap, hown', hgr, _, hblk⟩ := run_append_own_at (P := P) w 0 t o.type e i z i.size i.bytes hu hinfo hz rfl rfl hzs k1 v n1 c1.toVals hown ⟨g2, o2, none⟩ m cap2 c2.toVals (by rw [Cells.len_toVals, Z4X])
          (fun j u hj => by rw [Zgy]; exact Zki j u hj) (Cells.ok_one hsrc.1) (by unfold maxLen; omega) (by have := Nat.mul_le_mul hnm k2; omega) (Nat.zero_le _)
         rw [<- hX', <- hy2] at hap
         have hR2 : R P W M n s1 a w' ρ := hR1.extOff hgr fun g hg => ⟨hOwn g hg, fun j bj hj oj e => hoff j bj g hj oj e hg⟩
         have hi0 : s1.heap (4 * d) = none := by rw [hs1]; exact ZAW hfr
         refine ZHB (hrun hap) ⟨fun x => if x = 4 * d then v' else ρ x, ?_⟩
         show R P W M n ((((s.dropped dr).news [_]).upd none).put o.dst _) _ _ _
         rw [<- hs1]
         refine R.put (R.new (b := .row e i.size (n1 + m) cc) (v := v') hR2 hi0 (show BRel P W M w' _ _ (4 * d) (.row e i.size (n1 + m) cc) from ⟨hcc, ?_, fun g hg => ?_⟩) fun ob g hg j bj hj oj gj => ?_) hd (.inr ⟨?_, ?_⟩)
         ·simp only [if_true]; rw [hcv]; exact hown'
         ·simp only [if_true] at hg
          rw [<- Z9Z hown'] at hg
          rcases hblk with hb | hb
          ·exact hOwn g (by rw [<- hb]; exact hg)
          ·rw [hb] at hg
           simp only [Option.some.injEq] at hg; subst hg
           exact Zzb h
         ·rw [<- Z9Z hown'] at hg
          rcases hblk with hb | hb
          ·exact hoff j bj g hj oj gj (by rw [<- hb]; exact hg)
          ·rw [hb] at hg
           simp only [Option.some.injEq] at hg; subst hg
           have := ZH1 (hR1.heap j bj hj) oj gj
           omega
         ·show (bif Nat.beq (4 * d) (4 * d) then some (Blk.row e i.size (n1 + m) cc) else s1.heap (4 * d)).isSome = true
          simp
         ·simp only [if_true]
       split at hr
       ·rename_i hx
        simp only [Option.some.injEq] at hr; subst hr
        simp only [Bool.and_eq_true] at Z1b
        have hxv : a.eval X = nilS := Z2j h hX
        have := fin nilS 0 (.ints []) c2 none ⟨s, rfl, h, fun j bj g hj oj gj e => by cases e⟩ hxv (World.ownsRow_nil w 0 e i.size) (fun g hg => by cases hg) hsrc.1 (by simp [Cells.toVals]) (by have := nle Z1b.1.2; omega) (neq Z1b.2)
        simp only [Nat.zero_add] at this
        exact this hf _
       ·rename_i id
        have hrel := h.ev X
        rw [hX] at hrel
        obtain ⟨hl, hxe⟩ := hrel
        split at hr
        ·rename_i e' sz n1 c1 hb
         split at hr
         ·rename_i hck2
          simp only [Bool.and_eq_true] at hck2
          have q1 := neq hck2.1.1; have q2 := neq hck2.1.2; have q3 := nle hck2.2
          subst q1; subst q2
          split at hr
          ·rename_i cc happ
           simp only [Option.some.injEq] at hr; subst hr
           simp only [Bool.and_eq_true] at Z1b
           obtain ⟨r1, r2, r3⟩ := h.heap id _ hb
           obtain ⟨a1, a2⟩ := ZNx happ r1 hsrc.1
           refine fin (ρ id) n1 c1 cc (some id) ⟨_, rfl, h.kill id ⟨by omega, by omega⟩, fun j bj g hj oj gj e => ?_⟩ hxe r2 (fun g hg => r3 g (by rw [<- Z9Z r2]; exact hg)) a1 a2 (nle Z1b.1.2) (neq Z1b.2) hf _
           obtain ⟨hne, bj', hj', rfl⟩ := ZmW hj
           rw [ZF9] at oj
           rw [Z9Z r2] at e
           exact h.apart id j _ bj' g (Ne.symm hne) hb hj' rfl oj e gj
          ·cases hr
         ·cases hr
        ·cases hr
       ·cases hr
      ·cases hr
     ·cases hr
    ·cases hr
   ·cases hr
  ·cases hr
 ·cases hr
end

section
variable {P : Program} {S : Sums} {W : World} {M : MV} {n : Nat} {s : FSt} {a : Act} {w w' : World} {ρ ρ' : Nat -> Value} {H : Nat -> Option Blk} {o : Oper} {r : Out} {Q : Exit -> Act -> World -> Prop} {K : Act -> World -> Prop}
theorem Zq6 {i : Nat} {b : Blk} {l : List (Nat × Blk)} (h : s.fresh ((i, b) :: l) = true) : s.heap i = none /\ s.fresh l = true := by
 simp only [FSt.fresh] at h
 split at h
 ·cases h
 ·exact ⟨by assumption, h⟩
theorem ZER {i : Nat} {b : Blk} : ∀ {l : List (Nat × Blk)}, s.fresh l = true -> (∀ x ∈ l, x.1 ≠ i) -> (s.set i b).fresh l = true
 | [], _, _ => rfl
 | (j, c) :: l, h, hne => by
  obtain ⟨h1, h2⟩ := Zq6 h
  have hj : j ≠ i := hne (j, c) (by simp)
  have : (s.set i b).heap j = none := by simp only [FSt.set, nbeq hj, cond_false]; exact h1
  simp only [FSt.fresh, this]
  exact ZER h2 fun x hx => hne x (by simp [hx])
theorem ZH0 : ∀ (rs : List TR) (i : Nat), ∀ x ∈ (Z77 i rs).1, i <= x.1
 | [], i, x, h => by cases h
 | .v _ :: l, i, x, h => by have := ZH0 l (i + 1) x h; omega
 | .s e sz k c :: l, i, x, h => by
  simp only [Z77] at h
  rcases List.mem_cons.1 h with rfl | h
  ·exact Nat.le_refl _
  ·have := ZH0 l (i + 1) x h; omega
theorem R.news (B : World) : ∀ (rs : List TR) (vs : List Value) (i : Nat) (s : FSt) (ρ : Nat -> Value), R P W M n s a w ρ -> All2 (TRel B w) rs vs -> TApart rs vs -> s.fresh (Z77 i rs).1 = true -> W.heap.size <= B.heap.size ->
  (∀ j bj g, s.heap j = some bj -> ownB bj = true -> Z2Q (ρ j) = some g -> B.heap.size <= g -> SOff g rs vs) ->
  ∃ ρ', R P W M n (s.news (Z77 i rs).1) a w ρ' /\ All2 (TIRel ρ' (s.news (Z77 i rs).1).heap) (Z77 i rs).2 vs /\ (∀ id, (s.heap id).isSome = true -> ((s.news (Z77 i rs).1).heap id).isSome = true /\ ρ' id = ρ id)
 | [], [], i, s, ρ, h, _, _, _, _, _ => ⟨ρ, h, True.intro, fun id hid => ⟨hid, rfl⟩⟩
 | .v x :: rs, v :: vs, i, s, ρ, h, ⟨p, q⟩, hap, hf, hB, hoff => by
  obtain ⟨ρ', h1, h2, h3⟩ := R.news B rs vs (i + 1) s ρ h q (by simpa [TApart] using hap) hf hB (fun j bj g hj oj gj hg => hoff j bj g hj oj gj hg)
  exact ⟨ρ', h1, ⟨p, h2⟩, h3⟩
 | .s e sz k c :: rs, v :: vs, i, s, ρ, h, ⟨p, q⟩, hap, hf, hB, hoff => by
  obtain ⟨hc, hown⟩ := p
  obtain ⟨ap1, ap2⟩ := hap
  obtain ⟨hi, hf'⟩ := Zq6 hf
  have hge : ∀ g, Z2Q v = some g -> B.heap.size <= g := fun g hg => (hown.lt g (by rw [Z9Z hown]; exact hg)).1
  have hR : R P W M n (s.set i (.row e sz k c)) a w (fun x => if x = i then v else ρ x) := by
   refine h.new hi ⟨hc, ?_, fun g hg => ?_⟩ fun ob g hg j bj hj oj gj => (hoff j bj g hj oj gj (hge g hg)).1 hg
   ·simp only [if_true]; exact ZFa hown
   ·simp only [if_true] at hg
    exact .inl (Nat.le_trans hB (hge g hg))
  have hset : ∀ j bj, (s.set i (.row e sz k c)).heap j = some bj -> (j = i) \/ (j ≠ i /\ s.heap j = some bj) := by
   intro j bj hj
   by_cases e : j = i
   ·exact .inl e
   ·exact .inr ⟨e, by simpa only [FSt.set, nbeq e, cond_false] using hj⟩
  obtain ⟨ρ', h1, h2, h3⟩ := R.news B rs vs (i + 1) _ _ hR q ap2 (ZER hf' fun x hx => by have := ZH0 rs (i + 1) x hx; omega) hB (by
   intro j bj g hj oj gj hgB
   rcases hset j bj hj with rfl | ⟨hne, hj⟩
   ·simp only [if_true] at gj
    exact ap1 g gj
   ·simp only [if_neg hne] at gj
    exact (hoff j bj g hj oj gj hgB).2)
  have hlive : ((s.set i (.row e sz k c)).heap i).isSome = true := by
   show (bif Nat.beq i i then some (Blk.row e sz k c) else s.heap i).isSome = true
   simp
  refine ⟨ρ', h1, ⟨⟨(h3 i hlive).1, ?_⟩, h2⟩, fun id hid => ?_⟩
  ·rw [(h3 i hlive).2]; simp
  ·have hne : id ≠ i := by rintro rfl; rw [hi] at hid; cases hid
   have : ((s.set i (.row e sz k c)).heap id).isSome = true := by simp only [FSt.set, nbeq hne, cond_false]; exact hid
   exact ⟨(h3 id this).1, by rw [(h3 id this).2, if_neg hne]⟩
theorem Zqy {d : Option Nat} {c : Bool} {rs : List TR} (h : Zll d c rs = some r) : r.drop = none /\ r.upd = none /\ r.chk = c := by
 unfold Zll at h
 cases d with
 | none =>
  dsimp only at h
  split at h
  ·simp only [Option.some.injEq] at h; subst h; exact ⟨rfl, rfl, rfl⟩
  ·simp only [Option.some.injEq] at h; subst h; exact ⟨rfl, rfl, rfl⟩
  ·cases h
 | some d =>
  dsimp only at h
  cases hv : Zq8 rs with
  | some x => rw [hv] at h; simp only [Option.some.injEq] at h; subst h; exact ⟨rfl, rfl, rfl⟩
  | none =>
   rw [hv] at h
   dsimp only at h
   unfold Zza at h
   split at h
   ·split at h <;> (simp only [Option.some.injEq] at h; subst h; exact ⟨rfl, rfl, rfl⟩)
   ·cases h
theorem ZIM {rs : List TR} {x : Value} (h : Zq8 rs = some x) : rs = [.v x] := by
 cases rs with
 | nil => cases h
 | cons y l =>
  cases l with
  | nil => cases y with
   | v z => simp only [Zq8, Option.some.injEq] at h; rw [h]
   | s e sz k cc => cases h
  | cons z l => cases y <;> cases h
theorem ZIL {rs : List TR} (h : Zq8 rs = none) : ∀ x, rs = [.v x] -> False := by
 rintro x rfl
 cases h
theorem ZKG {i j : Nat} {rs : List TR} (h : (Z77 i rs).2 = [.r j]) : ∃ e sz k cc, rs = [.s e sz k cc] := by
 cases rs with
 | nil => cases h
 | cons x l =>
  cases l with
  | nil =>
   cases x with
   | v x => cases h
   | s e sz k cc => exact ⟨e, sz, k, cc, rfl⟩
  | cons y l => cases x <;> cases y <;> cases h
theorem ZOD {i : Nat} {rs : List TR} {rv : Value} (h1 : ∀ x, rs = [.v x] -> False) (h2 : ∀ j, (Z77 i rs).2 = [.r j] -> False) (h : Zpu w w' rs rv) : ∃ vs : List Value, rv = .tuple vs.toArray /\ All2 (TRel w w') rs vs /\ TApart rs vs := by
 cases rs with
 | nil => exact h
 | cons x l =>
  cases l with
  | nil =>
   cases x with
   | v x => exact (h1 x rfl).elim
   | s e sz k cc => exact (h2 i rfl).elim
  | cons y l => exact h
theorem ZA4 (h : R P W M n s a w ρ) (hd : Z0F n o.dst = true) {c : Bool} {rs : List TR} (hr : Zll o.dst c rs = some r) (hf : s.fresh r.news = true) {rv : Value} (hg : w.grownBy w' none) (hres : Zpu w w' rs rv) :
  ∃ ρ', R P W M n (s.apply o.dst r) (a.put o.dst rv) w' ρ' := by
 have hR := h.ext hg
 have hoff : ∀ vs : List Value, ∀ j bj g, s.heap j = some bj -> ownB bj = true -> Z2Q (ρ j) = some g -> w.heap.size <= g -> SOff g rs vs := by
  intro vs j bj g hj oj e hge
  have := ZH1 (h.heap j bj hj) oj e
  omega
 cases hdst : o.dst with
 | none => exact ⟨ρ, by
   obtain ⟨h1, h2, _⟩ := Zqy hr
   have hn : r.news = [] := by
    rw [hdst] at hr
    unfold Zll at hr
    dsimp only at hr
    split at hr
    ·simp only [Option.some.injEq] at hr; subst hr; rfl
    ·simp only [Option.some.injEq] at hr; subst hr; rfl
    ·cases hr
   show R P W M n ((((s.dropped r.drop).news r.news).upd r.upd).put none r.v) _ _ _
   rw [h1, h2, hn]
   exact hR⟩
 | some d =>
  rw [hdst] at hr hd
  unfold Zll at hr
  dsimp only at hr
  cases hv : Zq8 rs with
  | some x =>
   rw [hv] at hr
   simp only [Option.some.injEq] at hr; subst hr
   rw [ZIM hv] at hres
   exact ⟨ρ, hR.put hd (.inr hres)⟩
  | none =>
   rw [hv] at hr
   dsimp only at hr
   unfold Zza at hr
   split at hr
   ·have key : ∀ vs : List Value, All2 (TRel w w') rs vs -> TApart rs vs -> s.fresh (Z77 (4 * d) rs).1 = true -> _ := fun vs h1 h2 h3 => R.news w rs vs (4 * d) s ρ hR h1 h2 h3 h.grown.size (hoff vs)
    split at hr
    ·rename_i i hi
     simp only [Option.some.injEq] at hr; subst hr
     obtain ⟨e, sz, k, cc, rfl⟩ := ZKG hi
     have hres' : TRel w w' (.s e sz k cc) rv := hres
     obtain ⟨ρ', h1, h2, h3⟩ := key [rv] ⟨hres', True.intro⟩ ⟨fun _ _ => True.intro, True.intro⟩ hf
     rw [hi] at h2
     exact ⟨ρ', h1.put hd (.inr h2.1)⟩
    ·rename_i l hl
     simp only [Option.some.injEq] at hr; subst hr
     obtain ⟨vs, rfl, hall, hap⟩ := ZOD (ZIL hv) (fun j e => hl j e) hres
     obtain ⟨ρ', h1, h2, h3⟩ := key vs hall hap hf
     exact ⟨ρ', h1.put hd (.inr ⟨vs, rfl, h2⟩)⟩
   ·cases hr
end

section
variable {P : Program} {S : Sums} {W : World} {M : MV} {n : Nat} {s : FSt} {a : Act} {w w' : World} {ρ ρ' : Nat -> Value} {H : Nat -> Option Blk} {o : Oper} {r : Out} {Q : Exit -> Act -> World -> Prop} {K : Act -> World -> Prop}
theorem ZDO {c : Call} {f : Operand} {g : Nat} {caps : Array Value} {ty : TypeId} (hc : c.callee = .value f) (hf : a.eval f = .func (.func g) #[] caps) (w : World) :
  (resolve a.eval c ty).run P w = .ok { target := .fn (.func g) caps, args := c.args.map a.eval } w := by
 unfold resolve
 rw [hc]
 dsimp only
 rw [hf]
 unfold Deferred.ofValue
 dsimp only
 simp
theorem ZjJ {c : Call} {f : Operand} {g : Nat} {caps : Array Value} (ho : o.op = .call c) (hc : c.callee = .value f) (hf : a.eval f = .func (.func g) #[] caps) (hcall : ∀ (args : Array Value) (w : World), (callFunc g args).run P w = .ok (.enter g args) w)
  {R : Value -> World -> Prop} (h : Calls P g (c.args.map a.eval ++ caps) w fun e w' => ∃ rv, e = .returned rv /\ R rv w') (hk : ∀ rv w', R rv w' -> K (a.put o.dst rv) w') : o.wp P a w K Q := by
 have hrun : (execOp a.eval o).run P w = .ok (.enter g (c.args.map a.eval ++ caps)) w := by
  simp only [execOp, ho]
  rw [Zq (ZDO hc hf w)]
  unfold invoke
  dsimp only
  exact hcall _ _
 unfold Oper.wp
 rw [hrun]
 refine h.mono fun e w' ⟨rv, he, hr⟩ => ?_
 subst he
 exact hk rv w' hr
theorem ZwN {f : Operand -> Option PV} (h : R P W M n s a w ρ) : ∀ {l : List Operand} {m : List PV}, Z2m f l = some m -> (∀ x pv, f x = some pv -> Z7T P w pv (a.eval x)) -> All2 (Z7T P w) m (l.map a.eval)
 | [], m, hl, _ => by simp only [Z2m, Option.some.injEq] at hl; subst hl; exact True.intro
 | x :: l, m, hl, hf => by
  simp only [Z2m] at hl
  split at hl
  ·rename_i b hb
   split at hl
   ·rename_i m' hm
    simp only [Option.some.injEq] at hl; subst hl
    exact ⟨hf x b hb, ZwN h hm hf⟩
   ·cases hl
  ·cases hl
theorem R.write' (h : R P W M n s a w ρ) {i : Nat} {b b' : Blk} {w' : World} (hi : s.heap i = some b) (hob : ownB b = true) (hob' : ownB b' = true) (hown : ∀ g, Z2Q (ρ i) = some g -> Own W M g) (hg : w.grownBy w' (Z2Q (ρ i)))
  (hb : BRel P W M w' ρ s.heap i b') : R P W M n (s.set i b') a w' ρ := by
 have hm : ∀ id, (s.heap id).isSome = true -> ((s.set i b').heap id).isSome = true /\ ρ id = ρ id := by
  intro id hid
  refine ⟨?_, rfl⟩
  show (bif Nat.beq id i then some b' else s.heap id).isSome = true
  cases Nat.beq id i
  ·exact hid
  ·rfl
 have hheap : ∀ id c, (s.set i b').heap id = some c -> (id = i /\ c = b') \/ (id ≠ i /\ s.heap id = some c) := by
  intro id c hc
  by_cases e : id = i
  ·subst e
   have : Nat.beq id id = true := by simp
   simp only [FSt.set, this, cond_true, Option.some.injEq] at hc
   exact .inl ⟨rfl, hc.symm⟩
  ·have : Nat.beq id i = false := nbeq e
   simp only [FSt.set, this, cond_false] at hc
   exact .inr ⟨e, hc⟩
 refine ⟨Zbg h.grown hg hown, h.size, h.defers, fun t => (h.slots t).mono hm, fun id c hc => ?_, fun x y bx by_ g' hxy hx hy ox oy gx => ?_, fun v0 hv0 => ⟨(h.fix v0 hv0).1, ⟨(hm 0 (h.fix v0 hv0).2.1.1).1, (h.fix v0 hv0).2.1.2⟩, fun u hu => ⟨(hm 1 ((h.fix v0 hv0).2.2 u hu).1).1, ((h.fix v0 hv0).2.2 u hu).2⟩⟩⟩
 ·rcases hheap id c hc with ⟨rfl, rfl⟩ | ⟨hne, hc⟩
  ·exact hb.mono hm rfl
  ·refine ((h.heap id c hc).grown hg fun oc g' hg' e => ?_).mono hm rfl
   exact h.apart i id b c g' (Ne.symm hne) hi hc hob oc e hg'
 ·rcases hheap x bx hx with ⟨rfl, rfl⟩ | ⟨hnx, hx'⟩ <;> rcases hheap y by_ hy with ⟨rfl, rfl⟩ | ⟨hny, hy'⟩
  ·exact absurd rfl hxy
  ·exact h.apart _ _ _ _ g' hxy hi hy' hob oy gx
  ·exact h.apart _ _ _ _ g' hxy hx' hi ox hob gx
  ·exact h.apart _ _ _ _ g' hxy hx' hy' ox oy gx
theorem Zn9 (h : R P W M n s a w ρ) : ∀ (l : List Operand), All2 (Rel P W M ρ s.heap) (l.map s.ev) (l.map a.eval)
 | [] => True.intro
 | x :: l => ⟨h.ev x, Zn9 h l⟩
theorem ZO1 (hS : Zc6 P S W M) (h : R P W M n s a w ρ) (hd : Z0F n o.dst = true) {c : Call} {f : Operand} (ho : o.op = .call c) (hc : c.callee = .value f) {run : MRun} (hm : ZgQ S f = some (.row run))
  (hr : ZBB s run (c.args.toList.map s.ev) = some r) (Z1b : r.chk = true) : Goal P W M n o s r a w Q := by
 cases f with
 | func g =>
  have hrun : S.m g = some (.row run) := hm
  obtain ⟨hcall, hsound⟩ := hS.1.2 g _ hrun
  have hsound : ZNm P g run := hsound
  have hrel := h.ev (.func g)
  obtain ⟨vs0, hfe, hcaps⟩ := (show ∃ vs : List Value, a.eval (.func g) = .func (.func g) #[] vs.toArray /\ All2 (CapRel ρ s.heap) [] vs from hrel)
  obtain rfl : vs0 = [] := by
   cases vs0 with
   | nil => rfl
   | cons x l => cases hcaps
  have hargs := Zn9 h c.args.toList
  unfold ZBB at hr
  split at hr
  ·rename_i id xs hev
   rw [hev] at hargs
   split at hr
   ·rename_i e sz m cl vs hb hvs
    split at hr
    ·rename_i ok rv c' hres
     simp only [Option.some.injEq] at hr; subst hr
     obtain rfl : ok = true := Z1b
     obtain ⟨k1, k2, k3⟩ := h.heap id _ hb
     cases hal : c.args.toList.map a.eval with
     | nil => rw [hal] at hargs; cases hargs
     | cons v0 l0 =>
      rw [hal] at hargs
      obtain ⟨⟨_, hv0⟩, hl0⟩ := hargs
      have hl0 := Zo1 hvs hl0
      subst hv0; subst hl0
      have hcalls := hsound w e sz m cl (ρ id) _ rv c' (h.gok hS.2) (fun g hg => Own.far hS.2 (k3 g hg)) k1 k2 hres
      rw [show (ρ id :: l0).toArray = c.args.map a.eval ++ (#[] : Array Value) from by rw [<- hal]; apply Array.toList_inj.1; simp] at hcalls
      refine ZjJ (R := fun v w' => v = rv /\ c'.ok /\ w'.ownsRow 0 e sz (ρ id) m c'.toVals /\ w.grownBy w' (Z2Q (ρ id))) ho hc hfe hcall (hcalls.mono fun x w' ⟨h1, h2⟩ => ⟨rv, h1, rfl, h2⟩) fun v w' ⟨h1, h2, h3, h4⟩ => ⟨ρ, ?_⟩
      subst h1
      exact (h.write' (b' := .row e sz m c') hb rfl rfl k3 h4 ⟨h2, h3, k3⟩).put hd (.inr rfl)
    ·cases hr
   ·cases hr
  ·cases hr
 | tmp t => exact absurd hm (by unfold ZgQ; cases S.k <;> simp)
 | const v => cases hm
 | global g => cases hm
theorem ZHb (h : R P W M n s a w ρ) {id m : Nat} {c : Cells} (hb : s.heap id = some (.ros m c)) {b : Nat} (hown : Own W M b) : Z3i w (some b) (ρ id) m c := by
 have k : Z3i W (mB M) (ρ id) m c := h.heap id _ hb
 refine ⟨k.1, ?_⟩
 rcases k.2 with h0 | ⟨g, o, cap, h1, h2, h3, h4⟩
 ·exact .inl h0
 ·refine .inr ⟨g, o, cap, h1, h2, ⟨fun e => ?_, Nat.lt_of_lt_of_le h3.2 h.grown.size⟩, fun j u hu => World.grownBy.cell h.grown (h4 j u hu) (fun e => h3.1 e.symm)⟩
  obtain rfl : b = g := by simpa using e
  rcases hown with ho | ho
  ·have := h3.2; omega
  ·exact h3.1 ho
theorem ZM6 (h : R P W M n s a w ρ) {id jd e z m b : Nat} {c : Cells} {B : Blk} (hb' : s.heap jd = some (.row e z m c)) (hb : s.heap id = some B) (hob : ownB B = true) (hg : Z2Q (ρ id) = some b) (hne : jd ≠ id) : Z3i w (some b) (ρ jd) m c := by
 have k := ZiD h hb'
 refine ⟨k.1, ?_⟩
 rcases k.2 with h0 | ⟨g, o, cap, h1, h2, h3, h4⟩
 ·exact .inl h0
 ·refine .inr ⟨g, o, cap, h1, h2, ⟨fun e' => ?_, h3.2⟩, h4⟩
  obtain rfl : b = g := by simpa using e'
  exact h.apart jd id _ B b hne hb' hb rfl hob (by rw [h1]; rfl) hg
theorem ZN7 (h : R P W M n s a w ρ) (hd : Z0F n o.dst = true) {d m id : Nat} {cl : Cells} {e : TypeId} {vals : List Value} (hdst : o.dst = some d) (hb : s.heap id = some (.ros m cl))
  (hf : s.fresh [(4 * d, .box e (.row id :: vals.map SV.val))] = true) {b : Nat} {w' : World} (h2 : w.heap.size <= b) (h3 : w'.heap[b]? = some (.cells (ρ id :: vals).toArray e (0, 0))) (hg : w.grownBy w' none) :
  ∃ ρ', R P W M n (s.apply o.dst ⟨true, .ptr (4 * d) 0, [(4 * d, .box e (.row id :: vals.map SV.val))], none, none⟩) (a.put o.dst (.pointer (some ⟨b, 0, none⟩))) w' ρ' := by
 have hi := ZAW hf
 have hne : id ≠ 4 * d := by rintro rfl; rw [hb] at hi; cases hi
 have hset : (s.set (4 * d) (.box e (.row id :: vals.map SV.val))).heap (4 * d) = some (.box e (.row id :: vals.map SV.val)) := by
  show (bif Nat.beq (4 * d) (4 * d) then _ else _) = _
  simp
 have hbr : BRel P W M w' (fun x => if x = 4 * d then .pointer (some ⟨b, 0, none⟩) else ρ x) (s.set (4 * d) (.box e (.row id :: vals.map SV.val))).heap (4 * d) (.box e (.row id :: vals.map SV.val)) := by
  refine ⟨b, _, if_pos rfl, .inl (Nat.le_trans h.grown.size h2), h3, ⟨?_, ?_⟩, ZBz vals⟩
  ·show (bif Nat.beq id (4 * d) then _ else s.heap id).isSome = true
   rw [nbeq hne, cond_false, hb]; rfl
  ·show ρ id = if id = 4 * d then _ else ρ id
   rw [if_neg hne]
 exact ⟨_, R.put (R.new (h.ext hg) hi hbr fun ob g hgu j bj hj oj gj => by
  have := ZH1 (h.heap j bj hj) oj gj
  have hbg : b = g := by simpa [Z2Q, atOf] using hgu
  omega) hd (.inr ⟨by
   show (bif Nat.beq (4 * d) (4 * d) then some _ else s.heap (4 * d)).isSome = true
   simp, b, 0, by simp [atOf], rfl⟩)⟩
theorem ZNA (h : R P W M n s a w ρ) {g : Nat} (hown : Own W M g) {x : SV} {bc : BC} (hx : bcOf s.heap x = some bc) {v : Value} (hv : Rel P W M ρ s.heap x v) : BCRel w g bc v := by
 unfold bcOf at hx
 split at hx
 ·simp only [Option.some.injEq] at hx; subst hx; exact hv
 ·rename_i id
  split at hx
  ·rename_i m c hb
   simp only [Option.some.injEq] at hx; subst hx
   obtain ⟨_, rfl⟩ := hv
   exact ZHb h hb hown
  ·cases hx
 ·cases hx
theorem All2.ofOpt {α β γ : Type} {f : α -> Option β} {R1 : α -> γ -> Prop} {R2 : β -> γ -> Prop} (hf : ∀ x y v, f x = some y -> R1 x v -> R2 y v) : ∀ {l : List α} {m : List β} {vs : List γ}, Z2m f l = some m -> All2 R1 l vs -> All2 R2 m vs
 | [], m, [], h, _ => by simp only [Z2m, Option.some.injEq] at h; subst h; exact True.intro
 | x :: l, m, v :: vs, h, hr => by
  simp only [Z2m] at h
  split at h
  ·rename_i y hy
   split at h
   ·rename_i m' hm
    simp only [Option.some.injEq] at h; subst h
    exact ⟨hf x y v hy hr.1, All2.ofOpt hf hm hr.2⟩
   ·cases h
  ·cases h
theorem ZnO {ρ : Nat -> Value} {H : Nat -> Option Blk} : ∀ {bcs bcs' : List BC} {cells : List SV} {vs : List Value}, Zpj bcs bcs' = true -> bcs.length = cells.length -> All2 (Rel P W M ρ H) cells vs -> All2 (Rel P W M ρ H) (Zjh cells bcs') (newC bcs' vs)
 | [], [], [], [], _, _, _ => True.intro
 | .v _ :: bs, .v x :: bs', _ :: cs, _ :: vs, h, hl, hr => ⟨rfl, ZnO (bcs := bs) h (by simpa using hl) hr.2⟩
 | .s _ _ :: bs, .s _ _ :: bs', c :: cs, v :: vs, h, hl, hr => ⟨hr.1, ZnO (bcs := bs) h (by simpa using hl) hr.2⟩
theorem Zqx {α β : Type} {f : α -> Option β} : ∀ {l : List α} {m : List β}, Z2m f l = some m -> m.length = l.length
 | [], m, h => by simp only [Z2m, Option.some.injEq] at h; subst h; rfl
 | x :: l, m, h => by
  simp only [Z2m] at h
  split at h
  ·split at h
   ·rename_i m' hm
    simp only [Option.some.injEq] at h; subst h
    simp [Zqx hm]
   ·cases h
  ·cases h
theorem ZJg {ρ : Nat -> Value} {H : Nat -> Option Blk} (l : List Value) : Rel P W M ρ H (retV l) (Zpi l) := by
 have tr : ∀ l : List Value, All2 (TIRel ρ H) (l.map TI.v) l := by
  intro l
  induction l with
  | nil => exact True.intro
  | cons x l ih => exact ⟨rfl, ih⟩
 match l with
 | [] => exact ⟨[], rfl, tr []⟩
 | [x] => exact rfl
 | x :: y :: l => exact ⟨_, rfl, tr _⟩
theorem ZGK (hS : Zc6 P S W M) (h : R P W M n s a w ρ) (hd : Z0F n o.dst = true) {c : Call} {f : Operand} (ho : o.op = .call c) (hc : c.callee = .value f) {run : PRun} (hm : ZgQ S f = some (.box run))
  (hr : Zdh s run (c.args.toList.map s.ev) = some r) (Z1b : r.chk = true) : Goal P W M n o s r a w Q := by
 cases f with
 | func g =>
  have hrun : S.m g = some (.box run) := hm
  obtain ⟨hcall, hsound⟩ := hS.1.2 g _ hrun
  have hsound : Zag P g run := hsound
  have hrel := h.ev (.func g)
  obtain ⟨vs0, hfe, hcaps⟩ := (show ∃ vs : List Value, a.eval (.func g) = .func (.func g) #[] vs.toArray /\ All2 (CapRel ρ s.heap) [] vs from hrel)
  obtain rfl : vs0 = [] := by
   cases vs0 with
   | nil => rfl
   | cons x l => cases hcaps
  have hargs := Zn9 h c.args.toList
  unfold Zdh at hr
  split at hr
  ·rename_i id xs hev
   rw [hev] at hargs
   split at hr
   ·rename_i e cells hb
    split at hr
    ·rename_i bcs pvs hbcs hpvs
     split at hr
     ·rename_i ok rs bcs' hres
      split at hr
      ·rename_i hsame
       simp only [Option.some.injEq] at hr; subst hr
       obtain rfl : ok = true := Z1b
       obtain ⟨b, cs, k1, k2, k3, k4⟩ := h.heap id _ hb
       cases hal : c.args.toList.map a.eval with
       | nil => rw [hal] at hargs; cases hargs
       | cons v0 l0 =>
        rw [hal] at hargs
        obtain ⟨⟨_, g', o', hat, hv0⟩, hl0⟩ := hargs
        rw [k1] at hat
        obtain ⟨rfl, rfl⟩ : b = g' /\ 0 = o' := by simpa [atOf] using hat
        obtain rfl : v0 = .pointer (some ⟨b, 0, none⟩) := hv0
        have hbc : All2 (BCRel w b) bcs cs.toList := All2.ofOpt (R2 := BCRel w b) (fun x y v hx hv => ZNA h k2 hx hv) hbcs k4
        have hpv : All2 (ArgB w b) pvs l0 := All2.ofOpt (R2 := ArgB w b) (fun x y v hx hv => by
         unfold pvB at hx
         split at hx
         ·simp only [Option.some.injEq] at hx; subst hx; exact hv
         ·rename_i jd
          obtain ⟨_, rfl⟩ := hv
          split at hx
          ·rename_i m c hb'
           simp only [Option.some.injEq] at hx; subst hx
           exact ZHb h hb' k2
          ·rename_i e' z m c hb'
           simp only [Option.some.injEq] at hx; subst hx
           exact ZM6 h hb' hb rfl (by rw [k1]; rfl) (by rintro rfl; rw [hb] at hb'; cases hb')
          ·cases hx
         ·cases hx) hpvs hl0
        have hcalls := hsound w e b cs bcs pvs l0 rs bcs' (h.gok hS.2) (Own.far hS.2 k2) k3 hbc hpv hres hsame
        rw [show (Value.pointer (some ⟨b, 0, none⟩) :: l0).toArray = c.args.map a.eval ++ (#[] : Array Value) from by rw [<- hal]; apply Array.toList_inj.1; simp] at hcalls
        refine ZjJ (R := fun v w' => v = Zpi rs /\ w'.heap[b]? = some (.cells (newC bcs' cs.toList).toArray e (0, 0)) /\ w.grownBy w' (some b)) ho hc hfe hcall (hcalls.mono fun x w' ⟨h1, h2⟩ => ⟨_, h1, rfl, h2⟩) fun v w' ⟨h1, h2, h3⟩ => ⟨ρ, ?_⟩
        subst h1
        refine (h.write' (b' := .box e (Zjh cells bcs')) hb rfl rfl (fun g hg => ?_) (by rw [k1]; exact h3) ⟨b, _, k1, k2, h2, ZnO hsame (Zqx hbcs) k4⟩).put hd (.inr (ZJg rs))
        rw [k1] at hg
        obtain rfl : b = g := by simpa [Z2Q, atOf] using hg
        exact k2
      ·cases hr
     ·cases hr
    ·cases hr
   ·cases hr
  ·cases hr
 | tmp t => exact absurd hm (by unfold ZgQ; cases S.k <;> simp)
 | const v => cases hm
 | global g => cases hm
theorem ZO2 (hS : Zc6 P S W M) (h : R P W M n s a w ρ) (hd : Z0F n o.dst = true) {c : Call} {f : Operand} (ho : o.op = .call c) (hc : c.callee = .value f) {run : BRun} (hm : ZgQ S f = some (.src run))
  (hr : ZBR s o.dst run (c.args.toList.map s.ev) = some r) (Z1b : r.chk = true) (hf : s.fresh r.news = true) : Goal P W M n o s r a w Q := by
 cases f with
 | func g =>
  have hrun : S.m g = some (.src run) := hm
  obtain ⟨hcall, hsound⟩ := hS.1.2 g _ hrun
  have hsound : ZFS P g run := hsound
  have hrel := h.ev (.func g)
  obtain ⟨vs0, hfe, hcaps⟩ := (show ∃ vs : List Value, a.eval (.func g) = .func (.func g) #[] vs.toArray /\ All2 (CapRel ρ s.heap) [] vs from hrel)
  obtain rfl : vs0 = [] := by
   cases vs0 with
   | nil => rfl
   | cons x l => cases hcaps
  have hargs := Zn9 h c.args.toList
  unfold ZBR at hr
  split at hr
  ·rename_i id hev
   rw [hev] at hargs
   split at hr
   ·rename_i m cl d hb hdst
    split at hr
    ·rename_i ok e vals hres
     simp only [Option.some.injEq] at hr; subst hr
     obtain rfl : ok = true := Z1b
     cases hal : c.args.toList.map a.eval with
     | nil => rw [hal] at hargs; cases hargs
     | cons v0 l0 =>
      rw [hal] at hargs
      obtain ⟨⟨hlive, hv0⟩, hl0⟩ := hargs
      cases l0 with
      | cons x l => cases hl0
      | nil =>
       subst hv0
       have hcalls := hsound w m cl (ρ id) e vals (h.gok hS.2) (Zkt h hb) hres
       rw [show [ρ id].toArray = c.args.map a.eval ++ (#[] : Array Value) from by rw [<- hal]; apply Array.toList_inj.1; simp] at hcalls
       refine ZjJ (R := fun v w' => ∃ b, v = .pointer (some ⟨b, 0, none⟩) /\ w.heap.size <= b /\ w'.heap[b]? = some (.cells (ρ id :: vals).toArray e (0, 0)) /\ w.grownBy w' none) ho hc hfe hcall (hcalls.mono fun x w' ⟨b, h1, h2⟩ => ⟨_, h1, b, rfl, h2⟩) fun v w' ⟨b, h1, h2, h3, h4⟩ => ?_
       subst h1
       exact ZN7 h hd hdst hb hf h2 h3 h4
    ·cases hr
   ·cases hr
  ·cases hr
 | tmp t => exact absurd hm (by unfold ZgQ; cases S.k <;> simp)
 | const v => cases hm
 | global g => cases hm
theorem ZGL (hS : Zc6 P S W M) (h : R P W M n s a w ρ) (hd : Z0F n o.dst = true) {c : Call} {f : Operand} (ho : o.op = .call c) (hc : c.callee = .value f)
  (hr : ZA9 S s (s.ev f) (c.args.toList.map s.ev) = some r) (Z1b : r.chk = true) : Goal P W M n o s r a w Q := by
 have hfrel := h.ev f
 generalize hfe : s.ev f = F at hr hfrel
 have hargs := Zn9 h c.args.toList
 unfold ZA9 at hr
 split at hr
 ·rename_i xs0 g ib
  split at hr
  ·rename_i run hrun
   split at hr
   ·rename_i eb id hib
    obtain ⟨hcall, hsound⟩ := hS.1.2 g _ hrun
    have hsound : ZFT P g run := hsound
    obtain ⟨vs0, hfv, hcaps⟩ := (show ∃ vs : List Value, a.eval f = .func (.func g) #[] vs.toArray /\ All2 (CapRel ρ s.heap) [ib] vs from hfrel)
    obtain ⟨vc, rfl, _, g', o', hat, rfl⟩ : ∃ vc, vs0 = [vc] /\ CapRel ρ s.heap ib vc := by
     match vs0, hcaps with
     | [vc], hcaps => exact ⟨vc, rfl, hcaps.1⟩
    obtain ⟨gb, csb, j1, j2, j3, j4⟩ := h.heap ib _ hib
    rw [j1] at hat
    obtain ⟨rfl, rfl⟩ : gb = g' /\ 0 = o' := by simpa [atOf] using hat
    unfold Zdh at hr
    split at hr
    ·rename_i id' xs hev
     simp only [List.cons.injEq, SV.ptr.injEq] at hev
     obtain ⟨⟨rfl, _⟩, rfl⟩ := hev
     split at hr
     ·rename_i e cells hb
      split at hr
      ·rename_i bcs pvs hbcs hpvs
       split at hr
       ·rename_i ok rs bcs' hres
        split at hr
        ·rename_i hsame
         simp only [Option.some.injEq] at hr; subst hr
         obtain rfl : ok = true := Z1b
         obtain ⟨b, cs, k1, k2, k3, k4⟩ := h.heap id _ hb
         have hne : ib ≠ id := by
          rintro rfl
          rw [hib] at hb
          simp only [Option.some.injEq, Blk.box.injEq] at hb
          obtain ⟨_, rfl⟩ := hb
          simp [Z2m, bcOf] at hbcs
         have hgb : gb ≠ b := fun e' => h.apart ib id _ _ gb hne hib hb rfl rfl (by rw [j1]; rfl) (by rw [k1, e']; rfl)
         have hcell : w.cell? ⟨gb, 0, none⟩ = some (.pointer (some ⟨b, 0, none⟩)) := by
          obtain ⟨u, hu, _, g2, o2, ha2, hu2⟩ := ZgA h hib (.inr ⟨_, rfl⟩) (by rw [j1]; rfl) 0 _ rfl
          rw [k1] at ha2
          obtain ⟨rfl, rfl⟩ : b = g2 /\ 0 = o2 := by simpa [atOf] using ha2
          rw [hu2] at hu
          exact hu
         have hbc : All2 (BCRel w b) bcs cs.toList := All2.ofOpt (R2 := BCRel w b) (fun x y v hx hv => ZNA h k2 hx hv) hbcs k4
         have hpv : All2 (ArgB w b) pvs (c.args.toList.map a.eval) := All2.ofOpt (R2 := ArgB w b) (fun x y v hx hv => by
          unfold pvB at hx
          split at hx
          ·simp only [Option.some.injEq] at hx; subst hx; exact hv
          ·rename_i jd
           obtain ⟨_, rfl⟩ := hv
           split at hx
           ·rename_i m c hb'
            simp only [Option.some.injEq] at hx; subst hx
            exact ZHb h hb' k2
           ·rename_i e' z m c hb'
            simp only [Option.some.injEq] at hx; subst hx
            exact ZM6 h hb' hb rfl (by rw [k1]; rfl) (by rintro rfl; rw [hb] at hb'; cases hb')
           ·cases hx
          ·cases hx) hpvs hargs
         have hcalls := hsound w e b gb 0 cs bcs pvs _ rs bcs' (h.gok hS.2) (Own.far hS.2 k2) k3 hcell hgb hbc hpv hres hsame
         rw [show (c.args.toList.map a.eval ++ [Value.pointer (some ⟨gb, 0, none⟩)]).toArray = c.args.map a.eval ++ ([Value.pointer (some ⟨gb, 0, none⟩)] : List Value).toArray from by apply Array.toList_inj.1; simp] at hcalls
         refine ZjJ (R := fun v w' => v = Zpi rs /\ w'.heap[b]? = some (.cells (newC bcs' cs.toList).toArray e (0, 0)) /\ w.grownBy w' (some b)) ho hc hfv hcall (hcalls.mono fun x w' ⟨h1, h2⟩ => ⟨_, h1, rfl, h2⟩) fun v w' ⟨h1, h2, h3⟩ => ⟨ρ, ?_⟩
         subst h1
         refine (h.write' (b' := .box e (Zjh cells bcs')) hb rfl rfl (fun g hg => ?_) (by rw [k1]; exact h3) ⟨b, _, k1, k2, h2, ZnO hsame (Zqx hbcs) k4⟩).put hd (.inr (ZJg rs))
         rw [k1] at hg
         obtain rfl : b = g := by simpa [Z2Q, atOf] using hg
         exact k2
        ·cases hr
       ·cases hr
      ·cases hr
     ·cases hr
    ·cases hr
   ·cases hr
  ·cases hr
 ·cases hr
theorem ZO0 (hS : Zc6 P S W M) (h : R P W M n s a w ρ) (hd : Z0F n o.dst = true) {c : Call} {f : Operand} (ho : o.op = .call c) (hc : c.callee = .value f) {run : MFn} (hm : ZgQ S f = some run)
  (hr : ZOo S s o.dst (s.ev f) run (c.args.toList.map s.ev) = some r) (Z1b : r.chk = true) (hf : s.fresh r.news = true) : Goal P W M n o s r a w Q := by
 cases run with
 | row run => exact ZO1 hS h hd ho hc hm hr Z1b
 | box run => exact ZGK hS h hd ho hc hm hr Z1b
 | src run => exact ZO2 hS h hd ho hc hm hr Z1b hf
 | cap run => exact ZGL hS h hd ho hc hr Z1b
theorem ZMK (hS : Zc6 P S W M) (h : R P W M n s a w ρ) (hd : Z0F n o.dst = true) {c : Call} {f : Operand} (ho : o.op = .call c) (hc : c.callee = .value f)
  (hr : (match s.ev f with
   | .clo g caps => match S.f g, Z2m (fun x => PVof s.heap (ZhF S s.heap) (s.ev x)) c.args.toList, Z2m (Zpc s.heap) caps with
    | some run, some args, some cs => match run (args ++ cs) with
     | some (ok, rs) => Zll o.dst ok rs
     | none => none
    | _, _, _ => none
   | .fn g => match SV.vals (c.args.toList.map s.ev) with
    | some args => match g args with
     | some (ok, r) => Zll o.dst ok [.v r]
     | none => none
    | none => none
   | _ => none) = some r) (Z1b : r.chk = true) (hf : s.fresh r.news = true) : Goal P W M n o s r a w Q := by
 have hrel := h.ev f
 split at hr
 ·rename_i g caps hev
  rw [hev] at hrel
  obtain ⟨vs, hfe, hcaps⟩ := hrel
  split at hr
  ·rename_i run args cs hrun hargs hcs
   split at hr
   ·rename_i ok rs hres
    obtain ⟨_, _, hck⟩ := Zqy hr
    obtain rfl : ok = true := by rw [<- hck]; exact Z1b
    obtain ⟨hcall, hsound⟩ := hS.1.1 g run hrun
    have hall : All2 (Z7T P w) (args ++ cs) (c.args.toList.map a.eval ++ vs) :=
     All2.app (ZwN h hargs fun x pv hx => ZL5 hS h (h.ev x) hx) (All2.join (T := Z7T P w) (fun id pv x (hp : Zpc s.heap id = some pv) (hx : CapRel ρ s.heap id x) => ZI1 h (World.grownBy.refl w none) hx hp) (Zeu hcs) hcaps)
    have hcalls := hsound w _ _ rs (h.gok hS.2) hall hres
    rw [show (c.args.toList.map a.eval ++ vs).toArray = c.args.map a.eval ++ vs.toArray from by apply Array.toList_inj.1; simp] at hcalls
    exact ZjJ ho hc hfe hcall hcalls fun rv w' ⟨h1, h2⟩ => ZA4 h hd hr hf h2 h1
   ·cases hr
  ·cases hr
 ·rename_i g hev
  rw [hev] at hrel
  obtain ⟨fid, caps, hfe, hcall, hsound⟩ := hrel
  split at hr
  ·rename_i args hargs
   split at hr
   ·rename_i ok rv hg
    obtain ⟨_, _, hck⟩ := Zqy hr
    obtain rfl : ok = true := by rw [<- hck]; exact Z1b
    have hargs' : c.args.toList.map a.eval = args := by
     have hall : All2 (Rel P W M ρ s.heap) (c.args.toList.map s.ev) (c.args.toList.map a.eval) := by
      clear hargs hr ho hc hg
      generalize c.args.toList = l
      induction l with
      | nil => exact True.intro
      | cons x l ih => exact ⟨h.ev x, ih⟩
     exact Zo1 hargs hall
    have hcalls := hsound w h.grown args rv hg
    rw [show args.toArray ++ caps = c.args.map a.eval ++ caps from by rw [<- hargs']; apply Array.toList_inj.1; simp] at hcalls
    refine ZjJ (R := fun v w' => v = rv /\ w.grownBy w' none) ho hc hfe hcall (hcalls.mono fun e w' ⟨h1, h2⟩ => ⟨rv, h1, rfl, h2⟩) fun v w' ⟨h1, h2⟩ => ?_
    subst h1
    exact ZA4 h hd hr hf h2 rfl
   ·cases hr
  ·cases hr
 ·cases hr
theorem ZAX {id : Nat} : ∀ {l : List (Nat × Blk)}, s.fresh l = true -> (s.kill id).fresh l = true
 | [], _ => rfl
 | (i, b) :: l, h => by
  obtain ⟨h1, h2⟩ := Zq6 h
  have : (s.kill id).heap i = none := by
   show (bif Nat.beq i id then none else match s.heap i with | some b => some (ZmV id b) | none => none) = none
   rw [h1]
   cases Nat.beq i id <;> rfl
  simp only [FSt.fresh, this]
  exact ZAX h2
theorem ZQo (hS : Zc6 P S W M) (h : R P W M n s a w ρ) (hd : Z0F n o.dst = true) (hr : Z3j P S s o = some r) (Z1b : r.chk = true) (hf : s.fresh r.news = true) : Goal P W M n o s r a w Q := by
 have hdep : 2 <= P.depth := by unfold Program.depth; omega
 unfold Z3j at hr
 cases ho : o.op <;> rw [ho] at hr <;> dsimp only at hr
 case move x => exact ZET h hd (.inl ho) hr
 case assign x => exact ZET h hd (.inr ho) hr
 case pick c x y => exact ZMM h hd ho hr
 case alloc e => exact ZKe h hd ho hr hf
 case box e x => exact ZNW h hd ho hr hf
 case buildSlice t len parts => exact Zy1 h hd ho hr hf
 case load t x =>
  cases hg : ZmP x with
  | some g =>
   rw [hg] at hr
   have hx := ZIF hg
   subst hx
   exact ZKf hS.2 h hd ho hr
  | none => rw [hg] at hr; exact ZML h hd ho hr Z1b
 case store t x y =>
  cases hdst : o.dst with
  | some d => rw [hdst] at hr; cases hr
  | none => rw [hdst] at hr; exact ZKi h hd ho hr Z1b hdst
 case binOp op t x y u => exact ZNV h hd ho (fun k hk => ZGa hk hdep) hr Z1b
 case unOp op t x => exact ZgK h hd (.inr (.inl ⟨_, _, _, ho⟩)) hr
 case build t ps =>
  split at hr
  ·rename_i r' hr'
   simp only [Option.some.injEq] at hr; subst hr
   exact ZNU h hd ho hr'
  ·exact ZgK h hd (.inr (.inr (.inl ⟨_, _, ho⟩))) hr
 case field t x f => exact ZgK h hd (.inr (.inr (.inr (.inl ⟨_, _, _, ho⟩)))) hr
 case convert t u x =>
  cases hx : s.ev x with
  | row id => rw [hx] at hr; exact ZKj h hd ho hx hr Z1b
  | _ => rw [hx] at hr; exact ZgK h hd (.inr (.inr (.inr (.inr ⟨_, _, _, ho⟩)))) hr
 case makeFunc fn first captured =>
  cases fn <;> dsimp only at hr <;> try (cases hr; done)
  exact ZDD h hd ho hr
 case makeSlice t x y => exact ZB0 h hd ho hr Z1b hf
 case fieldAddr t x f => exact ZAY h hd ho hr
 case indexAddr t x i => exact ZAZ h hd ho hr Z1b
 case index t x i => exact ZKg h hd ho hr Z1b
 case slice t x lo hi mx => exact ZKh h hd hr Z1b ho
 case nilCheck x => exact ZDE h hd ho hr
 case sliceToArrayPointer t x => exact ZDF h hd ho hr Z1b
 case extract x i => exact ZGM h hd ho hr
 case call c =>
  cases hc : c.callee with
  | value f =>
   rw [hc] at hr
   dsimp only at hr
   cases hm : ZgQ S f with
   | some run => rw [hm] at hr; exact ZO0 hS h hd ho hc hm hr Z1b hf
   | none => rw [hm] at hr; exact ZMK hS h hd ho hc hr Z1b hf
  | invoke x m => rw [hc] at hr; cases hr
  | builtin b =>
   rw [hc] at hr
   cases b <;> dsimp only at hr <;> try (cases hr; done)
   case len => exact ZNX h hd ho hc hr
   case max => exact ZNY h hd ho hc hr
   case min => exact ZNZ h hd ho hc hr
   case append =>
    refine ZIG hS.2 h hd ho hc hr Z1b ?_
    cases hdr : r.drop with
    | none => exact hf
    | some id => exact ZAX hf
 all_goals cases hr
end

def SVok (H : Nat -> Option Blk) : SV -> Prop
 | .ptr id _ => (H id).isSome = true
 | .row id => (H id).isSome = true
 | .sub id _ _ _ => (H id).isSome = true
 | .clo _ l => ∀ i ∈ l, (H i).isSome = true
 | .tup l => ∀ id, TI.r id ∈ l -> (H id).isSome = true
 | .agr l => ∀ id, TI.r id ∈ l -> (H id).isSome = true
 | _ => True
def Bok (H : Nat -> Option Blk) : Blk -> Prop
 | .box _ l => ∀ v ∈ l, SVok H v
 | .rop l => ∀ v ∈ l, SVok H v
 | _ => True
structure WF (s : FSt) : Prop where
 slots : ∀ t, SVok s.heap (s.slot t)
 heap : ∀ id b, s.heap id = some b -> Bok s.heap b
def Ag (H H' : Nat -> Option Blk) : Prop := ∀ id, (H id).isSome = true -> H' id = H id
def Grow (H H' : Nat -> Option Blk) : Prop := ∀ id, (H id).isSome = true -> (H' id).isSome = true
def cls (S : Sums) (o : Op) : Nat := match o with
 | .move _ | .assign _ | .pick .. | .unOp .. | .binOp .. | .build .. | .field .. | .makeFunc .. | .fieldAddr .. | .nilCheck .. | .index .. | .extract .. => 0
 | .alloc _ | .box .. | .buildSlice .. | .makeSlice .. => 0
 | .load .. | .convert .. | .indexAddr .. | .slice .. | .sliceToArrayPointer .. => 2
 | .call c => match c.callee with
  | .value f => match ZgQ S f with
   | some (.box _) => 3
   | some _ => 4
   | none => 2
  | .builtin .len => 2
  | .builtin .max => 2
  | .builtin .min => 2
  | _ => 4
 | .store .. => 3
 | _ => 4
section
variable {P : Program} {S : Sums} {W : World} {M : MV} {n : Nat} {s s' : FSt} {a : Act} {w w' : World} {ρ ρ' : Nat -> Value} {H H' : Nat -> Option Blk} {o q : Oper} {r : Out}
theorem SVok.grow (h : Grow H H') {x : SV} (k : SVok H x) : SVok H' x := by
 cases x <;> first | exact h _ k | exact fun i hi => h _ (k i hi) | exact k
theorem Bok.grow (h : Grow H H') {b : Blk} (k : Bok H b) : Bok H' b := by
 cases b <;> first | exact fun v hv => (k v hv).grow h | exact k
theorem Rel.ok {x : SV} {v : Value} (h : Rel P W M ρ H x v) : SVok H x := by
 cases x with
 | ptr id off => exact h.1
 | row id => exact h.1
 | sub id off m z => exact h.1
 | clo f l =>
  obtain ⟨vs, hv, hc⟩ := h
  clear hv
  intro i hi
  induction l generalizing vs with
  | nil => cases hi
  | cons c l ih =>
   cases vs with
   | nil => cases hc
   | cons v vs =>
    rcases List.mem_cons.1 hi with rfl | hi
    ·exact hc.1.1
    ·exact ih vs hc.2 hi
 | tup l =>
  obtain ⟨vs, hv, hc⟩ := h
  clear hv
  intro i hi
  induction l generalizing vs with
  | nil => cases hi
  | cons c l ih =>
   cases vs with
   | nil => cases hc
   | cons v vs =>
    rcases List.mem_cons.1 hi with e | hi
    ·rw [<- e] at hc; exact hc.1.1
    ·exact ih vs hc.2 hi
 | agr l =>
  obtain ⟨vs, hv, hc⟩ := h
  clear hv
  intro i hi
  induction l generalizing vs with
  | nil => cases hi
  | cons c l ih =>
   cases vs with
   | nil => cases hc
   | cons v vs =>
    rcases List.mem_cons.1 hi with e | hi
    ·rw [<- e] at hc; exact hc.1.1
    ·exact ih vs hc.2 hi
 | val x => exact True.intro
 | fn g => exact True.intro
 | junk => exact True.intro
theorem R.wf (h : R P W M n s a w ρ) : WF s where
 slots := fun t => (h.slots t).ok
 heap := fun id b hb => by
  have k := h.heap id b hb
  cases b with
  | box e cells =>
   obtain ⟨g, cs, _, _, _, h4⟩ := k
   intro v hv
   obtain ⟨i, hi, rfl⟩ := List.getElem_of_mem hv
   obtain ⟨u, _, hr⟩ := h4.get (i := i) (a := cells[i]) (by simp)
   exact hr.ok
  | rop cells =>
   obtain ⟨g, o, _, _, h3⟩ := k
   intro v hv
   obtain ⟨i, hi, rfl⟩ := List.getElem_of_mem hv
   obtain ⟨u, _, hr⟩ := h3 i cells[i] (by simp)
   exact hr.ok
  | row e z m c => exact True.intro
  | ros m c => exact True.intro
theorem Zv4 {id : Nat} {b : Blk} (h : H id = some b) : (H id).isSome = true := by rw [h]; rfl
theorem ZI0 (ag : Ag H H') (wf : ∀ id b, H id = some b -> Bok H b) {id : Nat} (hl : (H id).isSome = true) : Zpc H' id = Zpc H id := by
 unfold Zpc
 rw [ag id hl]
 cases hb : H id with
 | none => rfl
 | some b =>
  have hok := wf id b hb
  have rowc : ∀ i, (H i).isSome = true -> (match H' i with | some (.row _ _ n c) => some (PV.ps n c) | some (.ros n c) => some (.ps n c) | _ => none) = (match H i with | some (.row _ _ n c) => some (PV.ps n c) | some (.ros n c) => some (.ps n c) | _ => none) := fun i hi => by rw [ag i hi]
  cases b with
  | box e l =>
   match l, hok with
   | [], _ => rfl
   | [.row i], hok => exact rowc i (hok (.row i) (by simp))
   | [.val _], _ => rfl
   | [.ptr _ _], _ => rfl
   | [.sub _ _ _ _], _ => rfl
   | [.clo _ _], _ => rfl
   | [.fn _], _ => rfl
   | [.tup _], _ => rfl
   | [.agr _], _ => rfl
   | [.junk], _ => rfl
   | x :: _ :: _, _ => cases x <;> rfl
  | rop l =>
   match l, hok with
   | [], _ => rfl
   | [.row i], hok => exact rowc i (hok (.row i) (by simp))
   | [.val _], _ => rfl
   | [.ptr _ _], _ => rfl
   | [.sub _ _ _ _], _ => rfl
   | [.clo _ _], _ => rfl
   | [.fn _], _ => rfl
   | [.tup _], _ => rfl
   | [.agr _], _ => rfl
   | [.junk], _ => rfl
   | x :: _ :: _, _ => cases x <;> rfl
  | row e z m c => rfl
  | ros m c => rfl
theorem Z81 {α β : Type} {f g : α -> Option β} : ∀ {l : List α}, (∀ a ∈ l, f a = g a) -> Z2m f l = Z2m g l
 | [], _ => rfl
 | a :: l, h => by
  simp only [Z2m]
  rw [h a (by simp), Z81 fun b hb => h b (by simp [hb])]
theorem ZNI (ag : Ag H H') (wf : ∀ id b, H id = some b -> Bok H b) {f : Nat} {l : List Nat} (hl : ∀ i ∈ l, (H i).isSome = true) : ZhF S H' f l = ZhF S H f l := by
 unfold ZhF
 rw [Z81 fun i hi => ZI0 ag wf (hl i hi)]
theorem ZL4 (ag : Ag H H') (wf : ∀ id b, H id = some b -> Bok H b) {x : SV} (hx : SVok H x) : PVof H' (ZhF S H') x = PVof H (ZhF S H) x := by
 cases x with
 | row id => unfold PVof; dsimp only; rw [ag id hx]
 | sub id off m z => unfold PVof; dsimp only; rw [ag id hx]
 | clo f l => unfold PVof; dsimp only; rw [ZNI ag wf hx]
 | val v =>
  cases v <;> try rfl
  rename_i a m c
  cases a <;> cases m <;> cases c <;> rfl
 | ptr id off => rfl
 | fn g => rfl
 | tup l => rfl
 | agr l => rfl
 | junk => rfl
theorem ZQJ (ag : Ag H H') {ga : Bool} {sz id off : Nat} (hl : (H id).isSome = true) : ld H' ga sz id off = ld H ga sz id off := by
 unfold ld; rw [ag id hl]
theorem ZQO (ag : Ag H H') {sz id off : Nat} {x : SV} (hl : (H id).isSome = true) : st H' sz id off x = st H sz id off x := by
 unfold st; rw [ag id hl]
theorem ZGH {f g : Operand -> Value} (ho : (∃ op t x y u, o.op = .binOp op t x y u) \/ (∃ op t x, o.op = .unOp op t x) \/ (∃ t ps, o.op = .build t ps) \/ (∃ t x f, o.op = .field t x f) \/ (∃ t u x, o.op = .convert t u x))
  (hev : ∀ x ∈ o.op.operands.toList, f x = g x) : execOp f o = execOp g o := by
 rcases ho with ⟨op, t, x, y, u, ho⟩ | ⟨op, t, x, ho⟩ | ⟨t, ps, ho⟩ | ⟨t, x, k, ho⟩ | ⟨t, u, x, ho⟩
 all_goals rw [ho] at hev
 ·have e1 := hev x (by simp [Op.operands]); have e2 := hev y (by simp [Op.operands])
  simp only [execOp, ho, e1, e2]
 ·have e1 := hev x (by simp [Op.operands])
  simp only [execOp, ho, e1]
 ·have e : (ps.map fun (i, x) => (i, f x)) = ps.map fun (i, x) => (i, g x) := by
   apply Array.map_congr_left
   intro p hp
   have := hev p.2 (by simp only [Op.operands]; simp; exact ⟨p.1, by simpa using hp⟩)
   simp [this]
  simp only [execOp, ho]
  rw [e]
 ·have e1 := hev x (by simp [Op.operands])
  simp only [execOp, ho, e1]
 ·have e1 := hev x (by simp [Op.operands])
  simp only [execOp, ho, e1]
theorem Zuq {α : Type} {f g : α -> Bool} : ∀ {l : List α}, (∀ a ∈ l, f a = g a) -> l.all f = l.all g
 | [], _ => rfl
 | a :: l, h => by
  simp only [List.all_cons]
  rw [h a (by simp), Zuq fun b hb => h b (by simp [hb])]
theorem Zn5 (ho : (∃ op t x y u, o.op = .binOp op t x y u) \/ (∃ op t x, o.op = .unOp op t x) \/ (∃ t ps, o.op = .build t ps) \/ (∃ t x f, o.op = .field t x f) \/ (∃ t u x, o.op = .convert t u x))
  (hev : ∀ x ∈ o.op.operands.toList, s'.ev x = s.ev x) : Zn4 P s' o = Zn4 P s o := by
 unfold Zn4
 rw [Zuq (g := fun x => (s.ev x).isVal) fun x hx => by rw [hev x hx], ZGH ho (g := s.evV) fun x hx => by unfold FSt.evV; rw [hev x hx]]
theorem WF.ev (wf : WF s) (x : Operand) : SVok s.heap (s.ev x) := by
 cases x with
 | tmp t => exact wf.slots t
 | const v => exact True.intro
 | global g => exact True.intro
 | func f => exact fun i hi => by cases hi
theorem ZOW {H H' : Nat -> Option Blk} (ag : Ag H H') {x : SV} (k : SVok H x) : bcOf H' x = bcOf H x := by
 cases x with
 | row id => unfold bcOf; dsimp only; rw [ag id k]
 | _ => rfl
theorem ZQt {H H' : Nat -> Option Blk} (ag : Ag H H') {x : SV} (k : SVok H x) : pvB H' x = pvB H x := by
 cases x with
 | row id => unfold pvB; dsimp only; rw [ag id k]
 | _ => rfl
theorem ZMx (ag : Ag s.heap s'.heap) (wf : WF s) {run : PRun} {l : List SV} (hl : ∀ x ∈ l, SVok s.heap x) : Zdh s' run l = Zdh s run l := by
 unfold Zdh
 split
 ·rename_i id xs
  have h0 : s'.heap id = s.heap id := ag id (hl _ List.mem_cons_self)
  rw [h0]
  cases hb : s.heap id with
  | none => rfl
  | some b =>
   cases b with
   | box e cells =>
    dsimp only
    rw [Z81 (g := bcOf s.heap) fun x hx => ZOW ag (wf.heap id _ hb x hx), Z81 (g := pvB s.heap) fun x hx => ZQt ag (hl x (List.mem_cons_of_mem _ hx))]
   | _ => rfl
 ·rfl
theorem ZOt (hev : ∀ x ∈ o.op.operands.toList, s'.ev x = s.ev x) (h : cls S o.op = 0 \/ (Ag s.heap s'.heap /\ WF s)) (hc : cls S o.op ≠ 4) : Z3j P S s' o = Z3j P S s o := by
 unfold Z3j
 cases ho : o.op <;> rw [ho] at hev h hc <;> dsimp only
 case move x => rw [hev x (by simp [Op.operands])]
 case assign x => rw [hev x (by simp [Op.operands])]
 case pick c x y => rw [hev c (by simp [Op.operands]), hev x (by simp [Op.operands]), hev y (by simp [Op.operands])]
 case box e x => rw [hev x (by simp [Op.operands])]
 case buildSlice t len ps =>
  have e1 : (ps.toList.all fun x => (s'.ev x.2).isVal) = ps.toList.all fun x => (s.ev x.2).isVal := Zuq fun x hx => by
   rw [hev x.2 (by simp only [Op.operands]; simp; exact ⟨x.1, by simpa using hx⟩)]
  have e2 : (ps.map fun (i, x) => (i, s'.evV x)) = ps.map fun (i, x) => (i, s.evV x) := by
   apply Array.map_congr_left
   intro p hp
   have := hev p.2 (by simp only [Op.operands]; simp; exact ⟨p.1, by simpa using hp⟩)
   simp [FSt.evV, this]
  rw [e1, e2]
 case load t x =>
  obtain ⟨ag, wf⟩ := h.resolve_left (by simp [cls])
  rw [hev x (by simp [Op.operands])]
  cases ZmP x <;> try rfl
  have hx := wf.ev x
  cases hxe : s.ev x <;> try rfl
  rename_i id off
  rw [hxe] at hx
  try dsimp only
  cases Zt P (isAgg t) <;> try rfl
  cases Zt P (sizeOf t) <;> try rfl
  exact ZQJ ag hx
 case store t x y =>
  obtain ⟨ag, wf⟩ := h.resolve_left (by simp [cls])
  rw [hev x (by simp [Op.operands]), hev y (by simp [Op.operands])]
  have hx := wf.ev x
  cases hxe : s.ev x <;> try rfl
  rename_i id off
  rw [hxe] at hx
  try dsimp only
  cases o.dst <;> try rfl
  cases Zt P (sizeOf t) <;> try rfl
  exact ZQO ag hx
 case binOp op t x y u =>
  unfold ZJ9
  rw [hev x (by simp [Op.operands]), hev y (by simp [Op.operands]), Zn5 (.inl ⟨_, _, _, _, _, ho⟩) (by rw [ho]; exact hev)]
 case unOp op t x => exact Zn5 (.inr (.inl ⟨_, _, _, ho⟩)) (by rw [ho]; exact hev)
 case build t ps =>
  rw [Zn5 (.inr (.inr (.inl ⟨_, _, ho⟩))) (by rw [ho]; exact hev)]
  have hag : ZpJ P s' t ps.toList = ZpJ P s t ps.toList := by
   have hev' : ∀ q ∈ ps.toList, s'.ev q.2 = s.ev q.2 := fun q hq => hev q.2 (by simp only [Op.operands]; simp; exact ⟨q.1, by simpa using hq⟩)
   generalize ps.toList = l at hev'
   cases l with
   | nil => rfl
   | cons q rest =>
    obtain ⟨i, x⟩ := q
    have hx := hev' (i, x) List.mem_cons_self
    dsimp only at hx
    have h1 : (rest.all fun q => (s'.ev q.2).isVal) = rest.all fun q => (s.ev q.2).isVal := by
     rw [Bool.eq_iff_iff, List.all_eq_true, List.all_eq_true]
     exact forall_congr' fun q => forall_congr' fun hq => by rw [hev' q (List.mem_cons_of_mem _ hq)]
    have h2 : (rest.map fun q => (q.1, s'.evV q.2)) = rest.map fun q => (q.1, s.evV q.2) := by
     apply List.map_congr_left
     intro q hq
     unfold FSt.evV
     rw [hev' q (List.mem_cons_of_mem _ hq)]
    unfold ZpJ
    dsimp only
    rw [hx, h1, h2]
  rw [hag]
 case field t x f => exact Zn5 (.inr (.inr (.inr (.inl ⟨_, _, _, ho⟩)))) (by rw [ho]; exact hev)
 case convert t u x =>
  obtain ⟨ag, wf⟩ := h.resolve_left (by simp [cls])
  have hv := Zn5 (P := P) (s := s) (s' := s') (o := o) (.inr (.inr (.inr (.inr ⟨_, _, _, ho⟩)))) (by rw [ho]; exact hev)
  rw [hev x (by simp [Op.operands])]
  have hx := wf.ev x
  generalize s.ev x = X at hx ⊢
  cases X <;> try exact hv
  rename_i id
  simp only [ZJx]
  rw [ag id hx]
 case makeFunc fn first captured =>
  cases fn <;> try rfl
  try dsimp only
  rw [Z81 fun x hx => by rw [hev x (by simp only [Op.operands]; simp; exact .inr (by simpa using hx))]]
 case makeSlice t x y => rw [hev x (by simp [Op.operands]), hev y (by simp [Op.operands])]
 case fieldAddr t x f => rw [hev x (by simp [Op.operands])]
 case index t x i => rw [hev x (by simp [Op.operands]), hev i (by simp [Op.operands])]
 case extract x i => rw [hev x (by simp [Op.operands])]
 case indexAddr t x i =>
  obtain ⟨ag, wf⟩ := h.resolve_left (by simp [cls])
  rw [hev x (by simp [Op.operands]), hev i (by simp [Op.operands])]
  have hx := wf.ev x
  generalize s.ev x = X at hx ⊢
  generalize s.ev i = I
  generalize P.underlying t = D
  cases X <;> try rfl
  all_goals
   cases I <;> try rfl
   rename_i v
   cases v <;> try rfl
   cases D <;> try rfl
   rename_i d
   cases d <;> try rfl
  rename_i id _ _ _
  simp only
  rw [ag id hx]
 case nilCheck x => rw [hev x (by simp [Op.operands])]
 case sliceToArrayPointer t x =>
  obtain ⟨ag, wf⟩ := h.resolve_left (by simp [cls])
  rw [hev x (by simp [Op.operands])]
  have hx := wf.ev x
  generalize s.ev x = X at hx ⊢
  generalize P.underlying t = D
  cases X <;> try rfl
  cases D <;> try rfl
  rename_i d
  cases d <;> try rfl
  rename_i id _ _
  simp only
  rw [ag id hx]
 case slice t x lo hi mx =>
  obtain ⟨ag, wf⟩ := h.resolve_left (by simp [cls])
  rw [hev x (by simp [Op.operands])]
  have hx := wf.ev x
  generalize s.ev x = X at hx ⊢
  generalize P.underlying t = D
  have hh : ∀ y, hi = some y -> s'.ev y = s.ev y := fun y hy => hev y (by simp [Op.operands, hy])
  have hg : ∀ y, lo = some y -> s'.ev y = s.ev y := fun y hy => hev y (by simp [Op.operands, hy])
  have b1 : ∀ d, Zc8 s' d lo = Zc8 s d lo := fun d => by
   cases lo with
   | none => rfl
   | some y => simp only [Zc8, hg y rfl]
  have b2 : ∀ d, Zc8 s' d hi = Zc8 s d hi := fun d => by
   cases hi with
   | none => rfl
   | some y => simp only [Zc8, hh y rfl]
  have b3 : ∀ b, ZeC s' b lo hi = ZeC s b lo hi := fun b => by
   unfold ZeC
   rw [b1, b2]
  have b4 : ∀ id e, (s.heap id).isSome = true -> ZeB P s' id lo hi e = ZeB P s id lo hi e := fun id e hl => by
   unfold ZeB
   rw [ag id hl]
   simp only [b1, b2]
  clear ho hev hg b1 b2
  cases X with
  | row id =>
   have b4 := fun e => b4 id e hx
   cases lo <;> cases hi <;> cases mx <;> try rfl
   all_goals (cases D <;> try rfl)
   all_goals (rename_i d; cases d <;> try rfl)
   all_goals first | (simp only; rw [ag id hx]; done) | (simp only [b4]; done)
  | val v =>
   cases v <;> try rfl
   cases lo <;> cases hi <;> cases mx <;> try rfl
   all_goals (cases D <;> try rfl)
   all_goals (rename_i d; cases d <;> try rfl)
   all_goals (simp only [b3]; done)
  | ptr id off =>
   cases lo <;> cases hi <;> cases mx <;> try rfl
   all_goals (cases D <;> try rfl)
   all_goals (rename_i d; cases d <;> try rfl)
   all_goals (simp only [hh _ rfl]; done)
  | _ => rfl
 case call c =>
  have hargs : ∀ x ∈ c.args.toList, s'.ev x = s.ev x := fun x hx => hev x (by simp only [Op.operands, Call.operands]; simp; exact .inr (by simpa using hx))
  have hmap : c.args.toList.map s'.ev = c.args.toList.map s.ev := List.map_congr_left hargs
  cases hcc : c.callee with
  | value f =>
   cases hm : ZgQ S f with
   | some run =>
    cases run with
    | box run =>
     obtain ⟨ag, wf⟩ := h.resolve_left (by simp [cls, hcc, hm])
     try dsimp only
     rw [hmap, hm]
     exact ZMx ag wf fun x hx => by
      obtain ⟨y, _, rfl⟩ := List.mem_map.1 hx
      exact wf.ev y
    | _ => exact absurd (by simp [cls, hcc, hm]) hc
   | none =>
   obtain ⟨ag, wf⟩ := h.resolve_left (by simp [cls, hcc, hm])
   have hf := hev f (by simp [Op.operands, Call.operands, hcc])
   try dsimp only
   rw [hf, hmap, hm]
   try dsimp only
   have hfx := wf.ev f
   cases hfe : s.ev f <;> try rfl
   rename_i g caps
   rw [hfe] at hfx
   try dsimp only
   rw [Z81 (g := fun x => PVof s.heap (ZhF S s.heap) (s.ev x)) fun x hx => by rw [hargs x hx, ZL4 ag wf.heap (wf.ev x)], Z81 fun i hi => ZI0 ag wf.heap (hfx i hi)]
  | invoke x m => rfl
  | builtin b =>
   cases b <;> try rfl
   ·exact absurd (by simp [cls, hcc]) hc
   ·obtain ⟨ag, wf⟩ := h.resolve_left (by simp [cls, hcc])
    dsimp only
    rw [hmap]
    generalize c.argTypes.toList = ts
    cases hq : c.args.toList with
    | nil => rfl
    | cons X l =>
     have hx := wf.ev X
     simp only [List.map_cons]
     generalize s.ev X = X at hx
     cases l with
     | cons Y l =>
      simp only [List.map_cons]
     | nil =>
      simp only [List.map_nil]
      match ts with
      | [] => cases X with
       | val v => cases v <;> rfl
       | _ => rfl
      | t :: u :: ts => cases X with
       | val v => cases v <;> rfl
       | _ => rfl
      | [t] => cases X with
       | val v => cases v <;> rfl
       | row id => simp only; rw [ag id hx]
       | _ => rfl
   ·dsimp only
    rw [hmap]
   ·dsimp only
    rw [hmap]
end

structure Spec (S : Sums) (s : FSt) (o : Oper) (r : Out) : Prop where
 drop : r.drop = none
 upd : cls S o.op ≠ 3 -> r.upd = none
 st : cls S o.op = 3 -> r.news = []
 ids : ∀ x ∈ r.news, ∃ d j, o.dst = some d /\ j < 4 /\ x.1 = 4 * d + j
 live : ∀ u, r.upd = some u -> (s.heap u.1).isSome = true
 ok : ∀ H', Grow s.heap H' -> (∀ x ∈ r.news, (H' x.1).isSome = true) -> SVok H' r.v /\ (∀ x ∈ r.news, Bok H' x.2) /\ ∀ u, r.upd = some u -> Bok H' u.2
section
variable {P : Program} {S : Sums} {n : Nat} {s s' : FSt} {H H' : Nat -> Option Blk} {o q : Oper} {r : Out}
theorem ZLP {α : Type} {x y : α} (h : x ∈ [y]) : x = y := by simpa using h
theorem ZY {c : Bool} {v : SV} (h : SVok s.heap v) : Spec S s o (.pure c v) where
 drop := rfl
 upd := fun _ => rfl
 st := fun _ => rfl
 ids := fun x hx => by cases hx
 live := fun u hu => by cases hu
 ok := fun H' hg _ => ⟨h.grow hg, fun x hx => (by cases hx), fun u hu => (by cases hu)⟩
theorem Ztd {c : Bool} {v : SV} {d : Nat} {b : Blk} (hd : o.dst = some d) (hcl : cls S o.op ≠ 3) (h : ∀ H', Grow s.heap H' -> (H' (4 * d)).isSome = true -> SVok H' v /\ Bok H' b) : Spec S s o ⟨c, v, [(4 * d, b)], none, none⟩ where
 drop := rfl
 upd := fun _ => rfl
 st := fun e => absurd e hcl
 ids := fun x hx => by
  obtain rfl : x = (4 * d, b) := ZLP hx
  exact ⟨d, 0, hd, by omega, rfl⟩
 live := fun u hu => by cases hu
 ok := fun H' hg hl => by
  have := h H' hg (hl (4 * d, b) (by simp))
  refine ⟨this.1, fun x hx => ?_, fun u hu => (by cases hu)⟩
  obtain rfl : x = (4 * d, b) := ZLP hx
  exact this.2
theorem ZJr {id : Nat} {b b' : Blk} {c : Bool} (hcl : cls S o.op = 3) (hb : s.heap id = some b) (h : ∀ H', Grow s.heap H' -> Bok H' b') : Spec S s o ⟨c, .val undef, [], some (id, b'), none⟩ where
 drop := rfl
 upd := fun e => absurd hcl e
 st := fun _ => rfl
 ids := fun x hx => by cases hx
 live := fun u hu => by
  simp only [Option.some.injEq] at hu
  subst hu
  exact Zv4 hb
 ok := fun H' hg _ => by
  refine ⟨True.intro, fun x hx => (by cases hx), fun u hu => ?_⟩
  simp only [Option.some.injEq] at hu
  subst hu
  exact h H' hg
theorem Zsv {H : Nat -> Option Blk} : ∀ {cells : List SV} {bcs : List BC}, (∀ x ∈ cells, SVok H x) -> ∀ x ∈ Zjh cells bcs, SVok H x
 | [], [], _, x, hx => by simp [Zjh] at hx
 | [], .v _ :: _, _, x, hx => by simp [Zjh] at hx
 | [], .s _ _ :: _, _, x, hx => by simp [Zjh] at hx
 | _ :: _, [], _, x, hx => by simp [Zjh] at hx
 | c :: cs, .v v :: bs, h, x, hx => by
  rcases List.mem_cons.1 (show x ∈ SV.val v :: Zjh cs bs from hx) with rfl | hx
  ·exact True.intro
  ·exact Zsv (fun y hy => h y (List.mem_cons_of_mem _ hy)) x hx
 | c :: cs, .s _ _ :: bs, h, x, hx => by
  rcases List.mem_cons.1 (show x ∈ c :: Zjh cs bs from hx) with rfl | hx
  ·exact h _ List.mem_cons_self
  ·exact Zsv (fun y hy => h y (List.mem_cons_of_mem _ hy)) x hx
theorem ZMO {α : Type} {o : Option α} {x : α} (h : o = some x) : o.isSome = true := by rw [h]; rfl
theorem ZM2 {H : Nat -> Option Blk} (l : List Value) : SVok H (retV l) := by
 have : ∀ l : List Value, SVok H (.tup (l.map TI.v)) := by
  intro l id hid
  simp at hid
 match l with
 | [] => exact this []
 | [x] => exact True.intro
 | x :: y :: l => exact this (x :: y :: l)
theorem ZMj (l : List Value) : ∀ v ∈ l.map SV.val, SVok H v := by
 intro v hv
 obtain ⟨x, _, rfl⟩ := List.mem_map.1 hv
 exact True.intro
theorem ZJd {x : SV} (h : SVok H x) : ∀ v ∈ x.parts, SVok H v := by
 cases x with
 | val y => exact ZMj _
 | agr l =>
  intro v hv
  obtain ⟨q, hq, rfl⟩ := List.mem_map.1 hv
  cases q with
  | v y => exact True.intro
  | r id => exact h id hq
 | _ =>
  intro v hv
  simp only [SV.parts, List.mem_singleton] at hv
  subst hv
  exact h
theorem ZFh : ∀ (xs l : List SV) (i : Nat), (∀ v ∈ l, SVok H v) -> (∀ v ∈ xs, SVok H v) -> ∀ v ∈ ZHd l i xs, SVok H v
 | [], l, i, h, _ => h
 | x :: xs, l, i, h, hx => ZFh xs _ (i + 1) (fun v hv => by
   rw [ZMa] at hv
   rcases List.mem_or_eq_of_mem_set hv with hv | rfl
   ·exact h v hv
   ·exact hx v (by simp)) fun v hv => hx v (by simp [hv])
theorem ZgT (h : Zn4 P s o = some r) : Spec S s o r := by
 unfold Zn4 at h
 split at h
 ·split at h
  ·simp only [Option.some.injEq] at h; subst h; exact ZY True.intro
  ·cases h
 ·cases h
theorem ZP7 (wf : WF s) {ga : Bool} {sz id off : Nat} (h : ld s.heap ga sz id off = some r) : Spec S s o r := by
 have boxc : ∀ (cells : List SV), (∀ v ∈ cells, SVok s.heap v) -> (if ga = true then
   match SV.vals ((cells.drop off).take sz) with
   | some l => if Nat.beq l.length sz = true then some (Out.pure true (.val (.agg l.toArray))) else none
   | none => none
  else match cells[off]? with
   | some v => some (.pure true v)
   | none => none) = some r -> Spec S s o r := by
  intro cells hok h
  split at h
  ·split at h
   ·split at h
    ·simp only [Option.some.injEq] at h; subst h; exact ZY True.intro
    ·cases h
   ·cases h
  ·split at h
   ·rename_i v hv
    simp only [Option.some.injEq] at h; subst h
    exact ZY (hok v (List.mem_of_getElem? hv))
   ·cases h
 unfold ld at h
 split at h
 ·rename_i e cells hb; exact boxc cells (wf.heap id _ hb) h
 ·rename_i cells hb; exact boxc cells (wf.heap id _ hb) h
 ·split at h <;> (simp only [Option.some.injEq] at h; subst h; exact ZY True.intro)
 ·split at h <;> (simp only [Option.some.injEq] at h; subst h; exact ZY True.intro)
 ·cases h
theorem ZPu (wf : WF s) {sz id off : Nat} {x : SV} (hx : SVok s.heap x) (hcl : cls S o.op = 3) (h : st s.heap sz id off x = some r) : Spec S s o r := by
 unfold st at h
 split at h
 ·split at h
  ·rename_i e cells hb
   ·simp only [Option.some.injEq] at h; subst h
    exact ZJr hcl hb fun H' hg => ZFh _ _ _ (fun v hv => (wf.heap id _ hb v hv).grow hg) (fun v hv => (ZJd hx v hv).grow hg)
  ·rename_i e z m c hb
   split at h
   ·split at h
    ·simp only [Option.some.injEq] at h; subst h
     exact ZJr hcl hb fun H' hg => True.intro
    ·cases h
   ·cases h
  ·cases h
 ·cases h
theorem Zvh : ∀ (rs : List TR) (i : Nat), (∀ x ∈ (Z77 i rs).1, ∃ j, j < rs.length /\ x.1 = i + j /\ ∀ H, Bok H x.2) /\ ∀ id, TI.r id ∈ (Z77 i rs).2 -> ∃ x ∈ (Z77 i rs).1, x.1 = id
 | [], i => ⟨fun x hx => (by cases hx), fun id h => (by cases h)⟩
 | .v y :: l, i => by
  obtain ⟨h1, h2⟩ := Zvh l (i + 1)
  refine ⟨fun x hx => ?_, fun id h => ?_⟩
  ·obtain ⟨j, hj, e, hb⟩ := h1 x hx
   exact ⟨j + 1, by simp; omega, by omega, hb⟩
  ·have h : TI.r id ∈ (Z77 (i + 1) l).2 := by
    rcases List.mem_cons.1 h with h | h
    ·cases h
    ·exact h
   exact h2 id h
 | .s e sz k c :: l, i => by
  obtain ⟨h1, h2⟩ := Zvh l (i + 1)
  refine ⟨fun x hx => ?_, fun id h => ?_⟩
  ·rcases List.mem_cons.1 hx with rfl | hx
   ·exact ⟨0, by simp, rfl, fun _ => True.intro⟩
   ·obtain ⟨j, hj, e, hb⟩ := h1 x hx
    exact ⟨j + 1, by simp; omega, by omega, hb⟩
  ·rcases List.mem_cons.1 h with h | h
   ·cases h
    exact ⟨_, List.mem_cons_self, rfl⟩
   ·obtain ⟨x, hx, e⟩ := h2 id h
    exact ⟨x, List.mem_cons_of_mem _ hx, e⟩
theorem ZJ5 : ∀ (rs : List TR) (i : Nat), rs.all isV = true -> (Z77 i rs).1 = []
 | [], _, _ => rfl
 | .v x :: l, i, h => ZJ5 l (i + 1) (by simpa [isV] using h)
 | .s .. :: l, i, h => by simp [isV] at h
theorem ZBu {c : Bool} {rs : List TR} (hcl : cls S o.op ≠ 3) (h : Zll o.dst c rs = some r) : Spec S s o r := by
 cases hdst : o.dst with
 | none =>
  rw [hdst] at h
  unfold Zll at h
  dsimp only at h
  split at h
  ·simp only [Option.some.injEq] at h; subst h; exact ZY True.intro
  ·simp only [Option.some.injEq] at h; subst h; exact ZY True.intro
  ·cases h
 | some d =>
  rw [hdst] at h
  unfold Zll at h
  dsimp only at h
  cases hv : Zq8 rs with
  | some x => rw [hv] at h; simp only [Option.some.injEq] at h; subst h; exact ZY True.intro
  | none =>
   rw [hv] at h
   dsimp only at h
   unfold Zza at h
   split at h
   ·rename_i Z4X
    obtain ⟨h1, h2⟩ := Zvh rs (4 * d)
    have ids : ∀ x ∈ (Z77 (4 * d) rs).1, ∃ d' j, o.dst = some d' /\ j < 4 /\ x.1 = 4 * d' + j := fun x hx => by
     rw [Bool.or_eq_true] at Z4X
     rcases Z4X with Z4X | Z4X
     ·have Z4X := nle Z4X
      obtain ⟨j, hj, e, _⟩ := h1 x hx
      exact ⟨d, j, hdst, by omega, e⟩
     ·rw [ZJ5 _ _ Z4X] at hx
      cases hx
    split at h
    ·rename_i i hi
     simp only [Option.some.injEq] at h; subst h
     refine ⟨rfl, fun _ => rfl, fun e => absurd e hcl, ids, fun u hu => (by cases hu), fun H' hg hl => ⟨?_, fun x hx => (h1 x hx).choose_spec.2.2 H', fun u hu => (by cases hu)⟩⟩
     obtain ⟨x, hx, e⟩ := h2 i (by rw [hi]; simp)
     rw [<- e]
     exact hl x hx
    ·rename_i l hl'
     simp only [Option.some.injEq] at h; subst h
     refine ⟨rfl, fun _ => rfl, fun e => absurd e hcl, ids, fun u hu => (by cases hu), fun H' hg hl => ⟨?_, fun x hx => (h1 x hx).choose_spec.2.2 H', fun u hu => (by cases hu)⟩⟩
     intro id hid
     obtain ⟨x, hx, e⟩ := h2 id hid
     rw [<- e]
     exact hl x hx
   ·cases h
theorem ZKJ (hc : cls S o.op ≠ 4) (wf : WF s) (h : Z3j P S s o = some r) : Spec S s o r := by
 unfold Z3j at h
 cases ho : o.op <;> rw [ho] at h hc <;> dsimp only at h
 case move x => simp only [Option.some.injEq] at h; subst h; exact ZY (wf.ev x)
 case assign x => simp only [Option.some.injEq] at h; subst h; exact ZY (wf.ev x)
 case pick c x y =>
  split at h
  ·split at h <;> (simp only [Option.some.injEq] at h; subst h)
   ·exact ZY (wf.ev x)
   ·exact ZY (wf.ev y)
  ·cases h
 case alloc e =>
  split at h
  ·simp only [Option.some.injEq] at h; subst h
   exact Ztd (by assumption) (by rw [ho]; simp [cls]) fun H' _ hl => ⟨hl, ZMj _⟩
  ·cases h
 case box e x =>
  split at h
  ·cases h
  ·simp only [Option.some.injEq] at h; subst h
   exact Ztd (by assumption) (by rw [ho]; simp [cls]) fun H' hg hl => ⟨hl, fun v hv => (ZJd (wf.ev x) v hv).grow hg⟩
  ·cases h
 case buildSlice t len ps =>
  split at h
  ·split at h
   ·split at h
    ·split at h
     ·simp only [Option.some.injEq] at h; subst h
      exact Ztd (by assumption) (by rw [ho]; simp [cls]) fun H' _ hl => ⟨hl, True.intro⟩
     ·cases h
    ·cases h
   ·cases h
  ·cases h
 case load t x =>
  split at h
  ·unfold gload at h
   split at h
   ·split at h
    ·simp only [Option.some.injEq] at h; subst h; exact ZY True.intro
    ·cases h
   ·simp only [Option.some.injEq] at h; subst h; exact ZY True.intro
   ·cases h
  ·split at h
   ·exact ZP7 wf h
   ·cases h
 case store t x y =>
  split at h
  ·cases h
  ·split at h
   ·exact ZPu wf (wf.ev y) (by rw [ho]; rfl) h
   ·cases h
 case binOp op t x y u =>
  unfold ZJ9 at h
  split at h
  ·simp only [Option.some.injEq] at h; subst h; exact ZY True.intro
  ·split at h
   ·simp only [Option.some.injEq] at h; subst h; exact ZY True.intro
   ·cases h
  ·split at h
   ·simp only [Option.some.injEq] at h; subst h; exact ZY True.intro
   ·cases h
  ·split at h
   ·split at h
    ·simp only [Option.some.injEq] at h; subst h; exact ZY True.intro
    ·cases h
   ·split at h
    ·split at h
     ·simp only [Option.some.injEq] at h; subst h; exact ZY True.intro
     ·cases h
    ·cases h
   ·cases h
  ·split at h
   ·split at h
    ·simp only [Option.some.injEq] at h; subst h; exact ZY True.intro
    ·cases h
   ·split at h
    ·split at h
     ·simp only [Option.some.injEq] at h; subst h; exact ZY True.intro
     ·cases h
    ·cases h
   ·cases h
  ·exact ZgT h
 case unOp op t x => exact ZgT h
 case build t ps =>
  split at h
  ·rename_i r' hr'
   simp only [Option.some.injEq] at h; subst h
   unfold ZpJ at hr'
   split at hr'
   ·rename_i i x rest hps
    split at hr'
    ·rename_i id hx
     have hxo := wf.ev x
     rw [hx] at hxo
     (repeat' split at hr') <;> first
      | (cases hr'; done)
      | (
        simp only [Option.some.injEq] at hr'; subst hr'
        refine ZY fun j hj => ?_
        rcases List.mem_cons.1 hj with e | hj
        ·cases e; exact hxo
        ·obtain ⟨v, _, e⟩ := List.mem_map.1 hj
         cases e)
    ·cases hr'
   ·cases hr'
  ·exact ZgT h
 case field t x f => exact ZgT h
 case convert t u x =>
  cases hx : s.ev x with
  | row id =>
   rw [hx] at h
   dsimp only [ZJx] at h
   (repeat' split at h) <;> first
    | (cases h; done)
    | (simp only [Option.some.injEq] at h; subst h; exact ZY True.intro)
  | _ => rw [hx] at h; exact ZgT h
 case makeFunc fn first captured =>
  cases fn <;> dsimp only at h <;> try (cases h; done)
  split at h
  ·split at h
   ·rename_i l hl
    simp only [Option.some.injEq] at h; subst h
    refine ZY fun i hi => ?_
    obtain ⟨x, hx, hr⟩ := ZA5 (Zeu hl) i hi
    have hx' := wf.ev x
    split at hr
    ·rename_i id he
     simp only [Option.some.injEq] at hr; subst hr
     rw [he] at hx'
     exact hx'
    ·cases hr
   ·cases h
  ·cases h
 case makeSlice t x y =>
  split at h
  ·split at h
   ·split at h
    ·split at h
     ·simp only [Option.some.injEq] at h; subst h
      exact Ztd (by assumption) (by rw [ho]; simp [cls]) fun H' _ hl => ⟨hl, True.intro⟩
     ·cases h
    ·cases h
   ·cases h
  ·cases h
 case fieldAddr t x f =>
  have hx := wf.ev x
  split at h
  ·rename_i he _
   rw [he] at hx
   split at h
   ·split at h
    ·split at h
     ·simp only [Option.some.injEq] at h; subst h; exact ZY hx
     ·cases h
    ·cases h
   ·cases h
  ·cases h
 case nilCheck x =>
  have hx := wf.ev x
  split at h
  ·rename_i he
   rw [he] at hx
   simp only [Option.some.injEq] at h; subst h; exact ZY hx
  ·cases h
 case sliceToArrayPointer t x =>
  have hx := wf.ev x
  split at h
  ·rename_i he _
   rw [he] at hx
   split at h
   ·simp only [Option.some.injEq] at h; subst h; exact ZY hx
   ·simp only [Option.some.injEq] at h; subst h; exact ZY hx
   ·cases h
  ·cases h
 case indexAddr t x i =>
  have hx := wf.ev x
  split at h
  ·rename_i he _ _
   rw [he] at hx
   split at h
   ·simp only [Option.some.injEq] at h; subst h; exact ZY hx
   ·cases h
  ·rename_i he _ _
   rw [he] at hx
   split at h
   ·simp only [Option.some.injEq] at h; subst h; exact ZY hx
   ·simp only [Option.some.injEq] at h; subst h; exact ZY hx
   ·cases h
  ·rename_i he _ _
   rw [he] at hx
   split at h
   ·simp only [Option.some.injEq] at h; subst h; exact ZY hx
   ·cases h
  ·cases h
 case index t x i =>
  split at h
  ·split at h
   ·split at h
    ·simp only [Option.some.injEq] at h; subst h; exact ZY True.intro
    ·cases h
   ·cases h
  ·simp only [Option.some.injEq] at h; subst h; exact ZY True.intro
  ·cases h
 case slice t x lo hi mx =>
  have hx := wf.ev x
  clear ho hc
  split at h
  ·rename_i he _
   rw [he] at hx
   split at h
   ·simp only [Option.some.injEq] at h; subst h; exact ZY hx
   ·cases h
  ·rename_i he _
   rw [he] at hx
   split at h
   ·split at h
    ·split at h
     ·simp only [Option.some.injEq] at h; subst h; exact ZY hx
     ·cases h
    ·cases h
   ·cases h
  ·rename_i he _
   rw [he] at hx
   split at h
   ·split at h
    ·simp only [Option.some.injEq] at h; subst h; exact ZY hx
    ·simp only [Option.some.injEq] at h; subst h; exact ZY hx
    ·cases h
   ·cases h
  ·rename_i he _ _
   rw [he] at hx
   unfold ZeB at h
   split at h
   ·split at h
    ·simp only [Option.some.injEq] at h; subst h; exact ZY hx
    ·cases h
   ·split at h
    ·simp only [Option.some.injEq] at h; subst h; exact ZY hx
    ·cases h
   ·cases h
  ·unfold ZeC at h
   split at h
   ·simp only [Option.some.injEq] at h; subst h; exact ZY True.intro
   ·cases h
  ·cases h
 case extract x i =>
  have hx := wf.ev x
  split at h
  ·rename_i l he
   rw [he] at hx
   split at h
   ·simp only [Option.some.injEq] at h; subst h; exact ZY True.intro
   ·rename_i id hi
    simp only [Option.some.injEq] at h; subst h; exact ZY (hx id (List.mem_of_getElem? hi))
   ·cases h
  ·cases h
 case call c =>
  cases hcc : c.callee with
  | value f =>
   rw [hcc] at h
   dsimp only at h
   cases hm : ZgQ S f with
   | some run =>
    cases run with
    | box run =>
     have hcl : cls S o.op = 3 := by rw [ho]; simp [cls, hcc, hm]
     rw [hm] at h
     have h : Zdh s run _ = _ := h
     unfold Zdh at h
     split at h
     ·split at h
      ·rename_i id _ _ e cells hb
       split at h
       ·split at h
        ·split at h
         ·simp only [Option.some.injEq] at h; subst h
          refine ⟨rfl, fun e => absurd hcl e, fun _ => rfl, fun x hx => (by cases hx), fun u hu => ?_, fun H' hg _ => ⟨ZM2 _, fun x hx => (by cases hx), fun u hu => ?_⟩⟩
          ·simp only [Option.some.injEq] at hu
           subst hu
           exact Zv4 hb
          ·simp only [Option.some.injEq] at hu
           subst hu
           exact Zsv fun x hx => (wf.heap _ _ hb x hx).grow hg
         ·cases h
        ·cases h
       ·cases h
      ·cases h
     ·cases h
    | _ => exact absurd (by simp [cls, hcc, hm]) hc
   | none =>
   rw [hm] at h
   have hcl : cls S o.op ≠ 3 := by rw [ho]; simp [cls, hcc, hm]
   dsimp only at h
   split at h
   ·split at h
    ·split at h
     ·exact ZBu hcl h
     ·cases h
    ·cases h
   ·split at h
    ·split at h
     ·exact ZBu hcl h
     ·cases h
    ·cases h
   ·cases h
  | invoke x m => rw [hcc] at h; cases h
  | builtin b =>
   rw [hcc] at h
   cases b <;> dsimp only at h <;> try (cases h; done)
   ·exact absurd (by simp [cls, hcc]) hc
   ·split at h
    ·split at h
     ·simp only [Option.some.injEq] at h; subst h; exact ZY True.intro
     ·cases h
    ·split at h
     ·simp only [Option.some.injEq] at h; subst h; exact ZY True.intro
     ·simp only [Option.some.injEq] at h; subst h; exact ZY True.intro
     ·cases h
    ·split at h
     ·simp only [Option.some.injEq] at h; subst h; exact ZY True.intro
     ·cases h
    ·cases h
   ·split at h
    ·simp only [Option.some.injEq] at h; subst h; exact ZY True.intro
    ·cases h
   ·split at h
    ·simp only [Option.some.injEq] at h; subst h; exact ZY True.intro
    ·cases h
 all_goals cases h
end

def lk : List (Nat × Blk) -> Nat -> Option Blk
 | [], _ => none
 | (i, b) :: l, x => match lk l x with | some c => some c | none => if x = i then some b else none
def ul : Option (Nat × Blk) -> Nat -> Option Blk
 | none, _ => none
 | some (i, b), x => if x = i then some b else none
section
variable {P : Program} {S : Sums} {n : Nat} {s s' s1 s2 : FSt} {H H' : Nat -> Option Blk} {o q : Oper} {r : Out} {ops : List Oper}
theorem Z58 (i : Nat) (b : Blk) (x : Nat) : (s.set i b).heap x = if x = i then some b else s.heap x := by
 show (bif Nat.beq x i then some b else s.heap x) = _
 by_cases e : x = i
 ·subst e; simp
 ·rw [nbeq e, if_neg e]; rfl
theorem ZEU : ∀ (l : List (Nat × Blk)) (s : FSt) (x : Nat), (s.news l).heap x = match lk l x with | some c => some c | none => s.heap x
 | [], s, x => rfl
 | (i, b) :: l, s, x => by
  show ((s.set i b).news l).heap x = _
  rw [ZEU l]
  simp only [lk]
  cases lk l x with
  | some c => rfl
  | none =>
   simp only
   rw [Z58]
   split <;> rfl
theorem ZFj : ∀ (l : List (Nat × Blk)) (s : FSt), (s.news l).slot = s.slot
 | [], s => rfl
 | (i, b) :: l, s => ZFj l (s.set i b)
theorem ZO3 (u : Option (Nat × Blk)) (s : FSt) (x : Nat) : (s.upd u).heap x = match ul u x with | some c => some c | none => s.heap x := by
 cases u with
 | none => rfl
 | some p =>
  obtain ⟨i, b⟩ := p
  show (s.set i b).heap x = _
  rw [Z58]
  simp only [ul]
  split <;> rfl
theorem ZOJ (u : Option (Nat × Blk)) (s : FSt) : (s.upd u).slot = s.slot := by cases u <;> rfl
theorem Z6Q (d : Option Nat) (v : SV) : (s.put d v).heap = s.heap := by cases d <;> rfl
theorem Z8l (d : Option Nat) (v : SV) (t : Nat) : (s.put d v).slot t = if d = some t then v else s.slot t := by
 cases d with
 | none => rfl
 | some d =>
  show (bif Nat.beq t d then v else s.slot t) = _
  by_cases e : t = d
  ·subst e; simp
  ·rw [nbeq e, if_neg (by simp; exact fun h => e h.symm)]; rfl
theorem Z19 (hr : r.drop = none) (d : Option Nat) (x : Nat) : (s.apply d r).heap x = match ul r.upd x with | some c => some c | none => match lk r.news x with | some c => some c | none => s.heap x := by
 unfold FSt.apply
 rw [hr, Z6Q, ZO3, ZEU]
 rfl
theorem Z3A (hr : r.drop = none) (d : Option Nat) (t : Nat) : (s.apply d r).slot t = if d = some t then r.v else s.slot t := by
 unfold FSt.apply
 rw [hr, Z8l, ZOJ, ZFj]
 rfl
theorem Zkm : ∀ {l : List (Nat × Blk)} {x : Nat} {c : Blk}, lk l x = some c -> ∃ p ∈ l, p.1 = x /\ p.2 = c
 | (i, b) :: l, x, c, h => by
  simp only [lk] at h
  split at h
  ·rename_i c' hc
   obtain ⟨p, hp, e⟩ := Zkm hc
   exact ⟨p, by simp [hp], by rw [e.1]; exact ⟨rfl, by simpa [e.2] using h⟩⟩
  ·split at h
   ·rename_i e
    exact ⟨(i, b), by simp, e.symm, by simpa using h⟩
   ·cases h
theorem Z5P : ∀ {l : List (Nat × Blk)}, s.fresh l = true ↔ ∀ p ∈ l, s.heap p.1 = none
 | [] => by simp [FSt.fresh]
 | (i, b) :: l => by
  simp only [FSt.fresh]
  cases h : s.heap i with
  | some c => simp [h]
  | none =>
   simp only [List.mem_cons, forall_eq_or_imp, h, true_and]
   exact Z5P
theorem ZNy (wf : WF s) (sp : Spec S s o r) : WF (s.apply o.dst r) := by
 have hg : Grow s.heap (s.apply o.dst r).heap := by
  intro id hid
  rw [Z19 sp.drop]
  cases ul r.upd id with
  | some c => rfl
  | none => cases lk r.news id with
   | some c => rfl
   | none => exact hid
 have hn : ∀ x ∈ r.news, ((s.apply o.dst r).heap x.1).isSome = true := by
  intro x hx
  rw [Z19 sp.drop]
  cases ul r.upd x.1 with
  | some c => rfl
  | none =>
   have : ∃ c, lk r.news x.1 = some c := by
    clear sp hg
    generalize r.news = l at hx
    induction l with
    | nil => cases hx
    | cons p l ih =>
     simp only [lk]
     cases hl : lk l x.1 with
     | some c => exact ⟨c, rfl⟩
     | none =>
      rcases List.mem_cons.1 hx with rfl | hx
      ·exact ⟨x.2, by simp⟩
      ·obtain ⟨c, hc⟩ := ih hx
       rw [hl] at hc
       cases hc
   obtain ⟨c, hc⟩ := this
   rw [hc]
   rfl
 obtain ⟨k1, k2, k3⟩ := sp.ok _ hg hn
 refine ⟨fun t => ?_, fun id b hb => ?_⟩
 ·rw [Z3A sp.drop]
  split
  ·exact k1
  ·exact (wf.slots t).grow hg
 ·rw [Z19 sp.drop] at hb
  cases hu : ul r.upd id with
  | some c =>
   rw [hu] at hb
   simp only [Option.some.injEq] at hb; subst hb
   cases hup : r.upd with
   | none => rw [hup] at hu; cases hu
   | some p =>
    rw [hup] at hu
    simp only [ul] at hu
    split at hu
    ·simp only [Option.some.injEq] at hu; subst hu
     exact k3 p hup
    ·cases hu
  | none =>
   rw [hu] at hb
   cases hl : lk r.news id with
   | some c =>
    rw [hl] at hb
    simp only [Option.some.injEq] at hb; subst hb
    obtain ⟨p, hp, _, rfl⟩ := Zkm hl
    exact k2 p hp
   | none =>
    rw [hl] at hb
    exact (wf.heap id b hb).grow hg
def allowed (a b : Nat) : Bool := match a, b with
 | 0, 0 | 0, 2 | 2, 0 | 2, 2 | 0, 3 | 3, 0 => true
 | _, _ => false
theorem Zho (h : ∀ j w, o.guard = some (j, w) -> ∀ q d, ops[j]? = some q -> q.dst = some d -> s'.slot d = s.slot d) : Z4t ops s' o = Z4t ops s o := by
 unfold Z4t
 cases hg : o.guard with
 | none => rfl
 | some p =>
  obtain ⟨j, w⟩ := p
  dsimp only
  cases hq : ops[j]? with
  | none => rfl
  | some q =>
   dsimp only
   cases hd : q.dst with
   | none => rfl
   | some d =>
    dsimp only
    rw [h j w hg q d hq hd]
theorem ZAR {x : Operand} (h : ∀ t, x = .tmp t -> s'.slot t = s.slot t) : s'.ev x = s.ev x := by
 cases x with
 | tmp t => exact h t rfl
 | const v => rfl
 | global g => rfl
 | func f => rfl
theorem ZaH {t : Nat} {opsA : Array Oper} (h : .tmp t ∈ o.op.operands.toList) : t ∈ o.looksAt opsA := by
 unfold Oper.looksAt
 refine List.mem_append.2 (.inl (List.mem_filterMap.2 ⟨_, h, rfl⟩))
theorem Zet {j : Nat} {w : Bool} {d : Nat} (hg : o.guard = some (j, w)) (hq : ops[j]? = some q) (hd : q.dst = some d) : d ∈ o.looksAt ops.toArray := by
 unfold Oper.looksAt
 refine List.mem_append.2 (.inr ?_)
 rw [hg]
 simp [hq, hd]
theorem ZeH {o : Oper} {x : Nat} (hx : storeAt o = some x) : (∃ t y, o.op = .store t (.tmp x) y) \/ ∃ t, o.op = .load t (.tmp x) := by
 unfold storeAt at hx
 split at hx
 ·rename_i t x' y h
  simp only [Option.some.injEq] at hx
  subst hx
  exact .inl ⟨t, y, h⟩
 ·rename_i t x' h
  simp only [Option.some.injEq] at hx
  subst hx
  exact .inr ⟨t, h⟩
 ·cases hx
theorem Zte {o : Oper} {x : Operand} (h : ZeG S o = some x) : ∃ c f run, o.op = .call c /\ c.callee = .value f /\ ZgQ S f = some (.box run) /\ c.args.toList.head? = some x := by
 unfold ZeG at h
 split at h
 ·rename_i c hc
  split at h
  ·rename_i f hf
   split at h
   ·rename_i run hm
    exact ⟨c, f, run, hc, hf, hm, h⟩
   ·cases h
  ·cases h
 ·cases h
theorem ZQv {x : Operand} (hq : ZeG S o = some x) (hs : ∀ t ∈ o.looksAt ops.toArray, s'.slot t = s.slot t) : s'.ev x = s.ev x := by
 obtain ⟨c, f, run, ho, hf, hm, hh⟩ := Zte hq
 refine ZAR fun t ht => hs t (ZaH ?_)
 rw [ho]
 simp only [Op.operands, Call.operands, Array.toList_append]
 refine List.mem_append.2 (.inr ?_)
 rw [<- ht]
 exact List.mem_of_mem_head? hh
theorem ZnE {x : Nat} (hx : storeAt o = some x) (hs : ∀ t ∈ o.looksAt ops.toArray, s'.slot t = s.slot t) : s'.slot x = s.slot x := by
 refine hs x (ZaH ?_)
 rcases ZeH hx with ⟨t, y, h⟩ | ⟨t, h⟩ <;> rw [h] <;> simp [Op.operands]
theorem ZO4 (hs : ∀ t ∈ o.looksAt ops.toArray, s'.slot t = s.slot t) (h : cls S o.op = 0 \/ (Ag s.heap s'.heap /\ WF s)) : ZhK P S ops o s' = ZhK P S ops o s := by
 unfold ZhK
 cases hx : storeAt o with
 | none =>
  cases hq : ZeG S o with
  | none => rfl
  | some x =>
   obtain ⟨c, f, run, ho, hf, hm, hh⟩ := Zte hq
   obtain ⟨ag, wf⟩ := h.resolve_left (by rw [ho]; simp [cls, hf, hm])
   dsimp only
   rw [ZQv hq hs]
   have hk := wf.ev x
   cases he : s.ev x <;> try rfl
   rw [he] at hk
   dsimp only
   rw [ag _ hk]
 | some x =>
  have hne : cls S o.op ≠ 0 := by
   rcases ZeH hx with ⟨t, y, e⟩ | ⟨t, e⟩ <;> rw [e] <;> simp [cls]
  obtain ⟨ag, wf⟩ := h.resolve_left hne
  dsimp only
  rw [ZnE hx hs]
  have hk := wf.slots x
  cases he : s.slot x <;> try rfl
  rw [he] at hk
  dsimp only
  rw [ag _ hk]
theorem ZgL {x : Nat} (hx : storeAt o = some x) (e : s'.slot x = s.slot x) : Zjf ops o s' = Zjf ops o s := by
 unfold Zjf
 rw [hx]
 dsimp only
 unfold mixH
 rw [e]
theorem ZMN (h : ZgO o = true) : cls S o.op = 4 := by
 unfold ZgO at h
 split at h
 ·rename_i c hc
  split at h
  ·rename_i hb
   rw [hc]
   simp [cls, hb]
  ·cases h
 ·cases h
theorem ZO5 (hs : ∀ t ∈ o.looksAt ops.toArray, s'.slot t = s.slot t) (hc : cls S o.op ≠ 4) : Zjf ops o s' = Zjf ops o s := by
 cases hx : storeAt o with
 | some x => exact ZgL hx (ZnE hx hs)
 | none =>
  unfold Zjf
  rw [hx]
  dsimp only
  unfold ZF1
  cases ha : ZgO o with
  | true => exact absurd (ZMN ha) hc
  | false => rfl
theorem ZO6 (hs : ∀ t ∈ o.looksAt ops.toArray, s'.slot t = s.slot t) (h : cls S o.op = 0 \/ (Ag s.heap s'.heap /\ WF s)) (hc : cls S o.op ≠ 4) : Z5p P S ops o s' = Z5p P S ops o s := by
 unfold Z5p
 rw [ZO4 hs h, ZO5 hs hc]
theorem Zbv (hs : ∀ t ∈ o.looksAt ops.toArray, s'.slot t = s.slot t) (h : cls S o.op = 0 \/ (Ag s.heap s'.heap /\ WF s)) (hc : cls S o.op ≠ 4) : Z0W P S n ops o s' = Z0W P S n ops o s := by
 unfold Z0W
 rw [Zho fun j w hg q d hq hd => hs d (Zet hg hq hd), ZOt (fun x hx => ZAR fun t ht => hs t (ZaH (by rw [<- ht]; exact hx))) h hc]
 unfold chkH
 rw [ZO6 hs h hc]
theorem ZfS (hc : cls S o.op ≠ 4) (wf : WF s) (h : Z0W P S n ops o s = some r) : Spec S s o r := by
 unfold Z0W at h
 split at h
 ·cases h
 ·split at h
  ·split at h
   ·split at h
    ·cases h
    ·rename_i r' hr'
     split at h
     ·simp only [Option.some.injEq] at h; subst h; exact ZKJ hc wf hr'
     ·cases h
   ·simp only [Option.some.injEq] at h; subst h; exact ZY True.intro
  ·cases h
theorem ZcP (h : step P S n ops o s = some s1) : ∃ r, Z0W P S n ops o s = some r /\ s.fresh r.news = true /\ s1 = s.apply o.dst r := by
 unfold step at h
 split at h
 ·cases h
 ·rename_i r hr
  split at h
  ·rename_i hf
   simp only [Option.some.injEq] at h
   exact ⟨r, hr, hf, h.symm⟩
  ·cases h
theorem ZhU (h : Z0W P S n ops o s = some r) (hf : s.fresh r.news = true) : step P S n ops o s = some (s.apply o.dst r) := by
 unfold step
 rw [h]
 simp only [hf, if_true]
theorem ZPv (hc : cls S o.op ≠ 4) (wf : WF s) (h : step P S n ops o s = some s1) : WF s1 := by
 obtain ⟨r, hr, _, rfl⟩ := ZcP h
 exact ZNy wf (ZfS hc wf hr)
theorem Zkb {a b : Nat} (h : allowed a b = true) : (a ≠ 4 /\ b ≠ 4) /\ (a = 3 -> b = 0) /\ (b = 3 -> a = 0) := by
 unfold allowed at h
 split at h <;> simp at h ⊢
theorem ZrP (sp : Spec S s o r) (hf : s.fresh r.news = true) (h3 : cls S o.op ≠ 3) : Ag s.heap (s.apply o.dst r).heap := by
 intro id hid
 rw [Z19 sp.drop, sp.upd h3]
 cases hl : lk r.news id with
 | none => rfl
 | some c =>
  obtain ⟨p, hp, e, _⟩ := Zkm hl
  rw [<- e, Z5P.1 hf p hp] at hid
  cases hid
def ZgY (o : Oper) : Bool := match o.op with
 | .indexAddr .. => true
 | .call c => match c.callee with
  | .builtin .len => true
  | _ => false
 | _ => false
def Zur (S : Sums) (o q : Oper) : Bool := (ZB5 S o && (loadAt q || ZgY q)) || (isSt o && ZgY q)
def Zzd (ops : List Oper) (o q : Oper) : Bool := match storeAt o, storeAt q with
 | some x, some y => !(Nat.beq x y) && (crowded ops o && crowded ops q)
 | _, _ => false
theorem ZkO (h : Zzd ops o q = true) : ∃ x y, storeAt o = some x /\ storeAt q = some y /\ x ≠ y /\ crowded ops o = true /\ crowded ops q = true := by
 unfold Zzd at h
 split at h
 ·rename_i x y hx hy
  simp only [Bool.and_eq_true, Bool.not_eq_true'] at h
  refine ⟨x, y, hx, hy, ?_, h.2.1, h.2.2⟩
  rintro rfl
  have := h.1
  rw [Nat.beq_refl] at this
  cases this
 ·cases h
theorem ZBT {x : Nat} (hx : storeAt o = some x) : (∃ t y, o.op = .store t (.tmp x) y) \/ ∃ t, o.op = .load t (.tmp x) := ZeH hx
theorem ZwS {x : Nat} (hx : storeAt o = some x) : cls S o.op = 3 \/ cls S o.op = 2 := by
 rcases ZBT hx with ⟨_, _, e⟩ | ⟨_, e⟩ <;> rw [e]
 ·exact .inl rfl
 ·exact .inr rfl
theorem Z6Z {x : Nat} (hx : storeAt o = some x) (hc : crowded ops o = true) (h : Z0W P S n ops o s = some r) :
  r.news = [] /\ (∀ u, r.upd = some u -> u.1 = 4 * x) /\ ∀ s' : FSt, (∀ t ∈ o.looksAt ops.toArray, s'.slot t = s.slot t) -> s'.heap (4 * x) = s.heap (4 * x) -> Z0W P S n ops o s' = some r := by
 have ho := ZBT hx
 have hw' : ∀ s' : FSt, (∀ t ∈ o.looksAt ops.toArray, s'.slot t = s.slot t) -> Z4t ops s' o = Z4t ops s o := fun s' hs => Zho fun j w hg q d hq hd => hs d (Zet hg hq hd)
 unfold Z0W at h
 split at h
 ·cases h
 ·rename_i w hw
  split at h
  ·rename_i hd
   split at h
   ·rename_i hwt
    split at h
    ·cases h
    ·rename_i r' hr'
     split at h
     ·rename_i hk
      simp only [Option.some.injEq] at h; subst h
      have hh := (ZrR hk).2
      unfold Z5p at hh
      rw [Bool.and_eq_true] at hh
      replace hh := hh.2
      unfold ZhK at hh
      rw [hx] at hh
      dsimp only at hh
      rw [hc, Bool.and_eq_true] at hh
      replace hh := hh.1
      simp only [cond_true] at hh
      obtain ⟨off, hs⟩ : ∃ off, s.ev (.tmp x) = .ptr (4 * x) off := by
       split at hh
       ·rename_i i off hsl
        obtain rfl := Nat.eq_of_beq_eq_true hh
        exact ⟨off, hsl⟩
       ·cases hh
      have key : ∀ s' : FSt, (∀ t ∈ o.looksAt ops.toArray, s'.slot t = s.slot t) -> s'.heap (4 * x) = s.heap (4 * x) -> Z3j P S s' o = Z3j P S s o := by
       intro s' hs' hq
       have hev : ∀ z ∈ o.op.operands.toList, s'.ev z = s.ev z := fun z hz => ZAR fun t ht => hs' t (ZaH (by rw [<- ht]; exact hz))
       rcases ho with ⟨t, y, ho⟩ | ⟨t, ho⟩
       rotate_left
       ·rw [ho] at hev
        have e1 := hev (.tmp x) (by simp [Op.operands])
        unfold Z3j
        rw [ho]
        dsimp only
        rw [e1, hs]
        cases Zt P (isAgg t) with
        | none => rfl
        | some ga =>
         cases Zt P (sizeOf t) with
         | none => rfl
         | some sz =>
          show ld s'.heap ga sz (4 * x) off = ld s.heap ga sz (4 * x) off
          unfold ld
          rw [hq]
       rw [ho] at hev
       have e1 := hev (.tmp x) (by simp [Op.operands])
       have e2 := hev y (by simp [Op.operands])
       unfold Z3j
       rw [ho]
       dsimp only
       rw [e1, e2, hs]
       cases o.dst with
       | some _ => rfl
       | none =>
        cases Zt P (sizeOf t) with
        | none => rfl
        | some sz =>
         show st s'.heap sz (4 * x) off (s.ev y) = st s.heap sz (4 * x) off (s.ev y)
         unfold st
         rw [hq]
      have form : r'.news = [] /\ ∀ u, r'.upd = some u -> u.1 = 4 * x := by
       rcases ho with ⟨t, y, ho⟩ | ⟨t, ho⟩
       rotate_left
       ·unfold Z3j at hr'
        rw [ho] at hr'
        dsimp only [ZmP] at hr'
        rw [hs] at hr'
        split at hr'
        ·unfold ld at hr'
         repeat' split at hr'
         all_goals first
          | (simp only [Option.some.injEq] at hr'; subst hr'; exact ⟨rfl, fun u hu => by cases hu⟩)
          | cases hr'
        ·cases hr'
       unfold Z3j at hr'
       rw [ho] at hr'
       dsimp only at hr'
       rw [hs] at hr'
       split at hr'
       ·cases hr'
       ·(try dsimp only at hr')
        split at hr'
        ·rename_i e1 e2
         simp only [SV.ptr.injEq] at e1
         obtain ⟨rfl, rfl⟩ := e1
         unfold st at hr'
         repeat' split at hr'
         all_goals first
          | (simp only [Option.some.injEq] at hr'; subst hr'; exact ⟨rfl, fun u hu => by simp only [Option.some.injEq] at hu; subst hu; rfl⟩)
          | cases hr'
        ·cases hr'
      refine ⟨form.1, form.2, fun s' hs' hq => ?_⟩
      ·unfold Z0W
       rw [hw' s' hs', hw]
       dsimp only
       rw [if_pos hd, if_pos hwt, key s' hs' hq, hr']
       dsimp only
       have hB : Z5p P S ops o s' = Z5p P S ops o s := by
        have hs0 : s.slot x = .ptr (4 * x) off := hs
        unfold Z5p
        rw [ZgL hx (ZnE hx hs')]
        unfold ZhK
        rw [hx]
        dsimp only
        rw [ZnE hx hs', hs0]
        dsimp only
        rw [hq]
       unfold chkH at hk ⊢
       rw [hB, if_pos hk]
     ·cases h
   ·rename_i hwt
    simp only [Option.some.injEq] at h; subst h
    refine ⟨rfl, fun u hu => (by cases hu), fun s' hs' hq => ?_⟩
    unfold Z0W
    rw [hw' s' hs', hw]
    dsimp only
    rw [if_pos hd, if_neg hwt]
  ·cases h
theorem Zv7 (h : loadAt o = true) : ∃ t x, o.op = .load t (.tmp x) := by
 unfold loadAt at h
 split at h
 ·rename_i t x ho
  exact ⟨t, x, ho⟩
 ·cases h
theorem ZBx (h2 : ZgY q = true) : cls S q.op = 2 := by
 unfold ZgY at h2
 split at h2
 ·rename_i e; rw [e]; rfl
 ·rename_i c e
  split at h2
  ·rename_i e2; rw [e]; simp [cls, e2]
  ·cases h2
 ·cases h2
theorem ZbA (h : Zur S o q = true) : ((ZB5 S o = true /\ (∃ x, ZeG S o = some x) /\ (loadAt q = true \/ ZgY q = true)) \/ (isSt o = true /\ ZgY q = true)) /\ cls S o.op = 3 /\ cls S q.op = 2 := by
 unfold Zur at h
 simp only [Bool.or_eq_true, Bool.and_eq_true] at h
 rcases h with ⟨h1, h2⟩ | ⟨h1, h2⟩
 ·have hq : cls S q.op = 2 := by
   rcases h2 with h2 | h2
   ·obtain ⟨t, x, e⟩ := Zv7 h2
    rw [e]; rfl
   ·exact ZBx h2
  have h1' := h1
  unfold ZB5 at h1'
  cases hx : ZeG S o with
  | none => rw [hx] at h1'; cases h1'
  | some x =>
   obtain ⟨c, f, run, ho, hf, hm, _⟩ := Zte hx
   exact ⟨.inl ⟨h1, ⟨x, rfl⟩, h2⟩, by rw [ho]; simp [cls, hf, hm], hq⟩
 ·refine ⟨.inr ⟨h1, h2⟩, ?_, ZBx h2⟩
  unfold isSt at h1
  split at h1
  ·rename_i e; rw [e]; rfl
  ·cases h1
def Uk (H H' : Nat -> Option Blk) : Prop := ∀ j, H' j = H j \/ (∃ e c c', H j = some (.box e c) /\ H' j = some (.box e c')) \/ ∃ e z m c c', H j = some (.row e z m c) /\ H' j = some (.row e z m c')
theorem Uk.symm {H H' : Nat -> Option Blk} (h : Uk H H') : Uk H' H := fun j => by
 rcases h j with h | ⟨e, c, c', h1, h2⟩ | ⟨e, z, m, c, c', h1, h2⟩
 ·exact .inl h.symm
 ·exact .inr (.inl ⟨e, c', c, h2, h1⟩)
 ·exact .inr (.inr ⟨e, z, m, c', c, h2, h1⟩)
def Ub (e : TypeId) (H H' : Nat -> Option Blk) : Prop := ∀ j, H' j = H j \/ ∃ c c', H j = some (.box e c) /\ H' j = some (.box e c')
theorem Ub.symm {e : TypeId} {H H' : Nat -> Option Blk} (h : Ub e H H') : Ub e H' H := fun j => by
 rcases h j with h | ⟨c, c', h1, h2⟩
 ·exact .inl h.symm
 ·exact .inr ⟨c', c, h2, h1⟩
theorem ZJs {x : Operand} (hx : ZeG S o = some x) (h : Z0W P S n ops o s = some r) : r.news = [] /\ (r.upd = none \/ ∃ e id c c', ZFk P o = some e /\ s.heap id = some (.box e c) /\ r.upd = some (id, .box e c')) := by
 obtain ⟨c, f, run, ho, hf, hm, hh⟩ := Zte hx
 unfold Z0W at h
 split at h
 ·cases h
 ·split at h
  ·split at h
   ·split at h
    ·cases h
    ·rename_i r' hr'
     split at h
     ·rename_i hk
      simp only [Option.some.injEq] at h; subst h
      have hb := (ZrR hk).2
      unfold Z5p at hb
      rw [Bool.and_eq_true] at hb
      replace hb := hb.2
      unfold ZhK at hb
      have hst : storeAt o = none := by unfold storeAt; rw [ho]
      rw [hst, hx] at hb
      dsimp only at hb
      unfold Z3j at hr'
      rw [ho] at hr'
      dsimp only at hr'
      rw [hf] at hr'
      dsimp only at hr'
      rw [hm] at hr'
      have hr' : Zdh s run (c.args.toList.map s.ev) = _ := hr'
      cases hl : c.args.toList with
      | nil => rw [hl] at hh; cases hh
      | cons x' xs =>
       rw [hl] at hh hr'
       simp only [List.head?_cons, Option.some.injEq] at hh
       subst hh
       simp only [List.map_cons] at hr'
       unfold Zdh at hr'
       split at hr'
       ·rename_i id xs' e1
        simp only [List.cons.injEq] at e1
        rw [e1.1] at hb
        dsimp only at hb
        split at hr'
        ·rename_i e cells hbx
         rw [hbx] at hb
         split at hr'
         ·split at hr'
          ·split at hr'
           ·simp only [Option.some.injEq] at hr'; subst hr'
            refine ⟨rfl, .inr ⟨e, id, cells, _, ?_, hbx, rfl⟩⟩
            cases hty : ZFk P o with
            | none => rw [hty] at hb; cases hb
            | some e' =>
             rw [hty] at hb
             dsimp only at hb
             rw [Nat.eq_of_beq_eq_true hb]
           ·cases hr'
          ·cases hr'
         ·cases hr'
        ·cases hr'
       ·cases hr'
     ·cases h
   ·simp only [Option.some.injEq] at h; subst h
    exact ⟨rfl, .inl rfl⟩
  ·cases h
theorem ZOK {x : Operand} (hx : ZeG S o = some x) (h : Z0W P S n ops o s = some r) (hd : r.drop = none) : r.upd = none /\ (∀ d, (s.apply d r).heap = s.heap) \/ ∃ e, ZFk P o = some e /\ ∀ d, Ub e s.heap (s.apply d r).heap := by
 obtain ⟨hn, hu⟩ := ZJs hx h
 rcases hu with hu | ⟨e, id, c, c', hty, hb, hu⟩
 ·refine .inl ⟨hu, fun d => funext fun j => ?_⟩
  rw [Z19 hd, hu, hn]
  rfl
 ·refine .inr ⟨e, hty, fun d j => ?_⟩
  rw [Z19 hd, hu, hn]
  simp only [ul, lk]
  by_cases ej : j = id
  ·subst ej
   rw [if_pos rfl]
   exact .inr ⟨c, c', hb, rfl⟩
  ·rw [if_neg ej]
   exact .inl rfl
theorem Znv (hk : ZgY q = true) (hs : ∀ t ∈ q.looksAt ops.toArray, s'.slot t = s.slot t) (hu : Uk s.heap s'.heap) (h : Z0W P S n ops q s = some r) : Z0W P S n ops q s' = some r := by
 have hw' : Z4t ops s' q = Z4t ops s q := Zho fun j w hg q d hq hd => hs d (Zet hg hq hd)
 unfold Z0W at h ⊢
 rw [hw']
 split at h
 ·cases h
 ·rename_i w hw
  try dsimp only
  split at h
  ·rename_i hd
   try rw [if_pos hd]
   split at h
   ·rename_i hwt
    try rw [if_pos hwt]
    split at h
    ·cases h
    ·rename_i r' hr'
     split at h
     ·rename_i hkk
      simp only [Option.some.injEq] at h; subst h
      have hev : ∀ z ∈ q.op.operands.toList, s'.ev z = s.ev z := fun z hz => ZAR fun t ht => hs t (ZaH (by rw [<- ht]; exact hz))
      have hop : Z3j P S s' q = Z3j P S s q /\ storeAt q = none /\ ZeG S q = none := by
       unfold ZgY at hk
       split at hk
       ·rename_i t x i hq
        refine ⟨?_, by unfold storeAt; rw [hq], by unfold ZeG; rw [hq]⟩
        rw [hq] at hev
        unfold Z3j
        rw [hq]
        dsimp only
        rw [hev x (by simp [Op.operands]), hev i (by simp [Op.operands])]
        generalize s.ev x = X
        generalize s.ev i = I
        generalize P.underlying t = D
        cases X <;> try rfl
        all_goals
         cases I <;> try rfl
         rename_i v
         cases v <;> try rfl
         cases D <;> try rfl
         rename_i d
         cases d <;> try rfl
        rename_i id _ _ _
        simp only
        rcases hu id with h | ⟨e, c, c', h1, h2⟩ | ⟨e, z, m, c, c', h1, h2⟩
        ·rw [h]
        ·rw [h1, h2]
        ·rw [h1, h2]
         cases Zt P (sizeOf _) <;> rfl
       ·rename_i c hq
        split at hk
        ·rename_i hcc
         refine ⟨?_, by unfold storeAt; rw [hq], by unfold ZeG; rw [hq]; simp only; rw [hcc]⟩
         rw [hq] at hev
         have hargs : ∀ x ∈ c.args.toList, s'.ev x = s.ev x := fun x hx => hev x (by simp only [Op.operands, Call.operands]; simp; exact .inr (by simpa using hx))
         have hmap : c.args.toList.map s'.ev = c.args.toList.map s.ev := List.map_congr_left hargs
         unfold Z3j
         rw [hq]
         dsimp only
         rw [hcc]
         dsimp only
         rw [hmap]
         generalize c.argTypes.toList = ts
         generalize c.args.toList.map s.ev = xs
         match xs, ts with
         | [], _ => rfl
         | X :: Y :: l, ts => cases X with
          | val v => cases v <;> rfl
          | _ => rfl
         | [X], [] => cases X with
          | val v => cases v <;> rfl
          | _ => rfl
         | [X], t :: u :: ts => cases X with
          | val v => cases v <;> rfl
          | _ => rfl
         | [X], [t] => cases X with
          | val v => cases v <;> rfl
          | row id =>
           simp only
           rcases hu id with h | ⟨e, c, c', h1, h2⟩ | ⟨e, z, m, c, c', h1, h2⟩
           ·rw [h]
           ·rw [h1, h2]
           ·rw [h1, h2]
            cases P.underlying t with
            | none => rfl
            | some u => cases u <;> rfl
          | _ => rfl
        ·cases hk
       ·cases hk
      obtain ⟨hop, hst, hsr⟩ := hop
      rw [hop, hr']
      dsimp only
      have hna : ZgO q = false := by
       unfold ZgY at hk
       split at hk
       ·rename_i e; unfold ZgO; rw [e]
       ·rename_i c e
        split at hk
        ·rename_i e2; unfold ZgO; rw [e]; simp only; rw [e2]
        ·cases hk
       ·cases hk
      have hB : ∀ s : FSt, Z5p P S ops q s = true := fun s => by
       unfold Z5p Zjf ZhK
       rw [hst, hsr]
       dsimp only
       unfold ZF1
       rw [hna]
       rfl
      unfold chkH at hkk ⊢
      rw [hB] at hkk ⊢
      rw [if_pos hkk]
     ·cases h
   ·rename_i hwt
    rw [if_neg hwt]
    exact h
  ·cases h
theorem ZwR {e : TypeId} (hom : o ∈ ops) (ho : ZB5 S o = true) (hty : ZFk P o = some e) (hk : loadAt q = true \/ ZgY q = true) (hs : ∀ t ∈ q.looksAt ops.toArray, s'.slot t = s.slot t) (hu : Ub e s.heap s'.heap) (h : Z0W P S n ops q s = some r) : Z0W P S n ops q s' = some r := by
 by_cases hnk : ZgY q = true
 ·exact Znv hnk hs (fun j => by
   rcases hu j with h | ⟨c, c', h1, h2⟩
   ·exact .inl h
   ·exact .inr (.inl ⟨_, c, c', h1, h2⟩)) h
 have hw' : Z4t ops s' q = Z4t ops s q := Zho fun j w hg q d hq hd => hs d (Zet hg hq hd)
 have hany : ops.any (ZB5 S) = true := List.any_eq_true.2 ⟨o, hom, ho⟩
 unfold Z0W at h ⊢
 rw [hw']
 split at h
 ·cases h
 ·rename_i w hw
  try dsimp only
  split at h
  ·rename_i hd
   try rw [if_pos hd]
   split at h
   ·rename_i hwt
    try rw [if_pos hwt]
    split at h
    ·cases h
    ·rename_i r' hr'
     split at h
     ·rename_i hkk
      simp only [Option.some.injEq] at h; subst h
      have hev : ∀ z ∈ q.op.operands.toList, s'.ev z = s.ev z := fun z hz => ZAR fun t ht => hs t (ZaH (by rw [<- ht]; exact hz))
      rcases hk with hk | hk
      ·obtain ⟨t, x, hq⟩ := Zv7 hk
       have hx : storeAt q = some x := by unfold storeAt; rw [hq]
       have hb := (ZrR hkk).2
       unfold Z5p at hb
       rw [Bool.and_eq_true] at hb
       replace hb := hb.2
       unfold ZhK at hb
       rw [hx] at hb
       dsimp only at hb
       rw [hk, hany, Bool.and_eq_true] at hb
       replace hb := hb.2
       simp only [Bool.true_and, cond_true] at hb
       obtain ⟨i, off, hsl, hi⟩ : ∃ i off, s.slot x = .ptr i off /\ s'.heap i = s.heap i := by
        split at hb
        ·rename_i i off hsl
         refine ⟨i, off, hsl, ?_⟩
         rcases hu i with h | ⟨c, c', h1, h2⟩
         ·exact h
         ·rw [h1] at hb
          dsimp only at hb
          have := List.all_eq_true.1 hb o hom
          rw [ho, hty] at this
          simp at this
        ·cases hb
       have e0 : s'.slot x = s.slot x := ZnE hx hs
       have hop : Z3j P S s' q = Z3j P S s q := by
        unfold Z3j
        rw [hq]
        dsimp only
        rw [show s'.ev (.tmp x) = s.ev (.tmp x) from e0, show s.ev (.tmp x) = .ptr i off from hsl]
        cases Zt P (isAgg t) with
        | none => rfl
        | some ga =>
         cases Zt P (sizeOf t) with
         | none => rfl
         | some sz =>
          show ld s'.heap ga sz i off = ld s.heap ga sz i off
          unfold ld
          rw [hi]
       have hB : Z5p P S ops q s' = Z5p P S ops q s := by
        unfold Z5p
        rw [ZgL hx e0]
        unfold ZhK
        rw [hx]
        dsimp only
        rw [e0, hsl]
        dsimp only
        rw [hi]
       rw [hop, hr']
       dsimp only
       unfold chkH at hkk ⊢
       rw [hB, if_pos hkk]
      ·exact absurd hk hnk
     ·cases h
   ·rename_i hwt
    rw [if_neg hwt]
    exact h
  ·cases h
theorem ZQ1 (ho : isSt o = true) (h : Z0W P S n ops o s = some r) (hd : r.drop = none) (d : Option Nat) : Uk s.heap (s.apply d r).heap := by
 have key : r.news = [] /\ (r.upd = none \/ ∃ id b, r.upd = some (id, b) /\ ((∃ e c c', s.heap id = some (.box e c) /\ b = .box e c') \/ ∃ e z m c c', s.heap id = some (.row e z m c) /\ b = .row e z m c')) := by
  unfold isSt at ho
  split at ho
  ·rename_i t x y hop
   unfold Z0W at h
   split at h
   ·cases h
   ·split at h
    ·split at h
     ·split at h
      ·cases h
      ·rename_i r' hr'
       split at h
       ·simp only [Option.some.injEq] at h; subst h
        unfold Z3j at hr'
        rw [hop] at hr'
        dsimp only at hr'
        split at hr'
        ·cases hr'
        ·split at hr'
         ·unfold st at hr'
          split at hr'
          ·split at hr'
           ·rename_i hb
            simp only [Option.some.injEq] at hr'; subst hr'
            exact ⟨rfl, .inr ⟨_, _, rfl, .inl ⟨_, _, _, hb, rfl⟩⟩⟩
           ·rename_i hb
            split at hr'
            ·split at hr'
             ·simp only [Option.some.injEq] at hr'; subst hr'
              exact ⟨rfl, .inr ⟨_, _, rfl, .inr ⟨_, _, _, _, _, hb, rfl⟩⟩⟩
             ·cases hr'
            ·cases hr'
           ·cases hr'
          ·cases hr'
         ·cases hr'
       ·cases h
     ·simp only [Option.some.injEq] at h; subst h
      exact ⟨rfl, .inl rfl⟩
    ·cases h
  ·cases ho
 intro j
 obtain ⟨hn, hu⟩ := key
 rw [Z19 hd, hn]
 rcases hu with hu | ⟨id, b, hu, hb⟩
 ·rw [hu]; exact .inl rfl
 ·rw [hu]
  simp only [ul, lk]
  by_cases ej : j = id
  ·subst ej
   rw [if_pos rfl]
   rcases hb with ⟨e, c, c', h1, rfl⟩ | ⟨e, z, m, c, c', h1, rfl⟩
   ·exact .inr (.inl ⟨e, c, c', h1, rfl⟩)
   ·exact .inr (.inr ⟨e, z, m, c, c', h1, rfl⟩)
  ·rw [if_neg ej]
   exact .inl rfl
theorem ZnZ (hom : o ∈ ops) (hqm : q ∈ ops) (wf : WF s) (hap : o.apart ops.toArray q = true) (hal : allowed (cls S o.op) (cls S q.op) = true \/ Zzd ops o q = true \/ Zur S o q = true \/ Zur S q o = true) (h1 : step P S n ops o s = some s1) (h2 : step P S n ops q s1 = some s2) :
  ∃ s3, step P S n ops q s = some s3 /\ step P S n ops o s3 = some s2 := by
 obtain ⟨a1, a2, a3⟩ := Oper.apart_spec hap
 have hcls : cls S o.op ≠ 4 /\ cls S q.op ≠ 4 := by
  rcases hal with hal | hal | hal | hal
  ·exact (Zkb hal).1
  ·obtain ⟨x, y, hx, hy, _⟩ := ZkO hal
   have e1 := ZwS (S := S) hx
   have e2 := ZwS (S := S) hy
   exact ⟨by omega, by omega⟩
  ·obtain ⟨_, e1, e2⟩ := ZbA hal
   exact ⟨by omega, by omega⟩
  ·obtain ⟨_, e1, e2⟩ := ZbA hal
   exact ⟨by omega, by omega⟩
 obtain ⟨hco, hcq⟩ := hcls
 obtain ⟨ro, ho, fo, rfl⟩ := ZcP h1
 have spo := ZfS hco wf ho
 obtain ⟨rq, hq, fq, rfl⟩ := ZcP h2
 have hq' : Z0W P S n ops q s = some rq := by
  have hsl : ∀ t ∈ q.looksAt ops.toArray, (s.apply o.dst ro).slot t = s.slot t := fun t ht => by
   rw [Z3A spo.drop, if_neg]
   intro e
   exact a1 t e ht
  rcases hal with hal | hal | hal | hal
  rotate_left 2
  ·obtain ⟨hkind, e1, e2⟩ := ZbA hal
   rcases hkind with ⟨hs0, ⟨x, hx⟩, hk⟩ | ⟨hs0, hk⟩
   ·rcases ZOK hx ho spo.drop with ⟨_, hh⟩ | ⟨e, hty, hub⟩
    ·rw [<- hq]
     exact (Zbv hsl (.inr ⟨fun id hid => by rw [hh], wf⟩) hcq).symm
    ·exact ZwR hom hs0 hty hk (fun t ht => (hsl t ht).symm) (hub o.dst).symm hq
   ·exact Znv hk (fun t ht => (hsl t ht).symm) (ZQ1 hs0 ho spo.drop o.dst).symm hq
  ·obtain ⟨_, e1, e2⟩ := ZbA hal
   rw [<- hq]
   exact (Zbv hsl (.inr ⟨ZrP spo fo (by omega), wf⟩) hcq).symm
  ·rw [<- hq]
   refine (Zbv hsl ?_ hcq).symm
   by_cases h0 : cls S q.op = 0
   ·exact .inl h0
   ·refine .inr ⟨ZrP spo fo ?_, wf⟩
    intro h3
    exact h0 ((Zkb hal).2.1 h3)
  ·obtain ⟨x, y, hx, hy, hne, hcx, hcy⟩ := ZkO hal
   have hn : ro.news = [] := (Z6Z hx hcx ho).1
   refine (Z6Z hy hcy hq).2.2 s (fun t ht => (hsl t ht).symm) ?_
   rw [Z19 spo.drop]
   have hu : ul ro.upd (4 * y) = none := by
    cases hup : ro.upd with
    | none => rfl
    | some u =>
     have := (Z6Z hx hcx ho).2.1 u hup
     obtain ⟨i, b⟩ := u
     simp only [ul]
     rw [if_neg]
     intro e
     dsimp only at this
     omega
   rw [hu, hn]
   rfl
 have spq := ZfS hcq wf hq'
 have live1 : ∀ id, (s.heap id).isSome = true -> ((s.apply o.dst ro).heap id).isSome = true := by
  intro id hid
  rw [Z19 spo.drop]
  cases ul ro.upd id with
  | some c => rfl
  | none => cases lk ro.news id with
   | some c => rfl
   | none => exact hid
 have fq' : s.fresh rq.news = true := Z5P.2 fun p hp => by
  have := Z5P.1 fq p hp
  cases hs : s.heap p.1 with
  | none => rfl
  | some b =>
   have := live1 p.1 (Zv4 hs)
   rw [Z5P.1 fq p hp] at this
   cases this
 have hdisj : ∀ p ∈ ro.news, ∀ p' ∈ rq.news, p.1 ≠ p'.1 := by
  intro p hp p' hp' e
  obtain ⟨d, j, hd, hj, e1⟩ := spo.ids p hp
  obtain ⟨d', j', hd', hj', e2⟩ := spq.ids p' hp'
  rw [e1, e2] at e
  have : d = d' := Nat.le_antisymm (by omega) (by omega)
  subst this
  exact a2 d hd hd'
 have ho' : Z0W P S n ops o (s.apply q.dst rq) = some ro := by
  have hsl : ∀ t ∈ o.looksAt ops.toArray, (s.apply q.dst rq).slot t = s.slot t := fun t ht => by
   rw [Z3A spq.drop, if_neg]
   intro e
   exact a3 t e ht
  rcases hal with hal | hal | hal | hal
  rotate_left 2
  ·obtain ⟨_, e1, e2⟩ := ZbA hal
   rw [<- ho]
   exact Zbv hsl (.inr ⟨ZrP spq fq' (by omega), wf⟩) hco
  ·obtain ⟨hkind, e1, e2⟩ := ZbA hal
   rcases hkind with ⟨hs0, ⟨x, hx⟩, hk⟩ | ⟨hs0, hk⟩
   ·rcases ZOK hx hq' spq.drop with ⟨_, hh⟩ | ⟨e, hty, hub⟩
    ·rw [<- ho]
     exact Zbv hsl (.inr ⟨fun id hid => by rw [hh], wf⟩) hco
    ·exact ZwR hqm hs0 hty hk hsl (hub q.dst) ho
   ·exact Znv hk hsl (ZQ1 hs0 hq' spq.drop q.dst) ho
  ·rw [<- ho]
   refine Zbv hsl ?_ hco
   by_cases h0 : cls S o.op = 0
   ·exact .inl h0
   ·refine .inr ⟨ZrP spq fq' ?_, wf⟩
    intro h3
    exact h0 ((Zkb hal).2.2 h3)
  ·obtain ⟨x, y, hx, hy, hne, hcx, hcy⟩ := ZkO hal
   have hn : rq.news = [] := (Z6Z hy hcy hq').1
   refine (Z6Z hx hcx ho).2.2 _ hsl ?_
   rw [Z19 spq.drop]
   have hu : ul rq.upd (4 * x) = none := by
    cases hup : rq.upd with
    | none => rfl
    | some u =>
     have := (Z6Z hy hcy hq').2.1 u hup
     obtain ⟨i, b⟩ := u
     simp only [ul]
     rw [if_neg]
     intro e
     dsimp only at this
     omega
   rw [hu, hn]
   rfl
 have fo' : (s.apply q.dst rq).fresh ro.news = true := Z5P.2 fun p hp => by
  rw [Z19 spq.drop]
  have hs := Z5P.1 fo p hp
  have hu : ul rq.upd p.1 = none := by
   cases hup : rq.upd with
   | none => rfl
   | some u =>
    obtain ⟨i, b⟩ := u
    simp only [ul]
    rw [if_neg]
    intro e
    have := spq.live _ hup
    rw [<- e, hs] at this
    cases this
  have hl : lk rq.news p.1 = none := by
   cases hl : lk rq.news p.1 with
   | none => rfl
   | some c =>
    obtain ⟨p', hp', e, _⟩ := Zkm hl
    exact absurd e.symm (hdisj p hp p' hp')
  rw [hu, hl]
  exact hs
 refine ⟨_, ZhU hq' fq', ?_⟩
 rw [ZhU ho' fo']
 congr 1
 have hheap : ((s.apply q.dst rq).apply o.dst ro).heap = ((s.apply o.dst ro).apply q.dst rq).heap := by
  funext x
  rw [Z19 spo.drop, Z19 spq.drop, Z19 spq.drop, Z19 spo.drop]
  have hone : ∀ (u : Option (Nat × Blk)) (l : List (Nat × Blk)) (c : Blk), (∀ v, u = some v -> (s.heap v.1).isSome = true) -> s.fresh l = true -> ul u x = some c -> lk l x = none := by
   intro u l c hu hf hc
   cases hl : lk l x with
   | none => rfl
   | some c' =>
    obtain ⟨p, hp, e, _⟩ := Zkm hl
    cases u with
    | none => cases hc
    | some v =>
     obtain ⟨i, b⟩ := v
     simp only [ul] at hc
     split at hc
     ·rename_i e'
      have := hu _ rfl
      rw [<- e', <- e, Z5P.1 hf p hp] at this
      cases this
     ·cases hc
  have hups : ul ro.upd x = none \/ ul rq.upd x = none := by
   rcases hal with hal | hal | hal | hal
   rotate_left 2
   ·obtain ⟨_, e1, e2⟩ := ZbA hal
    right
    rw [spq.upd (by omega)]
    rfl
   ·obtain ⟨_, e1, e2⟩ := ZbA hal
    left
    rw [spo.upd (by omega)]
    rfl
   rotate_left
   ·obtain ⟨x1, y1, hx1, hy1, hne, hcx, hcy⟩ := ZkO hal
    cases huo : ro.upd with
    | none => exact .inl rfl
    | some u =>
     cases huq : rq.upd with
     | none => exact .inr rfl
     | some v =>
      have e1 := (Z6Z hx1 hcx ho).2.1 u huo
      have e2 := (Z6Z hy1 hcy hq').2.1 v huq
      obtain ⟨i, b⟩ := u
      obtain ⟨j, c⟩ := v
      dsimp only at e1 e2
      by_cases e : x = i
      ·right
       simp only [ul]
       rw [if_neg]
       omega
      ·left
       simp only [ul]
       rw [if_neg e]
   by_cases h3 : cls S o.op = 3
   ·right
    have : cls S q.op ≠ 3 := by
     intro h
     rw [h3, h] at hal
     cases hal
    rw [spq.upd this]
    rfl
   ·left
    rw [spo.upd h3]
    rfl
  cases huo : ul ro.upd x with
  | some c =>
   have huq := hups.resolve_left (by rw [huo]; simp)
   rw [huq, hone _ _ c spo.live fq' huo]
  | none =>
   cases huq : ul rq.upd x with
   | some c =>
    rw [hone _ _ c spq.live fo huq]
   | none =>
    cases hlo : lk ro.news x with
    | none => cases lk rq.news x <;> rfl
    | some c =>
     cases hlq : lk rq.news x with
     | none => rfl
     | some c' =>
      obtain ⟨p, hp, e, _⟩ := Zkm hlo
      obtain ⟨p', hp', e', _⟩ := Zkm hlq
      exact absurd (e.trans e'.symm) (hdisj p hp p' hp')
 have hslot : ((s.apply q.dst rq).apply o.dst ro).slot = ((s.apply o.dst ro).apply q.dst rq).slot := by
  funext t
  rw [Z3A spo.drop, Z3A spq.drop, Z3A spq.drop, Z3A spo.drop]
  by_cases e1 : o.dst = some t
  ·rw [if_pos e1, if_neg (a2 t e1), if_pos e1]
  ·rw [if_neg e1]
   by_cases e2 : q.dst = some t
   ·rw [if_pos e2, if_pos e2]
   ·rw [if_neg e2, if_neg e2, if_neg e1]
 cases hA : (s.apply q.dst rq).apply o.dst ro
 cases hB : (s.apply o.dst ro).apply q.dst rq
 rw [hA, hB] at hheap hslot
 simp only at hheap hslot
 rw [hheap, hslot]
end
section
variable {P : Program} {S : Sums} {n : Nat} {s s' s1 s2 : FSt} {o q : Oper} {r : Out} {ops : List Oper}
theorem ZPc (h : mixB ops o q = true) : ∃ x y t t' z, o.op = .load t (.tmp x) /\ q.op = .store t' (.tmp y) z /\ x ≠ y := by
 unfold mixB at h
 split at h
 ·rename_i x y hx hy
  simp only [Bool.and_eq_true, Bool.not_eq_true'] at h
  obtain ⟨⟨h1, h2⟩, h3, _⟩ := h
  have hne : x ≠ y := by rintro rfl; rw [Nat.beq_refl] at h3; cases h3
  rcases ZeH hx with ⟨t, z, e⟩ | ⟨t, e⟩
  ·unfold loadAt at h1; rw [e] at h1; cases h1
  ·rcases ZeH hy with ⟨t', z, e'⟩ | ⟨t', e'⟩
   ·exact ⟨x, y, t, t', z, e, e', hne⟩
   ·unfold isSt at h2; rw [e'] at h2; cases h2
 ·cases h
theorem Zeb (h : Z0W P S n ops o s = some r) : (Z0F n o.dst = true /\ Z4t ops s o = some true /\ Z3j P S s o = some r /\ Z5p P S ops o s = true /\ chkH P S ops o s r.chk = true) \/ (Z0F n o.dst = true /\ Z4t ops s o = some false /\ r = .pure true (.val undef)) := by
 unfold Z0W at h
 split at h
 ·cases h
 ·rename_i w hw
  split at h
  ·rename_i hd
   split at h
   ·rename_i hwt
    subst hwt
    split at h
    ·cases h
    ·rename_i r' hr'
     split at h
     ·rename_i hk
      simp only [Option.some.injEq] at h; subst h
      exact .inl ⟨hd, hw, hr', (ZrR hk).2, hk⟩
     ·cases h
   ·rename_i hwt
    simp only [Option.some.injEq] at h; subst h
    refine .inr ⟨hd, ?_, rfl⟩
    cases w
    ·exact hw
    ·exact absurd rfl hwt
  ·cases h
theorem Znw (hd : Z0F n o.dst = true) (hw : Z4t ops s o = some true) (hr : Z3j P S s o = some r) (hk : chkH P S ops o s r.chk = true) : Z0W P S n ops o s = some r := by
 unfold Z0W
 rw [hw]
 dsimp only
 rw [if_pos hd, if_pos rfl, hr]
 dsimp only
 rw [if_pos hk]
theorem ZKU (hd : Z0F n o.dst = true) (hw : Z4t ops s o = some false) : Z0W P S n ops o s = some (.pure true (.val undef)) := by
 unfold Z0W
 rw [hw]
 dsimp only
 rw [if_pos hd, if_neg (by simp)]
theorem ZLJ {H : Nat -> Option Blk} {ag : Bool} {sz id off : Nat} (h : ld H ag sz id off = some r) : r.news = [] /\ r.upd = none /\ r.drop = none := by
 unfold ld at h
 repeat' split at h
 all_goals first
  | (simp only [Option.some.injEq] at h; subst h; exact ⟨rfl, rfl, rfl⟩)
  | cases h
theorem ZJ3 {t : TypeId} {x : Nat} (ho : o.op = .load t (.tmp x)) (h : Z3j P S s o = some r) : ∃ i off ag sz, s.slot x = .ptr i off /\ Zt P (isAgg t) = some ag /\ Zt P (sizeOf t) = some sz /\ ld s.heap ag sz i off = some r := by
 unfold Z3j at h
 rw [ho] at h
 dsimp only [ZmP] at h
 split at h
 ·rename_i i off ag sz hx hag hsz
  exact ⟨i, off, ag, sz, hx, hag, hsz, h⟩
 ·cases h
theorem ZLM {t : TypeId} {x i off sz : Nat} {ag : Bool} (ho : o.op = .load t (.tmp x)) (hx : s.slot x = .ptr i off) (hag : Zt P (isAgg t) = some ag) (hsz : Zt P (sizeOf t) = some sz) (hl : ld s.heap ag sz i off = some r) : Z3j P S s o = some r := by
 unfold Z3j
 rw [ho]
 dsimp only [ZmP]
 rw [show s.ev (.tmp x) = .ptr i off from hx, hag, hsz]
 exact hl
theorem ZPW {H H' : Nat -> Option Blk} {ag : Bool} {sz id off : Nat} (h : H' id = H id) : ld H' ag sz id off = ld H ag sz id off := by
 unfold ld
 rw [h]
theorem Ztf {t : TypeId} {x : Nat} (ho : o.op = .load t (.tmp x)) : storeAt o = some x := by unfold storeAt; rw [ho]
theorem Zpl {t : TypeId} {x : Nat} {z : Operand} (ho : o.op = .store t (.tmp x) z) : storeAt o = some x := by unfold storeAt; rw [ho]
theorem ZHh (hqm : q ∈ ops) (hm : mixB ops o q = true) {t : TypeId} {x y : Nat} (ho : o.op = .load t (.tmp x)) (hy : storeAt q = some y) (h : Z0W P S n ops o s = some r) :
  r.news = [] /\ r.upd = none /\ r.drop = none /\ ∀ s' : FSt, (∀ t ∈ o.looksAt ops.toArray, s'.slot t = s.slot t) -> (∀ i, i ≠ 4 * y -> s'.heap i = s.heap i) -> Z0W P S n ops o s' = some r := by
 have hx := Ztf ho
 have hw' : ∀ s' : FSt, (∀ t ∈ o.looksAt ops.toArray, s'.slot t = s.slot t) -> Z4t ops s' o = Z4t ops s o := fun s' hs => Zho fun j w hg q d hq hd => hs d (Zet hg hq hd)
 rcases Zeb h with ⟨hd, hw, hr, hh, hk⟩ | ⟨hd, hw, rfl⟩
 ·obtain ⟨i, off, ag, sz, hsl, hag, hsz, hl⟩ := ZJ3 ho hr
  obtain ⟨f1, f2, f3⟩ := ZLJ hl
  refine ⟨f1, f2, f3, fun s' hs hheap => ?_⟩
  have e0 : s'.slot x = s.slot x := ZnE hx hs
  have hi : i ≠ 4 * y := by
   unfold Z5p at hh
   rw [Bool.and_eq_true] at hh
   have h1 := hh.1
   unfold Zjf at h1
   rw [hx] at h1
   dsimp only at h1
   unfold mixH at h1
   have hla : loadAt o = true := by unfold loadAt; rw [ho]
   rw [hla] at h1
   simp only [cond_true] at h1
   have := List.all_eq_true.1 h1 q hqm
   rw [hm, hy, hsl] at this
   simp only [cond_true, Bool.not_eq_true'] at this
   rintro rfl
   rw [Nat.beq_refl] at this
   cases this
  refine Znw hd (by rw [hw' s' hs, hw]) (ZLM ho (by rw [e0, hsl]) hag hsz (by rw [ZPW (hheap i hi)]; exact hl)) ?_
  have hB : Z5p P S ops o s' = Z5p P S ops o s := by
   unfold Z5p
   rw [ZgL hx e0]
   unfold ZhK
   rw [hx]
   dsimp only
   rw [e0, hsl]
   dsimp only
   rw [hheap i hi]
  unfold chkH at hk ⊢
  rw [hB]
  exact hk
 ·exact ⟨rfl, rfl, rfl, fun s' hs _ => ZKU hd (by rw [hw' s' hs, hw])⟩
theorem ZDV (hom : o ∈ ops) (hm : mixB ops o q = true) {t : TypeId} {y : Nat} {z : Operand} (hq : q.op = .store t (.tmp y) z) (h : Z0W P S n ops q s = some r) : r.news = [] /\ r.drop = none /\ ∀ u, r.upd = some u -> u.1 = 4 * y := by
 have hy := Zpl hq
 rcases Zeb h with ⟨hd, hw, hr, hh, hk⟩ | ⟨hd, hw, rfl⟩
 ·unfold Z5p at hh
  rw [Bool.and_eq_true] at hh
  have h1 := hh.1
  unfold Zjf at h1
  rw [hy] at h1
  dsimp only at h1
  unfold mixH at h1
  have hla : loadAt q = false := by unfold loadAt; rw [hq]
  have hany : ops.any (fun z => mixB ops z q) = true := List.any_eq_true.2 ⟨o, hom, hm⟩
  rw [hla, hany] at h1
  simp only [cond_true, cond_false] at h1
  obtain ⟨off, hsl⟩ : ∃ off, s.slot y = .ptr (4 * y) off := by
   split at h1
   ·rename_i i off hsl
    obtain rfl := Nat.eq_of_beq_eq_true h1
    exact ⟨off, hsl⟩
   ·cases h1
  unfold Z3j at hr
  rw [hq] at hr
  dsimp only at hr
  rw [show s.ev (.tmp y) = .ptr (4 * y) off from hsl] at hr
  split at hr
  ·cases hr
  ·(try dsimp only at hr)
   split at hr
   ·rename_i e1 e2
    simp only [SV.ptr.injEq] at e1
    obtain ⟨rfl, rfl⟩ := e1
    unfold st at hr
    repeat' split at hr
    all_goals first
     | (simp only [Option.some.injEq] at hr; subst hr; exact ⟨rfl, rfl, fun u hu => by simp only [Option.some.injEq] at hu; subst hu; rfl⟩)
     | cases hr
   ·cases hr
 ·exact ⟨rfl, rfl, fun u hu => by cases hu⟩
theorem ZOL (hom : o ∈ ops) (hqm : q ∈ ops) (wf : WF s) (hap : o.apart ops.toArray q = true) (hm : mixB ops o q = true) (h1 : step P S n ops o s = some s1) (h2 : step P S n ops q s1 = some s2) :
  ∃ s3, step P S n ops q s = some s3 /\ step P S n ops o s3 = some s2 := by
 obtain ⟨a1, a2, a3⟩ := Oper.apart_spec hap
 obtain ⟨x, y, t, t', z, eo, eq, hne⟩ := ZPc hm
 have hco : cls S o.op ≠ 4 := by rw [eo]; simp [cls]
 have hcq : cls S q.op ≠ 4 := by rw [eq]; simp [cls]
 have hy := Zpl eq
 obtain ⟨ro, ho, fo, rfl⟩ := ZcP h1
 have spo := ZfS hco wf ho
 obtain ⟨n1, u1, d1, keep⟩ := ZHh hqm hm eo hy ho
 obtain ⟨rq, hq, fq, rfl⟩ := ZcP h2
 have hsl : ∀ t ∈ q.looksAt ops.toArray, (s.apply o.dst ro).slot t = s.slot t := fun t ht => by
  rw [Z3A d1, if_neg]
  intro e
  exact a1 t e ht
 have hh1 : (s.apply o.dst ro).heap = s.heap := by
  funext j
  rw [Z19 d1, u1, n1]
  rfl
 have hq' : Z0W P S n ops q s = some rq := by
  rw [<- hq]
  exact (Zbv hsl (.inr ⟨fun id _ => by rw [hh1], wf⟩) hcq).symm
 obtain ⟨n2, d2, u2⟩ := ZDV hom hm eq hq'
 have ho' : Z0W P S n ops o (s.apply q.dst rq) = some ro := by
  refine keep _ (fun t ht => ?_) fun i hi => ?_
  ·rw [Z3A d2, if_neg]
   intro e
   exact a3 t e ht
  ·rw [Z19 d2, n2]
   have : ul rq.upd i = none := by
    cases hu : rq.upd with
    | none => rfl
    | some u =>
     have := u2 u hu
     obtain ⟨j, b⟩ := u
     simp only [ul]
     rw [if_neg]
     intro e
     dsimp only at this
     omega
   rw [this]
   rfl
 refine ⟨_, ZhU hq' (by rw [n2]; rfl), ?_⟩
 rw [ZhU ho' (by rw [n1]; rfl)]
 congr 1
 have e1 : ((s.apply q.dst rq).apply o.dst ro).heap = ((s.apply o.dst ro).apply q.dst rq).heap := by
  funext j
  rw [Z19 d1, Z19 d2, Z19 d2, Z19 d1, u1, n1, n2]
  rfl
 have e2 : ((s.apply q.dst rq).apply o.dst ro).slot = ((s.apply o.dst ro).apply q.dst rq).slot := by
  funext j
  rw [Z3A d1, Z3A d2, Z3A d2, Z3A d1]
  by_cases c1 : o.dst = some j
  ·rw [if_pos c1, if_neg (a2 j c1), if_pos c1]
  ·rw [if_neg c1]
   by_cases c2 : q.dst = some j
   ·rw [if_pos c2, if_pos c2]
   ·rw [if_neg c2, if_neg c2, if_neg c1]
 generalize (s.apply q.dst rq).apply o.dst ro = A at e1 e2
 generalize (s.apply o.dst ro).apply q.dst rq = B at e1 e2
 cases A; cases B
 simp only at e1 e2
 rw [e1, e2]
end
section
variable {P : Program} {S : Sums} {n : Nat} {s s' s1 s2 : FSt} {o q : Oper} {r : Out} {ops : List Oper}
def kS : Option Nat -> SV -> SV
 | none, v => v
 | some id, v => Z1L id v
def kB : Option Nat -> Blk -> Blk
 | none, b => b
 | some id, b => ZmV id b
theorem Zca (dr : Option Nat) (t : Nat) : (s.dropped dr).slot t = kS dr (s.slot t) := by cases dr <;> rfl
theorem ZfK {dr : Option Nat} {i : Nat} (h : dr ≠ some i) : (s.dropped dr).heap i = (s.heap i).map (kB dr) := by
 cases dr with
 | none => show s.heap i = _; cases s.heap i <;> rfl
 | some id =>
  have : i ≠ id := by rintro rfl; exact h rfl
  show (s.kill id).heap i = _
  rw [ZuZ this]
  cases s.heap i <;> rfl
theorem Zs0 (id : Nat) : (s.dropped (some id)).heap id = none := by
 show (bif Nat.beq id id then none else _) = none
 simp
theorem ZQk {dr : Option Nat} {v : SV} {i off : Nat} (h : kS dr v = .ptr i off) : v = .ptr i off /\ dr ≠ some i := by
 cases dr with
 | none => exact ⟨h, by simp⟩
 | some id =>
  cases v with
  | ptr j o =>
   simp only [kS, Z1L] at h
   cases hb : Nat.beq j id with
   | true => rw [hb] at h; cases h
   | false =>
    rw [hb] at h
    simp only [cond_false, SV.ptr.injEq] at h
    obtain ⟨rfl, rfl⟩ := h
    exact ⟨rfl, by rintro ⟨⟩; rw [Nat.beq_refl] at hb; cases hb⟩
  | row j => simp only [kS, Z1L] at h; cases hb : Nat.beq j id <;> rw [hb] at h <;> cases h
  | sub j o k z => simp only [kS, Z1L] at h; cases hb : Nat.beq j id <;> rw [hb] at h <;> cases h
  | clo f l => simp only [kS, Z1L] at h; cases hb : l.any (Nat.beq id) <;> rw [hb] at h <;> cases h
  | tup l => simp only [kS, Z1L] at h; cases hb : Zcd id l <;> rw [hb] at h <;> cases h
  | agr l => simp only [kS, Z1L] at h; cases hb : Zcd id l <;> rw [hb] at h <;> cases h
  | val v => cases h
  | fn g => cases h
  | junk => cases h
theorem ZOf {dr : Option Nat} {v : SV} {x : Value} (h : kS dr v = .val x) : v = .val x := by
 cases dr with
 | none => exact h
 | some id =>
  cases v with
  | val y => exact h
  | ptr j o => simp only [kS, Z1L] at h; cases hb : Nat.beq j id <;> rw [hb] at h <;> cases h
  | row j => simp only [kS, Z1L] at h; cases hb : Nat.beq j id <;> rw [hb] at h <;> cases h
  | sub j o k z => simp only [kS, Z1L] at h; cases hb : Nat.beq j id <;> rw [hb] at h <;> cases h
  | clo f l => simp only [kS, Z1L] at h; cases hb : l.any (Nat.beq id) <;> rw [hb] at h <;> cases h
  | tup l => simp only [kS, Z1L] at h; cases hb : Zcd id l <;> rw [hb] at h <;> cases h
  | agr l => simp only [kS, Z1L] at h; cases hb : Zcd id l <;> rw [hb] at h <;> cases h
  | fn g => cases h
  | junk => cases h
theorem ZMi {dr : Option Nat} : ∀ {l : List SV} {m : List Value}, SV.vals (l.map (kS dr)) = some m -> SV.vals l = some m
 | [], m, h => h
 | x :: l, m, h => by
  rw [List.map_cons] at h
  cases hx : kS dr x with
  | val y =>
   rw [hx] at h
   simp only [SV.vals] at h
   split at h
   ·rename_i m' hm
    simp only [Option.some.injEq] at h; subst h
    rw [ZOf hx]
    simp only [SV.vals, ZMi hm]
   ·cases h
  | _ => rw [hx] at h; cases h
theorem ZP6 {H H' : Nat -> Option Blk} {dr : Option Nat} {ag : Bool} {sz i off : Nat} (hH : H' i = (H i).map (kB dr)) (h : ld H' ag sz i off = some r) : ∃ v0, ld H ag sz i off = some ⟨r.chk, v0, [], none, none⟩ /\ r = ⟨r.chk, kS dr v0, [], none, none⟩ := by
 cases dr with
 | none =>
  have e : H' i = H i := by rw [hH]; cases H i <;> rfl
  rw [ZPW e] at h
  obtain ⟨f1, f2, f3⟩ := ZLJ h
  obtain ⟨c, v, l, u, d⟩ := r
  simp only at f1 f2 f3
  subst f1; subst f2; subst f3
  exact ⟨v, h, rfl⟩
 | some id =>
  unfold ld at h ⊢
  rw [hH] at h
  cases hb : H i with
  | none => rw [hb] at h; cases h
  | some b =>
   rw [hb] at h
   have boxy : ∀ cells : List SV, (if ag = true then
     match SV.vals (((cells.map (Z1L id)).drop off).take sz) with
     | some l => if Nat.beq l.length sz = true then some (Out.pure true (.val (.agg l.toArray))) else none
     | none => none
    else match (cells.map (Z1L id))[off]? with
     | some v => some (.pure true v)
     | none => none) = some r -> ∃ v0, (if ag = true then
     match SV.vals ((cells.drop off).take sz) with
     | some l => if Nat.beq l.length sz = true then some (Out.pure true (.val (.agg l.toArray))) else none
     | none => none
    else match cells[off]? with
     | some v => some (.pure true v)
     | none => none) = some ⟨r.chk, v0, [], none, none⟩ /\ r = ⟨r.chk, kS (some id) v0, [], none, none⟩ := by
    intro cells h
    cases ag with
    | true =>
     simp only [if_true] at h ⊢
     split at h
     ·rename_i l hl
      rw [<- List.map_drop, <- List.map_take] at hl
      rw [ZMi (dr := some id) hl]
      dsimp only
      split at h
      ·rename_i Z4X
       rw [if_pos Z4X]
       simp only [Option.some.injEq] at h; subst h
       exact ⟨_, rfl, rfl⟩
      ·cases h
     ·cases h
    | false =>
     simp only [Bool.false_eq_true, if_false] at h ⊢
     rw [List.getElem?_map] at h
     cases hc : cells[off]? with
     | none => rw [hc] at h; cases h
     | some v =>
      rw [hc] at h
      simp only [Option.map_some, Option.some.injEq] at h; subst h
      exact ⟨v, rfl, rfl⟩
   cases b with
   | box e cells => exact boxy cells h
   | rop cells => exact boxy cells h
   | row e z m c =>
    simp only [Option.map_some, kB, ZmV] at h
    dsimp only at h ⊢
    split at h
    ·rename_i ha
     rw [if_pos ha]
     simp only [Option.some.injEq] at h; subst h
     exact ⟨_, rfl, rfl⟩
    ·rename_i ha
     rw [if_neg ha]
     simp only [Option.some.injEq] at h; subst h
     exact ⟨_, rfl, rfl⟩
   | ros m c =>
    simp only [Option.map_some, kB, ZmV] at h
    dsimp only at h ⊢
    split at h
    ·rename_i ha
     rw [if_pos ha]
     simp only [Option.some.injEq] at h; subst h
     exact ⟨_, rfl, rfl⟩
    ·rename_i ha
     rw [if_neg ha]
     simp only [Option.some.injEq] at h; subst h
     exact ⟨_, rfl, rfl⟩
theorem ZG1 (h : ZgO o = true) : ∃ c, o.op = .call c /\ c.callee = .builtin .append := by
 unfold ZgO at h
 split at h
 ·rename_i c hc
  split at h
  ·rename_i hb
   exact ⟨c, hc, hb⟩
  ·cases h
 ·cases h
theorem ZOV (ha : ZgO o = true) (h : Z3j P S s o = some r) : ∃ d e z m c dr ck, o.dst = some d /\ r = ⟨ck, .row (4 * d), [(4 * d, .row e z m c)], none, dr⟩ /\ (∀ id, dr = some id -> ZpK o s = .row id) := by
 obtain ⟨c, ho, hc⟩ := ZG1 ha
 unfold Z3j at h
 rw [ho] at h
 dsimp only at h
 rw [hc] at h
 dsimp only at h
 split at h
 ·rename_i d x y t u hd hargs hts
  split at h
  ·have harg : ZpK o s = x := by
    unfold ZpK
    rw [ho]
    dsimp only
    cases hl : c.args.toList with
    | nil => rw [hl] at hargs; cases hargs
    | cons a l =>
     rw [hl] at hargs
     simp only [List.map_cons, List.cons.injEq] at hargs
     exact hargs.1
   rw [harg]
   unfold Z9Q at h
   split at h
   ·split at h
    ·split at h
     ·split at h
      ·split at h
       ·simp only [Option.some.injEq] at h; subst h
        exact ⟨d, _, _, _, _, none, _, hd, rfl, fun id e => by cases e⟩
       ·rename_i id
        split at h
        ·split at h
         ·split at h
          ·simp only [Option.some.injEq] at h; subst h
           exact ⟨d, _, _, _, _, some id, _, hd, rfl, fun id' e => by cases e; rfl⟩
          ·cases h
         ·cases h
        ·cases h
       ·cases h
      ·cases h
     ·cases h
    ·cases h
   ·cases h
  ·cases h
 ·cases h
theorem ZMw (ag : Ag s.heap s'.heap) (wf : WF s) {d : Nat} {t : TypeId} {x y : SV} (hx : SVok s.heap x) (hy : SVok s.heap y) : Z9Q P s' d t x y = Z9Q P s d t x y := by
 have hpv : PVof s'.heap (fun _ _ => none) y = PVof s.heap (fun _ _ => none) y := by
  have h := ZL4 (S := ⟨fun _ => none, fun _ => none, false⟩) ag wf.heap hy
  have e : ∀ H, ZhF ⟨fun _ => none, fun _ => none, false⟩ H = fun _ _ => none := fun H => by funext f caps; rfl
  rwa [e, e] at h
 unfold Z9Q
 rw [hpv]
 cases x with
 | row id =>
  have hx : (s.heap id).isSome = true := hx
  simp only [ag id hx]
 | val v =>
  cases v <;> try rfl
  rename_i a m c
  cases a <;> cases m <;> cases c <;> rfl
 | ptr i o => rfl
 | sub i o k z => rfl
 | clo f l => rfl
 | fn g => rfl
 | tup l => rfl
 | agr l => rfl
 | junk => rfl
theorem ZQ4 (ha : ZgO o = true) (hs : ∀ t ∈ o.looksAt ops.toArray, s'.slot t = s.slot t) (ag : Ag s.heap s'.heap) (wf : WF s) : Z3j P S s' o = Z3j P S s o := by
 obtain ⟨c, ho, hc⟩ := ZG1 ha
 have hev : ∀ z ∈ o.op.operands.toList, s'.ev z = s.ev z := fun z hz => ZAR fun t ht => hs t (ZaH (by rw [<- ht]; exact hz))
 rw [ho] at hev
 have hargs : ∀ x ∈ c.args.toList, s'.ev x = s.ev x := fun x hx => hev x (by simp only [Op.operands, Call.operands]; simp; exact .inr (by simpa using hx))
 have hmap : c.args.toList.map s'.ev = c.args.toList.map s.ev := List.map_congr_left hargs
 unfold Z3j
 rw [ho]
 dsimp only
 rw [hc]
 dsimp only
 rw [hmap]
 cases o.dst with
 | none => rfl
 | some d =>
  cases hl : c.args.toList with
  | nil => rfl
  | cons X l =>
   have wX := wf.ev X
   cases l with
   | nil => rfl
   | cons Y l =>
    have wY := wf.ev Y
    cases l with
    | cons Z l => rfl
    | nil =>
     simp only [List.map_cons, List.map_nil]
     generalize c.argTypes.toList = ts
     match ts with
     | [] => rfl
     | [_] => rfl
     | [t, u] =>
      dsimp only
      rw [ZMw ag wf wX wY]
     | _ :: _ :: _ :: _ => rfl
theorem ZNw (ha : ZgO o = true) (hs : ∀ t ∈ o.looksAt ops.toArray, s'.slot t = s.slot t) : Z5p P S ops o s' = Z5p P S ops o s := by
 obtain ⟨c, ho, hc⟩ := ZG1 ha
 have hev : ∀ z ∈ o.op.operands.toList, s'.ev z = s.ev z := fun z hz => ZAR fun t ht => hs t (ZaH (by rw [<- ht]; exact hz))
 rw [ho] at hev
 have h1 : storeAt o = none := by unfold storeAt; rw [ho]
 have h2 : ZeG S o = none := by unfold ZeG; rw [ho]; simp only; rw [hc]
 have h3 : ZpK o s' = ZpK o s := by
  unfold ZpK
  rw [ho]
  dsimp only
  cases hl : c.args.toList with
  | nil => rfl
  | cons a l =>
   have h0 : a ∈ c.args.toList := by rw [hl]; simp
   exact hev a (by simp only [Op.operands, Call.operands]; simp; exact .inr (by simpa using h0))
 unfold Z5p Zjf ZhK
 rw [h1, h2]
 dsimp only
 unfold ZF1
 rw [h3]
theorem ZhC (h : bare o = true) : Z4t ops s o = some true := by
 unfold bare at h
 unfold Z4t
 split at h
 ·rename_i e; rw [e]
 ·cases h
theorem ZN8 (hqm : q ∈ ops) (wf : WF s) (hap : o.apart ops.toArray q = true) (hl : ZLI ops o q = true) (h1 : step P S n ops o s = some s1) (h2 : step P S n ops q s1 = some s2) :
  ∃ s3, step P S n ops q s = some s3 /\ step P S n ops o s3 = some s2 := by
 obtain ⟨a1, a2, a3⟩ := Oper.apart_spec hap
 have hl0 := hl
 unfold ZLI at hl
 simp only [Bool.and_eq_true, Bool.or_eq_true] at hl
 obtain ⟨ha, hk, ⟨bo, bq⟩, _⟩ := hl
 obtain ⟨ro, ho, fo, rfl⟩ := ZcP h1
 obtain ⟨rq, hq, fq, rfl⟩ := ZcP h2
 rcases Zeb ho with ⟨hdo, _, hro, hho, hko⟩ | ⟨_, hw, _⟩
 rotate_left
 ·rw [ZhC bo] at hw; cases hw
 rcases Zeb hq with ⟨hdq, _, hrq, hhq, hkq⟩ | ⟨_, hw, _⟩
 rotate_left
 ·rw [ZhC bq] at hw; cases hw
 obtain ⟨d, e, z, m, c, dr, ck, hd, rfl, hdr⟩ := ZOV ha hro
 have hfd : s.heap (4 * d) = none := Z5P.1 fo _ (List.mem_singleton.2 rfl)
 have sl1 : ∀ t, t ≠ d -> (s.apply o.dst ⟨ck, .row (4 * d), [(4 * d, .row e z m c)], none, dr⟩).slot t = kS dr (s.slot t) := by
  intro t ht
  show (((s.dropped dr).set (4 * d) _).put o.dst _).slot t = _
  rw [Z8l, hd, if_neg (by simpa using fun h => ht h.symm)]
  exact Zca dr t
 have hp1 : ∀ i, i ≠ 4 * d -> dr ≠ some i -> (s.apply o.dst ⟨ck, .row (4 * d), [(4 * d, .row e z m c)], none, dr⟩).heap i = (s.heap i).map (kB dr) := by
  intro i hi hne
  show (((s.dropped dr).set (4 * d) _).put o.dst _).heap i = _
  rw [Z6Q, Z58, if_neg hi]
  exact ZfK hne
 have hqd : ∀ t ∈ q.looksAt ops.toArray, t ≠ d := fun t ht e => a1 t (by rw [hd, e]) ht
 -- the whole, once the other operation is known in the first state
 have fin : ∀ rq0 : Out, Z3j P S s q = some rq0 -> chkH P S ops q s rq0.chk = true -> s.fresh rq0.news = true -> rq0.upd = none -> rq0.drop = none -> (∀ p ∈ rq0.news, dr ≠ some p.1 /\ p.1 ≠ 4 * d) ->
   (∀ j, ((((s.apply q.dst rq0).dropped dr).set (4 * d) (.row e z m c)).put o.dst (.row (4 * d))).heap j = ((s.apply o.dst ⟨ck, .row (4 * d), [(4 * d, .row e z m c)], none, dr⟩).apply q.dst rq).heap j) ->
   (∀ j, ((((s.apply q.dst rq0).dropped dr).set (4 * d) (.row e z m c)).put o.dst (.row (4 * d))).slot j = ((s.apply o.dst ⟨ck, .row (4 * d), [(4 * d, .row e z m c)], none, dr⟩).apply q.dst rq).slot j) ->
   ∃ s3, step P S n ops q s = some s3 /\ step P S n ops o s3 = some ((s.apply o.dst ⟨ck, .row (4 * d), [(4 * d, .row e z m c)], none, dr⟩).apply q.dst rq) := by
  intro rq0 hop hck hf0 hu0 hd0 hnw hheap hslot
  have ag : Ag s.heap (s.apply q.dst rq0).heap := by
   intro id hid
   rw [Z19 hd0, hu0]
   simp only [ul]
   cases hlk : lk rq0.news id with
   | none => rfl
   | some c' =>
    obtain ⟨p, hp, e', _⟩ := Zkm hlk
    rw [<- e', Z5P.1 hf0 p hp] at hid
    cases hid
  have hso : ∀ t ∈ o.looksAt ops.toArray, (s.apply q.dst rq0).slot t = s.slot t := fun t ht => by
   rw [Z3A hd0, if_neg]
   intro e'
   exact a3 t e' ht
  refine ⟨_, ZhU (Znw hdq (ZhC bq) hop hck) hf0, ?_⟩
  have hko' : chkH P S ops o (s.apply q.dst rq0) ck = true := by
   unfold chkH at hko ⊢
   rw [ZNw ha hso]
   exact hko
  have hfo' : (s.apply q.dst rq0).fresh [(4 * d, .row e z m c)] = true := Z5P.2 fun p hp => by
   rw [List.mem_singleton.1 hp]
   show (s.apply q.dst rq0).heap (4 * d) = none
   rw [Z19 hd0, hu0]
   simp only [ul]
   cases hlk : lk rq0.news (4 * d) with
   | none => exact hfd
   | some c' =>
    obtain ⟨p, hp, e', _⟩ := Zkm hlk
    exact absurd e' (hnw p hp).2
  rw [ZhU (Znw hdo (ZhC bo) ((ZQ4 ha hso ag wf).trans hro) hko') hfo']
  congr 1
  show (((s.apply q.dst rq0).dropped dr).set (4 * d) (.row e z m c)).put o.dst (.row (4 * d)) = _
  have e1 := funext hheap
  have e2 := funext hslot
  generalize (((s.apply q.dst rq0).dropped dr).set (4 * d) (.row e z m c)).put o.dst (.row (4 * d)) = A at e1 e2
  generalize (s.apply o.dst ⟨ck, .row (4 * d), [(4 * d, .row e z m c)], none, dr⟩).apply q.dst rq = B at e1 e2
  cases A; cases B
  simp only at e1 e2
  rw [e1, e2]
 rcases hk with hk | hk
 ·obtain ⟨t, x, hqo⟩ := Zv7 hk
  have hx := Ztf hqo
  have hxd : x ≠ d := hqd x (ZaH (by rw [hqo]; simp [Op.operands]))
  obtain ⟨i, off, ag, sz, hsl, hag, hsz, hld⟩ := ZJ3 hqo hrq
  have hsl' := hsl
  rw [sl1 x hxd] at hsl'
  obtain ⟨hs0, hne⟩ := ZQk hsl'
  have hid : i ≠ 4 * d := by
   rintro rfl
   have := wf.slots x
   rw [hs0] at this
   have : (s.heap (4 * d)).isSome = true := this
   rw [hfd] at this
   cases this
  obtain ⟨v0, hl0', hrq'⟩ := ZP6 (hp1 i hid hne) hld
  refine fin ⟨rq.chk, v0, [], none, none⟩ (ZLM hqo hs0 hag hsz hl0') ?_ rfl rfl rfl (fun p hp => by cases hp) ?_ ?_
  ·have hB : Z5p P S ops q s = Z5p P S ops q (s.apply o.dst ⟨ck, .row (4 * d), [(4 * d, .row e z m c)], none, dr⟩) := by
    unfold Z5p
    rw [ZgL hx (s := s.apply o.dst ⟨ck, .row (4 * d), [(4 * d, .row e z m c)], none, dr⟩) (s' := s) (by rw [hs0, hsl])]
    unfold ZhK
    rw [hx]
    dsimp only
    rw [hs0, hsl]
    dsimp only
    rw [hp1 i hid hne]
    cases s.heap i with
    | none => rfl
    | some b => cases b <;> cases dr <;> rfl
   unfold chkH at hkq ⊢
   rw [hB]
   exact hkq
  ·intro j
   rw [hrq']
   show ((((s.put q.dst v0).dropped dr).set (4 * d) _).put o.dst _).heap j = ((((s.dropped dr).set (4 * d) _).put o.dst _).put q.dst _).heap j
   have eL : ((((s.put q.dst v0).dropped dr).set (4 * d) (.row e z m c)).put o.dst (.row (4 * d))).heap j = if j = 4 * d then some (.row e z m c) else ((s.put q.dst v0).dropped dr).heap j := by rw [Z6Q, Z58]
   have eR : ((((s.dropped dr).set (4 * d) (.row e z m c)).put o.dst (.row (4 * d))).put q.dst (kS dr v0)).heap j = if j = 4 * d then some (.row e z m c) else (s.dropped dr).heap j := by rw [Z6Q, Z6Q, Z58]
   rw [eL, eR]
   have e3 : ((s.put q.dst v0).dropped dr).heap j = (s.dropped dr).heap j := by
    cases dr with
    | none => exact congrFun (Z6Q q.dst v0) j
    | some id =>
     show (bif Nat.beq j id then none else match (s.put q.dst v0).heap j with | some b => some (ZmV id b) | none => none) = _
     rw [Z6Q]
     rfl
   rw [e3]
  ·intro j
   rw [hrq']
   show ((((s.put q.dst v0).dropped dr).set (4 * d) _).put o.dst _).slot j = ((((s.dropped dr).set (4 * d) _).put o.dst _).put q.dst _).slot j
   rw [Z8l, Z8l (d := q.dst), Z8l]
   by_cases c1 : o.dst = some j
   ·rw [if_pos c1, if_neg (a2 j c1), if_pos c1]
   ·rw [if_neg c1]
    show (((s.put q.dst v0).dropped dr)).slot j = _
    rw [Zca, Z8l]
    by_cases c2 : q.dst = some j
    ·rw [if_pos c2, if_pos c2]
    ·rw [if_neg c2, if_neg c2, if_neg c1]
     exact (Zca dr j).symm
 ·obtain ⟨t, len, parts, hqo⟩ : ∃ t len parts, q.op = .buildSlice t len parts := by
   unfold ZGQ at hk
   split at hk
   ·rename_i e'; exact ⟨_, _, _, e'⟩
   ·cases hk
  have hev : ∀ y ∈ q.op.operands.toList, ((s.apply o.dst ⟨ck, .row (4 * d), [(4 * d, .row e z m c)], none, dr⟩).ev y).isVal = true -> s.ev y = (s.apply o.dst ⟨ck, .row (4 * d), [(4 * d, .row e z m c)], none, dr⟩).ev y := by
   intro y hy hv
   cases y with
   | tmp t =>
    have htd : t ≠ d := hqd t (ZaH hy)
    have e1 := sl1 t htd
    have hv : ((s.apply o.dst ⟨ck, .row (4 * d), [(4 * d, .row e z m c)], none, dr⟩).slot t).isVal = true := hv
    show s.slot t = (s.apply o.dst _).slot t
    rw [e1] at hv ⊢
    cases hk' : kS dr (s.slot t) with
    | val v => exact ZOf hk'
    | _ => rw [hk'] at hv; cases hv
   | const v => rfl
   | global g => rfl
   | func f => rfl
  have hop : Z3j P S s q = some rq /\ ∃ dq b, q.dst = some dq /\ rq = ⟨true, .row (4 * dq), [(4 * dq, b)], none, none⟩ /\ ∀ id, ZmV id b = b := by
   unfold Z3j at hrq ⊢
   rw [hqo] at hrq hev ⊢
   dsimp only at hrq ⊢
   split at hrq
   ·rename_i dq hdq'
    split at hrq
    ·rename_i hall
     have hparts : ∀ y ∈ parts.toList, s.ev y.2 = (s.apply o.dst ⟨ck, .row (4 * d), [(4 * d, .row e z m c)], none, dr⟩).ev y.2 := fun y hy =>
      hev y.2 (by simp only [Op.operands]; simp; exact ⟨y.1, by simpa using hy⟩) (List.all_eq_true.1 hall y hy)
     have e1 : (parts.toList.all fun y => (s.ev y.2).isVal) = true := List.all_eq_true.2 fun y hy => by
      rw [hparts y hy]
      exact List.all_eq_true.1 hall y hy
     have e2 : (parts.map fun (i, y) => (i, s.evV y)) = parts.map fun (i, y) => (i, (s.apply o.dst ⟨ck, .row (4 * d), [(4 * d, .row e z m c)], none, dr⟩).evV y) := by
      apply Array.map_congr_left
      intro p hp
      have := hparts p (by simpa using hp)
      simp [FSt.evV, this]
     rw [if_pos e1, e2]
     refine ⟨hrq, ?_⟩
     split at hrq
     ·split at hrq
      ·simp only [Option.some.injEq] at hrq; subst hrq
       exact ⟨dq, _, hdq', rfl, fun id => rfl⟩
      ·cases hrq
     ·cases hrq
    ·cases hrq
   ·cases hrq
  obtain ⟨hop, dq, b, hdq', rfl, hb⟩ := hop
  have hnd0 : dq ≠ d := fun e' => a2 d hd (by rw [hdq', e'])
  have hnd : ¬ (@Eq Nat dq d) := hnd0
  have hnd4 : ¬ (@Eq Nat (4 * dq) (4 * d)) := by omega
  have hndr : dr ≠ some (4 * dq) := by
   intro e'
   have harg := hdr _ e'
   unfold Z5p at hho
   rw [Bool.and_eq_true] at hho
   have h1 := hho.1
   obtain ⟨cc, hoc, _⟩ := ZG1 ha
   have hst : storeAt o = none := by unfold storeAt; rw [hoc]
   unfold Zjf at h1
   rw [hst] at h1
   dsimp only at h1
   unfold ZF1 at h1
   rw [ha] at h1
   simp only [cond_true] at h1
   have := List.all_eq_true.1 h1 q hqm
   rw [hk, hl0, hdq', harg] at this
   simp at this
  have hfq : s.heap (4 * dq) = none := by
   have := Z5P.1 fq _ (List.mem_singleton.2 rfl)
   dsimp only at this
   rw [hp1 (4 * dq) hnd4 hndr] at this
   cases hs : s.heap (4 * dq) with
   | none => rfl
   | some b' => rw [hs] at this; cases this
  have hkb : kB dr b = b := by cases dr <;> first | rfl | exact hb _
  refine fin ⟨true, .row (4 * dq), [(4 * dq, b)], none, none⟩ hop ?_ (Z5P.2 fun p hp => by rw [List.mem_singleton.1 hp]; exact hfq) rfl rfl (fun p hp => by rw [List.mem_singleton.1 hp]; exact ⟨hndr, hnd4⟩) ?_ ?_
  ·have hB : Z5p P S ops q s = true := by
    have q1 : storeAt q = none := by unfold storeAt; rw [hqo]
    have q2 : ZeG S q = none := by unfold ZeG; rw [hqo]
    have q3 : ZgO q = false := by unfold ZgO; rw [hqo]
    unfold Z5p Zjf ZhK
    rw [q1, q2]
    dsimp only
    unfold ZF1
    rw [q3]
    rfl
   unfold chkH
   rw [hB]
   rfl
  ·intro j
   show ((((((s.set (4 * dq) b).put q.dst (.row (4 * dq)))).dropped dr).set (4 * d) _).put o.dst _).heap j = (((((s.dropped dr).set (4 * d) _).put o.dst _).set (4 * dq) b).put q.dst _).heap j
   have eL : ((((((s.set (4 * dq) b).put q.dst (.row (4 * dq)))).dropped dr).set (4 * d) (.row e z m c)).put o.dst (.row (4 * d))).heap j = if j = 4 * d then some (.row e z m c) else (((s.set (4 * dq) b).put q.dst (.row (4 * dq))).dropped dr).heap j := by rw [Z6Q, Z58]
   have eR : (((((s.dropped dr).set (4 * d) (.row e z m c)).put o.dst (.row (4 * d))).set (4 * dq) b).put q.dst (.row (4 * dq))).heap j = if j = 4 * dq then some b else if j = 4 * d then some (.row e z m c) else (s.dropped dr).heap j := by rw [Z6Q, Z58, Z6Q, Z58]
   rw [eL, eR]
   by_cases c1 : j = 4 * d
   ·rw [if_pos c1, if_neg (fun e' => hnd4 (e'.symm.trans c1)), if_pos c1]
   ·rw [if_neg c1]
    by_cases c2 : j = 4 * dq
    ·rw [if_pos c2, c2, ZfK hndr, Z6Q, Z58, if_pos rfl, Option.map_some, hkb]
    ·rw [if_neg c2, if_neg c1]
     by_cases c3 : dr = some j
     ·rw [c3]
      rw [Zs0, Zs0]
     ·rw [ZfK c3, ZfK c3, Z6Q, Z58, if_neg c2]
  ·intro j
   show ((((((s.set (4 * dq) b).put q.dst (.row (4 * dq)))).dropped dr).set (4 * d) _).put o.dst _).slot j = (((((s.dropped dr).set (4 * d) _).put o.dst _).set (4 * dq) b).put q.dst _).slot j
   rw [Z8l, Z8l (d := q.dst)]
   by_cases c1 : o.dst = some j
   ·rw [if_pos c1, if_neg (a2 j c1)]
    show _ = (((s.dropped dr).set (4 * d) _).put o.dst _).slot j
    rw [Z8l, if_pos c1]
   ·rw [if_neg c1]
    show (((s.set (4 * dq) b).put q.dst (.row (4 * dq))).dropped dr).slot j = _
    rw [Zca, Z8l]
    by_cases c2 : q.dst = some j
    ·rw [if_pos c2, if_pos c2]
     cases dr with
     | none => rfl
     | some id =>
      have : 4 * dq ≠ id := by rintro rfl; exact hndr rfl
      simp only [kS, Z1L, nbeq this, cond_false]
    ·rw [if_neg c2, if_neg c2]
     show kS dr (s.slot j) = (((s.dropped dr).set (4 * d) _).put o.dst _).slot j
     rw [Z8l, if_neg c1]
     exact (Zca dr j).symm
end

end Go.Proofs.YtcdpfpfbilfpoaaGreatDoor
