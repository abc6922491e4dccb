import Derived.Test.YtnijajjdldijpaaCx
set_option linter.unusedSimpArgs false
set_option linter.unusedVariables false
namespace Go.Proofs.Ytnijajjdldijpaa
open Go.RowKit
/-! Addresses. -/
section
variable {P : Program} {S : Sums} {W : World} {M : MV} {n : Nat} {s : FSt} {a : Act} {w w' : World} {ρ ρ' : Nat → Value} {H : Nat → Option Blk} {o : Oper} {r : Out} {Q : Exit → Act → World → Prop} {K : Act → World → Prop}
theorem addr_add (g i j : Nat) : (⟨g, i, none⟩ : Addr).add j = ⟨g, i + j, none⟩ := by unfold Addr.add; split <;> simp_all
theorem goal_makeFunc (h : R P W M n s a w ρ) (hd : inRange n o.dst = true) {f : Nat} {first captured : Array Operand} (ho : o.op = .makeFunc (.func f) first captured)
    (hr : (if Nat.beq first.size 0 = true then
    match optMap (fun x => match s.ev x with | .ptr id 0 => some id | _ => none) captured.toList with
    | some l => some (Out.pure true (.clo f l))
    | none => none
    else none) = some r) : Goal P W M n o s r a w Q := by
  split at hr
  · rename_i h0
    split at hr
    · rename_i l hl
      simp only [Option.some.injEq] at hr; subst hr
      have hf : first = #[] := Array.eq_empty_of_size_eq_zero (neq h0)
      refine goal_pure h hd (v := .func (.func f) #[] (captured.toList.map a.eval).toArray) ?_ (.inr ⟨captured.toList.map a.eval, rfl, ?_⟩)
      · simp only [execOp, ho, Instr.makeFunc, hf]
        have e : captured.map a.eval = (captured.toList.map a.eval).toArray := by apply Array.toList_inj.1; simp
        rw [e]
        simp
      · have := optMap_all2 hl
        clear hl ho
        generalize captured.toList = cs at this
        induction cs generalizing l with
        | nil => cases l <;> first | exact True.intro | cases this
        | cons c cs ih =>
          cases l with
          | nil => cases this
          | cons i l =>
            obtain ⟨p, q⟩ := this
            refine ⟨?_, ih _ q⟩
            have hc := h.ev c
            split at p
            · rename_i id hx
              simp only [Option.some.injEq] at p; subst p
              rw [hx] at hc
              obtain ⟨hl, g, o', ha, he⟩ := hc
              exact ⟨hl, g, o', ha, he⟩
            · cases p
    · cases hr
  · cases hr
theorem goal_fieldAddr (h : R P W M n s a w ρ) (hd : inRange n o.dst = true) {t : TypeId} {x : Operand} {f : Nat} (ho : o.op = .fieldAddr t x f)
    (hr : (match s.ev x, P.underlying t with
    | .ptr id off, some (.struct fs) => match fs[f]? with
      | some fd => match semOnly P (sizeOf fd.type) with
        | some sz => if Nat.ble 1 sz = true then some (Out.pure true (.ptr id (off + fd.offset))) else none
        | none => none
      | none => none
    | _, _ => none) = some r) : Goal P W M n o s r a w Q := by
  split at hr
  · rename_i id off fs hx hu
    split at hr
    · rename_i fd hf
      split at hr
      · rename_i sz hsz
        split at hr
        · rename_i hle
          simp only [Option.some.injEq] at hr; subst hr
          have hv := h.ev x
          rw [hx] at hv
          obtain ⟨hl, g, o', ha, he⟩ := hv
          refine goal_pure h hd (v := .pointer (some ⟨g, o' + (off + fd.offset), none⟩)) ?_ (.inr ⟨hl, g, o', ha, rfl⟩)
          have hle := nle hle
          simp only [execOp, ho, he, Instr.fieldAt]
          rw [run_bind_ok (x := .pointer (some ⟨g, o' + (off + fd.offset), none⟩)) (w1 := w)]
          · rfl
          · rw [run_bind_ok (run_underlying hu w)]
            simp only [hf]
            rw [run_only (x := (⟨g, o' + off, none⟩ : Addr)) rfl]
            unfold fieldPlace
            have : (do if (← sizeOf fd.type) = 0 then partAt ⟨g, o' + off, none⟩ fd.offset fd.byteOffset else Pure.pure ((⟨g, o' + off, none⟩ : Addr).add fd.offset) : Sem Addr).run P w = .ok ⟨g, o' + (off + fd.offset), none⟩ w := by
              rw [run_only hsz, if_neg (by omega), addr_add, Nat.add_assoc]
              rfl
            rw [run_bind_ok this]
            rfl
        · cases hr
      · cases hr
    · cases hr
  · cases hr
theorem run_bind_val {m : Sem Value} {v : Value} {w1 : World} (h : m.run P w = .ok v w1) : ((do Pure.pure (Next.value (← m)) : Sem Next)).run P w = .ok (.value v) w1 := by
  rw [run_bind_ok h]; rfl
theorem ix_arr {t e : TypeId} {k : IntKind} {i : Int} {len sz g o' : Nat} (ht : P.underlying t = some (.array len e)) (hs : semOnly P (sizeOf e) = some sz) (h0 : 0 ≤ i) (h1 : i < (len : Int)) (w : World) :
    (Instr.indexAt t (.pointer (some ⟨g, o', none⟩)) (.int k i)).run P w = .ok (.pointer (some ⟨g, o' + i.toNat * sz, none⟩)) w := by
  unfold Instr.indexAt
  rw [run_only (x := (k, i)) rfl]
  dsimp only
  rw [run_bind_ok (run_underlying ht w)]
  dsimp only
  rw [run_only (x := (⟨g, o', none⟩ : Addr)) rfl]
  rw [run_only (x := (some (⟨g, o', none⟩ : Addr), len, e)) rfl]
  dsimp only
  rw [run_bind_ok (run_underlying ht w)]
  dsimp only
  rw [if_pos ⟨h0, h1⟩, run_only hs, addr_add]
  rfl
theorem ix_sl {t e : TypeId} {k : IntKind} {i : Int} {len cap sz g o' : Nat} (ht : P.underlying t = some (.slice e)) (hs : semOnly P (sizeOf e) = some sz) (h0 : 0 ≤ i) (h1 : i < (len : Int)) (w : World) :
    (Instr.indexAt t (.slice (some ⟨g, o', none⟩) len cap) (.int k i)).run P w = .ok (.pointer (some ⟨g, o' + i.toNat * sz, none⟩)) w := by
  unfold Instr.indexAt
  rw [run_only (x := (k, i)) rfl]
  dsimp only
  rw [run_bind_ok (run_underlying ht w)]
  dsimp only
  rw [run_only (x := (some (⟨g, o', none⟩ : Addr), len, e)) rfl]
  dsimp only
  rw [run_bind_ok (run_underlying ht w)]
  dsimp only
  rw [if_pos ⟨h0, h1⟩, run_only hs, addr_add]
  rfl
theorem row_form (h : R P W M n s a w ρ) {id m : Nat} {c : Cells} {b : Blk} (hb : s.heap id = some b) (hk : b = .ros m c ∨ ∃ e sz, b = .row e sz m c) (hm : 0 < m) : ∃ g o' cap, ρ id = .slice (some ⟨g, o', none⟩) m cap := by
  have hr : RosRel w none (ρ id) m c := by
    rcases hk with rfl | ⟨e, sz, rfl⟩
    · exact ros_at h hb
    · exact row_at h hb
  rcases hr.2 with ⟨_, h0, _⟩ | ⟨g, o', cap, h1, _⟩
  · omega
  · exact ⟨g, o', cap, h1⟩
theorem goal_indexAddr (h : R P W M n s a w ρ) (hd : inRange n o.dst = true) {t : TypeId} {x i : Operand} (ho : o.op = .indexAddr t x i)
    (hr : (match s.ev x, s.ev i, P.underlying t with
    | .ptr id off, .val (.int _ n), some (.array len e) => match semOnly P (sizeOf e) with
      | some sz => some (Out.pure (decide (0 ≤ n) && decide (n < (len : Int))) (.ptr id (off + n.toNat * sz)))
      | none => none
    | .row id, .val (.int _ n), some (.slice e) => match s.heap id, semOnly P (sizeOf e) with
      | some (.row _ _ len _), some sz => some (.pure (decide (0 ≤ n) && decide (n < (len : Int))) (.ptr id (n.toNat * sz)))
      | some (.ros len _), some sz => some (.pure (decide (0 ≤ n) && decide (n < (len : Int))) (.ptr id (n.toNat * sz)))
      | _, _ => none
    | .sub id off len _, .val (.int _ n), some (.slice e) => match semOnly P (sizeOf e) with
      | some sz => some (.pure (decide (0 ≤ n) && decide (n < (len : Int))) (.ptr id (off + n.toNat * sz)))
      | none => none
    | _, _, _ => none) = some r) (hchk : r.chk = true) : Goal P W M n o s r a w Q := by
  have hv := h.ev x
  split at hr
  · rename_i id off k i' len e hx hi hu
    rw [hx] at hv
    obtain ⟨hl, g, o', ha, he⟩ := hv
    split at hr
    · rename_i sz hs
      simp only [Option.some.injEq] at hr; subst hr
      simp only [Out.pure, Bool.and_eq_true, decide_eq_true_eq] at hchk
      refine goal_pure h hd (v := .pointer (some ⟨g, o' + (off + i'.toNat * sz), none⟩)) ?_ (.inr ⟨hl, g, o', ha, rfl⟩)
      simp only [execOp, ho, he, ev_val h hi]
      rw [run_bind_val (ix_arr hu hs hchk.1 hchk.2 w), Nat.add_assoc]
    · cases hr
  · rename_i id k i' e hx hi hu
    rw [hx] at hv
    obtain ⟨hl, he⟩ := hv
    have fin : ∀ (m sz : Nat) (c : Cells) (b : Blk), s.heap id = some b → (b = .ros m c ∨ ∃ e sz, b = .row e sz m c) → semOnly P (sizeOf e) = some sz → (decide (0 ≤ i') && decide (i' < (m : Int))) = true →
        Goal P W M n o s (.pure (decide (0 ≤ i') && decide (i' < (m : Int))) (.ptr id (i'.toNat * sz))) a w Q := by
      intro m sz c b hb hk hs hchk
      simp only [Bool.and_eq_true, decide_eq_true_eq] at hchk
      obtain ⟨g, o', cap, hf⟩ := row_form h hb hk (by omega)
      refine goal_pure h hd (v := .pointer (some ⟨g, o' + i'.toNat * sz, none⟩)) ?_ (.inr ⟨hl, g, o', by rw [hf]; rfl, rfl⟩)
      simp only [execOp, ho, he, hf, ev_val h hi]
      exact run_bind_val (ix_sl hu hs hchk.1 hchk.2 w)
    split at hr
    · rename_i e' z m c sz hb hs
      simp only [Option.some.injEq] at hr; subst hr
      exact fin m sz c _ hb (.inr ⟨_, _, rfl⟩) hs hchk
    · rename_i m c sz hb hs
      simp only [Option.some.injEq] at hr; subst hr
      exact fin m sz c _ hb (.inl rfl) hs hchk
    · cases hr
  · rename_i id off len z k i' e hx hi hu
    rw [hx] at hv
    obtain ⟨hl, g, o', cap, ha, he, hc⟩ := hv
    split at hr
    · rename_i sz hs
      simp only [Option.some.injEq] at hr; subst hr
      simp only [Out.pure, Bool.and_eq_true, decide_eq_true_eq] at hchk
      refine goal_pure h hd (v := .pointer (some ⟨g, o' + (off + i'.toNat * sz), none⟩)) ?_ (.inr ⟨hl, g, o', ha, rfl⟩)
      simp only [execOp, ho, he, ev_val h hi]
      rw [run_bind_val (ix_sl hu hs hchk.1 hchk.2 w), Nat.add_assoc]
    · cases hr
  · cases hr
theorem goal_nilCheck (h : R P W M n s a w ρ) (hd : inRange n o.dst = true) {x : Operand} (ho : o.op = .nilCheck x)
    (hr : (match s.ev x with
    | .ptr id off => some (Out.pure true (.ptr id off))
    | _ => none) = some r) : Goal P W M n o s r a w Q := by
  have hv := h.ev x
  split at hr
  · rename_i id off hx
    rw [hx] at hv
    simp only [Option.some.injEq] at hr; subst hr
    obtain ⟨hl, g, o', ha, he⟩ := hv
    refine goal_pure h hd (v := .pointer (some ⟨g, o' + off, none⟩)) ?_ (.inr ⟨hl, g, o', ha, rfl⟩)
    simp only [execOp, ho, he]
    rfl
  · cases hr
theorem goal_sliceArr (h : R P W M n s a w ρ) (hd : inRange n o.dst = true) {t : TypeId} {x : Operand} (ho : o.op = .sliceToArrayPointer t x)
    (hr : (match s.ev x, P.underlying t with
    | .row id, some (.array len _) => match s.heap id with
      | some (.row _ _ m _) => some (Out.pure (Nat.ble len m && Nat.ble 1 m) (.ptr id 0))
      | some (.ros m _) => some (.pure (Nat.ble len m && Nat.ble 1 m) (.ptr id 0))
      | _ => none
    | _, _ => none) = some r) (hchk : r.chk = true) : Goal P W M n o s r a w Q := by
  have hv := h.ev x
  split at hr
  · rename_i id len e hx hu
    rw [hx] at hv
    obtain ⟨hl, he⟩ := hv
    have fin : ∀ (m : Nat) (c : Cells) (b : Blk), s.heap id = some b → (b = .ros m c ∨ ∃ e sz, b = .row e sz m c) → (Nat.ble len m && Nat.ble 1 m) = true →
        Goal P W M n o s (.pure (Nat.ble len m && Nat.ble 1 m) (.ptr id 0)) a w Q := by
      intro m c b hb hk hchk
      simp only [Bool.and_eq_true] at hchk
      have h1 := Nat.le_of_ble_eq_true hchk.1
      have h2 := Nat.le_of_ble_eq_true hchk.2
      obtain ⟨g, o', cap, hf⟩ := row_form h hb hk (by omega)
      refine goal_pure h hd (v := .pointer (some ⟨g, o', none⟩)) ?_ (.inr ⟨hl, g, o', by rw [hf]; rfl, rfl⟩)
      simp only [execOp, ho, he, hf]
      refine run_bind_val ?_
      unfold Instr.arrayAt
      rw [run_bind_ok (run_underlying hu w)]
      dsimp only
      rw [if_neg (by omega)]
      rfl
    split at hr
    · rename_i e' z m c hb
      simp only [Option.some.injEq] at hr; subst hr
      exact fin m c _ hb (.inr ⟨_, _, rfl⟩) hchk
    · rename_i m c hb
      simp only [Option.some.injEq] at hr; subst hr
      exact fin m c _ hb (.inl rfl) hchk
    · cases hr
  · cases hr
theorem goal_index (h : R P W M n s a w ρ) (hd : inRange n o.dst = true) {t : TypeId} {x i : Operand} (ho : o.op = .index t x i)
    (hr : (match s.ev x, s.ev i, P.underlying t with
    | .val (.agg cs), .val (.int _ n), some (.array len e) => match semOnly P (sizeOf e) with
      | some sz => match semOnly P (part e cs (n.toNat * sz)) with
        | some v => some (Out.pure (decide (0 ≤ n) && decide (n < (len : Int))) (.val v))
        | none => none
      | none => none
    | .val (.string b), .val (.int _ n), some .string => some (.pure (decide (0 ≤ n) && decide (n < (b.size : Int))) (.val (.int .u8 (b.data.getD n.toNat 0).toNat)))
    | _, _, _ => none) = some r) (hchk : r.chk = true) : Goal P W M n o s r a w Q := by
  split at hr
  · rename_i cs k i' len e hx hi hu
    split at hr
    · rename_i sz hs
      split at hr
      · rename_i v hp
        simp only [Option.some.injEq] at hr; subst hr
        simp only [Out.pure, Bool.and_eq_true, decide_eq_true_eq] at hchk
        refine goal_pure h hd (v := v) ?_ (.inr rfl)
        simp only [execOp, ho, ev_val h hx, ev_val h hi]
        refine run_bind_val ?_
        unfold Instr.index
        rw [run_only (x := (k, i')) rfl]
        dsimp only
        rw [run_bind_ok (run_underlying hu w)]
        dsimp only
        rw [if_pos hchk, run_only hs]
        exact semOnly_run hp w
      · cases hr
    · cases hr
  · rename_i b k i' hx hi hu
    simp only [Option.some.injEq] at hr; subst hr
    simp only [Out.pure, Bool.and_eq_true, decide_eq_true_eq] at hchk
    refine goal_pure h hd (v := .int .u8 (b.data.getD i'.toNat 0).toNat) ?_ (.inr rfl)
    simp only [execOp, ho, ev_val h hx, ev_val h hi]
    refine run_bind_val ?_
    unfold Instr.index
    rw [run_only (x := (k, i')) rfl]
    dsimp only
    rw [run_bind_ok (run_underlying hu w)]
    dsimp only
    rw [if_pos hchk.1]
    have hlt : i'.toNat < b.size := by omega
    have : b[i'.toNat]? = some (b.data.getD i'.toNat 0) := by
      have h2 : i'.toNat < b.data.size := hlt
      rw [getElem?_pos b i'.toNat hlt]
      simp only [Array.getD_eq_getD_getElem?, Array.getElem?_eq_getElem h2, Option.getD_some]
      rfl
    rw [this]
    rfl
  · cases hr
theorem goal_slice (h : R P W M n s a w ρ) (hd : inRange n o.dst = true) {t : TypeId} {x : Operand} {lo hi mx : Option Operand}
    (hr : (match s.ev x, lo, hi, mx, P.underlying t with
    | .ptr id off, none, none, none, some (.array n e) => match semOnly P (sizeOf e) with
      | some sz => some (Out.pure true (.sub id off n sz))
      | none => none
    | .ptr id off, none, some hx, none, some (.array n e) => match s.ev hx with
      | .val hv => match semOnly P (Instr.sliceBounds false n n none (some hv) none), semOnly P (sizeOf e) with
        | some (0, h, m), some sz => if Nat.ble h m = true then some (.pure true (.sub id off h sz)) else none
        | _, _ => none
      | _ => none
    | .row id, none, none, none, some (.slice e) => match semOnly P (sizeOf e) with
      | some _ => match s.heap id with
        | some (.row ..) => some (.pure true (.row id))
        | some (.ros ..) => some (.pure true (.row id))
        | _ => none
      | none => none
    | _, _, _, _, _ => none) = some r) (ho : o.op = .slice t x lo hi mx) : Goal P W M n o s r a w Q := by
  have hv := h.ev x
  split at hr
  · rename_i id off k e hx hu
    rw [hx] at hv
    obtain ⟨hl, g, o', ha, he⟩ := hv
    split at hr
    · rename_i sz hs
      simp only [Option.some.injEq] at hr; subst hr
      refine goal_pure h hd (v := .slice (some ⟨g, o' + off, none⟩) k k) ?_ (.inr ⟨hl, g, o', k, ha, rfl, Nat.le_refl _⟩)
      simp only [execOp, ho, he, Option.map_none]
      refine run_bind_val ?_
      unfold Instr.sliceAt
      rw [run_bind_ok (run_underlying hu w)]
      dsimp only
      rw [run_only (x := (⟨g, o' + off, none⟩ : Addr)) rfl]
      rw [run_only (x := (0, k, k)) rfl]
      dsimp only
      rw [run_only hs, Nat.zero_mul, addr_add]
      simp
    · cases hr
  · rename_i id off hx' k e hx hu
    rw [hx] at hv
    obtain ⟨hl, g, o', ha, he⟩ := hv
    split at hr
    · rename_i hvv hvx
      split at hr
      · rename_i h' m' sz hb hs
        split at hr
        · rename_i hle
          simp only [Option.some.injEq] at hr; subst hr
          have hle := nle hle
          have hev := ev_val h hvx
          refine goal_pure h hd (v := .slice (some ⟨g, o' + off, none⟩) h' m') ?_ (.inr ⟨hl, g, o', m', ha, rfl, hle⟩)
          simp only [execOp, ho, he, Option.map_none, Option.map_some, hev]
          refine run_bind_val ?_
          unfold Instr.sliceAt
          rw [run_bind_ok (run_underlying hu w)]
          dsimp only
          rw [run_only (x := (⟨g, o' + off, none⟩ : Addr)) rfl]
          rw [run_only hb]
          dsimp only
          rw [run_only hs, Nat.zero_mul, addr_add]
          simp
        · cases hr
      · cases hr
    · cases hr
  · rename_i id e hx hu
    rw [hx] at hv
    obtain ⟨hl, he⟩ := hv
    split at hr
    · rename_i sz hs
      have fin : ∀ (m : Nat) (c : Cells), RosRel w none (ρ id) m c → Goal P W M n o s (.pure true (.row id)) a w Q := by
        intro m c hrr
        refine goal_pure h hd (v := ρ id) ?_ (.inr ⟨hl, rfl⟩)
        simp only [execOp, ho, he, Option.map_none]
        refine run_bind_val ?_
        have key : ∀ (q : Option Addr) (len cap : Nat), q = none ∨ (∃ g i, q = some ⟨g, i, none⟩) → (Instr.sliceAt t (.slice q len cap) none none none).run P w = .ok (.slice q len cap) w := by
          intro q len cap hq
          unfold Instr.sliceAt
          rw [run_bind_ok (run_underlying hu w)]
          dsimp only
          unfold Instr.slice
          rw [run_bind_ok (run_underlying hu w)]
          dsimp only
          rw [run_only (x := (0, len, cap)) rfl]
          dsimp only
          rw [run_only hs, Nat.zero_mul]
          have : (if cap = 0 then q else q.map fun x => x.add 0) = q := by
            split
            · rfl
            · rcases hq with rfl | ⟨g, i, rfl⟩ <;> simp [Addr.add]
          simp [this]
        rcases hrr.2 with ⟨h0, _⟩ | ⟨g, i, cap, h0, _⟩ <;> rw [h0]
        · exact key none 0 0 (.inl rfl)
        · exact key _ _ _ (.inr ⟨g, i, rfl⟩)
      split at hr
      · rename_i hb
        simp only [Option.some.injEq] at hr; subst hr
        exact fin _ _ (row_at h hb)
      · rename_i hb
        simp only [Option.some.injEq] at hr; subst hr
        exact fin _ _ (ros_at h hb)
      · cases hr
    · cases hr
  · cases hr
theorem goal_extract (h : R P W M n s a w ρ) (hd : inRange n o.dst = true) {x : Operand} {i : Nat} (ho : o.op = .extract x i)
    (hr : (match s.ev x with
    | .tup l => match l[i]? with
      | some (.v v) => some (Out.pure true (.val v))
      | some (.r id) => some (.pure true (.row id))
      | none => none
    | _ => none) = some r) : Goal P W M n o s r a w Q := by
  have hv := h.ev x
  split at hr
  · rename_i l hx
    rw [hx] at hv
    obtain ⟨vs, he, hall⟩ := hv
    have hrun : ∀ v, vs[i]? = some v → (execOp a.eval o).run P w = .ok (.value v) w := by
      intro v hv
      simp only [execOp, ho, he]
      refine run_bind_val ?_
      unfold Instr.extract
      simp [hv]
    split at hr
    · rename_i v hi
      simp only [Option.some.injEq] at hr; subst hr
      obtain ⟨u, hu, hrel⟩ := hall.get hi
      exact goal_pure h hd (v := u) (hrun u hu) (.inr hrel)
    · rename_i id hi
      simp only [Option.some.injEq] at hr; subst hr
      obtain ⟨u, hu, hrel⟩ := hall.get hi
      exact goal_pure h hd (v := u) (hrun u hu) (.inr hrel)
    · cases hr
  · cases hr
theorem args2 {c : Call} {x : Operand} {t : TypeId} (hx : c.args.toList = [x]) (ht : c.argTypes.toList = [t]) : c.args = #[x] ∧ c.argTypes = #[t] :=
  ⟨Array.toList_inj.1 hx, Array.toList_inj.1 ht⟩
theorem resolve_builtin {c : Call} {b : Builtin} {ty : TypeId} (hc : c.callee = .builtin b) : ∃ cs, ∀ w : World, (resolve a.eval c ty).run P w = .ok { target := .builtin b c.argTypes ty cs, args := c.args.map a.eval } w := by
  unfold resolve
  rw [hc]
  exact ⟨_, fun w => rfl⟩
theorem goal_len (h : R P W M n s a w ρ) (hd : inRange n o.dst = true) {c : Call} (ho : o.op = .call c) (hc : c.callee = .builtin .len)
    (hr : (match c.args.toList.map s.ev, c.argTypes.toList with
      | [.val (.string b)], [t] => match P.underlying t with
        | some .string => some (Out.pure true (.val (.int .i64 b.size)))
        | _ => none
      | [.row id], [t] => match s.heap id, P.underlying t with
        | some (.row _ _ n _), some (.slice _) => some (.pure true (.val (.int .i64 n)))
        | some (.ros n _), some (.slice _) => some (.pure true (.val (.int .i64 n)))
        | _, _ => none
      | [.sub _ _ n _], [t] => match P.underlying t with
        | some (.slice _) => some (.pure true (.val (.int .i64 n)))
        | _ => none
      | _, _ => none) = some r) : Goal P W M n o s r a w Q := by
  have one : ∀ {v : SV}, c.args.toList.map s.ev = [v] → ∃ x, c.args.toList = [x] ∧ s.ev x = v := by
    intro v hv
    match hq : c.args.toList, hv with
    | [x], hv => exact ⟨x, rfl, by simpa using hv⟩
    | [], hv => cases hv
    | _ :: _ :: _, hv => simp at hv
  have hrun : ∀ {x : Operand} {t : TypeId} {v : Value}, c.args.toList = [x] → c.argTypes.toList = [t] → (Builtin.len_ #[t] o.type #[a.eval x]).run P w = .ok v w → (execOp a.eval o).run P w = .ok (.value v) w := by
    intro x t v hx ht hl
    obtain ⟨e1, e2⟩ := args2 hx ht
    simp only [execOp, ho]
    obtain ⟨cs, this⟩ := resolve_builtin (P := P) (a := a) (ty := o.type) hc
    rw [e1, e2, show Array.map a.eval #[x] = #[a.eval x] from by simp] at this
    rw [run_bind_ok (this w)]
    exact run_bind_val hl
  have slen : ∀ {t e : TypeId} {q : Option Addr} {k cap : Nat}, P.underlying t = some (.slice e) → (Builtin.len_ #[t] o.type #[.slice q k cap]).run P w = .ok (.int .i64 k) w := by
    intro t e q k cap hu
    unfold Builtin.len_
    simp [Sem.run_bind, run_underlying hu, goInt]
  split at hr
  · rename_i b t ha ht
    obtain ⟨x, hx, hxe⟩ := one ha
    split at hr
    · rename_i hu
      simp only [Option.some.injEq] at hr; subst hr
      refine goal_pure h hd (v := .int .i64 b.size) (hrun hx ht ?_) (.inr rfl)
      rw [ev_val h hxe]
      unfold Builtin.len_
      simp [Sem.run_bind, run_underlying hu, goInt]
    · cases hr
  · rename_i id t ha ht
    obtain ⟨x, hx, hxe⟩ := one ha
    have hv := h.ev x
    rw [hxe] at hv
    obtain ⟨hl, he⟩ := hv
    have fin : ∀ (m : Nat) (cc : Cells) (e : TypeId), RosRel w none (ρ id) m cc → P.underlying t = some (.slice e) → Goal P W M n o s (.pure true (.val (.int .i64 m))) a w Q := by
      intro m cc e hrr hu
      refine goal_pure h hd (v := .int .i64 m) (hrun hx ht ?_) (.inr rfl)
      rw [he]
      rcases hrr.2 with ⟨h0, hm, _⟩ | ⟨g, i, cap, h0, _⟩ <;> rw [h0]
      · rw [hm]; exact slen hu
      · exact slen hu
    split at hr
    · rename_i hb hu
      simp only [Option.some.injEq] at hr; subst hr
      exact fin _ _ _ (row_at h hb) hu
    · rename_i hb hu
      simp only [Option.some.injEq] at hr; subst hr
      exact fin _ _ _ (ros_at h hb) hu
    · cases hr
  · rename_i id off k sz t ha ht
    obtain ⟨x, hx, hxe⟩ := one ha
    have hv := h.ev x
    rw [hxe] at hv
    obtain ⟨hl, g, o', cap, hat, he, hk⟩ := hv
    split at hr
    · rename_i hu
      simp only [Option.some.injEq] at hr; subst hr
      refine goal_pure h hd (v := .int .i64 k) (hrun hx ht ?_) (.inr rfl)
      rw [he]
      exact slen hu
    · cases hr
  · cases hr
end

end Go.Proofs.Ytnijajjdldijpaa
