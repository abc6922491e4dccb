import Derived.Test.YtnijajjdldijpaaDa
set_option linter.unusedSimpArgs false
set_option linter.unusedVariables false
namespace Go.Proofs.Ytnijajjdldijpaa
open Go.RowKit
/-! Calls: the operation. -/
section
variable {P : Program} {S : Sums} {W : World} {M : MV} {n : Nat} {s : FSt} {a : Act} {w w' : World} {ρ ρ' : Nat → Value} {H : Nat → Option Blk} {o : Oper} {r : Out} {Q : Exit → Act → World → Prop} {K : Act → World → Prop}
theorem resolve_value {c : Call} {f : Operand} {g : Nat} {caps : Array Value} {ty : TypeId} (hc : c.callee = .value f) (hf : a.eval f = .func (.func g) #[] caps) (w : World) :
    (resolve a.eval c ty).run P w = .ok { target := .fn (.func g) caps, args := c.args.map a.eval } w := by
  unfold resolve
  rw [hc]
  dsimp only
  rw [hf]
  unfold Deferred.ofValue
  dsimp only
  simp
theorem wp_enter {c : Call} {f : Operand} {g : Nat} {caps : Array Value} (ho : o.op = .call c) (hc : c.callee = .value f) (hf : a.eval f = .func (.func g) #[] caps) (hcall : ∀ (args : Array Value) (w : World), (callFunc g args).run P w = .ok (.enter g args) w)
    {R : Value → World → Prop} (h : Calls P g (c.args.map a.eval ++ caps) w fun e w' => ∃ rv, e = .returned rv ∧ R rv w') (hk : ∀ rv w', R rv w' → K (a.put o.dst rv) w') : o.wp P a w K Q := by
  have hrun : (execOp a.eval o).run P w = .ok (.enter g (c.args.map a.eval ++ caps)) w := by
    simp only [execOp, ho]
    rw [run_bind_ok (resolve_value hc hf w)]
    unfold invoke
    dsimp only
    exact hcall _ _
  unfold Oper.wp
  rw [hrun]
  refine h.mono fun e w' ⟨rv, he, hr⟩ => ?_
  subst he
  exact hk rv w' hr
theorem optMap_args {f : Operand → Option PV} (h : R P W M n s a w ρ) : ∀ {l : List Operand} {m : List PV}, optMap f l = some m → (∀ x pv, f x = some pv → ArgRel P w pv (a.eval x)) → All2 (ArgRel P w) m (l.map a.eval)
  | [], m, hl, _ => by simp only [optMap, Option.some.injEq] at hl; subst hl; exact True.intro
  | x :: l, m, hl, hf => by
    simp only [optMap] at hl
    split at hl
    · rename_i b hb
      split at hl
      · rename_i m' hm
        simp only [Option.some.injEq] at hl; subst hl
        exact ⟨hf x b hb, optMap_args h hm hf⟩
      · cases hl
    · cases hl
theorem R.write' (h : R P W M n s a w ρ) {i : Nat} {b b' : Blk} {w' : World} (hi : s.heap i = some b) (hob : ownB b = true) (hob' : ownB b' = true) (hown : ∀ g, ownOf (ρ i) = some g → Own W M g) (hg : w.grownBy w' (ownOf (ρ i)))
    (hb : BRel P W M w' ρ s.heap i b') : R P W M n (s.set i b') a w' ρ := by
  have hm : ∀ id, (s.heap id).isSome = true → ((s.set i b').heap id).isSome = true ∧ ρ id = ρ id := by
    intro id hid
    refine ⟨?_, rfl⟩
    show (bif Nat.beq id i then some b' else s.heap id).isSome = true
    cases Nat.beq id i
    · exact hid
    · rfl
  have hheap : ∀ id c, (s.set i b').heap id = some c → (id = i ∧ c = b') ∨ (id ≠ i ∧ s.heap id = some c) := by
    intro id c hc
    by_cases e : id = i
    · subst e
      have : Nat.beq id id = true := by simp
      simp only [FSt.set, this, cond_true, Option.some.injEq] at hc
      exact .inl ⟨rfl, hc.symm⟩
    · have : Nat.beq id i = false := nbeq e
      simp only [FSt.set, this, cond_false] at hc
      exact .inr ⟨e, hc⟩
  refine ⟨grown_step h.grown hg hown, h.size, h.defers, fun t => (h.slots t).mono hm, fun id c hc => ?_, fun x y bx by_ g' hxy hx hy ox oy gx => ?_, fun v0 hv0 => ⟨(h.fix v0 hv0).1, ⟨(hm 0 (h.fix v0 hv0).2.1.1).1, (h.fix v0 hv0).2.1.2⟩, fun u hu => ⟨(hm 1 ((h.fix v0 hv0).2.2 u hu).1).1, ((h.fix v0 hv0).2.2 u hu).2⟩⟩⟩
  · rcases hheap id c hc with ⟨rfl, rfl⟩ | ⟨hne, hc⟩
    · exact hb.mono hm rfl
    · refine ((h.heap id c hc).grown hg fun oc g' hg' e => ?_).mono hm rfl
      exact h.apart i id b c g' (Ne.symm hne) hi hc hob oc e hg'
  · rcases hheap x bx hx with ⟨rfl, rfl⟩ | ⟨hnx, hx'⟩ <;> rcases hheap y by_ hy with ⟨rfl, rfl⟩ | ⟨hny, hy'⟩
    · exact absurd rfl hxy
    · exact h.apart _ _ _ _ g' hxy hi hy' hob oy gx
    · exact h.apart _ _ _ _ g' hxy hx' hi ox hob gx
    · exact h.apart _ _ _ _ g' hxy hx' hy' ox oy gx
theorem rel_args (h : R P W M n s a w ρ) : ∀ (l : List Operand), All2 (Rel P W M ρ s.heap) (l.map s.ev) (l.map a.eval)
  | [] => True.intro
  | x :: l => ⟨h.ev x, rel_args h l⟩
/-- A call that writes its first argument's cells. -/
theorem goal_row (hS : SumsOK P S) (h : R P W M n s a w ρ) (hd : inRange n o.dst = true) {c : Call} {f : Operand} (ho : o.op = .call c) (hc : c.callee = .value f) {run : MRun} (hm : mutOf S f = some (.row run))
    (hr : rowOut s run (c.args.toList.map s.ev) = some r) (hchk : r.chk = true) : Goal P W M n o s r a w Q := by
  cases f with
  | func g =>
    have hrun : S.m g = some (.row run) := hm
    obtain ⟨hcall, hsound⟩ := hS.2 g _ hrun
    have hsound : SoundM P g run := hsound
    have hrel := h.ev (.func g)
    obtain ⟨vs0, hfe, hcaps⟩ := (show ∃ vs : List Value, a.eval (.func g) = .func (.func g) #[] vs.toArray ∧ All2 (CapRel ρ s.heap) [] vs from hrel)
    obtain rfl : vs0 = [] := by
      cases vs0 with
      | nil => rfl
      | cons x l => cases hcaps
    have hargs := rel_args h c.args.toList
    unfold rowOut at hr
    split at hr
    · rename_i id xs hev
      rw [hev] at hargs
      split at hr
      · rename_i e sz m cl vs hb hvs
        split at hr
        · rename_i ok rv c' hres
          simp only [Option.some.injEq] at hr; subst hr
          obtain rfl : ok = true := hchk
          obtain ⟨k1, k2, k3⟩ := h.heap id _ hb
          cases hal : c.args.toList.map a.eval with
          | nil => rw [hal] at hargs; cases hargs
          | cons v0 l0 =>
            rw [hal] at hargs
            obtain ⟨⟨_, hv0⟩, hl0⟩ := hargs
            have hl0 := vals_all2 hvs hl0
            subst hv0; subst hl0
            have hcalls := hsound w e sz m cl (ρ id) _ rv c' k1 k2 hres
            rw [show (ρ id :: l0).toArray = c.args.map a.eval ++ (#[] : Array Value) from by rw [← hal]; apply Array.toList_inj.1; simp] at hcalls
            refine wp_enter (R := fun v w' => v = rv ∧ c'.ok ∧ w'.ownsRow 0 e sz (ρ id) m c'.toVals ∧ w.grownBy w' (ownOf (ρ id))) ho hc hfe hcall (hcalls.mono fun x w' ⟨h1, h2⟩ => ⟨rv, h1, rfl, h2⟩) fun v w' ⟨h1, h2, h3, h4⟩ => ⟨ρ, ?_⟩
            subst h1
            exact (h.write' (b' := .row e sz m c') hb rfl rfl k3 h4 ⟨h2, h3, k3⟩).put hd (.inr rfl)
        · cases hr
      · cases hr
    · cases hr
  | tmp t => cases hm
  | const v => cases hm
  | global g => cases hm
theorem ros_off (h : R P W M n s a w ρ) {id m : Nat} {c : Cells} (hb : s.heap id = some (.ros m c)) {b : Nat} (hown : Own W M b) : RosRel w (some b) (ρ id) m c := by
  have k : RosRel W (mB M) (ρ id) m c := h.heap id _ hb
  refine ⟨k.1, ?_⟩
  rcases k.2 with h0 | ⟨g, o, cap, h1, h2, h3, h4⟩
  · exact .inl h0
  · refine .inr ⟨g, o, cap, h1, h2, ⟨fun e => ?_, Nat.lt_of_lt_of_le h3.2 h.grown.size⟩, fun j u hu => World.grownBy.cell h.grown (h4 j u hu) (fun e => h3.1 e.symm)⟩
    obtain rfl : b = g := by simpa using e
    rcases hown with ho | ho
    · have := h3.2; omega
    · exact h3.1 ho
theorem row_off (h : R P W M n s a w ρ) {id jd e z m b : Nat} {c : Cells} {B : Blk} (hb' : s.heap jd = some (.row e z m c)) (hb : s.heap id = some B) (hob : ownB B = true) (hg : ownOf (ρ id) = some b) (hne : jd ≠ id) : RosRel w (some b) (ρ jd) m c := by
  have k := row_at h hb'
  refine ⟨k.1, ?_⟩
  rcases k.2 with h0 | ⟨g, o, cap, h1, h2, h3, h4⟩
  · exact .inl h0
  · refine .inr ⟨g, o, cap, h1, h2, ⟨fun e' => ?_, h3.2⟩, h4⟩
    obtain rfl : b = g := by simpa using e'
    exact h.apart jd id _ B b hne hb' hb rfl hob (by rw [h1]; rfl) hg
theorem src_after (h : R P W M n s a w ρ) (hd : inRange n o.dst = true) {d m id : Nat} {cl : Cells} {e : TypeId} {vals : List Value} (hdst : o.dst = some d) (hb : s.heap id = some (.ros m cl))
    (hf : s.fresh [(4 * d, .box e (.row id :: vals.map SV.val))] = true) {b : Nat} {w' : World} (h2 : w.heap.size ≤ b) (h3 : w'.heap[b]? = some (.cells (ρ id :: vals).toArray e (0, 0))) (hg : w.grownBy w' none) :
    ∃ ρ', R P W M n (s.apply o.dst ⟨true, .ptr (4 * d) 0, [(4 * d, .box e (.row id :: vals.map SV.val))], none, none⟩) (a.put o.dst (.pointer (some ⟨b, 0, none⟩))) w' ρ' := by
  have hi := fresh1 hf
  have hne : id ≠ 4 * d := by rintro rfl; rw [hb] at hi; cases hi
  have hset : (s.set (4 * d) (.box e (.row id :: vals.map SV.val))).heap (4 * d) = some (.box e (.row id :: vals.map SV.val)) := by
    show (bif Nat.beq (4 * d) (4 * d) then _ else _) = _
    simp
  have hbr : BRel P W M w' (fun x => if x = 4 * d then .pointer (some ⟨b, 0, none⟩) else ρ x) (s.set (4 * d) (.box e (.row id :: vals.map SV.val))).heap (4 * d) (.box e (.row id :: vals.map SV.val)) := by
    refine ⟨b, _, if_pos rfl, .inl (Nat.le_trans h.grown.size h2), h3, ⟨?_, ?_⟩, rel_vals vals⟩
    · show (bif Nat.beq id (4 * d) then _ else s.heap id).isSome = true
      rw [nbeq hne, cond_false, hb]; rfl
    · show ρ id = if id = 4 * d then _ else ρ id
      rw [if_neg hne]
  exact ⟨_, R.put (R.new (h.ext hg) hi hbr fun ob g hgu j bj hj oj gj => by
    have := own_lt (h.heap j bj hj) oj gj
    have hbg : b = g := by simpa [ownOf, atOf] using hgu
    omega) hd (.inr ⟨by
      show (bif Nat.beq (4 * d) (4 * d) then some _ else s.heap (4 * d)).isSome = true
      simp, b, 0, by simp [atOf], rfl⟩)⟩
theorem bc_rel (h : R P W M n s a w ρ) {g : Nat} (hown : Own W M g) {x : SV} {bc : BC} (hx : bcOf s.heap x = some bc) {v : Value} (hv : Rel P W M ρ s.heap x v) : BCRel w g bc v := by
  unfold bcOf at hx
  split at hx
  · simp only [Option.some.injEq] at hx; subst hx; exact hv
  · rename_i id
    split at hx
    · rename_i m c hb
      simp only [Option.some.injEq] at hx; subst hx
      obtain ⟨_, rfl⟩ := hv
      exact ros_off h hb hown
    · cases hx
  · cases hx
theorem All2.ofOpt {α β γ : Type} {f : α → Option β} {R1 : α → γ → Prop} {R2 : β → γ → Prop} (hf : ∀ x y v, f x = some y → R1 x v → R2 y v) : ∀ {l : List α} {m : List β} {vs : List γ}, optMap f l = some m → All2 R1 l vs → All2 R2 m vs
  | [], m, [], h, _ => by simp only [optMap, Option.some.injEq] at h; subst h; exact True.intro
  | x :: l, m, v :: vs, h, hr => by
    simp only [optMap] at h
    split at h
    · rename_i y hy
      split at h
      · rename_i m' hm
        simp only [Option.some.injEq] at h; subst h
        exact ⟨hf x y v hy hr.1, All2.ofOpt hf hm hr.2⟩
      · cases h
    · cases h
theorem newSV_rel {ρ : Nat → Value} {H : Nat → Option Blk} : ∀ {bcs bcs' : List BC} {cells : List SV} {vs : List Value}, sameB bcs bcs' = true → bcs.length = cells.length → All2 (Rel P W M ρ H) cells vs → All2 (Rel P W M ρ H) (newSV cells bcs') (newC bcs' vs)
  | [], [], [], [], _, _, _ => True.intro
  | .v _ :: bs, .v x :: bs', _ :: cs, _ :: vs, h, hl, hr => ⟨rfl, newSV_rel (bcs := bs) h (by simpa using hl) hr.2⟩
  | .s _ _ :: bs, .s _ _ :: bs', c :: cs, v :: vs, h, hl, hr => ⟨hr.1, newSV_rel (bcs := bs) h (by simpa using hl) hr.2⟩
theorem optMap_len {α β : Type} {f : α → Option β} : ∀ {l : List α} {m : List β}, optMap f l = some m → m.length = l.length
  | [], m, h => by simp only [optMap, Option.some.injEq] at h; subst h; rfl
  | x :: l, m, h => by
    simp only [optMap] at h
    split at h
    · split at h
      · rename_i m' hm
        simp only [Option.some.injEq] at h; subst h
        simp [optMap_len hm]
      · cases h
    · cases h
theorem retV_rel {ρ : Nat → Value} {H : Nat → Option Blk} (l : List Value) : Rel P W M ρ H (retV l) (retOf l) := by
  have tr : ∀ l : List Value, All2 (TIRel ρ H) (l.map TI.v) l := by
    intro l
    induction l with
    | nil => exact True.intro
    | cons x l ih => exact ⟨rfl, ih⟩
  match l with
  | [] => exact ⟨[], rfl, tr []⟩
  | [x] => exact rfl
  | x :: y :: l => exact ⟨_, rfl, tr _⟩
/-- A call that is handed a variable's address. -/
theorem goal_boxcall (hS : SumsOK P S) (h : R P W M n s a w ρ) (hd : inRange n o.dst = true) {c : Call} {f : Operand} (ho : o.op = .call c) (hc : c.callee = .value f) {run : PRun} (hm : mutOf S f = some (.box run))
    (hr : boxOut s run (c.args.toList.map s.ev) = some r) (hchk : r.chk = true) : Goal P W M n o s r a w Q := by
  cases f with
  | func g =>
    have hrun : S.m g = some (.box run) := hm
    obtain ⟨hcall, hsound⟩ := hS.2 g _ hrun
    have hsound : SoundP P g run := hsound
    have hrel := h.ev (.func g)
    obtain ⟨vs0, hfe, hcaps⟩ := (show ∃ vs : List Value, a.eval (.func g) = .func (.func g) #[] vs.toArray ∧ All2 (CapRel ρ s.heap) [] vs from hrel)
    obtain rfl : vs0 = [] := by
      cases vs0 with
      | nil => rfl
      | cons x l => cases hcaps
    have hargs := rel_args h c.args.toList
    unfold boxOut at hr
    split at hr
    · rename_i id xs hev
      rw [hev] at hargs
      split at hr
      · rename_i e cells hb
        split at hr
        · rename_i bcs pvs hbcs hpvs
          split at hr
          · rename_i ok rs bcs' hres
            split at hr
            · rename_i hsame
              simp only [Option.some.injEq] at hr; subst hr
              obtain rfl : ok = true := hchk
              obtain ⟨b, cs, k1, k2, k3, k4⟩ := h.heap id _ hb
              cases hal : c.args.toList.map a.eval with
              | nil => rw [hal] at hargs; cases hargs
              | cons v0 l0 =>
                rw [hal] at hargs
                obtain ⟨⟨_, g', o', hat, hv0⟩, hl0⟩ := hargs
                rw [k1] at hat
                obtain ⟨rfl, rfl⟩ : b = g' ∧ 0 = o' := by simpa [atOf] using hat
                obtain rfl : v0 = .pointer (some ⟨b, 0, none⟩) := hv0
                have hbc : All2 (BCRel w b) bcs cs.toList := All2.ofOpt (R2 := BCRel w b) (fun x y v hx hv => bc_rel h k2 hx hv) hbcs k4
                have hpv : All2 (ArgB w b) pvs l0 := All2.ofOpt (R2 := ArgB w b) (fun x y v hx hv => by
                  unfold pvB at hx
                  split at hx
                  · simp only [Option.some.injEq] at hx; subst hx; exact hv
                  · rename_i jd
                    obtain ⟨_, rfl⟩ := hv
                    split at hx
                    · rename_i m c hb'
                      simp only [Option.some.injEq] at hx; subst hx
                      exact ros_off h hb' k2
                    · rename_i e' z m c hb'
                      simp only [Option.some.injEq] at hx; subst hx
                      exact row_off h hb' hb rfl (by rw [k1]; rfl) (by rintro rfl; rw [hb] at hb'; cases hb')
                    · cases hx
                  · cases hx) hpvs hl0
                have hcalls := hsound w e b cs bcs pvs l0 rs bcs' k3 hbc hpv hres hsame
                rw [show (Value.pointer (some ⟨b, 0, none⟩) :: l0).toArray = c.args.map a.eval ++ (#[] : Array Value) from by rw [← hal]; apply Array.toList_inj.1; simp] at hcalls
                refine wp_enter (R := fun v w' => v = retOf rs ∧ w'.heap[b]? = some (.cells (newC bcs' cs.toList).toArray e (0, 0)) ∧ w.grownBy w' (some b)) ho hc hfe hcall (hcalls.mono fun x w' ⟨h1, h2⟩ => ⟨_, h1, rfl, h2⟩) fun v w' ⟨h1, h2, h3⟩ => ⟨ρ, ?_⟩
                subst h1
                refine (h.write' (b' := .box e (newSV cells bcs')) hb rfl rfl (fun g hg => ?_) (by rw [k1]; exact h3) ⟨b, _, k1, k2, h2, newSV_rel hsame (optMap_len hbcs) k4⟩).put hd (.inr (retV_rel rs))
                rw [k1] at hg
                obtain rfl : b = g := by simpa [ownOf, atOf] using hg
                exact k2
            · cases hr
          · cases hr
        · cases hr
      · cases hr
    · cases hr
  | tmp t => cases hm
  | const v => cases hm
  | global g => cases hm
/-- A call that makes a variable around a slice. -/
theorem goal_src (hS : SumsOK P S) (h : R P W M n s a w ρ) (hd : inRange n o.dst = true) {c : Call} {f : Operand} (ho : o.op = .call c) (hc : c.callee = .value f) {run : BRun} (hm : mutOf S f = some (.src run))
    (hr : srcOut s o.dst run (c.args.toList.map s.ev) = some r) (hchk : r.chk = true) (hf : s.fresh r.news = true) : Goal P W M n o s r a w Q := by
  cases f with
  | func g =>
    have hrun : S.m g = some (.src run) := hm
    obtain ⟨hcall, hsound⟩ := hS.2 g _ hrun
    have hsound : SoundB P g run := hsound
    have hrel := h.ev (.func g)
    obtain ⟨vs0, hfe, hcaps⟩ := (show ∃ vs : List Value, a.eval (.func g) = .func (.func g) #[] vs.toArray ∧ All2 (CapRel ρ s.heap) [] vs from hrel)
    obtain rfl : vs0 = [] := by
      cases vs0 with
      | nil => rfl
      | cons x l => cases hcaps
    have hargs := rel_args h c.args.toList
    unfold srcOut at hr
    split at hr
    · rename_i id hev
      rw [hev] at hargs
      split at hr
      · rename_i m cl d hb hdst
        split at hr
        · rename_i ok e vals hres
          simp only [Option.some.injEq] at hr; subst hr
          obtain rfl : ok = true := hchk
          cases hal : c.args.toList.map a.eval with
          | nil => rw [hal] at hargs; cases hargs
          | cons v0 l0 =>
            rw [hal] at hargs
            obtain ⟨⟨hlive, hv0⟩, hl0⟩ := hargs
            cases l0 with
            | cons x l => cases hl0
            | nil =>
              subst hv0
              have hcalls := hsound w m cl (ρ id) e vals (ros_at h hb) hres
              rw [show [ρ id].toArray = c.args.map a.eval ++ (#[] : Array Value) from by rw [← hal]; apply Array.toList_inj.1; simp] at hcalls
              refine wp_enter (R := fun v w' => ∃ b, v = .pointer (some ⟨b, 0, none⟩) ∧ w.heap.size ≤ b ∧ w'.heap[b]? = some (.cells (ρ id :: vals).toArray e (0, 0)) ∧ w.grownBy w' none) ho hc hfe hcall (hcalls.mono fun x w' ⟨b, h1, h2⟩ => ⟨_, h1, b, rfl, h2⟩) fun v w' ⟨b, h1, h2, h3, h4⟩ => ?_
              subst h1
              exact src_after h hd hdst hb hf h2 h3 h4
        · cases hr
      · cases hr
    · cases hr
  | tmp t => cases hm
  | const v => cases hm
  | global g => cases hm
theorem goal_mut (hS : SumsOK P S) (h : R P W M n s a w ρ) (hd : inRange n o.dst = true) {c : Call} {f : Operand} (ho : o.op = .call c) (hc : c.callee = .value f) {run : MFn} (hm : mutOf S f = some run)
    (hr : mutOut s o.dst run (c.args.toList.map s.ev) = some r) (hchk : r.chk = true) (hf : s.fresh r.news = true) : Goal P W M n o s r a w Q := by
  cases run with
  | row run => exact goal_row hS h hd ho hc hm hr hchk
  | box run => exact goal_boxcall hS h hd ho hc hm hr hchk
  | src run => exact goal_src hS h hd ho hc hm hr hchk hf
theorem goal_call (hS : SumsOK P S) (h : R P W M n s a w ρ) (hd : inRange n o.dst = true) {c : Call} {f : Operand} (ho : o.op = .call c) (hc : c.callee = .value f)
    (hr : (match s.ev f with
      | .clo g caps => match S.f g, optMap (fun x => PVof s.heap (cloFn S s.heap) (s.ev x)) c.args.toList, optMap (capOf s.heap) caps with
        | some run, some args, some cs => match run (args ++ cs) with
          | some (ok, rs) => outOf o.dst ok rs
          | none => none
        | _, _, _ => none
      | .fn g => match SV.vals (c.args.toList.map s.ev) with
        | some args => match g args with
          | some (ok, r) => outOf o.dst ok [.v r]
          | none => none
        | none => none
      | _ => none) = some r) (hchk : r.chk = true) (hf : s.fresh r.news = true) : Goal P W M n o s r a w Q := by
  have hrel := h.ev f
  split at hr
  · rename_i g caps hev
    rw [hev] at hrel
    obtain ⟨vs, hfe, hcaps⟩ := hrel
    split at hr
    · rename_i run args cs hrun hargs hcs
      split at hr
      · rename_i ok rs hres
        obtain ⟨_, _, hck⟩ := outOf_news hr
        obtain rfl : ok = true := by rw [← hck]; exact hchk
        obtain ⟨hcall, hsound⟩ := hS.1 g run hrun
        have hall : All2 (ArgRel P w) (args ++ cs) (c.args.toList.map a.eval ++ vs) :=
          All2.app (optMap_args h hargs fun x pv hx => PVof_ok hS h (h.ev x) hx) (All2.join (T := ArgRel P w) (fun id pv x (hp : capOf s.heap id = some pv) (hx : CapRel ρ s.heap id x) => capOf_ok h (World.grownBy.refl w none) hx hp) (optMap_all2 hcs) hcaps)
        have hcalls := hsound w _ _ rs hall hres
        rw [show (c.args.toList.map a.eval ++ vs).toArray = c.args.map a.eval ++ vs.toArray from by apply Array.toList_inj.1; simp] at hcalls
        exact wp_enter ho hc hfe hcall hcalls fun rv w' ⟨h1, h2⟩ => after_call h hd hr hf h2 h1
      · cases hr
    · cases hr
  · rename_i g hev
    rw [hev] at hrel
    obtain ⟨fid, caps, hfe, hcall, hsound⟩ := hrel
    split at hr
    · rename_i args hargs
      split at hr
      · rename_i ok rv hg
        obtain ⟨_, _, hck⟩ := outOf_news hr
        obtain rfl : ok = true := by rw [← hck]; exact hchk
        have hargs' : c.args.toList.map a.eval = args := by
          have hall : All2 (Rel P W M ρ s.heap) (c.args.toList.map s.ev) (c.args.toList.map a.eval) := by
            clear hargs hr ho hc hg
            generalize c.args.toList = l
            induction l with
            | nil => exact True.intro
            | cons x l ih => exact ⟨h.ev x, ih⟩
          exact vals_all2 hargs hall
        have hcalls := hsound w h.grown args rv hg
        rw [show args.toArray ++ caps = c.args.map a.eval ++ caps from by rw [← hargs']; apply Array.toList_inj.1; simp] at hcalls
        refine wp_enter (R := fun v w' => v = rv ∧ w.grownBy w' none) ho hc hfe hcall (hcalls.mono fun e w' ⟨h1, h2⟩ => ⟨rv, h1, rfl, h2⟩) fun v w' ⟨h1, h2⟩ => ?_
        subst h1
        exact after_call h hd hr hf h2 rfl
      · cases hr
    · cases hr
  · cases hr
theorem fresh_kill {id : Nat} : ∀ {l : List (Nat × Blk)}, s.fresh l = true → (s.kill id).fresh l = true
  | [], _ => rfl
  | (i, b) :: l, h => by
    obtain ⟨h1, h2⟩ := fresh_cons h
    have : (s.kill id).heap i = none := by
      show (bif Nat.beq i id then none else match s.heap i with | some b => some (killB id b) | none => none) = none
      rw [h1]
      cases Nat.beq i id <;> rfl
    simp only [FSt.fresh, this]
    exact fresh_kill h2
/-- Every operation. -/
theorem op_sim (hS : SumsOK P S) (h : R P W M n s a w ρ) (hd : inRange n o.dst = true) (hr : opOut P S s o = some r) (hchk : r.chk = true) (hf : s.fresh r.news = true) : Goal P W M n o s r a w Q := by
  have hdep : 2 ≤ P.depth := by unfold Program.depth; omega
  unfold opOut at hr
  cases ho : o.op <;> rw [ho] at hr <;> dsimp only at hr
  case move x => exact goal_move h hd (.inl ho) hr
  case assign x => exact goal_move h hd (.inr ho) hr
  case pick c x y => exact goal_pick h hd ho hr
  case alloc e => exact goal_alloc h hd ho hr hf
  case box e x => exact goal_box h hd ho hr hf
  case buildSlice t len parts => exact goal_buildSlice h hd ho hr hf
  case load t x => exact goal_load h hd ho hr hchk
  case store t x y =>
    cases hdst : o.dst with
    | some d => rw [hdst] at hr; cases hr
    | none => rw [hdst] at hr; exact goal_store h hd ho hr hchk hdst
  case binOp op t x y u => exact goal_bin h hd ho (fun k hk => eqGuard_ints hk hdep) hr hchk
  case unOp op t x => exact goal_opVal h hd (.inr (.inl ⟨_, _, _, ho⟩)) hr
  case build t ps =>
    split at hr
    · rename_i r' hr'
      simp only [Option.some.injEq] at hr; subst hr
      exact goal_agr h hd ho hr'
    · exact goal_opVal h hd (.inr (.inr (.inl ⟨_, _, ho⟩))) hr
  case field t x f => exact goal_opVal h hd (.inr (.inr (.inr (.inl ⟨_, _, _, ho⟩)))) hr
  case convert t u x => exact goal_opVal h hd (.inr (.inr (.inr (.inr ⟨_, _, _, ho⟩)))) hr
  case makeFunc fn first captured =>
    cases fn <;> dsimp only at hr <;> try (cases hr; done)
    exact goal_makeFunc h hd ho hr
  case makeSlice t x y => exact goal_makeSlice h hd ho hr hchk hf
  case fieldAddr t x f => exact goal_fieldAddr h hd ho hr
  case indexAddr t x i => exact goal_indexAddr h hd ho hr hchk
  case index t x i => exact goal_index h hd ho hr hchk
  case slice t x lo hi mx => exact goal_slice h hd hr ho
  case nilCheck x => exact goal_nilCheck h hd ho hr
  case sliceToArrayPointer t x => exact goal_sliceArr h hd ho hr hchk
  case extract x i => exact goal_extract h hd ho hr
  case call c =>
    cases hc : c.callee with
    | value f =>
      rw [hc] at hr
      dsimp only at hr
      cases hm : mutOf S f with
      | some run => rw [hm] at hr; exact goal_mut hS h hd ho hc hm hr hchk hf
      | none => rw [hm] at hr; exact goal_call hS h hd ho hc hr hchk hf
    | invoke x m => rw [hc] at hr; cases hr
    | builtin b =>
      rw [hc] at hr
      cases b <;> dsimp only at hr <;> try (cases hr; done)
      case len => exact goal_len h hd ho hc hr
      case append =>
        refine goal_append h hd ho hc hr hchk ?_
        cases hdr : r.drop with
        | none => exact hf
        | some id => exact fresh_kill hf
  all_goals cases hr
end

end Go.Proofs.Ytnijajjdldijpaa
