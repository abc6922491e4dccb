import Derived.Test.YtcdpfpfbilfpoaaGreatDoorDe
set_option linter.unusedSimpArgs false
set_option linter.unusedVariables false
namespace Go.Proofs.YtcdpfpfbilfpoaaGreatDoor
open Go.RowKit
def Z4M (P : Program) (S : Sums) (n : Nat) (ops : List Oper) : List Nat -> FSt -> Option FSt
 | [], s => some s
 | i :: l, s => match ops[i]? with
  | some o => match step P S n ops o s with | some s' => Z4M P S n ops l s' | none => none
  | none => none
def ZOm (acc : List Nat) (o : Oper) : Nat := o.after.toList.foldl (fun m e => if Region.binds .any e = true then m ||| 2 ^ e.on ||| acc.getD e.on 0 else m) 0
def masks : List Oper -> List Nat -> List Nat
 | [], acc => acc
 | o :: l, acc => masks l (acc ++ [ZOm acc o])
def ZIa (S : Sums) (ops : Array Oper) (o q : Oper) : Bool := o.apart ops q && (allowed (cls S o.op) (cls S q.op) || (Zzd ops.toList o q || (Zur S o q || (Zur S q o || (mixB ops.toList o q || ZLI ops.toList o q)))))
def ZH3 (S : Sums) (ops : Array Oper) (q : Oper) (m : Nat) : Nat -> List Oper -> Bool
 | _, [] => true
 | i, o :: l => (m.testBit i || ZIa S ops o q) && ZH3 S ops q m (i + 1) l
def ZJk (S : Sums) (ops : Array Oper) : List Oper -> List Nat -> List Oper -> Bool
 | _, _, [] => true
 | before, m :: ms, q :: l => ZH3 S ops q m 0 before && ZJk S ops (before ++ [q]) ms l
 | _, [], _ :: _ => false
def ZQd (o : Oper) (i : Nat) : Bool := o.after.toList.all fun e => !Region.binds .any e || Nat.ble (e.on + 1) i
def ordB : Nat -> List Oper -> Bool
 | _, [] => true
 | i, o :: l => ZQd o i && ordB (i + 1) l
def ZFe (S : Sums) (ops : List Oper) : Bool := ordB 0 ops && ZJk S ops.toArray [] (masks ops []) ops
section
variable {P : Program} {S : Sums} {W : World} {M : MV} {n : Nat} {s s1 s2 : FSt} {a : Act} {w w' : World} {ρ ρ' : Nat -> Value} {o : Oper} {r : Out} {ops : List Oper} {Q : Exit -> Act -> World -> Prop} {K : Act -> World -> Prop}
theorem ZN1 {l : List Oper} : ∀ {i : Nat}, ordB i l = true -> ∀ {j : Nat} {o : Oper}, l[j]? = some o -> ∀ e ∈ o.after, Region.binds .any e = true -> e.on < i + j := by
 induction l with
 | nil => intro i h j o hj; simp at hj
 | cons o' l ih =>
  intro i h j o hj e he hb
  simp only [ordB, Bool.and_eq_true] at h
  cases j with
  | zero =>
   simp at hj; subst hj
   have := List.all_eq_true.1 h.1 e (by simpa using he)
   rw [hb] at this
   have := nle (by simpa using this)
   omega
  | succ j =>
   simp at hj
   have := ih h.2 hj e he hb
   omega
theorem ZJb {opsA : Array Oper} {q : Oper} {m : Nat} {l : List Oper} : ∀ {i : Nat}, ZH3 S opsA q m i l = true -> ∀ {j : Nat} {o : Oper}, l[j]? = some o -> m.testBit (i + j) = true \/ ZIa S opsA o q = true := by
 induction l with
 | nil => intro i h j o hj; simp at hj
 | cons o' l ih =>
  intro i h j o hj
  simp only [ZH3, Bool.and_eq_true, Bool.or_eq_true] at h
  cases j with
  | zero => simp at hj; subst hj; exact h.1
  | succ j =>
   simp at hj
   have := ih h.2 hj
   rwa [show i + 1 + j = i + (j + 1) from by omega] at this
theorem ZKS {opsA : Array Oper} {l : List Oper} : ∀ {before : List Oper} {ms : List Nat}, ZJk S opsA before ms l = true -> ∀ {j : Nat} {q : Oper}, l[j]? = some q -> ∃ m, ms[j]? = some m /\ ∀ {i : Nat} {o : Oper}, (before ++ l.take j)[i]? = some o -> m.testBit i = true \/ ZIa S opsA o q = true := by
 induction l with
 | nil => intro before ms h j q hj; simp at hj
 | cons q' l ih =>
  intro before ms h j q hj
  cases ms with
  | nil => simp [ZJk] at h
  | cons m ms =>
   simp only [ZJk, Bool.and_eq_true] at h
   cases j with
   | zero =>
    simp at hj; subst hj
    refine ⟨m, rfl, fun {i o} ho => ?_⟩
    have := ZJb h.1 (j := i) (o := o) (by simpa using ho)
    simpa using this
   | succ j =>
    simp at hj
    obtain ⟨m', hm, hall⟩ := ih h.2 hj
    refine ⟨m', by simpa using hm, fun {i o} ho => hall ?_⟩
    simpa using ho
theorem ZIC {acc : List Nat} {i : Nat} : ∀ (l : List Edge) (m : Nat), (l.foldl (fun m e => if Region.binds .any e = true then m ||| 2 ^ e.on ||| acc.getD e.on 0 else m) m).testBit i = true -> m.testBit i = true \/ ∃ e ∈ l, Region.binds .any e = true /\ (e.on = i \/ (acc.getD e.on 0).testBit i = true)
 | [], m, h => .inl h
 | e :: l, m, h => by
  rw [List.foldl_cons] at h
  rcases ZIC l _ h with h1 | ⟨e', he, h1⟩
  ·split at h1
   ·rename_i hb
    rw [Nat.testBit_or, Nat.testBit_or, Bool.or_eq_true, Bool.or_eq_true, Nat.testBit_two_pow] at h1
    rcases h1 with (h1 | h1) | h1
    ·exact .inl h1
    ·exact .inr ⟨e, by simp, hb, .inl (by simpa using h1)⟩
    ·exact .inr ⟨e, by simp, hb, .inr h1⟩
   ·exact .inl h1
  ·exact .inr ⟨e', by simp [he], h1⟩
def Closed (ops : List Oper) (L : Nat -> Bool) : Prop := ∀ j o, ops[j]? = some o -> L j = true -> ∀ e ∈ o.after, Region.binds .any e = true -> L e.on = true
theorem ZBq {L : Nat -> Bool} (hL : Closed ops L) : ∀ (l : List Oper) (acc : List Nat), (∀ j o, l[j]? = some o -> ops[acc.length + j]? = some o) -> (∀ j m i, acc[j]? = some m -> m.testBit i = true -> L j = true -> L i = true) ->
  ∀ j m i, (masks l acc)[j]? = some m -> m.testBit i = true -> L j = true -> L i = true
 | [], acc, _, h => h
 | o :: l, acc, ho, h => by
  refine ZBq hL l (acc ++ [ZOm acc o]) (fun j q hq => ?_) fun j m i hj hb hl => ?_
  ·have := ho (j + 1) q (by simpa using hq)
   simpa [Nat.add_assoc, Nat.add_comm 1 j] using this
  ·rcases Nat.lt_or_ge j acc.length with hlt | hge
   ·rw [List.getElem?_append_left hlt] at hj
    exact h j m i hj hb hl
   ·rw [List.getElem?_append_right hge] at hj
    have hj0 : j = acc.length := by
     have := (List.getElem?_eq_some_iff.1 hj).1
     simp at this
     omega
    subst hj0
    simp at hj
    subst hj
    rcases ZIC _ _ hb with h0 | ⟨e, he, hbi, h1⟩
    ·simp at h0
    ·have hLe : L e.on = true := hL acc.length o (by simpa using ho 0 o (by simp)) hl e (by simpa using he) hbi
     rcases h1 with rfl | h1
     ·exact hLe
     ·cases hm : acc[e.on]? with
      | none => simp [List.getD_eq_getElem?_getD, hm] at h1
      | some m' => exact h e.on m' i hm (by simpa [List.getD_eq_getElem?_getD, hm] using h1) hLe
def Comm (S : Sums) (ops : List Oper) (i j : Nat) : Prop := ∃ o q, ops[i]? = some o /\ ops[j]? = some q /\ ZIa S ops.toArray o q = true
theorem ZLf (hok : ZFe S ops = true) {L : Nat -> Bool} (hL : Closed ops L) {i j : Nat} (hij : i < j) (hj : j < ops.length) (hi : L i = false) (hl : L j = true) : Comm S ops i j := by
 unfold ZFe at hok
 simp only [Bool.and_eq_true] at hok
 obtain ⟨m, hm, hall⟩ := ZKS hok.2 (j := j) (q := ops[j]) (by simp [hj])
 have hi' : i < ops.length := by omega
 rcases hall (i := i) (o := ops[i]) (by simp [List.getElem?_take_of_lt hij, hi']) with h1 | h1
 ·have := ZBq hL ops [] (fun j o h => by simpa using h) (fun j m i h => by simp at h) j m i hm h1 hl
  rw [hi] at this
  cases this
 ·exact ⟨ops[i], ops[j], by simp [hi'], by simp [hj], h1⟩
theorem ZGW {H : Nat -> Option Blk} {id : Nat} (hs : H = s.heap) {x : SV} (h : SVok H x) : SVok (s.kill id).heap (Z1L id x) := by
 subst hs
 cases x with
 | ptr i o =>
  by_cases e : i = id
  ·subst e; simp only [Z1L, show Nat.beq i i = true by simp, cond_true]; exact True.intro
  ·simp only [Z1L, nbeq e, cond_false]; exact Z4R e h
 | row i =>
  by_cases e : i = id
  ·subst e; simp only [Z1L, show Nat.beq i i = true by simp, cond_true]; exact True.intro
  ·simp only [Z1L, nbeq e, cond_false]; exact Z4R e h
 | sub i o m z =>
  by_cases e : i = id
  ·subst e; simp only [Z1L, show Nat.beq i i = true by simp, cond_true]; exact True.intro
  ·simp only [Z1L, nbeq e, cond_false]; exact Z4R e h
 | clo f l =>
  simp only [Z1L]
  cases hb : l.any (Nat.beq id) with
  | true => exact True.intro
  | false => exact fun i hi => Z4R (ZG0 hb hi) (h i hi)
 | tup l =>
  simp only [Z1L]
  cases hb : Zcd id l with
  | true => exact True.intro
  | false =>
   intro i hi
   refine Z4R ?_ (h i hi)
   rintro rfl
   have := List.any_eq_false.1 hb _ hi
   simp at this
 | agr l =>
  simp only [Z1L]
  cases hb : Zcd id l with
  | true => exact True.intro
  | false =>
   intro i hi
   refine Z4R ?_ (h i hi)
   rintro rfl
   have := List.any_eq_false.1 hb _ hi
   simp at this
 | val v => exact True.intro
 | fn g => exact True.intro
 | junk => exact True.intro
theorem ZP5 (wf : WF s) (id : Nat) : WF (s.kill id) := by
 refine ⟨fun t => ZGW rfl (wf.slots t), fun j bj hj => ?_⟩
 obtain ⟨_, b, hb, rfl⟩ := ZmW hj
 have := wf.heap j b hb
 cases b with
 | box e l =>
  intro v hv
  obtain ⟨x, hx, rfl⟩ := List.mem_map.1 hv
  exact ZGW rfl (this x hx)
 | rop l =>
  intro v hv
  obtain ⟨x, hx, rfl⟩ := List.mem_map.1 hv
  exact ZGW rfl (this x hx)
 | row e z m c => exact True.intro
 | ros m c => exact True.intro
theorem ZHY {d : Nat} {t : TypeId} {x y : SV} (h : Z9Q P s d t x y = some r) : ∃ e z m c dr ck, r = ⟨ck, .row (4 * d), [(4 * d, .row e z m c)], none, dr⟩ := by
 unfold Z9Q at h
 split at h
 ·split at h
  ·split at h
   ·split at h
    ·split at h
     ·simp only [Option.some.injEq] at h; subst h; exact ⟨_, _, _, _, _, _, rfl⟩
     ·split at h
      ·split at h
       ·split at h
        ·simp only [Option.some.injEq] at h; subst h; exact ⟨_, _, _, _, _, _, rfl⟩
        ·cases h
       ·cases h
      ·cases h
     ·cases h
    ·cases h
   ·cases h
  ·cases h
 ·cases h
theorem ZOH (wf : WF s) {i : Nat} {e : TypeId} {z m : Nat} {c : Cells} : WF (s.set i (.row e z m c)) := by
 have hg : Grow s.heap (s.set i (.row e z m c)).heap := by
  intro id hid
  rw [Z58]
  split
  ·rfl
  ·exact hid
 refine ⟨fun t => (wf.slots t).grow hg, fun j bj hj => ?_⟩
 rw [Z58] at hj
 split at hj
 ·simp only [Option.some.injEq] at hj; subst hj; exact True.intro
 ·exact (wf.heap j bj hj).grow hg
theorem ZII (id : Nat) (b : Blk) : Grow s.heap (s.set id b).heap := by
 intro j hj
 rw [Z58]
 split
 ·rfl
 ·exact hj
theorem ZMc (wf : WF s) {id : Nat} {e : TypeId} {cells : List SV} (hc : ∀ x ∈ cells, SVok s.heap x) : WF (s.set id (.box e cells)) := by
 have hg := ZII (s := s) id (.box e cells)
 refine ⟨fun t => (wf.slots t).grow hg, fun j bj hj => ?_⟩
 rw [Z58] at hj
 split at hj
 ·simp only [Option.some.injEq] at hj; subst hj; exact fun x hx => (hc x hx).grow hg
 ·exact (wf.heap j bj hj).grow hg
theorem ZBw (wf : WF s) {d : Option Nat} {v : SV} (hv : SVok s.heap v) : WF (s.put d v) := by
 refine ⟨fun t => ?_, fun j bj hj => ?_⟩
 ·rw [Z8l, Z6Q]
  split
  ·exact hv
  ·exact wf.slots t
 ·rw [Z6Q] at hj ⊢
  exact wf.heap j bj hj
theorem ZBS (wf : WF s) (h : step P S n ops o s = some s1) : WF s1 := by
 by_cases hc : cls S o.op = 4
 ·obtain ⟨r, hr, hf, rfl⟩ := ZcP h
  unfold Z0W at hr
  split at hr
  ·cases hr
  ·split at hr
   ·split at hr
    ·split at hr
     ·cases hr
     ·rename_i r' hr'
      split at hr
      ·simp only [Option.some.injEq] at hr; subst hr
       have hform : (∃ d e z m c dr ck, r' = ⟨ck, .row (4 * d), [(4 * d, .row e z m c)], none, dr⟩) \/ (∃ id e z m c ck v, r' = ⟨ck, .val v, [], some (id, .row e z m c), none⟩) \/ (∃ id e cells ck v, r' = ⟨ck, v, [], some (id, .box e cells), none⟩ /\ (∀ x ∈ cells, SVok s.heap x) /\ SVok s.heap v) \/ ∃ d e cells ck, r' = ⟨ck, .ptr (4 * d) 0, [(4 * d, .box e cells)], none, none⟩ /\ ∀ x ∈ cells, SVok s.heap x := by
        unfold Z3j at hr'
        cases ho : o.op <;> rw [ho] at hr' hc <;> dsimp only at hr' <;> try (first | (cases hr'; done) | (simp [cls] at hc; done))
        case call c =>
         cases hcc : c.callee with
         | value f =>
          rw [hcc] at hr'
          dsimp only at hr'
          cases hmo : ZgQ S f with
          | none => simp [cls, hcc, hmo] at hc
          | some run =>
           rw [hmo] at hr'
           dsimp only at hr'
           cases run with
           | row run =>
            have hr' : ZBB s run _ = _ := hr'
            unfold ZBB at hr'
            split at hr'
            ·split at hr'
             ·split at hr'
              ·simp only [Option.some.injEq] at hr'
               exact .inr (.inl ⟨_, _, _, _, _, _, _, hr'.symm⟩)
              ·cases hr'
             ·cases hr'
            ·cases hr'
           | box run => simp [cls, hcc, hmo] at hc
           | cap run =>
            have hr' : ZA9 S s (s.ev f) _ = _ := hr'
            unfold ZA9 at hr'
            split at hr'
            ·split at hr'
             ·split at hr'
              ·unfold Zdh at hr'
               split at hr'
               ·split at hr'
                ·rename_i hbx
                 split at hr'
                 ·split at hr'
                  ·split at hr'
                   ·simp only [Option.some.injEq] at hr'
                    exact .inr (.inr (.inl ⟨_, _, _, _, _, hr'.symm, Zsv fun x hx => wf.heap _ _ hbx x hx, ZM2 _⟩))
                   ·cases hr'
                  ·cases hr'
                 ·cases hr'
                ·cases hr'
               ·cases hr'
              ·cases hr'
             ·cases hr'
            ·cases hr'
           | src run =>
            have hr' : ZBR s o.dst run _ = _ := hr'
            unfold ZBR at hr'
            split at hr'
            ·split at hr'
             ·rename_i hb _
              split at hr'
              ·simp only [Option.some.injEq] at hr'
               refine .inr (.inr (.inr ⟨_, _, _, _, hr'.symm, fun x hx => ?_⟩))
               rcases List.mem_cons.1 hx with rfl | hx
               ·exact ZMO hb
               ·obtain ⟨v, _, rfl⟩ := List.mem_map.1 hx
                exact True.intro
              ·cases hr'
             ·cases hr'
            ·cases hr'
         | invoke x m => rw [hcc] at hr'; cases hr'
         | builtin b =>
          rw [hcc] at hr'
          cases b <;> dsimp only at hr' <;> try (first | (cases hr'; done) | (simp [cls, hcc] at hc; done))
          split at hr'
          ·split at hr'
           ·obtain ⟨e, z, m, c, dr, ck, he⟩ := ZHY hr'
            exact .inl ⟨_, e, z, m, c, dr, ck, he⟩
           ·cases hr'
          ·cases hr'
       rcases hform with ⟨d, e, z, m, c, dr, ck, rfl⟩ | ⟨id, e, z, m, c, ck, v, rfl⟩ | ⟨id, e, cells, ck, v, rfl, hcl, hv⟩ | ⟨d, e, cells, ck, rfl, hcl⟩
       rotate_left
       ·exact ZBw (ZOH wf) True.intro
       ·exact ZBw (ZMc wf hcl) (SVok.grow (ZII _ _) hv)
       ·refine ZBw (ZMc wf hcl) ?_
        show ((s.set (4 * d) (.box e cells)).heap (4 * d)).isSome = true
        rw [Z58, if_pos rfl]
        rfl
       have hd : WF (s.dropped dr) := by
        cases dr with
        | none => exact wf
        | some id => exact ZP5 wf id
       refine ZBw (ZOH hd) ?_
       show ((((s.dropped dr).set (4 * d) (.row e z m c))).heap (4 * d)).isSome = true
       rw [Z58, if_pos rfl]
       rfl
      ·cases hr
    ·simp only [Option.some.injEq] at hr; subst hr
     exact ZBw wf True.intro
   ·cases hr
 ·exact ZPv hc wf h
theorem Z9H {i : Nat} {l : List Nat} (h : Z4M P S n ops (i :: l) s = some s2) : ∃ o s1, ops[i]? = some o /\ step P S n ops o s = some s1 /\ Z4M P S n ops l s1 = some s2 := by
 simp only [Z4M] at h
 split at h
 ·rename_i o ho
  split at h
  ·rename_i s1 h1
   exact ⟨o, s1, ho, h1, h⟩
  ·cases h
 ·cases h
theorem Zhn {i : Nat} {l : List Nat} (ho : ops[i]? = some o) (h1 : step P S n ops o s = some s1) (h2 : Z4M P S n ops l s1 = some s2) : Z4M P S n ops (i :: l) s = some s2 := by
 simp only [Z4M, ho, h1, h2]
theorem Zo0 : ∀ {l m : List Nat} {s s2 : FSt}, Z4M P S n ops (l ++ m) s = some s2 ↔ ∃ s1, Z4M P S n ops l s = some s1 /\ Z4M P S n ops m s1 = some s2
 | [], m, s, s2 => by simp [Z4M]
 | i :: l, m, s, s2 => by
  constructor
  ·intro h
   obtain ⟨o, s1, ho, h1, h2⟩ := Z9H h
   obtain ⟨s3, h3, h4⟩ := Zo0.1 h2
   exact ⟨s3, Zhn ho h1 h3, h4⟩
  ·rintro ⟨s3, h3, h4⟩
   obtain ⟨o, s1, ho, h1, h2⟩ := Z9H h3
   exact Zhn ho h1 (Zo0.2 ⟨s3, h2, h4⟩)
theorem ZJu : ∀ {l : List Nat} {s s2 : FSt}, WF s -> Z4M P S n ops l s = some s2 -> WF s2
 | [], s, s2, wf, h => by simp only [Z4M, Option.some.injEq] at h; subst h; exact wf
 | i :: l, s, s2, wf, h => by
  obtain ⟨o, s1, ho, h1, h2⟩ := Z9H h
  exact ZJu (ZBS wf h1) h2
theorem Zvg {i : Nat} (ho : ops[i]? = some o) : ∀ {l : List Nat} {s s2 : FSt}, WF s -> (∀ j ∈ l, Comm S ops i j) -> Z4M P S n ops (i :: l) s = some s2 -> ∃ s3, Z4M P S n ops l s = some s3 /\ step P S n ops o s3 = some s2
 | [], s, s2, wf, _, h => by
  obtain ⟨o', s1, ho', h1, h2⟩ := Z9H h
  rw [ho] at ho'
  simp only [Option.some.injEq] at ho'; subst ho'
  simp only [Z4M, Option.some.injEq] at h2; subst h2
  exact ⟨s, rfl, h1⟩
 | j :: l, s, s2, wf, hc, h => by
  obtain ⟨o', s1, ho', h1, h2⟩ := Z9H h
  rw [ho] at ho'
  simp only [Option.some.injEq] at ho'; subst ho'
  obtain ⟨q, s3, hq, h3, h4⟩ := Z9H h2
  obtain ⟨o', q', ho', hq', hcm⟩ := hc j (by simp)
  rw [ho] at ho'; rw [hq] at hq'
  simp only [Option.some.injEq] at ho' hq'; subst ho'; subst hq'
  unfold ZIa at hcm
  simp only [Bool.and_eq_true, Bool.or_eq_true] at hcm
  obtain ⟨s4, k1, k2⟩ : ∃ s4, step P S n ops q s = some s4 /\ step P S n ops o s4 = some s3 := by
   rcases hcm.2 with h | h | h | h | h | h
   ·exact ZnZ (List.mem_of_getElem? ho) (List.mem_of_getElem? hq) wf hcm.1 (.inl h) h1 h3
   ·exact ZnZ (List.mem_of_getElem? ho) (List.mem_of_getElem? hq) wf hcm.1 (.inr (.inl h)) h1 h3
   ·exact ZnZ (List.mem_of_getElem? ho) (List.mem_of_getElem? hq) wf hcm.1 (.inr (.inr (.inl h))) h1 h3
   ·exact ZnZ (List.mem_of_getElem? ho) (List.mem_of_getElem? hq) wf hcm.1 (.inr (.inr (.inr h))) h1 h3
   ·exact ZOL (List.mem_of_getElem? ho) (List.mem_of_getElem? hq) wf hcm.1 h h1 h3
   ·exact ZN8 (List.mem_of_getElem? hq) wf hcm.1 h h1 h3
  obtain ⟨s5, k3, k4⟩ := Zvg ho (ZBS wf k1) (fun x hx => hc x (by simp [hx])) (Zhn ho k2 h4)
  exact ⟨s5, Zhn hq k1 k3, k4⟩
theorem ZwM {L : Nat -> Bool} : ∀ {l : List Nat} {s s2 : FSt}, WF s -> l.Pairwise (fun i j => L i = false -> L j = true -> Comm S ops i j) -> Z4M P S n ops l s = some s2 -> ∃ s3, Z4M P S n ops (l.filter L) s = some s3
 | [], s, s2, _, _, h => ⟨s, rfl⟩
 | i :: l, s, s2, wf, hp, h => by
  obtain ⟨o, s1, ho, h1, h2⟩ := Z9H h
  obtain ⟨hp1, hp2⟩ := List.pairwise_cons.1 hp
  obtain ⟨s3, h3⟩ := ZwM (ZBS wf h1) hp2 h2
  cases hl : L i with
  | true =>
   rw [List.filter_cons_of_pos hl]
   exact ⟨s3, Zhn ho h1 h3⟩
  | false =>
   rw [List.filter_cons_of_neg (by simp [hl])]
   obtain ⟨s4, h4, _⟩ := Zvg ho wf (fun j hj => hp1 j ((List.mem_filter.1 hj).1) hl (List.mem_filter.1 hj).2) (Zhn ho h1 h3)
   exact ⟨s4, h4⟩
end

theorem ZG3 {listed : Array Bool} {i : Nat} (h : listed.getD i true = false) : (listed.setIfInBounds i true).toList.count false + 1 = listed.toList.count false := by
 rcases Nat.lt_or_ge i listed.size with hi | hi
 ·have hv : listed[i] = false := by simpa [hi] using h
  have hi' : i < listed.toList.length := by simpa using hi
  have hv' : listed.toList[i] = false := by simpa using hv
  have hc : 0 < listed.toList.count false := List.count_pos_iff.2 (hv' ▸ List.getElem_mem hi')
  rw [Array.toList_setIfInBounds, List.count_set hi', hv']
  rw [if_pos (show (false == false) = true from rfl), if_neg (show ¬ ((true == false) = true) by decide)]
  omega
 ·simp [Array.getElem?_eq_none hi] at h
theorem ZMU {listed : Array Bool} (h : listed.toList.count false = 0) (j : Nat) : listed.getD j true = true := by
 rcases Nat.lt_or_ge j listed.size with hj | hj
 ·have := List.count_eq_zero.1 h
  cases hv : listed[j]
  ·exact absurd (hv ▸ Array.getElem_mem_toList hj) this
  ·simp [hj, hv]
 ·simp [Array.getElem?_eq_none hj]
theorem ZFm {P : Program} {md : Region.Mode} {ops : Array Oper} {Q : Exit -> Act -> World -> Prop} (Inv : Array Bool -> Act -> World -> Prop)
  (hstep : ∀ (listed : Array Bool) (a : Act) (w : World) (i : Nat), listed.size = ops.size -> i ∈ Region.ready md ops listed -> Inv listed a w -> wpOp P ops Q i (fun a' w' => Inv (listed.setIfInBounds i true) a' w') a w)
  (hend : ∀ (listed : Array Bool) (a : Act) (w : World), listed.size = ops.size -> Region.ready md ops listed = [] -> Inv listed a w -> Q .normal a w) :
  ∀ (fuel : Nat) (listed : Array Bool) (a : Act) (w : World), listed.size = ops.size -> listed.toList.count false <= fuel -> Inv listed a w -> wpAny P md ops Q fuel listed a w
 | 0, listed, a, w, hs, hc, h => by
  have hr : Region.ready md ops listed = [] := by
   apply List.eq_nil_iff_forall_not_mem.2
   intro j hj
   have := (mem_ready.1 hj).1
   rw [ZMU (by omega) j] at this
   cases this
  exact ⟨hr, hend listed a w hs hr h⟩
 | fuel + 1, listed, a, w, hs, hc, h => by
  refine ⟨fun hr => hend listed a w hs hr h, fun i hi => ?_⟩
  have hcount := ZG3 (mem_ready.1 hi).1
  exact wpOp_mono (fun a' w' h' => ZFm Inv hstep hend fuel _ a' w' (by simpa using hs) (by omega) h') (hstep listed a w i hs hi h)
theorem ZFf (m j : Nat) : (Array.replicate m false).getD j false = false := by
 rcases Nat.lt_or_ge j m with h | h <;> simp [h]
section
variable {P : Program} {S : Sums} {W : World} {M : MV} {n : Nat} {s s1 s2 : FSt} {a : Act} {w w' : World} {ρ ρ' : Nat -> Value} {o : Oper} {r : Out} {ops : List Oper} {Q : Exit -> Act -> World -> Prop} {K : Act -> World -> Prop}
theorem ZNj (h : R P W M n s a w ρ) {x : Bool} (hw : Z4t ops s o = some x) : Region.wanted o (yielded ops.toArray a.tmps) = x := by
 unfold Z4t at hw
 unfold Region.wanted
 split at hw
 ·rename_i hg
  rw [hg]
  simpa using hw
 ·rename_i j want hg
  rw [hg]
  split at hw
  ·rename_i q hq
   split at hw
   ·rename_i d hd
    have hr := h.slots d
    have hy : yielded ops.toArray a.tmps j = match a.tmps[d]? with | some (.bool b) => some b | _ => none := by
     unfold yielded
     rw [show (ops.toArray[j]?).bind (·.dst) = some d by simp [hq, hd]]
     rfl
    dsimp only
    rw [hy]
    split at hw
    ·rename_i b hs
     rw [hs] at hr
     have hr : a.tmps.getD d undef = .bool b := hr
     simp only [Option.some.injEq] at hw
     have : a.tmps[d]? = some (.bool b) := by
      cases hd : a.tmps[d]? with
      | none =>
       rw [Array.getD_eq_getD_getElem?, hd] at hr
       cases hr
      | some v =>
       rw [Array.getD_eq_getD_getElem?, hd] at hr
       rw [show v = .bool b from hr]
     rw [this]
     rw [<- hw]
     simp
    ·rename_i t hs
     rw [hs] at hr
     have hr : a.tmps.getD d undef = .tuple t := hr
     simp only [Option.some.injEq] at hw
     subst hw
     cases hd : a.tmps[d]? with
     | none => rfl
     | some v =>
      rw [Array.getD_eq_getD_getElem?, hd] at hr
      rw [show v = .tuple t from hr]
      rfl
    ·cases hw
   ·cases hw
  ·cases hw
theorem ZJt (hS : Zc6 P S W M) (h : R P W M n s a w ρ) (hst : step P S n ops o s = some s1) (hK : ∀ a' w' ρ', R P W M n s1 a' w' ρ' -> K a' w') :
  if Region.wanted o (yielded ops.toArray a.tmps) = true then o.wp P a w K Q \/ (o.asks P a w /\ LetsOut Q) else K (a.put o.dst undef) w := by
 obtain ⟨r, hr, hf, rfl⟩ := ZcP hst
 unfold Z0W at hr
 split at hr
 ·cases hr
 ·rename_i x hw
  rw [ZNj h hw]
  split at hr
  ·rename_i hd
   split at hr
   ·rename_i hx
    rw [if_pos hx]
    split at hr
    ·cases hr
    ·rename_i r' hr'
     split at hr
     ·rename_i Z1b
      simp only [Option.some.injEq] at hr; subst hr
      exact .inl (Oper.wp_mono (fun a' w' ⟨ρ', hR⟩ => hK a' w' ρ' hR) (ZQo (Q := Q) hS h hd hr' (ZrR Z1b).1 hf))
     ·cases hr
   ·rename_i hx
    rw [if_neg hx]
    simp only [Option.some.injEq] at hr; subst hr
    exact hK _ _ ρ (h.put hd (.inr rfl))
  ·cases hr
theorem ZLU (hS : Zc6 P S W M) : ∀ {l : List Nat} {s s2 : FSt} {a : Act} {w : World} {ρ : Nat -> Value}, R P W M n s a w ρ -> Z4M P S n ops l s = some s2 -> (∀ a' w' ρ', R P W M n s2 a' w' ρ' -> Q .normal a' w') -> wpOps P ops.toArray Q l a w
 | [], s, s2, a, w, ρ, h, hst, hQ => by
  simp only [Z4M, Option.some.injEq] at hst; subst hst
  exact hQ a w ρ h
 | i :: l, s, s2, a, w, ρ, h, hst, hQ => by
  obtain ⟨o, s1, ho, h1, h2⟩ := Z9H hst
  rw [wpOps_cons]
  unfold wpOp
  rw [show ops.toArray[i]? = some o by simpa using ho]
  exact ZJt hS h h1 fun a' w' ρ' hR => ZLU hS hR h2 hQ
theorem Zq5 {α : Type} {p q : α -> Bool} : ∀ {l : List α}, (∀ x ∈ l, p x = q x) -> l.filter p = l.filter q
 | [], _ => rfl
 | x :: l, h => by
  simp only [List.filter_cons]
  rw [h x (by simp), Zq5 fun y hy => h y (by simp [hy])]
theorem ZOU (hS : Zc6 P S W M) (hok : ZFe S ops = true) {s0 sN : FSt} (hfull : Z4M P S n ops (List.range ops.length) s0 = some sN) (hR0 : R P W M n s0 a w ρ) (hQ : ∀ a' w' ρ', R P W M n sN a' w' ρ' -> Q .normal a' w') :
  wpAny P .any ops.toArray Q ops.toArray.size (Array.replicate ops.toArray.size false) a w := by
 have hord : ordB 0 ops = true := by unfold ZFe at hok; simp only [Bool.and_eq_true] at hok; exact hok.1
 let L (listed : Array Bool) : Nat -> Bool := fun j => listed.getD j false
 refine ZFm (fun listed a w => Closed ops (L listed) /\ ∃ s ρ, Z4M P S n ops ((List.range ops.length).filter (L listed)) s0 = some s /\ R P W M n s a w ρ) ?_ ?_ _ _ _ _ (by simp) ?_ ?_
 ·intro listed a w i hs hi ⟨hcl, s, ρ, hst, hR⟩
  obtain ⟨hn, o, ho, hdeps⟩ := mem_ready.1 hi
  have ho' : ops[i]? = some o := by simpa using ho
  have hin : i < ops.length := (List.getElem?_eq_some_iff.1 ho').1
  have hsz : listed.size = ops.length := by simpa using hs
  have hLi : L listed i = false := by
   show listed.getD i false = false
   have hil : i < listed.size := by omega
   simp [hil] at hn ⊢
   exact hn
  have hL' : ∀ j, L (listed.setIfInBounds i true) j = (j == i || L listed j) := by
   intro j
   show (listed.setIfInBounds i true).getD j false = _
   by_cases e : j = i
   ·subst e
    have hil : j < listed.size := by omega
    simp [hil]
   ·have : (j == i) = false := by simpa using e
    rw [this, Bool.false_or]
    show _ = listed.getD j false
    simp only [Array.getD_eq_getD_getElem?, Array.getElem?_setIfInBounds_ne (fun h => e h.symm)]
  have hcl' : Closed ops (L (listed.setIfInBounds i true)) := by
   intro j q hq hl e he hb
   rw [hL'] at hl ⊢
   rw [Bool.or_eq_true] at hl ⊢
   rcases hl with hl | hl
   ·have : j = i := by simpa using hl
    subst this
    rw [ho'] at hq
    simp only [Option.some.injEq] at hq; subst hq
    exact .inr (hdeps e he hb)
   ·exact .inr (hcl j q hq hl e he hb)
  have hwf0 : WF s0 := hR0.wf
  have hpw : (List.range ops.length).Pairwise (fun i j => L (listed.setIfInBounds i true) i = L (listed.setIfInBounds i true) i) := by
   exact List.pairwise_lt_range.imp fun _ => rfl
  have hpw : (List.range ops.length).Pairwise (fun x y => L (listed.setIfInBounds i true) x = false -> L (listed.setIfInBounds i true) y = true -> Comm S ops x y) := by
   refine List.Pairwise.imp_of_mem (fun {x y} hx hy hxy hlx hly => ZLf hok hcl' hxy (by simpa using hy) hlx hly) List.pairwise_lt_range
  obtain ⟨u, hu⟩ := ZwM hwf0 hpw hfull
  have hsplit : List.range ops.length = List.range i ++ i :: List.range' (i + 1) (ops.length - i - 1) := by
   rw [List.range_eq_range', List.range_eq_range', show ops.length = i + (1 + (ops.length - i - 1)) from by omega, <- List.range'_append, <- List.range'_append]
   simp [List.range'_succ]
  have e1 : (List.range ops.length).filter (L (listed.setIfInBounds i true)) = (List.range i).filter (L listed) ++ i :: (List.range' (i + 1) (ops.length - i - 1)).filter (L listed) := by
   rw [hsplit, List.filter_append, List.filter_cons_of_pos (by rw [hL']; simp)]
   congr 1
   ·refine Zq5 fun x hx => ?_
    rw [hL']
    have : x ≠ i := by have := List.mem_range.1 hx; omega
    simp [this]
   ·congr 1
    refine Zq5 fun x hx => ?_
    rw [hL']
    have : x ≠ i := by have := (List.mem_range'_1.1 hx).1; omega
    simp [this]
  have e2 : (List.range ops.length).filter (L listed) = (List.range i).filter (L listed) ++ (List.range' (i + 1) (ops.length - i - 1)).filter (L listed) := by
   rw [hsplit, List.filter_append, List.filter_cons_of_neg (by rw [hLi]; simp)]
  have hu0 := hu
  rw [e1] at hu
  obtain ⟨v, hv, hu⟩ := Zo0.1 hu
  obtain ⟨x, hx, hxu⟩ := Zvg ho' (ZJu hwf0 hv) (fun j hj => by
   obtain ⟨hj1, hj2⟩ := List.mem_filter.1 hj
   have hj3 := List.mem_range'_1.1 hj1
   exact ZLf hok hcl (by omega) (by omega) hLi hj2) hu
  have hsx : s = x := by
   have : Z4M P S n ops ((List.range ops.length).filter (L listed)) s0 = some x := by
    rw [e2]; exact Zo0.2 ⟨v, hv, hx⟩
   rw [hst] at this
   simpa using this
  subst hsx
  unfold wpOp
  rw [show ops.toArray[i]? = some o by simpa using ho']
  exact ZJt hS hR hxu fun a' w' ρ' hR' => ⟨hcl', u, ρ', hu0, hR'⟩
 ·intro listed a w hs hr ⟨hcl, s, ρ, hst, hR⟩
  have hall : ∀ j, j < ops.length -> L listed j = true := by
   intro j
   induction j using Nat.strongRecOn with
   | _ j ih =>
    intro hj
    cases hl : L listed j with
    | true => rfl
    | false =>
     have hjs : j < listed.size := by rw [hs]; simpa using hj
     have : j ∈ Region.ready .any ops.toArray listed := mem_ready.2 ⟨by
      have hl' : listed.getD j false = false := hl
      simp [hjs] at hl' ⊢; exact hl', ops[j], by simp [hj], fun e he hb => by
      have := ZN1 hord (j := j) (o := ops[j]) (by simp [hj]) e he hb
      exact ih e.on (by omega) (by omega)⟩
     rw [hr] at this
     cases this
  have : (List.range ops.length).filter (L listed) = List.range ops.length := by
   rw [List.filter_eq_self]
   intro j hj
   exact hall j (by simpa using hj)
  rw [this, hfull] at hst
  simp only [Option.some.injEq] at hst; subst hst
  exact hQ a w ρ hR
 ·simp
 ·refine ⟨fun j o ho hl => ?_, s0, ρ, ?_, hR0⟩
  ·exfalso
   have : (Array.replicate ops.toArray.size false).getD j false = true := hl
   rw [ZFf] at this
   cases this
  ·have : (List.range ops.length).filter (L (Array.replicate ops.toArray.size false)) = [] := by
    rw [List.filter_eq_nil_iff]
    intro j hj
    show ¬ (Array.replicate ops.toArray.size false).getD j false = true
    rw [ZFf]
    simp
   rw [this]
   rfl
theorem ZKQ (hS : Zc6 P S W M) (hm : P.follows .mixedOrders = true) {id : Nat} {opsA : Array Oper} {draw : Bool} (hok : draw = true -> ZFe S opsA.toList = true) {sN : FSt} (hfull : Z4M P S n opsA.toList (List.range opsA.toList.length) s = some sN) (hR : R P W M n s a w ρ) (hQ : ∀ a' w' ρ', R P W M n sN a' w' ρ' -> Q .normal a' w') :
  (Code.region id opsA draw).wp P Q a w := by
 cases draw with
 | false =>
  refine wp_region ?_
  have := ZLU (Q := Q) hS hR hfull hQ
  simpa using this
 | true =>
  refine wp_region_any hm ?_
  have := ZOU (Q := Q) hS (hok rfl) hfull (hR.ext (w' := { w with drawn := w.drawn + 1 }) ⟨rfl, rfl, rfl, Nat.le_refl _, fun _ _ _ => rfl⟩) hQ
  simpa using this
theorem ZOQ {r : Out} {v : SV} (h : r.v = v) : ({ r with v := v } : Out) = r := by subst h; rfl
theorem ZBy {α : Type} {k : FSt -> Option α} {x : α} : ∀ {l : List Oper} {i : Nat} {s : FSt}, (∀ j o, l[j]? = some o -> ops[i + j]? = some o) -> regK P S n ops i l s k = some x -> ∃ s', Z4M P S n ops (List.range' i l.length) s = some s' /\ k s' = some x
 | [], i, s, _, h => ⟨s, rfl, h⟩
 | o :: l, i, s, ho, h => by
  have ho0 : ops[i]? = some o := by simpa using ho 0 o (by simp)
  have hol : ∀ j q, l[j]? = some q -> ops[i + 1 + j]? = some q := fun j q hq => by
   have := ho (j + 1) q (by simpa using hq)
   rwa [show i + (j + 1) = i + 1 + j from by omega] at this
  have fin : ∀ s1, step P S n ops o s = some s1 -> regK P S n ops (i + 1) l s1 k = some x -> ∃ s', Z4M P S n ops (List.range' i (o :: l).length) s = some s' /\ k s' = some x := by
   intro s1 h1 h2
   obtain ⟨s', h3, h4⟩ := ZBy hol h2
   refine ⟨s', ?_, h4⟩
   rw [List.length_cons, List.range'_succ]
   exact Zhn ho0 h1 h3
  simp only [regK] at h
  split at h
  ·cases h
  ·rename_i b hw
   split at h
   ·rename_i hd
    split at h
    ·rename_i hb
     split at h
     ·cases h
     ·rename_i r hr
      split at h
      ·rename_i Z1b
       split at h
       ·rename_i hf
        have hst : step P S n ops o s = some (s.apply o.dst r) := by
         refine ZhU ?_ hf
         unfold Z0W
         rw [hw]
         simp only [hd, hb, if_true, hr, Z1b]
        split at h
        ·rename_i b' hg hv
         split at h
         ·rename_i hb'
          subst hb'
          have : ({ r with v := .val (.bool true) } : Out) = r := ZOQ hv
          rw [this] at h
          exact fin _ hst h
         ·rename_i hb'
          have hb'' : b' = false := by simpa using hb'
          subst hb''
          have : ({ r with v := .val (.bool false) } : Out) = r := ZOQ hv
          rw [this] at h
          exact fin _ hst h
        ·exact fin _ hst h
       ·cases h
      ·cases h
    ·rename_i hb
     have hb' : b = false := by simpa using hb
     subst hb'
     have hst : step P S n ops o s = some (s.put o.dst (.val undef)) := by
      refine ZhU (r := .pure true (.val undef)) ?_ rfl
      unfold Z0W
      rw [hw]
      simp only [hd, if_true, Bool.false_eq_true, if_false]
     exact fin _ hst h
   ·cases h
end

section
variable {P : Program} {S : Sums} {W : World} {M : MV} {n : Nat} {s s1 s2 : FSt} {a : Act} {w w' : World} {ρ ρ' : Nat -> Value} {H H' : Nat -> Option Blk}
theorem ZyY {l : List Nat} {i : Nat} : l.any (Nat.beq i) = true ↔ i ∈ l := by
 rw [List.any_eq_true]
 constructor
 ·rintro ⟨j, hj, e⟩
  rw [neq e]
  exact hj
 ·intro h
  exact ⟨i, h, by simp⟩
theorem ZBf {l : List Nat} (hl : ∀ id, id ∈ l -> (H id).isSome = true -> (H' id).isSome = true) {x : SV} {v : Value} (h : Rel P W M ρ H x v) : Rel P W M ρ H' (Zdu l x) v := by
 cases x with
 | val y => exact h
 | ptr i o =>
  simp only [Zdu]
  cases hb : l.any (Nat.beq i) with
  | true => exact ⟨hl i (ZyY.1 hb) h.1, h.2⟩
  | false => exact True.intro
 | row i =>
  simp only [Zdu]
  cases hb : l.any (Nat.beq i) with
  | true => exact ⟨hl i (ZyY.1 hb) h.1, h.2⟩
  | false => exact True.intro
 | sub i o m z =>
  simp only [Zdu]
  cases hb : l.any (Nat.beq i) with
  | true => exact ⟨hl i (ZyY.1 hb) h.1, h.2⟩
  | false => exact True.intro
 | clo f q =>
  simp only [Zdu]
  cases hb : q.all (fun i => l.any (Nat.beq i)) with
  | true =>
   obtain ⟨vs, h1, h2⟩ := h
   exact ⟨vs, h1, h2.memMono fun i hi b hc => ⟨hl i (ZyY.1 (List.all_eq_true.1 hb i hi)) hc.1, hc.2⟩⟩
  | false => exact True.intro
 | fn g => exact h
 | tup q => exact True.intro
 | agr q => exact True.intro
 | junk => exact h
theorem ZN2 (l : List Nat) (b : Blk) : ownB (ZmU l b) = ownB b := by cases b <;> rfl
theorem ZMR {l : List Nat} (hl : ∀ id, id ∈ l -> (H id).isSome = true -> (H' id).isSome = true) {i : Nat} {b : Blk} (k : BRel P W M w ρ H i b) : BRel P W M w ρ H' i (ZmU l b) := by
 cases b with
 | box e cells =>
  obtain ⟨g, cs, h1, h2, h3, h4⟩ := k
  exact ⟨g, cs, h1, h2, h3, h4.mapBoth fun x y (k : Rel P W M ρ H x y) => ZBf hl k⟩
 | row e sz m c => exact k
 | ros m c => exact k
 | rop cells =>
  obtain ⟨g, o, h1, h2, h3⟩ := k
  refine ⟨g, o, h1, h2, fun j v hv => ?_⟩
  rw [List.getElem?_map] at hv
  cases hc : cells[j]? with
  | none => rw [hc] at hv; cases hv
  | some x =>
   rw [hc] at hv
   obtain rfl : Zdu l x = v := by simpa using hv
   obtain ⟨u, hu, hr⟩ := h3 j x hc
   exact ⟨u, hu, ZBf hl hr⟩
theorem ZBl (H : Nat -> Option Blk) (f : Blk -> Blk) : ∀ (l : List Nat) (x : Nat), look ((Zc7 H l).map fun p => (p.1, f p.2)) x = if x ∈ l then (H x).map f else none
 | [], x => rfl
 | i :: l, x => by
  simp only [Zc7]
  cases hi : H i with
  | none =>
   simp only
   rw [ZBl H f l x]
   by_cases e : x = i
   ·subst e
    simp [hi]
   ·simp [e]
  | some b =>
   simp only [List.map_cons, look]
   by_cases e : x = i
   ·subst e
    simp [hi]
   ·rw [nbeq e, cond_false, ZBl H f l x]
    simp [e]
theorem R.keep (h : R P W M n s a w ρ) (l : List Nat) {sl : List SV} (hs : ∀ t x, sl[t]? = some x -> x = .junk \/ x = Zdu l (s.slot t)) (h0 : ∀ v, M = some v -> 0 ∈ l /\ ∀ u, v.2 = some u -> 1 ∈ l) :
  R P W M n (Tab.st ⟨sl, (Zc7 s.heap l).map fun p => (p.1, ZmU l p.2)⟩) a w ρ := by
 have hh : ∀ x, (Tab.st ⟨sl, (Zc7 s.heap l).map fun p => (p.1, ZmU l p.2)⟩).heap x = if x ∈ l then (s.heap x).map (ZmU l) else none := ZBl s.heap (ZmU l) l
 have hl : ∀ id, id ∈ l -> (s.heap id).isSome = true -> ((Tab.st ⟨sl, (Zc7 s.heap l).map fun p => (p.1, ZmU l p.2)⟩).heap id).isSome = true := by
  intro id hid hsome
  rw [hh, if_pos hid]
  simpa using hsome
 have hinv : ∀ id b, (Tab.st ⟨sl, (Zc7 s.heap l).map fun p => (p.1, ZmU l p.2)⟩).heap id = some b -> ∃ b0, s.heap id = some b0 /\ b = ZmU l b0 := by
  intro id b hb
  rw [hh] at hb
  split at hb
  ·cases hs : s.heap id with
   | none => rw [hs] at hb; cases hb
   | some b0 => rw [hs] at hb; exact ⟨b0, rfl, by simpa using hb.symm⟩
  ·cases hb
 refine ⟨h.grown, h.size, h.defers, fun t => ?_, fun id b hb => ?_, fun i j bi bj g hij hi hj oi oj gi => ?_, fun v hv => ⟨(h.fix v hv).1, ⟨hl 0 (h0 v hv).1 (h.fix v hv).2.1.1, (h.fix v hv).2.1.2⟩, fun u hu => ⟨hl 1 ((h0 v hv).2 u hu) ((h.fix v hv).2.2 u hu).1, ((h.fix v hv).2.2 u hu).2⟩⟩⟩
 ·show Rel P W M ρ _ (sl.getD t .junk) _
  rw [List.getD_eq_getElem?_getD]
  cases ht : sl[t]? with
  | none => exact True.intro
  | some x =>
   rcases hs t x ht with rfl | rfl
   ·exact True.intro
   ·exact ZBf hl (h.slots t)
 ·obtain ⟨b0, hb0, rfl⟩ := hinv id b hb
  exact ZMR hl (h.heap id b0 hb0)
 ·obtain ⟨b0, hb0, rfl⟩ := hinv i bi hi
  obtain ⟨b1, hb1, rfl⟩ := hinv j bj hj
  rw [ZN2] at oi oj
  exact h.apart i j b0 b1 g hij hb0 hb1 oi oj gi
theorem ZA6 (H : Nat -> Option Blk) : ∀ (l : List Nat), Zc7 H ((Zc7 H l).map (·.1)) = Zc7 H l
 | [] => rfl
 | i :: l => by
  simp only [Zc7]
  cases hi : H i with
  | none => exact ZA6 H l
  | some b =>
   simp only [List.map_cons, Zc7, hi]
   rw [ZA6 H l]
theorem ZKD (s : FSt) (ap : List Nat) (i : Nat) (x : SV) : Zsm s ap i x = .junk \/ Zsm s ap i x = x := by
 cases x with
 | row b =>
  unfold Zsm
  dsimp only
  cases ZPY s.heap b with
  | false => exact .inr rfl
  | true =>
   cases ap.find? fun j => ZLs b (s.slot j) with
   | none => exact .inr rfl
   | some j =>
    cases h : Nat.beq i j with
    | true => exact .inr (by simp only [cond_true, h])
    | false => exact .inl (by simp only [cond_true, h, cond_false])
 | _ => exact .inr rfl
theorem Zz6 {H : Nat -> Option Blk} {x : Nat} (hs : (H x).isSome = true) : ∀ {l : List Nat}, x ∈ l -> x ∈ (Zc7 H l).map (·.1)
 | i :: l, hx => by
  simp only [Zc7]
  cases hi : H i with
  | none =>
   rcases List.mem_cons.1 hx with rfl | hx
   ·rw [hi] at hs; cases hs
   ·exact Zz6 hs hx
  | some b =>
   rcases List.mem_cons.1 hx with rfl | hx
   ·simp
   ·simp only [List.map_cons, List.mem_cons]
    exact .inr (Zz6 hs hx)
theorem ZL8 {i : Nat} {l : List Nat} (h : l.any (Nat.beq i) = true) : i ∈ l := by
 obtain ⟨x, hx, h0⟩ := List.any_eq_true.1 h
 have := Nat.eq_of_beq_eq_true h0
 subst this
 exact hx
theorem ZIY (l : List Nat) : 0 ∈ Zz4 l /\ 1 ∈ Zz4 l := by
 unfold Zz4
 have h0 : 0 ∈ (bif l.any (Nat.beq 0) then l else 0 :: l) := by
  cases h : l.any (Nat.beq 0) with
  | true => exact ZL8 h
  | false => exact List.mem_cons_self
 dsimp only
 generalize (bif l.any (Nat.beq 0) then l else 0 :: l) = m at h0
 cases h : m.any (Nat.beq 1) with
 | true => exact ⟨h0, ZL8 h⟩
 | false => exact ⟨List.mem_cons_of_mem _ h0, List.mem_cons_self⟩
theorem R.tab (h : R P W M n s a w ρ) (ap : List Nat) : R P W M n (s.tab ap n).st a w ρ := by
 have := h.keep ((Zc7 s.heap (List.range (4 * n))).map (·.1)) (sl := (List.range n).map fun i => Zsm s ap i (Zdu ((Zc7 s.heap (List.range (4 * n))).map (·.1)) (s.slot i))) fun t x hx => by
  rw [List.getElem?_map] at hx
  cases ht : (List.range n)[t]? with
  | none => rw [ht] at hx; cases hx
  | some j =>
   rw [ht] at hx
   have : j = t := by
    have := List.getElem?_eq_some_iff.1 ht
    obtain ⟨h1, h2⟩ := this
    simp at h2
    exact h2.symm
   subst this
   simp only [Option.map_some, Option.some.injEq] at hx
   subst hx
   exact ZKD s ap j _
 have this := this fun v hv => ⟨Zz6 (h.fix v hv).2.1.1 (List.mem_range.2 (by have := (h.fix v hv).1; omega)), fun u hu => Zz6 ((h.fix v hv).2.2 u hu).1 (List.mem_range.2 (by have := (h.fix v hv).1; omega))⟩
 rw [ZA6] at this
 exact this
theorem R.ren (h : R P W M n s a w ρ) (i j : Nat) (hi0 : i ≠ 0 /\ i ≠ 1) : ∃ ρ', R P W M n (s.ren i j) a w ρ' := by
 unfold FSt.ren
 split
 ·rename_i e z m c hi hj
  refine ⟨fun x => if x = j then ρ i else ρ x, ?_⟩
  have hij : i ≠ j := by rintro rfl; rw [hi] at hj; cases hj
  let s' : FSt := { slot := fun t => ZgZ i j (s.slot t), heap := fun x => bif Nat.beq x j then some (.row e z m c) else bif Nat.beq x i then none else match s.heap x with | some q => some (renB i j q) | none => none }
  have hheap : ∀ x, s'.heap x = if x = j then some (.row e z m c) else if x = i then none else (s.heap x).map (renB i j) := by
   intro x
   show (bif Nat.beq x j then _ else _) = _
   by_cases e1 : x = j
   ·subst e1; simp
   ·rw [nbeq e1, if_neg e1, cond_false]
    by_cases e2 : x = i
    ·subst e2; simp
    ·rw [nbeq e2, if_neg e2, cond_false]
     cases s.heap x <;> rfl
  have live : ∀ x, x ≠ i -> (s.heap x).isSome = true -> (s'.heap x).isSome = true /\ x ≠ j := by
   intro x hx hs
   have hxj : x ≠ j := by rintro rfl; rw [hj] at hs; cases hs
   rw [hheap, if_neg hxj, if_neg hx]
   exact ⟨by simpa using hs, hxj⟩
  have hrel : ∀ {x : SV} {v : Value}, Rel P W M ρ s.heap x v -> Rel P W M (fun x => if x = j then ρ i else ρ x) s'.heap (ZgZ i j x) v := by
   intro x v k
   cases x with
   | val y => exact k
   | row b =>
    by_cases e : b = i
    ·subst e
     simp only [ZgZ, show Nat.beq b b = true by simp, cond_true]
     refine ⟨?_, ?_⟩
     ·rw [hheap, if_pos rfl]; rfl
     ·simp only [if_true]; exact k.2
    ·simp only [ZgZ, nbeq e, cond_false]
     obtain ⟨l1, l2⟩ := live b e k.1
     exact ⟨l1, by simp only [if_neg l2]; exact k.2⟩
   | ptr b o =>
    by_cases e : b = i
    ·subst e
     simp only [ZgZ, show Nat.beq b b = true by simp, cond_true]
     exact True.intro
    ·simp only [ZgZ, nbeq e, cond_false]
     obtain ⟨l1, l2⟩ := live b e k.1
     exact ⟨l1, by simp only [if_neg l2]; exact k.2⟩
   | sub b o m' z' =>
    by_cases e : b = i
    ·subst e
     simp only [ZgZ, show Nat.beq b b = true by simp, cond_true]
     exact True.intro
    ·simp only [ZgZ, nbeq e, cond_false]
     obtain ⟨l1, l2⟩ := live b e k.1
     exact ⟨l1, by simp only [if_neg l2]; exact k.2⟩
   | clo f l =>
    simp only [ZgZ]
    cases hb : l.any (Nat.beq i) with
    | true => exact True.intro
    | false =>
     obtain ⟨vs, h1, h2⟩ := k
     refine ⟨vs, h1, h2.memMono fun x hx b hc => ?_⟩
     obtain ⟨l1, l2⟩ := live x (ZG0 hb hx) hc.1
     exact ⟨l1, by simp only [if_neg l2]; exact hc.2⟩
   | fn g => exact k
   | tup l =>
    simp only [ZgZ]
    cases hb : Zcd i l with
    | true => exact True.intro
    | false =>
     obtain ⟨vs, h1, h2⟩ := k
     refine ⟨vs, h1, h2.memMono fun x hx b hc => ?_⟩
     cases x with
     | v y => exact hc
     | r y =>
      have hy : y ≠ i := by
       rintro rfl
       have := List.any_eq_false.1 hb _ hx
       simp at this
      obtain ⟨l1, l2⟩ := live y hy hc.1
      exact ⟨l1, by simp only [if_neg l2]; exact hc.2⟩
   | agr l =>
    simp only [ZgZ]
    cases hb : Zcd i l with
    | true => exact True.intro
    | false =>
     obtain ⟨vs, h1, h2⟩ := k
     refine ⟨vs, h1, h2.memMono fun x hx b hc => ?_⟩
     cases x with
     | v y => exact hc
     | r y =>
      have hy : y ≠ i := by
       rintro rfl
       have := List.any_eq_false.1 hb _ hx
       simp at this
      obtain ⟨l1, l2⟩ := live y hy hc.1
      exact ⟨l1, by simp only [if_neg l2]; exact hc.2⟩
   | junk => exact k
  have hinv : ∀ x b, s'.heap x = some b -> (x = j /\ b = .row e z m c) \/ (x ≠ j /\ x ≠ i /\ ∃ b0, s.heap x = some b0 /\ b = renB i j b0) := by
   intro x b hb
   rw [hheap] at hb
   split at hb
   ·rename_i e1
    exact .inl ⟨e1, by simpa using hb.symm⟩
   ·rename_i e1
    split at hb
    ·cases hb
    ·rename_i e2
     cases hs : s.heap x with
     | none => rw [hs] at hb; cases hb
     | some b0 => rw [hs] at hb; exact .inr ⟨e1, e2, b0, rfl, by simpa using hb.symm⟩
  have hown : ∀ b, ownB (renB i j b) = ownB b := fun b => by cases b <;> rfl
  refine (show R P W M n s' a w _ from ⟨h.grown, h.size, h.defers, fun t => hrel (h.slots t), fun x b hb => ?_, fun x y bx by_ g hxy hx hy ox oy gx => ?_, fun v hv => ⟨(h.fix v hv).1, ⟨(live 0 (Ne.symm hi0.1) (h.fix v hv).2.1.1).1, (if_neg (live 0 (Ne.symm hi0.1) (h.fix v hv).2.1.1).2).trans (h.fix v hv).2.1.2⟩, fun u hu => ⟨(live 1 (Ne.symm hi0.2) ((h.fix v hv).2.2 u hu).1).1, (if_neg (live 1 (Ne.symm hi0.2) ((h.fix v hv).2.2 u hu).1).2).trans ((h.fix v hv).2.2 u hu).2⟩⟩⟩)
  ·rcases hinv x b hb with ⟨rfl, rfl⟩ | ⟨h1, h2, b0, hb0, rfl⟩
   ·obtain ⟨k1, k2, k3⟩ := h.heap i _ hi
    exact ⟨k1, by simp only [if_true]; exact k2, by simp only [if_true]; exact k3⟩
   ·have k := h.heap x b0 hb0
    cases b0 with
    | box e' cells =>
     obtain ⟨g, cs, k1, k2, k3, k4⟩ := k
     exact ⟨g, cs, by simp only [if_neg h1]; exact k1, k2, k3, k4.mapBoth fun x y (q : Rel P W M ρ s.heap x y) => hrel q⟩
    | row e' z' m' c' => exact ⟨k.1, by simp only [if_neg h1]; exact k.2.1, by simp only [if_neg h1]; exact k.2.2⟩
    | ros m' c' => simp only [renB, BRel, if_neg h1] at k ⊢; exact k
    | rop cells =>
     obtain ⟨g, o, k1, k2, k3⟩ := k
     refine ⟨g, o, by simp only [if_neg h1]; exact k1, k2, fun t v hv => ?_⟩
     rw [List.getElem?_map] at hv
     cases hc : cells[t]? with
     | none => rw [hc] at hv; cases hv
     | some x =>
      rw [hc] at hv
      obtain rfl : ZgZ i j x = v := by simpa using hv
      obtain ⟨u, hu, hr⟩ := k3 t x hc
      exact ⟨u, hu, hrel hr⟩
  ·rcases hinv x bx hx with ⟨rfl, rfl⟩ | ⟨x1, x2, b0, hb0, rfl⟩ <;> rcases hinv y by_ hy with ⟨rfl, rfl⟩ | ⟨y1, y2, b1, hb1, rfl⟩
   ·exact absurd rfl hxy
   ·simp only [if_true] at gx
    simp only [if_neg y1]
    rw [hown] at oy
    exact h.apart i y _ b1 g (Ne.symm y2) hi hb1 rfl oy gx
   ·simp only [if_true]
    simp only [if_neg x1] at gx
    rw [hown] at ox
    exact h.apart x i b0 _ g x2 hb0 hi ox rfl gx
   ·simp only [if_neg x1] at gx
    simp only [if_neg y1]
    rw [hown] at ox oy
    exact h.apart x y b0 b1 g hxy hb0 hb1 ox oy gx
 ·exact ⟨ρ, h⟩
theorem R.renOne (h : R P W M n s a w ρ) (x : SV) (i : Nat) : ∃ ρ', R P W M n (renOne x i s) a w ρ' := by
 unfold YtcdpfpfbilfpoaaGreatDoor.renOne
 split
 ·split
  ·rename_i b _ a0 _
   cases hb : Nat.beq a0 b || Nat.ble a0 1 with
   | true => exact ⟨ρ, h⟩
   | false =>
    refine h.ren _ _ ⟨fun e0 => ?_, fun e0 => ?_⟩
    ·subst e0
     simp at hb
    ·subst e0
     simp at hb
  ·exact ⟨ρ, h⟩
 ·exact ⟨ρ, h⟩
theorem R.renAll : ∀ (l : List SV) (i : Nat) {s : FSt} {ρ : Nat -> Value}, R P W M n s a w ρ -> ∃ ρ', R P W M n (renAll l i s) a w ρ'
 | [], i, s, ρ, h => ⟨ρ, h⟩
 | x :: l, i, s, ρ, h => by
  obtain ⟨ρ', h'⟩ := h.renOne x i
  exact R.renAll l (i + 1) h'
theorem Zpf {l : List Nat} : ∀ (t : List SV) (i j : Nat) (x : SV), (ZfZ l s t i)[j]? = some x -> x = .junk \/ x = Zdu l (s.slot (i + j))
 | [], i, j, x, h => by simp [ZfZ] at h
 | y :: t, i, 0, x, h => by
  simp only [ZfZ, List.getElem?_cons_zero, Option.some.injEq] at h
  cases y <;> first | exact .inl h.symm | exact .inr h.symm
 | y :: t, i, j + 1, x, h => by
  simp only [ZfZ, List.getElem?_cons_succ] at h
  have := Zpf t (i + 1) j x h
  rwa [show i + 1 + j = i + (j + 1) from by omega] at this
theorem R.killIf (h : R P W M n s a w ρ) {c : Bool} {b : Nat} (hc : c = true -> 2 <= b) : R P W M n (bif c then s.kill b else s) a w ρ := by
 cases c
 ·exact h
 ·have := hc rfl
  exact h.kill b ⟨by omega, by omega⟩
theorem R.freedAt (h : R P W M n s a w ρ) (all : List SV) (i : Nat) (x : SV) : R P W M n (YtcdpfpfbilfpoaaGreatDoor.freedAt all s i x) a w ρ := by
 unfold YtcdpfpfbilfpoaaGreatDoor.freedAt
 split
 ·split
  ·refine R.killIf h fun hc => ?_
   simp only [Bool.and_eq_true] at hc
   exact nle hc.1.1.1
  ·exact h
 ·exact h
theorem R.freed (all : List SV) : ∀ (l : List SV) (i : Nat) {s : FSt}, R P W M n s a w ρ -> R P W M n (YtcdpfpfbilfpoaaGreatDoor.freed all l i s) a w ρ
 | [], i, s, h => h
 | x :: l, i, s, h => R.freed all l (i + 1) (h.freedAt all i x)
theorem R.norm (h : R P W M n s a w ρ) (t : Tab) : ∃ ρ', R P W M n (t.norm s).st a w ρ' := by
 obtain ⟨ρ', h'⟩ := R.renAll t.slots 0 (R.freed t.slots t.slots 0 h)
 exact ⟨ρ', h'.keep _ (fun i x hx => by
  have := Zpf _ _ _ _ hx
  rwa [Nat.zero_add] at this) fun _ _ => ⟨(ZIY _).1, fun _ _ => (ZIY _).2⟩⟩
def Ex.to : Ex -> Exit
 | .normal => .normal
 | .exit id => .exit id
 | .ret => .ret
def Z7V (S : Sums) : Code -> Bool
 | .region _ ops draw => !draw || ZFe S ops.toList
 | .seq a b => Z7V S a && Z7V S b
 | .cond _ a b => Z7V S a && Z7V S b
 | .block _ a => Z7V S a
 | .loop a => Z7V S a
 | _ => true
theorem R.clr : ∀ (l : List Oper) {s : FSt}, R P W M n s a w ρ -> R P W M n (s.clr l) a w ρ
 | [], s, h => h
 | o :: l, s, h => by
  unfold FSt.clr
  split
  ·rename_i d hd
   split
   ·cases hb : Nat.ble 1 d
    ·exact R.clr l h
    ·have := nle hb
     exact R.clr l (h.kill _ ⟨by omega, by omega⟩)
   ·exact R.clr l h
  ·exact R.clr l h
theorem Zse {α : Type} (hS : Zc6 P S W M) (hm : P.follows .mixedOrders = true) {x : α} {fu : Code -> Nat} : ∀ (c : Code) (s : FSt) (k : Ex -> FSt -> Option α), Z7V S c = true -> exec P S n fu c s k = some x -> ∀ (a : Act) (w : World) (ρ : Nat -> Value), R P W M n s a w ρ ->
  ∀ Q : Exit -> Act -> World -> Prop, (∀ e s' a' w' ρ', R P W M n s' a' w' ρ' -> k e s' = some x -> Q e.to a' w') -> c.wp P Q a w := by
 intro c
 induction c with
 | skip =>
  intro s k hok h a w ρ hR Q hQ
  exact wp_skip (hQ .normal s a w ρ hR h)
 | region id ops draw =>
  intro s k hok h a w ρ hR Q hQ
  obtain ⟨sN, hst, hk⟩ := ZBy (ops := ops.toList) (fun j o ho => by rw [Nat.zero_add]; exact ho) h
  rw [<- List.range_eq_range'] at hst
  refine ZKQ hS hm (fun hd => ?_) hst (hR.clr ops.toList) fun a' w' ρ' hR' => hQ .normal sN a' w' ρ' hR' hk
  subst hd
  simpa [Z7V] using hok
 | seq c d ihc ihd =>
  intro s k hok h a w ρ hR Q hQ
  simp only [Z7V, Bool.and_eq_true] at hok
  refine wp_seq (ihc s _ hok.1 h a w ρ hR _ fun e s' a' w' ρ' hR' hk => ?_)
  cases e with
  | normal => exact ihd s' k hok.2 hk a' w' ρ' hR' Q hQ
  | exit id => exact hQ (.exit id) s' a' w' ρ' hR' hk
  | ret => exact hQ .ret s' a' w' ρ' hR' hk
 | cond c t e iht ihe =>
  intro s k hok h a w ρ hR Q hQ
  simp only [Z7V, Bool.and_eq_true] at hok
  simp only [exec] at h
  split at h
  ·rename_i b hb
   refine wp_cond (t := b) (Z2j hR hb) ?_
   split at h
   ·rename_i hb'
    rw [if_pos hb']
    exact iht s k hok.1 h a w ρ hR Q hQ
   ·rename_i hb'
    rw [if_neg hb']
    exact ihe s k hok.2 h a w ρ hR Q hQ
  ·cases h
 | block id c ih =>
  intro s k hok h a w ρ hR Q hQ
  refine wp_block (ih s _ hok h a w ρ hR _ fun e s' a' w' ρ' hR' hk => ?_)
  cases e with
  | normal => exact hQ .normal s' a' w' ρ' hR' hk
  | exit i =>
   have hk : (bif Nat.beq i id then k .normal s' else k (.exit i) s') = some x := hk
   simp only [Ex.to, Exit.inBlock]
   cases hb : Nat.beq i id with
   | true =>
    simp only [hb, cond_true] at hk
    rw [if_pos (neq hb)]
    exact hQ .normal s' a' w' ρ' hR' hk
   | false =>
    simp only [hb, cond_false] at hk
    rw [if_neg (by rintro rfl; simp at hb)]
    exact hQ (.exit i) s' a' w' ρ' hR' hk
  | ret => exact hQ .ret s' a' w' ρ' hR' hk
 | loop c ih =>
  intro s k hok h a w ρ hR Q hQ
  have key : ∀ (f : Nat) (t : Tab) (a : Act) (w : World) (ρ : Nat -> Value), R P W M n t.st a w ρ -> Z1u (fun s k => exec P S n fu c s k) f t k = some x -> Code.rounds P c Q f a w := by
   intro f
   induction f with
   | zero => intro t a w ρ hR h; cases h
   | succ f ihf =>
    intro t a w ρ hR h
    rw [rounds_succ]
    refine ih t.st _ hok h a w ρ hR _ fun e s' a' w' ρ' hR' hk => ?_
    cases e with
    | normal =>
     obtain ⟨ρ2, hR2⟩ := hR'.norm t
     exact ihf _ a' w' ρ2 hR2 hk
    | exit id => exact hQ (.exit id) s' a' w' ρ' hR' hk
    | ret => exact hQ .ret s' a' w' ρ' hR' hk
  exact wp_loop_rounds (fu c) (key (fu c) _ a w ρ (hR.tab _) h)
 | exit id =>
  intro s k hok h a w ρ hR Q hQ
  exact wp_exit (hQ (.exit id) s a w ρ hR h)
 | ret =>
  intro s k hok h a w ρ hR Q hQ
  exact wp_ret (hQ .ret s a w ρ hR h)
 | _ =>
  intros
  rename_i h _ _ _ _ _ _
  first | cases h | skip
end

section
variable {P : Program} {S : Sums} {W : World} {M : MV} {n : Nat} {s s1 s2 : FSt} {a : Act} {w w' : World} {ρ ρ' : Nat -> Value} {H H' : Nat -> Option Blk}
theorem ZJa (h : R P W none n s a w ρ) {id e sz m : Nat} {c : Cells} (hb : s.heap id = some (.row e sz m c)) : c.ok /\ w.ownsRow W.heap.size e sz (ρ id) m c.toVals := by
 obtain ⟨k1, k2, k3⟩ := h.heap id _ hb
 refine ⟨k1, k2.1, ?_⟩
 rcases k2.2 with h0 | ⟨g, cap, cur, hv, _, hrest⟩
 ·exact .inl h0
 ·refine .inr ⟨g, cap, cur, hv, ?_, hrest⟩
  have := k3 g (by rw [hv]; rfl)
  rcases this with h1 | h1
  ·exact h1
  ·cases h1
theorem ZF6 {ty : TypeId} {x v : Value} {t : TR} (h : ZF4 P ty x = some t) (hv : v = x) : TRel W w t v := by
 unfold ZF4 at h
 split at h
 ·split at h
  ·split at h
   ·simp only [Option.some.injEq] at h; subst h
    rw [hv]
    exact ⟨True.intro, World.ownsRow_nil w W.heap.size _ _⟩
   ·cases h
  ·cases h
 ·simp only [Option.some.injEq] at h; subst h
  exact hv
theorem ZF5 {ty : TypeId} {x : Value} {e sz m : Nat} {c : Cells} (h : ZF4 P ty x = some (.s e sz m c)) : x = nilS := by
 unfold ZF4 at h
 split at h
 ·rfl
 ·simp at h
theorem ZPn (h : R P W none n s a w ρ) {x : ResultVar} {ty : TypeId} {t : TR} (hr : Zna P s (x, ty) = some t) :
  ∃ v, (match x with | .tmp t => (pure (a.tmps.getD t undef) : Sem Value) | .cell b t => do loadVar t (<- asAddr (a.tmps.getD b undef))).run P w = .ok v w /\ TRel W w t v /\ (∀ i, Zcj P s x = some i -> v = ρ i) /\ ∀ e sz m c, t = .s e sz m c -> Zcj P s x = none -> v = nilS := by
 cases x with
 | tmp t =>
  have hs := h.slots t
  unfold Zna at hr
  dsimp only at hr
  unfold Zcj
  dsimp only
  split at hr
  ·rename_i x hx
   rw [hx] at hs
   refine ⟨_, rfl, ZF6 hr hs, (fun i hi => by rw [hx] at hi; cases hi), fun e sz m c ht _ => ?_⟩
   subst ht
   exact hs.trans (ZF5 hr)
  ·rename_i id hx
   rw [hx] at hs
   split at hr
   ·rename_i e sz m c hb
    simp only [Option.some.injEq] at hr; subst hr
    refine ⟨_, rfl, ?_, (fun i hi => ?_), fun e sz m c ht hn => ?_⟩
    ·rw [hs.2]; exact ZJa h hb
    ·rw [hx] at hi
     simp only [Option.some.injEq] at hi; subst hi
     exact hs.2
    ·rw [hx] at hn; cases hn
   ·cases hr
  ·cases hr
 | cell b t =>
  have hs := h.slots b
  unfold Zna at hr
  dsimp only at hr
  unfold Zcj
  dsimp only
  split at hr
  ·rename_i id off ag sz hx hag hsz
   rw [hx] at hs
   obtain ⟨hl, g, o', ha, he⟩ := hs
   split at hr
   ·rename_i o ho
    split at hr
    ·rename_i Z1b
     obtain ⟨v, hp, hrel, hrun⟩ := ZOh h hag hsz ho Z1b ha
     have hrun' : (do loadVar t (<- asAddr (a.tmps.getD b undef)) : Sem Value).run P w = .ok v w := by
      rw [he]
      exact hrun
     refine ⟨v, hrun', ?_⟩
     split at hr
     ·rename_i x hv
      rw [hv] at hrel
      refine ⟨ZF6 hr hrel, (fun i hi => by rw [hv] at hi; cases hi), fun e sz m c ht _ => ?_⟩
      subst ht
      exact hrel.trans (ZF5 hr)
     ·rename_i id' hv
      rw [hv] at hrel
      split at hr
      ·rename_i e z m c hb
       simp only [Option.some.injEq] at hr; subst hr
       refine ⟨?_, (fun i hi => ?_), fun e sz m c ht hn => ?_⟩
       ·rw [hrel.2]; exact ZJa h hb
       ·rw [hv] at hi
        simp only [Option.some.injEq] at hi; subst hi
        exact hrel.2
       ·rw [hv] at hn; cases hn
      ·cases hr
     ·cases hr
    ·cases hr
   ·cases hr
  ·cases hr
theorem ZOC {x : ResultVar} {ty : TypeId} {e sz m : Nat} {c : Cells} (hr : Zna P s (x, ty) = some (.s e sz m c)) : Zcj P s x = none \/ ∃ i, Zcj P s x = some i /\ s.heap i = some (.row e sz m c) := by
 cases x with
 | tmp t =>
  unfold Zna at hr
  dsimp only at hr
  unfold Zcj
  dsimp only
  split at hr
  ·rename_i x hx
   rw [hx]
   exact .inl rfl
  ·rename_i id hx
   rw [hx]
   split at hr
   ·rename_i hb
    simp only [Option.some.injEq, TR.s.injEq] at hr
    obtain ⟨rfl, rfl, rfl, rfl⟩ := hr
    exact .inr ⟨id, rfl, hb⟩
   ·cases hr
  ·cases hr
 | cell b t =>
  unfold Zna at hr
  dsimp only at hr
  unfold Zcj
  dsimp only
  split at hr
  ·rename_i id off ag z hx hag hsz
   split at hr
   ·rename_i o ho
    split at hr
    ·split at hr
     ·rename_i x hv
      rw [hv]
      exact .inl rfl
     ·rename_i id' hv
      rw [hv]
      dsimp only
      split at hr
      ·rename_i hb
       simp only [Option.some.injEq, TR.s.injEq] at hr
       obtain ⟨rfl, rfl, rfl, rfl⟩ := hr
       exact .inr ⟨id', rfl, hb⟩
      ·cases hr
     ·cases hr
    ·cases hr
   ·cases hr
  ·cases hr
def resF (a : Act) : ResultVar -> Sem Value := fun
  | .tmp t => pure (a.tmps.getD t undef)
  | .cell b t => do loadVar t (<- asAddr (a.tmps.getD b undef))
def ZQx (P : Program) (s : FSt) (ρ : Nat -> Value) (q : ResultVar × TypeId) (t : TR) (v : Value) : Prop :=
 (∀ i, Zcj P s q.1 = some i -> v = ρ i) /\ ∀ e sz m c, t = .s e sz m c -> Zcj P s q.1 = none -> v = nilS
def ZJJ (P : Program) (s : FSt) (ρ : Nat -> Value) : List (ResultVar × TypeId) -> List TR -> List Value -> Prop
 | [], _, _ => True
 | q :: l, t :: ts, v :: vs => ZQx P s ρ q t v /\ ZJJ P s ρ l ts vs
 | _, _, _ => False
theorem soff (h : R P W none n s a w ρ) {i g : Nat} {e sz m : Nat} {c : Cells} (hb : s.heap i = some (.row e sz m c)) (hg : Z2Q (ρ i) = some g) : ∀ {l : List (ResultVar × TypeId)} {ts : List TR} {vs : List Value}, Z2m (Zna P s) l = some ts -> ZJJ P s ρ l ts vs -> All2 (fun _ _ => True) ts vs -> (∀ y ∈ l, ∀ k, Zcj P s y.1 = some k -> k ≠ i) -> SOff g ts vs
 | [], ts, vs, h1, _, _, _ => by simp only [Z2m, Option.some.injEq] at h1; subst h1; exact True.intro
 | x :: l, [], vs, h1, hq, _, _ => by cases vs <;> exact hq.elim
 | x :: l, t :: ts, [], h1, hq, _, _ => hq.elim
 | x :: l, t :: ts, v :: vs, h1, ⟨⟨p, p2⟩, q⟩, h3, hne => by
  simp only [Z2m] at h1
  split at h1
  ·rename_i t' ht
   split at h1
   ·rename_i ts' hts
    simp only [Option.some.injEq, List.cons.injEq] at h1
    obtain ⟨rfl, rfl⟩ := h1
    have ih := soff h hb hg hts q h3.2 fun y hy => hne y (by simp [hy])
    cases t' with
    | v y => exact ih
    | s e' sz' m' c' =>
     rcases ZOC (x := x.1) (ty := x.2) ht with hn | ⟨k, hk, hbk⟩
     ·refine ⟨?_, ih⟩
      rw [p2 _ _ _ _ rfl hn]
      intro hh; cases hh
     ·refine ⟨?_, ih⟩
      rw [p k hk]
      exact h.apart i k _ _ g (Ne.symm (hne x (by simp) k hk)) hb hbk rfl rfl hg
   ·cases h1
  ·cases h1
theorem ZM1 (h : R P W none n s a w ρ) : ∀ {l : List (ResultVar × TypeId)} {ts : List TR}, Z2m (Zna P s) l = some ts -> ZaF (l.map fun q => Zcj P s q.1) = true ->
  ∃ vs : List Value, All2 (fun x v => (resF a x).run P w = .ok v w) (l.map (·.1)) vs /\ All2 (TRel W w) ts vs /\ TApart ts vs /\ ZJJ P s ρ l ts vs /\ All2 (fun _ _ => True) ts vs
 | [], ts, h1, _ => by simp only [Z2m, Option.some.injEq] at h1; subst h1; exact ⟨[], True.intro, True.intro, True.intro, True.intro, True.intro⟩
 | x :: l, ts, h1, h2 => by
  simp only [Z2m] at h1
  split at h1
  ·rename_i t ht
   split at h1
   ·rename_i ts' hts
    simp only [Option.some.injEq] at h1; subst h1
    have h2' : ZaF (l.map fun q => Zcj P s q.1) = true := by
     simp only [List.map_cons] at h2
     cases hi : Zcj P s x.1 with
     | none => rw [hi] at h2; exact h2
     | some i => rw [hi] at h2; simp only [ZaF, Bool.and_eq_true] at h2; exact h2.2
    obtain ⟨vs, k1, k2, k3, k4, k5⟩ := ZM1 h hts h2'
    obtain ⟨v, hrun, hrel, hid, hnil⟩ := ZPn (x := x.1) (ty := x.2) h ht
    have hrun' : (resF a x.1).run P w = .ok v w := by
     have : resF a x.1 = (match x.1 with | .tmp t => (pure (a.tmps.getD t undef) : Sem Value) | .cell b t => do loadVar t (<- asAddr (a.tmps.getD b undef))) := by cases x.1 <;> rfl
     rw [this]; exact hrun
    refine ⟨v :: vs, ⟨hrun', k1⟩, ⟨hrel, k2⟩, ?_, ⟨⟨hid, hnil⟩, k4⟩, ⟨True.intro, k5⟩⟩
    cases t with
    | v y => exact k3
    | s e sz m c =>
     refine ⟨?_, k3⟩
     intro g hg
     rcases ZOC (x := x.1) (ty := x.2) ht with hn | ⟨i, hi, hb⟩
     ·rw [hnil _ _ _ _ rfl hn] at hg
      cases hg
     have hv : v = ρ i := hid i hi
     rw [hv] at hg
     have hne : ∀ y ∈ l, ∀ k, Zcj P s y.1 = some k -> k ≠ i := by
      intro y hy k hk e
      subst e
      simp only [List.map_cons, hi, ZaF, Bool.and_eq_true] at h2
      have := List.all_eq_true.1 h2.1 (some k) (List.mem_map.2 ⟨y, hy, hk⟩)
      simp at this
     exact soff h hb hg hts k4 k5 hne
   ·cases h1
  ·cases h1
theorem ZtJ : ∀ (l : List ResultVar) (ts : List TypeId), (zipT l ts).map (·.1) = l
 | [], _ => rfl
 | x :: l, [] => by simp only [zipT, List.map_cons, ZtJ l []]
 | x :: l, t :: ts => by simp only [zipT, List.map_cons, ZtJ l ts]
theorem ZJf {fn : Func} {ts : List TR} (h : R P W none n s a w ρ) (h1 : Z2m (Zna P s) (zipT fn.results.toList fn.resultTypes.toList) = some ts) (h2 : ZaF (fn.results.toList.map (Zcj P s)) = true) :
  ∃ v, (results fn a.tmps).run P w = .ok v w /\ Zpu W w ts v := by
 have h2' : ZaF ((zipT fn.results.toList fn.resultTypes.toList).map fun q => Zcj P s q.1) = true := by
  rw [<- ZtJ fn.results.toList fn.resultTypes.toList, List.map_map] at h2
  exact h2
 obtain ⟨vs, k1, k2, k3, _, _⟩ := ZM1 h h1 h2'
 rw [ZtJ] at k1
 have hm : (fn.results.mapM (resF a)).run P w = .ok vs.toArray w := by
  rw [Array.mapM_eq_mapM_toList]
  have hall : ∀ {l : List ResultVar} {us : List Value}, All2 (fun x v => (resF a x).run P w = .ok v w) l us -> (l.mapM (resF a)).run P w = .ok us w := by
   intro l
   induction l with
   | nil => intro us hu; cases us with
    | nil => rfl
    | cons u us => cases hu
   | cons x l ih => intro us hu; cases us with
    | nil => cases hu
    | cons u us =>
     rw [List.mapM_cons, Zq hu.1, Zq (ih hu.2)]
     rfl
  have := hall k1
  show ((List.toArray <$> fn.results.toList.mapM (resF a))).run P w = _
  rw [map_eq_pure_bind, Zq this]
  rfl
 have hr : (results fn a.tmps).run P w = .ok (if h : vs.toArray.size = 1 then vs.toArray[0] else .tuple vs.toArray) w := by
  have : results fn a.tmps = (do let us <- fn.results.mapM (resF a); pure (if h : us.size = 1 then us[0] else .tuple us)) := by
   unfold results
   congr 1
  rw [this, Zq hm]
  rfl
 refine ⟨_, hr, ?_⟩
 cases ts with
 | nil =>
  cases vs with
  | nil => exact ⟨[], rfl, k2, k3⟩
  | cons v vs => cases k2
 | cons t ts =>
  cases vs with
  | nil => cases k2
  | cons v vs =>
   cases ts with
   | nil =>
    cases vs with
    | nil => exact k2.1
    | cons u us => cases k2.2
   | cons t2 ts =>
    cases vs with
    | nil => cases k2.2
    | cons u us => exact ⟨v :: u :: us, rfl, k2, k3⟩
theorem Z9m : ∀ (l : List PV) (i x : Nat) (b : Blk), look (ZN i l) x = some b -> 4 * i <= x
 | [], i, x, b, h => by cases h
 | .v _ :: l, i, x, b, h => by have := Z9m l (i + 1) x b h; omega
 | .f _ :: l, i, x, b, h => by have := Z9m l (i + 1) x b h; omega
 | .s m c :: l, i, x, b, h => by
  simp only [ZN, look] at h
  by_cases e : x = 4 * i
  ·omega
  ·rw [nbeq e, cond_false] at h
   have := Z9m l (i + 1) x b h; omega
 | .p c :: l, i, x, b, h => by
  simp only [ZN, look] at h
  by_cases e : x = 4 * i
  ·omega
  ·rw [nbeq e, cond_false] at h
   have := Z9m l (i + 1) x b h; omega
 | .pf g :: l, i, x, b, h => by
  simp only [ZN, look] at h
  by_cases e : x = 4 * i
  ·omega
  ·rw [nbeq e, cond_false] at h
   have := Z9m l (i + 1) x b h; omega
 | .ps m c :: l, i, x, b, h => by
  simp only [ZN, look] at h
  by_cases e : x = 4 * i
  ·omega
  ·rw [nbeq e, cond_false] at h
   by_cases e2 : x = 4 * i + 1
   ·omega
   ·rw [nbeq e2, cond_false] at h
    have := Z9m l (i + 1) x b h; omega
structure Entry (P : Program) (W : World) (ρ : Nat -> Value) (H : Nat -> Option Blk) (l : List SV) (vs : List Value) : Prop where
 slots : All2 (Rel P W none ρ H) l vs
 heap : ∀ id b, H id = some b -> BRel P W none W ρ H id b /\ ownB b = false
theorem ZEH : ∀ (pvs : List PV) (avs : List Value) (i : Nat), All2 (Z7T P W) pvs avs -> ∃ ρ, Entry P W ρ (look (ZN i pvs)) (Z3o i pvs) avs
 | [], [], i, _ => ⟨fun _ => undef, True.intro, fun id b h => by cases h⟩
 | pv :: pvs, a :: avs, i, ⟨p, q⟩ => by
  obtain ⟨ρ, h⟩ := ZEH pvs avs (i + 1) q
  -- what was there stays
  have stay : ∀ (L : List (Nat × Blk)) (ρ' : Nat -> Value), (∀ x, 4 * i + 4 <= x -> look L x = look (ZN (i + 1) pvs) x /\ ρ' x = ρ x) -> ∀ id, (look (ZN (i + 1) pvs) id).isSome = true -> (look L id).isSome = true /\ ρ' id = ρ id := by
   intro L ρ' hL id hid
   cases hb : look (ZN (i + 1) pvs) id with
   | none => rw [hb] at hid; cases hid
   | some b =>
    have := Z9m pvs (i + 1) id b hb
    obtain ⟨e1, e2⟩ := hL id (by omega)
    exact ⟨by rw [e1, hb]; rfl, e2⟩
  cases pv with
  | v x => exact ⟨ρ, ⟨p, h.slots⟩, h.heap⟩
  | f g => exact ⟨ρ, ⟨p, h.slots⟩, h.heap⟩
  | s m c =>
   refine ⟨fun x => if x = 4 * i then a else ρ x, ?_⟩
   have hL : ∀ x, look ((4 * i, Blk.ros m c) :: ZN (i + 1) pvs) x = if x = 4 * i then some (.ros m c) else look (ZN (i + 1) pvs) x := by
    intro x
    simp only [look]
    by_cases e : x = 4 * i
    ·subst e; simp
    ·rw [nbeq e, cond_false, if_neg e]
   have hst := stay ((4 * i, Blk.ros m c) :: ZN (i + 1) pvs) (fun x => if x = 4 * i then a else ρ x) fun x hx => by
    rw [hL, if_neg (by omega), if_neg (by omega)]
    exact ⟨rfl, rfl⟩
   refine ⟨⟨⟨by show (look ((4 * i, Blk.ros m c) :: ZN (i + 1) pvs) (4 * i)).isSome = true; rw [hL, if_pos rfl]; rfl, by simp only [if_true]⟩, h.slots.mono fun _ _ => Rel.mono hst⟩, fun id b hb => ?_⟩
   have hb : look ((4 * i, Blk.ros m c) :: ZN (i + 1) pvs) id = some b := hb
   rw [hL] at hb
   split at hb
   ·rename_i e
    simp only [Option.some.injEq] at hb; subst hb
    exact ⟨by simp only [BRel, e, if_true]; exact p, rfl⟩
   ·rename_i e
    obtain ⟨k1, k2⟩ := h.heap id b hb
    exact ⟨k1.mono hst (if_neg e), k2⟩
  | p c =>
   obtain ⟨g, o, rfl, hc⟩ := p
   refine ⟨fun x => if x = 4 * i then .pointer (some ⟨g, o, none⟩) else ρ x, ?_⟩
   have hL : ∀ x, look ((4 * i, Blk.rop (c.map SV.val)) :: ZN (i + 1) pvs) x = if x = 4 * i then some (.rop (c.map SV.val)) else look (ZN (i + 1) pvs) x := by
    intro x
    simp only [look]
    by_cases e : x = 4 * i
    ·subst e; simp
    ·rw [nbeq e, cond_false, if_neg e]
   have hst := stay ((4 * i, Blk.rop (c.map SV.val)) :: ZN (i + 1) pvs) (fun x => if x = 4 * i then .pointer (some ⟨g, o, none⟩) else ρ x) fun x hx => by
    rw [hL, if_neg (by omega), if_neg (by omega)]
    exact ⟨rfl, rfl⟩
   refine ⟨⟨⟨by show (look ((4 * i, Blk.rop (c.map SV.val)) :: ZN (i + 1) pvs) (4 * i)).isSome = true; rw [hL, if_pos rfl]; rfl, g, o, by simp only [if_true]; rfl, by simp⟩, h.slots.mono fun _ _ => Rel.mono hst⟩, fun id b hb => ?_⟩
   have hb : look ((4 * i, Blk.rop (c.map SV.val)) :: ZN (i + 1) pvs) id = some b := hb
   rw [hL] at hb
   split at hb
   ·rename_i e
    simp only [Option.some.injEq] at hb; subst hb
    refine ⟨⟨g, o, by simp only [e, if_true], by simp [mB], fun j v hv => ?_⟩, rfl⟩
    rw [List.getElem?_map] at hv
    cases hj : c[j]? with
    | none => rw [hj] at hv; cases hv
    | some u =>
     rw [hj] at hv
     obtain rfl : SV.val u = v := by simpa using hv
     exact ⟨u, hc j u hj, rfl⟩
   ·rename_i e
    obtain ⟨k1, k2⟩ := h.heap id b hb
    exact ⟨k1.mono hst (if_neg e), k2⟩
  | pf f =>
   obtain ⟨g, o, u, rfl, hc, hfn⟩ := p
   refine ⟨fun x => if x = 4 * i then .pointer (some ⟨g, o, none⟩) else ρ x, ?_⟩
   have hL : ∀ x, look ((4 * i, Blk.rop [.fn f]) :: ZN (i + 1) pvs) x = if x = 4 * i then some (.rop [.fn f]) else look (ZN (i + 1) pvs) x := by
    intro x
    simp only [look]
    by_cases e : x = 4 * i
    ·subst e; simp
    ·rw [nbeq e, cond_false, if_neg e]
   have hst := stay ((4 * i, Blk.rop [.fn f]) :: ZN (i + 1) pvs) (fun x => if x = 4 * i then .pointer (some ⟨g, o, none⟩) else ρ x) fun x hx => by
    rw [hL, if_neg (by omega), if_neg (by omega)]
    exact ⟨rfl, rfl⟩
   refine ⟨⟨⟨by show (look ((4 * i, Blk.rop [.fn f]) :: ZN (i + 1) pvs) (4 * i)).isSome = true; rw [hL, if_pos rfl]; rfl, g, o, by simp only [if_true]; rfl, by simp⟩, h.slots.mono fun _ _ => Rel.mono hst⟩, fun id b hb => ?_⟩
   have hb : look ((4 * i, Blk.rop [.fn f]) :: ZN (i + 1) pvs) id = some b := hb
   rw [hL] at hb
   split at hb
   ·rename_i e
    simp only [Option.some.injEq] at hb; subst hb
    refine ⟨⟨g, o, by simp only [e, if_true], by simp [mB], fun j v hv => ?_⟩, rfl⟩
    cases j with
    | succ j => simp at hv
    | zero =>
     obtain rfl : SV.fn f = v := by simpa using hv
     exact ⟨u, hc, hfn⟩
   ·rename_i e
    obtain ⟨k1, k2⟩ := h.heap id b hb
    exact ⟨k1.mono hst (if_neg e), k2⟩
  | ps m c =>
   obtain ⟨g, o, u, rfl, hc, hros⟩ := p
   refine ⟨fun x => if x = 4 * i then .pointer (some ⟨g, o, none⟩) else if x = 4 * i + 1 then u else ρ x, ?_⟩
   have hL : ∀ x, look ((4 * i, Blk.rop [.row (4 * i + 1)]) :: (4 * i + 1, Blk.ros m c) :: ZN (i + 1) pvs) x = if x = 4 * i then some (.rop [.row (4 * i + 1)]) else if x = 4 * i + 1 then some (.ros m c) else look (ZN (i + 1) pvs) x := by
    intro x
    simp only [look]
    by_cases e : x = 4 * i
    ·subst e; simp
    ·rw [nbeq e, cond_false, if_neg e]
     by_cases e2 : x = 4 * i + 1
     ·subst e2; simp
     ·rw [nbeq e2, cond_false, if_neg e2]
   have hst := stay ((4 * i, Blk.rop [.row (4 * i + 1)]) :: (4 * i + 1, Blk.ros m c) :: ZN (i + 1) pvs) (fun x => if x = 4 * i then .pointer (some ⟨g, o, none⟩) else if x = 4 * i + 1 then u else ρ x) fun x hx => by
    rw [hL, if_neg (by omega), if_neg (by omega), if_neg (by omega), if_neg (by omega)]
    exact ⟨rfl, rfl⟩
   refine ⟨⟨⟨by show (look ((4 * i, Blk.rop [.row (4 * i + 1)]) :: (4 * i + 1, Blk.ros m c) :: ZN (i + 1) pvs) (4 * i)).isSome = true; rw [hL, if_pos rfl]; rfl, g, o, by simp only [if_true]; rfl, by simp⟩, h.slots.mono fun _ _ => Rel.mono hst⟩, fun id b hb => ?_⟩
   have hb : look ((4 * i, Blk.rop [.row (4 * i + 1)]) :: (4 * i + 1, Blk.ros m c) :: ZN (i + 1) pvs) id = some b := hb
   have hb0 := hb
   rw [hL] at hb
   split at hb
   ·rename_i e
    simp only [Option.some.injEq] at hb; subst hb
    refine ⟨⟨g, o, by simp only [e, if_true], by simp [mB], fun j v hv => ?_⟩, rfl⟩
    cases j with
    | succ j => simp at hv
    | zero =>
     obtain rfl : SV.row (4 * i + 1) = v := by simpa using hv
     refine ⟨u, hc, ?_, ?_⟩
     ·show (look ((4 * i, Blk.rop [.row (4 * i + 1)]) :: (4 * i + 1, Blk.ros m c) :: ZN (i + 1) pvs) (4 * i + 1)).isSome = true
      rw [hL, if_neg (by omega), if_pos rfl]; rfl
     ·dsimp only
      rw [if_neg (by omega), if_pos rfl]
   ·rename_i e
    split at hb
    ·rename_i e2
     simp only [Option.some.injEq] at hb; subst hb
     refine ⟨?_, rfl⟩
     simp only [BRel]
     rw [if_neg e, if_pos e2]
     exact hros
    ·rename_i e2
     obtain ⟨k1, k2⟩ := h.heap id b hb
     exact ⟨k1.mono hst (by rw [if_neg e, if_neg e2]), k2⟩
theorem ZIz {α : Type} {fu : Code -> Nat} {dec : List TR -> Option α} {enc : α -> List TR} (hde : ∀ rs x, dec rs = some x -> rs = enc x) (hS : Ze P S) (hm : P.follows .mixedOrders = true) {f : Nat} {fn : Func} (hf : P.funcs[f]? = some fn) (hn : fn.ntmps = n) (hb : fn.body.isSome = true) (hok : Z7V S (ZS P f) = true) {pvs : List PV} {avs : List Value} {x : α}
  (hG : GOK W) (hargs : All2 (Z7T P W) pvs avs) (h : ZmO P S f n fu dec pvs = some x) : Calls P f avs.toArray W fun e W' => ∃ rv, e = .returned rv /\ Zpu W W' (enc x) rv /\ W.grownBy W' none := by
 subst hn
 obtain ⟨c, hb⟩ := Option.isSome_iff_exists.1 hb
 have hbody : ZS P f = c := by unfold ZS; rw [hf]; dsimp only; rw [hb]
 rw [hbody] at hok
 unfold ZmO at h
 split at h
 ·rename_i hle
  rw [hbody] at h
  have hle := nle hle
  have Z4X := hargs.len
  obtain ⟨ρ, hent⟩ := ZEH (P := P) (W := W) pvs avs 0 hargs
  refine calls_of_wp hf hb ?_
  have hR : R P W none fn.ntmps (ZG9 pvs) { tmps := avs.toArray ++ Array.replicate (fn.ntmps - avs.toArray.size) undef, defers := [] } W ρ := by
   refine ⟨World.grownBy.refl W none, by simp; omega, rfl, fun t => ?_, fun id b hb => (hent.heap id b hb).1, fun i j bi bj g hij hi hj oi oj => ?_, fun v hv => by cases hv⟩
   ·show Rel P W none ρ _ ((Z3o 0 pvs).getD t .junk) _
    rw [List.getD_eq_getElem?_getD]
    cases ht : (Z3o 0 pvs)[t]? with
    | none => exact True.intro
    | some x =>
     obtain ⟨v, hv, hrel⟩ := hent.slots.get ht
     have hlt : t < avs.length := (List.getElem?_eq_some_iff.1 hv).1
     have : (avs.toArray ++ Array.replicate (fn.ntmps - avs.toArray.size) undef).getD t undef = v := by
      rw [Array.getD_eq_getD_getElem?, Array.getElem?_append_left (by simpa using hlt)]
      simp [hv]
     rw [this]
     exact hrel
   ·have := (hent.heap i bi hi).2
    rw [oi] at this
    cases this
  refine Zse ⟨hS, hG, fun _ e => by cases e⟩ hm c (ZG9 pvs) _ hok h _ W ρ hR _ fun e s' a' w' ρ' hR' hk => ?_
  unfold finT at hk
  rw [hf] at hk
  dsimp only at hk
  unfold ZLp at hk
  split at hk
  ·rename_i rs hfin
   obtain rfl := hde rs x hk
   have fin : Z2m (Zna P s') (zipT fn.results.toList fn.resultTypes.toList) = some (enc x) -> ZaF (fn.results.toList.map (Zcj P s')) = true -> a'.defers = [] /\ ∃ v, (results fn a'.tmps).run P w' = .ok v w' /\ ∃ rv, Ending.returned v = .returned rv /\ Zpu W w' (enc x) rv /\ W.grownBy w' none := by
    intro h1 h2
    obtain ⟨v, hv, hres⟩ := ZJf hR' h1 h2
    exact ⟨hR'.defers, v, hv, v, rfl, hres, hR'.grown⟩
   unfold finish at hfin
   cases e with
   | normal =>
    dsimp only at hfin
    split at hfin
    ·rename_i h2; exact fin hfin h2
    ·cases hfin
   | exit id => cases hfin
   | ret =>
    dsimp only at hfin
    split at hfin
    ·rename_i h2; exact fin hfin h2
    ·cases hfin
  ·cases hk
 ·cases h
def AllS (P : Program) : List (Nat × (List PV -> Option (Bool × List TR))) -> Prop
 | [] => True
 | x :: l => (Callable P x.1 /\ Sound P x.1 x.2) /\ AllS P l
def tblS : List (Nat × (List PV -> Option (Bool × List TR))) -> Nat -> Option (List PV -> Option (Bool × List TR))
 | [], _ => none
 | x :: l, g => bif Nat.beq g x.1 then some x.2 else tblS l g
theorem Za : ∀ {l : List (Nat × (List PV -> Option (Bool × List TR)))}, AllS P l -> ∀ g run, tblS l g = some run -> Callable P g /\ Sound P g run
 | [], _ => fun g run h => by cases h
 | x :: l, ⟨h, hl⟩ => fun g run hr => by
  simp only [tblS] at hr
  cases hb : Nat.beq g x.1 with
  | true =>
   rw [hb] at hr
   simp only [cond_true, Option.some.injEq] at hr
   subst hr
   rw [neq hb]
   exact h
  | false =>
   rw [hb] at hr
   exact Za hl g run hr
def AllM (P : Program) : List (Nat × MFn) -> Prop
 | [] => True
 | x :: l => (Callable P x.1 /\ ZFU P x.1 x.2) /\ AllM P l
def tblM : List (Nat × MFn) -> Nat -> Option MFn
 | [], _ => none
 | x :: l, g => bif Nat.beq g x.1 then some x.2 else tblM l g
theorem Z6a : ∀ {l : List (Nat × MFn)}, AllM P l -> ∀ g run, tblM l g = some run -> Callable P g /\ ZFU P g run
 | [], _ => fun g run h => by cases h
 | x :: l, ⟨h, hl⟩ => fun g run hr => by
  simp only [tblM] at hr
  cases hb : Nat.beq g x.1 with
  | true =>
   rw [hb] at hr
   simp only [cond_true, Option.some.injEq] at hr
   subst hr
   rw [neq hb]
   exact h
  | false =>
   rw [hb] at hr
   exact Z6a hl g run hr
theorem ZjF {α : Type} {dec : List TR -> Option α} {enc : α -> List TR} {f : Nat} {run : List PV -> Option (Bool × List TR)} (hde : ∀ rs x, dec rs = some x -> rs = enc x) (hS : Ze P S) (hm : P.follows .mixedOrders = true) {fn : Func} (hf : P.funcs[f]? = some fn) (hn : fn.ntmps = n) (hb : fn.body.isSome = true) (hok : Z7V S (ZS P f) = true)
  (h : ∀ W pvs avs rs, All2 (Z7T P W) pvs avs -> run pvs = some (true, rs) -> ∃ (fu : Code -> Nat) (pvs' : List PV) (x : α), All2 (Z7T P W) pvs' avs /\ rs = enc x /\ ZmO P S f n fu dec pvs' = some x) : Sound P f run := by
 intro W pvs avs rs hG hargs hrun
 obtain ⟨fu, pvs', x, h1, rfl, h2⟩ := h W pvs avs rs hargs hrun
 exact ZIz hde hS hm hf hn hb hok hG h1 h2
theorem so2 {α β : Type} {a c : α} {b d : β} (h : some (a, b) = some (c, d)) : a = c /\ b = d := by simpa using h
theorem Zd {α : Type} {dec : List TR -> Option α} {enc : α -> List TR} {f : Nat} {run : List PV -> Option (Bool × List TR)} (hde : ∀ rs x, dec rs = some x -> rs = enc x) (hS : Ze P S) (hm : P.follows .mixedOrders = true) {fn : Func} (hf : P.funcs[f]? = some fn) (hn : fn.ntmps = n) (hb : fn.body.isSome = true) (hok : Z7V S (ZS P f) = true)
  (h : ∀ pvs rs, run pvs = some (true, rs) -> ∃ (fu : Code -> Nat) (x : α), rs = enc x /\ ZmO P S f n fu dec pvs = some x) : Sound P f run :=
 ZjF hde hS hm hf hn hb hok fun W pvs avs rs hargs hrun => by
  obtain ⟨fu, x, h1, h2⟩ := h pvs rs hrun
  exact ⟨fu, pvs, x, hargs, h1, h2⟩
theorem Z1t {α : Type} {o : Option α} {d : α} (h : o.isSome = true) : o = some (o.getD d) := by
 cases o with
 | none => cases h
 | some x => rfl
def okV (o : Option (Bool × Value)) : Bool := match o with
 | some (c, .bool _) => c
 | _ => false
def Zen (o : Option (Bool × Value)) : Bool := match o with
 | some (_, .bool b) => b
 | _ => false
theorem Zsy {o : Option (Bool × Value)} (h : okV o = true) : o = some (true, .bool (Zen o)) := by
 unfold okV at h
 split at h
 ·subst h; rfl
 ·cases h
theorem ZnJ {a : Value} {g g' : List Value -> Option (Bool × Value)} (h : Z7T P W (.f g) a) (hg : ∀ args r, g' args = some (true, r) -> g args = some (true, r)) : Z7T P W (.f g') a := by
 obtain ⟨f, caps, h1, h2, h3⟩ := h
 exact ⟨f, caps, h1, h2, fun w hw args r hr => h3 w hw args r (hg args r hr)⟩
theorem All2.replace {α β : Type} {R : α -> β -> Prop} {x y : α} : ∀ {l1 l2 : List α} {m : List β}, All2 R (l1 ++ x :: l2) m -> (∀ b, R x b -> R y b) -> All2 R (l1 ++ y :: l2) m
 | [], _, _ :: _, ⟨p, q⟩, h => ⟨h _ p, q⟩
 | _ :: l1, _, _ :: _, ⟨p, q⟩, h => ⟨p, All2.replace (l1 := l1) q h⟩
def wI (n : Int) : Int := IntKind.i64.wrap n
def andI (k : IntKind) (x y : Int) : Int := k.wrap ((BitVec.ofInt k.bits x &&& BitVec.ofInt k.bits y).toNat : Int)
def shrI (x : Int) (n : Nat) : Int := x.fdiv (2 ^ n)
theorem Zz (n : Int) : wI n = wrap64 n := by rw [wI, IntKind.wrap_i64, wrap64]
def prB (p : Int) : Bool := decide (1 <= p) && decide (p <= 31)
theorem ZgX {p : Int} (h : prB p = true) : (!(p == 0)) = true := by
 unfold prB at h
 simp at h ⊢
 omega
theorem Zm {α : Type} {c : Prop} [Decidable c] {a b : Option α} {x y : α} (h1 : c -> a = some x) (h2 : ¬ c -> b = some y) : (if c then a else b) = some (if c then x else y) := by
 by_cases h : c
 ·rw [if_pos h, if_pos h]; exact h1 h
 ·rw [if_neg h, if_neg h]; exact h2 h
theorem Zv {α : Type} {c : Prop} [Decidable c] {a : Option α} {x : α} (h : c) (k : a = some x) : (if c then a else none) = some x := by rw [if_pos h]; exact k
end

abbrev P2 := Int × Int
abbrev P3 := Int × Int × Int
def Pr (p : Int) : Prop := 1 <= p /\ p <= 31
theorem Zvm {p : Int} (h : prB p = true) : Pr p := by
 unfold prB at h
 simp at h
 exact h
theorem Zgs {p : Int} (h : Pr p) : prB p = true := by
 unfold prB Pr at *
 simp
 exact h
theorem Pr.ne {p : Int} (h : Pr p) : p ≠ 0 := by unfold Pr at h; omega
theorem ZMg (x p : Int) (h1 : 1 <= p) : -p < x.tmod p /\ x.tmod p < p := by
 have := Int.tmod_lt_of_pos x (show 0 < p by omega)
 have h2 := Int.lt_tmod_of_pos x (show 0 < p by omega)
 omega
theorem ZPp (x p : Int) : (x.tmod p + p) % p = x % p := by
 rw [Int.add_emod_right]
 have h := Int.mul_tdiv_add_tmod x p
 conv => rhs; rw [<- h, Int.add_comm, Int.add_mul_emod_self_left]
theorem ZJe {p : Int} (hp : prB p = true) (x : Int) : (wrap64 (x.tmod p + p)).tmod p = x % p := by
 obtain ⟨h1, h2⟩ := Zvm hp
 obtain ⟨t1, t2⟩ := ZMg x p h1
 have : wrap64 (x.tmod p + p) = x.tmod p + p := by unfold wrap64; omega
 rw [this, Int.tmod_eq_emod_of_nonneg (by omega), ZPp]
theorem Z4j {k n : Nat} (h : k < n) (hn : n <= 100000000001) : wI ((k : Int) + 1) = ((k + 1 : Nat) : Int) := by
 rw [Zz]; unfold wrap64; omega
def Z5v (n : Nat) (l : List Int) : List P2 := (List.range n).map fun k => (l.getD (k * 2) 0, l.getD (k * 2 + 1) 0)
def Znb (n : Nat) (l : List Int) : List P3 := (List.range n).map fun k => (l.getD (k * 3) 0, l.getD (k * 3 + 1) 0, l.getD (k * 3 + 2) 0)
theorem ZM8 {α : Type} {L : Nat -> Int -> Option α} {n : Nat} {q : Nat -> Bool} {bad good : α} (hL : ∀ f k : Nat, k < n -> L (f + 1) (k : Int) = if (!(q k)) = true then some bad else L f ((k + 1 : Nat) : Int)) (hE : ∀ f : Nat, L (f + 1) (n : Int) = some good) :
  ∀ (m k f : Nat), k + m = n -> m < f -> L f (k : Int) = some (if (List.range' k m).all q = true then good else bad)
 | m, k, 0, _, h => absurd h (Nat.not_lt_zero m)
 | 0, k, f + 1, h, _ => by
  obtain rfl : k = n := by omega
  rw [hE]; rfl
 | m + 1, k, f + 1, h, hf => by
  rw [hL f k (by omega), ZM8 hL hE m (k + 1) f (by omega) (by omega), List.range'_succ, List.all_cons]
  cases q k <;> simp only [Bool.not_false, Bool.not_true, if_true, Bool.false_and, Bool.true_and, Bool.false_eq_true, if_false]
theorem scan {α : Type} {L : Nat -> Int -> Option α} {n F : Nat} {q : Nat -> Bool} {bad good : α} (hF : n < F) (hL : ∀ f k : Nat, k < n -> L (f + 1) (k : Int) = if (!(q k)) = true then some bad else L f ((k + 1 : Nat) : Int)) (hE : ∀ f : Nat, L (f + 1) (n : Int) = some good) :
  L F 0 = some (if (List.range n).all q = true then good else bad) := by
 rw [List.range_eq_range']
 exact ZM8 hL hE n 0 F (by omega) hF
theorem ZMp (n : Nat) (l : List Int) (g : P3 -> Bool) : (Znb n l).all g = (List.range n).all fun k => g (l.getD (k * 3) 0, l.getD (k * 3 + 1) 0, l.getD (k * 3 + 2) 0) := by
 unfold Znb; rw [List.all_map]; rfl
theorem ZEy (n : Nat) (l : List Int) (g : P2 -> Bool) : (Z5v n l).all g = (List.range n).all fun k => g (l.getD (k * 2) 0, l.getD (k * 2 + 1) 0) := by
 unfold Z5v; rw [List.all_map]; rfl
theorem ZEx (n : Nat) (l : List Int) (h : l.length = n) (g : Int -> Bool) : l.all g = (List.range n).all fun k => g (l.getD (k * 1) 0) := by
 subst h
 have : l = (List.range l.length).map fun k => l.getD (k * 1) 0 := by
  apply List.ext_getElem (by simp)
  intro i h1 h2
  simp [List.getD_eq_getElem?_getD, h1]
 conv => lhs; rw [this]
 rw [List.all_map]; rfl
theorem leb {a b : Nat} (h : a <= b) : Nat.ble a b = true := Nat.ble_eq_true_of_le h
def lenB (n sz : Nat) (l : List Int) : Bool := Nat.beq l.length (sz * n) && Nat.ble n 100000000000
theorem Z7Y {n sz : Nat} {l : List Int} (h : lenB n sz l = true) : l.length = sz * n /\ n <= 100000000000 := by
 unfold lenB at h
 simp at h
 exact ⟨h.1, h.2⟩
theorem ZLK {n sz : Nat} {l : List Int} (h : l.length = sz * n) (hn : n <= 100000000000) : lenB n sz l = true := by
 unfold lenB
 simp [h, hn]
theorem Z2W {a b : Bool} (h : a = true) (k : b = true) : (a && b) = true := by rw [h, k]; rfl
section
variable {P : Program} {S : Sums} {W : World} {M : MV} {n : Nat} {s s1 s2 : FSt} {a : Act} {w w' : World} {ρ ρ' : Nat -> Value}
end

def Z0G (l : List P2) : List Int := l.flatMap fun a => [a.1, a.2]
def Z1i (l : List P3) : List Int := l.flatMap fun a => [a.1, a.2.1, a.2.2]
def R2 (l : List Int) (k : Nat) : P2 := (l.getD (k * 2) 0, l.getD (k * 2 + 1) 0)
def R3 (l : List Int) (k : Nat) : P3 := (l.getD (k * 3) 0, l.getD (k * 3 + 1) 0, l.getD (k * 3 + 2) 0)
theorem Zjb (a b : List P2) : Z0G (a ++ b) = Z0G a ++ Z0G b := by simp [Z0G]
theorem ZuY (a b : List P3) : Z1i (a ++ b) = Z1i a ++ Z1i b := by simp [Z1i]
theorem Z5N (l : List P2) : (Z0G l).length = 2 * l.length := by
 induction l with
 | nil => rfl
 | cons a l ih => show (a.1 :: a.2 :: Z0G l).length = _; simp [ih]; omega
theorem Z5O (l : List P3) : (Z1i l).length = 3 * l.length := by
 induction l with
 | nil => rfl
 | cons a l ih => show (a.1 :: a.2.1 :: a.2.2 :: Z1i l).length = _; simp [ih]; omega
theorem ZyW : ∀ (l : List P2) (k : Nat), R2 (Z0G l) k = l.getD k (0, 0)
 | [], k => by simp [R2, Z0G]
 | a :: l, 0 => rfl
 | a :: l, k + 1 => by
  have h := ZyW l k
  unfold R2 at h ⊢
  rw [show (k + 1) * 2 = k * 2 + 1 + 1 from by omega]
  show ((a.1 :: a.2 :: Z0G l).getD (k * 2 + 1 + 1) 0, (a.1 :: a.2 :: Z0G l).getD (k * 2 + 1 + 1 + 1) 0) = _
  simp only [List.getD_cons_succ]
  exact h
theorem ZyX : ∀ (l : List P3) (k : Nat), R3 (Z1i l) k = l.getD k (0, 0, 0)
 | [], k => by simp [R3, Z1i]
 | a :: l, 0 => rfl
 | a :: l, k + 1 => by
  have h := ZyX l k
  unfold R3 at h ⊢
  rw [show (k + 1) * 3 = k * 3 + 1 + 1 + 1 from by omega]
  show ((a.1 :: a.2.1 :: a.2.2 :: Z1i l).getD (k * 3 + 1 + 1 + 1) 0, (a.1 :: a.2.1 :: a.2.2 :: Z1i l).getD (k * 3 + 1 + 1 + 1 + 1) 0, (a.1 :: a.2.1 :: a.2.2 :: Z1i l).getD (k * 3 + 1 + 1 + 1 + 2) 0) = _
  simp only [List.getD_cons_succ]
  exact h
theorem ZBp {α : Type} (l : List α) (d : α) : (List.range l.length).map (fun k => l.getD k d) = l := by
 apply List.ext_getElem (by simp)
 intro i h1 h2
 simp [List.getD_eq_getElem?_getD, h2]
theorem ZJi (l : List P2) : Z5v l.length (Z0G l) = l := by
 have h : Z5v l.length (Z0G l) = (List.range l.length).map (fun k => l.getD k (0, 0)) := by
  unfold Z5v
  apply List.map_congr_left
  intro k _
  exact ZyW l k
 rw [h, ZBp]
theorem ZJj (l : List P3) : Znb l.length (Z1i l) = l := by
 have h : Znb l.length (Z1i l) = (List.range l.length).map (fun k => l.getD k (0, 0, 0)) := by
  unfold Znb
  apply List.map_congr_left
  intro k _
  exact ZyX l k
 rw [h, ZBp]
theorem ZPr (n : Nat) (l : List Int) : Z5v n l = (List.range n).map (R2 l) := rfl
theorem ZPs (n : Nat) (l : List Int) : Znb n l = (List.range n).map (R3 l) := rfl
theorem ZhJ {α : Type} (l : List α) (q : α -> Bool) : (l.flatMap fun a => if q a = true then [a] else []) = l.filter q := by
 induction l with
 | nil => rfl
 | cons a l ih => rw [List.flatMap_cons, ih, List.filter_cons]; cases q a <;> rfl
theorem ZQH (n : Nat) (l : List Int) (q : P2 -> Bool) : ((List.range n).flatMap fun k => if q (R2 l k) = true then [R2 l k] else []) = (Z5v n l).filter q := by
 rw [ZPr, <- ZhJ, List.flatMap_map]
theorem ZQI (n : Nat) (l : List Int) (q : P3 -> Bool) : ((List.range n).flatMap fun k => if q (R3 l k) = true then [R3 l k] else []) = (Znb n l).filter q := by
 rw [ZPs, <- ZhJ, List.flatMap_map]
theorem Z9p {α : Type} {g : Nat -> List α} {b : Nat} : ∀ {n : Nat}, (∀ k, k < n -> (g k).length <= b) -> ((List.range n).flatMap g).length <= n * b
 | 0, _ => by simp
 | n + 1, h => by
  have h1 := Z9p (g := g) (b := b) (n := n) fun k hk => h k (by omega)
  have h2 := h n (by omega)
  rw [List.range_succ, List.flatMap_append, List.length_append, List.flatMap_singleton]
  rw [Nat.succ_mul]
  omega
theorem ZMh {α σ : Type} {L : Nat -> σ -> Int -> Option α} {n : Nat} (I : Nat -> σ -> Prop) (step : σ -> Nat -> σ) {K : σ -> Option α}
  (hL : ∀ f k s, k < n -> I k s -> L (f + 1) s (k : Int) = L f (step s k) ((k + 1 : Nat) : Int)) (hI : ∀ k s, k < n -> I k s -> I (k + 1) (step s k))
  (hE : ∀ f s, I n s -> L (f + 1) s (n : Int) = K s) : ∀ (m k F : Nat) (s : σ), k + m = n -> m < F -> I k s -> L F s (k : Int) = K ((List.range' k m).foldl step s)
 | m, k, 0, s, _, h, _ => absurd h (Nat.not_lt_zero m)
 | 0, k, F + 1, s, hk, _, h0 => by
  obtain rfl : k = n := by omega
  exact hE F s h0
 | m + 1, k, F + 1, s, hk, hF, h0 => by
  rw [hL F k s (by omega) h0, ZMh I step hL hI hE m (k + 1) F (step s k) (by omega) (by omega) (hI k s (by omega) h0), List.range'_succ, List.foldl_cons]
theorem upto {α σ : Type} {L : Nat -> σ -> Int -> Option α} {n : Nat} (I : Nat -> σ -> Prop) (step : σ -> Nat -> σ) {K : σ -> Option α}
  (hL : ∀ f k s, k < n -> I k s -> L (f + 1) s (k : Int) = L f (step s k) ((k + 1 : Nat) : Int)) (hI : ∀ k s, k < n -> I k s -> I (k + 1) (step s k))
  (hE : ∀ f s, I n s -> L (f + 1) s (n : Int) = K s) {F : Nat} {s : σ} (hF : n < F) (h0 : I 0 s) : L F s 0 = K ((List.range n).foldl step s) := by
 rw [List.range_eq_range']
 exact ZMh I step hL hI hE n 0 F s (by omega) hF h0
theorem gather {α T : Type} {flat : List T -> List Int} (hf : ∀ a b, flat (a ++ b) = flat a ++ flat b) (hn : flat [] = []) {L : Nat -> List Int -> Nat -> Int -> Option α} {n b M : Nat} (g : Nat -> List T) {K : Option α} {F m : Nat} {l : List Int}
  (hg : ∀ k, k < n -> (g k).length <= b)
  (hL : ∀ f k l m, k < n -> m <= M + k * b -> L (f + 1) l m (k : Int) = L f (l ++ flat (g k)) (m + (g k).length) ((k + 1 : Nat) : Int))
  (hE : ∀ f, m + ((List.range n).flatMap g).length <= M + n * b -> L (f + 1) (l ++ flat ((List.range n).flatMap g)) (m + ((List.range n).flatMap g).length) (n : Int) = K) (hF : n < F) (hm : m <= M) :
  L F l m 0 = K := by
 have hI : ∀ k, k <= n -> m + ((List.range k).flatMap g).length <= M + k * b := fun k hk => by
  have := Z9p (g := g) (b := b) (n := k) fun j hj => hg j (by omega)
  omega
 have h := upto (L := fun f (s : List Int × Nat) i => L f s.1 s.2 i) (n := n) (fun k s => k <= n /\ s = (l ++ flat ((List.range k).flatMap g), m + ((List.range k).flatMap g).length)) (fun s k => (s.1 ++ flat (g k), s.2 + (g k).length)) (K := fun s => K)
  (fun f k s hk hs => by
   obtain ⟨h1, rfl⟩ := hs
   exact hL f k _ _ hk (hI k h1)) (fun k s hk hs => by
   obtain ⟨h1, rfl⟩ := hs
   refine ⟨hk, ?_⟩
   rw [List.range_succ, List.flatMap_append, List.flatMap_singleton, hf, List.length_append]
   simp [List.append_assoc, Nat.add_assoc]) (fun f s hs => by
   obtain ⟨h1, rfl⟩ := hs
   exact hE f (hI n h1)) (s := (l, m)) hF ⟨Nat.zero_le _, by simp [hn]⟩
 exact h
def orO {α : Type} (a e : Option α) : Option α := match a with | some r => some r | none => e
theorem ZM9 {α : Type} {L : Nat -> Int -> Option α} {n : Nat} {q : Nat -> Option α} {e : α} (hL : ∀ f k : Nat, k < n -> L (f + 1) (k : Int) = orO (q k) (L f ((k + 1 : Nat) : Int))) (hE : ∀ f : Nat, L (f + 1) (n : Int) = some e) :
  ∀ (m k f : Nat), k + m = n -> m < f -> L f (k : Int) = some (((List.range' k m).findSome? q).getD e)
 | m, k, 0, _, h => absurd h (Nat.not_lt_zero m)
 | 0, k, f + 1, h, _ => by
  obtain rfl : k = n := by omega
  rw [hE]; rfl
 | m + 1, k, f + 1, h, hf => by
  rw [hL f k (by omega), ZM9 hL hE m (k + 1) f (by omega) (by omega), List.range'_succ, List.findSome?_cons]
  cases q k <;> rfl
theorem seek {α : Type} {L : Nat -> Int -> Option α} {n F : Nat} {q : Nat -> Option α} {e : α} (hF : n < F) (hL : ∀ f k : Nat, k < n -> L (f + 1) (k : Int) = orO (q k) (L f ((k + 1 : Nat) : Int))) (hE : ∀ f : Nat, L (f + 1) (n : Int) = some e) :
  L F 0 = some (((List.range n).findSome? q).getD e) := by
 rw [List.range_eq_range']
 exact ZM9 hL hE n 0 F (by omega) hF
theorem cnd {a n : Nat} (h : a < n) : decide ((a : Int) < ((n : Nat) : Int)) = true := by simpa using h
theorem cndp {a : Nat} {p : Int} (h : a < p.toNat) : decide ((a : Int) < p) = true := by simp; omega
theorem ZQA : Nat.beq 3 3 = true := rfl
theorem ZQz : Nat.beq 2 2 = true := rfl
def pts (p : Int) : List P2 := (List.range p.toNat).flatMap fun x : Nat => (List.range p.toNat).map fun y : Nat => ((x : Int), (y : Int))
def places (p : Int) : List P3 := (0, 0, 1) :: (((List.range p.toNat).map fun z : Nat => (0, 1, (z : Int))) ++ (List.range p.toNat).flatMap fun y : Nat => (List.range p.toNat).map fun z : Nat => (1, (y : Int), (z : Int)))
theorem Zci {p : Int} (h : prB p = true) : p.toNat <= 31 /\ 0 <= p /\ ((p.toNat : Nat) : Int) = p := by
 obtain ⟨h1, h2⟩ := Zvm h
 omega
theorem ZH6 {p : Int} (h : prB p = true) : (pts p).length <= 961 := by
 obtain ⟨h1, _, _⟩ := Zci h
 have h2 := Z9p (n := p.toNat) (b := p.toNat) (g := fun x : Nat => (List.range p.toNat).map fun y : Nat => ((x : Int), (y : Int))) (fun k _ => by simp)
 have h3 : p.toNat * p.toNat <= 31 * 31 := Nat.mul_le_mul h1 h1
 unfold pts; omega
theorem ZwH {α β : Type} (l : List α) (f : α -> β) : (l.flatMap fun a => [f a]) = l.map f := by
 induction l with
 | nil => rfl
 | cons a l ih => rw [List.flatMap_cons, ih]; rfl
theorem ZM5 {n k : Nat} {l : List Int} (hl : l.length = 3 * n) (h : k < n) : Nat.ble (k * 3 + 3) l.length = true := leb (by omega)
theorem ZM4 {n k : Nat} {l : List Int} (hl : l.length = 2 * n) (h : k < n) : Nat.ble (k * 2 + 2) l.length = true := leb (by omega)
theorem ZQ3 {α : Type} {l : List α} {k : α -> Bool} (h : ∀ a, k a = true) : l.all k = true := by
 rw [List.all_eq_true]; exact fun a _ => h a
theorem Z3h {α : Type} {l : List α} {k : α -> Bool} {p : Int} (h : prB p = true) (hk : ∀ a, k a = true) : (prB p && l.all k) = true := by rw [h, ZQ3 hk]; rfl
theorem Zn0 {p : Int} (h : prB p = true) : (decide (0 <= p) && decide (p <= 2000000) && p == p) = true := by
 obtain ⟨h1, h2⟩ := Zvm h
 simp; omega
theorem ZQL {l : List P3} (h : l.length <= 100000000000) : lenB l.length 3 (Z1i l) = true := ZLK (Z5O l) h
theorem ZQK {l : List P2} (h : l.length <= 100000000000) : lenB l.length 2 (Z0G l) = true := ZLK (Z5N l) h
theorem ZwG {α : Type} {l : List α} {f g : α -> Bool} (h : ∀ a ∈ l, f a = g a) : l.filter f = l.filter g := List.filter_congr h
theorem ZAU {α β : Type} (l : List α) (f : α -> List β) (q : β -> Bool) : (l.flatMap f).filter q = l.flatMap fun a => (f a).filter q := by
 induction l with
 | nil => rfl
 | cons a l ih => rw [List.flatMap_cons, List.filter_append, ih, List.flatMap_cons]
theorem ZIH (n : Nat) (q : P2 -> Bool) : ((List.range n).flatMap fun x : Nat => (List.range n).flatMap fun y : Nat => if q ((x : Int), (y : Int)) = true then [((x : Int), (y : Int))] else []) = (((List.range n).flatMap fun x : Nat => (List.range n).map fun y : Nat => ((x : Int), (y : Int))).filter q) := by
 rw [ZAU]
 congr 1
 funext x
 rw [<- ZhJ, List.flatMap_map]
theorem ZIA {α β : Type} (l : List α) (d : α) (q : α -> Option β) : (List.range l.length).findSome? (fun k => q (l.getD k d)) = l.findSome? q := by
 have h : l.findSome? q = ((List.range l.length).map (fun k => l.getD k d)).findSome? q := by rw [ZBp]
 rw [h, List.findSome?_map]
 rfl
theorem ZLo {α : Type} (l : List α) (q : α -> Bool) : (l.findSome? fun a => if q a = true then some a else none) = l.find? q := by
 induction l with
 | nil => rfl
 | cons a l ih => rw [List.findSome?_cons, List.find?_cons, ih]; cases q a <;> rfl
theorem ZEL {α : Type} {l : List α} {q : α -> Bool} {a : α} (ha : a ∈ l) (hq : q a = true) (hu : ∀ b ∈ l, q b = true -> b = a) : l.find? q = some a := by
 cases h : l.find? q with
 | none =>
  rw [List.find?_eq_none] at h
  exact absurd hq (h a ha)
 | some b =>
  rw [hu b (List.mem_of_find?_eq_some h) (List.find?_some h)]
theorem Zsu {p : Int} {a : P2} : a ∈ pts p ↔ (0 <= a.1 /\ a.1 < p) /\ (0 <= a.2 /\ a.2 < p) := by
 obtain ⟨x, y⟩ := a
 simp only [pts, List.mem_flatMap, List.mem_range, List.mem_map, Prod.mk.injEq]
 constructor
 ·rintro ⟨i, hi, j, hj, rfl, rfl⟩
  omega
 ·rintro ⟨h1, h2⟩
  exact ⟨x.toNat, by omega, y.toNat, by omega, by omega, by omega⟩
theorem and3 {a b c : Bool} (ha : a = true) (hb : b = true) (hc : c = true) : (a && b && c) = true := by rw [ha, hb, hc]; rfl
section
variable {P : Program} {S : Sums} {W : World} {n : Nat}
def ZwU : List BC -> List SV
 | [] => []
 | .v x :: l => .val x :: ZwU l
 | .s _ _ :: l => .junk :: ZwU l
def bcSV : List BC -> List SV
 | .s _ _ :: l => .row 1 :: ZwU l
 | l => ZwU l
def Zkc : List BC -> List (Nat × Blk)
 | .s n c :: _ => [(1, .ros n c)]
 | _ => []
def allV : List BC -> Bool
 | [] => true
 | .v _ :: l => allV l
 | .s _ _ :: _ => false
def ZLa : List BC -> Bool
 | .s _ _ :: l => allV l
 | l => allV l
def Ziz (e : TypeId) (bcs : List BC) (args : List PV) : FSt := Tab.st ⟨.ptr 0 0 :: Z3o 1 args, (0, .box e (bcSV bcs)) :: (Zkc bcs ++ ZN 1 args)⟩
def resV (P : Program) (s : FSt) : List ResultVar -> Option (List Value)
 | [] => some []
 | .tmp t :: l => match s.slot t with
  | .val x => match resV P s l with | some m => some (x :: m) | none => none
  | _ => none
 | .cell b t :: l => match s.slot b, Zt P (isAgg t), Zt P (sizeOf t) with
  | .ptr id off, some ag, some sz => match ld s.heap ag sz id off with
   | some o => if o.chk = true then (match o.v with
    | .val x => match resV P s l with | some m => some (x :: m) | none => none
    | _ => none) else none
   | none => none
  | _, _, _ => none
def ZeI : List SV -> Option (List BC)
 | [] => some []
 | .val x :: l => match ZeI l with | some m => some (.v x :: m) | none => none
 | _ => none
def ZLV : List BC -> List SV -> Option (List BC)
 | .s n c :: _, .row 1 :: l => match ZeI l with | some m => some (.s n c :: m) | none => none
 | .s _ _ :: _, _ => none
 | _, l => ZeI l
def finP {α : Type} (P : Program) (f : Nat) (e : TypeId) (bcs : List BC) (dec : List Value × List BC -> Option α) (x : Ex) (s : FSt) : Option α := match x with
 | .exit _ => none
 | _ => match P.funcs[f]? with
  | some fn => match resV P s fn.results.toList, s.heap 0 with
   | some vs, some (.box e' cells) => match ZLV bcs cells with
    | some bcs' => if (Nat.beq e' e && Zpj bcs bcs') = true then dec (vs, bcs') else none
    | none => none
   | _, _ => none
  | none => none
def ZcR {α : Type} (P : Program) (S : Sums) (f n : Nat) (fu : Code -> Nat) (dec : List Value × List BC -> Option α) (e : TypeId) (bcs : List BC) (args : List PV) : Option α :=
 if (Nat.ble (args.length + 1) n && ZLa bcs) = true then exec P S n fu (ZS P f) (Ziz e bcs args) (finP P f e bcs dec) else none
theorem ZBA {M : MV} {s : FSt} {a : Act} {w : World} {ρ : Nat -> Value} (h : R P W M n s a w ρ) : ∀ {l : List ResultVar} {vs : List Value}, resV P s l = some vs -> (l.mapM (resF a)).run P w = .ok vs w
 | [], vs, hr => by simp only [resV, Option.some.injEq] at hr; subst hr; rfl
 | .tmp t :: l, vs, hr => by
  simp only [resV] at hr
  split at hr
  ·rename_i x hx
   split at hr
   ·rename_i m hm
    simp only [Option.some.injEq] at hr; subst hr
    have hv : a.tmps.getD t undef = x := by have := h.slots t; rw [hx] at this; exact this
    rw [List.mapM_cons, Zq (show (resF a (.tmp t)).run P w = .ok x w from by show (pure (a.tmps.getD t undef) : Sem Value).run P w = _; rw [hv]; rfl), Zq (ZBA h hm)]
    rfl
   ·cases hr
  ·cases hr
 | .cell b t :: l, vs, hr => by
  have hs := h.slots b
  simp only [resV] at hr
  split at hr
  ·rename_i id off ag sz hx hag hsz
   rw [hx] at hs
   obtain ⟨hl, g, o', ha, he⟩ := hs
   split at hr
   ·rename_i o ho
    split at hr
    ·rename_i Z1b
     obtain ⟨v, hp, hrel, hrun⟩ := ZOh h hag hsz ho Z1b ha
     split at hr
     ·rename_i x hov
      split at hr
      ·rename_i m hm
       simp only [Option.some.injEq] at hr; subst hr
       rw [hov] at hrel
       have hrel : v = x := hrel
       have hrun' : (resF a (.cell b t)).run P w = .ok x w := by
        show (do loadVar t (<- asAddr (a.tmps.getD b undef)) : Sem Value).run P w = .ok x w
        rw [he, <- hrel]
        exact hrun
       rw [List.mapM_cons, Zq hrun', Zq (ZBA h hm)]
       rfl
      ·cases hr
     ·cases hr
    ·cases hr
   ·cases hr
  ·cases hr
theorem ZsM {M : MV} {s : FSt} {a : Act} {w : World} {ρ : Nat -> Value} {fn : Func} (h : R P W M n s a w ρ) {vs : List Value} (hr : resV P s fn.results.toList = some vs) : (results fn a.tmps).run P w = .ok (Zpi vs) w := by
 have hm : (fn.results.mapM (resF a)).run P w = .ok vs.toArray w := by
  rw [Array.mapM_eq_mapM_toList]
  show ((List.toArray <$> fn.results.toList.mapM (resF a))).run P w = _
  rw [map_eq_pure_bind, Zq (ZBA h hr)]
  rfl
 have : results fn a.tmps = (do let us <- fn.results.mapM (resF a); pure (if h : us.size = 1 then us[0] else .tuple us)) := by
  unfold results
  congr 1
 rw [this, Zq hm]
 match vs with
 | [] => rfl
 | [x] => rfl
 | x :: y :: l => rfl
theorem ZOg : ∀ (pvs : List PV) (i x : Nat) (b : Blk), look (ZN i pvs) x = some b -> 4 * i <= x := fun pvs i x b h => by
 have := Z9m pvs i x b h
 omega
theorem ZpS {M : MV} {b : Nat} (hM : mB M = some b) : ∀ (pvs : List PV) (avs : List Value) (i : Nat), All2 (ArgB W b) pvs avs -> ∃ ρ, All2 (Rel P W M ρ (look (ZN i pvs))) (Z3o i pvs) avs /\ ∀ id bl, look (ZN i pvs) id = some bl -> ∃ m c, bl = .ros m c /\ Z3i W (some b) (ρ id) m c
 | [], [], i, _ => ⟨fun _ => undef, True.intro, fun id b h => by cases h⟩
 | pv :: pvs, a :: avs, i, ⟨p, q⟩ => by
  obtain ⟨ρ, h1, h2⟩ := ZpS hM pvs avs (i + 1) q
  cases pv with
  | v x => exact ⟨ρ, ⟨p, h1⟩, h2⟩
  | s m c =>
   refine ⟨fun x => if x = 4 * i then a else ρ x, ?_, ?_⟩
   ·have hL : ∀ x, look ((4 * i, Blk.ros m c) :: ZN (i + 1) pvs) x = if x = 4 * i then some (.ros m c) else look (ZN (i + 1) pvs) x := by
     intro x
     simp only [look]
     by_cases e : x = 4 * i
     ·subst e; simp
     ·rw [nbeq e, cond_false, if_neg e]
    refine ⟨⟨by show (look ((4 * i, Blk.ros m c) :: ZN (i + 1) pvs) (4 * i)).isSome = true; rw [hL, if_pos rfl]; rfl, by simp only [if_true]⟩, h1.mono fun _ _ => Rel.mono fun id hid => ?_⟩
    cases hb : look (ZN (i + 1) pvs) id with
    | none => rw [hb] at hid; cases hid
    | some bl =>
     have := ZOg pvs (i + 1) id bl hb
     refine ⟨?_, if_neg (by omega)⟩
     show (look ((4 * i, Blk.ros m c) :: ZN (i + 1) pvs) id).isSome = true
     rw [hL, if_neg (by omega), hb]; rfl
   ·intro id bl hb
    have hb : look ((4 * i, Blk.ros m c) :: ZN (i + 1) pvs) id = some bl := hb
    simp only [look] at hb
    by_cases e : id = 4 * i
    ·subst e
     simp at hb
     exact ⟨m, c, hb.symm, by simp only [if_true]; exact p⟩
    ·rw [nbeq e, cond_false] at hb
     obtain ⟨m', c', k1, k2⟩ := h2 id bl hb
     refine ⟨m', c', k1, ?_⟩
     show Z3i W (some b) (if id = 4 * i then a else ρ id) m' c'
     rw [if_neg e]; exact k2
  | f g => cases p
  | p l => cases p
  | ps m c => cases p
  | pf g => cases p
theorem ZjI {M : MV} {ρ : Nat -> Value} {H : Nat -> Option Blk} {b : Nat} : ∀ {bcs : List BC} {cs : List Value}, allV bcs = true -> All2 (BCRel W b) bcs cs -> All2 (Rel P W M ρ H) (ZwU bcs) cs
 | [], [], _, _ => True.intro
 | .v x :: l, v :: cs, h, ⟨p, q⟩ => ⟨p, ZjI (bcs := l) h q⟩
 | .s _ _ :: l, v :: cs, h, _ => by cases h
theorem ZOk {l m : List (Nat × Blk)} {x : Nat} : look (l ++ m) x = match look l x with | some b => some b | none => look m x := by
 induction l with
 | nil => rfl
 | cons a l ih =>
  show (bif Nat.beq x a.1 then some a.2 else look (l ++ m) x) = match (bif Nat.beq x a.1 then some a.2 else look l x) with | some b => some b | none => look m x
  cases Nat.beq x a.1
  ·simpa using ih
  ·rfl
theorem ZjH {M : MV} {ρ : Nat -> Value} {H : Nat -> Option Blk} : ∀ {cells : List SV} {bcs bcs' : List BC} {cs cs0 : List Value}, ZeI cells = some bcs' -> Zpj bcs bcs' = true -> bcs.length = cs0.length -> All2 (Rel P W M ρ H) cells cs -> newC bcs' cs0 = cs
 | [], bcs, bcs', cs, cs0, h, hs, hl, hr => by
  simp only [ZeI, Option.some.injEq] at h; subst h
  cases cs with
  | nil => cases cs0 <;> rfl
  | cons a cs => cases hr
 | .val x :: l, bcs, bcs', cs, cs0, h, hs, hl, hr => by
  simp only [ZeI] at h
  split at h
  ·rename_i m hm
   simp only [Option.some.injEq] at h; subst h
   cases bcs with
   | nil => cases hs
   | cons bc bcs =>
    cases bc with
    | s _ _ => cases hs
    | v y =>
     cases cs0 with
     | nil => cases hl
     | cons c0 cs0 =>
      cases cs with
      | nil => cases hr
      | cons c cs =>
       obtain ⟨h1, h2⟩ := hr
       have h1 : c = x := h1
       show x :: newC m cs0 = c :: cs
       rw [h1, ZjH hm hs (by simpa using hl) h2]
  ·cases h
 | .ptr _ _ :: _, _, _, _, _, h, _, _, _ => by simp [ZeI] at h
 | .row _ :: _, _, _, _, _, h, _, _, _ => by simp [ZeI] at h
 | .sub _ _ _ _ :: _, _, _, _, _, h, _, _, _ => by simp [ZeI] at h
 | .clo _ _ :: _, _, _, _, _, h, _, _, _ => by simp [ZeI] at h
 | .fn _ :: _, _, _, _, _, h, _, _, _ => by simp [ZeI] at h
 | .tup _ :: _, _, _, _, _, h, _, _, _ => by simp [ZeI] at h
 | .agr _ :: _, _, _, _, _, h, _, _, _ => by simp [ZeI] at h
 | .junk :: _, _, _, _, _, h, _, _, _ => by simp [ZeI] at h
def ZmQ : List BC -> List Value -> Option Value
 | .s _ _ :: _, v :: _ => some v
 | _, _ => none
theorem ZrQ {b : Nat} : ∀ {bcs : List BC} {cs : List Value}, All2 (BCRel W b) bcs cs -> bcs.length = cs.length
 | [], [], _ => rfl
 | _ :: _, _ :: _, ⟨_, h⟩ => by simp [ZrQ h]
theorem ZK5 {e : TypeId} {b : Nat} {cs : Array Value} {bcs : List BC} {pvs : List PV} {avs : List Value} (hsh : ZLa bcs = true) (hc : W.heap[b]? = some (.cells cs e (0, 0))) (hb : All2 (BCRel W b) bcs cs.toList) (ha : All2 (ArgB W b) pvs avs) :
  ∃ ρ, ρ 0 = .pointer (some ⟨b, 0, none⟩) /\ All2 (Rel P W (some (.pointer (some ⟨b, 0, none⟩), ZmQ bcs cs.toList)) ρ (Ziz e bcs pvs).heap) (.ptr 0 0 :: Z3o 1 pvs) (.pointer (some ⟨b, 0, none⟩) :: avs) /\
   (∀ id bl, (Ziz e bcs pvs).heap id = some bl -> BRel P W (some (.pointer (some ⟨b, 0, none⟩), ZmQ bcs cs.toList)) W ρ (Ziz e bcs pvs).heap id bl /\ (ownB bl = true -> id = 0)) /\ ∀ v, ZmQ bcs cs.toList = some v -> ((Ziz e bcs pvs).heap 1).isSome = true /\ ρ 1 = v := by
 have hM : mB (some (Value.pointer (some ⟨b, 0, none⟩), ZmQ bcs cs.toList)) = some b := rfl
 obtain ⟨ρ0, h1, h2⟩ := ZpS (P := P) (W := W) (M := some (.pointer (some ⟨b, 0, none⟩), ZmQ bcs cs.toList)) hM pvs avs 1 ha
 let sv : Value := match cs.toList with | v :: _ => v | [] => undef
 let ρ : Nat -> Value := fun x => if x = 0 then .pointer (some ⟨b, 0, none⟩) else if x = 1 then sv else ρ0 x
 have hH : ∀ x, (Ziz e bcs pvs).heap x = if x = 0 then some (.box e (bcSV bcs)) else match look (Zkc bcs) x with | some bl => some bl | none => look (ZN 1 pvs) x := by
  intro x
  show look ((0, .box e (bcSV bcs)) :: (Zkc bcs ++ ZN 1 pvs)) x = _
  simp only [look]
  by_cases e0 : x = 0
  ·subst e0; simp
  ·rw [nbeq e0, cond_false, if_neg e0, ZOk]
 have hbk : ∀ x bl, look (Zkc bcs) x = some bl -> x = 1 /\ ∃ m c l, bcs = .s m c :: l /\ bl = .ros m c := by
  intro x bl hx
  match bcs, hx with
  | .s m c :: l, hx =>
   simp only [Zkc, look] at hx
   by_cases e1 : x = 1
   ·subst e1
    simp at hx
    exact ⟨rfl, m, c, l, rfl, hx.symm⟩
   ·rw [nbeq e1, cond_false] at hx; cases hx
  | .v _ :: l, hx => cases hx
  | [], hx => cases hx
 have hlow : ∀ x, x < 4 -> look (ZN 1 pvs) x = none := by
  intro x hx
  cases hb : look (ZN 1 pvs) x with
  | none => rfl
  | some bl => have := ZOg pvs 1 x bl hb; omega
 have hst : ∀ id, (look (ZN 1 pvs) id).isSome = true -> ((Ziz e bcs pvs).heap id).isSome = true /\ ρ id = ρ0 id := by
  intro id hid
  have h4 : ¬ id < 4 := fun hlt => by rw [hlow id hlt] at hid; cases hid
  refine ⟨?_, ?_⟩
  ·rw [hH, if_neg (by omega)]
   cases look (Zkc bcs) id with
   | some bl => rfl
   | none => exact hid
  ·show (if id = 0 then _ else if id = 1 then sv else ρ0 id) = _
   rw [if_neg (by omega), if_neg (by omega)]
 have Zki : All2 (Rel P W (some (.pointer (some ⟨b, 0, none⟩), ZmQ bcs cs.toList)) ρ (Ziz e bcs pvs).heap) (bcSV bcs) cs.toList := by
  match bcs, hb, hsh with
  | .s m c :: l, hb, hsh =>
   cases hcs : cs.toList with
   | nil => rw [hcs] at hb; cases hb
   | cons v vs =>
    rw [hcs] at hb
    refine ⟨⟨?_, ?_⟩, ZjI hsh hb.2⟩
    ·rw [hH, if_neg (by omega)]
     simp [Zkc, look]
    ·show v = (if 1 = 0 then _ else if 1 = 1 then sv else ρ0 1)
     simp [sv, hcs]
  | .v x :: l, hb, hsh => exact ZjI hsh hb
  | [], hb, hsh => exact ZjI hsh hb
 refine ⟨ρ, rfl, ⟨⟨by rw [hH, if_pos rfl]; rfl, b, 0, rfl, rfl⟩, h1.mono fun _ _ => Rel.mono hst⟩, fun id bl hbl => ?_, ?_⟩
 ·rw [hH] at hbl
  by_cases e0 : id = 0
  ·subst e0
   simp at hbl
   subst hbl
   exact ⟨⟨b, cs, rfl, .inr rfl, hc, Zki⟩, fun _ => rfl⟩
  ·rw [if_neg e0] at hbl
   cases hk : look (Zkc bcs) id with
   | some bl' =>
    rw [hk] at hbl
    simp only [Option.some.injEq] at hbl; subst hbl
    obtain ⟨rfl, m, c, l, rfl, rfl⟩ := hbk id _ hk
    refine ⟨?_, fun h => by cases h⟩
    cases hcs : cs.toList with
    | nil => rw [hcs] at hb; cases hb
    | cons v vs =>
     rw [hcs] at hb
     show Z3i W (some b) (if 1 = 0 then _ else if 1 = 1 then sv else ρ0 1) m c
     have : (if (1 : Nat) = 0 then (Value.pointer (some ⟨b, 0, none⟩)) else if (1 : Nat) = 1 then sv else ρ0 1) = v := by simp [sv, hcs]
     rw [this]
     exact hb.1
   | none =>
    rw [hk] at hbl
    obtain ⟨m, c, rfl, hros⟩ := h2 id bl hbl
    refine ⟨?_, fun h => by cases h⟩
    show Z3i W (some b) (ρ id) m c
    rw [(hst id (by rw [show look (ZN 1 pvs) id = some (.ros m c) from hbl]; rfl)).2]
    exact hros
 ·intro v hv
  match bcs, hv, hH with
  | .s m c :: l, hv, hH =>
   cases hcs : cs.toList with
   | nil => rw [hcs] at hv; cases hv
   | cons v' vs =>
    rw [hcs] at hv
    obtain rfl : v' = v := by simpa [ZmQ] using hv
    refine ⟨?_, ?_⟩
    ·rw [hH, if_neg (by omega)]
     simp [Zkc, look]
    ·show (if 1 = 0 then _ else if 1 = 1 then sv else ρ0 1) = v'
     simp [sv, hcs]
  | .v _ :: l, hv, _ => simp [ZmQ] at hv
  | [], hv, _ => simp [ZmQ] at hv
theorem ZIy {α : Type} {fu : Code -> Nat} {dec : List Value × List BC -> Option α} {enc : α -> List Value × List BC} (hde : ∀ y x, dec y = some x -> y = enc x) (hS : Ze P S) (hm : P.follows .mixedOrders = true) {f : Nat} {fn : Func} (hf : P.funcs[f]? = some fn) (hn : fn.ntmps = n) (hb : fn.body.isSome = true) (hok : Z7V S (ZS P f) = true)
  {e : TypeId} {b : Nat} {cs : Array Value} {bcs : List BC} {pvs : List PV} {avs : List Value} {x : α} (hG : GOK W) (hfar : gvars.length <= b) (hc : W.heap[b]? = some (.cells cs e (0, 0))) (hbc : All2 (BCRel W b) bcs cs.toList) (ha : All2 (ArgB W b) pvs avs) (h : ZcR P S f n fu dec e bcs pvs = some x) :
  Calls P f (.pointer (some ⟨b, 0, none⟩) :: avs).toArray W fun y W' => y = .returned (Zpi (enc x).1) /\ W'.heap[b]? = some (.cells (newC (enc x).2 cs.toList).toArray e (0, 0)) /\ W.grownBy W' (some b) := by
 subst hn
 obtain ⟨cd, hb⟩ := Option.isSome_iff_exists.1 hb
 have hbody : ZS P f = cd := by unfold ZS; rw [hf]; dsimp only; rw [hb]
 rw [hbody] at hok
 unfold ZcR at h
 split at h
 ·rename_i hle
  simp only [Bool.and_eq_true] at hle
  obtain ⟨hle, hsh⟩ := hle
  rw [hbody] at h
  have hle := nle hle
  have Z4X := ha.len
  obtain ⟨ρ, hρ0, hslots, hheap, hρ1⟩ := ZK5 (P := P) hsh hc hbc ha
  refine calls_of_wp hf hb ?_
  have hR : R P W (some (.pointer (some ⟨b, 0, none⟩), ZmQ bcs cs.toList)) fn.ntmps (Ziz e bcs pvs) { tmps := (.pointer (some ⟨b, 0, none⟩) :: avs).toArray ++ Array.replicate (fn.ntmps - (Value.pointer (some ⟨b, 0, none⟩) :: avs).toArray.size) undef, defers := [] } W ρ := by
   refine ⟨World.grownBy.refl W _, by simp; omega, rfl, fun t => ?_, fun id bl hbl => (hheap id bl hbl).1, fun i j bi bj g hij hi hj oi oj => ?_, fun v0 hv0 => ?_⟩
   rotate_right
   ·obtain rfl : (Value.pointer (some ⟨b, 0, none⟩), ZmQ bcs cs.toList) = v0 := by simpa using hv0
    exact ⟨by omega, ⟨rfl, hρ0⟩, hρ1⟩
   ·show Rel P W _ ρ _ ((SV.ptr 0 0 :: Z3o 1 pvs).getD t .junk) _
    rw [List.getD_eq_getElem?_getD]
    cases ht : (SV.ptr 0 0 :: Z3o 1 pvs)[t]? with
    | none => exact True.intro
    | some y =>
     obtain ⟨u, hu, hrel⟩ := hslots.get ht
     have hlt : t < (Value.pointer (some ⟨b, 0, none⟩) :: avs).length := (List.getElem?_eq_some_iff.1 hu).1
     have : ((Value.pointer (some ⟨b, 0, none⟩) :: avs).toArray ++ Array.replicate (fn.ntmps - (Value.pointer (some ⟨b, 0, none⟩) :: avs).toArray.size) undef).getD t undef = u := by
      rw [Array.getD_eq_getD_getElem?, Array.getElem?_append_left (by simpa using hlt)]
      rw [List.getElem?_toArray, hu]
      rfl
     rw [this]
     exact hrel
   ·exact absurd (((hheap i bi hi).2 oi).trans ((hheap j bj hj).2 oj).symm) hij
  refine Zse ⟨hS, hG, fun g hg => by
   obtain rfl : b = g := by simpa [mB, Z2Q, atOf] using hg
   exact hfar⟩ hm cd (Ziz e bcs pvs) _ hok h _ W ρ hR _ fun y s' a' w' ρ' hR' hk => ?_
  have fin : (match P.funcs[f]? with
   | some fn => match resV P s' fn.results.toList, s'.heap 0 with
    | some vs, some (.box e' cells) => match ZLV bcs cells with
     | some bcs' => if (Nat.beq e' e && Zpj bcs bcs') = true then dec (vs, bcs') else none
     | none => none
    | _, _ => none
   | none => none) = some x -> a'.defers = [] /\ ∃ u, (results fn a'.tmps).run P w' = .ok u w' /\ Ending.returned u = .returned (Zpi (enc x).1) /\ w'.heap[b]? = some (.cells (newC (enc x).2 cs.toList).toArray e (0, 0)) /\ W.grownBy w' (some b) := by
   intro hk2
   rw [hf] at hk2
   dsimp only at hk2
   split at hk2
   ·rename_i vs e' cells hres hhp
    split at hk2
    ·rename_i bcs' hout
     split at hk2
     ·rename_i hck
      simp only [Bool.and_eq_true] at hck
      have q1 := neq hck.1
      subst q1
      have hx := hde _ _ hk2
      obtain ⟨g, cs', k1, k2, k3, k4⟩ := hR'.heap 0 _ hhp
      have hv := (hR'.fix _ rfl).2.1.2
      rw [hv] at k1
      obtain rfl : b = g := by simpa using k1
      have hnew : newC bcs' cs.toList = cs'.toList := by
       have hfix := (hR'.fix _ rfl).2.2
       match bcs, hout, hck.2, hbc, hfix with
       | .v y :: l, hout, hs, hbc, _ => exact ZjH (show ZeI cells = some bcs' from hout) hs (ZrQ hbc) k4
       | [], hout, hs, hbc, _ => exact ZjH (show ZeI cells = some bcs' from hout) hs (ZrQ hbc) k4
       | .s m c :: l, hout, hs, hbc, hfix =>
        match cells, hout, k4 with
        | .row 1 :: cl, hout, k4 =>
         simp only [ZLV] at hout
         split at hout
         ·rename_i m' hm'
          simp only [Option.some.injEq] at hout; subst hout
          cases hcs : cs.toList with
          | nil => rw [hcs] at hbc; cases hbc
          | cons v vs' =>
           rw [hcs] at hbc
           cases hcs' : cs'.toList with
           | nil => rw [hcs'] at k4; cases k4
           | cons v' vs'' =>
            rw [hcs'] at k4
            obtain ⟨⟨_, hv1⟩, hrest⟩ := k4
            have : v' = v := by rw [hv1]; exact (hfix v (by rw [hcs]; rfl)).2
            show v :: newC m' vs' = v' :: vs''
            rw [this, ZjH hm' hs (ZrQ hbc.2) hrest]
         ·cases hout
        | [], hout, k4 => cases hout
      refine ⟨hR'.defers, _, ZsM hR' hres, by rw [<- hx], ?_, hR'.grown⟩
      rw [<- hx]
      show w'.heap[b]? = some (.cells (newC bcs' cs.toList).toArray e' (0, 0))
      rw [hnew, k3]
     ·cases hk2
    ·cases hk2
   ·cases hk2
  unfold finP at hk
  cases y with
  | normal => exact fin hk
  | exit id => cases hk
  | ret => exact fin hk
 ·cases h
theorem Z5U {α : Type} {dec : List Value × List BC -> Option α} {enc : α -> List Value × List BC} {f : Nat} {run : PRun} {fn : Func} (hde : ∀ y x, dec y = some x -> y = enc x) (hS : Ze P S) (hm : P.follows .mixedOrders = true) (hf : P.funcs[f]? = some fn) (hn : fn.ntmps = n) (hb : fn.body.isSome = true) (hok : Z7V S (ZS P f) = true)
  (h : ∀ e bcs pvs rs bcs', run e bcs pvs = some (true, rs, bcs') -> ∃ (fu : Code -> Nat) (x : α), (rs, bcs') = enc x /\ ZcR P S f n fu dec e bcs pvs = some x) : Zag P f run := by
 intro W e b cs bcs pvs avs rs bcs' hG hfar hc hbc ha hrun _
 obtain ⟨fu, x, h1, h2⟩ := h e bcs pvs rs bcs' hrun
 have := ZIy hde hS hm hf hn hb hok hG hfar hc hbc ha h2
 rw [<- h1] at this
 exact this
def ZG8 (n : Nat) (c : Cells) : FSt := Tab.st ⟨[.row 1], [(0, .ros 0 (.ints [])), (1, .ros n c)]⟩
def finB {α : Type} (P : Program) (f : Nat) (dec : TypeId × List Value -> Option α) (x : Ex) (s : FSt) : Option α := match x with
 | .exit _ => none
 | _ => match P.funcs[f]? with
  | some fn => match fn.results.toList with
   | [.tmp t] => match s.slot t with
    | .ptr id 0 => match s.heap id with
     | some (.box e (.row 1 :: cells)) => match SV.vals cells with
      | some vals => dec (e, vals)
      | none => none
     | _ => none
    | _ => none
   | _ => none
  | none => none
def ZIv {α : Type} (P : Program) (S : Sums) (f n : Nat) (fu : Code -> Nat) (dec : TypeId × List Value -> Option α) (m : Nat) (c : Cells) : Option α :=
 if Nat.ble 1 n = true then exec P S n fu (ZS P f) (ZG8 m c) (finB P f dec) else none
theorem ZIw {α : Type} {fu : Code -> Nat} {dec : TypeId × List Value -> Option α} {enc : α -> TypeId × List Value} (hde : ∀ y x, dec y = some x -> y = enc x) (hS : Ze P S) (hm : P.follows .mixedOrders = true) {f : Nat} {fn : Func} (hf : P.funcs[f]? = some fn) (hn : fn.ntmps = n) (hb : fn.body.isSome = true) (hok : Z7V S (ZS P f) = true)
  {m : Nat} {c : Cells} {v : Value} {x : α} (hG : GOK W) (hv : Z3i W none v m c) (h : ZIv P S f n fu dec m c = some x) :
  Calls P f [v].toArray W fun y W' => ∃ b, y = .returned (.pointer (some ⟨b, 0, none⟩)) /\ W.heap.size <= b /\ W'.heap[b]? = some (.cells (v :: (enc x).2).toArray (enc x).1 (0, 0)) /\ W.grownBy W' none := by
 subst hn
 obtain ⟨cd, hb⟩ := Option.isSome_iff_exists.1 hb
 have hbody : ZS P f = cd := by unfold ZS; rw [hf]; dsimp only; rw [hb]
 rw [hbody] at hok
 unfold ZIv at h
 split at h
 ·rename_i hle
  rw [hbody] at h
  have hle := nle hle
  refine calls_of_wp hf hb ?_
  let ρ : Nat -> Value := fun x => if x = 0 then nilS else v
  have hH : ∀ id bl, (ZG8 m c).heap id = some bl -> (id = 0 /\ bl = .ros 0 (.ints [])) \/ (id = 1 /\ bl = .ros m c) := by
   intro id bl hbl
   have hbl : look [(0, Blk.ros 0 (.ints [])), (1, .ros m c)] id = some bl := hbl
   simp only [look] at hbl
   by_cases e0 : id = 0
   ·subst e0
    simp at hbl
    exact .inl ⟨rfl, hbl.symm⟩
   ·rw [nbeq e0, cond_false] at hbl
    by_cases e1 : id = 1
    ·subst e1
     simp at hbl
     exact .inr ⟨rfl, hbl.symm⟩
    ·rw [nbeq e1, cond_false] at hbl; cases hbl
  have hR : R P W (some (nilS, some v)) fn.ntmps (ZG8 m c) { tmps := [v].toArray ++ Array.replicate (fn.ntmps - [v].toArray.size) undef, defers := [] } W ρ := by
   refine ⟨World.grownBy.refl W _, by simp; omega, rfl, fun t => ?_, fun id bl hbl => ?_, fun i j bi bj g hij hi hj oi oj => ?_, fun v0 hv0 => ?_⟩
   ·show Rel P W _ ρ _ ([SV.row 1].getD t .junk) _
    match t with
    | 0 =>
     refine ⟨rfl, ?_⟩
     have : ([v].toArray ++ Array.replicate (fn.ntmps - [v].toArray.size) undef).getD 0 undef = v := by
      rw [Array.getD_eq_getD_getElem?, Array.getElem?_append_left (by simp)]
      rfl
     show ([v].toArray ++ Array.replicate (fn.ntmps - [v].toArray.size) undef).getD 0 undef = v
     exact this
    | t + 1 => exact True.intro
   ·rcases hH id bl hbl with ⟨rfl, rfl⟩ | ⟨rfl, rfl⟩
    ·exact ⟨True.intro, .inl ⟨rfl, rfl, rfl⟩⟩
    ·exact hv
   ·rcases hH i bi hi with ⟨_, rfl⟩ | ⟨_, rfl⟩ <;> cases oi
   ·obtain rfl : (nilS, some v) = v0 := by simpa using hv0
    exact ⟨by omega, ⟨rfl, rfl⟩, fun u hu => by
     obtain rfl : v = u := by simpa using hu
     exact ⟨rfl, rfl⟩⟩
  refine Zse (M := some (nilS, some v)) ⟨hS, hG, fun g hg => by cases hg⟩ hm cd (ZG8 m c) _ hok h _ W ρ hR _ fun y s' a' w' ρ' hR' hk => ?_
  have fin : (match P.funcs[f]? with
   | some fn => match fn.results.toList with
    | [.tmp t] => match s'.slot t with
     | .ptr id 0 => match s'.heap id with
      | some (.box e (.row 1 :: cells)) => match SV.vals cells with
       | some vals => dec (e, vals)
       | none => none
      | _ => none
     | _ => none
    | _ => none
   | none => none) = some x -> a'.defers = [] /\ ∃ u, (results fn a'.tmps).run P w' = .ok u w' /\ ∃ b, Ending.returned u = .returned (.pointer (some ⟨b, 0, none⟩)) /\ W.heap.size <= b /\ w'.heap[b]? = some (.cells (v :: (enc x).2).toArray (enc x).1 (0, 0)) /\ W.grownBy w' none := by
   intro hk2
   rw [hf] at hk2
   dsimp only at hk2
   split at hk2
   ·rename_i t hres
    split at hk2
    ·rename_i id hsl
     split at hk2
     ·rename_i e cells hhp
      split at hk2
      ·rename_i vals hvals
       have hx := hde _ _ hk2
       have hu : ∃ g o, atOf (ρ' id) = some (g, o) /\ a'.tmps.getD t undef = .pointer (some ⟨g, o + 0, none⟩) := by
        have := hR'.slots t
        rw [hsl] at this
        exact this.2
       obtain ⟨g, cs, k1, k2, k3, k4⟩ := hR'.heap id _ hhp
       obtain ⟨g', o', q1, q2⟩ := hu
       rw [k1] at q1
       obtain ⟨rfl, rfl⟩ : g = g' /\ 0 = o' := by simpa [atOf] using q1
       have hg : W.heap.size <= g := by
        rcases k2 with h | h
        ·exact h
        ·cases h
       have hcs : cs = (v :: vals).toArray := by
        apply Array.toList_inj.1
        cases hc : cs.toList with
        | nil => rw [hc] at k4; cases k4
        | cons y ys =>
         rw [hc] at k4
         obtain ⟨⟨_, k5⟩, k6⟩ := k4
         rw [k5, ((hR'.fix _ rfl).2.2 v rfl).2, Zo1 hvals k6]
       refine ⟨hR'.defers, .pointer (some ⟨g, 0, none⟩), ?_, g, rfl, hg, ?_, hR'.grown⟩
       ·have hr : fn.results = #[.tmp t] := by apply Array.toList_inj.1; exact hres
        unfold results
        rw [hr]
        rw [Array.getD_eq_getD_getElem?] at q2
        simp [q2]
       ·rw [<- hx]
        rw [k3, hcs]
      ·cases hk2
     ·cases hk2
    ·cases hk2
   ·cases hk2
  unfold finB at hk
  cases y with
  | normal => exact fin hk
  | exit id => cases hk
  | ret => exact fin hk
 ·cases h
theorem ZN5 {α : Type} {dec : TypeId × List Value -> Option α} {enc : α -> TypeId × List Value} {f : Nat} {run : BRun} {fn : Func} (hde : ∀ y x, dec y = some x -> y = enc x) (hS : Ze P S) (hm : P.follows .mixedOrders = true) (hf : P.funcs[f]? = some fn) (hn : fn.ntmps = n) (hb : fn.body.isSome = true) (hok : Z7V S (ZS P f) = true)
  (h : ∀ m c e vals, run [.s m c] = some (true, e, vals) -> ∃ (fu : Code -> Nat) (x : α), (e, vals) = enc x /\ ZIv P S f n fu dec m c = some x) : ZFS P f run := by
 intro W m c v e vals hG hv hrun
 obtain ⟨fu, x, h1, h2⟩ := h m c e vals hrun
 have := ZIw hde hS hm hf hn hb hok hG hv h2
 rw [<- h1] at this
 exact this
def Ziy (e : TypeId) (bcs : List BC) (args : List PV) : FSt := Tab.st ⟨Z3o 1 args ++ [.ptr 2 0], (0, .box e (ZwU bcs)) :: (2, .rop [.ptr 0 0]) :: ZN 1 args⟩
def ZLn {α : Type} (P : Program) (S : Sums) (f n : Nat) (fu : Code -> Nat) (dec : List Value × List BC -> Option α) (e : TypeId) (bcs : List BC) (args : List PV) : Option α :=
 if (Nat.ble (args.length + 1) n && allV bcs) = true then exec P S n fu (ZS P f) (Ziy e bcs args) (finP P f e bcs dec) else none
theorem ZK4 {e : TypeId} {b g' o' : Nat} {cs : Array Value} {bcs : List BC} {pvs : List PV} {avs : List Value} (hsh : allV bcs = true) (hc : W.heap[b]? = some (.cells cs e (0, 0))) (hcell : W.cell? ⟨g', o', none⟩ = some (.pointer (some ⟨b, 0, none⟩))) (hgb : g' ≠ b) (hb : All2 (BCRel W b) bcs cs.toList) (ha : All2 (ArgB W b) pvs avs) :
  ∃ ρ, ρ 0 = .pointer (some ⟨b, 0, none⟩) /\ All2 (Rel P W (some (.pointer (some ⟨b, 0, none⟩), none)) ρ (Ziy e bcs pvs).heap) (Z3o 1 pvs ++ [.ptr 2 0]) (avs ++ [Value.pointer (some ⟨g', o', none⟩)]) /\
   (∀ id bl, (Ziy e bcs pvs).heap id = some bl -> BRel P W (some (.pointer (some ⟨b, 0, none⟩), none)) W ρ (Ziy e bcs pvs).heap id bl /\ (ownB bl = true -> id = 0)) := by
 have hM : mB (some (Value.pointer (some ⟨b, 0, none⟩), (none : Option Value))) = some b := rfl
 obtain ⟨ρ0, h1, h2⟩ := ZpS (P := P) (W := W) (M := some (.pointer (some ⟨b, 0, none⟩), none)) hM pvs avs 1 ha
 let ρ : Nat -> Value := fun x => if x = 0 then .pointer (some ⟨b, 0, none⟩) else if x = 2 then .pointer (some ⟨g', o', none⟩) else ρ0 x
 have hH : ∀ x, (Ziy e bcs pvs).heap x = if x = 0 then some (.box e (ZwU bcs)) else if x = 2 then some (.rop [.ptr 0 0]) else look (ZN 1 pvs) x := by
  intro x
  show look ((0, .box e (ZwU bcs)) :: (2, .rop [.ptr 0 0]) :: ZN 1 pvs) x = _
  simp only [look]
  by_cases e0 : x = 0
  ·subst e0; simp
  ·rw [nbeq e0, cond_false, if_neg e0]
   by_cases e2 : x = 2
   ·subst e2; simp
   ·rw [nbeq e2, cond_false, if_neg e2]
 have hlow : ∀ x, x < 4 -> look (ZN 1 pvs) x = none := by
  intro x hx
  cases hb : look (ZN 1 pvs) x with
  | none => rfl
  | some bl => have := ZOg pvs 1 x bl hb; omega
 have hst : ∀ id, (look (ZN 1 pvs) id).isSome = true -> ((Ziy e bcs pvs).heap id).isSome = true /\ ρ id = ρ0 id := by
  intro id hid
  have h4 : ¬ id < 4 := fun hlt => by rw [hlow id hlt] at hid; cases hid
  refine ⟨?_, ?_⟩
  ·rw [hH, if_neg (by omega), if_neg (by omega)]
   exact hid
  ·show (if id = 0 then _ else if id = 2 then _ else ρ0 id) = _
   rw [if_neg (by omega), if_neg (by omega)]
 have h0 : ((Ziy e bcs pvs).heap 0).isSome = true := by rw [hH, if_pos rfl]; rfl
 have hp : Rel P W (some (.pointer (some ⟨b, 0, none⟩), none)) ρ (Ziy e bcs pvs).heap (.ptr 0 0) (.pointer (some ⟨b, 0, none⟩)) := ⟨h0, b, 0, rfl, rfl⟩
 refine ⟨ρ, rfl, All2.app (h1.mono fun _ _ => Rel.mono hst) ⟨⟨by rw [hH, if_neg (by decide), if_pos rfl]; rfl, g', o', rfl, rfl⟩, True.intro⟩, fun id bl hbl => ?_⟩
 rw [hH] at hbl
 by_cases e0 : id = 0
 ·subst e0
  simp at hbl
  subst hbl
  exact ⟨⟨b, cs, rfl, .inr rfl, hc, ZjI hsh hb⟩, fun _ => rfl⟩
 ·rw [if_neg e0] at hbl
  by_cases e2 : id = 2
  ·subst e2
   simp at hbl
   subst hbl
   refine ⟨⟨g', o', rfl, fun e' => hgb (by simpa [mB, Z2Q, atOf] using e'.symm), fun j v hv => ?_⟩, fun h => by cases h⟩
   cases j with
   | zero =>
    obtain rfl : SV.ptr 0 0 = v := by simpa using hv
    exact ⟨_, hcell, hp⟩
   | succ j => simp at hv
  ·rw [if_neg e2] at hbl
   obtain ⟨m, c, rfl, hros⟩ := h2 id bl hbl
   refine ⟨?_, fun h => by cases h⟩
   show Z3i W (some b) (ρ id) m c
   rw [(hst id (by rw [show look (ZN 1 pvs) id = some (.ros m c) from hbl]; rfl)).2]
   exact hros
theorem ZIx {α : Type} {fu : Code -> Nat} {dec : List Value × List BC -> Option α} {enc : α -> List Value × List BC} (hde : ∀ y x, dec y = some x -> y = enc x) (hS : Ze P S) (hm : P.follows .mixedOrders = true) {f : Nat} {fn : Func} (hf : P.funcs[f]? = some fn) (hn : fn.ntmps = n) (hb : fn.body.isSome = true) (hok : Z7V S (ZS P f) = true)
  {e : TypeId} {b g' o' : Nat} {cs : Array Value} {bcs : List BC} {pvs : List PV} {avs : List Value} {x : α} (hG : GOK W) (hfar : gvars.length <= b) (hc : W.heap[b]? = some (.cells cs e (0, 0))) (hcell : W.cell? ⟨g', o', none⟩ = some (.pointer (some ⟨b, 0, none⟩))) (hgb : g' ≠ b) (hbc : All2 (BCRel W b) bcs cs.toList) (ha : All2 (ArgB W b) pvs avs) (h : ZLn P S f n fu dec e bcs pvs = some x) :
  Calls P f (avs ++ [Value.pointer (some ⟨g', o', none⟩)]).toArray W fun y W' => y = .returned (Zpi (enc x).1) /\ W'.heap[b]? = some (.cells (newC (enc x).2 cs.toList).toArray e (0, 0)) /\ W.grownBy W' (some b) := by
 subst hn
 obtain ⟨cd, hb⟩ := Option.isSome_iff_exists.1 hb
 have hbody : ZS P f = cd := by unfold ZS; rw [hf]; dsimp only; rw [hb]
 rw [hbody] at hok
 unfold ZLn at h
 split at h
 ·rename_i hle
  simp only [Bool.and_eq_true] at hle
  obtain ⟨hle, hsh⟩ := hle
  rw [hbody] at h
  have hle := nle hle
  have Z4X := ha.len
  obtain ⟨ρ, hρ0, hslots, hheap⟩ := ZK4 (P := P) hsh hc hcell hgb hbc ha
  refine calls_of_wp hf hb ?_
  have hR : R P W (some (.pointer (some ⟨b, 0, none⟩), none)) fn.ntmps (Ziy e bcs pvs) { tmps := (avs ++ [Value.pointer (some ⟨g', o', none⟩)]).toArray ++ Array.replicate (fn.ntmps - (avs ++ [Value.pointer (some ⟨g', o', none⟩)]).toArray.size) undef, defers := [] } W ρ := by
   refine ⟨World.grownBy.refl W _, by simp; omega, rfl, fun t => ?_, fun id bl hbl => (hheap id bl hbl).1, fun i j bi bj g hij hi hj oi oj => ?_, fun v0 hv0 => ?_⟩
   rotate_right
   ·obtain rfl : (Value.pointer (some ⟨b, 0, none⟩), none) = v0 := by simpa using hv0
    exact ⟨by omega, ⟨rfl, hρ0⟩, fun u hu => (by cases hu)⟩
   ·show Rel P W _ ρ _ ((Z3o 1 pvs ++ [SV.ptr 2 0]).getD t .junk) _
    rw [List.getD_eq_getElem?_getD]
    cases ht : (Z3o 1 pvs ++ [SV.ptr 2 0])[t]? with
    | none => exact True.intro
    | some y =>
     obtain ⟨u, hu, hrel⟩ := hslots.get ht
     have hlt : t < (avs ++ [Value.pointer (some ⟨g', o', none⟩)]).length := (List.getElem?_eq_some_iff.1 hu).1
     have : ((avs ++ [Value.pointer (some ⟨g', o', none⟩)]).toArray ++ Array.replicate (fn.ntmps - (avs ++ [Value.pointer (some ⟨g', o', none⟩)]).toArray.size) undef).getD t undef = u := by
      rw [Array.getD_eq_getD_getElem?, Array.getElem?_append_left (by simpa using hlt)]
      rw [List.getElem?_toArray, hu]
      rfl
     rw [this]
     exact hrel
   ·exact absurd (((hheap i bi hi).2 oi).trans ((hheap j bj hj).2 oj).symm) hij
  refine Zse ⟨hS, hG, fun g hg => by
   obtain rfl : b = g := by simpa [mB, Z2Q, atOf] using hg
   exact hfar⟩ hm cd (Ziy e bcs pvs) _ hok h _ W ρ hR _ fun y s' a' w' ρ' hR' hk => ?_
  have fin : (match P.funcs[f]? with
   | some fn => match resV P s' fn.results.toList, s'.heap 0 with
    | some vs, some (.box e' cells) => match ZLV bcs cells with
     | some bcs' => if (Nat.beq e' e && Zpj bcs bcs') = true then dec (vs, bcs') else none
     | none => none
    | _, _ => none
   | none => none) = some x -> a'.defers = [] /\ ∃ u, (results fn a'.tmps).run P w' = .ok u w' /\ Ending.returned u = .returned (Zpi (enc x).1) /\ w'.heap[b]? = some (.cells (newC (enc x).2 cs.toList).toArray e (0, 0)) /\ W.grownBy w' (some b) := by
   intro hk2
   rw [hf] at hk2
   dsimp only at hk2
   split at hk2
   ·rename_i vs e' cells hres hhp
    split at hk2
    ·rename_i bcs' hout
     split at hk2
     ·rename_i hck
      simp only [Bool.and_eq_true] at hck
      have q1 := neq hck.1
      subst q1
      have hx := hde _ _ hk2
      obtain ⟨g, cs', k1, k2, k3, k4⟩ := hR'.heap 0 _ hhp
      have hv := (hR'.fix _ rfl).2.1.2
      rw [hv] at k1
      obtain rfl : b = g := by simpa using k1
      have hout' : ZeI cells = some bcs' := by
       match bcs, hout, hsh with
       | .v y :: l, hout, _ => exact hout
       | [], hout, _ => exact hout
      have hnew : newC bcs' cs.toList = cs'.toList := ZjH hout' hck.2 (ZrQ hbc) k4
      refine ⟨hR'.defers, _, ZsM hR' hres, by rw [<- hx], ?_, hR'.grown⟩
      rw [<- hx]
      show w'.heap[b]? = some (.cells (newC bcs' cs.toList).toArray e' (0, 0))
      rw [hnew, k3]
     ·cases hk2
    ·cases hk2
   ·cases hk2
  unfold finP at hk
  cases y with
  | normal => exact fin hk
  | exit id => cases hk
  | ret => exact fin hk
 ·cases h
theorem ZN6 {α : Type} {dec : List Value × List BC -> Option α} {enc : α -> List Value × List BC} {f : Nat} {run : PRun} {fn : Func} (hde : ∀ y x, dec y = some x -> y = enc x) (hS : Ze P S) (hm : P.follows .mixedOrders = true) (hf : P.funcs[f]? = some fn) (hn : fn.ntmps = n) (hb : fn.body.isSome = true) (hok : Z7V S (ZS P f) = true)
  (h : ∀ e bcs pvs rs bcs', run e bcs pvs = some (true, rs, bcs') -> ∃ (fu : Code -> Nat) (x : α), (rs, bcs') = enc x /\ ZLn P S f n fu dec e bcs pvs = some x) : ZFT P f run := by
 intro W e b g' o' cs bcs pvs avs rs bcs' hG hfar hc hcell hgb hbc ha hrun _
 obtain ⟨fu, x, h1, h2⟩ := h e bcs pvs rs bcs' hrun
 have := ZIx hde hS hm hf hn hb hok hG hfar hc hcell hgb hbc ha h2
 rw [<- h1] at this
 exact this
end

theorem ZMd {α : Type} (x : α) : ∃ y : α, y = x := ⟨x, rfl⟩
noncomputable def shut {α : Type} (x : α) : α := Classical.choose (ZMd x)
theorem Zu {α : Type} (x : α) : shut x = x := Classical.choose_spec (ZMd x)
abbrev D8i := Int × Int × Int × Int × Int × Int × Int × Int
abbrev RunP := List PV -> Option (Bool × List TR)
abbrev bs (l : List UInt8) : ByteArray := ⟨⟨l⟩⟩
def eqS (a b : ByteArray) : Bool := a.toList == b.toList
def Z56 (n : Nat) (l : List Int) : Bool := lenB n 1 l && l.all (fun x => decide (0 <= x) && decide (x < 256))
def srcB (n : Nat) (l : List Int) (s : Int × Int) : Bool := Z56 n l && decide (0 <= s.1)
theorem ZrU {n : Nat} {l : List Int} (h : Z56 n l = true) : l.length = n /\ n <= 100000000000 /\ ∀ x ∈ l, 0 <= x /\ x < 256 := by
 unfold Z56 at h
 rw [Bool.and_eq_true] at h
 obtain ⟨h1, h2⟩ := Z7Y h.1
 refine ⟨by omega, h2, fun x hx => ?_⟩
 have := List.all_eq_true.1 h.2 x hx
 simpa using this
theorem Z69 {n : Nat} {l : List Int} {s : Int × Int} (h : srcB n l s = true) : Z56 n l = true /\ 0 <= s.1 := by
 unfold srcB at h
 rw [Bool.and_eq_true] at h
 exact ⟨h.1, of_decide_eq_true h.2⟩
theorem ZHg {n : Nat} {l : List Int} {s : Int × Int} (h : Z56 n l = true) (h2 : 0 <= s.1) : srcB n l s = true := by
 unfold srcB
 rw [h, decide_eq_true h2]
 rfl
theorem ZhN {α : Type} {c : Prop} [Decidable c] {P : α -> Prop} {x y : α} (h1 : P x) (h2 : P y) : P (if c then x else y) := by
 split
 ·exact h1
 ·exact h2
theorem ZwA {a b : Bool} (h : (a && b) = true) : a = true := by rw [Bool.and_eq_true] at h; exact h.1
theorem ZwB {a b : Bool} (h : (a && b) = true) : b = true := by rw [Bool.and_eq_true] at h; exact h.2
theorem ZNp (x : Int) : 0 <= andI .u64 x 16777215 /\ andI .u64 x 16777215 <= 16777215 := by
 have h : ((BitVec.ofInt (IntKind.bits .u64) x &&& BitVec.ofInt (IntKind.bits .u64) 16777215).toNat) <= 16777215 := by
  rw [BitVec.toNat_and]
  exact Nat.and_le_right
 have hu : ∀ m : Nat, m <= 16777215 -> IntKind.u64.wrap (m : Int) = (m : Int) := by
  intro m hm
  have h1 : IntKind.u64.wrap (m : Int) = (m : Int) % 18446744073709551616 := rfl
  rw [h1]
  omega
 unfold andI
 rw [hu _ h]
 constructor
 ·exact Int.natCast_nonneg _
 ·exact Int.ofNat_le.2 h
theorem ZIE {l : List Int} {i : Nat} (h : i < l.length) : l.getD i 0 ∈ l := by
 rw [List.getD_eq_getElem?_getD, List.getElem?_eq_getElem h]
 exact List.getElem_mem h
theorem Zaj {x n : Int} (h : 0 <= x /\ x < n) : (decide (0 <= x) && decide (x < n)) = true := by
 rw [decide_eq_true h.1, decide_eq_true h.2]
 rfl
theorem Z7U {a b : Nat} (h : a <= b) : Nat.ble a b = true := by rw [Nat.ble_eq]; exact h
theorem ZLb {n : Nat} (h : Nat.blt 0 n = true) : 0 < n := by
 rw [show Nat.blt 0 n = Nat.ble 1 n from rfl, Nat.ble_eq] at h
 omega
def bytB (n : Nat) (l : List Int) : Bool := Nat.beq l.length n && l.all (fun x => decide (0 <= x) && decide (x < 256))
theorem ZOY {n : Nat} {l : List Int} (h : l.length = n) (hb : ∀ x ∈ l, 0 <= x /\ x < 256) : bytB n l = true := by
 subst h
 unfold bytB
 rw [Nat.beq_refl, Bool.true_and, List.all_eq_true]
 intro x hx
 simpa using hb x hx
theorem ZI9 {n : Nat} {l : List Int} (h : bytB n l = true) (hn : n <= 4096) : Z56 n l = true := by
 unfold bytB at h
 rw [Bool.and_eq_true] at h
 unfold Z56
 rw [h.2, Bool.and_true]
 have := Nat.eq_of_beq_eq_true h.1
 unfold lenB
 rw [this, Nat.one_mul, Nat.beq_refl, Bool.true_and]
 exact Z7U (by omega)

end Go.Proofs.YtcdpfpfbilfpoaaGreatDoor
