import Derived.Test.YtfclaacaphpoaaaDe
set_option linter.unusedSimpArgs false
set_option linter.unusedVariables false
namespace Go.Proofs.Ytfclaacaphpoaaa
open Go.RowKit
def Z3M (P : Program) (S : Sums) (n : Nat) (ops : List Oper) : List Nat -> FSt -> Option FSt
 | [], s => some s
 | i :: l, s => match ops[i]? with
  | some o => match step P S n ops o s with | some s' => Z3M P S n ops l s' | none => none
  | none => none
def Zvp (acc : List Nat) (o : Oper) : Nat := o.after.toList.foldl (fun m e => if Region.binds .any e = true then m ||| 2 ^ e.on ||| acc.getD e.on 0 else m) 0
def masks : List Oper -> List Nat -> List Nat
 | [], acc => acc
 | o :: l, acc => masks l (acc ++ [Zvp acc o])
def Zq0 (S : Sums) (ops : Array Oper) (o q : Oper) : Bool := o.apart ops q && (allowed (cls S o.op) (cls S q.op) || bif S.z then Zve o q else (Zkv ops.toList o q || (ZhQ S o q || (ZhQ S q o || (mixB ops.toList o q || Zt2 ops.toList o q)))))
def Zpf (S : Sums) (ops : Array Oper) (q : Oper) (m : Nat) : Nat -> List Oper -> Bool
 | _, [] => true
 | i, o :: l => (m.testBit i || Zq0 S ops o q) && Zpf S ops q m (i + 1) l
def Zr4 (S : Sums) (ops : Array Oper) : List Oper -> List Nat -> List Oper -> Bool
 | _, _, [] => true
 | before, m :: ms, q :: l => Zpf S ops q m 0 before && Zr4 S ops (before ++ [q]) ms l
 | _, [], _ :: _ => false
def Zx8 (o : Oper) (i : Nat) : Bool := o.after.toList.all fun e => !Region.binds .any e || Nat.ble (e.on + 1) i
def ordB : Nat -> List Oper -> Bool
 | _, [] => true
 | i, o :: l => Zx8 o i && ordB (i + 1) l
def ZnJ (S : Sums) (ops : List Oper) : Bool := ordB 0 ops && Zr4 S ops.toArray [] (masks ops []) ops
section
variable {P : Program} {S : Sums} {W : World} {M : MV} {n : Nat} {s s1 s2 : FSt} {a : Act} {w w' : World} {ρ ρ' : Nat -> Value} {o : Oper} {r : Out} {ops : List Oper} {Q : Exit -> Act -> World -> Prop} {K : Act -> World -> Prop}
theorem Zu4 {l : List Oper} : ∀ {i : Nat}, ordB i l = true -> ∀ {j : Nat} {o : Oper}, l[j]? = some o -> ∀ e ∈ o.after, Region.binds .any e = true -> e.on < i + j := by
 induction l with
 | nil => intro i h j o hj; simp at hj
 | cons o' l ih =>
  intro i h j o hj e he hb
  simp only [ordB, Bool.and_eq_true] at h
  cases j with
  | zero =>
   simp at hj; subst hj
   have := List.all_eq_true.1 h.1 e (by simpa using he)
   rw [hb] at this
   have := nle (by simpa using this)
   omega
  | succ j =>
   simp at hj
   have := ih h.2 hj e he hb
   omega
theorem ZqT {opsA : Array Oper} {q : Oper} {m : Nat} {l : List Oper} : ∀ {i : Nat}, Zpf S opsA q m i l = true -> ∀ {j : Nat} {o : Oper}, l[j]? = some o -> m.testBit (i + j) = true \/ Zq0 S opsA o q = true := by
 induction l with
 | nil => intro i h j o hj; simp at hj
 | cons o' l ih =>
  intro i h j o hj
  simp only [Zpf, Bool.and_eq_true, Bool.or_eq_true] at h
  cases j with
  | zero => simp at hj; subst hj; exact h.1
  | succ j =>
   simp at hj
   have := ih h.2 hj
   rwa [show i + 1 + j = i + (j + 1) from by omega] at this
theorem Zs6 {opsA : Array Oper} {l : List Oper} : ∀ {before : List Oper} {ms : List Nat}, Zr4 S opsA before ms l = true -> ∀ {j : Nat} {q : Oper}, l[j]? = some q -> ∃ m, ms[j]? = some m /\ ∀ {i : Nat} {o : Oper}, (before ++ l.take j)[i]? = some o -> m.testBit i = true \/ Zq0 S opsA o q = true := by
 induction l with
 | nil => intro before ms h j q hj; simp at hj
 | cons q' l ih =>
  intro before ms h j q hj
  cases ms with
  | nil => simp [Zr4] at h
  | cons m ms =>
   simp only [Zr4, Bool.and_eq_true] at h
   cases j with
   | zero =>
    simp at hj; subst hj
    refine ⟨m, rfl, fun {i o} ho => ?_⟩
    have := ZqT h.1 (j := i) (o := o) (by simpa using ho)
    simpa using this
   | succ j =>
    simp at hj
    obtain ⟨m', hm, hall⟩ := ih h.2 hj
    refine ⟨m', by simpa using hm, fun {i o} ho => hall ?_⟩
    simpa using ho
theorem Zqp {acc : List Nat} {i : Nat} : ∀ (l : List Edge) (m : Nat), (l.foldl (fun m e => if Region.binds .any e = true then m ||| 2 ^ e.on ||| acc.getD e.on 0 else m) m).testBit i = true -> m.testBit i = true \/ ∃ e ∈ l, Region.binds .any e = true /\ (e.on = i \/ (acc.getD e.on 0).testBit i = true)
 | [], m, h => .inl h
 | e :: l, m, h => by
  rw [List.foldl_cons] at h
  rcases Zqp l _ h with h1 | ⟨e', he, h1⟩
  ·split at h1
   ·rename_i hb
    rw [Nat.testBit_or, Nat.testBit_or, Bool.or_eq_true, Bool.or_eq_true, Nat.testBit_two_pow] at h1
    rcases h1 with (h1 | h1) | h1
    ·exact .inl h1
    ·exact .inr ⟨e, by simp, hb, .inl (by simpa using h1)⟩
    ·exact .inr ⟨e, by simp, hb, .inr h1⟩
   ·exact .inl h1
  ·exact .inr ⟨e', by simp [he], h1⟩
def Closed (ops : List Oper) (L : Nat -> Bool) : Prop := ∀ j o, ops[j]? = some o -> L j = true -> ∀ e ∈ o.after, Region.binds .any e = true -> L e.on = true
theorem ZlJ {L : Nat -> Bool} (hL : Closed ops L) : ∀ (l : List Oper) (acc : List Nat), (∀ j o, l[j]? = some o -> ops[acc.length + j]? = some o) -> (∀ j m i, acc[j]? = some m -> m.testBit i = true -> L j = true -> L i = true) ->
  ∀ j m i, (masks l acc)[j]? = some m -> m.testBit i = true -> L j = true -> L i = true
 | [], acc, _, h => h
 | o :: l, acc, ho, h => by
  refine ZlJ hL l (acc ++ [Zvp acc o]) (fun j q hq => ?_) fun j m i hj hb hl => ?_
  ·have := ho (j + 1) q (by simpa using hq)
   simpa [Nat.add_assoc, Nat.add_comm 1 j] using this
  ·rcases Nat.lt_or_ge j acc.length with hlt | hge
   ·rw [List.getElem?_append_left hlt] at hj
    exact h j m i hj hb hl
   ·rw [List.getElem?_append_right hge] at hj
    have hj0 : j = acc.length := by
     have := (List.getElem?_eq_some_iff.1 hj).1
     simp at this
     omega
    subst hj0
    simp at hj
    subst hj
    rcases Zqp _ _ hb with h0 | ⟨e, he, hbi, h1⟩
    ·simp at h0
    ·have hLe : L e.on = true := hL acc.length o (by simpa using ho 0 o (by simp)) hl e (by simpa using he) hbi
     rcases h1 with rfl | h1
     ·exact hLe
     ·cases hm : acc[e.on]? with
      | none => simp [List.getD_eq_getElem?_getD, hm] at h1
      | some m' => exact h e.on m' i hm (by simpa [List.getD_eq_getElem?_getD, hm] using h1) hLe
def Comm (S : Sums) (ops : List Oper) (i j : Nat) : Prop := ∃ o q, ops[i]? = some o /\ ops[j]? = some q /\ Zq0 S ops.toArray o q = true
theorem Zsv (hok : ZnJ S ops = true) {L : Nat -> Bool} (hL : Closed ops L) {i j : Nat} (hij : i < j) (hj : j < ops.length) (hi : L i = false) (hl : L j = true) : Comm S ops i j := by
 unfold ZnJ at hok
 simp only [Bool.and_eq_true] at hok
 obtain ⟨m, hm, hall⟩ := Zs6 hok.2 (j := j) (q := ops[j]) (by simp [hj])
 have hi' : i < ops.length := by omega
 rcases hall (i := i) (o := ops[i]) (by simp [List.getElem?_take_of_lt hij, hi']) with h1 | h1
 ·have := ZlJ hL ops [] (fun j o h => by simpa using h) (fun j m i h => by simp at h) j m i hm h1 hl
  rw [hi] at this
  cases this
 ·exact ⟨ops[i], ops[j], by simp [hi'], by simp [hj], h1⟩
theorem Zpc {H : Nat -> Option Blk} {id : Nat} (hs : H = s.heap) {x : SV} (h : SVok H x) : SVok (s.kill id).heap (Z0X id x) := by
 subst hs
 cases x with
 | ptr i o =>
  by_cases e : i = id
  ·subst e; simp only [Z0X, show Nat.beq i i = true by simp, cond_true]; exact True.intro
  ·simp only [Z0X, nbeq e, cond_false]; exact Z3N e h
 | row i =>
  by_cases e : i = id
  ·subst e; simp only [Z0X, show Nat.beq i i = true by simp, cond_true]; exact True.intro
  ·simp only [Z0X, nbeq e, cond_false]; exact Z3N e h
 | sub i o m z =>
  by_cases e : i = id
  ·subst e; simp only [Z0X, show Nat.beq i i = true by simp, cond_true]; exact True.intro
  ·simp only [Z0X, nbeq e, cond_false]; exact Z3N e h
 | clo f l =>
  simp only [Z0X]
  cases hb : l.any (Nat.beq id) with
  | true => exact True.intro
  | false => exact fun i hi => Z3N (Zog hb hi) (h i hi)
 | tup l =>
  simp only [Z0X]
  cases hb : Z6x id l with
  | true => exact True.intro
  | false =>
   intro i hi
   refine Z3N ?_ (h i hi)
   rintro rfl
   have := List.any_eq_false.1 hb _ hi
   simp at this
 | agr l =>
  simp only [Z0X]
  cases hb : Z6x id l with
  | true => exact True.intro
  | false =>
   intro i hi
   refine Z3N ?_ (h i hi)
   rintro rfl
   have := List.any_eq_false.1 hb _ hi
   simp at this
 | val v => exact True.intro
 | fn g => exact True.intro
 | junk => exact True.intro
theorem Zwe (wf : WF s) (id : Nat) : WF (s.kill id) := by
 refine ⟨fun t => Zpc rfl (wf.slots t), fun j bj hj => ?_⟩
 obtain ⟨_, b, hb, rfl⟩ := Z7I hj
 have := wf.heap j b hb
 cases b with
 | box e l =>
  intro v hv
  obtain ⟨x, hx, rfl⟩ := List.mem_map.1 hv
  exact Zpc rfl (this x hx)
 | rop l =>
  intro v hv
  obtain ⟨x, hx, rfl⟩ := List.mem_map.1 hv
  exact Zpc rfl (this x hx)
 | row e z m c => exact True.intro
 | ros m c => exact True.intro
 | fro fr m c => exact True.intro
 | dee own fr e ls => exact True.intro
theorem ZvK (wf : WF s) {i : Nat} {b : Blk} (hbok : ∀ H, Bok H b) : WF (s.set i b) := by
 have hg : Grow s.heap (s.set i b).heap := by
  intro id hid
  rw [Z2r]
  split
  ·rfl
  ·exact hid
 refine ⟨fun t => (wf.slots t).grow hg, fun j bj hj => ?_⟩
 rw [Z2r] at hj
 split at hj
 ·simp only [Option.some.injEq] at hj; subst hj; exact hbok _
 ·exact (wf.heap j bj hj).grow hg
theorem Zqy (id : Nat) (b : Blk) : Grow s.heap (s.set id b).heap := by
 intro j hj
 rw [Z2r]
 split
 ·rfl
 ·exact hj
theorem Zti (wf : WF s) {id : Nat} {e : TypeId} {cells : List SV} (hc : ∀ x ∈ cells, SVok s.heap x) : WF (s.set id (.box e cells)) := by
 have hg := Zqy (s := s) id (.box e cells)
 refine ⟨fun t => (wf.slots t).grow hg, fun j bj hj => ?_⟩
 rw [Z2r] at hj
 split at hj
 ·simp only [Option.some.injEq] at hj; subst hj; exact fun x hx => (hc x hx).grow hg
 ·exact (wf.heap j bj hj).grow hg
theorem ZlO (wf : WF s) {d : Option Nat} {v : SV} (hv : SVok s.heap v) : WF (s.put d v) := by
 refine ⟨fun t => ?_, fun j bj hj => ?_⟩
 ·rw [Z2U, Z2b]
  split
  ·exact hv
  ·exact wf.slots t
 ·rw [Z2b] at hj ⊢
  exact wf.heap j bj hj
theorem Zm5 (wf : WF s) (h : step P S n ops o s = some s1) : WF s1 := by
 by_cases hc : cls S o.op = 4
 ·obtain ⟨r, hr, hf, rfl⟩ := Z6d h
  unfold Z0H at hr
  split at hr
  ·cases hr
  ·split at hr
   ·split at hr
    ·split at hr
     ·cases hr
     ·rename_i r' hr'
      split at hr
      ·simp only [Option.some.injEq] at hr; subst hr
       have hform : (∃ d b dr ck, r' = ⟨ck, .row (4 * d), [(4 * d, b)], none, dr⟩ /\ ∀ H, Bok H b) \/ (∃ id e z m c ck v, r' = ⟨ck, .val v, [], some (id, .row e z m c), none⟩) \/ (∃ id e cells ck v, r' = ⟨ck, v, [], some (id, .box e cells), none⟩ /\ (∀ x ∈ cells, SVok s.heap x) /\ SVok s.heap v) \/ ∃ d e cells ck, r' = ⟨ck, .ptr (4 * d) 0, [(4 * d, .box e cells)], none, none⟩ /\ ∀ x ∈ cells, SVok s.heap x := by
        have hap : Z5A o = true -> ∃ d b dr ck, r' = ⟨ck, .row (4 * d), [(4 * d, b)], none, dr⟩ /\ ∀ H, Bok H b := fun ha => by
         obtain ⟨d, b, dr, ck, _, h1, h2⟩ := ZpS ha hr'
         exact ⟨d, b, dr, ck, h1, h2⟩
        cases hia : Z5A o with
        | true => exact .inl (hap hia)
        | false =>
        have hD : opD P S s o = none \/ S.z = false := by
         cases hZ : S.z with
         | false => exact .inr rfl
         | true =>
          left
          unfold opD
          cases ho : o.op <;> rw [ho] at hc <;> cases hdst : o.dst <;> try (first | rfl | (simp [cls, hZ] at hc; done))
          rename_i c d
          dsimp only
          cases hcc : c.callee with
          | value f =>
           dsimp only
           cases hmo : Z7X S f with
           | none => simp [cls, hcc, hmo] at hc
           | some run => rfl
          | invoke x m => rfl
          | builtin b =>
           cases b <;> try rfl
           exfalso
           unfold Z5A at hia
           rw [ho] at hia
           dsimp only at hia
           rw [hcc] at hia
           cases hia
        rw [show Z2v P S s o = Z1f P S s o by rcases hD with h | h; exact Zaz h; exact Z3L h] at hr'
        unfold Z1f at hr'
        cases ho : o.op <;> rw [ho] at hr' hc <;> dsimp only at hr' <;> try (first | (cases hr'; done) | (simp [cls] at hc; done) | (cases hZ : S.z <;> simp [cls, hZ] at hc; done))
        case call c =>
         cases hcc : c.callee with
         | value f =>
          rw [hcc] at hr'
          dsimp only at hr'
          cases hmo : Z7X S f with
          | none => simp [cls, hcc, hmo] at hc
          | some run =>
           rw [hmo] at hr'
           dsimp only at hr'
           cases run with
           | row run =>
            have hr' : ZlV s run _ = _ := hr'
            unfold ZlV at hr'
            split at hr'
            ·split at hr'
             ·split at hr'
              ·simp only [Option.some.injEq] at hr'
               exact .inr (.inl ⟨_, _, _, _, _, _, _, hr'.symm⟩)
              ·cases hr'
             ·cases hr'
            ·cases hr'
           | box run => simp [cls, hcc, hmo] at hc
           | cap run =>
            have hr' : Zl2 S s (s.ev f) _ = _ := hr'
            unfold Zl2 at hr'
            split at hr'
            ·split at hr'
             ·split at hr'
              ·unfold Z89 at hr'
               split at hr'
               ·split at hr'
                ·rename_i hbx
                 split at hr'
                 ·split at hr'
                  ·split at hr'
                   ·simp only [Option.some.injEq] at hr'
                    exact .inr (.inr (.inl ⟨_, _, _, _, _, hr'.symm, Zh3 fun x hx => wf.heap _ _ hbx x hx, Zt9 _⟩))
                   ·cases hr'
                  ·cases hr'
                 ·cases hr'
                ·cases hr'
               ·cases hr'
              ·cases hr'
             ·cases hr'
            ·cases hr'
           | src run =>
            have hr' : Zm4 s o.dst run _ = _ := hr'
            unfold Zm4 at hr'
            split at hr'
            ·split at hr'
             ·rename_i hb _
              split at hr'
              ·simp only [Option.some.injEq] at hr'
               refine .inr (.inr (.inr ⟨_, _, _, _, hr'.symm, fun x hx => ?_⟩))
               rcases List.mem_cons.1 hx with rfl | hx
               ·exact ZtT hb
               ·obtain ⟨v, _, rfl⟩ := List.mem_map.1 hx
                exact True.intro
              ·cases hr'
             ·cases hr'
            ·cases hr'
         | invoke x m => rw [hcc] at hr'; cases hr'
         | builtin b =>
          rw [hcc] at hr'
          cases b <;> dsimp only at hr' <;> try (first | (cases hr'; done) | (simp [cls, hcc] at hc; done))
          exfalso
          unfold Z5A at hia
          rw [ho] at hia
          dsimp only at hia
          rw [hcc] at hia
          cases hia
       rcases hform with ⟨d, b, dr, ck, rfl, hbok⟩ | ⟨id, e, z, m, c, ck, v, rfl⟩ | ⟨id, e, cells, ck, v, rfl, hcl, hv⟩ | ⟨d, e, cells, ck, rfl, hcl⟩
       rotate_left
       ·exact ZlO (ZvK (b := .row e z m c) wf fun _ => True.intro) True.intro
       ·exact ZlO (Zti wf hcl) (SVok.grow (Zqy _ _) hv)
       ·refine ZlO (Zti wf hcl) ?_
        show ((s.set (4 * d) (.box e cells)).heap (4 * d)).isSome = true
        rw [Z2r, if_pos rfl]
        rfl
       have hd : WF (s.dropped dr) := by
        cases dr with
        | none => exact wf
        | some id => exact Zwe wf id
       refine ZlO (ZvK hd hbok) ?_
       show ((((s.dropped dr).set (4 * d) b)).heap (4 * d)).isSome = true
       rw [Z2r, if_pos rfl]
       rfl
      ·cases hr
    ·simp only [Option.some.injEq] at hr; subst hr
     exact ZlO wf True.intro
   ·cases hr
 ·exact ZwA hc wf h
theorem Z6e {i : Nat} {l : List Nat} (h : Z3M P S n ops (i :: l) s = some s2) : ∃ o s1, ops[i]? = some o /\ step P S n ops o s = some s1 /\ Z3M P S n ops l s1 = some s2 := by
 simp only [Z3M] at h
 split at h
 ·rename_i o ho
  split at h
  ·rename_i s1 h1
   exact ⟨o, s1, ho, h1, h⟩
  ·cases h
 ·cases h
theorem Zag {i : Nat} {l : List Nat} (ho : ops[i]? = some o) (h1 : step P S n ops o s = some s1) (h2 : Z3M P S n ops l s1 = some s2) : Z3M P S n ops (i :: l) s = some s2 := by
 simp only [Z3M, ho, h1, h2]
theorem Zev : ∀ {l m : List Nat} {s s2 : FSt}, Z3M P S n ops (l ++ m) s = some s2 ↔ ∃ s1, Z3M P S n ops l s = some s1 /\ Z3M P S n ops m s1 = some s2
 | [], m, s, s2 => by simp [Z3M]
 | i :: l, m, s, s2 => by
  constructor
  ·intro h
   obtain ⟨o, s1, ho, h1, h2⟩ := Z6e h
   obtain ⟨s3, h3, h4⟩ := Zev.1 h2
   exact ⟨s3, Zag ho h1 h3, h4⟩
  ·rintro ⟨s3, h3, h4⟩
   obtain ⟨o, s1, ho, h1, h2⟩ := Z6e h3
   exact Zag ho h1 (Zev.2 ⟨s3, h2, h4⟩)
theorem Zra : ∀ {l : List Nat} {s s2 : FSt}, WF s -> Z3M P S n ops l s = some s2 -> WF s2
 | [], s, s2, wf, h => by simp only [Z3M, Option.some.injEq] at h; subst h; exact wf
 | i :: l, s, s2, wf, h => by
  obtain ⟨o, s1, ho, h1, h2⟩ := Z6e h
  exact Zra (Zm5 wf h1) h2
theorem Zic {i : Nat} (ho : ops[i]? = some o) : ∀ {l : List Nat} {s s2 : FSt}, WF s -> (∀ j ∈ l, Comm S ops i j) -> Z3M P S n ops (i :: l) s = some s2 -> ∃ s3, Z3M P S n ops l s = some s3 /\ step P S n ops o s3 = some s2
 | [], s, s2, wf, _, h => by
  obtain ⟨o', s1, ho', h1, h2⟩ := Z6e h
  rw [ho] at ho'
  simp only [Option.some.injEq] at ho'; subst ho'
  simp only [Z3M, Option.some.injEq] at h2; subst h2
  exact ⟨s, rfl, h1⟩
 | j :: l, s, s2, wf, hc, h => by
  obtain ⟨o', s1, ho', h1, h2⟩ := Z6e h
  rw [ho] at ho'
  simp only [Option.some.injEq] at ho'; subst ho'
  obtain ⟨q, s3, hq, h3, h4⟩ := Z6e h2
  obtain ⟨o', q', ho', hq', hcm⟩ := hc j (by simp)
  rw [ho] at ho'; rw [hq] at hq'
  simp only [Option.some.injEq] at ho' hq'; subst ho'; subst hq'
  unfold Zq0 at hcm
  simp only [Bool.and_eq_true, Bool.or_eq_true] at hcm
  obtain ⟨s4, k1, k2⟩ : ∃ s4, step P S n ops q s = some s4 /\ step P S n ops o s4 = some s3 := by
   rcases hcm.2 with h | h
   ·exact Zeu (List.mem_of_getElem? ho) (List.mem_of_getElem? hq) wf hcm.1 (.inl h) h1 h3
   cases hZ : S.z with
   | true =>
    rw [hZ] at h
    exact Zs8 wf hcm.1 h h1 h3
   | false =>
    rw [hZ] at h
    simp only [cond_false, Bool.or_eq_true] at h
    rcases h with h | h | h | h | h
    ·exact Zeu (List.mem_of_getElem? ho) (List.mem_of_getElem? hq) wf hcm.1 (.inr (.inl ⟨hZ, h⟩)) h1 h3
    ·exact Zeu (List.mem_of_getElem? ho) (List.mem_of_getElem? hq) wf hcm.1 (.inr (.inr (.inl ⟨hZ, h⟩))) h1 h3
    ·exact Zeu (List.mem_of_getElem? ho) (List.mem_of_getElem? hq) wf hcm.1 (.inr (.inr (.inr ⟨hZ, h⟩))) h1 h3
    ·exact ZvQ hZ (List.mem_of_getElem? ho) (List.mem_of_getElem? hq) wf hcm.1 h h1 h3
    ·exact Zud hZ (List.mem_of_getElem? hq) wf hcm.1 h h1 h3
  obtain ⟨s5, k3, k4⟩ := Zic ho (Zm5 wf k1) (fun x hx => hc x (by simp [hx])) (Zag ho k2 h4)
  exact ⟨s5, Zag hq k1 k3, k4⟩
theorem Zje {L : Nat -> Bool} : ∀ {l : List Nat} {s s2 : FSt}, WF s -> l.Pairwise (fun i j => L i = false -> L j = true -> Comm S ops i j) -> Z3M P S n ops l s = some s2 -> ∃ s3, Z3M P S n ops (l.filter L) s = some s3
 | [], s, s2, _, _, h => ⟨s, rfl⟩
 | i :: l, s, s2, wf, hp, h => by
  obtain ⟨o, s1, ho, h1, h2⟩ := Z6e h
  obtain ⟨hp1, hp2⟩ := List.pairwise_cons.1 hp
  obtain ⟨s3, h3⟩ := Zje (Zm5 wf h1) hp2 h2
  cases hl : L i with
  | true =>
   rw [List.filter_cons_of_pos hl]
   exact ⟨s3, Zag ho h1 h3⟩
  | false =>
   rw [List.filter_cons_of_neg (by simp [hl])]
   obtain ⟨s4, h4, _⟩ := Zic ho wf (fun j hj => hp1 j ((List.mem_filter.1 hj).1) hl (List.mem_filter.1 hj).2) (Zag ho h1 h3)
   exact ⟨s4, h4⟩
end

theorem Zok {listed : Array Bool} {i : Nat} (h : listed.getD i true = false) : (listed.setIfInBounds i true).toList.count false + 1 = listed.toList.count false := by
 rcases Nat.lt_or_ge i listed.size with hi | hi
 ·have hv : listed[i] = false := by simpa [hi] using h
  have hi' : i < listed.toList.length := by simpa using hi
  have hv' : listed.toList[i] = false := by simpa using hv
  have hc : 0 < listed.toList.count false := List.count_pos_iff.2 (hv' ▸ List.getElem_mem hi')
  rw [Array.toList_setIfInBounds, List.count_set hi', hv']
  rw [if_pos (show (false == false) = true from rfl), if_neg (show ¬ ((true == false) = true) by decide)]
  omega
 ·simp [Array.getElem?_eq_none hi] at h
theorem Zu1 {listed : Array Bool} (h : listed.toList.count false = 0) (j : Nat) : listed.getD j true = true := by
 rcases Nat.lt_or_ge j listed.size with hj | hj
 ·have := List.count_eq_zero.1 h
  cases hv : listed[j]
  ·exact absurd (hv ▸ Array.getElem_mem_toList hj) this
  ·simp [hj, hv]
 ·simp [Array.getElem?_eq_none hj]
theorem ZnR {P : Program} {md : Region.Mode} {ops : Array Oper} {Q : Exit -> Act -> World -> Prop} (Inv : Array Bool -> Act -> World -> Prop)
  (hstep : ∀ (listed : Array Bool) (a : Act) (w : World) (i : Nat), listed.size = ops.size -> i ∈ Region.ready md ops listed -> Inv listed a w -> wpOp P ops Q i (fun a' w' => Inv (listed.setIfInBounds i true) a' w') a w)
  (hend : ∀ (listed : Array Bool) (a : Act) (w : World), listed.size = ops.size -> Region.ready md ops listed = [] -> Inv listed a w -> Q .normal a w) :
  ∀ (fuel : Nat) (listed : Array Bool) (a : Act) (w : World), listed.size = ops.size -> listed.toList.count false <= fuel -> Inv listed a w -> wpAny P md ops Q fuel listed a w
 | 0, listed, a, w, hs, hc, h => by
  have hr : Region.ready md ops listed = [] := by
   apply List.eq_nil_iff_forall_not_mem.2
   intro j hj
   have := (mem_ready.1 hj).1
   rw [Zu1 (by omega) j] at this
   cases this
  exact ⟨hr, hend listed a w hs hr h⟩
 | fuel + 1, listed, a, w, hs, hc, h => by
  refine ⟨fun hr => hend listed a w hs hr h, fun i hi => ?_⟩
  have hcount := Zok (mem_ready.1 hi).1
  exact wpOp_mono (fun a' w' h' => ZnR Inv hstep hend fuel _ a' w' (by simpa using hs) (by omega) h') (hstep listed a w i hs hi h)
theorem ZnK (m j : Nat) : (Array.replicate m false).getD j false = false := by
 rcases Nat.lt_or_ge j m with h | h <;> simp [h]
section
variable {P : Program} {S : Sums} {W : World} {M : MV} {n : Nat} {s s1 s2 : FSt} {a : Act} {w w' : World} {ρ ρ' : Nat -> Value} {o : Oper} {r : Out} {ops : List Oper} {Q : Exit -> Act -> World -> Prop} {K : Act -> World -> Prop}
theorem Zuh (h : R P W M n s a w ρ) {x : Bool} (hw : Z3F ops s o = some x) : Region.wanted o (yielded ops.toArray a.tmps) = x := by
 unfold Z3F at hw
 unfold Region.wanted
 split at hw
 ·rename_i hg
  rw [hg]
  simpa using hw
 ·rename_i j want hg
  rw [hg]
  split at hw
  ·rename_i q hq
   split at hw
   ·rename_i d hd
    have hr := h.slots d
    have hy : yielded ops.toArray a.tmps j = match a.tmps[d]? with | some (.bool b) => some b | _ => none := by
     unfold yielded
     rw [show (ops.toArray[j]?).bind (·.dst) = some d by simp [hq, hd]]
     rfl
    dsimp only
    rw [hy]
    split at hw
    ·rename_i b hs
     rw [hs] at hr
     have hr : a.tmps.getD d undef = .bool b := hr
     simp only [Option.some.injEq] at hw
     have : a.tmps[d]? = some (.bool b) := by
      cases hd : a.tmps[d]? with
      | none =>
       rw [Array.getD_eq_getD_getElem?, hd] at hr
       cases hr
      | some v =>
       rw [Array.getD_eq_getD_getElem?, hd] at hr
       rw [show v = .bool b from hr]
     rw [this]
     rw [<- hw]
     simp
    ·rename_i t hs
     rw [hs] at hr
     have hr : a.tmps.getD d undef = .tuple t := hr
     simp only [Option.some.injEq] at hw
     subst hw
     cases hd : a.tmps[d]? with
     | none => rfl
     | some v =>
      rw [Array.getD_eq_getD_getElem?, hd] at hr
      rw [show v = .tuple t from hr]
      rfl
    ·cases hw
   ·cases hw
  ·cases hw
theorem Zr9 (hS : Z6w P S W M) (h : R P W M n s a w ρ) (hst : step P S n ops o s = some s1) (hK : ∀ a' w' ρ', R P W M n s1 a' w' ρ' -> K a' w') :
  if Region.wanted o (yielded ops.toArray a.tmps) = true then o.wp P a w K Q \/ (o.asks P a w /\ LetsOut Q) else K (a.put o.dst undef) w := by
 obtain ⟨r, hr, hf, rfl⟩ := Z6d hst
 unfold Z0H at hr
 split at hr
 ·cases hr
 ·rename_i x hw
  rw [Zuh h hw]
  split at hr
  ·rename_i hd
   split at hr
   ·rename_i hx
    rw [if_pos hx]
    split at hr
    ·cases hr
    ·rename_i r' hr'
     split at hr
     ·rename_i Z0t
      simp only [Option.some.injEq] at hr; subst hr
      exact .inl (Oper.wp_mono (fun a' w' ⟨ρ', hR⟩ => hK a' w' ρ' hR) (Zxj (Q := Q) hS h hd hr' (ZgD Z0t).1 hf))
     ·cases hr
   ·rename_i hx
    rw [if_neg hx]
    simp only [Option.some.injEq] at hr; subst hr
    exact hK _ _ ρ (h.put hd (.inr rfl))
  ·cases hr
theorem Zt7 (hS : Z6w P S W M) : ∀ {l : List Nat} {s s2 : FSt} {a : Act} {w : World} {ρ : Nat -> Value}, R P W M n s a w ρ -> Z3M P S n ops l s = some s2 -> (∀ a' w' ρ', R P W M n s2 a' w' ρ' -> Q .normal a' w') -> wpOps P ops.toArray Q l a w
 | [], s, s2, a, w, ρ, h, hst, hQ => by
  simp only [Z3M, Option.some.injEq] at hst; subst hst
  exact hQ a w ρ h
 | i :: l, s, s2, a, w, ρ, h, hst, hQ => by
  obtain ⟨o, s1, ho, h1, h2⟩ := Z6e hst
  rw [wpOps_cons]
  unfold wpOp
  rw [show ops.toArray[i]? = some o by simpa using ho]
  exact Zr9 hS h h1 fun a' w' ρ' hR => Zt7 hS hR h2 hQ
theorem ZfQ {α : Type} {p q : α -> Bool} : ∀ {l : List α}, (∀ x ∈ l, p x = q x) -> l.filter p = l.filter q
 | [], _ => rfl
 | x :: l, h => by
  simp only [List.filter_cons]
  rw [h x (by simp), ZfQ fun y hy => h y (by simp [hy])]
theorem ZvV (hS : Z6w P S W M) (hok : ZnJ S ops = true) {s0 sN : FSt} (hfull : Z3M P S n ops (List.range ops.length) s0 = some sN) (hR0 : R P W M n s0 a w ρ) (hQ : ∀ a' w' ρ', R P W M n sN a' w' ρ' -> Q .normal a' w') :
  wpAny P .any ops.toArray Q ops.toArray.size (Array.replicate ops.toArray.size false) a w := by
 have hord : ordB 0 ops = true := by unfold ZnJ at hok; simp only [Bool.and_eq_true] at hok; exact hok.1
 let L (listed : Array Bool) : Nat -> Bool := fun j => listed.getD j false
 refine ZnR (fun listed a w => Closed ops (L listed) /\ ∃ s ρ, Z3M P S n ops ((List.range ops.length).filter (L listed)) s0 = some s /\ R P W M n s a w ρ) ?_ ?_ _ _ _ _ (by simp) ?_ ?_
 ·intro listed a w i hs hi ⟨hcl, s, ρ, hst, hR⟩
  obtain ⟨hn, o, ho, hdeps⟩ := mem_ready.1 hi
  have ho' : ops[i]? = some o := by simpa using ho
  have hin : i < ops.length := (List.getElem?_eq_some_iff.1 ho').1
  have hsz : listed.size = ops.length := by simpa using hs
  have hLi : L listed i = false := by
   show listed.getD i false = false
   have hil : i < listed.size := by omega
   simp [hil] at hn ⊢
   exact hn
  have hL' : ∀ j, L (listed.setIfInBounds i true) j = (j == i || L listed j) := by
   intro j
   show (listed.setIfInBounds i true).getD j false = _
   by_cases e : j = i
   ·subst e
    have hil : j < listed.size := by omega
    simp [hil]
   ·have : (j == i) = false := by simpa using e
    rw [this, Bool.false_or]
    show _ = listed.getD j false
    simp only [Array.getD_eq_getD_getElem?, Array.getElem?_setIfInBounds_ne (fun h => e h.symm)]
  have hcl' : Closed ops (L (listed.setIfInBounds i true)) := by
   intro j q hq hl e he hb
   rw [hL'] at hl ⊢
   rw [Bool.or_eq_true] at hl ⊢
   rcases hl with hl | hl
   ·have : j = i := by simpa using hl
    subst this
    rw [ho'] at hq
    simp only [Option.some.injEq] at hq; subst hq
    exact .inr (hdeps e he hb)
   ·exact .inr (hcl j q hq hl e he hb)
  have hwf0 : WF s0 := hR0.wf
  have hpw : (List.range ops.length).Pairwise (fun i j => L (listed.setIfInBounds i true) i = L (listed.setIfInBounds i true) i) := by
   exact List.pairwise_lt_range.imp fun _ => rfl
  have hpw : (List.range ops.length).Pairwise (fun x y => L (listed.setIfInBounds i true) x = false -> L (listed.setIfInBounds i true) y = true -> Comm S ops x y) := by
   refine List.Pairwise.imp_of_mem (fun {x y} hx hy hxy hlx hly => Zsv hok hcl' hxy (by simpa using hy) hlx hly) List.pairwise_lt_range
  obtain ⟨u, hu⟩ := Zje hwf0 hpw hfull
  have hsplit : List.range ops.length = List.range i ++ i :: List.range' (i + 1) (ops.length - i - 1) := by
   rw [List.range_eq_range', List.range_eq_range', show ops.length = i + (1 + (ops.length - i - 1)) from by omega, <- List.range'_append, <- List.range'_append]
   simp [List.range'_succ]
  have e1 : (List.range ops.length).filter (L (listed.setIfInBounds i true)) = (List.range i).filter (L listed) ++ i :: (List.range' (i + 1) (ops.length - i - 1)).filter (L listed) := by
   rw [hsplit, List.filter_append, List.filter_cons_of_pos (by rw [hL']; simp)]
   congr 1
   ·refine ZfQ fun x hx => ?_
    rw [hL']
    have : x ≠ i := by have := List.mem_range.1 hx; omega
    simp [this]
   ·congr 1
    refine ZfQ fun x hx => ?_
    rw [hL']
    have : x ≠ i := by have := (List.mem_range'_1.1 hx).1; omega
    simp [this]
  have e2 : (List.range ops.length).filter (L listed) = (List.range i).filter (L listed) ++ (List.range' (i + 1) (ops.length - i - 1)).filter (L listed) := by
   rw [hsplit, List.filter_append, List.filter_cons_of_neg (by rw [hLi]; simp)]
  have hu0 := hu
  rw [e1] at hu
  obtain ⟨v, hv, hu⟩ := Zev.1 hu
  obtain ⟨x, hx, hxu⟩ := Zic ho' (Zra hwf0 hv) (fun j hj => by
   obtain ⟨hj1, hj2⟩ := List.mem_filter.1 hj
   have hj3 := List.mem_range'_1.1 hj1
   exact Zsv hok hcl (by omega) (by omega) hLi hj2) hu
  have hsx : s = x := by
   have : Z3M P S n ops ((List.range ops.length).filter (L listed)) s0 = some x := by
    rw [e2]; exact Zev.2 ⟨v, hv, hx⟩
   rw [hst] at this
   simpa using this
  subst hsx
  unfold wpOp
  rw [show ops.toArray[i]? = some o by simpa using ho']
  exact Zr9 hS hR hxu fun a' w' ρ' hR' => ⟨hcl', u, ρ', hu0, hR'⟩
 ·intro listed a w hs hr ⟨hcl, s, ρ, hst, hR⟩
  have hall : ∀ j, j < ops.length -> L listed j = true := by
   intro j
   induction j using Nat.strongRecOn with
   | _ j ih =>
    intro hj
    cases hl : L listed j with
    | true => rfl
    | false =>
     have hjs : j < listed.size := by rw [hs]; simpa using hj
     have : j ∈ Region.ready .any ops.toArray listed := mem_ready.2 ⟨by
      have hl' : listed.getD j false = false := hl
      simp [hjs] at hl' ⊢; exact hl', ops[j], by simp [hj], fun e he hb => by
      have := Zu4 hord (j := j) (o := ops[j]) (by simp [hj]) e he hb
      exact ih e.on (by omega) (by omega)⟩
     rw [hr] at this
     cases this
  have : (List.range ops.length).filter (L listed) = List.range ops.length := by
   rw [List.filter_eq_self]
   intro j hj
   exact hall j (by simpa using hj)
  rw [this, hfull] at hst
  simp only [Option.some.injEq] at hst; subst hst
  exact hQ a w ρ hR
 ·simp
 ·refine ⟨fun j o ho hl => ?_, s0, ρ, ?_, hR0⟩
  ·exfalso
   have : (Array.replicate ops.toArray.size false).getD j false = true := hl
   rw [ZnK] at this
   cases this
  ·have : (List.range ops.length).filter (L (Array.replicate ops.toArray.size false)) = [] := by
    rw [List.filter_eq_nil_iff]
    intro j hj
    show ¬ (Array.replicate ops.toArray.size false).getD j false = true
    rw [ZnK]
    simp
   rw [this]
   rfl
theorem Zs5 (hS : Z6w P S W M) (hm : P.follows .mixedOrders = true) {id : Nat} {opsA : Array Oper} {draw : Bool} (hok : draw = true -> ZnJ S opsA.toList = true) {sN : FSt} (hfull : Z3M P S n opsA.toList (List.range opsA.toList.length) s = some sN) (hR : R P W M n s a w ρ) (hQ : ∀ a' w' ρ', R P W M n sN a' w' ρ' -> Q .normal a' w') :
  (Code.region id opsA draw).wp P Q a w := by
 cases draw with
 | false =>
  refine wp_region ?_
  have := Zt7 (Q := Q) hS hR hfull hQ
  simpa using this
 | true =>
  refine wp_region_any hm ?_
  have := ZvV (Q := Q) hS (hok rfl) hfull (hR.ext (w' := { w with drawn := w.drawn + 1 }) ⟨rfl, rfl, rfl, Nat.le_refl _, fun _ _ _ => rfl⟩) hQ
  simpa using this
theorem ZvT {r : Out} {v : SV} (h : r.v = v) : ({ r with v := v } : Out) = r := by subst h; rfl
theorem ZlQ {α : Type} {k : FSt -> Option α} {x : α} : ∀ {l : List Oper} {i : Nat} {s : FSt}, (∀ j o, l[j]? = some o -> ops[i + j]? = some o) -> regK P S n ops i l s k = some x -> ∃ s', Z3M P S n ops (List.range' i l.length) s = some s' /\ k s' = some x
 | [], i, s, _, h => ⟨s, rfl, h⟩
 | o :: l, i, s, ho, h => by
  have ho0 : ops[i]? = some o := by simpa using ho 0 o (by simp)
  have hol : ∀ j q, l[j]? = some q -> ops[i + 1 + j]? = some q := fun j q hq => by
   have := ho (j + 1) q (by simpa using hq)
   rwa [show i + (j + 1) = i + 1 + j from by omega] at this
  have fin : ∀ s1, step P S n ops o s = some s1 -> regK P S n ops (i + 1) l s1 k = some x -> ∃ s', Z3M P S n ops (List.range' i (o :: l).length) s = some s' /\ k s' = some x := by
   intro s1 h1 h2
   obtain ⟨s', h3, h4⟩ := ZlQ hol h2
   refine ⟨s', ?_, h4⟩
   rw [List.length_cons, List.range'_succ]
   exact Zag ho0 h1 h3
  simp only [regK] at h
  split at h
  ·cases h
  ·rename_i b hw
   split at h
   ·rename_i hd
    split at h
    ·rename_i hb
     split at h
     ·cases h
     ·rename_i r hr
      split at h
      ·rename_i Z0t
       split at h
       ·rename_i hf
        have hst : step P S n ops o s = some (s.apply o.dst r) := by
         refine Z8w ?_ hf
         unfold Z0H
         rw [hw]
         simp only [hd, hb, if_true, hr, Z0t]
        split at h
        ·rename_i b' hg hv
         split at h
         ·rename_i hb'
          subst hb'
          have : ({ r with v := .val (.bool true) } : Out) = r := ZvT hv
          rw [this] at h
          exact fin _ hst h
         ·rename_i hb'
          have hb'' : b' = false := by simpa using hb'
          subst hb''
          have : ({ r with v := .val (.bool false) } : Out) = r := ZvT hv
          rw [this] at h
          exact fin _ hst h
        ·exact fin _ hst h
       ·cases h
      ·cases h
    ·rename_i hb
     have hb' : b = false := by simpa using hb
     subst hb'
     have hst : step P S n ops o s = some (s.put o.dst (.val undef)) := by
      refine Z8w (r := .pure true (.val undef)) ?_ rfl
      unfold Z0H
      rw [hw]
      simp only [hd, if_true, Bool.false_eq_true, if_false]
     exact fin _ hst h
   ·cases h
end

section
variable {P : Program} {S : Sums} {W : World} {M : MV} {n : Nat} {s s1 s2 : FSt} {a : Act} {w w' : World} {ρ ρ' : Nat -> Value} {H H' : Nat -> Option Blk}
theorem Zki {l : List Nat} {i : Nat} : l.any (Nat.beq i) = true ↔ i ∈ l := by
 rw [List.any_eq_true]
 constructor
 ·rintro ⟨j, hj, e⟩
  rw [neq e]
  exact hj
 ·intro h
  exact ⟨i, h, by simp⟩
theorem ZlE {l : List Nat} (hl : ∀ id, id ∈ l -> (H id).isSome = true -> (H' id).isSome = true) {x : SV} {v : Value} (h : Rel P W M ρ H x v) : Rel P W M ρ H' (Z8d l x) v := by
 cases x with
 | val y => exact h
 | ptr i o =>
  simp only [Z8d]
  cases hb : l.any (Nat.beq i) with
  | true => exact ⟨hl i (Zki.1 hb) h.1, h.2⟩
  | false => exact True.intro
 | row i =>
  simp only [Z8d]
  cases hb : l.any (Nat.beq i) with
  | true => exact ⟨hl i (Zki.1 hb) h.1, h.2⟩
  | false => exact True.intro
 | sub i o m z =>
  simp only [Z8d]
  cases hb : l.any (Nat.beq i) with
  | true => exact ⟨hl i (Zki.1 hb) h.1, h.2⟩
  | false => exact True.intro
 | clo f q =>
  simp only [Z8d]
  cases hb : q.all (fun i => l.any (Nat.beq i)) with
  | true =>
   obtain ⟨vs, h1, h2⟩ := h
   exact ⟨vs, h1, h2.memMono fun i hi b hc => ⟨hl i (Zki.1 (List.all_eq_true.1 hb i hi)) hc.1, hc.2⟩⟩
  | false => exact True.intro
 | fn g => exact h
 | tup q => exact True.intro
 | agr q => exact True.intro
 | junk => exact h
theorem ZnE (l : List Nat) (b : Blk) : ownB (ZcK l b) = ownB b := by cases b <;> rfl
theorem ZtQ (l : List Nat) (w : World) (v : Value) (b : Blk) (g : Nat) : Held w v (ZcK l b) g = Held w v b g := by cases b <;> rfl
theorem ZqA (i j : Nat) (w : World) (v : Value) (b : Blk) (g : Nat) : Held w v (renB i j b) g = Held w v b g := by cases b <;> rfl
theorem ZtU {l : List Nat} (hl : ∀ id, id ∈ l -> (H id).isSome = true -> (H' id).isSome = true) {i : Nat} {b : Blk} (k : BRel P W M w ρ H i b) : BRel P W M w ρ H' i (ZcK l b) := by
 cases b with
 | box e cells =>
  obtain ⟨g, cs, h1, h2, h3, h4⟩ := k
  exact ⟨g, cs, h1, h2, h3, h4.mapBoth fun x y (k : Rel P W M ρ H x y) => ZlE hl k⟩
 | row e sz m c => exact k
 | ros m c => exact k
 | fro fr m c => exact k
 | dee own fr e ls => exact k
 | rop cells =>
  obtain ⟨g, o, h1, h2, h3⟩ := k
  refine ⟨g, o, h1, h2, fun j v hv => ?_⟩
  rw [List.getElem?_map] at hv
  cases hc : cells[j]? with
  | none => rw [hc] at hv; cases hv
  | some x =>
   rw [hc] at hv
   obtain rfl : Z8d l x = v := by simpa using hv
   obtain ⟨u, hu, hr⟩ := h3 j x hc
   exact ⟨u, hu, ZlE hl hr⟩
theorem ZlH (H : Nat -> Option Blk) (f : Blk -> Blk) : ∀ (l : List Nat) (x : Nat), look ((Z7F H l).map fun p => (p.1, f p.2)) x = if x ∈ l then (H x).map f else none
 | [], x => rfl
 | i :: l, x => by
  simp only [Z7F]
  cases hi : H i with
  | none =>
   simp only
   rw [ZlH H f l x]
   by_cases e : x = i
   ·subst e
    simp [hi]
   ·simp [e]
  | some b =>
   simp only [List.map_cons, look]
   by_cases e : x = i
   ·subst e
    simp [hi]
   ·rw [nbeq e, cond_false, ZlH H f l x]
    simp [e]
theorem R.keep (h : R P W M n s a w ρ) (l : List Nat) {sl : List SV} (hs : ∀ t x, sl[t]? = some x -> x = .junk \/ x = Z8d l (s.slot t)) (h0 : ∀ v, M = some v -> 0 ∈ l /\ ∀ u, v.2 = some u -> 1 ∈ l) :
  R P W M n (Tab.st ⟨sl, (Z7F s.heap l).map fun p => (p.1, ZcK l p.2)⟩) a w ρ := by
 have hh : ∀ x, (Tab.st ⟨sl, (Z7F s.heap l).map fun p => (p.1, ZcK l p.2)⟩).heap x = if x ∈ l then (s.heap x).map (ZcK l) else none := ZlH s.heap (ZcK l) l
 have hl : ∀ id, id ∈ l -> (s.heap id).isSome = true -> ((Tab.st ⟨sl, (Z7F s.heap l).map fun p => (p.1, ZcK l p.2)⟩).heap id).isSome = true := by
  intro id hid hsome
  rw [hh, if_pos hid]
  simpa using hsome
 have hinv : ∀ id b, (Tab.st ⟨sl, (Z7F s.heap l).map fun p => (p.1, ZcK l p.2)⟩).heap id = some b -> ∃ b0, s.heap id = some b0 /\ b = ZcK l b0 := by
  intro id b hb
  rw [hh] at hb
  split at hb
  ·cases hs : s.heap id with
   | none => rw [hs] at hb; cases hb
   | some b0 => rw [hs] at hb; exact ⟨b0, rfl, by simpa using hb.symm⟩
  ·cases hb
 refine ⟨h.grown, h.size, h.defers, fun t => ?_, fun id b hb => ?_, fun i j bi bj g hij hi hj oi oj gi => ?_, fun i bi g hi hh j bj hj oj => ?_, fun v hv => ⟨(h.fix v hv).1, ⟨hl 0 (h0 v hv).1 (h.fix v hv).2.1.1, (h.fix v hv).2.1.2⟩, fun u hu => ⟨hl 1 ((h0 v hv).2 u hu) ((h.fix v hv).2.2 u hu).1, ((h.fix v hv).2.2 u hu).2⟩⟩⟩
 ·show Rel P W M ρ _ (sl.getD t .junk) _
  rw [List.getD_eq_getElem?_getD]
  cases ht : sl[t]? with
  | none => exact True.intro
  | some x =>
   rcases hs t x ht with rfl | rfl
   ·exact True.intro
   ·exact ZlE hl (h.slots t)
 ·obtain ⟨b0, hb0, rfl⟩ := hinv id b hb
  exact ZtU hl (h.heap id b0 hb0)
 ·obtain ⟨b0, hb0, rfl⟩ := hinv i bi hi
  obtain ⟨b1, hb1, rfl⟩ := hinv j bj hj
  rw [ZnE] at oi oj
  exact h.apart i j b0 b1 g hij hb0 hb1 oi oj gi
 ·obtain ⟨b0, hb0, rfl⟩ := hinv i bi hi
  obtain ⟨b1, hb1, rfl⟩ := hinv j bj hj
  rw [ZnE] at oj
  rw [ZtQ] at hh
  exact h.froz i b0 g hb0 hh j b1 hb1 oj
theorem Zl0 (H : Nat -> Option Blk) : ∀ (l : List Nat), Z7F H ((Z7F H l).map (·.1)) = Z7F H l
 | [] => rfl
 | i :: l => by
  simp only [Z7F]
  cases hi : H i with
  | none => exact Zl0 H l
  | some b =>
   simp only [List.map_cons, Z7F, hi]
   rw [Zl0 H l]
theorem ZrO (s : FSt) (ap : List Nat) (i : Nat) (x : SV) : ZgV s ap i x = .junk \/ ZgV s ap i x = x := by
 cases x with
 | row b =>
  unfold ZgV
  dsimp only
  cases ZwV s.heap b with
  | false => exact .inr rfl
  | true =>
   cases ap.find? fun j => ZsI b (s.slot j) with
   | none => exact .inr rfl
   | some j =>
    cases h : Nat.beq i j with
    | true => exact .inr (by simp only [cond_true, h])
    | false => exact .inl (by simp only [cond_true, h, cond_false])
 | _ => exact .inr rfl
theorem Zko {H : Nat -> Option Blk} {x : Nat} (hs : (H x).isSome = true) : ∀ {l : List Nat}, x ∈ l -> x ∈ (Z7F H l).map (·.1)
 | i :: l, hx => by
  simp only [Z7F]
  cases hi : H i with
  | none =>
   rcases List.mem_cons.1 hx with rfl | hx
   ·rw [hi] at hs; cases hs
   ·exact Zko hs hx
  | some b =>
   rcases List.mem_cons.1 hx with rfl | hx
   ·simp
   ·simp only [List.map_cons, List.mem_cons]
    exact .inr (Zko hs hx)
theorem Zsq {i : Nat} {l : List Nat} (h : l.any (Nat.beq i) = true) : i ∈ l := by
 obtain ⟨x, hx, h0⟩ := List.any_eq_true.1 h
 have := Nat.eq_of_beq_eq_true h0
 subst this
 exact hx
theorem ZqF (l : List Nat) : 0 ∈ Zkn l /\ 1 ∈ Zkn l := by
 unfold Zkn
 have h0 : 0 ∈ (bif l.any (Nat.beq 0) then l else 0 :: l) := by
  cases h : l.any (Nat.beq 0) with
  | true => exact Zsq h
  | false => exact List.mem_cons_self
 dsimp only
 generalize (bif l.any (Nat.beq 0) then l else 0 :: l) = m at h0
 cases h : m.any (Nat.beq 1) with
 | true => exact ⟨h0, Zsq h⟩
 | false => exact ⟨List.mem_cons_of_mem _ h0, List.mem_cons_self⟩
theorem R.tab (h : R P W M n s a w ρ) (ap : List Nat) : R P W M n (s.tab ap n).st a w ρ := by
 have := h.keep ((Z7F s.heap (List.range (4 * n))).map (·.1)) (sl := (List.range n).map fun i => ZgV s ap i (Z8d ((Z7F s.heap (List.range (4 * n))).map (·.1)) (s.slot i))) fun t x hx => by
  rw [List.getElem?_map] at hx
  cases ht : (List.range n)[t]? with
  | none => rw [ht] at hx; cases hx
  | some j =>
   rw [ht] at hx
   have : j = t := by
    have := List.getElem?_eq_some_iff.1 ht
    obtain ⟨h1, h2⟩ := this
    simp at h2
    exact h2.symm
   subst this
   simp only [Option.map_some, Option.some.injEq] at hx
   subst hx
   exact ZrO s ap j _
 have this := this fun v hv => ⟨Zko (h.fix v hv).2.1.1 (List.mem_range.2 (by have := (h.fix v hv).1; omega)), fun u hu => Zko ((h.fix v hv).2.2 u hu).1 (List.mem_range.2 (by have := (h.fix v hv).1; omega))⟩
 rw [Zl0] at this
 exact this
theorem R.mv (h : R P W M n s a w ρ) (i j : Nat) (hi0 : i ≠ 0 /\ i ≠ 1) {B : Blk} (hi : s.heap i = some B) (hj : s.heap j = none) (hB : (∃ e z m c, B = .row e z m c) \/ ∃ own fr e ls, B = .dee own fr e ls) : ∃ ρ', R P W M n (s.mv i j B) a w ρ' := by
 ·refine ⟨fun x => if x = j then ρ i else ρ x, ?_⟩
  have hij : i ≠ j := by rintro rfl; rw [hi] at hj; cases hj
  let s' : FSt := { slot := fun t => Za7 i j (s.slot t), heap := fun x => bif Nat.beq x j then some B else bif Nat.beq x i then none else match s.heap x with | some q => some (renB i j q) | none => none }
  have hheap : ∀ x, s'.heap x = if x = j then some B else if x = i then none else (s.heap x).map (renB i j) := by
   intro x
   show (bif Nat.beq x j then _ else _) = _
   by_cases e1 : x = j
   ·subst e1; simp
   ·rw [nbeq e1, if_neg e1, cond_false]
    by_cases e2 : x = i
    ·subst e2; simp
    ·rw [nbeq e2, if_neg e2, cond_false]
     cases s.heap x <;> rfl
  have live : ∀ x, x ≠ i -> (s.heap x).isSome = true -> (s'.heap x).isSome = true /\ x ≠ j := by
   intro x hx hs
   have hxj : x ≠ j := by rintro rfl; rw [hj] at hs; cases hs
   rw [hheap, if_neg hxj, if_neg hx]
   exact ⟨by simpa using hs, hxj⟩
  have hrel : ∀ {x : SV} {v : Value}, Rel P W M ρ s.heap x v -> Rel P W M (fun x => if x = j then ρ i else ρ x) s'.heap (Za7 i j x) v := by
   intro x v k
   cases x with
   | val y => exact k
   | row b =>
    by_cases e : b = i
    ·subst e
     simp only [Za7, show Nat.beq b b = true by simp, cond_true]
     refine ⟨?_, ?_⟩
     ·rw [hheap, if_pos rfl]; rfl
     ·simp only [if_true]; exact k.2
    ·simp only [Za7, nbeq e, cond_false]
     obtain ⟨l1, l2⟩ := live b e k.1
     exact ⟨l1, by simp only [if_neg l2]; exact k.2⟩
   | ptr b o =>
    by_cases e : b = i
    ·subst e
     simp only [Za7, show Nat.beq b b = true by simp, cond_true]
     exact True.intro
    ·simp only [Za7, nbeq e, cond_false]
     obtain ⟨l1, l2⟩ := live b e k.1
     exact ⟨l1, by simp only [if_neg l2]; exact k.2⟩
   | sub b o m' z' =>
    by_cases e : b = i
    ·subst e
     simp only [Za7, show Nat.beq b b = true by simp, cond_true]
     exact True.intro
    ·simp only [Za7, nbeq e, cond_false]
     obtain ⟨l1, l2⟩ := live b e k.1
     exact ⟨l1, by simp only [if_neg l2]; exact k.2⟩
   | clo f l =>
    simp only [Za7]
    cases hb : l.any (Nat.beq i) with
    | true => exact True.intro
    | false =>
     obtain ⟨vs, h1, h2⟩ := k
     refine ⟨vs, h1, h2.memMono fun x hx b hc => ?_⟩
     obtain ⟨l1, l2⟩ := live x (Zog hb hx) hc.1
     exact ⟨l1, by simp only [if_neg l2]; exact hc.2⟩
   | fn g => exact k
   | tup l =>
    simp only [Za7]
    cases hb : Z6x i l with
    | true => exact True.intro
    | false =>
     obtain ⟨vs, h1, h2⟩ := k
     refine ⟨vs, h1, h2.memMono fun x hx b hc => ?_⟩
     cases x with
     | v y => exact hc
     | r y =>
      have hy : y ≠ i := by
       rintro rfl
       have := List.any_eq_false.1 hb _ hx
       simp at this
      obtain ⟨l1, l2⟩ := live y hy hc.1
      exact ⟨l1, by simp only [if_neg l2]; exact hc.2⟩
   | agr l =>
    simp only [Za7]
    cases hb : Z6x i l with
    | true => exact True.intro
    | false =>
     obtain ⟨vs, h1, h2⟩ := k
     refine ⟨vs, h1, h2.memMono fun x hx b hc => ?_⟩
     cases x with
     | v y => exact hc
     | r y =>
      have hy : y ≠ i := by
       rintro rfl
       have := List.any_eq_false.1 hb _ hx
       simp at this
      obtain ⟨l1, l2⟩ := live y hy hc.1
      exact ⟨l1, by simp only [if_neg l2]; exact hc.2⟩
   | junk => exact k
  have hinv : ∀ x b, s'.heap x = some b -> (x = j /\ b = B) \/ (x ≠ j /\ x ≠ i /\ ∃ b0, s.heap x = some b0 /\ b = renB i j b0) := by
   intro x b hb
   rw [hheap] at hb
   split at hb
   ·rename_i e1
    exact .inl ⟨e1, by simpa using hb.symm⟩
   ·rename_i e1
    split at hb
    ·cases hb
    ·rename_i e2
     cases hs : s.heap x with
     | none => rw [hs] at hb; cases hb
     | some b0 => rw [hs] at hb; exact .inr ⟨e1, e2, b0, rfl, by simpa using hb.symm⟩
  have hown : ∀ b, ownB (renB i j b) = ownB b := fun b => by cases b <;> rfl
  refine (show R P W M n s' a w _ from ⟨h.grown, h.size, h.defers, fun t => hrel (h.slots t), fun x b hb => ?_, fun x y bx by_ g hxy hx hy ox oy gx => ?_, fun x bx g hx hh y by_ hy oy gy => ?_, fun v hv => ⟨(h.fix v hv).1, ⟨(live 0 (Ne.symm hi0.1) (h.fix v hv).2.1.1).1, (if_neg (live 0 (Ne.symm hi0.1) (h.fix v hv).2.1.1).2).trans (h.fix v hv).2.1.2⟩, fun u hu => ⟨(live 1 (Ne.symm hi0.2) ((h.fix v hv).2.2 u hu).1).1, (if_neg (live 1 (Ne.symm hi0.2) ((h.fix v hv).2.2 u hu).1).2).trans ((h.fix v hv).2.2 u hu).2⟩⟩⟩)
  ·rcases hinv x b hb with ⟨rfl, rfl⟩ | ⟨h1, h2, b0, hb0, rfl⟩
   ·have k := h.heap i _ hi
    rcases hB with ⟨e, z, m, c, rfl⟩ | ⟨own, fr, e, ls, rfl⟩ <;> (simp only [BRel, if_true] at k ⊢; exact k)
   ·have k := h.heap x b0 hb0
    cases b0 with
    | box e' cells =>
     obtain ⟨g, cs, k1, k2, k3, k4⟩ := k
     exact ⟨g, cs, by simp only [if_neg h1]; exact k1, k2, k3, k4.mapBoth fun x y (q : Rel P W M ρ s.heap x y) => hrel q⟩
    | row e' z' m' c' => exact ⟨k.1, by simp only [if_neg h1]; exact k.2.1, by simp only [if_neg h1]; exact k.2.2⟩
    | ros m' c' => simp only [renB, BRel, if_neg h1] at k ⊢; exact k
    | fro fr' m' c' => simp only [renB, BRel, if_neg h1] at k ⊢; exact k
    | dee own' fr' e' ls' => simp only [renB, BRel, if_neg h1] at k ⊢; exact k
    | rop cells =>
     obtain ⟨g, o, k1, k2, k3⟩ := k
     refine ⟨g, o, by simp only [if_neg h1]; exact k1, k2, fun t v hv => ?_⟩
     rw [List.getElem?_map] at hv
     cases hc : cells[t]? with
     | none => rw [hc] at hv; cases hv
     | some x =>
      rw [hc] at hv
      obtain rfl : Za7 i j x = v := by simpa using hv
      obtain ⟨u, hu, hr⟩ := k3 t x hc
      exact ⟨u, hu, hrel hr⟩
  ·rcases hinv x bx hx with ⟨rfl, rfl⟩ | ⟨x1, x2, b0, hb0, rfl⟩ <;> rcases hinv y by_ hy with ⟨rfl, rfl⟩ | ⟨y1, y2, b1, hb1, rfl⟩
   ·exact absurd rfl hxy
   ·simp only [if_true] at gx
    simp only [if_neg y1]
    rw [hown] at oy
    exact h.apart i y _ b1 g (Ne.symm y2) hi hb1 ox oy gx
   ·simp only [if_true]
    simp only [if_neg x1] at gx
    rw [hown] at ox
    exact h.apart x i b0 _ g x2 hb0 hi ox oy gx
   ·simp only [if_neg x1] at gx
    simp only [if_neg y1]
    rw [hown] at ox oy
    exact h.apart x y b0 b1 g hxy hb0 hb1 ox oy gx
  ·rcases hinv x bx hx with ⟨rfl, rfl⟩ | ⟨x1, x2, b0, hb0, rfl⟩ <;> rcases hinv y by_ hy with ⟨rfl, rfl⟩ | ⟨y1, y2, b1, hb1, rfl⟩
   ·simp only [if_true] at hh gy
    exact h.froz i _ g hi hh i _ hi oy gy
   ·simp only [if_true] at hh
    simp only [if_neg y1] at gy
    rw [hown] at oy
    exact h.froz i _ g hi hh y b1 hb1 oy gy
   ·simp only [if_neg x1] at hh
    simp only [if_true] at gy
    rw [ZqA] at hh
    exact h.froz x b0 g hb0 hh i _ hi oy gy
   ·simp only [if_neg x1] at hh
    simp only [if_neg y1] at gy
    rw [ZqA] at hh
    rw [hown] at oy
    exact h.froz x b0 g hb0 hh y b1 hb1 oy gy
theorem R.ren (h : R P W M n s a w ρ) (i j : Nat) (hi0 : i ≠ 0 /\ i ≠ 1) : ∃ ρ', R P W M n (s.ren i j) a w ρ' := by
 unfold FSt.ren
 split
 ·rename_i hi hj; exact h.mv i j hi0 hi hj (.inl ⟨_, _, _, _, rfl⟩)
 ·rename_i hi hj; exact h.mv i j hi0 hi hj (.inr ⟨_, _, _, _, rfl⟩)
 ·exact ⟨ρ, h⟩
theorem R.renOne (h : R P W M n s a w ρ) (x : SV) (i : Nat) : ∃ ρ', R P W M n (renOne x i s) a w ρ' := by
 unfold Ytfclaacaphpoaaa.renOne
 split
 ·split
  ·rename_i b _ a0 _
   cases hb : Nat.beq a0 b || Nat.ble a0 1 with
   | true => exact ⟨ρ, h⟩
   | false =>
    refine h.ren _ _ ⟨fun e0 => ?_, fun e0 => ?_⟩
    ·subst e0
     simp at hb
    ·subst e0
     simp at hb
  ·exact ⟨ρ, h⟩
 ·exact ⟨ρ, h⟩
theorem R.renAll : ∀ (l : List SV) (i : Nat) {s : FSt} {ρ : Nat -> Value}, R P W M n s a w ρ -> ∃ ρ', R P W M n (renAll l i s) a w ρ'
 | [], i, s, ρ, h => ⟨ρ, h⟩
 | x :: l, i, s, ρ, h => by
  obtain ⟨ρ', h'⟩ := h.renOne x i
  exact R.renAll l (i + 1) h'
theorem Zfl {l : List Nat} : ∀ (t : List SV) (i j : Nat) (x : SV), (Z9p l s t i)[j]? = some x -> x = .junk \/ x = Z8d l (s.slot (i + j))
 | [], i, j, x, h => by simp [Z9p] at h
 | y :: t, i, 0, x, h => by
  simp only [Z9p, List.getElem?_cons_zero, Option.some.injEq] at h
  cases y <;> first | exact .inl h.symm | exact .inr h.symm
 | y :: t, i, j + 1, x, h => by
  simp only [Z9p, List.getElem?_cons_succ] at h
  have := Zfl t (i + 1) j x h
  rwa [show i + 1 + j = i + (j + 1) from by omega] at this
theorem R.killIf (h : R P W M n s a w ρ) {c : Bool} {b : Nat} (hc : c = true -> 2 <= b) : R P W M n (bif c then s.kill b else s) a w ρ := by
 cases c
 ·exact h
 ·have := hc rfl
  exact h.kill b ⟨by omega, by omega⟩
theorem R.freedAt (h : R P W M n s a w ρ) (all : List SV) (i : Nat) (x : SV) : R P W M n (Ytfclaacaphpoaaa.freedAt all s i x) a w ρ := by
 unfold Ytfclaacaphpoaaa.freedAt
 split
 ·split
  ·refine R.killIf h fun hc => ?_
   simp only [Bool.and_eq_true] at hc
   exact nle hc.1.1.1
  ·refine R.killIf h fun hc => ?_
   simp only [Bool.and_eq_true] at hc
   exact nle hc.1.1.1
  ·exact h
 ·exact h
theorem R.weak : ∀ (l : List (Nat × Blk)) {s : FSt}, R P W M n s a w ρ -> R P W M n (FSt.weak l s) a w ρ
 | [], s, h => h
 | (i, .dee own' fr' e' ls') :: l, s, h => by
  unfold FSt.weak
  split
  ·rename_i own fr e ls hb
   refine R.weak l (h.weakD hb (fun e => ?_) fun e => ?_)
   ·exact ⟨by rw [Bool.and_eq_true] at e; exact e.1, by rw [e]; rfl⟩
   ·cases own <;> cases own' <;> cases fr <;> cases fr' <;> simp at e ⊢
  ·exact R.weak l h
 | (i, .box _ _) :: l, s, h => R.weak l h
 | (i, .row _ _ _ _) :: l, s, h => R.weak l h
 | (i, .ros _ _) :: l, s, h => R.weak l h
 | (i, .rop _) :: l, s, h => R.weak l h
 | (i, .fro _ _ _) :: l, s, h => R.weak l h
theorem R.frzOne (h : R P W M n s a w ρ) (x : Nat) : R P W M n (Ytfclaacaphpoaaa.frzOne s x) a w ρ := by
 unfold Ytfclaacaphpoaaa.frzOne
 split
 ·split
  ·rename_i hb
   exact h.freeze hb
  ·exact h
 ·exact h
theorem R.frzL : ∀ (l : List Nat) {s : FSt}, R P W M n s a w ρ -> R P W M n (l.foldl Ytfclaacaphpoaaa.frzOne s) a w ρ
 | [], s, h => h
 | x :: l, s, h => R.frzL l (h.frzOne x)
theorem R.frzS (h : R P W M n s a w ρ) (z : Bool) (ops : List Oper) : R P W M n (s.frzS z ops) a w ρ := by
 unfold FSt.frzS
 cases z
 ·exact h
 ·exact R.frzL _ h
theorem R.freed (all : List SV) : ∀ (l : List SV) (i : Nat) {s : FSt}, R P W M n s a w ρ -> R P W M n (Ytfclaacaphpoaaa.freed all l i s) a w ρ
 | [], i, s, h => h
 | x :: l, i, s, h => R.freed all l (i + 1) (h.freedAt all i x)
theorem R.norm (h : R P W M n s a w ρ) (t : Tab) : ∃ ρ', R P W M n (t.norm s).st a w ρ' := by
 obtain ⟨ρ', h'⟩ := R.renAll t.slots 0 (R.freed t.slots t.slots 0 h)
 exact ⟨ρ', (R.weak t.heap h').keep _ (fun i x hx => by
  have := Zfl _ _ _ _ hx
  rwa [Nat.zero_add] at this) fun _ _ => ⟨(ZqF _).1, fun _ _ => (ZqF _).2⟩⟩
def Ex.to : Ex -> Exit
 | .normal => .normal
 | .exit id => .exit id
 | .ret => .ret
def Z64 (S : Sums) : Code -> Bool
 | .region _ ops draw => !draw || ZnJ S ops.toList
 | .seq a b => Z64 S a && Z64 S b
 | .cond _ a b => Z64 S a && Z64 S b
 | .block _ a => Z64 S a
 | .loop a => Z64 S a
 | _ => true
theorem R.clr : ∀ (l : List Oper) {s : FSt}, R P W M n s a w ρ -> R P W M n (s.clr l) a w ρ
 | [], s, h => h
 | o :: l, s, h => by
  unfold FSt.clr
  split
  ·rename_i d hd
   split
   ·cases hb : Nat.ble 1 d
    ·exact R.clr l h
    ·have := nle hb
     exact R.clr l (h.kill _ ⟨by omega, by omega⟩)
   ·exact R.clr l h
  ·exact R.clr l h
theorem Zlt {α : Type} (hS : Z6w P S W M) (hm : P.follows .mixedOrders = true) {x : α} {fu : Code -> Nat} : ∀ (c : Code) (s : FSt) (k : Ex -> FSt -> Option α), Z64 S c = true -> exec P S n fu c s k = some x -> ∀ (a : Act) (w : World) (ρ : Nat -> Value), R P W M n s a w ρ ->
  ∀ Q : Exit -> Act -> World -> Prop, (∀ e s' a' w' ρ', R P W M n s' a' w' ρ' -> k e s' = some x -> Q e.to a' w') -> c.wp P Q a w := by
 intro c
 induction c with
 | skip =>
  intro s k hok h a w ρ hR Q hQ
  exact wp_skip (hQ .normal s a w ρ hR h)
 | region id ops draw =>
  intro s k hok h a w ρ hR Q hQ
  obtain ⟨sN, hst, hk⟩ := ZlQ (ops := ops.toList) (fun j o ho => by rw [Nat.zero_add]; exact ho) h
  rw [<- List.range_eq_range'] at hst
  refine Zs5 hS hm (fun hd => ?_) hst ((hR.clr ops.toList).frzS S.z ops.toList) fun a' w' ρ' hR' => hQ .normal sN a' w' ρ' hR' hk
  subst hd
  simpa [Z64] using hok
 | seq c d ihc ihd =>
  intro s k hok h a w ρ hR Q hQ
  simp only [Z64, Bool.and_eq_true] at hok
  refine wp_seq (ihc s _ hok.1 h a w ρ hR _ fun e s' a' w' ρ' hR' hk => ?_)
  cases e with
  | normal => exact ihd s' k hok.2 hk a' w' ρ' hR' Q hQ
  | exit id => exact hQ (.exit id) s' a' w' ρ' hR' hk
  | ret => exact hQ .ret s' a' w' ρ' hR' hk
 | cond c t e iht ihe =>
  intro s k hok h a w ρ hR Q hQ
  simp only [Z64, Bool.and_eq_true] at hok
  simp only [exec] at h
  split at h
  ·rename_i b hb
   refine wp_cond (t := b) (Z1L hR hb) ?_
   split at h
   ·rename_i hb'
    rw [if_pos hb']
    exact iht s k hok.1 h a w ρ hR Q hQ
   ·rename_i hb'
    rw [if_neg hb']
    exact ihe s k hok.2 h a w ρ hR Q hQ
  ·cases h
 | block id c ih =>
  intro s k hok h a w ρ hR Q hQ
  refine wp_block (ih s _ hok h a w ρ hR _ fun e s' a' w' ρ' hR' hk => ?_)
  cases e with
  | normal => exact hQ .normal s' a' w' ρ' hR' hk
  | exit i =>
   have hk : (bif Nat.beq i id then k .normal s' else k (.exit i) s') = some x := hk
   simp only [Ex.to, Exit.inBlock]
   cases hb : Nat.beq i id with
   | true =>
    simp only [hb, cond_true] at hk
    rw [if_pos (neq hb)]
    exact hQ .normal s' a' w' ρ' hR' hk
   | false =>
    simp only [hb, cond_false] at hk
    rw [if_neg (by rintro rfl; simp at hb)]
    exact hQ (.exit i) s' a' w' ρ' hR' hk
  | ret => exact hQ .ret s' a' w' ρ' hR' hk
 | loop c ih =>
  intro s k hok h a w ρ hR Q hQ
  have key : ∀ (f : Nat) (t : Tab) (a : Act) (w : World) (ρ : Nat -> Value), R P W M n t.st a w ρ -> ZH (fun s k => exec P S n fu c s k) f t k = some x -> Code.rounds P c Q f a w := by
   intro f
   induction f with
   | zero => intro t a w ρ hR h; cases h
   | succ f ihf =>
    intro t a w ρ hR h
    rw [rounds_succ]
    refine ih t.st _ hok h a w ρ hR _ fun e s' a' w' ρ' hR' hk => ?_
    cases e with
    | normal =>
     obtain ⟨ρ2, hR2⟩ := hR'.norm t
     exact ihf _ a' w' ρ2 hR2 hk
    | exit id => exact hQ (.exit id) s' a' w' ρ' hR' hk
    | ret => exact hQ .ret s' a' w' ρ' hR' hk
  exact wp_loop_rounds (fu c) (key (fu c) _ a w ρ (hR.tab _) h)
 | exit id =>
  intro s k hok h a w ρ hR Q hQ
  exact wp_exit (hQ (.exit id) s a w ρ hR h)
 | ret =>
  intro s k hok h a w ρ hR Q hQ
  exact wp_ret (hQ .ret s a w ρ hR h)
 | _ =>
  intros
  rename_i h _ _ _ _ _ _
  first | cases h | skip
end

section
variable {P : Program} {S : Sums} {W : World} {M : MV} {n : Nat} {s s1 s2 : FSt} {a : Act} {w w' : World} {ρ ρ' : Nat -> Value} {H H' : Nat -> Option Blk}
theorem ZqS (h : R P W none n s a w ρ) {id e sz m : Nat} {c : Cells} (hb : s.heap id = some (.row e sz m c)) : c.ok /\ w.ownsRow W.heap.size e sz (ρ id) m c.toVals := by
 obtain ⟨k1, k2, k3⟩ := h.heap id _ hb
 refine ⟨k1, k2.1, ?_⟩
 rcases k2.2 with h0 | ⟨g, cap, cur, hv, _, hrest⟩
 ·exact .inl h0
 ·refine .inr ⟨g, cap, cur, hv, ?_, hrest⟩
  have := k3 g (by rw [hv]; rfl)
  rcases this with h1 | h1
  ·exact h1
  ·cases h1
theorem ZuF (h : R P W none n s a w ρ) {id e : Nat} {ls : List (List Int)} (hb : s.heap id = some (.dee true true e ls)) : TRel W w (.d e ls) (ρ id) := by
 obtain ⟨⟨vs, q2, q3, q4⟩, q5, q6⟩ := h.heap id _ hb
 have hown := q3 rfl
 refine ⟨vs, q2, ⟨hown.1, ?_⟩, fun u hu g hg => ?_⟩
 ·rcases hown.2 with h0 | ⟨g, cap, cur, hv, _, hrest⟩
  ·exact .inl h0
  ·refine .inr ⟨g, cap, cur, hv, ?_, hrest⟩
   rcases q5 rfl g (by rw [hv]; rfl) with h1 | h1
   ·exact h1
   ·cases h1
 ·have hh := Zbr (fr := true) q2.len.symm q3 q4 hu hg
  refine ⟨?_, h.froz id _ g hb hh id _ hb rfl⟩
  rcases q6 rfl g hh with h1 | h1
  ·exact h1
  ·cases h1
theorem Zvs {l : List TR} (h : noD l = true) : ZaD l = true := by
 unfold ZaD
 split
 ·rfl
 ·exact h
theorem Zu8 {t : TR} {l : List TR} (h : ZaD (t :: l) = true) : ZaD l = true := by
 unfold ZaD at h
 split at h
 ·rename_i he
  simp only [List.cons.injEq] at he
  rw [he.2]; rfl
 ·cases t <;> first | exact Zvs h | cases h
theorem Zxs {e : TypeId} {ls : List (List Int)} {l : List TR} (h : ZaD (.d e ls :: l) = true) : l = [] := by
 unfold ZaD at h
 split at h
 ·rename_i he
  simp only [List.cons.injEq] at he
  exact he.2
 ·cases h
theorem Zxt {e : TypeId} {sz m : Nat} {c : Cells} {l : List TR} (h : ZaD (.s e sz m c :: l) = true) : noD l = true := by
 unfold ZaD at h
 split at h
 ·rename_i he
  simp at he
 ·exact h
theorem Zcu {o : Option (List TR)} {l : List TR} (h : ZvO o = some l) : o = some l /\ ZaD l = true := by
 unfold ZvO at h
 split at h
 ·split at h
  ·rename_i hs
   simp only [Option.some.injEq] at h; subst h
   exact ⟨rfl, hs⟩
  ·cases h
 ·cases h
theorem ZnC {ty : TypeId} {x v : Value} {t : TR} (h : ZnA P ty x = some t) (hv : v = x) : TRel W w t v := by
 unfold ZnA at h
 split at h
 ·split at h
  ·split at h
   ·simp only [Option.some.injEq] at h; subst h
    rw [hv]
    exact ⟨True.intro, World.ownsRow_nil w W.heap.size _ _⟩
   ·cases h
  ·cases h
 ·simp only [Option.some.injEq] at h; subst h
  exact hv
theorem ZnB {ty : TypeId} {x : Value} {e sz m : Nat} {c : Cells} (h : ZnA P ty x = some (.s e sz m c)) : x = nilS := by
 unfold ZnA at h
 split at h
 ·rfl
 ·simp at h
theorem Zwt (h : R P W none n s a w ρ) {x : ResultVar} {ty : TypeId} {t : TR} (hr : ZdS P s (x, ty) = some t) :
  ∃ v, (match x with | .tmp t => (pure (a.tmps.getD t undef) : Sem Value) | .cell b t => do loadVar t (<- asAddr (a.tmps.getD b undef))).run P w = .ok v w /\ TRel W w t v /\ (∀ i, Z7K P s x = some i -> v = ρ i) /\ ∀ e sz m c, t = .s e sz m c -> Z7K P s x = none -> v = nilS := by
 cases x with
 | tmp t =>
  have hs := h.slots t
  unfold ZdS at hr
  dsimp only at hr
  unfold Z7K
  dsimp only
  split at hr
  ·rename_i x hx
   rw [hx] at hs
   refine ⟨_, rfl, ZnC hr hs, (fun i hi => by rw [hx] at hi; cases hi), fun e sz m c ht _ => ?_⟩
   subst ht
   exact hs.trans (ZnB hr)
  ·rename_i id hx
   rw [hx] at hs
   split at hr
   ·rename_i e sz m c hb
    simp only [Option.some.injEq] at hr; subst hr
    refine ⟨_, rfl, ?_, (fun i hi => ?_), fun e sz m c ht hn => ?_⟩
    ·rw [hs.2]; exact ZqS h hb
    ·rw [hx] at hi
     simp only [Option.some.injEq] at hi; subst hi
     exact hs.2
    ·rw [hx] at hn; cases hn
   ·rename_i e ls hb
    simp only [Option.some.injEq] at hr; subst hr
    refine ⟨_, rfl, ?_, (fun i hi => ?_), fun e sz m c ht hn => (by cases ht)⟩
    ·rw [hs.2]; exact ZuF h hb
    ·rw [hx] at hi
     simp only [Option.some.injEq] at hi; subst hi
     exact hs.2
   ·cases hr
  ·cases hr
 | cell b t =>
  have hs := h.slots b
  unfold ZdS at hr
  dsimp only at hr
  unfold Z7K
  dsimp only
  split at hr
  ·rename_i id off ag sz hx hag hsz
   rw [hx] at hs
   obtain ⟨hl, g, o', ha, he⟩ := hs
   split at hr
   ·rename_i o ho
    split at hr
    ·rename_i Z0t
     obtain ⟨v, hp, hrel, hrun⟩ := Zvf h hag hsz ho Z0t ha
     have hrun' : (do loadVar t (<- asAddr (a.tmps.getD b undef)) : Sem Value).run P w = .ok v w := by
      rw [he]
      exact hrun
     refine ⟨v, hrun', ?_⟩
     split at hr
     ·rename_i x hv
      rw [hv] at hrel
      refine ⟨ZnC hr hrel, (fun i hi => by rw [hv] at hi; cases hi), fun e sz m c ht _ => ?_⟩
      subst ht
      exact hrel.trans (ZnB hr)
     ·rename_i id' hv
      rw [hv] at hrel
      split at hr
      ·rename_i e z m c hb
       simp only [Option.some.injEq] at hr; subst hr
       refine ⟨?_, (fun i hi => ?_), fun e sz m c ht hn => ?_⟩
       ·rw [hrel.2]; exact ZqS h hb
       ·rw [hv] at hi
        simp only [Option.some.injEq] at hi; subst hi
        exact hrel.2
       ·rw [hv] at hn; cases hn
      ·cases hr
     ·cases hr
    ·cases hr
   ·cases hr
  ·cases hr
theorem ZvF {x : ResultVar} {ty : TypeId} {e sz m : Nat} {c : Cells} (hr : ZdS P s (x, ty) = some (.s e sz m c)) : Z7K P s x = none \/ ∃ i, Z7K P s x = some i /\ s.heap i = some (.row e sz m c) := by
 cases x with
 | tmp t =>
  unfold ZdS at hr
  dsimp only at hr
  unfold Z7K
  dsimp only
  split at hr
  ·rename_i x hx
   rw [hx]
   exact .inl rfl
  ·rename_i id hx
   rw [hx]
   split at hr
   ·rename_i hb
    simp only [Option.some.injEq, TR.s.injEq] at hr
    obtain ⟨rfl, rfl, rfl, rfl⟩ := hr
    exact .inr ⟨id, rfl, hb⟩
   ·simp at hr
   ·cases hr
  ·cases hr
 | cell b t =>
  unfold ZdS at hr
  dsimp only at hr
  unfold Z7K
  dsimp only
  split at hr
  ·rename_i id off ag z hx hag hsz
   split at hr
   ·rename_i o ho
    split at hr
    ·split at hr
     ·rename_i x hv
      rw [hv]
      exact .inl rfl
     ·rename_i id' hv
      rw [hv]
      dsimp only
      split at hr
      ·rename_i hb
       simp only [Option.some.injEq, TR.s.injEq] at hr
       obtain ⟨rfl, rfl, rfl, rfl⟩ := hr
       exact .inr ⟨id', rfl, hb⟩
      ·cases hr
     ·cases hr
    ·cases hr
   ·cases hr
  ·cases hr
def resF (a : Act) : ResultVar -> Sem Value := fun
  | .tmp t => pure (a.tmps.getD t undef)
  | .cell b t => do loadVar t (<- asAddr (a.tmps.getD b undef))
def Zxv (P : Program) (s : FSt) (ρ : Nat -> Value) (q : ResultVar × TypeId) (t : TR) (v : Value) : Prop :=
 (∀ i, Z7K P s q.1 = some i -> v = ρ i) /\ ∀ e sz m c, t = .s e sz m c -> Z7K P s q.1 = none -> v = nilS
def Zro (P : Program) (s : FSt) (ρ : Nat -> Value) : List (ResultVar × TypeId) -> List TR -> List Value -> Prop
 | [], _, _ => True
 | q :: l, t :: ts, v :: vs => Zxv P s ρ q t v /\ Zro P s ρ l ts vs
 | _, _, _ => False
theorem soff (h : R P W none n s a w ρ) {i g : Nat} {e sz m : Nat} {c : Cells} (hb : s.heap i = some (.row e sz m c)) (hg : Z07 (ρ i) = some g) : ∀ {l : List (ResultVar × TypeId)} {ts : List TR} {vs : List Value}, Z1N (ZdS P s) l = some ts -> Zro P s ρ l ts vs -> All2 (fun _ _ => True) ts vs -> (∀ y ∈ l, ∀ k, Z7K P s y.1 = some k -> k ≠ i) -> noD ts = true -> SOff g ts vs
 | [], ts, vs, h1, _, _, _, _ => by simp only [Z1N, Option.some.injEq] at h1; subst h1; exact True.intro
 | x :: l, [], vs, h1, hq, _, _, _ => by cases vs <;> exact hq.elim
 | x :: l, t :: ts, [], h1, hq, _, _, _ => hq.elim
 | x :: l, t :: ts, v :: vs, h1, ⟨⟨p, p2⟩, q⟩, h3, hne, hnd => by
  simp only [Z1N] at h1
  split at h1
  ·rename_i t' ht
   split at h1
   ·rename_i ts' hts
    simp only [Option.some.injEq, List.cons.injEq] at h1
    obtain ⟨rfl, rfl⟩ := h1
    have hnd' : noD ts' = true := by cases t' <;> first | exact hnd | cases hnd
    have ih := soff h hb hg hts q h3.2 (fun y hy => hne y (by simp [hy])) hnd'
    cases t' with
    | v y => exact ih
    | d e ls => cases hnd
    | s e' sz' m' c' =>
     rcases ZvF (x := x.1) (ty := x.2) ht with hn | ⟨k, hk, hbk⟩
     ·refine ⟨?_, ih⟩
      rw [p2 _ _ _ _ rfl hn]
      intro hh; cases hh
     ·refine ⟨?_, ih⟩
      rw [p k hk]
      exact h.apart i k _ _ g (Ne.symm (hne x (by simp) k hk)) hb hbk rfl rfl hg
   ·cases h1
  ·cases h1
theorem Zt8 (h : R P W none n s a w ρ) : ∀ {l : List (ResultVar × TypeId)} {ts : List TR}, Z1N (ZdS P s) l = some ts -> Z6H (l.map fun q => Z7K P s q.1) = true -> ZaD ts = true ->
  ∃ vs : List Value, All2 (fun x v => (resF a x).run P w = .ok v w) (l.map (·.1)) vs /\ All2 (TRel W w) ts vs /\ TApart ts vs /\ Zro P s ρ l ts vs /\ All2 (fun _ _ => True) ts vs
 | [], ts, h1, _, _ => by simp only [Z1N, Option.some.injEq] at h1; subst h1; exact ⟨[], True.intro, True.intro, True.intro, True.intro, True.intro⟩
 | x :: l, ts, h1, h2, h3 => by
  simp only [Z1N] at h1
  split at h1
  ·rename_i t ht
   split at h1
   ·rename_i ts' hts
    simp only [Option.some.injEq] at h1; subst h1
    have h2' : Z6H (l.map fun q => Z7K P s q.1) = true := by
     simp only [List.map_cons] at h2
     cases hi : Z7K P s x.1 with
     | none => rw [hi] at h2; exact h2
     | some i => rw [hi] at h2; simp only [Z6H, Bool.and_eq_true] at h2; exact h2.2
    obtain ⟨vs, k1, k2, k3, k4, k5⟩ := Zt8 h hts h2' (Zu8 h3)
    obtain ⟨v, hrun, hrel, hid, hnil⟩ := Zwt (x := x.1) (ty := x.2) h ht
    have hrun' : (resF a x.1).run P w = .ok v w := by
     have : resF a x.1 = (match x.1 with | .tmp t => (pure (a.tmps.getD t undef) : Sem Value) | .cell b t => do loadVar t (<- asAddr (a.tmps.getD b undef))) := by cases x.1 <;> rfl
     rw [this]; exact hrun
    refine ⟨v :: vs, ⟨hrun', k1⟩, ⟨hrel, k2⟩, ?_, ⟨⟨hid, hnil⟩, k4⟩, ⟨True.intro, k5⟩⟩
    cases t with
    | v y => exact k3
    | d e ls => exact Zxs h3
    | s e sz m c =>
     refine ⟨?_, k3⟩
     intro g hg
     rcases ZvF (x := x.1) (ty := x.2) ht with hn | ⟨i, hi, hb⟩
     ·rw [hnil _ _ _ _ rfl hn] at hg
      cases hg
     have hv : v = ρ i := hid i hi
     rw [hv] at hg
     have hne : ∀ y ∈ l, ∀ k, Z7K P s y.1 = some k -> k ≠ i := by
      intro y hy k hk e
      subst e
      simp only [List.map_cons, hi, Z6H, Bool.and_eq_true] at h2
      have := List.all_eq_true.1 h2.1 (some k) (List.mem_map.2 ⟨y, hy, hk⟩)
      simp at this
     exact soff h hb hg hts k4 k5 hne (Zxt h3)
   ·cases h1
  ·cases h1
theorem Zhu : ∀ (l : List ResultVar) (ts : List TypeId), (zipT l ts).map (·.1) = l
 | [], _ => rfl
 | x :: l, [] => by simp only [zipT, List.map_cons, Zhu l []]
 | x :: l, t :: ts => by simp only [zipT, List.map_cons, Zhu l ts]
theorem ZqY {fn : Func} {ts : List TR} (h : R P W none n s a w ρ) (h1 : Z1N (ZdS P s) (zipT fn.results.toList fn.resultTypes.toList) = some ts) (h2 : Z6H (fn.results.toList.map (Z7K P s)) = true) (h3 : ZaD ts = true) :
  ∃ v, (results fn a.tmps).run P w = .ok v w /\ Zfs W w ts v := by
 have h2' : Z6H ((zipT fn.results.toList fn.resultTypes.toList).map fun q => Z7K P s q.1) = true := by
  rw [<- Zhu fn.results.toList fn.resultTypes.toList, List.map_map] at h2
  exact h2
 obtain ⟨vs, k1, k2, k3, _, _⟩ := Zt8 h h1 h2' h3
 rw [Zhu] at k1
 have hm : (fn.results.mapM (resF a)).run P w = .ok vs.toArray w := by
  rw [Array.mapM_eq_mapM_toList]
  have hall : ∀ {l : List ResultVar} {us : List Value}, All2 (fun x v => (resF a x).run P w = .ok v w) l us -> (l.mapM (resF a)).run P w = .ok us w := by
   intro l
   induction l with
   | nil => intro us hu; cases us with
    | nil => rfl
    | cons u us => cases hu
   | cons x l ih => intro us hu; cases us with
    | nil => cases hu
    | cons u us =>
     rw [List.mapM_cons, Zv hu.1, Zv (ih hu.2)]
     rfl
  have := hall k1
  show ((List.toArray <$> fn.results.toList.mapM (resF a))).run P w = _
  rw [map_eq_pure_bind, Zv this]
  rfl
 have hr : (results fn a.tmps).run P w = .ok (if h : vs.toArray.size = 1 then vs.toArray[0] else .tuple vs.toArray) w := by
  have : results fn a.tmps = (do let us <- fn.results.mapM (resF a); pure (if h : us.size = 1 then us[0] else .tuple us)) := by
   unfold results
   congr 1
  rw [this, Zv hm]
  rfl
 refine ⟨_, hr, ?_⟩
 cases ts with
 | nil =>
  cases vs with
  | nil => exact ⟨[], rfl, k2, k3⟩
  | cons v vs => cases k2
 | cons t ts =>
  cases vs with
  | nil => cases k2
  | cons v vs =>
   cases ts with
   | nil =>
    cases vs with
    | nil => exact k2.1
    | cons u us => cases k2.2
   | cons t2 ts =>
    cases vs with
    | nil => cases k2.2
    | cons u us => exact ⟨v :: u :: us, rfl, k2, k3⟩
theorem Z5t : ∀ (l : List PV) (i x : Nat) (b : Blk), look (ZG i l) x = some b -> 4 * i <= x
 | [], i, x, b, h => by cases h
 | .v _ :: l, i, x, b, h => by have := Z5t l (i + 1) x b h; omega
 | .f _ :: l, i, x, b, h => by have := Z5t l (i + 1) x b h; omega
 | .s m c :: l, i, x, b, h => by
  simp only [ZG, look] at h
  by_cases e : x = 4 * i
  ·omega
  ·rw [nbeq e, cond_false] at h
   have := Z5t l (i + 1) x b h; omega
 | .p c :: l, i, x, b, h => by
  simp only [ZG, look] at h
  by_cases e : x = 4 * i
  ·omega
  ·rw [nbeq e, cond_false] at h
   have := Z5t l (i + 1) x b h; omega
 | .pf g :: l, i, x, b, h => by
  simp only [ZG, look] at h
  by_cases e : x = 4 * i
  ·omega
  ·rw [nbeq e, cond_false] at h
   have := Z5t l (i + 1) x b h; omega
 | .d ls :: l, i, x, b, h => by
  simp only [ZG, look] at h
  by_cases e : x = 4 * i
  ·omega
  ·rw [nbeq e, cond_false] at h
   have := Z5t l (i + 1) x b h; omega
 | .ps m c :: l, i, x, b, h => by
  simp only [ZG, look] at h
  by_cases e : x = 4 * i
  ·omega
  ·rw [nbeq e, cond_false] at h
   by_cases e2 : x = 4 * i + 1
   ·omega
   ·rw [nbeq e2, cond_false] at h
    have := Z5t l (i + 1) x b h; omega
structure Entry (P : Program) (W : World) (ρ : Nat -> Value) (H : Nat -> Option Blk) (l : List SV) (vs : List Value) : Prop where
 slots : All2 (Rel P W none ρ H) l vs
 heap : ∀ id b, H id = some b -> BRel P W none W ρ H id b /\ ownB b = false
theorem Znd : ∀ (pvs : List PV) (avs : List Value) (i : Nat), All2 (Z5s P W) pvs avs -> ∃ ρ, Entry P W ρ (look (ZG i pvs)) (Z4Z i pvs) avs
 | [], [], i, _ => ⟨fun _ => undef, True.intro, fun id b h => by cases h⟩
 | pv :: pvs, a :: avs, i, ⟨p, q⟩ => by
  obtain ⟨ρ, h⟩ := Znd pvs avs (i + 1) q
  -- what was there stays
  have stay : ∀ (L : List (Nat × Blk)) (ρ' : Nat -> Value), (∀ x, 4 * i + 4 <= x -> look L x = look (ZG (i + 1) pvs) x /\ ρ' x = ρ x) -> ∀ id, (look (ZG (i + 1) pvs) id).isSome = true -> (look L id).isSome = true /\ ρ' id = ρ id := by
   intro L ρ' hL id hid
   cases hb : look (ZG (i + 1) pvs) id with
   | none => rw [hb] at hid; cases hid
   | some b =>
    have := Z5t pvs (i + 1) id b hb
    obtain ⟨e1, e2⟩ := hL id (by omega)
    exact ⟨by rw [e1, hb]; rfl, e2⟩
  cases pv with
  | v x => exact ⟨ρ, ⟨p, h.slots⟩, h.heap⟩
  | f g => exact ⟨ρ, ⟨p, h.slots⟩, h.heap⟩
  | s m c =>
   refine ⟨fun x => if x = 4 * i then a else ρ x, ?_⟩
   have hL : ∀ x, look ((4 * i, Blk.ros m c) :: ZG (i + 1) pvs) x = if x = 4 * i then some (.ros m c) else look (ZG (i + 1) pvs) x := by
    intro x
    simp only [look]
    by_cases e : x = 4 * i
    ·subst e; simp
    ·rw [nbeq e, cond_false, if_neg e]
   have hst := stay ((4 * i, Blk.ros m c) :: ZG (i + 1) pvs) (fun x => if x = 4 * i then a else ρ x) fun x hx => by
    rw [hL, if_neg (by omega), if_neg (by omega)]
    exact ⟨rfl, rfl⟩
   refine ⟨⟨⟨by show (look ((4 * i, Blk.ros m c) :: ZG (i + 1) pvs) (4 * i)).isSome = true; rw [hL, if_pos rfl]; rfl, by simp only [if_true]⟩, h.slots.mono fun _ _ => Rel.mono hst⟩, fun id b hb => ?_⟩
   have hb : look ((4 * i, Blk.ros m c) :: ZG (i + 1) pvs) id = some b := hb
   rw [hL] at hb
   split at hb
   ·rename_i e
    simp only [Option.some.injEq] at hb; subst hb
    exact ⟨by simp only [BRel, e, if_true]; exact p, rfl⟩
   ·rename_i e
    obtain ⟨k1, k2⟩ := h.heap id b hb
    exact ⟨k1.mono hst (if_neg e), k2⟩
  | d ls =>
   refine ⟨fun x => if x = 4 * i then a else ρ x, ?_⟩
   have hL : ∀ x, look ((4 * i, Blk.dee false false 0 ls) :: ZG (i + 1) pvs) x = if x = 4 * i then some (.dee false false 0 ls) else look (ZG (i + 1) pvs) x := by
    intro x
    simp only [look]
    by_cases e : x = 4 * i
    ·subst e; simp
    ·rw [nbeq e, cond_false, if_neg e]
   have hst := stay ((4 * i, Blk.dee false false 0 ls) :: ZG (i + 1) pvs) (fun x => if x = 4 * i then a else ρ x) fun x hx => by
    rw [hL, if_neg (by omega), if_neg (by omega)]
    exact ⟨rfl, rfl⟩
   refine ⟨⟨⟨by show (look ((4 * i, Blk.dee false false 0 ls) :: ZG (i + 1) pvs) (4 * i)).isSome = true; rw [hL, if_pos rfl]; rfl, by simp only [if_true]⟩, h.slots.mono fun _ _ => Rel.mono hst⟩, fun id b hb => ?_⟩
   have hb : look ((4 * i, Blk.dee false false 0 ls) :: ZG (i + 1) pvs) id = some b := hb
   rw [hL] at hb
   split at hb
   ·rename_i e
    simp only [Option.some.injEq] at hb; subst hb
    obtain ⟨vs, p1, p2⟩ := p
    refine ⟨⟨⟨vs, p1, fun e => (by cases e), fun _ => ?_⟩, fun e => (by cases e), fun e => (by cases e)⟩, rfl⟩
    simp only [e, if_true]; exact p2
   ·rename_i e
    obtain ⟨k1, k2⟩ := h.heap id b hb
    exact ⟨k1.mono hst (if_neg e), k2⟩
  | p c =>
   obtain ⟨g, o, rfl, hc⟩ := p
   refine ⟨fun x => if x = 4 * i then .pointer (some ⟨g, o, none⟩) else ρ x, ?_⟩
   have hL : ∀ x, look ((4 * i, Blk.rop (c.map SV.val)) :: ZG (i + 1) pvs) x = if x = 4 * i then some (.rop (c.map SV.val)) else look (ZG (i + 1) pvs) x := by
    intro x
    simp only [look]
    by_cases e : x = 4 * i
    ·subst e; simp
    ·rw [nbeq e, cond_false, if_neg e]
   have hst := stay ((4 * i, Blk.rop (c.map SV.val)) :: ZG (i + 1) pvs) (fun x => if x = 4 * i then .pointer (some ⟨g, o, none⟩) else ρ x) fun x hx => by
    rw [hL, if_neg (by omega), if_neg (by omega)]
    exact ⟨rfl, rfl⟩
   refine ⟨⟨⟨by show (look ((4 * i, Blk.rop (c.map SV.val)) :: ZG (i + 1) pvs) (4 * i)).isSome = true; rw [hL, if_pos rfl]; rfl, g, o, by simp only [if_true]; rfl, by simp⟩, h.slots.mono fun _ _ => Rel.mono hst⟩, fun id b hb => ?_⟩
   have hb : look ((4 * i, Blk.rop (c.map SV.val)) :: ZG (i + 1) pvs) id = some b := hb
   rw [hL] at hb
   split at hb
   ·rename_i e
    simp only [Option.some.injEq] at hb; subst hb
    refine ⟨⟨g, o, by simp only [e, if_true], by simp [mB], fun j v hv => ?_⟩, rfl⟩
    rw [List.getElem?_map] at hv
    cases hj : c[j]? with
    | none => rw [hj] at hv; cases hv
    | some u =>
     rw [hj] at hv
     obtain rfl : SV.val u = v := by simpa using hv
     exact ⟨u, hc j u hj, rfl⟩
   ·rename_i e
    obtain ⟨k1, k2⟩ := h.heap id b hb
    exact ⟨k1.mono hst (if_neg e), k2⟩
  | pf f =>
   obtain ⟨g, o, u, rfl, hc, hfn⟩ := p
   refine ⟨fun x => if x = 4 * i then .pointer (some ⟨g, o, none⟩) else ρ x, ?_⟩
   have hL : ∀ x, look ((4 * i, Blk.rop [.fn f]) :: ZG (i + 1) pvs) x = if x = 4 * i then some (.rop [.fn f]) else look (ZG (i + 1) pvs) x := by
    intro x
    simp only [look]
    by_cases e : x = 4 * i
    ·subst e; simp
    ·rw [nbeq e, cond_false, if_neg e]
   have hst := stay ((4 * i, Blk.rop [.fn f]) :: ZG (i + 1) pvs) (fun x => if x = 4 * i then .pointer (some ⟨g, o, none⟩) else ρ x) fun x hx => by
    rw [hL, if_neg (by omega), if_neg (by omega)]
    exact ⟨rfl, rfl⟩
   refine ⟨⟨⟨by show (look ((4 * i, Blk.rop [.fn f]) :: ZG (i + 1) pvs) (4 * i)).isSome = true; rw [hL, if_pos rfl]; rfl, g, o, by simp only [if_true]; rfl, by simp⟩, h.slots.mono fun _ _ => Rel.mono hst⟩, fun id b hb => ?_⟩
   have hb : look ((4 * i, Blk.rop [.fn f]) :: ZG (i + 1) pvs) id = some b := hb
   rw [hL] at hb
   split at hb
   ·rename_i e
    simp only [Option.some.injEq] at hb; subst hb
    refine ⟨⟨g, o, by simp only [e, if_true], by simp [mB], fun j v hv => ?_⟩, rfl⟩
    cases j with
    | succ j => simp at hv
    | zero =>
     obtain rfl : SV.fn f = v := by simpa using hv
     exact ⟨u, hc, hfn⟩
   ·rename_i e
    obtain ⟨k1, k2⟩ := h.heap id b hb
    exact ⟨k1.mono hst (if_neg e), k2⟩
  | ps m c =>
   obtain ⟨g, o, u, rfl, hc, hros⟩ := p
   refine ⟨fun x => if x = 4 * i then .pointer (some ⟨g, o, none⟩) else if x = 4 * i + 1 then u else ρ x, ?_⟩
   have hL : ∀ x, look ((4 * i, Blk.rop [.row (4 * i + 1)]) :: (4 * i + 1, Blk.ros m c) :: ZG (i + 1) pvs) x = if x = 4 * i then some (.rop [.row (4 * i + 1)]) else if x = 4 * i + 1 then some (.ros m c) else look (ZG (i + 1) pvs) x := by
    intro x
    simp only [look]
    by_cases e : x = 4 * i
    ·subst e; simp
    ·rw [nbeq e, cond_false, if_neg e]
     by_cases e2 : x = 4 * i + 1
     ·subst e2; simp
     ·rw [nbeq e2, cond_false, if_neg e2]
   have hst := stay ((4 * i, Blk.rop [.row (4 * i + 1)]) :: (4 * i + 1, Blk.ros m c) :: ZG (i + 1) pvs) (fun x => if x = 4 * i then .pointer (some ⟨g, o, none⟩) else if x = 4 * i + 1 then u else ρ x) fun x hx => by
    rw [hL, if_neg (by omega), if_neg (by omega), if_neg (by omega), if_neg (by omega)]
    exact ⟨rfl, rfl⟩
   refine ⟨⟨⟨by show (look ((4 * i, Blk.rop [.row (4 * i + 1)]) :: (4 * i + 1, Blk.ros m c) :: ZG (i + 1) pvs) (4 * i)).isSome = true; rw [hL, if_pos rfl]; rfl, g, o, by simp only [if_true]; rfl, by simp⟩, h.slots.mono fun _ _ => Rel.mono hst⟩, fun id b hb => ?_⟩
   have hb : look ((4 * i, Blk.rop [.row (4 * i + 1)]) :: (4 * i + 1, Blk.ros m c) :: ZG (i + 1) pvs) id = some b := hb
   have hb0 := hb
   rw [hL] at hb
   split at hb
   ·rename_i e
    simp only [Option.some.injEq] at hb; subst hb
    refine ⟨⟨g, o, by simp only [e, if_true], by simp [mB], fun j v hv => ?_⟩, rfl⟩
    cases j with
    | succ j => simp at hv
    | zero =>
     obtain rfl : SV.row (4 * i + 1) = v := by simpa using hv
     refine ⟨u, hc, ?_, ?_⟩
     ·show (look ((4 * i, Blk.rop [.row (4 * i + 1)]) :: (4 * i + 1, Blk.ros m c) :: ZG (i + 1) pvs) (4 * i + 1)).isSome = true
      rw [hL, if_neg (by omega), if_pos rfl]; rfl
     ·dsimp only
      rw [if_neg (by omega), if_pos rfl]
   ·rename_i e
    split at hb
    ·rename_i e2
     simp only [Option.some.injEq] at hb; subst hb
     refine ⟨?_, rfl⟩
     simp only [BRel]
     rw [if_neg e, if_pos e2]
     exact hros
    ·rename_i e2
     obtain ⟨k1, k2⟩ := h.heap id b hb
     exact ⟨k1.mono hst (by rw [if_neg e, if_neg e2]), k2⟩
theorem Zqj {α : Type} {fu : Code -> Nat} {dec : List TR -> Option α} {enc : α -> List TR} (hde : ∀ rs x, dec rs = some x -> rs = enc x) (hS : ZJ P S) (hm : P.follows .mixedOrders = true) {f : Nat} {fn : Func} (hf : P.funcs[f]? = some fn) (hn : fn.ntmps = n) (hb : fn.body.isSome = true) (hok : Z64 S (Zb P f) = true) {pvs : List PV} {avs : List Value} {x : α}
  (hG : GOK W) (hargs : All2 (Z5s P W) pvs avs) (h : Z7W P S f n fu dec pvs = some x) : Calls P f avs.toArray W fun e W' => ∃ rv, e = .returned rv /\ Zfs W W' (enc x) rv /\ W.grownBy W' none := by
 subst hn
 obtain ⟨c, hb⟩ := Option.isSome_iff_exists.1 hb
 have hbody : Zb P f = c := by unfold Zb; rw [hf]; dsimp only; rw [hb]
 rw [hbody] at hok
 unfold Z7W at h
 split at h
 ·rename_i hle
  rw [hbody] at h
  have hle := nle hle
  have Z5e := hargs.len
  obtain ⟨ρ, hent⟩ := Znd (P := P) (W := W) pvs avs 0 hargs
  refine calls_of_wp hf hb ?_
  have hR : R P W none fn.ntmps (Zop pvs) { tmps := avs.toArray ++ Array.replicate (fn.ntmps - avs.toArray.size) undef, defers := [] } W ρ := by
   refine ⟨World.grownBy.refl W none, by simp; omega, rfl, fun t => ?_, fun id b hb => (hent.heap id b hb).1, fun i j bi bj g hij hi hj oi oj => ?_, fun i bi g hi hh j bj hj oj => ?_, fun v hv => by cases hv⟩
   ·show Rel P W none ρ _ ((Z4Z 0 pvs).getD t .junk) _
    rw [List.getD_eq_getElem?_getD]
    cases ht : (Z4Z 0 pvs)[t]? with
    | none => exact True.intro
    | some x =>
     obtain ⟨v, hv, hrel⟩ := hent.slots.get ht
     have hlt : t < avs.length := (List.getElem?_eq_some_iff.1 hv).1
     have : (avs.toArray ++ Array.replicate (fn.ntmps - avs.toArray.size) undef).getD t undef = v := by
      rw [Array.getD_eq_getD_getElem?, Array.getElem?_append_left (by simpa using hlt)]
      simp [hv]
     rw [this]
     exact hrel
   ·have := (hent.heap i bi hi).2
    rw [oi] at this
    cases this
   ·have := (hent.heap j bj hj).2
    rw [oj] at this
    cases this
  refine Zlt ⟨hS, hG, fun _ e => by cases e⟩ hm c (Zop pvs) _ hok h _ W ρ hR _ fun e s' a' w' ρ' hR' hk => ?_
  unfold finT at hk
  rw [hf] at hk
  dsimp only at hk
  unfold ZsC at hk
  split at hk
  ·rename_i rs hfin
   obtain rfl := hde rs x hk
   have fin : Z1N (ZdS P s') (zipT fn.results.toList fn.resultTypes.toList) = some (enc x) -> Z6H (fn.results.toList.map (Z7K P s')) = true -> ZaD (enc x) = true -> a'.defers = [] /\ ∃ v, (results fn a'.tmps).run P w' = .ok v w' /\ ∃ rv, Ending.returned v = .returned rv /\ Zfs W w' (enc x) rv /\ W.grownBy w' none := by
    intro h1 h2 h3
    obtain ⟨v, hv, hres⟩ := ZqY hR' h1 h2 h3
    exact ⟨hR'.defers, v, hv, v, rfl, hres, hR'.grown⟩
   unfold finish at hfin
   cases e with
   | normal =>
    dsimp only at hfin
    split at hfin
    ·rename_i h2; exact fin (Zcu hfin).1 h2 (Zcu hfin).2
    ·cases hfin
   | exit id => cases hfin
   | ret =>
    dsimp only at hfin
    split at hfin
    ·rename_i h2; exact fin (Zcu hfin).1 h2 (Zcu hfin).2
    ·cases hfin
  ·cases hk
 ·cases h
def AllS (P : Program) : List (Nat × (List PV -> Option (Bool × List TR))) -> Prop
 | [] => True
 | x :: l => (Callable P x.1 /\ Sound P x.1 x.2) /\ AllS P l
def tblS : List (Nat × (List PV -> Option (Bool × List TR))) -> Nat -> Option (List PV -> Option (Bool × List TR))
 | [], _ => none
 | x :: l, g => bif Nat.beq g x.1 then some x.2 else tblS l g
theorem ZD : ∀ {l : List (Nat × (List PV -> Option (Bool × List TR)))}, AllS P l -> ∀ g run, tblS l g = some run -> Callable P g /\ Sound P g run
 | [], _ => fun g run h => by cases h
 | x :: l, ⟨h, hl⟩ => fun g run hr => by
  simp only [tblS] at hr
  cases hb : Nat.beq g x.1 with
  | true =>
   rw [hb] at hr
   simp only [cond_true, Option.some.injEq] at hr
   subst hr
   rw [neq hb]
   exact h
  | false =>
   rw [hb] at hr
   exact ZD hl g run hr
def AllM (P : Program) : List (Nat × MFn) -> Prop
 | [] => True
 | x :: l => (Callable P x.1 /\ Zoe P x.1 x.2) /\ AllM P l
def tblM : List (Nat × MFn) -> Nat -> Option MFn
 | [], _ => none
 | x :: l, g => bif Nat.beq g x.1 then some x.2 else tblM l g
theorem Z56 : ∀ {l : List (Nat × MFn)}, AllM P l -> ∀ g run, tblM l g = some run -> Callable P g /\ Zoe P g run
 | [], _ => fun g run h => by cases h
 | x :: l, ⟨h, hl⟩ => fun g run hr => by
  simp only [tblM] at hr
  cases hb : Nat.beq g x.1 with
  | true =>
   rw [hb] at hr
   simp only [cond_true, Option.some.injEq] at hr
   subst hr
   rw [neq hb]
   exact h
  | false =>
   rw [hb] at hr
   exact Z56 hl g run hr
theorem Zm1 {α : Type} {dec : List TR -> Option α} {enc : α -> List TR} {f : Nat} {run : List PV -> Option (Bool × List TR)} (hde : ∀ rs x, dec rs = some x -> rs = enc x) (hS : ZJ P S) (hm : P.follows .mixedOrders = true) {fn : Func} (hf : P.funcs[f]? = some fn) (hn : fn.ntmps = n) (hb : fn.body.isSome = true) (hok : Z64 S (Zb P f) = true)
  (h : ∀ W pvs avs rs, All2 (Z5s P W) pvs avs -> run pvs = some (true, rs) -> ∃ (fu : Code -> Nat) (pvs' : List PV) (x : α), All2 (Z5s P W) pvs' avs /\ rs = enc x /\ Z7W P S f n fu dec pvs' = some x) : Sound P f run := by
 intro W pvs avs rs hG hargs hrun
 obtain ⟨fu, pvs', x, h1, rfl, h2⟩ := h W pvs avs rs hargs hrun
 exact Zqj hde hS hm hf hn hb hok hG h1 h2
theorem so2 {α β : Type} {a c : α} {b d : β} (h : some (a, b) = some (c, d)) : a = c /\ b = d := by simpa using h
theorem ZN {α : Type} {dec : List TR -> Option α} {enc : α -> List TR} {f : Nat} {run : List PV -> Option (Bool × List TR)} (hde : ∀ rs x, dec rs = some x -> rs = enc x) (hS : ZJ P S) (hm : P.follows .mixedOrders = true) {fn : Func} (hf : P.funcs[f]? = some fn) (hn : fn.ntmps = n) (hb : fn.body.isSome = true) (hok : Z64 S (Zb P f) = true)
  (h : ∀ pvs rs, run pvs = some (true, rs) -> ∃ (fu : Code -> Nat) (x : α), rs = enc x /\ Z7W P S f n fu dec pvs = some x) : Sound P f run :=
 Zm1 hde hS hm hf hn hb hok fun W pvs avs rs hargs hrun => by
  obtain ⟨fu, x, h1, h2⟩ := h pvs rs hrun
  exact ⟨fu, pvs, x, hargs, h1, h2⟩
theorem Zeq {α : Type} {o : Option α} {d : α} (h : o.isSome = true) : o = some (o.getD d) := by
 cases o with
 | none => cases h
 | some x => rfl
def okV (o : Option (Bool × Value)) : Bool := match o with
 | some (c, .bool _) => c
 | _ => false
def ZgC (o : Option (Bool × Value)) : Bool := match o with
 | some (_, .bool b) => b
 | _ => false
theorem ZqP {o : Option (Bool × Value)} (h : okV o = true) : o = some (true, .bool (ZgC o)) := by
 unfold okV at h
 split at h
 ·subst h; rfl
 ·cases h
theorem Znj {a : Value} {g g' : List Value -> Option (Bool × Value)} (h : Z5s P W (.f g) a) (hg : ∀ args r, g' args = some (true, r) -> g args = some (true, r)) : Z5s P W (.f g') a := by
 obtain ⟨f, caps, h1, h2, h3⟩ := h
 exact ⟨f, caps, h1, h2, fun w hw args r hr => h3 w hw args r (hg args r hr)⟩
theorem All2.replace {α β : Type} {R : α -> β -> Prop} {x y : α} : ∀ {l1 l2 : List α} {m : List β}, All2 R (l1 ++ x :: l2) m -> (∀ b, R x b -> R y b) -> All2 R (l1 ++ y :: l2) m
 | [], _, _ :: _, ⟨p, q⟩, h => ⟨h _ p, q⟩
 | _ :: l1, _, _ :: _, ⟨p, q⟩, h => ⟨p, All2.replace (l1 := l1) q h⟩
def wI (n : Int) : Int := IntKind.i64.wrap n
def andI (k : IntKind) (x y : Int) : Int := k.wrap ((BitVec.ofInt k.bits x &&& BitVec.ofInt k.bits y).toNat : Int)
def shrI (x : Int) (n : Nat) : Int := x.fdiv (2 ^ n)
theorem Z03 (n : Int) : wI n = wrap64 n := by rw [wI, IntKind.wrap_i64, wrap64]
def prB (p : Int) : Bool := decide (1 <= p) && decide (p <= 31)
theorem Z6y {p : Int} (h : prB p = true) : (!(p == 0)) = true := by
 unfold prB at h
 simp at h ⊢
 omega
theorem ZS {α : Type} {c : Prop} [Decidable c] {a b : Option α} {x y : α} (h1 : c -> a = some x) (h2 : ¬ c -> b = some y) : (if c then a else b) = some (if c then x else y) := by
 by_cases h : c
 ·rw [if_pos h, if_pos h]; exact h1 h
 ·rw [if_neg h, if_neg h]; exact h2 h
theorem Z04 {α : Type} {c : Prop} [Decidable c] {a : Option α} {x : α} (h : c) (k : a = some x) : (if c then a else none) = some x := by rw [if_pos h]; exact k
end

end Go.Proofs.Ytfclaacaphpoaaa
