import Derived.Test.YtfclaacaphpoaaaDl
set_option linter.unusedSimpArgs false
set_option linter.unusedVariables false
namespace Go.Proofs.Ytfclaacaphpoaaa
open Go.RowKit
section
variable {P : Program} {S : Sums} {W : World} {n : Nat}
def Zrg : List BC -> List SV
 | [] => []
 | .v x :: l => .val x :: Zrg l
 | .s _ _ :: l => .junk :: Zrg l
def bcSV : List BC -> List SV
 | .s _ _ :: l => .row 1 :: Zrg l
 | l => Zrg l
def Zc3 : List BC -> List (Nat × Blk)
 | .s n c :: _ => [(1, .ros n c)]
 | _ => []
def allV : List BC -> Bool
 | [] => true
 | .v _ :: l => allV l
 | .s _ _ :: _ => false
def Zss : List BC -> Bool
 | .s _ _ :: l => allV l
 | l => allV l
def ZaW (e : TypeId) (bcs : List BC) (args : List PV) : FSt := Tab.st ⟨.ptr 0 0 :: Z4Z 1 args, (0, .box e (bcSV bcs)) :: (Zc3 bcs ++ ZG 1 args)⟩
def resV (P : Program) (s : FSt) : List ResultVar -> Option (List Value)
 | [] => some []
 | .tmp t :: l => match s.slot t with
  | .val x => match resV P s l with | some m => some (x :: m) | none => none
  | _ => none
 | .cell b t :: l => match s.slot b, Zu P (isAgg t), Zu P (sizeOf t) with
  | .ptr id off, some ag, some sz => match ld s.heap ag sz id off with
   | some o => if o.chk = true then (match o.v with
    | .val x => match resV P s l with | some m => some (x :: m) | none => none
    | _ => none) else none
   | none => none
  | _, _, _ => none
def Z9h : List SV -> Option (List BC)
 | [] => some []
 | .val x :: l => match Z9h l with | some m => some (.v x :: m) | none => none
 | _ => none
def Zvw : List BC -> List SV -> Option (List BC)
 | .s n c :: _, .row 1 :: l => match Z9h l with | some m => some (.s n c :: m) | none => none
 | .s _ _ :: _, _ => none
 | _, l => Z9h l
def finP {α : Type} (P : Program) (f : Nat) (e : TypeId) (bcs : List BC) (dec : List Value × List BC -> Option α) (x : Ex) (s : FSt) : Option α := match x with
 | .exit _ => none
 | _ => match P.funcs[f]? with
  | some fn => match resV P s fn.results.toList, s.heap 0 with
   | some vs, some (.box e' cells) => match Zvw bcs cells with
    | some bcs' => if (Nat.beq e' e && Zhb bcs bcs') = true then dec (vs, bcs') else none
    | none => none
   | _, _ => none
  | none => none
def Zat {α : Type} (P : Program) (S : Sums) (f n : Nat) (fu : Code -> Nat) (dec : List Value × List BC -> Option α) (e : TypeId) (bcs : List BC) (args : List PV) : Option α :=
 if (Nat.ble (args.length + 1) n && Zss bcs) = true then exec P S n fu (Zb P f) (ZaW e bcs args) (finP P f e bcs dec) else none
theorem ZlS {M : MV} {s : FSt} {a : Act} {w : World} {ρ : Nat -> Value} (h : R P W M n s a w ρ) : ∀ {l : List ResultVar} {vs : List Value}, resV P s l = some vs -> (l.mapM (resF a)).run P w = .ok vs w
 | [], vs, hr => by simp only [resV, Option.some.injEq] at hr; subst hr; rfl
 | .tmp t :: l, vs, hr => by
  simp only [resV] at hr
  split at hr
  ·rename_i x hx
   split at hr
   ·rename_i m hm
    simp only [Option.some.injEq] at hr; subst hr
    have hv : a.tmps.getD t undef = x := by have := h.slots t; rw [hx] at this; exact this
    rw [List.mapM_cons, Zv (show (resF a (.tmp t)).run P w = .ok x w from by show (pure (a.tmps.getD t undef) : Sem Value).run P w = _; rw [hv]; rfl), Zv (ZlS h hm)]
    rfl
   ·cases hr
  ·cases hr
 | .cell b t :: l, vs, hr => by
  have hs := h.slots b
  simp only [resV] at hr
  split at hr
  ·rename_i id off ag sz hx hag hsz
   rw [hx] at hs
   obtain ⟨hl, g, o', ha, he⟩ := hs
   split at hr
   ·rename_i o ho
    split at hr
    ·rename_i Z0t
     obtain ⟨v, hp, hrel, hrun⟩ := Zvf h hag hsz ho Z0t ha
     split at hr
     ·rename_i x hov
      split at hr
      ·rename_i m hm
       simp only [Option.some.injEq] at hr; subst hr
       rw [hov] at hrel
       have hrel : v = x := hrel
       have hrun' : (resF a (.cell b t)).run P w = .ok x w := by
        show (do loadVar t (<- asAddr (a.tmps.getD b undef)) : Sem Value).run P w = .ok x w
        rw [he, <- hrel]
        exact hrun
       rw [List.mapM_cons, Zv hrun', Zv (ZlS h hm)]
       rfl
      ·cases hr
     ·cases hr
    ·cases hr
   ·cases hr
  ·cases hr
theorem Zpl {M : MV} {s : FSt} {a : Act} {w : World} {ρ : Nat -> Value} {fn : Func} (h : R P W M n s a w ρ) {vs : List Value} (hr : resV P s fn.results.toList = some vs) : (results fn a.tmps).run P w = .ok (Zjg vs) w := by
 have hm : (fn.results.mapM (resF a)).run P w = .ok vs.toArray w := by
  rw [Array.mapM_eq_mapM_toList]
  show ((List.toArray <$> fn.results.toList.mapM (resF a))).run P w = _
  rw [map_eq_pure_bind, Zv (ZlS h hr)]
  rfl
 have : results fn a.tmps = (do let us <- fn.results.mapM (resF a); pure (if h : us.size = 1 then us[0] else .tuple us)) := by
  unfold results
  congr 1
 rw [this, Zv hm]
 match vs with
 | [] => rfl
 | [x] => rfl
 | x :: y :: l => rfl
theorem ZwS : ∀ (pvs : List PV) (i x : Nat) (b : Blk), look (ZG i pvs) x = some b -> 4 * i <= x := fun pvs i x b h => by
 have := Z5t pvs i x b h
 omega
theorem Zld {M : MV} {b : Nat} (hM : mB M = some b) : ∀ (pvs : List PV) (avs : List Value) (i : Nat), All2 (ArgB W b) pvs avs -> ∃ ρ, All2 (Rel P W M ρ (look (ZG i pvs))) (Z4Z i pvs) avs /\ ∀ id bl, look (ZG i pvs) id = some bl -> ∃ m c, bl = .ros m c /\ Z16 W (some b) (ρ id) m c
 | [], [], i, _ => ⟨fun _ => undef, True.intro, fun id b h => by cases h⟩
 | pv :: pvs, a :: avs, i, ⟨p, q⟩ => by
  obtain ⟨ρ, h1, h2⟩ := Zld hM pvs avs (i + 1) q
  cases pv with
  | v x => exact ⟨ρ, ⟨p, h1⟩, h2⟩
  | s m c =>
   refine ⟨fun x => if x = 4 * i then a else ρ x, ?_, ?_⟩
   ·have hL : ∀ x, look ((4 * i, Blk.ros m c) :: ZG (i + 1) pvs) x = if x = 4 * i then some (.ros m c) else look (ZG (i + 1) pvs) x := by
     intro x
     simp only [look]
     by_cases e : x = 4 * i
     ·subst e; simp
     ·rw [nbeq e, cond_false, if_neg e]
    refine ⟨⟨by show (look ((4 * i, Blk.ros m c) :: ZG (i + 1) pvs) (4 * i)).isSome = true; rw [hL, if_pos rfl]; rfl, by simp only [if_true]⟩, h1.mono fun _ _ => Rel.mono fun id hid => ?_⟩
    cases hb : look (ZG (i + 1) pvs) id with
    | none => rw [hb] at hid; cases hid
    | some bl =>
     have := ZwS pvs (i + 1) id bl hb
     refine ⟨?_, if_neg (by omega)⟩
     show (look ((4 * i, Blk.ros m c) :: ZG (i + 1) pvs) id).isSome = true
     rw [hL, if_neg (by omega), hb]; rfl
   ·intro id bl hb
    have hb : look ((4 * i, Blk.ros m c) :: ZG (i + 1) pvs) id = some bl := hb
    simp only [look] at hb
    by_cases e : id = 4 * i
    ·subst e
     simp at hb
     exact ⟨m, c, hb.symm, by simp only [if_true]; exact p⟩
    ·rw [nbeq e, cond_false] at hb
     obtain ⟨m', c', k1, k2⟩ := h2 id bl hb
     refine ⟨m', c', k1, ?_⟩
     show Z16 W (some b) (if id = 4 * i then a else ρ id) m' c'
     rw [if_neg e]; exact k2
  | f g => cases p
  | p l => cases p
  | ps m c => cases p
  | pf g => cases p
  | d ls => cases p
theorem Zex {M : MV} {ρ : Nat -> Value} {H : Nat -> Option Blk} {b : Nat} : ∀ {bcs : List BC} {cs : List Value}, allV bcs = true -> All2 (BCRel W b) bcs cs -> All2 (Rel P W M ρ H) (Zrg bcs) cs
 | [], [], _, _ => True.intro
 | .v x :: l, v :: cs, h, ⟨p, q⟩ => ⟨p, Zex (bcs := l) h q⟩
 | .s _ _ :: l, v :: cs, h, _ => by cases h
theorem Zvj {l m : List (Nat × Blk)} {x : Nat} : look (l ++ m) x = match look l x with | some b => some b | none => look m x := by
 induction l with
 | nil => rfl
 | cons a l ih =>
  show (bif Nat.beq x a.1 then some a.2 else look (l ++ m) x) = match (bif Nat.beq x a.1 then some a.2 else look l x) with | some b => some b | none => look m x
  cases Nat.beq x a.1
  ·simpa using ih
  ·rfl
theorem Zew {M : MV} {ρ : Nat -> Value} {H : Nat -> Option Blk} : ∀ {cells : List SV} {bcs bcs' : List BC} {cs cs0 : List Value}, Z9h cells = some bcs' -> Zhb bcs bcs' = true -> bcs.length = cs0.length -> All2 (Rel P W M ρ H) cells cs -> newC bcs' cs0 = cs
 | [], bcs, bcs', cs, cs0, h, hs, hl, hr => by
  simp only [Z9h, Option.some.injEq] at h; subst h
  cases cs with
  | nil => cases cs0 <;> rfl
  | cons a cs => cases hr
 | .val x :: l, bcs, bcs', cs, cs0, h, hs, hl, hr => by
  simp only [Z9h] at h
  split at h
  ·rename_i m hm
   simp only [Option.some.injEq] at h; subst h
   cases bcs with
   | nil => cases hs
   | cons bc bcs =>
    cases bc with
    | s _ _ => cases hs
    | v y =>
     cases cs0 with
     | nil => cases hl
     | cons c0 cs0 =>
      cases cs with
      | nil => cases hr
      | cons c cs =>
       obtain ⟨h1, h2⟩ := hr
       have h1 : c = x := h1
       show x :: newC m cs0 = c :: cs
       rw [h1, Zew hm hs (by simpa using hl) h2]
  ·cases h
 | .ptr _ _ :: _, _, _, _, _, h, _, _, _ => by simp [Z9h] at h
 | .row _ :: _, _, _, _, _, h, _, _, _ => by simp [Z9h] at h
 | .sub _ _ _ _ :: _, _, _, _, _, h, _, _, _ => by simp [Z9h] at h
 | .clo _ _ :: _, _, _, _, _, h, _, _, _ => by simp [Z9h] at h
 | .fn _ :: _, _, _, _, _, h, _, _, _ => by simp [Z9h] at h
 | .tup _ :: _, _, _, _, _, h, _, _, _ => by simp [Z9h] at h
 | .agr _ :: _, _, _, _, _, h, _, _, _ => by simp [Z9h] at h
 | .junk :: _, _, _, _, _, h, _, _, _ => by simp [Z9h] at h
def ZdF : List BC -> List Value -> Option Value
 | .s _ _ :: _, v :: _ => some v
 | _, _ => none
theorem Zkj {b : Nat} : ∀ {bcs : List BC} {cs : List Value}, All2 (BCRel W b) bcs cs -> bcs.length = cs.length
 | [], [], _ => rfl
 | _ :: _, _ :: _, ⟨_, h⟩ => by simp [Zkj h]
theorem ZrB {e : TypeId} {b : Nat} {cs : Array Value} {bcs : List BC} {pvs : List PV} {avs : List Value} (hsh : Zss bcs = true) (hc : W.heap[b]? = some (.cells cs e (0, 0))) (hb : All2 (BCRel W b) bcs cs.toList) (ha : All2 (ArgB W b) pvs avs) :
  ∃ ρ, ρ 0 = .pointer (some ⟨b, 0, none⟩) /\ All2 (Rel P W (some (.pointer (some ⟨b, 0, none⟩), ZdF bcs cs.toList)) ρ (ZaW e bcs pvs).heap) (.ptr 0 0 :: Z4Z 1 pvs) (.pointer (some ⟨b, 0, none⟩) :: avs) /\
   (∀ id bl, (ZaW e bcs pvs).heap id = some bl -> BRel P W (some (.pointer (some ⟨b, 0, none⟩), ZdF bcs cs.toList)) W ρ (ZaW e bcs pvs).heap id bl /\ ((ownB bl = true -> id = 0) /\ nh bl = true)) /\ ∀ v, ZdF bcs cs.toList = some v -> ((ZaW e bcs pvs).heap 1).isSome = true /\ ρ 1 = v := by
 have hM : mB (some (Value.pointer (some ⟨b, 0, none⟩), ZdF bcs cs.toList)) = some b := rfl
 obtain ⟨ρ0, h1, h2⟩ := Zld (P := P) (W := W) (M := some (.pointer (some ⟨b, 0, none⟩), ZdF bcs cs.toList)) hM pvs avs 1 ha
 let sv : Value := match cs.toList with | v :: _ => v | [] => undef
 let ρ : Nat -> Value := fun x => if x = 0 then .pointer (some ⟨b, 0, none⟩) else if x = 1 then sv else ρ0 x
 have hH : ∀ x, (ZaW e bcs pvs).heap x = if x = 0 then some (.box e (bcSV bcs)) else match look (Zc3 bcs) x with | some bl => some bl | none => look (ZG 1 pvs) x := by
  intro x
  show look ((0, .box e (bcSV bcs)) :: (Zc3 bcs ++ ZG 1 pvs)) x = _
  simp only [look]
  by_cases e0 : x = 0
  ·subst e0; simp
  ·rw [nbeq e0, cond_false, if_neg e0, Zvj]
 have hbk : ∀ x bl, look (Zc3 bcs) x = some bl -> x = 1 /\ ∃ m c l, bcs = .s m c :: l /\ bl = .ros m c := by
  intro x bl hx
  match bcs, hx with
  | .s m c :: l, hx =>
   simp only [Zc3, look] at hx
   by_cases e1 : x = 1
   ·subst e1
    simp at hx
    exact ⟨rfl, m, c, l, rfl, hx.symm⟩
   ·rw [nbeq e1, cond_false] at hx; cases hx
  | .v _ :: l, hx => cases hx
  | [], hx => cases hx
 have hlow : ∀ x, x < 4 -> look (ZG 1 pvs) x = none := by
  intro x hx
  cases hb : look (ZG 1 pvs) x with
  | none => rfl
  | some bl => have := ZwS pvs 1 x bl hb; omega
 have hst : ∀ id, (look (ZG 1 pvs) id).isSome = true -> ((ZaW e bcs pvs).heap id).isSome = true /\ ρ id = ρ0 id := by
  intro id hid
  have h4 : ¬ id < 4 := fun hlt => by rw [hlow id hlt] at hid; cases hid
  refine ⟨?_, ?_⟩
  ·rw [hH, if_neg (by omega)]
   cases look (Zc3 bcs) id with
   | some bl => rfl
   | none => exact hid
  ·show (if id = 0 then _ else if id = 1 then sv else ρ0 id) = _
   rw [if_neg (by omega), if_neg (by omega)]
 have Zc7 : All2 (Rel P W (some (.pointer (some ⟨b, 0, none⟩), ZdF bcs cs.toList)) ρ (ZaW e bcs pvs).heap) (bcSV bcs) cs.toList := by
  match bcs, hb, hsh with
  | .s m c :: l, hb, hsh =>
   cases hcs : cs.toList with
   | nil => rw [hcs] at hb; cases hb
   | cons v vs =>
    rw [hcs] at hb
    refine ⟨⟨?_, ?_⟩, Zex hsh hb.2⟩
    ·rw [hH, if_neg (by omega)]
     simp [Zc3, look]
    ·show v = (if 1 = 0 then _ else if 1 = 1 then sv else ρ0 1)
     simp [sv, hcs]
  | .v x :: l, hb, hsh => exact Zex hsh hb
  | [], hb, hsh => exact Zex hsh hb
 refine ⟨ρ, rfl, ⟨⟨by rw [hH, if_pos rfl]; rfl, b, 0, rfl, rfl⟩, h1.mono fun _ _ => Rel.mono hst⟩, fun id bl hbl => ?_, ?_⟩
 ·rw [hH] at hbl
  by_cases e0 : id = 0
  ·subst e0
   simp at hbl
   subst hbl
   exact ⟨⟨b, cs, rfl, .inr rfl, hc, Zc7⟩, fun _ => rfl, rfl⟩
  ·rw [if_neg e0] at hbl
   cases hk : look (Zc3 bcs) id with
   | some bl' =>
    rw [hk] at hbl
    simp only [Option.some.injEq] at hbl; subst hbl
    obtain ⟨rfl, m, c, l, rfl, rfl⟩ := hbk id _ hk
    refine ⟨?_, fun h => (by cases h), rfl⟩
    cases hcs : cs.toList with
    | nil => rw [hcs] at hb; cases hb
    | cons v vs =>
     rw [hcs] at hb
     show Z16 W (some b) (if 1 = 0 then _ else if 1 = 1 then sv else ρ0 1) m c
     have : (if (1 : Nat) = 0 then (Value.pointer (some ⟨b, 0, none⟩)) else if (1 : Nat) = 1 then sv else ρ0 1) = v := by simp [sv, hcs]
     rw [this]
     exact hb.1
   | none =>
    rw [hk] at hbl
    obtain ⟨m, c, rfl, hros⟩ := h2 id bl hbl
    refine ⟨?_, fun h => (by cases h), rfl⟩
    show Z16 W (some b) (ρ id) m c
    rw [(hst id (by rw [show look (ZG 1 pvs) id = some (.ros m c) from hbl]; rfl)).2]
    exact hros
 ·intro v hv
  match bcs, hv, hH with
  | .s m c :: l, hv, hH =>
   cases hcs : cs.toList with
   | nil => rw [hcs] at hv; cases hv
   | cons v' vs =>
    rw [hcs] at hv
    obtain rfl : v' = v := by simpa [ZdF] using hv
    refine ⟨?_, ?_⟩
    ·rw [hH, if_neg (by omega)]
     simp [Zc3, look]
    ·show (if 1 = 0 then _ else if 1 = 1 then sv else ρ0 1) = v'
     simp [sv, hcs]
  | .v _ :: l, hv, _ => simp [ZdF] at hv
  | [], hv, _ => simp [ZdF] at hv
theorem Zqi {α : Type} {fu : Code -> Nat} {dec : List Value × List BC -> Option α} {enc : α -> List Value × List BC} (hde : ∀ y x, dec y = some x -> y = enc x) (hS : ZJ P S) (hm : P.follows .mixedOrders = true) {f : Nat} {fn : Func} (hf : P.funcs[f]? = some fn) (hn : fn.ntmps = n) (hb : fn.body.isSome = true) (hok : Z64 S (Zb P f) = true)
  {e : TypeId} {b : Nat} {cs : Array Value} {bcs : List BC} {pvs : List PV} {avs : List Value} {x : α} (hG : GOK W) (hfar : gvars.length <= b) (hc : W.heap[b]? = some (.cells cs e (0, 0))) (hbc : All2 (BCRel W b) bcs cs.toList) (ha : All2 (ArgB W b) pvs avs) (h : Zat P S f n fu dec e bcs pvs = some x) :
  Calls P f (.pointer (some ⟨b, 0, none⟩) :: avs).toArray W fun y W' => y = .returned (Zjg (enc x).1) /\ W'.heap[b]? = some (.cells (newC (enc x).2 cs.toList).toArray e (0, 0)) /\ W.grownBy W' (some b) := by
 subst hn
 obtain ⟨cd, hb⟩ := Option.isSome_iff_exists.1 hb
 have hbody : Zb P f = cd := by unfold Zb; rw [hf]; dsimp only; rw [hb]
 rw [hbody] at hok
 unfold Zat at h
 split at h
 ·rename_i hle
  simp only [Bool.and_eq_true] at hle
  obtain ⟨hle, hsh⟩ := hle
  rw [hbody] at h
  have hle := nle hle
  have Z5e := ha.len
  obtain ⟨ρ, hρ0, hslots, hheap, hρ1⟩ := ZrB (P := P) hsh hc hbc ha
  refine calls_of_wp hf hb ?_
  have hR : R P W (some (.pointer (some ⟨b, 0, none⟩), ZdF bcs cs.toList)) fn.ntmps (ZaW e bcs pvs) { tmps := (.pointer (some ⟨b, 0, none⟩) :: avs).toArray ++ Array.replicate (fn.ntmps - (Value.pointer (some ⟨b, 0, none⟩) :: avs).toArray.size) undef, defers := [] } W ρ := by
   refine ⟨World.grownBy.refl W _, by simp; omega, rfl, fun t => ?_, fun id bl hbl => (hheap id bl hbl).1, fun i j bi bj g hij hi hj oi oj => ?_, fun i bi g hi hh => (Zwa (hheap i bi hi).2.2 hh).elim, fun v0 hv0 => ?_⟩
   rotate_right
   ·obtain rfl : (Value.pointer (some ⟨b, 0, none⟩), ZdF bcs cs.toList) = v0 := by simpa using hv0
    exact ⟨by omega, ⟨rfl, hρ0⟩, hρ1⟩
   ·show Rel P W _ ρ _ ((SV.ptr 0 0 :: Z4Z 1 pvs).getD t .junk) _
    rw [List.getD_eq_getElem?_getD]
    cases ht : (SV.ptr 0 0 :: Z4Z 1 pvs)[t]? with
    | none => exact True.intro
    | some y =>
     obtain ⟨u, hu, hrel⟩ := hslots.get ht
     have hlt : t < (Value.pointer (some ⟨b, 0, none⟩) :: avs).length := (List.getElem?_eq_some_iff.1 hu).1
     have : ((Value.pointer (some ⟨b, 0, none⟩) :: avs).toArray ++ Array.replicate (fn.ntmps - (Value.pointer (some ⟨b, 0, none⟩) :: avs).toArray.size) undef).getD t undef = u := by
      rw [Array.getD_eq_getD_getElem?, Array.getElem?_append_left (by simpa using hlt)]
      rw [List.getElem?_toArray, hu]
      rfl
     rw [this]
     exact hrel
   ·exact absurd (((hheap i bi hi).2.1 oi).trans ((hheap j bj hj).2.1 oj).symm) hij
  refine Zlt ⟨hS, hG, fun g hg => by
   obtain rfl : b = g := by simpa [mB, Z07, atOf] using hg
   exact hfar⟩ hm cd (ZaW e bcs pvs) _ hok h _ W ρ hR _ fun y s' a' w' ρ' hR' hk => ?_
  have fin : (match P.funcs[f]? with
   | some fn => match resV P s' fn.results.toList, s'.heap 0 with
    | some vs, some (.box e' cells) => match Zvw bcs cells with
     | some bcs' => if (Nat.beq e' e && Zhb bcs bcs') = true then dec (vs, bcs') else none
     | none => none
    | _, _ => none
   | none => none) = some x -> a'.defers = [] /\ ∃ u, (results fn a'.tmps).run P w' = .ok u w' /\ Ending.returned u = .returned (Zjg (enc x).1) /\ w'.heap[b]? = some (.cells (newC (enc x).2 cs.toList).toArray e (0, 0)) /\ W.grownBy w' (some b) := by
   intro hk2
   rw [hf] at hk2
   dsimp only at hk2
   split at hk2
   ·rename_i vs e' cells hres hhp
    split at hk2
    ·rename_i bcs' hout
     split at hk2
     ·rename_i hck
      simp only [Bool.and_eq_true] at hck
      have q1 := neq hck.1
      subst q1
      have hx := hde _ _ hk2
      obtain ⟨g, cs', k1, k2, k3, k4⟩ := hR'.heap 0 _ hhp
      have hv := (hR'.fix _ rfl).2.1.2
      rw [hv] at k1
      obtain rfl : b = g := by simpa using k1
      have hnew : newC bcs' cs.toList = cs'.toList := by
       have hfix := (hR'.fix _ rfl).2.2
       match bcs, hout, hck.2, hbc, hfix with
       | .v y :: l, hout, hs, hbc, _ => exact Zew (show Z9h cells = some bcs' from hout) hs (Zkj hbc) k4
       | [], hout, hs, hbc, _ => exact Zew (show Z9h cells = some bcs' from hout) hs (Zkj hbc) k4
       | .s m c :: l, hout, hs, hbc, hfix =>
        match cells, hout, k4 with
        | .row 1 :: cl, hout, k4 =>
         simp only [Zvw] at hout
         split at hout
         ·rename_i m' hm'
          simp only [Option.some.injEq] at hout; subst hout
          cases hcs : cs.toList with
          | nil => rw [hcs] at hbc; cases hbc
          | cons v vs' =>
           rw [hcs] at hbc
           cases hcs' : cs'.toList with
           | nil => rw [hcs'] at k4; cases k4
           | cons v' vs'' =>
            rw [hcs'] at k4
            obtain ⟨⟨_, hv1⟩, hrest⟩ := k4
            have : v' = v := by rw [hv1]; exact (hfix v (by rw [hcs]; rfl)).2
            show v :: newC m' vs' = v' :: vs''
            rw [this, Zew hm' hs (Zkj hbc.2) hrest]
         ·cases hout
        | [], hout, k4 => cases hout
      refine ⟨hR'.defers, _, Zpl hR' hres, by rw [<- hx], ?_, hR'.grown⟩
      rw [<- hx]
      show w'.heap[b]? = some (.cells (newC bcs' cs.toList).toArray e' (0, 0))
      rw [hnew, k3]
     ·cases hk2
    ·cases hk2
   ·cases hk2
  unfold finP at hk
  cases y with
  | normal => exact fin hk
  | exit id => cases hk
  | ret => exact fin hk
 ·cases h
theorem Z5k {α : Type} {dec : List Value × List BC -> Option α} {enc : α -> List Value × List BC} {f : Nat} {run : PRun} {fn : Func} (hde : ∀ y x, dec y = some x -> y = enc x) (hS : ZJ P S) (hm : P.follows .mixedOrders = true) (hf : P.funcs[f]? = some fn) (hn : fn.ntmps = n) (hb : fn.body.isSome = true) (hok : Z64 S (Zb P f) = true)
  (h : ∀ e bcs pvs rs bcs', run e bcs pvs = some (true, rs, bcs') -> ∃ (fu : Code -> Nat) (x : α), (rs, bcs') = enc x /\ Zat P S f n fu dec e bcs pvs = some x) : Z7E P f run := by
 intro W e b cs bcs pvs avs rs bcs' hG hfar hc hbc ha hrun _
 obtain ⟨fu, x, h1, h2⟩ := h e bcs pvs rs bcs' hrun
 have := Zqi hde hS hm hf hn hb hok hG hfar hc hbc ha h2
 rw [<- h1] at this
 exact this
def Zoo (n : Nat) (c : Cells) : FSt := Tab.st ⟨[.row 1], [(0, .ros 0 (.ints [])), (1, .ros n c)]⟩
def finB {α : Type} (P : Program) (f : Nat) (dec : TypeId × List Value -> Option α) (x : Ex) (s : FSt) : Option α := match x with
 | .exit _ => none
 | _ => match P.funcs[f]? with
  | some fn => match fn.results.toList with
   | [.tmp t] => match s.slot t with
    | .ptr id 0 => match s.heap id with
     | some (.box e (.row 1 :: cells)) => match SV.vals cells with
      | some vals => dec (e, vals)
      | none => none
     | _ => none
    | _ => none
   | _ => none
  | none => none
def Zqg {α : Type} (P : Program) (S : Sums) (f n : Nat) (fu : Code -> Nat) (dec : TypeId × List Value -> Option α) (m : Nat) (c : Cells) : Option α :=
 if Nat.ble 1 n = true then exec P S n fu (Zb P f) (Zoo m c) (finB P f dec) else none
theorem Zqh {α : Type} {fu : Code -> Nat} {dec : TypeId × List Value -> Option α} {enc : α -> TypeId × List Value} (hde : ∀ y x, dec y = some x -> y = enc x) (hS : ZJ P S) (hm : P.follows .mixedOrders = true) {f : Nat} {fn : Func} (hf : P.funcs[f]? = some fn) (hn : fn.ntmps = n) (hb : fn.body.isSome = true) (hok : Z64 S (Zb P f) = true)
  {m : Nat} {c : Cells} {v : Value} {x : α} (hG : GOK W) (hv : Z16 W none v m c) (h : Zqg P S f n fu dec m c = some x) :
  Calls P f [v].toArray W fun y W' => ∃ b, y = .returned (.pointer (some ⟨b, 0, none⟩)) /\ W.heap.size <= b /\ W'.heap[b]? = some (.cells (v :: (enc x).2).toArray (enc x).1 (0, 0)) /\ W.grownBy W' none := by
 subst hn
 obtain ⟨cd, hb⟩ := Option.isSome_iff_exists.1 hb
 have hbody : Zb P f = cd := by unfold Zb; rw [hf]; dsimp only; rw [hb]
 rw [hbody] at hok
 unfold Zqg at h
 split at h
 ·rename_i hle
  rw [hbody] at h
  have hle := nle hle
  refine calls_of_wp hf hb ?_
  let ρ : Nat -> Value := fun x => if x = 0 then nilS else v
  have hH : ∀ id bl, (Zoo m c).heap id = some bl -> (id = 0 /\ bl = .ros 0 (.ints [])) \/ (id = 1 /\ bl = .ros m c) := by
   intro id bl hbl
   have hbl : look [(0, Blk.ros 0 (.ints [])), (1, .ros m c)] id = some bl := hbl
   simp only [look] at hbl
   by_cases e0 : id = 0
   ·subst e0
    simp at hbl
    exact .inl ⟨rfl, hbl.symm⟩
   ·rw [nbeq e0, cond_false] at hbl
    by_cases e1 : id = 1
    ·subst e1
     simp at hbl
     exact .inr ⟨rfl, hbl.symm⟩
    ·rw [nbeq e1, cond_false] at hbl; cases hbl
  have hR : R P W (some (nilS, some v)) fn.ntmps (Zoo m c) { tmps := [v].toArray ++ Array.replicate (fn.ntmps - [v].toArray.size) undef, defers := [] } W ρ := by
   refine ⟨World.grownBy.refl W _, by simp; omega, rfl, fun t => ?_, fun id bl hbl => ?_, fun i j bi bj g hij hi hj oi oj => ?_, fun i bi g hi hh => (by rcases hH i bi hi with ⟨_, rfl⟩ | ⟨_, rfl⟩ <;> cases hh), fun v0 hv0 => ?_⟩
   ·show Rel P W _ ρ _ ([SV.row 1].getD t .junk) _
    match t with
    | 0 =>
     refine ⟨rfl, ?_⟩
     have : ([v].toArray ++ Array.replicate (fn.ntmps - [v].toArray.size) undef).getD 0 undef = v := by
      rw [Array.getD_eq_getD_getElem?, Array.getElem?_append_left (by simp)]
      rfl
     show ([v].toArray ++ Array.replicate (fn.ntmps - [v].toArray.size) undef).getD 0 undef = v
     exact this
    | t + 1 => exact True.intro
   ·rcases hH id bl hbl with ⟨rfl, rfl⟩ | ⟨rfl, rfl⟩
    ·exact ⟨True.intro, .inl ⟨rfl, rfl, rfl⟩⟩
    ·exact hv
   ·rcases hH i bi hi with ⟨_, rfl⟩ | ⟨_, rfl⟩ <;> cases oi
   ·obtain rfl : (nilS, some v) = v0 := by simpa using hv0
    exact ⟨by omega, ⟨rfl, rfl⟩, fun u hu => by
     obtain rfl : v = u := by simpa using hu
     exact ⟨rfl, rfl⟩⟩
  refine Zlt (M := some (nilS, some v)) ⟨hS, hG, fun g hg => by cases hg⟩ hm cd (Zoo m c) _ hok h _ W ρ hR _ fun y s' a' w' ρ' hR' hk => ?_
  have fin : (match P.funcs[f]? with
   | some fn => match fn.results.toList with
    | [.tmp t] => match s'.slot t with
     | .ptr id 0 => match s'.heap id with
      | some (.box e (.row 1 :: cells)) => match SV.vals cells with
       | some vals => dec (e, vals)
       | none => none
      | _ => none
     | _ => none
    | _ => none
   | none => none) = some x -> a'.defers = [] /\ ∃ u, (results fn a'.tmps).run P w' = .ok u w' /\ ∃ b, Ending.returned u = .returned (.pointer (some ⟨b, 0, none⟩)) /\ W.heap.size <= b /\ w'.heap[b]? = some (.cells (v :: (enc x).2).toArray (enc x).1 (0, 0)) /\ W.grownBy w' none := by
   intro hk2
   rw [hf] at hk2
   dsimp only at hk2
   split at hk2
   ·rename_i t hres
    split at hk2
    ·rename_i id hsl
     split at hk2
     ·rename_i e cells hhp
      split at hk2
      ·rename_i vals hvals
       have hx := hde _ _ hk2
       have hu : ∃ g o, atOf (ρ' id) = some (g, o) /\ a'.tmps.getD t undef = .pointer (some ⟨g, o + 0, none⟩) := by
        have := hR'.slots t
        rw [hsl] at this
        exact this.2
       obtain ⟨g, cs, k1, k2, k3, k4⟩ := hR'.heap id _ hhp
       obtain ⟨g', o', q1, q2⟩ := hu
       rw [k1] at q1
       obtain ⟨rfl, rfl⟩ : g = g' /\ 0 = o' := by simpa [atOf] using q1
       have hg : W.heap.size <= g := by
        rcases k2 with h | h
        ·exact h
        ·cases h
       have hcs : cs = (v :: vals).toArray := by
        apply Array.toList_inj.1
        cases hc : cs.toList with
        | nil => rw [hc] at k4; cases k4
        | cons y ys =>
         rw [hc] at k4
         obtain ⟨⟨_, k5⟩, k6⟩ := k4
         rw [k5, ((hR'.fix _ rfl).2.2 v rfl).2, Zey hvals k6]
       refine ⟨hR'.defers, .pointer (some ⟨g, 0, none⟩), ?_, g, rfl, hg, ?_, hR'.grown⟩
       ·have hr : fn.results = #[.tmp t] := by apply Array.toList_inj.1; exact hres
        unfold results
        rw [hr]
        rw [Array.getD_eq_getD_getElem?] at q2
        simp [q2]
       ·rw [<- hx]
        rw [k3, hcs]
      ·cases hk2
     ·cases hk2
    ·cases hk2
   ·cases hk2
  unfold finB at hk
  cases y with
  | normal => exact fin hk
  | exit id => cases hk
  | ret => exact fin hk
 ·cases h
theorem Zub {α : Type} {dec : TypeId × List Value -> Option α} {enc : α -> TypeId × List Value} {f : Nat} {run : BRun} {fn : Func} (hde : ∀ y x, dec y = some x -> y = enc x) (hS : ZJ P S) (hm : P.follows .mixedOrders = true) (hf : P.funcs[f]? = some fn) (hn : fn.ntmps = n) (hb : fn.body.isSome = true) (hok : Z64 S (Zb P f) = true)
  (h : ∀ m c e vals, run [.s m c] = some (true, e, vals) -> ∃ (fu : Code -> Nat) (x : α), (e, vals) = enc x /\ Zqg P S f n fu dec m c = some x) : Zod P f run := by
 intro W m c v e vals hG hv hrun
 obtain ⟨fu, x, h1, h2⟩ := h m c e vals hrun
 have := Zqh hde hS hm hf hn hb hok hG hv h2
 rw [<- h1] at this
 exact this
end

theorem Ztj {α : Type} (x : α) : ∃ y : α, y = x := ⟨x, rfl⟩
noncomputable def shut {α : Type} (x : α) : α := Classical.choose (Ztj x)
theorem Z1e {α : Type} (x : α) : shut x = x := Classical.choose_spec (Ztj x)
abbrev RunP := List PV -> Option (Bool × List TR)
abbrev bs (l : List UInt8) : ByteArray := ⟨⟨l⟩⟩
def Z2p (n : Nat) (l : List Int) : Bool := lenB n 1 l && l.all (fun x => decide (0 <= x) && decide (x < 256))
def srcB (n : Nat) (l : List Int) (s : Int × Int) : Bool := Z2p n l && decide (0 <= s.1)
theorem ZgE {n : Nat} {l : List Int} (h : Z2p n l = true) : l.length = n /\ n <= 100000000000 /\ ∀ x ∈ l, 0 <= x /\ x < 256 := by
 unfold Z2p at h
 rw [Bool.and_eq_true] at h
 obtain ⟨h1, h2⟩ := Z53 h.1
 refine ⟨by omega, h2, fun x hx => ?_⟩
 have := List.all_eq_true.1 h.2 x hx
 simpa using this
theorem Z2a {n : Nat} {l : List Int} {s : Int × Int} (h : srcB n l s = true) : Z2p n l = true /\ 0 <= s.1 := by
 unfold srcB at h
 rw [Bool.and_eq_true] at h
 exact ⟨h.1, of_decide_eq_true h.2⟩
theorem Zpw {n : Nat} {l : List Int} {s : Int × Int} (h : Z2p n l = true) (h2 : 0 <= s.1) : srcB n l s = true := by
 unfold srcB
 rw [h, decide_eq_true h2]
 rfl
theorem Z6R {α : Type} {c : Prop} [Decidable c] {P : α -> Prop} {x y : α} (h1 : P x) (h2 : P y) : P (if c then x else y) := by
 split
 ·exact h1
 ·exact h2
theorem Zff {a b : Bool} (h : (a && b) = true) : a = true := by rw [Bool.and_eq_true] at h; exact h.1
theorem Zfg {a b : Bool} (h : (a && b) = true) : b = true := by rw [Bool.and_eq_true] at h; exact h.2
theorem Zun (x : Int) : 0 <= andI .u64 x 16777215 /\ andI .u64 x 16777215 <= 16777215 := by
 have h : ((BitVec.ofInt (IntKind.bits .u64) x &&& BitVec.ofInt (IntKind.bits .u64) 16777215).toNat) <= 16777215 := by
  rw [BitVec.toNat_and]
  exact Nat.and_le_right
 have hu : ∀ m : Nat, m <= 16777215 -> IntKind.u64.wrap (m : Int) = (m : Int) := by
  intro m hm
  have h1 : IntKind.u64.wrap (m : Int) = (m : Int) % 18446744073709551616 := rfl
  rw [h1]
  omega
 unfold andI
 rw [hu _ h]
 constructor
 ·exact Int.natCast_nonneg _
 ·exact Int.ofNat_le.2 h
theorem Zqr {l : List Int} {i : Nat} (h : i < l.length) : l.getD i 0 ∈ l := by
 rw [List.getD_eq_getElem?_getD, List.getElem?_eq_getElem h]
 exact List.getElem_mem h
theorem Z25 {x n : Int} (h : 0 <= x /\ x < n) : (decide (0 <= x) && decide (x < n)) = true := by
 rw [decide_eq_true h.1, decide_eq_true h.2]
 rfl
theorem Z1n {a b : Nat} (h : a <= b) : Nat.ble a b = true := by rw [Nat.ble_eq]; exact h
theorem Zst {n : Nat} (h : Nat.blt 0 n = true) : 0 < n := by
 rw [show Nat.blt 0 n = Nat.ble 1 n from rfl, Nat.ble_eq] at h
 omega
def bytB (n : Nat) (l : List Int) : Bool := Nat.beq l.length n && l.all (fun x => decide (0 <= x) && decide (x < 256))
theorem ZvY {n : Nat} {l : List Int} (h : l.length = n) (hb : ∀ x ∈ l, 0 <= x /\ x < 256) : bytB n l = true := by
 subst h
 unfold bytB
 rw [Nat.beq_refl, Bool.true_and, List.all_eq_true]
 intro x hx
 simpa using hb x hx
theorem ZpZ {n : Nat} {l : List Int} (h : bytB n l = true) (hn : n <= 4096) : Z2p n l = true := by
 unfold bytB at h
 rw [Bool.and_eq_true] at h
 unfold Z2p
 rw [h.2, Bool.and_true]
 have := Nat.eq_of_beq_eq_true h.1
 unfold lenB
 rw [this, Nat.one_mul, Nat.beq_refl, Bool.true_and]
 exact Z1n (by omega)

end Go.Proofs.Ytfclaacaphpoaaa
