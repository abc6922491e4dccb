import Derived.Test.YtikfglnhkjoioaaDi
set_option linter.unusedSimpArgs false
set_option linter.unusedVariables false
namespace Go.Proofs.Ytikfglnhkjoioaa
open Go.RowKit
/-! Plain helpers for the functions' own forms. -/
abbrev P2 := Int × Int
abbrev P3 := Int × Int × Int
abbrev P4 := Int × Int × Int × Int
abbrev P6 := Int × Int × Int × Int × Int × Int
def Pr (p : Int) : Prop := 1 ≤ p ∧ p ≤ 31
theorem prB_Pr {p : Int} (h : prB p = true) : Pr p := by
  unfold prB at h
  simp at h
  exact h
theorem Pr_prB {p : Int} (h : Pr p) : prB p = true := by
  unfold prB Pr at *
  simp
  exact h
theorem Pr.ne {p : Int} (h : Pr p) : p ≠ 0 := by unfold Pr at h; omega
theorem tmod_bd (x p : Int) (h1 : 1 ≤ p) : -p < x.tmod p ∧ x.tmod p < p := by
  have := Int.tmod_lt_of_pos x (show 0 < p by omega)
  have h2 := Int.lt_tmod_of_pos x (show 0 < p by omega)
  omega
theorem rest_eq (x p : Int) : (x.tmod p + p) % p = x % p := by
  rw [Int.add_emod_right]
  have h := Int.mul_tdiv_add_tmod x p
  conv => rhs; rw [← h, Int.add_comm, Int.add_mul_emod_self_left]
theorem rest_raw {p : Int} (hp : prB p = true) (x : Int) : (wrap64 (x.tmod p + p)).tmod p = x % p := by
  obtain ⟨h1, h2⟩ := prB_Pr hp
  obtain ⟨t1, t2⟩ := tmod_bd x p h1
  have : wrap64 (x.tmod p + p) = x.tmod p + p := by unfold wrap64; omega
  rw [this, Int.tmod_eq_emod_of_nonneg (by omega), rest_eq]
theorem wrap_add1 {k n : Nat} (h : k < n) (hn : n ≤ 100000000001) : wI ((k : Int) + 1) = ((k + 1 : Nat) : Int) := by
  rw [wI_eq]; unfold wrap64; omega
def rows2 (n : Nat) (l : List Int) : List P2 := (List.range n).map fun k => (l.getD (k * 2) 0, l.getD (k * 2 + 1) 0)
def rows3 (n : Nat) (l : List Int) : List P3 := (List.range n).map fun k => (l.getD (k * 3) 0, l.getD (k * 3 + 1) 0, l.getD (k * 3 + 2) 0)
/-- A check of every member of a slice. -/
theorem scan_go {α : Type} {L : Nat → Int → Option α} {n : Nat} {q : Nat → Bool} {bad good : α} (hL : ∀ f k : Nat, k < n → L (f + 1) (k : Int) = if (!(q k)) = true then some bad else L f ((k + 1 : Nat) : Int)) (hE : ∀ f : Nat, L (f + 1) (n : Int) = some good) :
    ∀ (m k f : Nat), k + m = n → m < f → L f (k : Int) = some (if (List.range' k m).all q = true then good else bad)
  | m, k, 0, _, h => absurd h (Nat.not_lt_zero m)
  | 0, k, f + 1, h, _ => by
    obtain rfl : k = n := by omega
    rw [hE]; rfl
  | m + 1, k, f + 1, h, hf => by
    rw [hL f k (by omega), scan_go hL hE m (k + 1) f (by omega) (by omega), List.range'_succ, List.all_cons]
    cases q k <;> simp only [Bool.not_false, Bool.not_true, if_true, Bool.false_and, Bool.true_and, Bool.false_eq_true, if_false]
theorem scan {α : Type} {L : Nat → Int → Option α} {n F : Nat} {q : Nat → Bool} {bad good : α} (hF : n < F) (hL : ∀ f k : Nat, k < n → L (f + 1) (k : Int) = if (!(q k)) = true then some bad else L f ((k + 1 : Nat) : Int)) (hE : ∀ f : Nat, L (f + 1) (n : Int) = some good) :
    L F 0 = some (if (List.range n).all q = true then good else bad) := by
  rw [List.range_eq_range']
  exact scan_go hL hE n 0 F (by omega) hF
theorem all_rows3 (n : Nat) (l : List Int) (g : P3 → Bool) : (rows3 n l).all g = (List.range n).all fun k => g (l.getD (k * 3) 0, l.getD (k * 3 + 1) 0, l.getD (k * 3 + 2) 0) := by
  unfold rows3; rw [List.all_map]; rfl
theorem all_rows2 (n : Nat) (l : List Int) (g : P2 → Bool) : (rows2 n l).all g = (List.range n).all fun k => g (l.getD (k * 2) 0, l.getD (k * 2 + 1) 0) := by
  unfold rows2; rw [List.all_map]; rfl
theorem all_rows1 (n : Nat) (l : List Int) (h : l.length = n) (g : Int → Bool) : l.all g = (List.range n).all fun k => g (l.getD (k * 1) 0) := by
  subst h
  have : l = (List.range l.length).map fun k => l.getD (k * 1) 0 := by
    apply List.ext_getElem (by simp)
    intro i h1 h2
    simp [List.getD_eq_getElem?_getD, h1]
  conv => lhs; rw [this]
  rw [List.all_map]; rfl
theorem leb {a b : Nat} (h : a ≤ b) : Nat.ble a b = true := Nat.ble_eq_true_of_le h
def lenB (n sz : Nat) (l : List Int) : Bool := Nat.beq l.length (sz * n) && Nat.ble n 100000000000
theorem lenB_ok {n sz : Nat} {l : List Int} (h : lenB n sz l = true) : l.length = sz * n ∧ n ≤ 100000000000 := by
  unfold lenB at h
  simp at h
  exact ⟨h.1, h.2⟩
/-! Slices that are marked. -/
def seq1 (m : Nat) : List Int := (List.range m).map fun i => ((i : Nat) : Int) + 1
theorem seq1_len (m : Nat) : (seq1 m).length = m := by simp [seq1]
theorem list_of_getD {l r : List Int} (h : l.length = r.length) (hp : ∀ t, t < l.length → l.getD t 0 = r.getD t 0) : l = r := by
  apply List.ext_getElem h
  intro i h1 h2
  have := hp i h1
  simpa [List.getD_eq_getElem?_getD, h1, h2] using this
theorem seq1_getD {m t : Nat} (h : t < m) : (seq1 m).getD t 0 = (t : Int) + 1 := by
  simp [seq1, List.getD_eq_getElem?_getD, h]
theorem seq1_of {m : Nat} {l : List Int} (hl : l.length = m) (hp : ∀ t, t < m → l.getD t 0 = (t : Int) + 1) : l = seq1 m :=
  list_of_getD (by rw [hl, seq1_len]) fun t ht => by rw [hp t (by omega), seq1_getD (by omega)]
theorem getD_set {l : List Int} {i t : Nat} {v : Int} (hi : i < l.length) : (l.set i v).getD t 0 = if i = t then v else l.getD t 0 := by
  by_cases e : i = t
  · subst e
    simp [List.getD_eq_getElem?_getD, hi]
  · simp [List.getD_eq_getElem?_getD, List.getElem?_set, e]
theorem wrapS {x : Int} (h : -1000000000000 ≤ x ∧ x ≤ 1000000000000) : wrap64 x = x := by unfold wrap64; omega
theorem lenB_of {n sz : Nat} {l : List Int} (h : l.length = sz * n) (hn : n ≤ 100000000000) : lenB n sz l = true := by
  unfold lenB
  simp [h, hn]
theorem and_one {b : Bool} (h : b = true) : (b && ((1 : Int) == 1)) = true := by rw [h]; rfl
theorem and_two {a b : Bool} (h : a = true) (k : b = true) : (a && b) = true := by rw [h, k]; rfl
theorem lenB_seq {n sz m : Nat} {l : List Int} (h : lenB n sz l = true) (hm : m = sz * n) : lenB n sz (seq1 m) = true := lenB_of (by rw [seq1_len, hm]) (lenB_ok h).2

/-! Functions that write the cells of their first argument. -/
section
variable {P : Program} {S : Sums} {W : World} {M : MV} {n : Nat} {s s1 s2 : FSt} {a : Act} {w w' : World} {ρ ρ' : Nat → Value}
def finM {α : Type} (P : Program) (f : Nat) (e : TypeId) (sz : Nat) (dec : Value × Cells → Option α) (x : Ex) (s : FSt) : Option α := match x with
  | .exit _ => none
  | _ => match P.funcs[f]? with
    | some fn => match fn.results.toList with
      | [.tmp t] => match s.slot t, s.heap 0 with
        | .val v, some (.row e' sz' m' c) => if (Nat.beq e' e && Nat.beq sz' sz) = true then dec (v, c) else none
        | _, _ => none
      | _ => none
    | none => none
def entryM (e : TypeId) (sz m : Nat) (c : Cells) (vs : List Value) : FSt := Tab.st ⟨.row 0 :: vs.map SV.val, [(0, .row e sz m c)]⟩
def execM {α : Type} (P : Program) (S : Sums) (f n : Nat) (fu : Code → Nat) (dec : Value × Cells → Option α) (e : TypeId) (sz m : Nat) (c : Cells) (vs : List Value) : Option α :=
  if Nat.ble (vs.length + 1) n = true then exec P S n fu (bodyF P f) (entryM e sz m c vs) (finM P f e sz dec) else none
theorem own_len {w1 w2 : World} {b1 b2 e1 e2 z1 z2 n1 n2 : Nat} {v : Value} {xs ys : List Value} (h : w1.ownsRow b1 e1 z1 v n1 xs) (k : w2.ownsRow b2 e2 z2 v n2 ys) : n1 = n2 := by
  rcases h.2 with ⟨rfl, rfl⟩ | ⟨g, cap, cur, rfl, _⟩
  · rcases k.2 with ⟨_, rfl⟩ | ⟨g', cap', cur', h', _⟩
    · rfl
    · simp at h'
  · rcases k.2 with ⟨h', _⟩ | ⟨g', cap', cur', h', _⟩
    · simp at h'
    · simp only [Value.slice.injEq] at h'
      exact h'.2.1
theorem execM_sound {α : Type} {fu : Code → Nat} {dec : Value × Cells → Option α} {enc : α → Value × Cells} (hde : ∀ y x, dec y = some x → y = enc x) (hS : SumsOK P S) (hm : P.follows .mixedOrders = true) {f : Nat} {fn : Func} (hf : P.funcs[f]? = some fn) (hn : fn.ntmps = n) (hb : fn.body.isSome = true) (hok : codeOK S (bodyF P f) = true)
    {e : TypeId} {sz m : Nat} {c : Cells} {v : Value} {vs : List Value} {x : α} (hG : GOK W) (hfar : ∀ g, ownOf v = some g → gvars.length ≤ g) (hc : c.ok) (hown : W.ownsRow 0 e sz v m c.toVals) (h : execM P S f n fu dec e sz m c vs = some x) :
    Calls P f (v :: vs).toArray W fun y W' => y = .returned (enc x).1 ∧ (enc x).2.ok ∧ W'.ownsRow 0 e sz v m (enc x).2.toVals ∧ W.grownBy W' (ownOf v) := by
  subst hn
  obtain ⟨cd, hb⟩ := Option.isSome_iff_exists.1 hb
  have hbody : bodyF P f = cd := by unfold bodyF; rw [hf]; dsimp only; rw [hb]
  rw [hbody] at hok
  unfold execM at h
  split at h
  · rename_i hle
    rw [hbody] at h
    have hle := nle hle
    refine calls_of_wp hf hb ?_
    have hslots : All2 (Rel P W (some (v, none)) (fun _ => v) (entryM e sz m c vs).heap) (.row 0 :: vs.map SV.val) (v :: vs) := ⟨⟨rfl, rfl⟩, rel_vals vs⟩
    have h0 : ∀ id b, (entryM e sz m c vs).heap id = some b → id = 0 ∧ b = .row e sz m c := by
      intro id b hb
      have hb : look [(0, Blk.row e sz m c)] id = some b := hb
      simp only [look] at hb
      by_cases e0 : id = 0
      · subst e0
        simp at hb
        exact ⟨rfl, hb.symm⟩
      · rw [nbeq e0, cond_false] at hb
        cases hb
    have hR : R P W (some (v, none)) fn.ntmps (entryM e sz m c vs) { tmps := (v :: vs).toArray ++ Array.replicate (fn.ntmps - (v :: vs).toArray.size) undef, defers := [] } W (fun _ => v) := by
      refine ⟨World.grownBy.refl W _, by simp; omega, rfl, fun t => ?_, fun id b hb => ?_, fun i j bi bj g hij hi hj oi oj => ?_, fun i bi g hi hh => (by obtain ⟨rfl, rfl⟩ := h0 i bi hi; cases hh), fun v0 hv0 => by
        obtain rfl : (v, none) = v0 := by simpa using hv0
        exact ⟨by omega, ⟨rfl, rfl⟩, fun u hu => by cases hu⟩⟩
      · show Rel P W (some (v, none)) (fun _ => v) _ ((SV.row 0 :: vs.map SV.val).getD t .junk) _
        rw [List.getD_eq_getElem?_getD]
        cases ht : (SV.row 0 :: vs.map SV.val)[t]? with
        | none => exact True.intro
        | some y =>
          obtain ⟨u, hu, hrel⟩ := hslots.get ht
          have hlt : t < (v :: vs).length := (List.getElem?_eq_some_iff.1 hu).1
          have : ((v :: vs).toArray ++ Array.replicate (fn.ntmps - (v :: vs).toArray.size) undef).getD t undef = u := by
            rw [Array.getD_eq_getD_getElem?, Array.getElem?_append_left (by simpa using hlt)]
            rw [List.getElem?_toArray, hu]
            rfl
          rw [this]
          exact hrel
      · obtain ⟨rfl, rfl⟩ := h0 id b hb
        exact ⟨hc, hown, fun g hg => .inr hg⟩
      · exact absurd ((h0 i bi hi).1.trans (h0 j bj hj).1.symm) hij
    refine exec_sim (M := some (v, none)) ⟨hS, hG, hfar⟩ hm cd (entryM e sz m c vs) _ hok h _ W _ hR _ fun y s' a' w' ρ' hR' hk => ?_
    have fin : (match P.funcs[f]? with
      | some fn => match fn.results.toList with
        | [.tmp t] => match s'.slot t, s'.heap 0 with
          | .val v, some (.row e' sz' m' c) => if (Nat.beq e' e && Nat.beq sz' sz) = true then dec (v, c) else none
          | _, _ => none
        | _ => none
      | none => none) = some x → a'.defers = [] ∧ ∃ u, (results fn a'.tmps).run P w' = .ok u w' ∧ Ending.returned u = .returned (enc x).1 ∧ (enc x).2.ok ∧ w'.ownsRow 0 e sz v m (enc x).2.toVals ∧ W.grownBy w' (ownOf v) := by
      intro hk2
      rw [hf] at hk2
      dsimp only at hk2
      split at hk2
      · rename_i t hres
        split at hk2
        · rename_i u e' sz' m' c' hsl hhp
          split at hk2
          · rename_i hck
            simp only [Bool.and_eq_true] at hck
            have q1 := neq hck.1; have q2 := neq hck.2
            subst q1; subst q2
            have hx := hde _ _ hk2
            have hu : a'.tmps.getD t undef = u := by have := hR'.slots t; rw [hsl] at this; exact this
            obtain ⟨k1, k2, k3⟩ := hR'.heap 0 _ hhp
            have hv := (hR'.fix _ rfl).2.1.2
            rw [hv] at k2
            have q3 := own_len k2 hown
            subst q3
            refine ⟨hR'.defers, u, ?_, by rw [← hx], by rw [← hx]; exact k1, by rw [← hx]; exact k2, hR'.grown⟩
            have hr : fn.results = #[.tmp t] := by apply Array.toList_inj.1; exact hres
            unfold results
            rw [hr]
            rw [Array.getD_eq_getD_getElem?] at hu
            simp [hu]
          · cases hk2
        · cases hk2
      · cases hk2
    unfold finM at hk
    cases y with
    | normal => exact fin hk
    | exit id => cases hk
    | ret => exact fin hk
  · cases h
theorem soundM_of {α : Type} {dec : Value × Cells → Option α} {enc : α → Value × Cells} {f : Nat} {run : MRun} (hde : ∀ y x, dec y = some x → y = enc x) (hS : SumsOK P S) (hm : P.follows .mixedOrders = true) {fn : Func} (hf : P.funcs[f]? = some fn) (hn : fn.ntmps = n) (hb : fn.body.isSome = true) (hok : codeOK S (bodyF P f) = true)
    (h : ∀ e sz m c vs r c', run e sz m c vs = some (true, r, c') → ∃ (fu : Code → Nat) (x : α), (r, c') = enc x ∧ execM P S f n fu dec e sz m c vs = some x) : SoundM P f run := by
  intro W e sz m c v vs r c' hG hfar hc hown hrun
  obtain ⟨fu, x, h1, h2⟩ := h e sz m c vs r c' hrun
  have := execM_sound hde hS hm hf hn hb hok hG hfar hc hown h2
  rw [← h1] at this
  exact this
end

/-! Slices as lists of tuples, and loops that count up. -/
def flat2 (l : List P2) : List Int := l.flatMap fun a => [a.1, a.2]
def flat3 (l : List P3) : List Int := l.flatMap fun a => [a.1, a.2.1, a.2.2]
def R2 (l : List Int) (k : Nat) : P2 := (l.getD (k * 2) 0, l.getD (k * 2 + 1) 0)
def R3 (l : List Int) (k : Nat) : P3 := (l.getD (k * 3) 0, l.getD (k * 3 + 1) 0, l.getD (k * 3 + 2) 0)
theorem flat2_app (a b : List P2) : flat2 (a ++ b) = flat2 a ++ flat2 b := by simp [flat2]
theorem flat3_app (a b : List P3) : flat3 (a ++ b) = flat3 a ++ flat3 b := by simp [flat3]
theorem flat1_app (a b : List Int) : id (a ++ b) = id a ++ id b := rfl
theorem flat2_len (l : List P2) : (flat2 l).length = 2 * l.length := by
  induction l with
  | nil => rfl
  | cons a l ih => show (a.1 :: a.2 :: flat2 l).length = _; simp [ih]; omega
theorem flat3_len (l : List P3) : (flat3 l).length = 3 * l.length := by
  induction l with
  | nil => rfl
  | cons a l ih => show (a.1 :: a.2.1 :: a.2.2 :: flat3 l).length = _; simp [ih]; omega
theorem R2_flat : ∀ (l : List P2) (k : Nat), R2 (flat2 l) k = l.getD k (0, 0)
  | [], k => by simp [R2, flat2]
  | a :: l, 0 => rfl
  | a :: l, k + 1 => by
    have h := R2_flat l k
    unfold R2 at h ⊢
    rw [show (k + 1) * 2 = k * 2 + 1 + 1 from by omega]
    show ((a.1 :: a.2 :: flat2 l).getD (k * 2 + 1 + 1) 0, (a.1 :: a.2 :: flat2 l).getD (k * 2 + 1 + 1 + 1) 0) = _
    simp only [List.getD_cons_succ]
    exact h
theorem R3_flat : ∀ (l : List P3) (k : Nat), R3 (flat3 l) k = l.getD k (0, 0, 0)
  | [], k => by simp [R3, flat3]
  | a :: l, 0 => rfl
  | a :: l, k + 1 => by
    have h := R3_flat l k
    unfold R3 at h ⊢
    rw [show (k + 1) * 3 = k * 3 + 1 + 1 + 1 from by omega]
    show ((a.1 :: a.2.1 :: a.2.2 :: flat3 l).getD (k * 3 + 1 + 1 + 1) 0, (a.1 :: a.2.1 :: a.2.2 :: flat3 l).getD (k * 3 + 1 + 1 + 1 + 1) 0, (a.1 :: a.2.1 :: a.2.2 :: flat3 l).getD (k * 3 + 1 + 1 + 1 + 2) 0) = _
    simp only [List.getD_cons_succ]
    exact h
theorem map_getD {α : Type} (l : List α) (d : α) : (List.range l.length).map (fun k => l.getD k d) = l := by
  apply List.ext_getElem (by simp)
  intro i h1 h2
  simp [List.getD_eq_getElem?_getD, h2]
theorem rows2_flat2 (l : List P2) : rows2 l.length (flat2 l) = l := by
  have h : rows2 l.length (flat2 l) = (List.range l.length).map (fun k => l.getD k (0, 0)) := by
    unfold rows2
    apply List.map_congr_left
    intro k _
    exact R2_flat l k
  rw [h, map_getD]
theorem rows3_flat3 (l : List P3) : rows3 l.length (flat3 l) = l := by
  have h : rows3 l.length (flat3 l) = (List.range l.length).map (fun k => l.getD k (0, 0, 0)) := by
    unfold rows3
    apply List.map_congr_left
    intro k _
    exact R3_flat l k
  rw [h, map_getD]
def rows6 (n : Nat) (l : List Int) : List P6 := (List.range n).map fun k => (l.getD (k * 6) 0, l.getD (k * 6 + 1) 0, l.getD (k * 6 + 2) 0, l.getD (k * 6 + 3) 0, l.getD (k * 6 + 4) 0, l.getD (k * 6 + 5) 0)
theorem all_rows6 (n : Nat) (l : List Int) (g : P6 → Bool) : (rows6 n l).all g = (List.range n).all fun k => g (l.getD (k * 6) 0, l.getD (k * 6 + 1) 0, l.getD (k * 6 + 2) 0, l.getD (k * 6 + 3) 0, l.getD (k * 6 + 4) 0, l.getD (k * 6 + 5) 0) := by
  unfold rows6
  rw [List.all_map]
  rfl
theorem rows2_R (n : Nat) (l : List Int) : rows2 n l = (List.range n).map (R2 l) := rfl
theorem rows3_R (n : Nat) (l : List Int) : rows3 n l = (List.range n).map (R3 l) := rfl
theorem getD_range {α : Type} (l : List α) (d : α) (f : α → Bool) : ((List.range l.length).map (fun k => l.getD k d)).filter f = l.filter f := by rw [map_getD]
theorem filter_flat {α : Type} (l : List α) (q : α → Bool) : (l.flatMap fun a => if q a = true then [a] else []) = l.filter q := by
  induction l with
  | nil => rfl
  | cons a l ih => rw [List.flatMap_cons, ih, List.filter_cons]; cases q a <;> rfl
/-- The rows of a slice that a test lets through. -/
theorem keep2 (n : Nat) (l : List Int) (q : P2 → Bool) : ((List.range n).flatMap fun k => if q (R2 l k) = true then [R2 l k] else []) = (rows2 n l).filter q := by
  rw [rows2_R, ← filter_flat, List.flatMap_map]
theorem keep3 (n : Nat) (l : List Int) (q : P3 → Bool) : ((List.range n).flatMap fun k => if q (R3 l k) = true then [R3 l k] else []) = (rows3 n l).filter q := by
  rw [rows3_R, ← filter_flat, List.flatMap_map]
theorem keep1 (n : Nat) (l : List Int) (q : Int → Bool) : ((List.range n).flatMap fun k => if q (l.getD k 0) = true then [l.getD k 0] else []) = ((List.range n).map fun k => l.getD k 0).filter q := by
  rw [← filter_flat, List.flatMap_map]
theorem len_flatMap_le {α : Type} {g : Nat → List α} {b : Nat} : ∀ {n : Nat}, (∀ k, k < n → (g k).length ≤ b) → ((List.range n).flatMap g).length ≤ n * b
  | 0, _ => by simp
  | n + 1, h => by
    have h1 := len_flatMap_le (g := g) (b := b) (n := n) fun k hk => h k (by omega)
    have h2 := h n (by omega)
    rw [List.range_succ, List.flatMap_append, List.length_append, List.flatMap_singleton]
    rw [Nat.succ_mul]
    omega
/-- A loop that counts up and keeps a state. -/
theorem upto_go {α σ : Type} {L : Nat → σ → Int → Option α} {n : Nat} (I : Nat → σ → Prop) (step : σ → Nat → σ) {K : σ → Option α}
    (hL : ∀ f k s, k < n → I k s → L (f + 1) s (k : Int) = L f (step s k) ((k + 1 : Nat) : Int)) (hI : ∀ k s, k < n → I k s → I (k + 1) (step s k))
    (hE : ∀ f s, I n s → L (f + 1) s (n : Int) = K s) : ∀ (m k F : Nat) (s : σ), k + m = n → m < F → I k s → L F s (k : Int) = K ((List.range' k m).foldl step s)
  | m, k, 0, s, _, h, _ => absurd h (Nat.not_lt_zero m)
  | 0, k, F + 1, s, hk, _, h0 => by
    obtain rfl : k = n := by omega
    exact hE F s h0
  | m + 1, k, F + 1, s, hk, hF, h0 => by
    rw [hL F k s (by omega) h0, upto_go I step hL hI hE m (k + 1) F (step s k) (by omega) (by omega) (hI k s (by omega) h0), List.range'_succ, List.foldl_cons]
theorem upto {α σ : Type} {L : Nat → σ → Int → Option α} {n : Nat} (I : Nat → σ → Prop) (step : σ → Nat → σ) {K : σ → Option α}
    (hL : ∀ f k s, k < n → I k s → L (f + 1) s (k : Int) = L f (step s k) ((k + 1 : Nat) : Int)) (hI : ∀ k s, k < n → I k s → I (k + 1) (step s k))
    (hE : ∀ f s, I n s → L (f + 1) s (n : Int) = K s) {F : Nat} {s : σ} (hF : n < F) (h0 : I 0 s) : L F s 0 = K ((List.range n).foldl step s) := by
  rw [List.range_eq_range']
  exact upto_go I step hL hI hE n 0 F s (by omega) hF h0
/-- A loop that counts up and appends. -/
theorem gather {α T : Type} {flat : List T → List Int} (hf : ∀ a b, flat (a ++ b) = flat a ++ flat b) (hn : flat [] = []) {L : Nat → List Int → Nat → Int → Option α} {n b M : Nat} (g : Nat → List T) {K : Option α} {F m : Nat} {l : List Int}
    (hg : ∀ k, k < n → (g k).length ≤ b)
    (hL : ∀ f k l m, k < n → m ≤ M + k * b → L (f + 1) l m (k : Int) = L f (l ++ flat (g k)) (m + (g k).length) ((k + 1 : Nat) : Int))
    (hE : ∀ f, m + ((List.range n).flatMap g).length ≤ M + n * b → L (f + 1) (l ++ flat ((List.range n).flatMap g)) (m + ((List.range n).flatMap g).length) (n : Int) = K) (hF : n < F) (hm : m ≤ M) :
    L F l m 0 = K := by
  have hI : ∀ k, k ≤ n → m + ((List.range k).flatMap g).length ≤ M + k * b := fun k hk => by
    have := len_flatMap_le (g := g) (b := b) (n := k) fun j hj => hg j (by omega)
    omega
  have h := upto (L := fun f (s : List Int × Nat) i => L f s.1 s.2 i) (n := n) (fun k s => k ≤ n ∧ s = (l ++ flat ((List.range k).flatMap g), m + ((List.range k).flatMap g).length)) (fun s k => (s.1 ++ flat (g k), s.2 + (g k).length)) (K := fun s => K)
    (fun f k s hk hs => by
      obtain ⟨h1, rfl⟩ := hs
      exact hL f k _ _ hk (hI k h1)) (fun k s hk hs => by
      obtain ⟨h1, rfl⟩ := hs
      refine ⟨hk, ?_⟩
      rw [List.range_succ, List.flatMap_append, List.flatMap_singleton, hf, List.length_append]
      simp [List.append_assoc, Nat.add_assoc]) (fun f s hs => by
      obtain ⟨h1, rfl⟩ := hs
      exact hE f (hI n h1)) (s := (l, m)) hF ⟨Nat.zero_le _, by simp [hn]⟩
  exact h
def orO {α : Type} (a e : Option α) : Option α := match a with | some r => some r | none => e
/-- A loop that counts up and ends at the first find. -/
theorem seek_go {α : Type} {L : Nat → Int → Option α} {n : Nat} {q : Nat → Option α} {e : α} (hL : ∀ f k : Nat, k < n → L (f + 1) (k : Int) = orO (q k) (L f ((k + 1 : Nat) : Int))) (hE : ∀ f : Nat, L (f + 1) (n : Int) = some e) :
    ∀ (m k f : Nat), k + m = n → m < f → L f (k : Int) = some (((List.range' k m).findSome? q).getD e)
  | m, k, 0, _, h => absurd h (Nat.not_lt_zero m)
  | 0, k, f + 1, h, _ => by
    obtain rfl : k = n := by omega
    rw [hE]; rfl
  | m + 1, k, f + 1, h, hf => by
    rw [hL f k (by omega), seek_go hL hE m (k + 1) f (by omega) (by omega), List.range'_succ, List.findSome?_cons]
    cases q k <;> rfl
theorem seek {α : Type} {L : Nat → Int → Option α} {n F : Nat} {q : Nat → Option α} {e : α} (hF : n < F) (hL : ∀ f k : Nat, k < n → L (f + 1) (k : Int) = orO (q k) (L f ((k + 1 : Nat) : Int))) (hE : ∀ f : Nat, L (f + 1) (n : Int) = some e) :
    L F 0 = some (((List.range n).findSome? q).getD e) := by
  rw [List.range_eq_range']
  exact seek_go hL hE n 0 F (by omega) hF
theorem cnd {a n : Nat} (h : a < n) : decide ((a : Int) < ((n : Nat) : Int)) = true := by simpa using h
theorem cndE (n : Nat) : decide ((n : Int) < ((n : Nat) : Int)) = false := by simp
theorem cnd2 {a n : Nat} (h : a < n) : (decide (0 ≤ (a : Int)) && decide ((a : Int) < ((n : Nat) : Int))) = true := by simpa using h
theorem cndp {a : Nat} {p : Int} (h : a < p.toNat) : decide ((a : Int) < p) = true := by simp; omega
theorem cndpE {p : Int} (h : 0 ≤ p) : decide (((p.toNat : Nat) : Int) < p) = false := by simp; omega
theorem leb1 {m : Nat} (h : m < 1000000) : (Nat.ble 0 1 && Nat.ble (m + 1) 2000000) = true := by simp; omega
theorem beq33 : Nat.beq 3 3 = true := rfl
theorem beq22 : Nat.beq 2 2 = true := rfl
theorem beq11 : Nat.beq 1 1 = true := rfl
/-- All points and all places, in order. -/
def pts (p : Int) : List P2 := (List.range p.toNat).flatMap fun x : Nat => (List.range p.toNat).map fun y : Nat => ((x : Int), (y : Int))
def places (p : Int) : List P3 := (0, 0, 1) :: (((List.range p.toNat).map fun z : Nat => (0, 1, (z : Int))) ++ (List.range p.toNat).flatMap fun y : Nat => (List.range p.toNat).map fun z : Nat => (1, (y : Int), (z : Int)))
theorem prB_nat {p : Int} (h : prB p = true) : p.toNat ≤ 31 ∧ 0 ≤ p ∧ ((p.toNat : Nat) : Int) = p := by
  obtain ⟨h1, h2⟩ := prB_Pr h
  omega
theorem pts_len {p : Int} (h : prB p = true) : (pts p).length ≤ 961 := by
  obtain ⟨h1, _, _⟩ := prB_nat h
  have h2 := len_flatMap_le (n := p.toNat) (b := p.toNat) (g := fun x : Nat => (List.range p.toNat).map fun y : Nat => ((x : Int), (y : Int))) (fun k _ => by simp)
  have h3 : p.toNat * p.toNat ≤ 31 * 31 := Nat.mul_le_mul h1 h1
  unfold pts; omega
theorem places_len {p : Int} (h : prB p = true) : (places p).length ≤ 993 := by
  obtain ⟨h1, _, _⟩ := prB_nat h
  have h2 := len_flatMap_le (n := p.toNat) (b := p.toNat) (g := fun y : Nat => (List.range p.toNat).map fun z : Nat => ((1 : Int), (y : Int), (z : Int))) (fun k _ => by simp)
  have h3 : p.toNat * p.toNat ≤ 31 * 31 := Nat.mul_le_mul h1 h1
  unfold places
  rw [List.length_cons, List.length_append, List.length_map, List.length_range]
  omega
theorem flatMap_one {α β : Type} (l : List α) (f : α → β) : (l.flatMap fun a => [f a]) = l.map f := by
  induction l with
  | nil => rfl
  | cons a l ih => rw [List.flatMap_cons, ih]; rfl
theorem mk2 (l : List P2) : ((l.length, flat2 l).1, (l.length, flat2 l).2) = (l.length, flat2 l) := rfl
/-- What the checks of a row say. -/
theorem row3_ok {n k : Nat} {l : List Int} (hl : l.length = 3 * n) (h : k < n) : Nat.ble (k * 3 + 3) l.length = true := leb (by omega)
theorem row2_ok {n k : Nat} {l : List Int} (hl : l.length = 2 * n) (h : k < n) : Nat.ble (k * 2 + 2) l.length = true := leb (by omega)
theorem row1_ok {n k : Nat} {l : List Int} (hl : l.length = n) (h : k < n) : Nat.ble (k * 1 + 1) l.length = true := leb (by omega)
theorem all_of {α : Type} {l : List α} {k : α → Bool} (h : ∀ a, k a = true) : l.all k = true := by
  rw [List.all_eq_true]; exact fun a _ => h a
theorem and_all {α : Type} {l : List α} {k : α → Bool} {p : Int} (h : prB p = true) (hk : ∀ a, k a = true) : (prB p && l.all k) = true := by rw [h, all_of hk]; rfl
theorem mk_ok {p : Int} (h : prB p = true) : (decide (0 ≤ p) && decide (p ≤ 2000000) && p == p) = true := by
  obtain ⟨h1, h2⟩ := prB_Pr h
  simp; omega
/-- A loop that counts. -/
theorem tally {α : Type} {L : Nat → Int → Int → Option α} {n F : Nat} {q : Nat → Bool} {K : Int → Option α} (hF : n < F)
    (hL : ∀ (f k : Nat) (s : Int), k < n → 0 ≤ s → s ≤ (k : Int) → L (f + 1) s (k : Int) = L f (if q k = true then s + 1 else s) ((k + 1 : Nat) : Int))
    (hE : ∀ (f : Nat) (s : Int), L (f + 1) s (n : Int) = K s) : L F 0 0 = K (((List.range n).filter q).length : Nat) := by
  have h := upto (L := L) (n := n) (fun k s => 0 ≤ s ∧ s ≤ (k : Int)) (fun s k => if q k = true then s + 1 else s) (K := K) (fun f k s hk hs => hL f k s hk hs.1 hs.2) (fun k s hk hs => by
    split <;> omega) (fun f s _ => hE f s) (s := 0) hF ⟨Int.le_refl _, by simp⟩
  have hfold : ∀ (r : List Nat) (s : Int), r.foldl (fun s k => if q k = true then s + 1 else s) s = s + ((r.filter q).length : Nat) := by
    intro r
    induction r with
    | nil => intro s; simp
    | cons k r ih => intro s; rw [List.foldl_cons, ih, List.filter_cons]; cases q k <;> simp; omega
  rw [hfold] at h
  simpa using h
theorem count3 (n : Nat) (l : List Int) (q : P3 → Bool) : ((List.range n).filter fun k => q (R3 l k)).length = ((rows3 n l).filter q).length := by
  rw [rows3_R, List.filter_map, List.length_map]; rfl
theorem count2 (n : Nat) (l : List Int) (q : P2 → Bool) : ((List.range n).filter fun k => q (R2 l k)).length = ((rows2 n l).filter q).length := by
  rw [rows2_R, List.filter_map, List.length_map]; rfl
/-- One more at a place of a list. -/
def bump (l : List Int) (i : Nat) : List Int := l.set i (wI (l.getD i 0 + 1))
theorem bump_len (l : List Int) (i : Nat) : (bump l i).length = l.length := by simp [bump]
theorem bumps {α T : Type} {L : Nat → List Int → Int → Option α} {n F N : Nat} {row : Nat → T} {q : T → Bool} {f : T → Nat} {K : List Int → Option α} {l : List Int} (hF : n < F) (hl : l.length = N)
    (hL : ∀ (F k : Nat) (s : List Int), k < n → s.length = N → L (F + 1) s (k : Int) = L F (if q (row k) = true then bump s (f (row k)) else s) ((k + 1 : Nat) : Int))
    (hE : ∀ (F : Nat) (s : List Int), L (F + 1) s (n : Int) = K s) : L F l 0 = K ((((List.range n).map row).filter q).foldl (fun s a => bump s (f a)) l) := by
  have h := upto (L := L) (n := n) (fun k s => s.length = N) (fun s k => if q (row k) = true then bump s (f (row k)) else s) (K := K) (fun F k s hk hs => hL F k s hk hs) (fun k s hk hs => by
    split
    · rw [bump_len, hs]
    · exact hs) (fun F s _ => hE F s) (s := l) hF hl
  rw [h, List.foldl_filter, List.foldl_map]
theorem bumps_len {T : Type} (f : T → Nat) : ∀ (r : List T) (l : List Int), (r.foldl (fun s a => bump s (f a)) l).length = l.length
  | [], _ => rfl
  | a :: r, l => by rw [List.foldl_cons, bumps_len f r, bump_len]
theorem filter_yes {α : Type} (l : List α) : l.filter (fun _ => true) = l := by induction l with | nil => rfl | cons a l ih => rw [List.filter_cons, ih]; rfl
theorem lenB3 {l : List P3} (h : l.length ≤ 100000000000) : lenB l.length 3 (flat3 l) = true := lenB_of (flat3_len l) h
theorem lenB2 {l : List P2} (h : l.length ≤ 100000000000) : lenB l.length 2 (flat2 l) = true := lenB_of (flat2_len l) h
theorem filter_same {α : Type} {l : List α} {f g : α → Bool} (h : ∀ a ∈ l, f a = g a) : l.filter f = l.filter g := List.filter_congr h
theorem filter_flatMap {α β : Type} (l : List α) (f : α → List β) (q : β → Bool) : (l.flatMap f).filter q = l.flatMap fun a => (f a).filter q := by
  induction l with
  | nil => rfl
  | cons a l ih => rw [List.flatMap_cons, List.filter_append, ih, List.flatMap_cons]
theorem grid_filter (n : Nat) (q : P2 → Bool) : ((List.range n).flatMap fun x : Nat => (List.range n).flatMap fun y : Nat => if q ((x : Int), (y : Int)) = true then [((x : Int), (y : Int))] else []) = (((List.range n).flatMap fun x : Nat => (List.range n).map fun y : Nat => ((x : Int), (y : Int))).filter q) := by
  rw [filter_flatMap]
  congr 1
  funext x
  rw [← filter_flat, List.flatMap_map]
/-- A search over the rows of a list ends at the one that fits. -/
theorem find_row {α β : Type} (l : List α) (d : α) (q : α → Option β) : (List.range l.length).findSome? (fun k => q (l.getD k d)) = l.findSome? q := by
  have h : l.findSome? q = ((List.range l.length).map (fun k => l.getD k d)).findSome? q := by rw [map_getD]
  rw [h, List.findSome?_map]
  rfl
theorem find_if {α : Type} (l : List α) (q : α → Bool) : (l.findSome? fun a => if q a = true then some a else none) = l.find? q := by
  induction l with
  | nil => rfl
  | cons a l ih => rw [List.findSome?_cons, List.find?_cons, ih]; cases q a <;> rfl
theorem find_only {α : Type} {l : List α} {q : α → Bool} {a : α} (ha : a ∈ l) (hq : q a = true) (hu : ∀ b ∈ l, q b = true → b = a) : l.find? q = some a := by
  cases h : l.find? q with
  | none =>
    rw [List.find?_eq_none] at h
    exact absurd hq (h a ha)
  | some b =>
    rw [hu b (List.mem_of_find?_eq_some h) (List.find?_some h)]
theorem mem_pts {p : Int} {a : P2} : a ∈ pts p ↔ (0 ≤ a.1 ∧ a.1 < p) ∧ (0 ≤ a.2 ∧ a.2 < p) := by
  obtain ⟨x, y⟩ := a
  simp only [pts, List.mem_flatMap, List.mem_range, List.mem_map, Prod.mk.injEq]
  constructor
  · rintro ⟨i, hi, j, hj, rfl, rfl⟩
    omega
  · rintro ⟨h1, h2⟩
    exact ⟨x.toNat, by omega, y.toNat, by omega, by omega, by omega⟩
theorem and3 {a b c : Bool} (ha : a = true) (hb : b = true) (hc : c = true) : (a && b && c) = true := by rw [ha, hb, hc]; rfl
theorem seekO_go {α : Type} {L : Nat → Int → Option α} {n : Nat} {q : Nat → Option α} {e : Option α} (hL : ∀ f k : Nat, k < n → L (f + 1) (k : Int) = orO (q k) (L f ((k + 1 : Nat) : Int))) (hE : ∀ f : Nat, L (f + 1) (n : Int) = e) :
    ∀ (m k f : Nat), k + m = n → m < f → L f (k : Int) = orO ((List.range' k m).findSome? q) e
  | m, k, 0, _, h => absurd h (Nat.not_lt_zero m)
  | 0, k, f + 1, h, _ => by
    obtain rfl : k = n := by omega
    rw [hE]; rfl
  | m + 1, k, f + 1, h, hf => by
    rw [hL f k (by omega), seekO_go hL hE m (k + 1) f (by omega) (by omega), List.range'_succ, List.findSome?_cons]
    cases q k <;> rfl
theorem seekO {α : Type} {L : Nat → Int → Option α} {n F : Nat} {q : Nat → Option α} {e : Option α} (hF : n < F) (hL : ∀ f k : Nat, k < n → L (f + 1) (k : Int) = orO (q k) (L f ((k + 1 : Nat) : Int))) (hE : ∀ f : Nat, L (f + 1) (n : Int) = e) :
    L F 0 = orO ((List.range n).findSome? q) e := by
  rw [List.range_eq_range']
  exact seekO_go hL hE n 0 F (by omega) hF
theorem find_grid {β : Type} (n : Nat) (g : P2 → Option β) : (List.range n).findSome? (fun x : Nat => (List.range n).findSome? fun y : Nat => g ((x : Int), (y : Int))) = ((List.range n).flatMap fun x : Nat => (List.range n).map fun y : Nat => ((x : Int), (y : Int))).findSome? g := by
  have h : ∀ (l : List Nat), l.findSome? (fun x : Nat => (List.range n).findSome? fun y : Nat => g ((x : Int), (y : Int))) = (l.flatMap fun x : Nat => (List.range n).map fun y : Nat => ((x : Int), (y : Int))).findSome? g := by
    intro l
    induction l with
    | nil => rfl
    | cons x l ih =>
      rw [List.findSome?_cons, List.flatMap_cons, List.findSome?_append, List.findSome?_map, ih]
      show (match (List.range n).findSome? (fun y : Nat => g ((x : Int), (y : Int))) with | some b => some b | none => _) = ((List.range n).findSome? (g ∘ fun y : Nat => ((x : Int), (y : Int)))).or _
      cases h : (List.range n).findSome? (fun y : Nat => g ((x : Int), (y : Int))) with
      | none => rw [show (List.range n).findSome? (g ∘ fun y : Nat => ((x : Int), (y : Int))) = none from h]; rfl
      | some r => rw [show (List.range n).findSome? (g ∘ fun y : Nat => ((x : Int), (y : Int))) = some r from h]; rfl
  exact h _
theorem len6' {l : List Int} (h : l.length = 6) : ∃ a b c d e f, l = [a, b, c, d, e, f] := by
  match l, h with
  | [a, b, c, d, e, f], _ => exact ⟨a, b, c, d, e, f, rfl⟩

end Go.Proofs.Ytikfglnhkjoioaa
