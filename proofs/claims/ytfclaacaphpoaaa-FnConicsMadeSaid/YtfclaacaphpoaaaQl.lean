import Derived.Test.YtfclaacaphpoaaaQk
set_option linter.unusedSimpArgs false
set_option linter.unusedVariables false
namespace Go.Proofs.Ytfclaacaphpoaaa
open Go.RowKit
section
variable {K : Type} [Lean.Grind.Field K]
def dot6 (r x : Nat -> K) : K := r 0 * x 0 + r 1 * x 1 + r 2 * x 2 + r 3 * x 3 + r 4 * x 4 + r 5 * x 5
def KerL (l : List (Nat -> K)) (x : Nat -> K) : Prop := ∀ r ∈ l, dot6 r x = 0
def subs : Nat -> List (List Nat)
 | 0 => [[]]
 | n + 1 => subs n ++ (subs n).map (fun l => (5 - n) :: l)
theorem Zh2 : ∀ (n : Nat) (M : List Nat), n <= 6 -> M.Pairwise (· < ·) -> (∀ c ∈ M, c < 6 /\ 6 - n <= c) -> M ∈ subs n
 | 0, M, _, _, hb => by
  cases M with
  | nil => simp [subs]
  | cons x r => have := hb x (by simp); omega
 | n + 1, M, hn, hp, hb => by
  rw [subs, List.mem_append]
  cases M with
  | nil => exact .inl (Zh2 n [] (by omega) hp (by simp))
  | cons x r =>
   have hx := hb x (by simp)
   have hr := List.pairwise_cons.1 hp
   by_cases e : x = 5 - n
   ·subst e
    refine .inr (List.mem_map.2 ⟨r, Zh2 n r (by omega) hr.2 fun c hc => ?_, rfl⟩)
    have h1 := hr.1 c hc
    have h2 := hb c (by simp [hc])
    omega
   ·refine .inl (Zh2 n _ (by omega) hp fun c hc => ?_)
    have h2 := hb c hc
    rcases List.mem_cons.1 hc with rfl | hc'
    ·omega
    ·have h1 := hr.1 c hc'
     omega
theorem ZwC {M : List Nat} (hp : M.Pairwise (· < ·)) (hb : ∀ c ∈ M, c < 6) : M ∈ subs 6 := Zh2 6 M (by omega) hp fun c hc => ⟨hb c hc, by omega⟩
theorem ZbD : ∀ M ∈ subs 6, M.length = 5 -> ∀ f ∈ List.range 6, f ∉ M -> ∀ c ∈ List.range 6, c = f \/ c ∈ M := by decide +kernel
theorem Zrb : ∀ M ∈ subs 6, M.length <= 5 -> ∃ f ∈ List.range 6, f ∉ M := by decide +kernel
theorem ZwB : ∀ M ∈ subs 6, M.length <= 4 -> ∃ f ∈ List.range 6, ∃ g ∈ List.range 6, f ≠ g /\ f ∉ M /\ g ∉ M := by decide +kernel
structure Red (A : List (Nat -> K)) (L : List Nat) : Prop where
 len : L.length = A.length
 lt : ∀ c ∈ L, c < 6
 inc : L.Pairwise (· < ·)
 one : ∀ (i : Nat) (r : Nat -> K) (c : Nat), A[i]? = some r -> L[i]? = some c -> r c = 1
 zero : ∀ (i j : Nat) (r : Nat -> K) (c : Nat), A[i]? = some r -> L[j]? = some c -> i ≠ j -> r c = 0
theorem Zw5 (r x : Nat -> K) {a b : Nat} (ha : a < 6) (hb : b < 6) (hne : a ≠ b) (hz : ∀ c, c < 6 -> c ≠ a -> c ≠ b -> r c = 0) : dot6 r x = r a * x a + r b * x b := by
 have h0 := hz 0 (by omega)
 have h1 := hz 1 (by omega)
 have h2 := hz 2 (by omega)
 have h3 := hz 3 (by omega)
 have h4 := hz 4 (by omega)
 have h5 := hz 5 (by omega)
 have ca : a = 0 \/ a = 1 \/ a = 2 \/ a = 3 \/ a = 4 \/ a = 5 := by omega
 have cb : b = 0 \/ b = 1 \/ b = 2 \/ b = 3 \/ b = 4 \/ b = 5 := by omega
 unfold dot6
 rcases ca with rfl | rfl | rfl | rfl | rfl | rfl <;> rcases cb with rfl | rfl | rfl | rfl | rfl | rfl <;> first | (exact absurd rfl hne) | (simp at h0 h1 h2 h3 h4 h5; grind)
theorem Zw4 (r x y : Nat -> K) (s t : K) : dot6 r (fun c => s * x c + t * y c) = s * dot6 r x + t * dot6 r y := by unfold dot6; grind
theorem Zq5 (r x : Nat -> K) (s : K) : dot6 (fun c => s * r c) x = s * dot6 r x := by unfold dot6; grind
theorem Zsz (r q x : Nat -> K) (s : K) : dot6 (fun c => r c - s * q c) x = dot6 r x - s * dot6 q x := by unfold dot6; grind
theorem Red.sub {A : List (Nat -> K)} {L : List Nat} (h : Red A L) : L ∈ subs 6 := ZwC h.inc h.lt
noncomputable def solW (A : List (Nat -> K)) (L : List Nat) (v : Nat -> K) (c : Nat) : K :=
 match L.findIdx? (· == c) with
 | some i => match A[i]? with
  | some r => - ((if 0 ∈ L then 0 else r 0 * v 0) + (if 1 ∈ L then 0 else r 1 * v 1) + (if 2 ∈ L then 0 else r 2 * v 2) + (if 3 ∈ L then 0 else r 3 * v 3) + (if 4 ∈ L then 0 else r 4 * v 4) + (if 5 ∈ L then 0 else r 5 * v 5))
  | none => 0
 | none => v c
theorem Zx9 {L : List Nat} (hn : L.Pairwise (· < ·)) {i c : Nat} (h : L[i]? = some c) : L.findIdx? (· == c) = some i := by
 induction L generalizing i with
 | nil => simp at h
 | cons x r ih =>
  have hr := List.pairwise_cons.1 hn
  cases i with
  | zero => simp at h; subst h; simp [List.findIdx?_cons]
  | succ i =>
   have h' : r[i]? = some c := by simpa using h
   have hm : c ∈ r := List.mem_of_getElem? h'
   have hlt := hr.1 c hm
   have : (x == c) = false := by simp; omega
   rw [List.findIdx?_cons, this]
   simp [ih hr.2 h']
theorem Zv7 {L : List Nat} {c : Nat} (h : c ∉ L) : L.findIdx? (· == c) = none := by
 rw [List.findIdx?_eq_none_iff]
 intro x hx
 simp
 rintro rfl
 exact h hx
theorem Z9t {A : List (Nat -> K)} {L : List Nat} (v : Nat -> K) {c : Nat} (h : c ∉ L) : solW A L v c = v c := by
 unfold solW
 rw [Zv7 h]
theorem ZlZ {A : List (Nat -> K)} {L : List Nat} (h : Red A L) (v : Nat -> K) : KerL A (solW A L v) := by
 intro r hr
 obtain ⟨i, hi⟩ := List.getElem?_of_mem hr
 have hlt : i < L.length := by
  rw [h.len]
  exact (List.getElem?_eq_some_iff.1 hi).1
 obtain ⟨a, ha⟩ : ∃ a, L[i]? = some a := ⟨L[i], List.getElem?_eq_getElem hlt⟩
 have ham : a ∈ L := List.mem_of_getElem? ha
 have ha6 := h.lt a ham
 have hone := h.one i r a hi ha
 have hxa : solW A L v a = - ((if 0 ∈ L then 0 else r 0 * v 0) + (if 1 ∈ L then 0 else r 1 * v 1) + (if 2 ∈ L then 0 else r 2 * v 2) + (if 3 ∈ L then 0 else r 3 * v 3) + (if 4 ∈ L then 0 else r 4 * v 4) + (if 5 ∈ L then 0 else r 5 * v 5)) := by
  unfold solW
  rw [Zx9 h.inc ha]
  simp only [hi]
 have key : ∀ c, r c * solW A L v c = (if c ∈ L then 0 else r c * v c) + (if c = a then solW A L v a else 0) := by
  intro c
  by_cases hc : c ∈ L
  ·rw [if_pos hc]
   by_cases e : c = a
   ·subst e
    rw [if_pos rfl, hone]
    grind
   ·obtain ⟨j, hj⟩ := List.getElem?_of_mem hc
    have : i ≠ j := by
     rintro rfl
     rw [ha] at hj
     exact e (Option.some.inj hj).symm
    rw [if_neg e, h.zero i j r c hi hj this]
    grind
  ·have e : c ≠ a := fun e => hc (e ▸ ham)
   rw [if_neg hc, if_neg e, Z9t v hc]
   grind
 have ZxN : ∀ y : K, (if 0 = a then y else 0) + (if 1 = a then y else 0) + (if 2 = a then y else 0) + (if 3 = a then y else 0) + (if 4 = a then y else 0) + (if 5 = a then y else 0) = y := by
  intro y
  have ca : a = 0 \/ a = 1 \/ a = 2 \/ a = 3 \/ a = 4 \/ a = 5 := by omega
  rcases ca with rfl | rfl | rfl | rfl | rfl | rfl <;> simp <;> grind
 have h2 := ZxN (solW A L v a)
 unfold dot6
 rw [key 0, key 1, key 2, key 3, key 4, key 5]
 grind
theorem Red.uni {A : List (Nat -> K)} {L : List Nat} (h : Red A L) (h5 : L.length = 5) {f : Nat} (hf : f < 6) (hfL : f ∉ L) {x : Nat -> K} (hx : KerL A x) {i : Nat} {r : Nat -> K} {c : Nat} (hi : A[i]? = some r) (hc : L[i]? = some c) : x c = - (r f) * x f := by
 have hcm : c ∈ L := List.mem_of_getElem? hc
 have h1 := h.lt c hcm
 have hd := Zw5 r x h1 hf (fun e => hfL (e ▸ hcm)) (fun q hq hqc hqf => by
  rcases ZbD L h.sub h5 f (List.mem_range.2 hf) hfL q (List.mem_range.2 hq) with e | e
  ·exact absurd e hqf
  ·obtain ⟨j, hj⟩ := List.getElem?_of_mem e
   exact h.zero i j r q hi hj (by rintro rfl; rw [hc] at hj; exact hqc (Option.some.inj hj).symm))
 rw [hx r (List.mem_of_getElem? hi), h.one i r c hi hc] at hd
 grind
theorem Red.five {A B : List (Nat -> K)} {L M : List Nat} (hA : Red A L) (hB : Red B M) (hk : ∀ x, KerL A x ↔ KerL B x) (h5 : L.length = 5) : ¬ M.length <= 4 := by
 intro h4
 obtain ⟨f, hf, hfL⟩ := Zrb L hA.sub (by omega)
 obtain ⟨a, ha, b, hb, hab, haM, hbM⟩ := ZwB M hB.sub h4
 have hz : ∀ x, KerL A x -> x f = 0 -> ∀ c ∈ List.range 6, x c = 0 := by
  intro x hx h0 c hc
  rcases ZbD L hA.sub h5 f hf hfL c hc with e | e
  ·rw [e, h0]
  ·obtain ⟨i, hi⟩ := List.getElem?_of_mem e
   have hlt : i < A.length := by rw [<- hA.len]; exact (List.getElem?_eq_some_iff.1 hi).1
   rw [hA.uni h5 (List.mem_range.1 hf) hfL hx (List.getElem?_eq_getElem hlt) hi, h0]
   grind
 let u := solW B M (fun c => if c = a then 1 else 0)
 let v := solW B M (fun c => if c = b then 1 else 0)
 have hu : KerL B u := ZlZ hB _
 have hv : KerL B v := ZlZ hB _
 have ua : u a = 1 := by show solW _ _ _ _ = _; rw [Z9t _ haM, if_pos rfl]
 have ub : u b = 0 := by show solW _ _ _ _ = _; rw [Z9t _ hbM, if_neg (Ne.symm hab)]
 have va : v a = 0 := by show solW _ _ _ _ = _; rw [Z9t _ haM, if_neg hab]
 have vb : v b = 1 := by show solW _ _ _ _ = _; rw [Z9t _ hbM, if_pos rfl]
 have hw : KerL A (fun c => v f * u c + (- (u f)) * v c) := by
  refine (hk _).2 fun r hr => ?_
  rw [Zw4, hu r hr, hv r hr]
  grind
 have hw0 := hz _ hw (by grind)
 have e1 := hw0 a ha
 have e2 := hw0 b hb
 try dsimp only at e1 e2
 rw [ua, va] at e1
 rw [ub, vb] at e2
 have uf : u f = 0 := by grind
 have := hz u ((hk u).2 hu) uf a ha
 rw [ua] at this
 exact Lean.Grind.Field.zero_ne_one this.symm
def IsSol (A : List (Nat -> K)) (L : List Nat) (f : Nat) (x : Nat -> K) : Prop := x f = 1 /\ ∀ (i : Nat) (r : Nat -> K) (c : Nat), A[i]? = some r -> L[i]? = some c -> x c = - (r f)
theorem IsSol.ker {A : List (Nat -> K)} {L : List Nat} (h : Red A L) (h5 : L.length = 5) {f : Nat} (hf : f < 6) (hfL : f ∉ L) {x : Nat -> K} (hx : IsSol A L f x) : KerL A x := by
 have hs := ZlZ h (fun c => if c = f then (1 : K) else 0)
 have hsf : solW A L (fun c => if c = f then (1 : K) else 0) f = 1 := by rw [Z9t _ hfL, if_pos rfl]
 have he : ∀ c, c < 6 -> x c = solW A L (fun c => if c = f then (1 : K) else 0) c := by
  intro c hc
  rcases ZbD L h.sub h5 f (List.mem_range.2 hf) hfL c (List.mem_range.2 hc) with e | e
  ·rw [e, hsf, hx.1]
  ·obtain ⟨i, hi⟩ := List.getElem?_of_mem e
   have hlt : i < A.length := by rw [<- h.len]; exact (List.getElem?_eq_some_iff.1 hi).1
   rw [hx.2 i _ c (List.getElem?_eq_getElem hlt) hi, h.uni h5 hf hfL hs (List.getElem?_eq_getElem hlt) hi, hsf]
   grind
 intro r hr
 have := hs r hr
 unfold dot6 at this ⊢
 rw [he 0 (by omega), he 1 (by omega), he 2 (by omega), he 3 (by omega), he 4 (by omega), he 5 (by omega)]
 exact this
theorem ZvN {A B : List (Nat -> K)} {L M : List Nat} (hA : Red A L) (hB : Red B M) (hk : ∀ x, KerL A x ↔ KerL B x) (h5 : L.length = 5) (h5' : M.length = 5) {f g : Nat} (hf : f < 6) (hg : g < 6) (hfL : f ∉ L) (hgM : g ∉ M) {x y : Nat -> K} (hx : IsSol A L f x) (hy : IsSol B M g y) : y f ≠ 0 /\ ∀ c, c < 6 -> y c = y f * x c := by
 have hxk := hx.ker hA h5 hf hfL
 have hyk := (hk y).2 (hy.ker hB h5' hg hgM)
 have he : ∀ c, c < 6 -> y c = y f * x c := by
  intro c hc
  rcases ZbD L hA.sub h5 f (List.mem_range.2 hf) hfL c (List.mem_range.2 hc) with e | e
  ·rw [e, hx.1]
   grind
  ·obtain ⟨i, hi⟩ := List.getElem?_of_mem e
   have hlt : i < A.length := by rw [<- hA.len]; exact (List.getElem?_eq_some_iff.1 hi).1
   rw [hA.uni h5 hf hfL hyk (List.getElem?_eq_getElem hlt) hi, hx.2 i _ c (List.getElem?_eq_getElem hlt) hi]
   grind
 refine ⟨fun e => ?_, he⟩
 have h1 := he g hg
 rw [hy.1, e] at h1
 have : (1 : K) = 0 := by grind
 exact Lean.Grind.Field.zero_ne_one this.symm
structure InvI (R0 : List (Nat -> K)) (R : Nat -> Nat -> K) (L : List Nat) (k : Nat) : Prop where
 k6 : k <= 6
 le5 : L.length <= 5
 inc : L.Pairwise (· < ·)
 lt : ∀ c ∈ L, c < k
 one : ∀ i c, L[i]? = some c -> R i c = 1
 zero : ∀ i j c, j < 5 -> L[i]? = some c -> j ≠ i -> R j c = 0
 low : ∀ i c, L.length <= i -> i < 5 -> c < k -> R i c = 0
 ker : ∀ x, (∀ i, i < 5 -> dot6 (R i) x = 0) ↔ KerL R0 x
theorem Z8a {r q : Nat -> K} (x : Nat -> K) (h : ∀ c, c < 6 -> r c = q c) : dot6 r x = dot6 q x := by
 unfold dot6
 rw [h 0 (by omega), h 1 (by omega), h 2 (by omega), h 3 (by omega), h 4 (by omega), h 5 (by omega)]
theorem InvI.skip {R0 : List (Nat -> K)} {R : Nat -> Nat -> K} {L : List Nat} {k : Nat} (h : InvI R0 R L k) (hk : k < 6) (hz : ∀ i, L.length <= i -> i < 5 -> R i k = 0) : InvI R0 R L (k + 1) where
 k6 := by omega
 le5 := h.le5
 inc := h.inc
 lt := fun c hc => by have := h.lt c hc; omega
 one := h.one
 zero := h.zero
 low := fun i c h1 h2 h3 => by
  by_cases e : c = k
  ·rw [e]; exact hz i h1 h2
  ·exact h.low i c h1 h2 (by omega)
 ker := h.ker
theorem InvI.congr {R0 : List (Nat -> K)} {R R' : Nat -> Nat -> K} {L : List Nat} {k : Nat} (h : InvI R0 R L k) (e : ∀ i c, i < 5 -> c < 6 -> R' i c = R i c) (hL : L.length <= 5) : InvI R0 R' L k where
 k6 := h.k6
 le5 := h.le5
 inc := h.inc
 lt := h.lt
 one := fun i c hc => by
  have h1 := (List.getElem?_eq_some_iff.1 hc).1
  have h2 := h.lt c (List.mem_of_getElem? hc)
  have h3 := h.k6
  rw [e i c (by omega) (by omega)]
  exact h.one i c hc
 zero := fun i j c hj hc hn => by
  have h2 := h.lt c (List.mem_of_getElem? hc)
  have h3 := h.k6
  rw [e j c hj (by omega)]
  exact h.zero i j c hj hc hn
 low := fun i c h1 h2 h3 => by
  have h4 := h.k6
  rw [e i c h2 (by omega)]
  exact h.low i c h1 h2 h3
 ker := fun x => by
  rw [<- h.ker x]
  constructor <;> intro q i hi
  ·rw [<- Z8a x (fun c hc => e i c hi hc)]; exact q i hi
  ·rw [Z8a x (fun c hc => e i c hi hc)]; exact q i hi
theorem InvI.pivot {R0 : List (Nat -> K)} {R R' : Nat -> Nat -> K} {L : List Nat} {k at_ : Nat} (h : InvI R0 R L k) (hk : k < 6) (h1 : L.length <= at_) (h2 : at_ < 5) (hp : R at_ k ≠ 0) (S : Nat -> Nat -> K) (hS : ∀ i, S i = if i = L.length then R at_ else if i = at_ then R L.length else R i)
  (e1 : ∀ c, c < 6 -> R' L.length c = S L.length c * (S L.length k)⁻¹) (e2 : ∀ i c, i < 5 -> c < 6 -> i ≠ L.length -> R' i c = S i c - S i k * R' L.length c) : InvI R0 R' (L ++ [k]) (k + 1) := by
 have hto : S L.length = R at_ := by rw [hS, if_pos rfl]
 have hSk : S L.length k ≠ 0 := by rw [hto]; exact hp
 have hkk : R' L.length k = 1 := by rw [e1 k hk]; grind
 have hL : ∀ (i c : Nat), L[i]? = some c -> i < L.length /\ c < k /\ c < 6 := fun i c hc => ⟨(List.getElem?_eq_some_iff.1 hc).1, h.lt c (List.mem_of_getElem? hc), by have := h.lt c (List.mem_of_getElem? hc); omega⟩
 have hSL : ∀ (i j c : Nat), j < 5 -> L[i]? = some c -> j ≠ i -> S j c = 0 := by
  intro i j c hj hc hn
  have q := hL i c hc
  rw [hS]
  by_cases ej : j = L.length
  ·rw [if_pos ej]; exact h.zero i _ c h2 hc (by omega)
  ·rw [if_neg ej]
   by_cases ea : j = at_
   ·rw [if_pos ea]; exact h.zero i _ c (by omega) hc (by omega)
   ·rw [if_neg ea]; exact h.zero i _ c hj hc hn
 have htoL : ∀ (i c : Nat), L[i]? = some c -> R' L.length c = 0 := by
  intro i c hc
  have q := hL i c hc
  rw [e1 c q.2.2, hSL i L.length c (by omega) hc (by omega)]
  grind
 have hlowS : ∀ (i c : Nat), L.length <= i -> i < 5 -> c < k -> S i c = 0 := by
  intro i c q1 q2 q3
  rw [hS]
  split
  ·exact h.low at_ c h1 h2 q3
  ·split
   ·exact h.low _ c (Nat.le_refl _) (by omega) q3
   ·exact h.low i c q1 q2 q3
 have hlast : ∀ (i c : Nat), (L ++ [k])[i]? = some c -> L[i]? = some c \/ (i = L.length /\ c = k) := by
  intro i c hc
  rw [List.getElem?_append] at hc
  split at hc
  ·exact .inl hc
  ·rename_i hn
   refine .inr ?_
   by_cases e : i - L.length = 0
   ·rw [e] at hc
    simp at hc
    exact ⟨by omega, hc.symm⟩
   ·rw [List.getElem?_eq_none (by simp; omega)] at hc
    cases hc
 refine ⟨by omega, by simp; omega, ?_, ?_, ?_, ?_, ?_, ?_⟩
 ·rw [List.pairwise_append]
  exact ⟨h.inc, by simp, fun a ha b hb => by simp at hb; subst hb; exact h.lt a ha⟩
 ·intro c hc
  rcases List.mem_append.1 hc with hc | hc
  ·have := h.lt c hc; omega
  ·simp at hc; omega
 ·intro i c hc
  rcases hlast i c hc with hc | ⟨rfl, rfl⟩
  ·have q := hL i c hc
   rw [e2 i c (by omega) q.2.2 (by omega), htoL i c hc, hS, if_neg (by omega), if_neg (by omega), h.one i c hc]
   grind
  ·exact hkk
 ·intro i j c hj hc hn
  rcases hlast i c hc with hc | ⟨rfl, rfl⟩
  ·have q := hL i c hc
   by_cases ej : j = L.length
   ·rw [ej]; exact htoL i c hc
   ·rw [e2 j c hj q.2.2 ej, htoL i c hc, hSL i j c hj hc hn]
    grind
  ·rw [e2 j c hj hk hn, hkk]
   grind
 ·intro i c q1 q2 q3
  simp at q1
  by_cases ec : c = k
  ·subst ec
   rw [e2 i c q2 hk (by omega), hkk]
   grind
  ·rw [e2 i c q2 (by omega) (by omega), e1 c (by omega), hlowS i c (by omega) q2 (by omega), hlowS L.length c (Nat.le_refl _) (by omega) (by omega)]
   grind
 ·intro x
  rw [<- h.ker x]
  have hSd : (∀ i, i < 5 -> dot6 (R i) x = 0) ↔ ∀ i, i < 5 -> dot6 (S i) x = 0 := by
   constructor
   ·intro q i hi
    rw [hS]
    split
    ·exact q at_ h2
    ·split
     ·exact q _ (by omega)
     ·exact q i hi
   ·intro q i hi
    by_cases ei : i = L.length
    ·have := q at_ h2
     rw [hS] at this
     subst ei
     by_cases ea : at_ = L.length
     ·rw [if_pos ea] at this; rw [<- ea]; exact this
     ·rw [if_neg ea, if_pos rfl] at this; exact this
    ·by_cases ea : i = at_
     ·have := q L.length (by omega)
      rw [hto] at this
      rw [ea]; exact this
     ·have := q i hi
      rw [hS, if_neg ei, if_neg ea] at this
      exact this
  rw [hSd]
  have ht : dot6 (R' L.length) x = (S L.length k)⁻¹ * dot6 (S L.length) x := by
   rw [<- Zq5]
   exact Z8a x fun c hc => by rw [e1 c hc]; grind
  have ho : ∀ i, i < 5 -> i ≠ L.length -> dot6 (R' i) x = dot6 (S i) x - S i k * dot6 (R' L.length) x := by
   intro i hi hn
   rw [<- Zsz]
   exact Z8a x fun c hc => by rw [e2 i c hi hc hn]
  constructor
  ·intro q i hi
   by_cases ei : i = L.length
   ·have := q L.length (by omega)
    rw [ht] at this
    rw [ei]
    grind
   ·have q1 := q i hi
    rw [ho i hi ei, q L.length (by omega)] at q1
    grind
  ·intro q i hi
   by_cases ei : i = L.length
   ·rw [ei, ht, q L.length (by omega)]
    grind
   ·rw [ho i hi ei, ht, q i hi, q L.length (by omega)]
    grind
theorem InvI.red {R0 : List (Nat -> K)} {R : Nat -> Nat -> K} {L : List Nat} (h : InvI R0 R L 6) : Red ((List.range L.length).map R) L /\ ∀ x, KerL ((List.range L.length).map R) x ↔ KerL R0 x := by
 have hg : ∀ (i : Nat) (r : Nat -> K), ((List.range L.length).map R)[i]? = some r -> i < L.length /\ r = R i := by
  intro i r hr
  rw [List.getElem?_map] at hr
  by_cases hi : i < L.length
  ·rw [List.getElem?_range hi] at hr
   exact ⟨hi, (Option.some.inj hr).symm⟩
  ·rw [List.getElem?_eq_none (by simp; omega)] at hr
   cases hr
 refine ⟨⟨by simp, h.lt, h.inc, fun i r c hi hc => ?_, fun i j r c hi hc hn => ?_⟩, fun x => ?_⟩
 ·rw [(hg i r hi).2]; exact h.one i c hc
 ·have := h.le5
  rw [(hg i r hi).2]; exact h.zero j i c (by have := (hg i r hi).1; omega) hc hn
 ·rw [<- h.ker x]
  constructor
  ·intro q i hi
   by_cases hl : i < L.length
   ·exact q (R i) (List.mem_map.2 ⟨i, List.mem_range.2 hl, rfl⟩)
   ·have z : ∀ c, c < 6 -> R i c = 0 := fun c hc => h.low i c (by omega) hi hc
    unfold dot6
    rw [z 0 (by omega), z 1 (by omega), z 2 (by omega), z 3 (by omega), z 4 (by omega), z 5 (by omega)]
    grind
  ·intro q r hr
   obtain ⟨i, hi, rfl⟩ := List.mem_map.1 hr
   have := h.le5
   exact q i (by have := List.mem_range.1 hi; omega)
structure InvS (R0 O B : List (Nat -> K)) (L : List Nat) (k : Nat) : Prop where
 k6 : k <= 6
 len : L.length = O.length
 cnt : O.length + B.length = 5
 inc : L.Pairwise (· < ·)
 lt : ∀ c ∈ L, c < k
 one : ∀ (i : Nat) (r : Nat -> K) (c : Nat), O[i]? = some r -> L[i]? = some c -> r c = 1
 zero : ∀ (i j : Nat) (r : Nat -> K) (c : Nat), O[i]? = some r -> L[j]? = some c -> i ≠ j -> r c = 0
 low : ∀ b ∈ B, ∀ c, c < k -> b c = 0
 lead : ∀ (i : Nat) (r : Nat -> K) (c q : Nat), O[i]? = some r -> L[i]? = some c -> q < c -> r q = 0
 ker : ∀ x, (KerL O x /\ KerL B x) ↔ KerL R0 x
theorem InvS.skip {R0 O B : List (Nat -> K)} {L : List Nat} {k : Nat} (h : InvS R0 O B L k) (hk : k < 6) (hz : ∀ b ∈ B, b k = 0) : InvS R0 O B L (k + 1) where
 k6 := by omega
 len := h.len
 cnt := h.cnt
 inc := h.inc
 lt := fun c hc => by have := h.lt c hc; omega
 one := h.one
 zero := h.zero
 low := fun b hb c hc => by
  by_cases e : c = k
  ·rw [e]; exact hz b hb
  ·exact h.low b hb c (by omega)
 lead := h.lead
 ker := h.ker
def Zkz (r q own : Nat -> K) (k : Nat) : Prop := ∀ c, c < 6 -> q c = r c - r k * own c
theorem ZkY {α : Type} {P : α -> α -> Prop} : ∀ {l m : List α}, l.length = m.length -> (∀ (i : Nat) (a b : α), l[i]? = some a -> m[i]? = some b -> P a b) -> ∀ (i : Nat) (b : α), m[i]? = some b -> ∃ a, l[i]? = some a /\ P a b := by
 intro l m hl h i b hb
 have hi := (List.getElem?_eq_some_iff.1 hb).1
 have : i < l.length := by omega
 exact ⟨l[i], List.getElem?_eq_getElem this, h i _ b (List.getElem?_eq_getElem this) hb⟩
theorem InvS.pivot {R0 O B B1 B2 O' B' : List (Nat -> K)} {L : List Nat} {k : Nat} {b own : Nat -> K} (h : InvS R0 O B L k) (hk : k < 6) (hB : B = B1 ++ b :: B2) (hp : b k ≠ 0) (ho : ∀ c, c < 6 -> own c = b c * (b k)⁻¹)
  (lB : (B1 ++ B2).length = B'.length) (eB : ∀ (i : Nat) (r q : Nat -> K), (B1 ++ B2)[i]? = some r -> B'[i]? = some q -> Zkz r q own k)
  (lO : O.length = O'.length) (eO : ∀ (i : Nat) (r q : Nat -> K), O[i]? = some r -> O'[i]? = some q -> Zkz r q own k) : InvS R0 (O' ++ [own]) B' (L ++ [k]) (k + 1) := by
 have hkk : own k = 1 := by rw [ho k hk]; grind
 have hbm : b ∈ B := by rw [hB]; simp
 have hL6 : ∀ c ∈ L, c < 6 := fun c hc => by have := h.lt c hc; omega
 have hoL : ∀ c, c < k -> own c = 0 := fun c hc => by
  rw [ho c (by omega), h.low b hbm c hc]
  grind
 have hlast : ∀ (i c : Nat), (L ++ [k])[i]? = some c -> (i < L.length /\ L[i]? = some c) \/ (i = L.length /\ c = k) := by
  intro i c hc
  rw [List.getElem?_append] at hc
  split at hc
  ·rename_i hi
   exact .inl ⟨hi, hc⟩
  ·refine .inr ?_
   by_cases e : i - L.length = 0
   ·rw [e] at hc
    simp at hc
    exact ⟨by omega, hc.symm⟩
   ·rw [List.getElem?_eq_none (by simp; omega)] at hc
    cases hc
 have hlastO : ∀ (i : Nat) (r : Nat -> K), (O' ++ [own])[i]? = some r -> (i < L.length /\ ∃ q, O[i]? = some q /\ Zkz q r own k) \/ (i = L.length /\ r = own) := by
  intro i r hr
  rw [List.getElem?_append] at hr
  split at hr
  ·rename_i hi
   obtain ⟨q, hq, hl⟩ := ZkY lO eO i r hr
   exact .inl ⟨by rw [h.len, lO]; exact hi, q, hq, hl⟩
  ·refine .inr ?_
   by_cases e : i - O'.length = 0
   ·rw [e] at hr
    simp at hr
    exact ⟨by rw [h.len, lO]; omega, hr.symm⟩
   ·rw [List.getElem?_eq_none (by simp; omega)] at hr
    cases hr
 have Z5e : B.length = B1.length + B2.length + 1 := by rw [hB]; simp; omega
 have hcnt := h.cnt
 have hBB : ∀ (i : Nat) (q : Nat -> K), B'[i]? = some q -> ∃ r, r ∈ B /\ Zkz r q own k := by
  intro i q hq
  obtain ⟨r, hr, hl⟩ := ZkY lB eB i q hq
  refine ⟨r, ?_, hl⟩
  have := List.mem_of_getElem? hr
  rw [hB]
  rcases List.mem_append.1 this with m | m
  ·exact List.mem_append_left _ m
  ·exact List.mem_append_right _ (List.mem_cons_of_mem _ m)
 refine ⟨by omega, by simp [h.len, lO], by simp at lB; simp; omega, ?_, ?_, ?_, ?_, ?_, ?_, ?_⟩
 ·rw [List.pairwise_append]
  exact ⟨h.inc, by simp, fun a ha b hb => by simp at hb; subst hb; exact h.lt a ha⟩
 ·intro c hc
  rcases List.mem_append.1 hc with hc | hc
  ·have := h.lt c hc; omega
  ·simp at hc; omega
 ·intro i r c hi hc
  rcases hlast i c hc with ⟨hi', hc⟩ | ⟨e, rfl⟩
  ·rcases hlastO i r hi with ⟨_, q, hq, hl⟩ | ⟨e, _⟩
   ·have hm := List.mem_of_getElem? hc
    rw [hl c (hL6 c hm), h.one i q c hq hc, hoL c (h.lt c hm)]
    grind
   ·omega
  ·rcases hlastO i r hi with ⟨_, q, hq, hl⟩ | ⟨_, rfl⟩
   ·omega
   ·exact hkk
 ·intro i j r c hi hc hn
  rcases hlast j c hc with ⟨hj', hc⟩ | ⟨e, rfl⟩
  ·have hm := List.mem_of_getElem? hc
   rcases hlastO i r hi with ⟨_, q, hq, hl⟩ | ⟨_, rfl⟩
   ·rw [hl c (hL6 c hm), h.zero i j q c hq hc hn, hoL c (h.lt c hm)]
    grind
   ·exact hoL c (h.lt c hm)
  ·rcases hlastO i r hi with ⟨_, q, hq, hl⟩ | ⟨e2, _⟩
   ·rw [hl c hk, hkk]
    grind
   ·omega
 ·intro q hq c hc
  obtain ⟨i, hi⟩ := List.getElem?_of_mem hq
  obtain ⟨r, hr, hl⟩ := hBB i q hi
  by_cases e : c = k
  ·rw [e, hl k hk, hkk]
   grind
  ·rw [hl c (by omega), h.low r hr c (by omega), hoL c (by omega)]
   grind
 ·intro i r c q hi hc hq
  rcases hlast i c hc with ⟨hi', hc⟩ | ⟨e, rfl⟩
  ·have hm := List.mem_of_getElem? hc
   have := h.lt c hm
   rcases hlastO i r hi with ⟨_, z, hz, hl⟩ | ⟨e, _⟩
   ·rw [hl q (by omega), h.lead i z c q hz hc hq, hoL q (by omega)]
    grind
   ·omega
  ·rcases hlastO i r hi with ⟨_, q, hq, hl⟩ | ⟨_, rfl⟩
   ·omega
   ·exact hoL q hq
 ·intro x
  rw [<- h.ker x]
  have hd : ∀ {r q : Nat -> K}, Zkz r q own k -> dot6 q x = dot6 r x - r k * dot6 own x := by
   intro r q hl
   rw [<- Zsz]
   exact Z8a x hl
  have hown : dot6 own x = (b k)⁻¹ * dot6 b x := by
   rw [<- Zq5]
   exact Z8a x fun c hc => by rw [ho c hc]; grind
  constructor
  ·rintro ⟨q1, q2⟩
   have h0 : dot6 own x = 0 := q1 own (by simp)
   have hb0 : dot6 b x = 0 := by rw [hown] at h0; grind
   refine ⟨fun r hr => ?_, fun r hr => ?_⟩
   ·obtain ⟨i, hi⟩ := List.getElem?_of_mem hr
    have hlt := (List.getElem?_eq_some_iff.1 hi).1
    have hlt' : i < O'.length := by omega
    have := q1 O'[i] (List.mem_append_left _ (List.getElem_mem hlt'))
    rw [hd (eO i r _ hi (List.getElem?_eq_getElem hlt')), h0] at this
    grind
   ·rw [hB] at hr
    have hr' : r = b \/ r ∈ B1 ++ B2 := by
     rcases List.mem_append.1 hr with m | m
     ·exact .inr (List.mem_append_left _ m)
     ·rcases List.mem_cons.1 m with m | m
      ·exact .inl m
      ·exact .inr (List.mem_append_right _ m)
    rcases hr' with rfl | hr'
    ·exact hb0
    ·obtain ⟨i, hi⟩ := List.getElem?_of_mem hr'
     have hlt := (List.getElem?_eq_some_iff.1 hi).1
     have hlt' : i < B'.length := by omega
     have := q2 B'[i] (List.getElem_mem hlt')
     rw [hd (eB i r _ hi (List.getElem?_eq_getElem hlt')), h0] at this
     grind
  ·rintro ⟨q1, q2⟩
   have hb0 : dot6 b x = 0 := q2 b hbm
   have h0 : dot6 own x = 0 := by rw [hown, hb0]; grind
   refine ⟨fun r hr => ?_, fun r hr => ?_⟩
   ·rcases List.mem_append.1 hr with m | m
    ·obtain ⟨i, hi⟩ := List.getElem?_of_mem m
     obtain ⟨z, hz, hl⟩ := ZkY lO eO i r hi
     rw [hd hl, h0, q1 z (List.mem_of_getElem? hz)]
     grind
    ·simp at m
     rw [m]; exact h0
   ·obtain ⟨i, hi⟩ := List.getElem?_of_mem hr
    obtain ⟨z, hz, hl⟩ := hBB i r hi
    rw [hd hl, h0, q2 z hz]
    grind
theorem InvS.red {R0 O B : List (Nat -> K)} {L : List Nat} (h : InvS R0 O B L 6) : Red O L /\ ∀ x, KerL O x ↔ KerL R0 x := by
 refine ⟨⟨h.len, h.lt, h.inc, h.one, h.zero⟩, fun x => ?_⟩
 rw [<- h.ker x]
 refine ⟨fun q => ⟨q, fun r hr => ?_⟩, fun q => q.1⟩
 have z : ∀ c, c < 6 -> r c = 0 := h.low r hr
 unfold dot6
 rw [z 0 (by omega), z 1 (by omega), z 2 (by omega), z 3 (by omega), z 4 (by omega), z 5 (by omega)]
 grind
end

end Go.Proofs.Ytfclaacaphpoaaa
