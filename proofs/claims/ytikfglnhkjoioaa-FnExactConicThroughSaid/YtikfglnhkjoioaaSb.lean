import Derived.Test.YtikfglnhkjoioaaDn
import Derived.Test.YtikfglnhkjoioaaRows
import Derived.ProofKit
import Derived.OpenShut
import Derived.Deep.Slices
set_option linter.unusedSimpArgs false
set_option linter.unusedVariables false
namespace Go.Proofs.Ytikfglnhkjoioaa
open Go.RowKit Go.ChangeShapes Go.WideShapes Go.ChangeAt
/-! Opening a law's arguments; handing them back. -/
def I64 (n : Int) : Prop := -9223372036854775808 ≤ n ∧ n ≤ 9223372036854775807
theorem has_i64 {n : Int} (h : IntKind.i64.has n) : I64 n := by
  simp [IntKind.has, IntKind.min, IntKind.max, IntKind.signed, IntKind.bits] at h
  exact ⟨by omega, by omega⟩
theorem cell_i64 {P : Program} {W : World} {r : Reach} {base : Nat} {t : TypeId} {v : Value} (ht : P.underlying t = some (.int .i64)) (hv : Cell.okWide P W r base t v) : ∃ n, v = .int .i64 n ∧ I64 n := by
  unfold Cell.okWide at hv
  rw [ht] at hv
  cases v <;> simp [Cell.ok, ht] at hv
  obtain ⟨rfl, h⟩ := hv
  exact ⟨_, rfl, has_i64 h⟩
theorem open_i64 {P : Program} {W : World} {r : Reach} {base : Nat} {t : TypeId} {v : Value} (ht : P.underlying t = some (.int .i64)) (hv : Value.okWide P W r base t v) : ∃ n, v = .int .i64 n ∧ I64 n := by
  unfold Value.okWide at hv
  rw [ht] at hv
  exact cell_i64 ht hv
theorem row_ints {P : Program} {W : World} {r : Reach} {base : Nat} {t : TypeId} {cs : Array Value} {ts : List TypeId} (hct : P.cellTypes P.depth t = some ts) (hts : ∀ u ∈ ts, P.underlying u = some (.int .i64)) (h : Row.okWide P W r base t cs) :
    ∃ xs : List Int, xs.length = cs.size ∧ cs = (xs.map (Value.int .i64)).toArray ∧ ∀ x ∈ xs, I64 x := by
  obtain ⟨ts', hct', _, hc⟩ := h
  rw [hct] at hct'
  obtain rfl : ts = ts' := by injection hct'
  have hone : ∀ v ∈ cs.toList, ∃ n, v = .int .i64 n ∧ I64 n := by
    intro v hv
    obtain ⟨i, hi, rfl⟩ := List.getElem_of_mem hv
    obtain ⟨u, hu, hok⟩ := hc i cs.toList[i] (by simp at hi ⊢)
    exact cell_i64 (hts u (List.mem_of_getElem? hu)) hok
  refine ⟨cs.toList.map intOf, by simp, ?_, ?_⟩
  · have : cs.toList.map (fun v => Value.int .i64 (intOf v)) = cs.toList := by
      conv => rhs; rw [← List.map_id cs.toList]
      refine List.map_congr_left fun v hv => ?_
      obtain ⟨n, rfl, _⟩ := hone v hv
      rfl
    rw [List.map_map]
    show cs = (cs.toList.map (fun v => Value.int .i64 (intOf v))).toArray
    rw [this]
  · intro x hx
    obtain ⟨v, hv, rfl⟩ := List.mem_map.1 hx
    obtain ⟨n, rfl, hn⟩ := hone v hv
    exact hn
theorem open_arr {P : Program} {W : World} {r : Reach} {base : Nat} {t : TypeId} {v : Value} {n m : Nat} {e : TypeId} {ts : List TypeId} (ht : P.underlying t = some (.array m e)) (hC : P.cellsOf t = n) (hct : P.cellTypes P.depth t = some ts)
    (hts : ∀ u ∈ ts, P.underlying u = some (.int .i64)) (hv : Value.okWide P W r base t v) : ∃ xs : List Int, xs.length = n ∧ v = .agg (xs.map (Value.int .i64)).toArray ∧ ∀ x ∈ xs, I64 x := by
  unfold Value.okWide at hv
  rw [ht] at hv
  obtain ⟨cs, rfl, hs, hr⟩ := hv
  obtain ⟨xs, h1, h2, h3⟩ := row_ints hct hts hr
  exact ⟨xs, by rw [h1, hs, hC], by rw [h2], h3⟩
theorem open_str {P : Program} {W : World} {r : Reach} {base : Nat} {t : TypeId} {v : Value} {n : Nat} {fs : Array Field} {ts : List TypeId} (ht : P.underlying t = some (.struct fs)) (hC : P.cellsOf t = n) (hct : P.cellTypes P.depth t = some ts)
    (hts : ∀ u ∈ ts, P.underlying u = some (.int .i64)) (hv : Value.okWide P W r base t v) : ∃ xs : List Int, xs.length = n ∧ v = .agg (xs.map (Value.int .i64)).toArray ∧ ∀ x ∈ xs, I64 x := by
  unfold Value.okWide at hv
  rw [ht] at hv
  obtain ⟨cs, rfl, hs, hr⟩ := hv
  obtain ⟨xs, h1, h2, h3⟩ := row_ints hct hts hr
  exact ⟨xs, by rw [h1, hs, hC], by rw [h2], h3⟩
theorem trodAll_stays {H : Type} {enc : TypeId × Value → H} {P : Program} (hl : laidOutB P = true) {W W' : World} (hb : Below W.heap.size W W') :
    ∀ {ts : List TypeId} {vs : List Value} {ds : List (DataW H)} {ps : List MemPlace}, (∀ t ∈ ts, P.readableRec t = true ∧ t < P.types.size) → DataW.TrodAll enc P W 0 (fun _ => true) true ts vs ds ps → (∀ x ∈ ps, x.block < W.heap.size) →
      DataW.TrodAll enc P W' 0 (fun b => decide (b < W.heap.size)) true ts vs ds ps
  | [], [], [], _, _, h, _ => h
  | t :: ts, v :: vs, d :: ds, ps, hr, h, hlt => by
    obtain ⟨p, q, h1, h2, rfl⟩ := h
    exact ⟨p, q, Below.trod hl (hr t (by simp)).1 (hr t (by simp)).2 h1 hb (fun x hx => hlt x (by simp [hx])),
      trodAll_stays hl hb (fun u hu => hr u (by simp [hu])) h2 (fun x hx => hlt x (by simp [hx])), rfl⟩
theorem len2 {xs : List Int} (h : xs.length = 2) : ∃ a b, xs = [a, b] := by
  match xs, h with
  | [a, b], _ => exact ⟨a, b, rfl⟩
theorem len3 {xs : List Int} (h : xs.length = 3) : ∃ a b c, xs = [a, b, c] := by
  match xs, h with
  | [a, b, c], _ => exact ⟨a, b, c, rfl⟩
theorem len4 {xs : List Int} (h : xs.length = 4) : ∃ a b c d, xs = [a, b, c, d] := by
  match xs, h with
  | [a, b, c, d], _ => exact ⟨a, b, c, d, rfl⟩
theorem len6 {xs : List Int} (h : xs.length = 6) : ∃ a b c d e f, xs = [a, b, c, d, e, f] := by
  match xs, h with
  | [a, b, c, d, e, f], _ => exact ⟨a, b, c, d, e, f, rfl⟩
theorem len8 {xs : List Int} (h : xs.length = 8) : ∃ a b c d e f g k, xs = [a, b, c, d, e, f, g, k] := by
  match xs, h with
  | [a, b, c, d, e, f, g, k], _ => exact ⟨a, b, c, d, e, f, g, k, rfl⟩
theorem bool_any {P : Program} {f : Nat} {avs : Array Value} {W : World} {b : Bool} (h : Calls P f avs W fun e W' => ∃ rv, e = .returned rv ∧ ResRel W W' [.v (.bool b)] rv ∧ W.grownBy W' none) (hb : b = true) :
    Calls P f avs W fun e W' => e = .returned (.bool true) ∧ Below W.heap.size W W' :=
  h.mono fun e W' ⟨rv, he, hr, hg⟩ => by
    have hr : rv = .bool b := hr
    subst hr; subst hb
    exact ⟨he, ⟨hg.os, hg.tape, hg.output, hg.size, fun k hk => hg.block k hk (by simp)⟩⟩
theorem open_pv {H : Type} {enc : TypeId × Value → H} {P : Program} {W : World} {b : Nat} {t e : TypeId} {k : IntKind} {held : Bool} {v : Value} {d : DataW H} {ps : List MemPlace}
    (ht : P.underlying t = some (.slice e)) (he : P.underlying e = some (.int k)) (hc : P.cellsOf e = 1) (hv : Value.okWide P W .any b t v) (h : DataW.Trod enc P W 0 (fun _ => true) held t v d ps) :
    ∃ (n : Nat) (zs : List Int), zs.length = n ∧ n ≤ maxLen ∧ (∀ z ∈ zs, (Lit.int k z).wf = true) ∧ ((v = .slice none 0 0 ∧ n = 0 ∧ zs = []) ∨ ∃ g o cap, v = .slice (some ⟨g, o, none⟩) n cap ∧ n ≤ cap ∧ g < W.heap.size ∧ ∀ j u, (zs.map (Value.int k))[j]? = some u → W.cell? ⟨g, o + j, none⟩ = some u) := by
  have hw : v = .slice none 0 0 ∨ ∃ a len cap, v = .slice (some a) len cap ∧ a.spot = none ∧ a.block < W.heap.size := by
    unfold Value.okWide at hv
    rw [ht] at hv
    dsimp only at hv
    unfold Cell.okWide Cell.ok at hv
    rw [ht] at hv
    cases v with
    | slice a len cap =>
      cases a with
      | none =>
        cases len with
        | zero => cases cap with
          | zero => exact Or.inl rfl
          | succ _ => exact absurd hv (by simp)
        | succ _ => exact absurd hv (by simp)
      | some a =>
        obtain ⟨_, _, _, hs, row, cells, hsh, _⟩ := hv
        refine Or.inr ⟨a, len, cap, rfl, hs, ?_⟩
        by_cases hlt : a.block < W.heap.size
        · exact hlt
        · unfold World.shape? at hsh
          rw [Array.getElem?_eq_none (by omega)] at hsh
          cases hsh
    | _ => exact absurd hv (by simp)
  obtain ⟨fuel, hf⟩ := h
  rcases open_ints ht he hc hf with ⟨h1, _⟩ | ⟨a, len, cap, zs, h1, _, hl, hm, hlen, _, hcell, hwf⟩
  · rcases hw with rfl | ⟨a, len, cap, rfl, _, _⟩
    · exact ⟨0, [], rfl, Nat.zero_le _, by simp, Or.inl ⟨rfl, rfl, rfl⟩⟩
    · simp [Value.cells] at h1
  · rcases hw with rfl | ⟨a', len', cap', rfl, hs, hg⟩
    · simp [Value.cells] at h1
    · simp only [Value.cells] at h1
      obtain ⟨rfl, rfl, rfl⟩ : a' = a ∧ len' = len ∧ cap' = cap := by simpa using h1
      simp only [if_true] at hlen
      refine ⟨len', zs.take len', by rw [List.length_take]; omega, by omega, fun z hz => hwf z (List.mem_of_mem_take hz), Or.inr ?_⟩
      obtain ⟨g, o, spot⟩ := a'
      obtain rfl : spot = none := hs
      refine ⟨g, o, cap', rfl, hl, hg, fun j u hu => ?_⟩
      rw [List.getElem?_map, Option.map_eq_some_iff] at hu
      obtain ⟨x, hx, rfl⟩ := hu
      have hj : j < len' ∧ zs[j]? = some x := by
        rw [List.getElem?_take] at hx
        split at hx
        · exact ⟨by assumption, hx⟩
        · cases hx
      have := hcell j (by omega)
      rw [add_plain] at this
      rw [this, List.getD_eq_getElem?_getD, hj.2]
      rfl
theorem open_byts {H : Type} {enc : TypeId × Value → H} {P : Program} {W : World} {b : Nat} {t e : TypeId} {held : Bool} {v : Value} {d : DataW H} {ps : List MemPlace}
    (ht : P.underlying t = some (.slice e)) (he : P.underlying e = some (.int .u8)) (hc : P.cellsOf e = 1) (hv : Value.okWide P W .any b t v) (h : DataW.Trod enc P W 0 (fun _ => true) held t v d ps) :
    ∃ (n : Nat) (zs : List Int), zs.length = n ∧ n ≤ maxLen ∧ (∀ z ∈ zs, 0 ≤ z ∧ z < 256) ∧ RosRel W none v n (.byts zs) := by
  obtain ⟨n, zs, h1, h2, h3, h4⟩ := open_pv ht he hc hv h
  refine ⟨n, zs, h1, h2, fun z hz => ?_, True.intro, ?_⟩
  · have := h3 z hz
    simp [Lit.wf, IntKind.min, IntKind.max, IntKind.signed, IntKind.bits] at this
    omega
  · rcases h4 with ⟨e1, e2, e3⟩ | ⟨g, o, cap, e1, e2, e3, e4⟩
    · exact Or.inl ⟨e1, e2, by rw [e3]; rfl⟩
    · exact Or.inr ⟨g, o, cap, e1, e2, ⟨by simp, e3⟩, e4⟩
theorem open_i64s {H : Type} {enc : TypeId × Value → H} {P : Program} {W : World} {b : Nat} {t e : TypeId} {held : Bool} {v : Value} {d : DataW H} {ps : List MemPlace}
    (ht : P.underlying t = some (.slice e)) (he : P.underlying e = some (.int .i64)) (hc : P.cellsOf e = 1) (hv : Value.okWide P W .any b t v) (h : DataW.Trod enc P W 0 (fun _ => true) held t v d ps) :
    ∃ (n : Nat) (zs : List Int), zs.length = n ∧ n ≤ maxLen ∧ RosRel W none v n (.ints zs) := by
  obtain ⟨n, zs, h1, h2, h3, h4⟩ := open_pv ht he hc hv h
  refine ⟨n, zs, h1, h2, True.intro, ?_⟩
  rcases h4 with ⟨e1, e2, e3⟩ | ⟨g, o, cap, e1, e2, e3, e4⟩
  · exact Or.inl ⟨e1, e2, by rw [e3]; rfl⟩
  · exact Or.inr ⟨g, o, cap, e1, e2, ⟨by simp, e3⟩, e4⟩
theorem open_prs {H : Type} {enc : TypeId × Value → H} {P : Program} {W : World} {b : Nat} {t a e : TypeId} {held : Bool} {v : Value} {d : DataW H} {ps : List MemPlace}
    (ht : P.underlying t = some (.slice a)) (ha : P.underlying a = some (.array 2 e)) (he : P.underlying e = some (.int .i64)) (hca : P.cellsOf a = 2) (hce : P.cellsOf e = 1) (hv : Value.okWide P W .any b t v) (h : DataW.Trod enc P W 0 (fun _ => true) held t v d ps) :
    ∃ (n : Nat) (zs : List Int), zs.length = 2 * n ∧ n ≤ maxLen ∧ RosRel W none v n (.ints zs) := by
  have hw : v = .slice none 0 0 ∨ ∃ a len cap, v = .slice (some a) len cap ∧ a.spot = none ∧ a.block < W.heap.size := by
    unfold Value.okWide at hv
    rw [ht] at hv
    dsimp only at hv
    unfold Cell.okWide Cell.ok at hv
    rw [ht] at hv
    cases v with
    | slice a len cap =>
      cases a with
      | none =>
        cases len with
        | zero => cases cap with
          | zero => exact Or.inl rfl
          | succ _ => exact absurd hv (by simp)
        | succ _ => exact absurd hv (by simp)
      | some a =>
        obtain ⟨_, _, _, hs, row, cells, hsh, _⟩ := hv
        refine Or.inr ⟨a, len, cap, rfl, hs, ?_⟩
        by_cases hlt : a.block < W.heap.size
        · exact hlt
        · unfold World.shape? at hsh
          rw [Array.getElem?_eq_none (by omega)] at hsh
          cases hsh
    | _ => exact absurd hv (by simp)
  obtain ⟨fuel, hf⟩ := h
  rcases Go.Deep.open_slice ht hf with ⟨h1, _⟩ | ⟨a0, len, cap, m, n, D, Pl, h1, _, hl, hm, hmm, _, hel⟩
  · rcases hw with rfl | ⟨a', len, cap, rfl, _, _⟩
    · exact ⟨0, [], rfl, Nat.zero_le _, True.intro, Or.inl ⟨rfl, rfl, rfl⟩⟩
    · simp [Value.cells] at h1
  · rcases hw with rfl | ⟨a', len', cap', rfl, hs, hg⟩
    · simp [Value.cells] at h1
    · simp only [Value.cells] at h1
      obtain ⟨rfl, rfl, rfl⟩ : a' = a0 ∧ len' = len ∧ cap' = cap := by simpa using h1
      simp only [if_true] at hmm
      have each : ∀ i, i < len' → ∃ q : Int × Int, W.cell? (a'.add (i * 2)) = some (.int .i64 q.1) ∧ W.cell? (a'.add (i * 2 + 1)) = some (.int .i64 q.2) := by
        intro i hi
        obtain ⟨cs', k1, k2⟩ := hel i (by omega)
        rw [hca] at k1
        obtain ⟨_, hlen, hcell⟩ := World.cells?_some k1
        obtain ⟨xs, m', _, _, _, hxl, hxs⟩ := DataW.trod_array ha k2
        match cs', hlen with
        | [c0, c1], _ =>
          have g0 := hxs 0 (by omega)
          have g1 := hxs 1 (by omega)
          rw [List.getElem?_eq_getElem (by omega)] at g0 g1
          simp [hce] at g0 g1
          obtain ⟨z0, hz0, _, _⟩ := DataW.trod_int he g0
          obtain ⟨z1, hz1, _, _⟩ := DataW.trod_int he g1
          simp only [List.cons.injEq, and_true] at hz0 hz1
          subst hz0; subst hz1
          have e0 := hcell 0 (by omega)
          have e1 := hcell 1 (by omega)
          rw [Go.Deep.add_add] at e0 e1
          exact ⟨(z0, z1), by simpa using e0, by simpa using e1⟩
      obtain ⟨q, hq⟩ := Go.Deep.choose_lt each
      obtain ⟨g, o, spot⟩ := a'
      obtain rfl : spot = none := hs
      refine ⟨len', (List.range (2 * len')).map fun j => if j % 2 = 0 then (q (j / 2)).1 else (q (j / 2)).2, by simp, by omega, True.intro, Or.inr ⟨g, o, cap', rfl, hl, ⟨by simp, hg⟩, fun j u hu => ?_⟩⟩
      simp only [Cells.toVals, List.map_map, List.getElem?_map, Option.map_eq_some_iff] at hu
      obtain ⟨x, hx, rfl⟩ := hu
      have hj : j < 2 * len' ∧ x = j := by
        obtain ⟨h1, h2⟩ := List.getElem?_eq_some_iff.1 hx
        simp at h1 h2
        exact ⟨h1, h2.symm⟩
      obtain ⟨hj, rfl⟩ := hj
      have h2 := hq (x / 2) (by omega)
      rw [add_plain, add_plain] at h2
      simp only [Function.comp]
      by_cases ex : x % 2 = 0
      · rw [if_pos ex, ← h2.1]
        congr 2
        omega
      · rw [if_neg ex, ← h2.2]
        congr 2
        omega

theorem Try.own : ownKnob Try.prog.godebug = none := by kernel_rfl
theorem Try.laidOut : laidOutB Try.prog = true := by kernel_rfl

end Go.Proofs.Ytikfglnhkjoioaa
