import Derived.Test.YtcdpfpfbilfpoaaGreatDoorDn
import Derived.Test.YtcdpfpfbilfpoaaGreatDoorRows
import Derived.ProofKit
import Derived.OpenShut
set_option linter.unusedSimpArgs false
set_option linter.unusedVariables false
namespace Go.Proofs.YtcdpfpfbilfpoaaGreatDoor
open Go.RowKit Go.ChangeShapes Go.WideShapes Go.ChangeAt
def I64 (n : Int) : Prop := -9223372036854775808 ≤ n ∧ n ≤ 9223372036854775807
theorem has_i64 {n : Int} (h : IntKind.i64.has n) : I64 n := by
 simp [IntKind.has, IntKind.min, IntKind.max, IntKind.signed, IntKind.bits] at h
 exact ⟨by omega, by omega⟩
theorem cell_i64 {P : Program} {W : World} {r : Reach} {base : Nat} {t : TypeId} {v : Value} (ht : P.underlying t = some (.int .i64)) (hv : Cell.okWide P W r base t v) : ∃ n, v = .int .i64 n ∧ I64 n := by
 unfold Cell.okWide at hv
 rw [ht] at hv
 cases v <;> simp [Cell.ok, ht] at hv
 obtain ⟨rfl, h⟩ := hv
 exact ⟨_, rfl, has_i64 h⟩
theorem row_ints {P : Program} {W : World} {r : Reach} {base : Nat} {t : TypeId} {cs : Array Value} {ts : List TypeId} (hct : P.cellTypes P.depth t = some ts) (hts : ∀ u ∈ ts, P.underlying u = some (.int .i64)) (h : Row.okWide P W r base t cs) :
  ∃ xs : List Int, xs.length = cs.size ∧ cs = (xs.map (Value.int .i64)).toArray ∧ ∀ x ∈ xs, I64 x := by
 obtain ⟨ts', hct', _, hc⟩ := h
 rw [hct] at hct'
 obtain rfl : ts = ts' := by injection hct'
 have hone : ∀ v ∈ cs.toList, ∃ n, v = .int .i64 n ∧ I64 n := by
  intro v hv
  obtain ⟨i, hi, rfl⟩ := List.getElem_of_mem hv
  obtain ⟨u, hu, hok⟩ := hc i cs.toList[i] (by simp at hi ⊢)
  exact cell_i64 (hts u (List.mem_of_getElem? hu)) hok
 refine ⟨cs.toList.map intOf, by simp, ?_, ?_⟩
 ·have : cs.toList.map (fun v => Value.int .i64 (intOf v)) = cs.toList := by
   conv => rhs; rw [← List.map_id cs.toList]
   refine List.map_congr_left fun v hv => ?_
   obtain ⟨n, rfl, _⟩ := hone v hv
   rfl
  rw [List.map_map]
  show cs = (cs.toList.map (fun v => Value.int .i64 (intOf v))).toArray
  rw [this]
 ·intro x hx
  obtain ⟨v, hv, rfl⟩ := List.mem_map.1 hx
  obtain ⟨n, rfl, hn⟩ := hone v hv
  exact hn
theorem open_str {P : Program} {W : World} {r : Reach} {base : Nat} {t : TypeId} {v : Value} {n : Nat} {fs : Array Field} {ts : List TypeId} (ht : P.underlying t = some (.struct fs)) (hC : P.cellsOf t = n) (hct : P.cellTypes P.depth t = some ts)
  (hts : ∀ u ∈ ts, P.underlying u = some (.int .i64)) (hv : Value.okWide P W r base t v) : ∃ xs : List Int, xs.length = n ∧ v = .agg (xs.map (Value.int .i64)).toArray ∧ ∀ x ∈ xs, I64 x := by
 unfold Value.okWide at hv
 rw [ht] at hv
 obtain ⟨cs, rfl, hs, hr⟩ := hv
 obtain ⟨xs, h1, h2, h3⟩ := row_ints hct hts hr
 exact ⟨xs, by rw [h1, hs, hC], by rw [h2], h3⟩
theorem trodAll_stays {H : Type} {enc : TypeId × Value → H} {P : Program} (hl : laidOutB P = true) {W W' : World} (hb : Below W.heap.size W W') :
  ∀ {ts : List TypeId} {vs : List Value} {ds : List (DataW H)} {ps : List MemPlace}, (∀ t ∈ ts, P.readableRec t = true ∧ t < P.types.size) → DataW.TrodAll enc P W 0 (fun _ => true) true ts vs ds ps → (∀ x ∈ ps, x.block < W.heap.size) →
   DataW.TrodAll enc P W' 0 (fun b => decide (b < W.heap.size)) true ts vs ds ps
 | [], [], [], _, _, h, _ => h
 | t :: ts, v :: vs, d :: ds, ps, hr, h, hlt => by
  obtain ⟨p, q, h1, h2, rfl⟩ := h
  exact ⟨p, q, Below.trod hl (hr t (by simp)).1 (hr t (by simp)).2 h1 hb (fun x hx => hlt x (by simp [hx])),
   trodAll_stays hl hb (fun u hu => hr u (by simp [hu])) h2 (fun x hx => hlt x (by simp [hx])), rfl⟩
theorem len8 {xs : List Int} (h : xs.length = 8) : ∃ a b c d e f g k, xs = [a, b, c, d, e, f, g, k] := by
 match xs, h with
 | [a, b, c, d, e, f, g, k], _ => exact ⟨a, b, c, d, e, f, g, k, rfl⟩
theorem bool_any {P : Program} {f : Nat} {avs : Array Value} {W : World} {b : Bool} (h : Calls P f avs W fun e W' => ∃ rv, e = .returned rv ∧ ResRel W W' [.v (.bool b)] rv ∧ W.grownBy W' none) (hb : b = true) :
  Calls P f avs W fun e W' => e = .returned (.bool true) ∧ Below W.heap.size W W' :=
 h.mono fun e W' ⟨rv, he, hr, hg⟩ => by
  have hr : rv = .bool b := hr
  subst hr; subst hb
  exact ⟨he, ⟨hg.os, hg.tape, hg.output, hg.size, fun k hk => hg.block k hk (by simp)⟩⟩
theorem Tryz.own : ownKnob Tryz.prog.godebug = none := by kernel_rfl
theorem Tryz.laidOut : laidOutB Tryz.prog = true := by kernel_rfl

end Go.Proofs.YtcdpfpfbilfpoaaGreatDoor
