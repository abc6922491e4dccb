import Derived.Test.YtfclaacaphpoaaaDn
import Derived.Test.YtfclaacaphpoaaaRows
import Derived.ProofKit
import Derived.OpenShut
import Derived.Deep.Slices
set_option linter.unusedSimpArgs false
set_option linter.unusedVariables false
namespace Go.Proofs.Ytfclaacaphpoaaa
open Go.RowKit Go.ChangeShapes Go.WideShapes Go.ChangeAt
theorem Zfn {H : Type} {enc : TypeId × Value -> H} {P : Program} (hl : laidOutB P = true) {W W' : World} (hb : Below W.heap.size W W') :
  ∀ {ts : List TypeId} {vs : List Value} {ds : List (DataW H)} {ps : List MemPlace}, (∀ t ∈ ts, P.readableRec t = true /\ t < P.types.size) -> DataW.TrodAll enc P W 0 (fun _ => true) true ts vs ds ps -> (∀ x ∈ ps, x.block < W.heap.size) ->
   DataW.TrodAll enc P W' 0 (fun b => decide (b < W.heap.size)) true ts vs ds ps
 | [], [], [], _, _, h, _ => h
 | t :: ts, v :: vs, d :: ds, ps, hr, h, hlt => by
  obtain ⟨p, q, h1, h2, rfl⟩ := h
  exact ⟨p, q, Below.trod hl (hr t (by simp)).1 (hr t (by simp)).2 h1 hb (fun x hx => hlt x (by simp [hx])),
   Zfn hl hb (fun u hu => hr u (by simp [hu])) h2 (fun x hx => hlt x (by simp [hx])), rfl⟩
theorem Zuv {P : Program} {f : Nat} {avs : Array Value} {W : World} {b : Bool} (h : Calls P f avs W fun e W' => ∃ rv, e = .returned rv /\ Zfs W W' [.v (.bool b)] rv /\ W.grownBy W' none) (hb : b = true) :
  Calls P f avs W fun e W' => e = .returned (.bool true) /\ Below W.heap.size W W' :=
 h.mono fun e W' ⟨rv, he, hr, hg⟩ => by
  have hr : rv = .bool b := hr
  subst hr; subst hb
  exact ⟨he, ⟨hg.os, hg.tape, hg.output, hg.size, fun k hk => hg.block k hk (by simp)⟩⟩
theorem Zwl {H : Type} {enc : TypeId × Value -> H} {P : Program} {W : World} {b : Nat} {t e : TypeId} {k : IntKind} {held : Bool} {v : Value} {d : DataW H} {ps : List MemPlace}
  (ht : P.underlying t = some (.slice e)) (he : P.underlying e = some (.int k)) (hc : P.cellsOf e = 1) (hv : Value.okWide P W .any b t v) (h : DataW.Trod enc P W 0 (fun _ => true) held t v d ps) :
  ∃ (n : Nat) (zs : List Int), zs.length = n /\ n <= maxLen /\ (∀ z ∈ zs, (Lit.int k z).wf = true) /\ ((v = .slice none 0 0 /\ n = 0 /\ zs = []) \/ ∃ g o cap, v = .slice (some ⟨g, o, none⟩) n cap /\ n <= cap /\ g < W.heap.size /\ ∀ j u, (zs.map (Value.int k))[j]? = some u -> W.cell? ⟨g, o + j, none⟩ = some u) := by
 have hw : v = .slice none 0 0 \/ ∃ a len cap, v = .slice (some a) len cap /\ a.spot = none /\ a.block < W.heap.size := by
  unfold Value.okWide at hv
  rw [ht] at hv
  dsimp only at hv
  unfold Cell.okWide Cell.ok at hv
  rw [ht] at hv
  cases v with
  | slice a len cap =>
   cases a with
   | none =>
    cases len with
    | zero => cases cap with
     | zero => exact Or.inl rfl
     | succ _ => exact absurd hv (by simp)
    | succ _ => exact absurd hv (by simp)
   | some a =>
    obtain ⟨_, _, _, hs, row, cells, hsh, _⟩ := hv
    refine Or.inr ⟨a, len, cap, rfl, hs, ?_⟩
    by_cases hlt : a.block < W.heap.size
    ·exact hlt
    ·unfold World.shape? at hsh
     rw [Array.getElem?_eq_none (by omega)] at hsh
     cases hsh
  | _ => exact absurd hv (by simp)
 obtain ⟨fuel, hf⟩ := h
 rcases open_ints ht he hc hf with ⟨h1, _⟩ | ⟨a, len, cap, zs, h1, _, hl, hm, Z5e, _, hcell, hwf⟩
 ·rcases hw with rfl | ⟨a, len, cap, rfl, _, _⟩
  ·exact ⟨0, [], rfl, Nat.zero_le _, by simp, Or.inl ⟨rfl, rfl, rfl⟩⟩
  ·simp [Value.cells] at h1
 ·rcases hw with rfl | ⟨a', len', cap', rfl, hs, hg⟩
  ·simp [Value.cells] at h1
  ·simp only [Value.cells] at h1
   obtain ⟨rfl, rfl, rfl⟩ : a' = a /\ len' = len /\ cap' = cap := by simpa using h1
   simp only [if_true] at Z5e
   refine ⟨len', zs.take len', by rw [List.length_take]; omega, by omega, fun z hz => hwf z (List.mem_of_mem_take hz), Or.inr ?_⟩
   obtain ⟨g, o, spot⟩ := a'
   obtain rfl : spot = none := hs
   refine ⟨g, o, cap', rfl, hl, hg, fun j u hu => ?_⟩
   rw [List.getElem?_map, Option.map_eq_some_iff] at hu
   obtain ⟨x, hx, rfl⟩ := hu
   have hj : j < len' /\ zs[j]? = some x := by
    rw [List.getElem?_take] at hx
    split at hx
    ·exact ⟨by assumption, hx⟩
    ·cases hx
   have := hcell j (by omega)
   rw [add_plain] at this
   rw [this, List.getD_eq_getElem?_getD, hj.2]
   rfl
theorem Zu3 {H : Type} {enc : TypeId × Value -> H} {P : Program} {W : World} {b : Nat} {t e : TypeId} {held : Bool} {v : Value} {d : DataW H} {ps : List MemPlace}
  (ht : P.underlying t = some (.slice e)) (he : P.underlying e = some (.int .u8)) (hc : P.cellsOf e = 1) (hv : Value.okWide P W .any b t v) (h : DataW.Trod enc P W 0 (fun _ => true) held t v d ps) :
  ∃ (n : Nat) (zs : List Int), zs.length = n /\ n <= maxLen /\ (∀ z ∈ zs, 0 <= z /\ z < 256) /\ Z16 W none v n (.byts zs) := by
 obtain ⟨n, zs, h1, h2, h3, h4⟩ := Zwl ht he hc hv h
 refine ⟨n, zs, h1, h2, fun z hz => ?_, True.intro, ?_⟩
 ·have := h3 z hz
  simp [Lit.wf, IntKind.min, IntKind.max, IntKind.signed, IntKind.bits] at this
  omega
 ·rcases h4 with ⟨e1, e2, e3⟩ | ⟨g, o, cap, e1, e2, e3, e4⟩
  ·exact Or.inl ⟨e1, e2, by rw [e3]; rfl⟩
  ·exact Or.inr ⟨g, o, cap, e1, e2, ⟨by simp, e3⟩, e4⟩
theorem Try.own : ownKnob Try.prog.godebug = none := by kernel_rfl
theorem Try.laidOut : laidOutB Try.prog = true := by kernel_rfl

end Go.Proofs.Ytfclaacaphpoaaa
