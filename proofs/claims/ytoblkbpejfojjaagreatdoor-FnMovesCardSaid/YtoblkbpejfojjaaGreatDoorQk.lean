import Derived.Test.YtoblkbpejfojjaaGreatDoorQj
set_option linter.unusedSimpArgs false
set_option linter.unusedVariables false
namespace Go.Proofs.YtoblkbpejfojjaaGreatDoor
open Go.RowKit
/-! Counts over the rests. -/
section
variable {K : Type} {p : Int} {φ : Int → K}
def zz (p : Int) (φ : Int → K) : List K := (List.range p.toNat).map fun n : Nat => φ (n : Int)
theorem count_eq {q r : K → Bool} (h : ∀ k, q k = r k) : (zz p φ).countP q = (zz p φ).countP r := by rw [show q = r from funext h]
theorem sum_eq2 {f g : K → Nat} (h : ∀ k, f k = g k) : ((zz p φ).map f).sum = ((zz p φ).map g).sum := by rw [show f = g from funext h]
theorem count_none {q : K → Bool} (h : ∀ k, q k = false) : (zz p φ).countP q = 0 := by
  rw [List.countP_eq_zero]
  intro y _ e
  rw [h y] at e
  cases e
theorem zz_len : (zz p φ).length = p.toNat := by simp [zz]
theorem sum_const (c : Nat) : ((zz p φ).map fun _ => c).sum = p.toNat * c := by
  rw [List.map_const', List.sum_replicate_nat, zz_len]
end
section
variable {K : Type} [Lean.Grind.Field K] {p : Int} {φ : Int → K}
theorem phi_inj (H : Hom p K φ) {x y : Int} (hx : 0 ≤ x ∧ x < p) (hy : 0 ≤ y ∧ y < p) (e : φ x = φ y) : x = y := by
  have h := (H.iff x y).1 e
  rwa [Int.emod_eq_of_lt hx.1 hx.2, Int.emod_eq_of_lt hy.1 hy.2] at h
theorem zz_nodup (H : Hom p K φ) : (zz p φ).Nodup := by
  unfold zz List.Nodup
  rw [List.pairwise_map]
  refine List.Pairwise.imp_of_mem (fun {a b} ha hb hab e => hab ?_) (List.nodup_range (n := p.toNat))
  have h1 := List.mem_range.1 ha
  have h2 := List.mem_range.1 hb
  have := phi_inj H (x := (a : Int)) (y := (b : Int)) (by omega) (by omega) e
  omega
theorem zz_mem (H : Hom p K φ) (k : K) : k ∈ zz p φ := by
  obtain ⟨x, h0, h1, rfl⟩ := H.sur k
  exact List.mem_map.2 ⟨x.toNat, List.mem_range.2 (by omega), by rw [Int.toNat_of_nonneg h0]⟩
theorem zz_perm (H : Hom p K φ) {σ : K → K} (hi : ∀ a b, σ a = σ b → a = b) (hs : ∀ k, ∃ a, σ a = k) : ((zz p φ).map σ).Perm (zz p φ) := by
  refine (List.perm_ext_iff_of_nodup ?_ (zz_nodup H)).2 fun k => ⟨fun _ => zz_mem H k, fun _ => ?_⟩
  · unfold List.Nodup
    rw [List.pairwise_map]
    exact List.Pairwise.imp (fun {a b} hab e => hab (hi a b e)) (zz_nodup H)
  · obtain ⟨a, rfl⟩ := hs k
    exact List.mem_map.2 ⟨a, zz_mem H a, rfl⟩
theorem zz_lin (H : Hom p K φ) {s t : K} (hs : s ≠ 0) : ((zz p φ).map fun x => s * x + t).Perm (zz p φ) :=
  zz_perm H (fun a b e => by grind) (fun k => ⟨(k - t) * s⁻¹, by grind⟩)
theorem count_lin (H : Hom p K φ) {s t : K} (hs : s ≠ 0) (q : K → Bool) : (zz p φ).countP (fun x => q (s * x + t)) = (zz p φ).countP q := by
  rw [← (zz_lin H hs (t := t)).countP_eq q, List.countP_map]
  rfl
theorem sum_lin (H : Hom p K φ) {s t : K} (hs : s ≠ 0) (g : K → Nat) : ((zz p φ).map fun x => g (s * x + t)).sum = ((zz p φ).map g).sum := by
  rw [← ((zz_lin H hs (t := t)).map g).sum_nat, List.map_map]
  rfl
theorem count_one (H : Hom p K φ) {q : K → Bool} (a : K) (h : ∀ k, q k = true ↔ k = a) : (zz p φ).countP q = 1 := by
  have hn := zz_nodup H
  have hm := zz_mem H a
  generalize zz p φ = l at *
  induction l with
  | nil => cases hm
  | cons x l ih =>
    unfold List.Nodup at hn
    rw [List.pairwise_cons] at hn
    by_cases hx : x = a
    · have h0 : l.countP q = 0 := by
        rw [List.countP_eq_zero]
        intro y hy e
        exact hn.1 y hy (by rw [hx, (h y).1 e])
      rw [List.countP_cons, if_pos ((h x).2 hx), h0]
    · rw [List.countP_cons, if_neg (fun e => hx ((h x).1 e)), ih hn.2 (by
        rcases List.mem_cons.1 hm with e | e
        · exact absurd e.symm hx
        · exact e)]
end
def tblN (p d : Nat) : List Nat := (List.range p).map fun t => (List.range p).countP fun z => Nat.beq (d * (z * z) % p) t
def rowN (p m : Nat) (tbl : List Nat) : Nat := ((List.range p).map fun u => tbl.getD ((u * u + (p - m)) % p) 0).sum

end Go.Proofs.YtoblkbpejfojjaaGreatDoor
