import Derived.Test.YtfclaacaphpoaaaQv
set_option linter.unusedSimpArgs false
set_option linter.unusedVariables false
namespace Go.Proofs.Ytfclaacaphpoaaa
open Go.RowKit
def Zsh (p : Int) (n : Nat) (l : List Int) (r : P6 × Int) : Prop := (r.2 ≠ 0 /\ r.1 = (0, 0, 0, 0, 0, 0)) \/ (r.2 = 0 /\ Zo p = true /\ n = 5 /\ Z0Z p r.1 = true /\ ∀ i, i < 5 -> ZI p (R2 l i) = true /\ Z1g p (R2 l i) r.1 = true)
theorem Zxe {p : Int} {K : Type} [Lean.Grind.Field K] {φ : Int -> K} (H : Hom p K φ) (hf : Zo p = true) {pl : List Int} {i : Nat} (h : ZI p (R2 pl i) = true) : φ (m5 p pl i 0) = φ (R2 pl i).1 * φ (R2 pl i).1 /\ φ (m5 p pl i 1) = φ (R2 pl i).1 * φ (R2 pl i).2 /\ φ (m5 p pl i 2) = φ (R2 pl i).2 * φ (R2 pl i).2 /\ φ (m5 p pl i 3) = φ (R2 pl i).1 /\ φ (m5 p pl i 4) = φ (R2 pl i).2 /\ φ (m5 p pl i 5) = 1 := by
 have hp := Zx hf
 have w0 := Vl.of (φ := φ) (Z0d h).1; have w1 := Vl.of (φ := φ) (Z0d h).2
 have key : ∀ a b : Int, 0 <= a /\ a < p -> 0 <= b /\ b < p -> φ ((wrap64 (a * b)).tmod p) = φ a * φ b := fun a b ha hb => by
  rw [H.tmod]
  exact (Rw.mul H (Vl.rw hp (Vl.of ha)) (Vl.rw hp (Vl.of hb)) (by decide)).2
 have x := (Z0d h).1; have y := (Z0d h).2
 exact ⟨key _ _ x x, key _ _ x y, key _ _ y y, rfl, rfl, H.one⟩
theorem ZtW {p : Int} {K : Type} [Lean.Grind.Field K] {φ : Int -> K} (H : Hom p K φ) (hf : Zo p = true) {pl : List Int} (ha : Z0c p (Z06 5 pl) = true) {r : P6 × Int} (h : OutC p φ ((List.range 5).map fun i c => φ (m5 p pl i c)) r) : Zsh p 5 pl r := by
 have hpt : ∀ i, i < 5 -> ZI p (R2 pl i) = true := fun i hi => List.all_eq_true.1 ha _ (List.mem_map.2 ⟨i, List.mem_range.2 hi, rfl⟩)
 obtain ⟨A, L, hr, hk, h⟩ := h
 rcases h with ⟨_, h⟩ | ⟨h5, f, x, hf6, hfL, hs, he⟩
 ·exact Or.inl (by rw [h]; exact ⟨by decide, rfl⟩)
 ·rcases he with ⟨_, h⟩ | ⟨_, c, h, hc⟩
  ·exact Or.inl (by rw [h]; exact ⟨by decide, rfl⟩)
  ·refine Or.inr ?_
   rw [h]
   refine ⟨rfl, hf, rfl, hc.isConic, fun i hi => ⟨hpt i hi, ?_⟩⟩
   rw [hc.on H hf (hpt i hi)]
   have hK := (hk x).1 (IsSol.ker hr h5 hf6 hfL hs) _ (List.mem_map.2 ⟨i, List.mem_range.2 hi, rfl⟩)
   obtain ⟨e0, e1, e2, e3, e4, e5⟩ := Zxe H hf (hpt i hi)
   unfold dot6 at hK
   simp only [e0, e1, e2, e3, e4, e5] at hK
   clear e0 e1 e2 e3 e4 e5 hs hc hk
   generalize φ (R2 pl i).1 = X at *; generalize φ (R2 pl i).2 = Y at *
   grind
theorem Zpy {p : Int} {n : Nat} {l : List Int} (h : lenB n 2 l = true) : Zsh p n l (Z3I p n l) := by
 have key : ∃ r, Z1o 1000000 p n l = some r /\ Zsh p n l r := by
  obtain ⟨hl, _⟩ := Z53 h
  generalize hfu : 1000000 = fu
  have hfu : 20 <= fu := by omega
  unfold Z1o Z6h
  rw [h, Bool.true_or, if_pos rfl]
  by_cases h0 : Zt p true (Zq n l p) = 0
  ·obtain ⟨hf, hb⟩ := Z9V h0
   by_cases h5 : n = 5
   ·subst h5
    have ha : Z0c p (Z06 5 l) = true := by
     unfold Zq at hb
     rwa [if_pos (by decide)] at hb
    obtain ⟨K, inst, φ, H⟩ := ZdH hf
    have hm := ZvI hf ha
    have hl' : l.length = 10 := by omega
    obtain ⟨F, rfl⟩ : ∃ F, fu = F + 6 := ⟨fu - 6, by omega⟩
    obtain ⟨r, er, hr⟩ := ZwO (φ := φ) H hf hl' hm (fu := F + 6) (by omega) (F := F)
    rw [h0, if_neg (by decide)]
    exact ⟨r, er, ZtW H hf ha hr⟩
   ·unfold Zq at hb
    rw [if_neg (by simp; omega)] at hb
    cases hb
  ·rw [if_pos (by simpa using h0)]
   exact ⟨_, rfl, Or.inl ⟨h0, rfl⟩⟩
 obtain ⟨r, e, hr⟩ := key
 rw [Zau e]
 exact hr
theorem ZxE {P : List P2} {k : Nat} (h : k < P.length) : ∃ z, z ∈ P /\ ((Z0Y P).getD (((k : Nat) : Int).toNat * 2 + 0) 0, (Z0Y P).getD (((k : Nat) : Int).toNat * 2 + 1) 0) = z := by
 have hg := Zkh P k
 rw [List.getD_eq_getElem?_getD, List.getElem?_eq_getElem h] at hg
 exact ⟨P[k], List.getElem_mem h, hg⟩
theorem Zwk (p : Int) (k : P6) : lenB (Z0r p k).1.1 2 (Z0r p k).1.2 = true := by
 rw [Zhv]
 exact Zjo p k
theorem ZxF {p : Int} (hf : Zo p = true) (q : P2 -> Bool) : ((pts p).filter q).length <= 961 := Nat.le_trans (List.length_filter_le _ _) (Zkt (Z9R (Zx hf)))
theorem Zem {p : Int} {k : P6} (hf : Zo p = true) (hk : Z0Z p k = true) : Z0r p k = ((((pts p).filter fun a => Z1g p a k).length, Z0Y ((pts p).filter fun a => Z1g p a k)), 0) := by
 unfold Z0r Z1Z
 rw [hk, ask0 hf]
 rfl
theorem Zxf {p : Int} {k : P6} {z : P2} (hf : Zo p = true) (hk : Z0Z p k = true) (hz : ZI p z = true) (ho : Z1g p z k = true) : Z46 (Z0r p k).1.1 (Z0r p k).1.2 z = true := by
 rw [Zem hf hk]
 unfold Z46
 dsimp only
 rw [Zjh, List.any_eq_true]
 exact ⟨z, List.mem_filter.2 ⟨Zkp.2 (Z0d hz), ho⟩, by simp⟩

end Go.Proofs.Ytfclaacaphpoaaa
