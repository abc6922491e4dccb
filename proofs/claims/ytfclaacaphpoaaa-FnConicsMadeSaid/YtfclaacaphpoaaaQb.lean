import Derived.Test.YtfclaacaphpoaaaQa
set_option linter.unusedSimpArgs false
set_option linter.unusedVariables false
namespace Go.Proofs.Ytfclaacaphpoaaa
open Go.RowKit
theorem Zq1 {p : Int} (hp : Pr p) (k : P6) : ZaC p k = Z0Z p k := by
 obtain ⟨a, b, c, d, e, f⟩ := k
 unfold ZaC Z0Z
 simp only [Znr hp]
 cases h0 : Z0Q p a <;> cases h1 : Z0Q p b <;> cases h2 : Z0Q p c <;> cases h3 : Z0Q p d <;> cases h4 : Z0Q p e <;> cases h5 : Z0Q p f <;> simp [ZR, h0, h1, h2, h3, h4, h5]
theorem Zoj (p : Int) (b : Bool) (k : P6) : Z8l p k = Zt p b (Z0Z p k) := by
 unfold Z8l Zt Z0a
 cases h : Zo p
 ·rfl
 ·rw [Zq1 (Zx h)]
  cases Z0Z p k <;> rfl
theorem Zj0 {p : Int} {k : P6} (h : Z0Z p k = true) : (0 <= k.1 /\ k.1 < p) /\ (0 <= k.2.1 /\ k.2.1 < p) /\ (0 <= k.2.2.1 /\ k.2.2.1 < p) /\ (0 <= k.2.2.2.1 /\ k.2.2.2.1 < p) /\ (0 <= k.2.2.2.2.1 /\ k.2.2.2.2.1 < p) /\ (0 <= k.2.2.2.2.2 /\ k.2.2.2.2.2 < p) := by
 unfold Z0Z at h
 cases h0 : ZR p [k.1, k.2.1, k.2.2.1, k.2.2.2.1, k.2.2.2.2.1, k.2.2.2.2.2]
 ·simp [h0] at h
 ·simpa [ZR, Z5v] using h0
theorem ZvD {p : Int} (hp : Pr p) (a : P2) : Z3x p a = ZI p a := by
 unfold Z3x ZI
 simp [Znr hp, ZR]

end Go.Proofs.Ytfclaacaphpoaaa
