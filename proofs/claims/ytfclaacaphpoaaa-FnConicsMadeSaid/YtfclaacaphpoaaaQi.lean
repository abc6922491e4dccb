import Derived.Test.YtfclaacaphpoaaaQh
set_option linter.unusedSimpArgs false
set_option linter.unusedVariables false
namespace Go.Proofs.Ytfclaacaphpoaaa
open Go.RowKit
theorem Zwh {p : Int} (hp : Pr p) (l : P3) : Z6q p l = Z0S p l := by
 unfold Z6q Z0S
 simp only [Znr hp]
 cases h0 : Z0Q p l.1 <;> cases h1 : Z0Q p l.2.1 <;> cases h2 : Z0Q p l.2.2 <;> simp [ZR, h0, h1, h2]
theorem pointcode (p : Int) (k : Bool) (l : List P2) : ZB p l = Zt p k (Z0c p l) := by
 unfold ZB Zt Z0a
 cases h : Zo p
 ·rfl
 ·have e : l.all (fun x => Z3x p x) = Z0c p l := by unfold Z0c; congr 1; funext a; exact ZvD (Zx h) a
  rw [e]
theorem linecode (p : Int) (k : Bool) (l : P3) : Z7h p [l] = Zt p k (Z0S p l) := by
 unfold Z7h Zt Z0a
 cases h : Zo p
 ·rfl
 ·simp [Zwh (Zx h)]
theorem bothcode (p : Int) (k : Bool) (a : P2) (l : P3) : Z0D p a l = Zt p k (if ZI p a = true then Z0S p l else false) := by
 unfold Z0D
 rw [pointcode p k, linecode p k, show Z0c p [a] = ZI p a from by simp [Z0c]]
 unfold Zt
 cases Zo p <;> cases ZI p a <;> cases Z0S p l <;> rfl
theorem Z5K (c : Int) : Z4U c = Z0P c := by
 unfold Z4U Z0P Z0N
 rfl
section
variable {p : Int} {K : Type} [Lean.Grind.Field K] {φ : Int -> K}
end

end Go.Proofs.Ytfclaacaphpoaaa
