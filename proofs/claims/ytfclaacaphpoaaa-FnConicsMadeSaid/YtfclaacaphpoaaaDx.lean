import Derived.Test.YtfclaacaphpoaaaDl
set_option linter.unusedSimpArgs false
set_option linter.unusedVariables false
namespace Go.Proofs.Ytfclaacaphpoaaa
open Go.RowKit
theorem ZoN {α : Type} {P : α -> Prop} {c : Prop} [Decidable c] {a b : Option α} (h1 : c -> ∃ r, a = some r /\ P r) (h2 : ¬ c -> ∃ r, b = some r /\ P r) : ∃ r, (if c then a else b) = some r /\ P r := by
 by_cases h : c
 ·rw [if_pos h]; exact h1 h
 ·rw [if_neg h]; exact h2 h
theorem ZoO {α : Type} {P : α -> Prop} {x : α} (h : P x) : ∃ r, some x = some r /\ P r := ⟨x, rfl, h⟩

end Go.Proofs.Ytfclaacaphpoaaa
