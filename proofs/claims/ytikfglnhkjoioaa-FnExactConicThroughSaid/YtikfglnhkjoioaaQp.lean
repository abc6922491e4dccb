import Derived.Test.YtikfglnhkjoioaaQo
import Derived.Test.YtikfglnhkjoioaaDn
set_option linter.unusedSimpArgs false
set_option linter.unusedVariables false
namespace Go.Proofs.Ytikfglnhkjoioaa
open Go.RowKit
/-! Steps through a law. -/
theorem ne_step {α : Type} [BEq α] [LawfulBEq α] {a b : α} {r : Option Bool} (h : a = b) (k : r = some true) : (if (a != b) = true then some false else r) = some true := by
  subst h
  rw [if_neg (by simp)]
  exact k
theorem nt_step {c : Bool} {r : Option Bool} (h : c = true) (k : r = some true) : (if (!c) = true then some false else r) = some true := by
  subst h
  exact k
theorem fl_step {c : Bool} {r : Option Bool} (h : c = false) (k : r = some true) : (if c = true then some false else r) = some true := by
  subst h
  exact k
theorem ck_step {c : Bool} {r q : Option Bool} (h : c = true) (k : r = some true) : (if c = true then r else q) = some true := by
  subst h
  exact k
theorem br_step {c : Bool} {a b : Option Bool} (h1 : c = true → a = some true) (h2 : c = false → b = some true) : (if c = true then a else b) = some true := by
  cases c
  · exact h2 rfl
  · exact h1 rfl
theorem no_step {c : Bool} {a b : Option Bool} (h : c = false) (k : b = some true) : (if c = true then a else b) = some true := by
  subst h
  exact k
theorem end_step {c : Bool} (h : c = true) : some c = some true := by rw [h]
end Go.Proofs.Ytikfglnhkjoioaa
