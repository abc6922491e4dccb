import Derived.Test.YtfclaacaphpoaaaQp
import Derived.Test.YtfclaacaphpoaaaDn
set_option linter.unusedSimpArgs false
set_option linter.unusedVariables false
namespace Go.Proofs.Ytfclaacaphpoaaa
open Go.RowKit
theorem Z8q {α : Type} [BEq α] [LawfulBEq α] {a b : α} {r : Option Bool} (h : a = b) (k : r = some true) : (if (a != b) = true then some false else r) = some true := by
 subst h
 rw [if_neg (by simp)]
 exact k
theorem Zep {c : Bool} {r : Option Bool} (h : c = true) (k : r = some true) : (if (!c) = true then some false else r) = some true := by
 subst h
 exact k
theorem Zw8 {c : Bool} {r : Option Bool} (h : c = false) (k : r = some true) : (if c = true then some false else r) = some true := by
 subst h
 exact k
theorem Z4O {c : Bool} {r q : Option Bool} (h : c = true) (k : r = some true) : (if c = true then r else q) = some true := by
 subst h
 exact k
theorem Zkk {c : Bool} {a b : Option Bool} (h1 : c = true -> a = some true) (h2 : c = false -> b = some true) : (if c = true then a else b) = some true := by
 cases c
 ·exact h2 rfl
 ·exact h1 rfl
theorem Zpe {c : Bool} {a b : Option Bool} (h : c = false) (k : b = some true) : (if c = true then a else b) = some true := by
 subst h
 exact k
theorem ZuI {c : Bool} (h : c = true) : some c = some true := by rw [h]
theorem Zuz {n : Nat} {l : List Int} (hp : bytB n l = true) (hb : Zbo n l = false) : Z2p n l = true := ZpZ hp (by unfold Zbo at hb; simp at hb; omega)
end Go.Proofs.Ytfclaacaphpoaaa
