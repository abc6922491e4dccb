import Derived.Test.YtoblkbpejfojjaaGreatDoorQc
import Derived.Test.YtoblkbpejfojjaaGreatDoorFd
import Derived.Test.YtoblkbpejfojjaaGreatDoorDn
set_option linter.unusedSimpArgs false
set_option linter.unusedVariables false
namespace Go.Proofs.YtoblkbpejfojjaaGreatDoor
open Go.RowKit
/-! Steps through a law. -/
theorem ne_step {α : Type} [BEq α] [LawfulBEq α] {a b : α} {r : Option Bool} (h : a = b) (k : r = some true) : (if (a != b) = true then some false else r) = some true := by
  subst h
  rw [if_neg (by simp)]
  exact k
theorem nt_step {c : Bool} {r : Option Bool} (h : c = true) (k : r = some true) : (if (!c) = true then some false else r) = some true := by
  subst h
  exact k
theorem ck_step {c : Bool} {r q : Option Bool} (h : c = true) (k : r = some true) : (if c = true then r else q) = some true := by
  subst h
  exact k
theorem br_step {c : Bool} {a b : Option Bool} (h1 : c = true → a = some true) (h2 : c = false → b = some true) : (if c = true then a else b) = some true := by
  cases c
  · exact h2 rfl
  · exact h1 rfl
theorem no_step {c : Bool} {a b : Option Bool} (h : c = false) (k : b = some true) : (if c = true then a else b) = some true := by
  subst h
  exact k
theorem code_big {n : Nat} {l : List Int} (hp : bytB n l = true) (hb : l_big n l = false) : codeB n l = true := code_of_byt hp (by unfold l_big at hb; simp at hb; omega)
theorem points5_self (n : Nat) (l : List Int) : l_points5 n l n l = true := by unfold l_points5; exact beq_self_eq_true l
theorem moves5_self (n : Nat) (l : List Int) : l_moves5 n l n l = true := by unfold l_moves5; exact beq_self_eq_true l
/-! Loops of laws; counts. -/
theorem walk_go {L : Nat → Int → Option Bool} {n : Nat} (hL : ∀ f k : Nat, k < n → L f ((k + 1 : Nat) : Int) = some true → L (f + 1) (k : Int) = some true) (hE : ∀ f : Nat, L (f + 1) (n : Int) = some true) : ∀ (m k F : Nat), k + m = n → m < F → L F (k : Int) = some true
  | m, k, 0, _, h => absurd h (Nat.not_lt_zero m)
  | 0, k, F + 1, h, _ => by
    obtain rfl : k = n := by omega
    exact hE F
  | m + 1, k, F + 1, h, hF => hL F k (by omega) (walk_go hL hE m (k + 1) F (by omega) (by omega))
theorem walk_loop {L : Nat → Int → Option Bool} {n F : Nat} (hF : n < F) (hL : ∀ f k : Nat, k < n → L f ((k + 1 : Nat) : Int) = some true → L (f + 1) (k : Int) = some true) (hE : ∀ f : Nat, L (f + 1) (n : Int) = some true) : L F 0 = some true := walk_go hL hE n 0 F (by omega) hF
end Go.Proofs.YtoblkbpejfojjaaGreatDoor
