import Derived.Test.YtoblkbpejfojjaaGreatDoorGa
set_option linter.unusedSimpArgs false
set_option linter.unusedVariables false
namespace Go.Proofs.YtoblkbpejfojjaaGreatDoor
open Go.RowKit
/-! The finite check on pairs: two keepers take a vector that is not null to one of the same quadrance. -/
abbrev N4o := Nat × Nat × Nat × Nat
def natM (m : P4o) : N4o := (m.1.toNat, m.2.1.toNat, m.2.2.1.toNat, m.2.2.2.toNat)
def hitN (p x y z t : Nat) (m : N4o) : Bool := Nat.beq ((m.1 * x + m.2.1 * y) % p) z && Nat.beq ((m.2.2.1 * x + m.2.2.2 * y) % p) t
def quadN (p c x y : Nat) : Nat := match c with
  | 0 => (x * x + y * y) % p
  | 1 => (x * x + (p - 1) * (y * y)) % p
  | _ => (x * y + y * x) % p
def pairN (p c : Nat) (K : List N4o) : Bool := (List.range p).all fun x => (List.range p).all fun y => Nat.beq (quadN p c x y) 0 || (List.range p).all fun z => (List.range p).all fun t => !Nat.beq (quadN p c x y) (quadN p c z t) || Nat.beq (K.filter (hitN p x y z t)).length 2
def twoB (p c : Int) : Bool := match Fo_i_keepers 1000000 p c with
  | some k => pairN p.toNat c.toNat ((unflat4 k.1 k.2).map natM)
  | none => false
theorem unflat4_flat4 : ∀ K : List P4o, unflat4 K.length (flat4 K) = K
  | [] => rfl
  | m :: K => by
    rw [flat4_cons, List.length_cons]
    show (m.1, m.2.1, m.2.2.1, m.2.2.2) :: unflat4 K.length (flat4 K) = _
    rw [unflat4_flat4 K]

end Go.Proofs.YtoblkbpejfojjaaGreatDoor
