/-
  No cell of these rows narrows 'for every input' (looked for: loops, veiled, ifaces, maps, wideKeys, modest, calm, conditions, laid).
  DERIVED. THE GIVEN ROWS OF THIS SEAT. 2 by the template 'for every input the law returns true; each argument reads behind the call as it read before'; 0 by the template 'total and deterministic' (their statements: YtfclaacaphpoaaaTotals.lean).
  GIVEN WITH THE SEED: the statements are not yours to turn. If you find one false, say at which input.
  Laid BY PROGRAM, IN A SANDBOX (cutbox-rows.mjs): the forced cells as the released guide's own fill.sh prints them over the translation 58216f9b96d6ef94… (all of the seat's roots in one cut). By AI agents, Wed Nov 11 2026. No macro, syntax, notation, axiom, sorry.
-/
import Derived.Test.YtfclaacaphpoaaaChecked
import GoSem.Claim
import GoSem.ClaimJoined
import GoSem.ClaimMapViews
import Derived.JoinedTies
import Derived.KernelRfl
namespace Go.Proofs.Ytfclaacaphpoaaa
/- THE CELL 'sum', in the pinned program and in every row, IS THE sha256 OF THE DUMP (.gsa) THAT YtfclaacaphpoaaaProg.lean LOADS. Nothing in Lean hashes anything: it is a label: what it is worth is what the hold of that sum in a sandbox is worth. -/
noncomputable def Try.pinned : Pinned := { name := "ytfclaacaphpoaaa", sum := "58216f9b96d6ef94ae65053ae50f1938b0570a355b7e95f8fdb2e407737a80ca", checked := Try.checked }
namespace Rows
def none {H : Type} : Left H := { results := [], args := [] }

/-- 'laws.FnConics': WHATEVER THE INPUT: true; the input reads as it did. -/
def fnConicsSpec : ChangeSpec := { name := "fnConics", fn := fun _ => fun
  | [d] => { results := [.lit (.bool true)], args := [d] }
  | _ => none }
def fnConicsRow : OpenClaim := { program := "ytfclaacaphpoaaa", sum := "58216f9b96d6ef94ae65053ae50f1938b0570a355b7e95f8fdb2e407737a80ca", func := "loop.example/g01370/laws.FnConics", spec := "fnConics", unfollowed := true, recurses := true, apart := false }
def FnConicsSaid : Prop := fnConicsRow.holds Try.pinned (OpenSpec.ofChange fnConicsSpec)

/-- ITS FALSE NEIGHBOUR: 'it returns false'. Refute it at one input. -/
def fnConicsWrong : ChangeSpec := { name := "fnConics", fn := fun _ => fun
  | [d] => { results := [.lit (.bool false)], args := [d] }
  | _ => none }
def FnConicsWrongFalsely : Prop := fnConicsRow.holds Try.pinned (OpenSpec.ofChange fnConicsWrong)

/-- 'laws.FnConicsMade': WHATEVER THE INPUT: true; the input reads as it did. -/
def fnConicsMadeSpec : ChangeSpec := { name := "fnConicsMade", fn := fun _ => fun
  | [d] => { results := [.lit (.bool true)], args := [d] }
  | _ => none }
def fnConicsMadeRow : OpenClaim := { program := "ytfclaacaphpoaaa", sum := "58216f9b96d6ef94ae65053ae50f1938b0570a355b7e95f8fdb2e407737a80ca", func := "loop.example/g01370/laws.FnConicsMade", spec := "fnConicsMade", unfollowed := true, recurses := true, apart := false }
def FnConicsMadeSaid : Prop := fnConicsMadeRow.holds Try.pinned (OpenSpec.ofChange fnConicsMadeSpec)

/-- ITS FALSE NEIGHBOUR: 'it returns false'. Refute it at one input. -/
def fnConicsMadeWrong : ChangeSpec := { name := "fnConicsMade", fn := fun _ => fun
  | [d] => { results := [.lit (.bool false)], args := [d] }
  | _ => none }
def FnConicsMadeWrongFalsely : Prop := fnConicsMadeRow.holds Try.pinned (OpenSpec.ofChange fnConicsMadeWrong)

/- THE SECOND FORM. 'bulk': how many values and letters a reading holds, each counted each time it is reached (what is shared counts as often as it is met; a slice's spare places count too). A statement '..UptoSaid' is the law's where the arguments, and the package variables that the reading takes, are together of bulk at most 1048576: NARROWER than '..Said'. Prove '..Said' where nothing that the law and all that it calls make is longer than what came in: it says more and counts as full. Else prove '..UptoSaid'. A law counts once. -/
mutual
def uptoBulk {H : Type} : DataW H → Nat
  | .lit (.string bytes) => bytes.length + 1
  | .lit _ => 1
  | .nil => 1
  | .ptr d => uptoBulk d + 1
  | .slice elems spare => uptoBulkAll elems + uptoBulkAll spare + 1
  | .agg parts => uptoBulkAll parts + 1
  | .iface _ d => uptoBulk d + 1
  | .map entries => uptoBulkEntries entries + 1
  | .held _ => 1
def uptoBulkAll {H : Type} : List (DataW H) → Nat
  | [] => 0
  | d :: r => uptoBulk d + uptoBulkAll r
def uptoBulkEntries {H : Type} : List (Lit × DataW H) → Nat
  | [] => 0
  | x :: r => uptoBulkEntry x + uptoBulkEntries r
def uptoBulkEntry {H : Type} : Lit × DataW H → Nat
  | (.string bytes, d) => bytes.length + uptoBulk d + 1
  | (_, d) => uptoBulk d + 1
 end
def uptoSmall : (H : Type) → List (DataW H) → Bool := fun _ ds => decide (uptoBulkAll ds ≤ 1048576)
def OpenSpec.upto (s : _root_.Go.ChangeSpec) : _root_.Go.OpenSpec := { _root_.Go.OpenSpec.ofChange s with cond := some uptoSmall }

/-- 'laws.FnConics', WHERE WHAT IT READS IS OF BULK AT MOST 1048576: true; the input reads as it did. -/
def fnConicsUptoRow : OpenClaim := { program := "ytfclaacaphpoaaa", sum := "58216f9b96d6ef94ae65053ae50f1938b0570a355b7e95f8fdb2e407737a80ca", func := "loop.example/g01370/laws.FnConics", spec := "fnConics", unfollowed := true, recurses := true, apart := false, narrowed := true }
def FnConicsUptoSaid : Prop := fnConicsUptoRow.holds Try.pinned (OpenSpec.upto fnConicsSpec)

/-- 'laws.FnConicsMade', WHERE WHAT IT READS IS OF BULK AT MOST 1048576: true; the input reads as it did. -/
def fnConicsMadeUptoRow : OpenClaim := { program := "ytfclaacaphpoaaa", sum := "58216f9b96d6ef94ae65053ae50f1938b0570a355b7e95f8fdb2e407737a80ca", func := "loop.example/g01370/laws.FnConicsMade", spec := "fnConicsMade", unfollowed := true, recurses := true, apart := false, narrowed := true }
def FnConicsMadeUptoSaid : Prop := fnConicsMadeUptoRow.holds Try.pinned (OpenSpec.upto fnConicsMadeSpec)

end Rows
end Go.Proofs.Ytfclaacaphpoaaa
