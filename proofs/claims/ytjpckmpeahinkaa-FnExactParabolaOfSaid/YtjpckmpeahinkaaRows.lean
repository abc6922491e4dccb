/-
  No cell of these rows narrows 'for every input' (looked for: loops, veiled, ifaces, maps, wideKeys, modest, calm, conditions, laid).
  DERIVED. THE GIVEN ROWS OF THIS SEAT. 11 by the template 'for every input the law returns true; each argument reads behind the call as it read before'; 0 by the template 'total and deterministic' (their statements: YtjpckmpeahinkaaTotals.lean).
  GIVEN WITH THE SEED: the statements are not yours to turn. If you find one false, say at which input.
  Laid BY PROGRAM, IN A SANDBOX (cutbox-rows.mjs): the forced cells as the released guide's own fill.sh prints them over the translation 2a3698130accac03… (all of the seat's roots in one cut). By AI agents, Wed Nov 11 2026. No macro, syntax, notation, axiom, sorry.
-/
import Derived.Test.YtjpckmpeahinkaaChecked
import GoSem.Claim
import GoSem.ClaimJoined
import GoSem.ClaimMapViews
import Derived.JoinedTies
import Derived.KernelRfl
namespace Go.Proofs.Ytjpckmpeahinkaa
/- THE CELL 'sum', in the pinned program and in every row, IS THE sha256 OF THE DUMP (.gsa) THAT YtjpckmpeahinkaaProg.lean LOADS. Nothing in Lean hashes anything: it is a label: what it is worth is what the hold of that sum in a sandbox is worth. -/
noncomputable def Try.pinned : Pinned := { name := "ytjpckmpeahinkaa", sum := "2a3698130accac031c3983e4a7f02a93ffd5c0c3ef1c7f11df84c2c124a65088", checked := Try.checked }
namespace Rows
def none {H : Type} : Left H := { results := [], args := [] }

/-- 'laws.FnExactIsConic': WHATEVER THE INPUT: true; the input reads as it did. -/
def fnExactIsConicSpec : ChangeSpec := { name := "fnExactIsConic", fn := fun _ => fun
  | [d1, d2] => { results := [.lit (.bool true)], args := [d1, d2] }
  | _ => none }
def fnExactIsConicRow : OpenClaim := { program := "ytjpckmpeahinkaa", sum := "2a3698130accac031c3983e4a7f02a93ffd5c0c3ef1c7f11df84c2c124a65088", func := "loop.example/g01370/laws.FnExactIsConic", spec := "fnExactIsConic", apart := false }
def FnExactIsConicSaid : Prop := fnExactIsConicRow.holds Try.pinned (OpenSpec.ofChange fnExactIsConicSpec)

/-- ITS FALSE NEIGHBOUR: 'it returns false'. Refute it at one input. -/
def fnExactIsConicWrong : ChangeSpec := { name := "fnExactIsConic", fn := fun _ => fun
  | [d1, d2] => { results := [.lit (.bool false)], args := [d1, d2] }
  | _ => none }
def FnExactIsConicWrongFalsely : Prop := fnExactIsConicRow.holds Try.pinned (OpenSpec.ofChange fnExactIsConicWrong)

/-- 'laws.FnExactDeterminantOf': WHATEVER THE INPUT: true; the input reads as it did. -/
def fnExactDeterminantOfSpec : ChangeSpec := { name := "fnExactDeterminantOf", fn := fun _ => fun
  | [d1, d2] => { results := [.lit (.bool true)], args := [d1, d2] }
  | _ => none }
def fnExactDeterminantOfRow : OpenClaim := { program := "ytjpckmpeahinkaa", sum := "2a3698130accac031c3983e4a7f02a93ffd5c0c3ef1c7f11df84c2c124a65088", func := "loop.example/g01370/laws.FnExactDeterminantOf", spec := "fnExactDeterminantOf", unfollowed := true, recurses := true, apart := false }
def FnExactDeterminantOfSaid : Prop := fnExactDeterminantOfRow.holds Try.pinned (OpenSpec.ofChange fnExactDeterminantOfSpec)

/-- ITS FALSE NEIGHBOUR: 'it returns false'. Refute it at one input. -/
def fnExactDeterminantOfWrong : ChangeSpec := { name := "fnExactDeterminantOf", fn := fun _ => fun
  | [d1, d2] => { results := [.lit (.bool false)], args := [d1, d2] }
  | _ => none }
def FnExactDeterminantOfWrongFalsely : Prop := fnExactDeterminantOfRow.holds Try.pinned (OpenSpec.ofChange fnExactDeterminantOfWrong)

/-- 'laws.FnExactKindOf': WHATEVER THE INPUT: true; the input reads as it did. -/
def fnExactKindOfSpec : ChangeSpec := { name := "fnExactKindOf", fn := fun _ => fun
  | [d1, d2] => { results := [.lit (.bool true)], args := [d1, d2] }
  | _ => none }
def fnExactKindOfRow : OpenClaim := { program := "ytjpckmpeahinkaa", sum := "2a3698130accac031c3983e4a7f02a93ffd5c0c3ef1c7f11df84c2c124a65088", func := "loop.example/g01370/laws.FnExactKindOf", spec := "fnExactKindOf", unfollowed := true, recurses := true, apart := false }
def FnExactKindOfSaid : Prop := fnExactKindOfRow.holds Try.pinned (OpenSpec.ofChange fnExactKindOfSpec)

/-- ITS FALSE NEIGHBOUR: 'it returns false'. Refute it at one input. -/
def fnExactKindOfWrong : ChangeSpec := { name := "fnExactKindOf", fn := fun _ => fun
  | [d1, d2] => { results := [.lit (.bool false)], args := [d1, d2] }
  | _ => none }
def FnExactKindOfWrongFalsely : Prop := fnExactKindOfRow.holds Try.pinned (OpenSpec.ofChange fnExactKindOfWrong)

/-- 'laws.FnExactConicOf': WHATEVER THE INPUT: true; the input reads as it did. -/
def fnExactConicOfSpec : ChangeSpec := { name := "fnExactConicOf", fn := fun _ => fun
  | [d1, d2] => { results := [.lit (.bool true)], args := [d1, d2] }
  | _ => none }
def fnExactConicOfRow : OpenClaim := { program := "ytjpckmpeahinkaa", sum := "2a3698130accac031c3983e4a7f02a93ffd5c0c3ef1c7f11df84c2c124a65088", func := "loop.example/g01370/laws.FnExactConicOf", spec := "fnExactConicOf", unfollowed := true, recurses := true, apart := false }
def FnExactConicOfSaid : Prop := fnExactConicOfRow.holds Try.pinned (OpenSpec.ofChange fnExactConicOfSpec)

/-- ITS FALSE NEIGHBOUR: 'it returns false'. Refute it at one input. -/
def fnExactConicOfWrong : ChangeSpec := { name := "fnExactConicOf", fn := fun _ => fun
  | [d1, d2] => { results := [.lit (.bool false)], args := [d1, d2] }
  | _ => none }
def FnExactConicOfWrongFalsely : Prop := fnExactConicOfRow.holds Try.pinned (OpenSpec.ofChange fnExactConicOfWrong)

/-- 'laws.FnExactConicPoints': WHATEVER THE INPUT: true; the input reads as it did. -/
def fnExactConicPointsSpec : ChangeSpec := { name := "fnExactConicPoints", fn := fun _ => fun
  | [d1, d2] => { results := [.lit (.bool true)], args := [d1, d2] }
  | _ => none }
def fnExactConicPointsRow : OpenClaim := { program := "ytjpckmpeahinkaa", sum := "2a3698130accac031c3983e4a7f02a93ffd5c0c3ef1c7f11df84c2c124a65088", func := "loop.example/g01370/laws.FnExactConicPoints", spec := "fnExactConicPoints", unfollowed := true, recurses := true, apart := false }
def FnExactConicPointsSaid : Prop := fnExactConicPointsRow.holds Try.pinned (OpenSpec.ofChange fnExactConicPointsSpec)

/-- ITS FALSE NEIGHBOUR: 'it returns false'. Refute it at one input. -/
def fnExactConicPointsWrong : ChangeSpec := { name := "fnExactConicPoints", fn := fun _ => fun
  | [d1, d2] => { results := [.lit (.bool false)], args := [d1, d2] }
  | _ => none }
def FnExactConicPointsWrongFalsely : Prop := fnExactConicPointsRow.holds Try.pinned (OpenSpec.ofChange fnExactConicPointsWrong)

/-- 'laws.FnExactPolarOf': WHATEVER THE INPUT: true; the input reads as it did. -/
def fnExactPolarOfSpec : ChangeSpec := { name := "fnExactPolarOf", fn := fun _ => fun
  | [d1, d2, d3] => { results := [.lit (.bool true)], args := [d1, d2, d3] }
  | _ => none }
def fnExactPolarOfRow : OpenClaim := { program := "ytjpckmpeahinkaa", sum := "2a3698130accac031c3983e4a7f02a93ffd5c0c3ef1c7f11df84c2c124a65088", func := "loop.example/g01370/laws.FnExactPolarOf", spec := "fnExactPolarOf", unfollowed := true, recurses := true, apart := false }
def FnExactPolarOfSaid : Prop := fnExactPolarOfRow.holds Try.pinned (OpenSpec.ofChange fnExactPolarOfSpec)

/-- ITS FALSE NEIGHBOUR: 'it returns false'. Refute it at one input. -/
def fnExactPolarOfWrong : ChangeSpec := { name := "fnExactPolarOf", fn := fun _ => fun
  | [d1, d2, d3] => { results := [.lit (.bool false)], args := [d1, d2, d3] }
  | _ => none }
def FnExactPolarOfWrongFalsely : Prop := fnExactPolarOfRow.holds Try.pinned (OpenSpec.ofChange fnExactPolarOfWrong)

/-- 'laws.FnExactCentreOf': WHATEVER THE INPUT: true; the input reads as it did. -/
def fnExactCentreOfSpec : ChangeSpec := { name := "fnExactCentreOf", fn := fun _ => fun
  | [d1, d2] => { results := [.lit (.bool true)], args := [d1, d2] }
  | _ => none }
def fnExactCentreOfRow : OpenClaim := { program := "ytjpckmpeahinkaa", sum := "2a3698130accac031c3983e4a7f02a93ffd5c0c3ef1c7f11df84c2c124a65088", func := "loop.example/g01370/laws.FnExactCentreOf", spec := "fnExactCentreOf", unfollowed := true, recurses := true, apart := false }
def FnExactCentreOfSaid : Prop := fnExactCentreOfRow.holds Try.pinned (OpenSpec.ofChange fnExactCentreOfSpec)

/-- ITS FALSE NEIGHBOUR: 'it returns false'. Refute it at one input. -/
def fnExactCentreOfWrong : ChangeSpec := { name := "fnExactCentreOf", fn := fun _ => fun
  | [d1, d2] => { results := [.lit (.bool false)], args := [d1, d2] }
  | _ => none }
def FnExactCentreOfWrongFalsely : Prop := fnExactCentreOfRow.holds Try.pinned (OpenSpec.ofChange fnExactCentreOfWrong)

/-- 'laws.FnExactTangentOf': WHATEVER THE INPUT: true; the input reads as it did. -/
def fnExactTangentOfSpec : ChangeSpec := { name := "fnExactTangentOf", fn := fun _ => fun
  | [d1, d2, d3] => { results := [.lit (.bool true)], args := [d1, d2, d3] }
  | _ => none }
def fnExactTangentOfRow : OpenClaim := { program := "ytjpckmpeahinkaa", sum := "2a3698130accac031c3983e4a7f02a93ffd5c0c3ef1c7f11df84c2c124a65088", func := "loop.example/g01370/laws.FnExactTangentOf", spec := "fnExactTangentOf", unfollowed := true, recurses := true, apart := false }
def FnExactTangentOfSaid : Prop := fnExactTangentOfRow.holds Try.pinned (OpenSpec.ofChange fnExactTangentOfSpec)

/-- ITS FALSE NEIGHBOUR: 'it returns false'. Refute it at one input. -/
def fnExactTangentOfWrong : ChangeSpec := { name := "fnExactTangentOf", fn := fun _ => fun
  | [d1, d2, d3] => { results := [.lit (.bool false)], args := [d1, d2, d3] }
  | _ => none }
def FnExactTangentOfWrongFalsely : Prop := fnExactTangentOfRow.holds Try.pinned (OpenSpec.ofChange fnExactTangentOfWrong)

/-- 'laws.FnExactPoleOf': WHATEVER THE INPUT: true; the input reads as it did. -/
def fnExactPoleOfSpec : ChangeSpec := { name := "fnExactPoleOf", fn := fun _ => fun
  | [d1, d2, d3] => { results := [.lit (.bool true)], args := [d1, d2, d3] }
  | _ => none }
def fnExactPoleOfRow : OpenClaim := { program := "ytjpckmpeahinkaa", sum := "2a3698130accac031c3983e4a7f02a93ffd5c0c3ef1c7f11df84c2c124a65088", func := "loop.example/g01370/laws.FnExactPoleOf", spec := "fnExactPoleOf", unfollowed := true, recurses := true, apart := false }
def FnExactPoleOfSaid : Prop := fnExactPoleOfRow.holds Try.pinned (OpenSpec.ofChange fnExactPoleOfSpec)

/-- ITS FALSE NEIGHBOUR: 'it returns false'. Refute it at one input. -/
def fnExactPoleOfWrong : ChangeSpec := { name := "fnExactPoleOf", fn := fun _ => fun
  | [d1, d2, d3] => { results := [.lit (.bool false)], args := [d1, d2, d3] }
  | _ => none }
def FnExactPoleOfWrongFalsely : Prop := fnExactPoleOfRow.holds Try.pinned (OpenSpec.ofChange fnExactPoleOfWrong)

/-- 'laws.FnExactParabolaOf': WHATEVER THE INPUT: true; the input reads as it did. -/
def fnExactParabolaOfSpec : ChangeSpec := { name := "fnExactParabolaOf", fn := fun _ => fun
  | [d1, d2, d3, d4] => { results := [.lit (.bool true)], args := [d1, d2, d3, d4] }
  | _ => none }
def fnExactParabolaOfRow : OpenClaim := { program := "ytjpckmpeahinkaa", sum := "2a3698130accac031c3983e4a7f02a93ffd5c0c3ef1c7f11df84c2c124a65088", func := "loop.example/g01370/laws.FnExactParabolaOf", spec := "fnExactParabolaOf", unfollowed := true, recurses := true, apart := false }
def FnExactParabolaOfSaid : Prop := fnExactParabolaOfRow.holds Try.pinned (OpenSpec.ofChange fnExactParabolaOfSpec)

/-- ITS FALSE NEIGHBOUR: 'it returns false'. Refute it at one input. -/
def fnExactParabolaOfWrong : ChangeSpec := { name := "fnExactParabolaOf", fn := fun _ => fun
  | [d1, d2, d3, d4] => { results := [.lit (.bool false)], args := [d1, d2, d3, d4] }
  | _ => none }
def FnExactParabolaOfWrongFalsely : Prop := fnExactParabolaOfRow.holds Try.pinned (OpenSpec.ofChange fnExactParabolaOfWrong)

/-- 'laws.FnExactConicThrough': WHATEVER THE INPUT: true; the input reads as it did. -/
def fnExactConicThroughSpec : ChangeSpec := { name := "fnExactConicThrough", fn := fun _ => fun
  | [d1, d2] => { results := [.lit (.bool true)], args := [d1, d2] }
  | _ => none }
def fnExactConicThroughRow : OpenClaim := { program := "ytjpckmpeahinkaa", sum := "2a3698130accac031c3983e4a7f02a93ffd5c0c3ef1c7f11df84c2c124a65088", func := "loop.example/g01370/laws.FnExactConicThrough", spec := "fnExactConicThrough", unfollowed := true, recurses := true, apart := false }
def FnExactConicThroughSaid : Prop := fnExactConicThroughRow.holds Try.pinned (OpenSpec.ofChange fnExactConicThroughSpec)

/-- ITS FALSE NEIGHBOUR: 'it returns false'. Refute it at one input. -/
def fnExactConicThroughWrong : ChangeSpec := { name := "fnExactConicThrough", fn := fun _ => fun
  | [d1, d2] => { results := [.lit (.bool false)], args := [d1, d2] }
  | _ => none }
def FnExactConicThroughWrongFalsely : Prop := fnExactConicThroughRow.holds Try.pinned (OpenSpec.ofChange fnExactConicThroughWrong)

/- THE SECOND FORM. 'bulk': how many values and letters a reading holds, each counted each time it is reached (what is shared counts as often as it is met; a slice's spare places count too). A statement '..UptoSaid' is the law's where the arguments, and the package variables that the reading takes, are together of bulk at most 1048576: NARROWER than '..Said'. Prove '..Said' where nothing that the law and all that it calls make is longer than what came in: it says more and counts as full. Else prove '..UptoSaid'. A law counts once. -/
mutual
def uptoBulk {H : Type} : DataW H → Nat
  | .lit (.string bytes) => bytes.length + 1
  | .lit _ => 1
  | .nil => 1
  | .ptr d => uptoBulk d + 1
  | .slice elems spare => uptoBulkAll elems + uptoBulkAll spare + 1
  | .agg parts => uptoBulkAll parts + 1
  | .iface _ d => uptoBulk d + 1
  | .map entries => uptoBulkEntries entries + 1
  | .held _ => 1
def uptoBulkAll {H : Type} : List (DataW H) → Nat
  | [] => 0
  | d :: r => uptoBulk d + uptoBulkAll r
def uptoBulkEntries {H : Type} : List (Lit × DataW H) → Nat
  | [] => 0
  | x :: r => uptoBulkEntry x + uptoBulkEntries r
def uptoBulkEntry {H : Type} : Lit × DataW H → Nat
  | (.string bytes, d) => bytes.length + uptoBulk d + 1
  | (_, d) => uptoBulk d + 1
 end
def uptoSmall : (H : Type) → List (DataW H) → Bool := fun _ ds => decide (uptoBulkAll ds ≤ 1048576)
def OpenSpec.upto (s : _root_.Go.ChangeSpec) : _root_.Go.OpenSpec := { _root_.Go.OpenSpec.ofChange s with cond := some uptoSmall }

/-- 'laws.FnExactIsConic', WHERE WHAT IT READS IS OF BULK AT MOST 1048576: true; the input reads as it did. -/
def fnExactIsConicUptoRow : OpenClaim := { program := "ytjpckmpeahinkaa", sum := "2a3698130accac031c3983e4a7f02a93ffd5c0c3ef1c7f11df84c2c124a65088", func := "loop.example/g01370/laws.FnExactIsConic", spec := "fnExactIsConic", apart := false, narrowed := true }
def FnExactIsConicUptoSaid : Prop := fnExactIsConicUptoRow.holds Try.pinned (OpenSpec.upto fnExactIsConicSpec)

/-- 'laws.FnExactDeterminantOf', WHERE WHAT IT READS IS OF BULK AT MOST 1048576: true; the input reads as it did. -/
def fnExactDeterminantOfUptoRow : OpenClaim := { program := "ytjpckmpeahinkaa", sum := "2a3698130accac031c3983e4a7f02a93ffd5c0c3ef1c7f11df84c2c124a65088", func := "loop.example/g01370/laws.FnExactDeterminantOf", spec := "fnExactDeterminantOf", unfollowed := true, recurses := true, apart := false, narrowed := true }
def FnExactDeterminantOfUptoSaid : Prop := fnExactDeterminantOfUptoRow.holds Try.pinned (OpenSpec.upto fnExactDeterminantOfSpec)

/-- 'laws.FnExactKindOf', WHERE WHAT IT READS IS OF BULK AT MOST 1048576: true; the input reads as it did. -/
def fnExactKindOfUptoRow : OpenClaim := { program := "ytjpckmpeahinkaa", sum := "2a3698130accac031c3983e4a7f02a93ffd5c0c3ef1c7f11df84c2c124a65088", func := "loop.example/g01370/laws.FnExactKindOf", spec := "fnExactKindOf", unfollowed := true, recurses := true, apart := false, narrowed := true }
def FnExactKindOfUptoSaid : Prop := fnExactKindOfUptoRow.holds Try.pinned (OpenSpec.upto fnExactKindOfSpec)

/-- 'laws.FnExactConicOf', WHERE WHAT IT READS IS OF BULK AT MOST 1048576: true; the input reads as it did. -/
def fnExactConicOfUptoRow : OpenClaim := { program := "ytjpckmpeahinkaa", sum := "2a3698130accac031c3983e4a7f02a93ffd5c0c3ef1c7f11df84c2c124a65088", func := "loop.example/g01370/laws.FnExactConicOf", spec := "fnExactConicOf", unfollowed := true, recurses := true, apart := false, narrowed := true }
def FnExactConicOfUptoSaid : Prop := fnExactConicOfUptoRow.holds Try.pinned (OpenSpec.upto fnExactConicOfSpec)

/-- 'laws.FnExactConicPoints', WHERE WHAT IT READS IS OF BULK AT MOST 1048576: true; the input reads as it did. -/
def fnExactConicPointsUptoRow : OpenClaim := { program := "ytjpckmpeahinkaa", sum := "2a3698130accac031c3983e4a7f02a93ffd5c0c3ef1c7f11df84c2c124a65088", func := "loop.example/g01370/laws.FnExactConicPoints", spec := "fnExactConicPoints", unfollowed := true, recurses := true, apart := false, narrowed := true }
def FnExactConicPointsUptoSaid : Prop := fnExactConicPointsUptoRow.holds Try.pinned (OpenSpec.upto fnExactConicPointsSpec)

/-- 'laws.FnExactPolarOf', WHERE WHAT IT READS IS OF BULK AT MOST 1048576: true; the input reads as it did. -/
def fnExactPolarOfUptoRow : OpenClaim := { program := "ytjpckmpeahinkaa", sum := "2a3698130accac031c3983e4a7f02a93ffd5c0c3ef1c7f11df84c2c124a65088", func := "loop.example/g01370/laws.FnExactPolarOf", spec := "fnExactPolarOf", unfollowed := true, recurses := true, apart := false, narrowed := true }
def FnExactPolarOfUptoSaid : Prop := fnExactPolarOfUptoRow.holds Try.pinned (OpenSpec.upto fnExactPolarOfSpec)

/-- 'laws.FnExactCentreOf', WHERE WHAT IT READS IS OF BULK AT MOST 1048576: true; the input reads as it did. -/
def fnExactCentreOfUptoRow : OpenClaim := { program := "ytjpckmpeahinkaa", sum := "2a3698130accac031c3983e4a7f02a93ffd5c0c3ef1c7f11df84c2c124a65088", func := "loop.example/g01370/laws.FnExactCentreOf", spec := "fnExactCentreOf", unfollowed := true, recurses := true, apart := false, narrowed := true }
def FnExactCentreOfUptoSaid : Prop := fnExactCentreOfUptoRow.holds Try.pinned (OpenSpec.upto fnExactCentreOfSpec)

/-- 'laws.FnExactTangentOf', WHERE WHAT IT READS IS OF BULK AT MOST 1048576: true; the input reads as it did. -/
def fnExactTangentOfUptoRow : OpenClaim := { program := "ytjpckmpeahinkaa", sum := "2a3698130accac031c3983e4a7f02a93ffd5c0c3ef1c7f11df84c2c124a65088", func := "loop.example/g01370/laws.FnExactTangentOf", spec := "fnExactTangentOf", unfollowed := true, recurses := true, apart := false, narrowed := true }
def FnExactTangentOfUptoSaid : Prop := fnExactTangentOfUptoRow.holds Try.pinned (OpenSpec.upto fnExactTangentOfSpec)

/-- 'laws.FnExactPoleOf', WHERE WHAT IT READS IS OF BULK AT MOST 1048576: true; the input reads as it did. -/
def fnExactPoleOfUptoRow : OpenClaim := { program := "ytjpckmpeahinkaa", sum := "2a3698130accac031c3983e4a7f02a93ffd5c0c3ef1c7f11df84c2c124a65088", func := "loop.example/g01370/laws.FnExactPoleOf", spec := "fnExactPoleOf", unfollowed := true, recurses := true, apart := false, narrowed := true }
def FnExactPoleOfUptoSaid : Prop := fnExactPoleOfUptoRow.holds Try.pinned (OpenSpec.upto fnExactPoleOfSpec)

/-- 'laws.FnExactParabolaOf', WHERE WHAT IT READS IS OF BULK AT MOST 1048576: true; the input reads as it did. -/
def fnExactParabolaOfUptoRow : OpenClaim := { program := "ytjpckmpeahinkaa", sum := "2a3698130accac031c3983e4a7f02a93ffd5c0c3ef1c7f11df84c2c124a65088", func := "loop.example/g01370/laws.FnExactParabolaOf", spec := "fnExactParabolaOf", unfollowed := true, recurses := true, apart := false, narrowed := true }
def FnExactParabolaOfUptoSaid : Prop := fnExactParabolaOfUptoRow.holds Try.pinned (OpenSpec.upto fnExactParabolaOfSpec)

/-- 'laws.FnExactConicThrough', WHERE WHAT IT READS IS OF BULK AT MOST 1048576: true; the input reads as it did. -/
def fnExactConicThroughUptoRow : OpenClaim := { program := "ytjpckmpeahinkaa", sum := "2a3698130accac031c3983e4a7f02a93ffd5c0c3ef1c7f11df84c2c124a65088", func := "loop.example/g01370/laws.FnExactConicThrough", spec := "fnExactConicThrough", unfollowed := true, recurses := true, apart := false, narrowed := true }
def FnExactConicThroughUptoSaid : Prop := fnExactConicThroughUptoRow.holds Try.pinned (OpenSpec.upto fnExactConicThroughSpec)

end Rows
end Go.Proofs.Ytjpckmpeahinkaa
