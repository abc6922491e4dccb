/-
  No cell of these rows narrows 'for every input' (looked for: loops, veiled, ifaces, maps, wideKeys, modest, calm, conditions, laid).
  DERIVED. THE GIVEN ROWS OF THIS SEAT. 10 by the template 'for every input the law returns true; each argument reads behind the call as it read before'; 0 by the template 'total and deterministic' (their statements: YtgadfldmbpgimaaTotals.lean).
  GIVEN WITH THE SEED: the statements are not yours to turn. If you find one false, say at which input.
  Laid BY PROGRAM, IN A SANDBOX (cutbox-rows.mjs): the forced cells as the released guide's own fill.sh prints them over the translation 9845d51863c14f53… (all of the seat's roots in one cut). By AI agents, Wed Nov 11 2026. No macro, syntax, notation, axiom, sorry.
-/
import Derived.Test.YtgadfldmbpgimaaChecked
import GoSem.Claim
import GoSem.ClaimJoined
import GoSem.ClaimMapViews
import Derived.JoinedTies
import Derived.KernelRfl
namespace Go.Proofs.Ytgadfldmbpgimaa
/- THE CELL 'sum', in the pinned program and in every row, IS THE sha256 OF THE DUMP (.gsa) THAT YtgadfldmbpgimaaProg.lean LOADS. Nothing in Lean hashes anything: it is a label: what it is worth is what the hold of that sum in a sandbox is worth. -/
noncomputable def Try.pinned : Pinned := { name := "ytgadfldmbpgimaa", sum := "9845d51863c14f533921a04f06e02539c8e17c60d298f1cff5c22861bbd43c7b", checked := Try.checked }
namespace Rows
def none {H : Type} : Left H := { results := [], args := [] }

/-- 'laws.FnExactUnitCounts': WHATEVER THE INPUT: true; the input reads as it did. -/
def fnExactUnitCountsSpec : ChangeSpec := { name := "fnExactUnitCounts", fn := fun _ => fun
  | [d] => { results := [.lit (.bool true)], args := [d] }
  | _ => none }
def fnExactUnitCountsRow : OpenClaim := { program := "ytgadfldmbpgimaa", sum := "9845d51863c14f533921a04f06e02539c8e17c60d298f1cff5c22861bbd43c7b", func := "loop.example/g01370/laws.FnExactUnitCounts", spec := "fnExactUnitCounts", unfollowed := true, recurses := true, apart := false }
def FnExactUnitCountsSaid : Prop := fnExactUnitCountsRow.holds Try.pinned (OpenSpec.ofChange fnExactUnitCountsSpec)

/-- ITS FALSE NEIGHBOUR: 'it returns false'. Refute it at one input. -/
def fnExactUnitCountsWrong : ChangeSpec := { name := "fnExactUnitCounts", fn := fun _ => fun
  | [d] => { results := [.lit (.bool false)], args := [d] }
  | _ => none }
def FnExactUnitCountsWrongFalsely : Prop := fnExactUnitCountsRow.holds Try.pinned (OpenSpec.ofChange fnExactUnitCountsWrong)

/-- 'laws.FnExactThreeQuadrances': WHATEVER THE INPUT: true; the input reads as it did. -/
def fnExactThreeQuadrancesSpec : ChangeSpec := { name := "fnExactThreeQuadrances", fn := fun _ => fun
  | [d1, d2, d3] => { results := [.lit (.bool true)], args := [d1, d2, d3] }
  | _ => none }
def fnExactThreeQuadrancesRow : OpenClaim := { program := "ytgadfldmbpgimaa", sum := "9845d51863c14f533921a04f06e02539c8e17c60d298f1cff5c22861bbd43c7b", func := "loop.example/g01370/laws.FnExactThreeQuadrances", spec := "fnExactThreeQuadrances", unfollowed := true, recurses := true, apart := false }
def FnExactThreeQuadrancesSaid : Prop := fnExactThreeQuadrancesRow.holds Try.pinned (OpenSpec.ofChange fnExactThreeQuadrancesSpec)

/-- ITS FALSE NEIGHBOUR: 'it returns false'. Refute it at one input. -/
def fnExactThreeQuadrancesWrong : ChangeSpec := { name := "fnExactThreeQuadrances", fn := fun _ => fun
  | [d1, d2, d3] => { results := [.lit (.bool false)], args := [d1, d2, d3] }
  | _ => none }
def FnExactThreeQuadrancesWrongFalsely : Prop := fnExactThreeQuadrancesRow.holds Try.pinned (OpenSpec.ofChange fnExactThreeQuadrancesWrong)

/-- 'laws.FnExactRightColours': WHATEVER THE INPUT: true; the input reads as it did. -/
def fnExactRightColoursSpec : ChangeSpec := { name := "fnExactRightColours", fn := fun _ => fun
  | [d1, d2, d3, d4] => { results := [.lit (.bool true)], args := [d1, d2, d3, d4] }
  | _ => none }
def fnExactRightColoursRow : OpenClaim := { program := "ytgadfldmbpgimaa", sum := "9845d51863c14f533921a04f06e02539c8e17c60d298f1cff5c22861bbd43c7b", func := "loop.example/g01370/laws.FnExactRightColours", spec := "fnExactRightColours", unfollowed := true, recurses := true, apart := false }
def FnExactRightColoursSaid : Prop := fnExactRightColoursRow.holds Try.pinned (OpenSpec.ofChange fnExactRightColoursSpec)

/-- ITS FALSE NEIGHBOUR: 'it returns false'. Refute it at one input. -/
def fnExactRightColoursWrong : ChangeSpec := { name := "fnExactRightColours", fn := fun _ => fun
  | [d1, d2, d3, d4] => { results := [.lit (.bool false)], args := [d1, d2, d3, d4] }
  | _ => none }
def FnExactRightColoursWrongFalsely : Prop := fnExactRightColoursRow.holds Try.pinned (OpenSpec.ofChange fnExactRightColoursWrong)

/-- 'laws.FnExactNullColours': WHATEVER THE INPUT: true; the input reads as it did. -/
def fnExactNullColoursSpec : ChangeSpec := { name := "fnExactNullColours", fn := fun _ => fun
  | [d1, d2] => { results := [.lit (.bool true)], args := [d1, d2] }
  | _ => none }
def fnExactNullColoursRow : OpenClaim := { program := "ytgadfldmbpgimaa", sum := "9845d51863c14f533921a04f06e02539c8e17c60d298f1cff5c22861bbd43c7b", func := "loop.example/g01370/laws.FnExactNullColours", spec := "fnExactNullColours", unfollowed := true, recurses := true, apart := false }
def FnExactNullColoursSaid : Prop := fnExactNullColoursRow.holds Try.pinned (OpenSpec.ofChange fnExactNullColoursSpec)

/-- ITS FALSE NEIGHBOUR: 'it returns false'. Refute it at one input. -/
def fnExactNullColoursWrong : ChangeSpec := { name := "fnExactNullColours", fn := fun _ => fun
  | [d1, d2] => { results := [.lit (.bool false)], args := [d1, d2] }
  | _ => none }
def FnExactNullColoursWrongFalsely : Prop := fnExactNullColoursRow.holds Try.pinned (OpenSpec.ofChange fnExactNullColoursWrong)

/-- 'laws.FnExactEqualColours': WHATEVER THE INPUT: true; the input reads as it did. -/
def fnExactEqualColoursSpec : ChangeSpec := { name := "fnExactEqualColours", fn := fun _ => fun
  | [d1, d2, d3, d4] => { results := [.lit (.bool true)], args := [d1, d2, d3, d4] }
  | _ => none }
def fnExactEqualColoursRow : OpenClaim := { program := "ytgadfldmbpgimaa", sum := "9845d51863c14f533921a04f06e02539c8e17c60d298f1cff5c22861bbd43c7b", func := "loop.example/g01370/laws.FnExactEqualColours", spec := "fnExactEqualColours", unfollowed := true, recurses := true, apart := false }
def FnExactEqualColoursSaid : Prop := fnExactEqualColoursRow.holds Try.pinned (OpenSpec.ofChange fnExactEqualColoursSpec)

/-- ITS FALSE NEIGHBOUR: 'it returns false'. Refute it at one input. -/
def fnExactEqualColoursWrong : ChangeSpec := { name := "fnExactEqualColours", fn := fun _ => fun
  | [d1, d2, d3, d4] => { results := [.lit (.bool false)], args := [d1, d2, d3, d4] }
  | _ => none }
def FnExactEqualColoursWrongFalsely : Prop := fnExactEqualColoursRow.holds Try.pinned (OpenSpec.ofChange fnExactEqualColoursWrong)

/-- 'laws.FnExactOmegaDouble': WHATEVER THE INPUT: true; the input reads as it did. -/
def fnExactOmegaDoubleSpec : ChangeSpec := { name := "fnExactOmegaDouble", fn := fun _ => fun
  | [d1, d2, d3, d4] => { results := [.lit (.bool true)], args := [d1, d2, d3, d4] }
  | _ => none }
def fnExactOmegaDoubleRow : OpenClaim := { program := "ytgadfldmbpgimaa", sum := "9845d51863c14f533921a04f06e02539c8e17c60d298f1cff5c22861bbd43c7b", func := "loop.example/g01370/laws.FnExactOmegaDouble", spec := "fnExactOmegaDouble", unfollowed := true, recurses := true, apart := false }
def FnExactOmegaDoubleSaid : Prop := fnExactOmegaDoubleRow.holds Try.pinned (OpenSpec.ofChange fnExactOmegaDoubleSpec)

/-- ITS FALSE NEIGHBOUR: 'it returns false'. Refute it at one input. -/
def fnExactOmegaDoubleWrong : ChangeSpec := { name := "fnExactOmegaDouble", fn := fun _ => fun
  | [d1, d2, d3, d4] => { results := [.lit (.bool false)], args := [d1, d2, d3, d4] }
  | _ => none }
def FnExactOmegaDoubleWrongFalsely : Prop := fnExactOmegaDoubleRow.holds Try.pinned (OpenSpec.ofChange fnExactOmegaDoubleWrong)

/-- 'laws.FnExactThreeCircumcentres': WHATEVER THE INPUT: true; the input reads as it did. -/
def fnExactThreeCircumcentresSpec : ChangeSpec := { name := "fnExactThreeCircumcentres", fn := fun _ => fun
  | [d1, d2, d3, d4] => { results := [.lit (.bool true)], args := [d1, d2, d3, d4] }
  | _ => none }
def fnExactThreeCircumcentresRow : OpenClaim := { program := "ytgadfldmbpgimaa", sum := "9845d51863c14f533921a04f06e02539c8e17c60d298f1cff5c22861bbd43c7b", func := "loop.example/g01370/laws.FnExactThreeCircumcentres", spec := "fnExactThreeCircumcentres", unfollowed := true, recurses := true, apart := false }
def FnExactThreeCircumcentresSaid : Prop := fnExactThreeCircumcentresRow.holds Try.pinned (OpenSpec.ofChange fnExactThreeCircumcentresSpec)

/-- ITS FALSE NEIGHBOUR: 'it returns false'. Refute it at one input. -/
def fnExactThreeCircumcentresWrong : ChangeSpec := { name := "fnExactThreeCircumcentres", fn := fun _ => fun
  | [d1, d2, d3, d4] => { results := [.lit (.bool false)], args := [d1, d2, d3, d4] }
  | _ => none }
def FnExactThreeCircumcentresWrongFalsely : Prop := fnExactThreeCircumcentresRow.holds Try.pinned (OpenSpec.ofChange fnExactThreeCircumcentresWrong)

/-- 'laws.FnExactThreeFeet': WHATEVER THE INPUT: true; the input reads as it did. -/
def fnExactThreeFeetSpec : ChangeSpec := { name := "fnExactThreeFeet", fn := fun _ => fun
  | [d1, d2, d3] => { results := [.lit (.bool true)], args := [d1, d2, d3] }
  | _ => none }
def fnExactThreeFeetRow : OpenClaim := { program := "ytgadfldmbpgimaa", sum := "9845d51863c14f533921a04f06e02539c8e17c60d298f1cff5c22861bbd43c7b", func := "loop.example/g01370/laws.FnExactThreeFeet", spec := "fnExactThreeFeet", unfollowed := true, recurses := true, apart := false }
def FnExactThreeFeetSaid : Prop := fnExactThreeFeetRow.holds Try.pinned (OpenSpec.ofChange fnExactThreeFeetSpec)

/-- ITS FALSE NEIGHBOUR: 'it returns false'. Refute it at one input. -/
def fnExactThreeFeetWrong : ChangeSpec := { name := "fnExactThreeFeet", fn := fun _ => fun
  | [d1, d2, d3] => { results := [.lit (.bool false)], args := [d1, d2, d3] }
  | _ => none }
def FnExactThreeFeetWrongFalsely : Prop := fnExactThreeFeetRow.holds Try.pinned (OpenSpec.ofChange fnExactThreeFeetWrong)

/-- 'laws.FnExactOmegaPoints': WHATEVER THE INPUT: true; the input reads as it did. -/
def fnExactOmegaPointsSpec : ChangeSpec := { name := "fnExactOmegaPoints", fn := fun _ => fun
  | [d1, d2, d3, d4] => { results := [.lit (.bool true)], args := [d1, d2, d3, d4] }
  | _ => none }
def fnExactOmegaPointsRow : OpenClaim := { program := "ytgadfldmbpgimaa", sum := "9845d51863c14f533921a04f06e02539c8e17c60d298f1cff5c22861bbd43c7b", func := "loop.example/g01370/laws.FnExactOmegaPoints", spec := "fnExactOmegaPoints", unfollowed := true, recurses := true, apart := false }
def FnExactOmegaPointsSaid : Prop := fnExactOmegaPointsRow.holds Try.pinned (OpenSpec.ofChange fnExactOmegaPointsSpec)

/-- ITS FALSE NEIGHBOUR: 'it returns false'. Refute it at one input. -/
def fnExactOmegaPointsWrong : ChangeSpec := { name := "fnExactOmegaPoints", fn := fun _ => fun
  | [d1, d2, d3, d4] => { results := [.lit (.bool false)], args := [d1, d2, d3, d4] }
  | _ => none }
def FnExactOmegaPointsWrongFalsely : Prop := fnExactOmegaPointsRow.holds Try.pinned (OpenSpec.ofChange fnExactOmegaPointsWrong)

/-- 'laws.FnExactThreeEulerLines': WHATEVER THE INPUT: true; the input reads as it did. -/
def fnExactThreeEulerLinesSpec : ChangeSpec := { name := "fnExactThreeEulerLines", fn := fun _ => fun
  | [d1, d2, d3, d4] => { results := [.lit (.bool true)], args := [d1, d2, d3, d4] }
  | _ => none }
def fnExactThreeEulerLinesRow : OpenClaim := { program := "ytgadfldmbpgimaa", sum := "9845d51863c14f533921a04f06e02539c8e17c60d298f1cff5c22861bbd43c7b", func := "loop.example/g01370/laws.FnExactThreeEulerLines", spec := "fnExactThreeEulerLines", unfollowed := true, recurses := true, apart := false }
def FnExactThreeEulerLinesSaid : Prop := fnExactThreeEulerLinesRow.holds Try.pinned (OpenSpec.ofChange fnExactThreeEulerLinesSpec)

/-- ITS FALSE NEIGHBOUR: 'it returns false'. Refute it at one input. -/
def fnExactThreeEulerLinesWrong : ChangeSpec := { name := "fnExactThreeEulerLines", fn := fun _ => fun
  | [d1, d2, d3, d4] => { results := [.lit (.bool false)], args := [d1, d2, d3, d4] }
  | _ => none }
def FnExactThreeEulerLinesWrongFalsely : Prop := fnExactThreeEulerLinesRow.holds Try.pinned (OpenSpec.ofChange fnExactThreeEulerLinesWrong)

/- THE SECOND FORM. 'bulk': how many values and letters a reading holds, each counted each time it is reached (what is shared counts as often as it is met; a slice's spare places count too). A statement '..UptoSaid' is the law's where the arguments, and the package variables that the reading takes, are together of bulk at most 1048576: NARROWER than '..Said'. Prove '..Said' where nothing that the law and all that it calls make is longer than what came in: it says more and counts as full. Else prove '..UptoSaid'. A law counts once. -/
mutual
def uptoBulk {H : Type} : DataW H → Nat
  | .lit (.string bytes) => bytes.length + 1
  | .lit _ => 1
  | .nil => 1
  | .ptr d => uptoBulk d + 1
  | .slice elems spare => uptoBulkAll elems + uptoBulkAll spare + 1
  | .agg parts => uptoBulkAll parts + 1
  | .iface _ d => uptoBulk d + 1
  | .map entries => uptoBulkEntries entries + 1
  | .held _ => 1
def uptoBulkAll {H : Type} : List (DataW H) → Nat
  | [] => 0
  | d :: r => uptoBulk d + uptoBulkAll r
def uptoBulkEntries {H : Type} : List (Lit × DataW H) → Nat
  | [] => 0
  | x :: r => uptoBulkEntry x + uptoBulkEntries r
def uptoBulkEntry {H : Type} : Lit × DataW H → Nat
  | (.string bytes, d) => bytes.length + uptoBulk d + 1
  | (_, d) => uptoBulk d + 1
 end
def uptoSmall : (H : Type) → List (DataW H) → Bool := fun _ ds => decide (uptoBulkAll ds ≤ 1048576)
def OpenSpec.upto (s : _root_.Go.ChangeSpec) : _root_.Go.OpenSpec := { _root_.Go.OpenSpec.ofChange s with cond := some uptoSmall }

/-- 'laws.FnExactUnitCounts', WHERE WHAT IT READS IS OF BULK AT MOST 1048576: true; the input reads as it did. -/
def fnExactUnitCountsUptoRow : OpenClaim := { program := "ytgadfldmbpgimaa", sum := "9845d51863c14f533921a04f06e02539c8e17c60d298f1cff5c22861bbd43c7b", func := "loop.example/g01370/laws.FnExactUnitCounts", spec := "fnExactUnitCounts", unfollowed := true, recurses := true, apart := false, narrowed := true }
def FnExactUnitCountsUptoSaid : Prop := fnExactUnitCountsUptoRow.holds Try.pinned (OpenSpec.upto fnExactUnitCountsSpec)

/-- 'laws.FnExactThreeQuadrances', WHERE WHAT IT READS IS OF BULK AT MOST 1048576: true; the input reads as it did. -/
def fnExactThreeQuadrancesUptoRow : OpenClaim := { program := "ytgadfldmbpgimaa", sum := "9845d51863c14f533921a04f06e02539c8e17c60d298f1cff5c22861bbd43c7b", func := "loop.example/g01370/laws.FnExactThreeQuadrances", spec := "fnExactThreeQuadrances", unfollowed := true, recurses := true, apart := false, narrowed := true }
def FnExactThreeQuadrancesUptoSaid : Prop := fnExactThreeQuadrancesUptoRow.holds Try.pinned (OpenSpec.upto fnExactThreeQuadrancesSpec)

/-- 'laws.FnExactRightColours', WHERE WHAT IT READS IS OF BULK AT MOST 1048576: true; the input reads as it did. -/
def fnExactRightColoursUptoRow : OpenClaim := { program := "ytgadfldmbpgimaa", sum := "9845d51863c14f533921a04f06e02539c8e17c60d298f1cff5c22861bbd43c7b", func := "loop.example/g01370/laws.FnExactRightColours", spec := "fnExactRightColours", unfollowed := true, recurses := true, apart := false, narrowed := true }
def FnExactRightColoursUptoSaid : Prop := fnExactRightColoursUptoRow.holds Try.pinned (OpenSpec.upto fnExactRightColoursSpec)

/-- 'laws.FnExactNullColours', WHERE WHAT IT READS IS OF BULK AT MOST 1048576: true; the input reads as it did. -/
def fnExactNullColoursUptoRow : OpenClaim := { program := "ytgadfldmbpgimaa", sum := "9845d51863c14f533921a04f06e02539c8e17c60d298f1cff5c22861bbd43c7b", func := "loop.example/g01370/laws.FnExactNullColours", spec := "fnExactNullColours", unfollowed := true, recurses := true, apart := false, narrowed := true }
def FnExactNullColoursUptoSaid : Prop := fnExactNullColoursUptoRow.holds Try.pinned (OpenSpec.upto fnExactNullColoursSpec)

/-- 'laws.FnExactEqualColours', WHERE WHAT IT READS IS OF BULK AT MOST 1048576: true; the input reads as it did. -/
def fnExactEqualColoursUptoRow : OpenClaim := { program := "ytgadfldmbpgimaa", sum := "9845d51863c14f533921a04f06e02539c8e17c60d298f1cff5c22861bbd43c7b", func := "loop.example/g01370/laws.FnExactEqualColours", spec := "fnExactEqualColours", unfollowed := true, recurses := true, apart := false, narrowed := true }
def FnExactEqualColoursUptoSaid : Prop := fnExactEqualColoursUptoRow.holds Try.pinned (OpenSpec.upto fnExactEqualColoursSpec)

/-- 'laws.FnExactOmegaDouble', WHERE WHAT IT READS IS OF BULK AT MOST 1048576: true; the input reads as it did. -/
def fnExactOmegaDoubleUptoRow : OpenClaim := { program := "ytgadfldmbpgimaa", sum := "9845d51863c14f533921a04f06e02539c8e17c60d298f1cff5c22861bbd43c7b", func := "loop.example/g01370/laws.FnExactOmegaDouble", spec := "fnExactOmegaDouble", unfollowed := true, recurses := true, apart := false, narrowed := true }
def FnExactOmegaDoubleUptoSaid : Prop := fnExactOmegaDoubleUptoRow.holds Try.pinned (OpenSpec.upto fnExactOmegaDoubleSpec)

/-- 'laws.FnExactThreeCircumcentres', WHERE WHAT IT READS IS OF BULK AT MOST 1048576: true; the input reads as it did. -/
def fnExactThreeCircumcentresUptoRow : OpenClaim := { program := "ytgadfldmbpgimaa", sum := "9845d51863c14f533921a04f06e02539c8e17c60d298f1cff5c22861bbd43c7b", func := "loop.example/g01370/laws.FnExactThreeCircumcentres", spec := "fnExactThreeCircumcentres", unfollowed := true, recurses := true, apart := false, narrowed := true }
def FnExactThreeCircumcentresUptoSaid : Prop := fnExactThreeCircumcentresUptoRow.holds Try.pinned (OpenSpec.upto fnExactThreeCircumcentresSpec)

/-- 'laws.FnExactThreeFeet', WHERE WHAT IT READS IS OF BULK AT MOST 1048576: true; the input reads as it did. -/
def fnExactThreeFeetUptoRow : OpenClaim := { program := "ytgadfldmbpgimaa", sum := "9845d51863c14f533921a04f06e02539c8e17c60d298f1cff5c22861bbd43c7b", func := "loop.example/g01370/laws.FnExactThreeFeet", spec := "fnExactThreeFeet", unfollowed := true, recurses := true, apart := false, narrowed := true }
def FnExactThreeFeetUptoSaid : Prop := fnExactThreeFeetUptoRow.holds Try.pinned (OpenSpec.upto fnExactThreeFeetSpec)

/-- 'laws.FnExactOmegaPoints', WHERE WHAT IT READS IS OF BULK AT MOST 1048576: true; the input reads as it did. -/
def fnExactOmegaPointsUptoRow : OpenClaim := { program := "ytgadfldmbpgimaa", sum := "9845d51863c14f533921a04f06e02539c8e17c60d298f1cff5c22861bbd43c7b", func := "loop.example/g01370/laws.FnExactOmegaPoints", spec := "fnExactOmegaPoints", unfollowed := true, recurses := true, apart := false, narrowed := true }
def FnExactOmegaPointsUptoSaid : Prop := fnExactOmegaPointsUptoRow.holds Try.pinned (OpenSpec.upto fnExactOmegaPointsSpec)

/-- 'laws.FnExactThreeEulerLines', WHERE WHAT IT READS IS OF BULK AT MOST 1048576: true; the input reads as it did. -/
def fnExactThreeEulerLinesUptoRow : OpenClaim := { program := "ytgadfldmbpgimaa", sum := "9845d51863c14f533921a04f06e02539c8e17c60d298f1cff5c22861bbd43c7b", func := "loop.example/g01370/laws.FnExactThreeEulerLines", spec := "fnExactThreeEulerLines", unfollowed := true, recurses := true, apart := false, narrowed := true }
def FnExactThreeEulerLinesUptoSaid : Prop := fnExactThreeEulerLinesUptoRow.holds Try.pinned (OpenSpec.upto fnExactThreeEulerLinesSpec)

end Rows
end Go.Proofs.Ytgadfldmbpgimaa
