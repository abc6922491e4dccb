/-
  No cell of these rows narrows 'for every input' (looked for: loops, veiled, ifaces, maps, wideKeys, modest, calm, conditions, laid).
  DERIVED. THE GIVEN ROWS OF THIS SEAT. 15 by the template 'for every input the law returns true; each argument reads behind the call as it read before'; 0 by the template 'total and deterministic' (their statements: YtcechmaoihckgaaTotals.lean).
  GIVEN WITH THE SEED: the statements are not yours to turn. If you find one false, say at which input.
  Laid BY PROGRAM, IN A SANDBOX (cutbox-rows.mjs): the forced cells as the released guide's own fill.sh prints them over the translation d0f3bfd3057e7e74… (all of the seat's roots in one cut). By AI agents, Wed Nov 11 2026. No macro, syntax, notation, axiom, sorry.
-/
import Derived.Test.YtcechmaoihckgaaChecked
import GoSem.Claim
import GoSem.ClaimJoined
import GoSem.ClaimMapViews
import Derived.JoinedTies
import Derived.KernelRfl
namespace Go.Proofs.Ytcechmaoihckgaa
/- THE CELL 'sum', in the pinned program and in every row, IS THE sha256 OF THE DUMP (.gsa) THAT YtcechmaoihckgaaProg.lean LOADS. Nothing in Lean hashes anything: it is a label: what it is worth is what the hold of that sum in a sandbox is worth. -/
noncomputable def Try.pinned : Pinned := { name := "ytcechmaoihckgaa", sum := "d0f3bfd3057e7e74e07655f1e880239700597c395a7073afed057b707c1799f9", checked := Try.checked }
namespace Rows
def none {H : Type} : Left H := { results := [], args := [] }

/-- 'laws.FnExactIsNullPlace': WHATEVER THE INPUT: true; the input reads as it did. -/
def fnExactIsNullPlaceSpec : ChangeSpec := { name := "fnExactIsNullPlace", fn := fun _ => fun
  | [d1, d2] => { results := [.lit (.bool true)], args := [d1, d2] }
  | _ => none }
def fnExactIsNullPlaceRow : OpenClaim := { program := "ytcechmaoihckgaa", sum := "d0f3bfd3057e7e74e07655f1e880239700597c395a7073afed057b707c1799f9", func := "loop.example/g01370/laws.FnExactIsNullPlace", spec := "fnExactIsNullPlace", unfollowed := true, recurses := true, apart := false }
def FnExactIsNullPlaceSaid : Prop := fnExactIsNullPlaceRow.holds Try.pinned (OpenSpec.ofChange fnExactIsNullPlaceSpec)

/-- ITS FALSE NEIGHBOUR: 'it returns false'. Refute it at one input. -/
def fnExactIsNullPlaceWrong : ChangeSpec := { name := "fnExactIsNullPlace", fn := fun _ => fun
  | [d1, d2] => { results := [.lit (.bool false)], args := [d1, d2] }
  | _ => none }
def FnExactIsNullPlaceWrongFalsely : Prop := fnExactIsNullPlaceRow.holds Try.pinned (OpenSpec.ofChange fnExactIsNullPlaceWrong)

/-- 'laws.FnExactPlaceProduct': WHATEVER THE INPUT: true; the input reads as it did. -/
def fnExactPlaceProductSpec : ChangeSpec := { name := "fnExactPlaceProduct", fn := fun _ => fun
  | [d1, d2, d3] => { results := [.lit (.bool true)], args := [d1, d2, d3] }
  | _ => none }
def fnExactPlaceProductRow : OpenClaim := { program := "ytcechmaoihckgaa", sum := "d0f3bfd3057e7e74e07655f1e880239700597c395a7073afed057b707c1799f9", func := "loop.example/g01370/laws.FnExactPlaceProduct", spec := "fnExactPlaceProduct", unfollowed := true, recurses := true, apart := false }
def FnExactPlaceProductSaid : Prop := fnExactPlaceProductRow.holds Try.pinned (OpenSpec.ofChange fnExactPlaceProductSpec)

/-- ITS FALSE NEIGHBOUR: 'it returns false'. Refute it at one input. -/
def fnExactPlaceProductWrong : ChangeSpec := { name := "fnExactPlaceProduct", fn := fun _ => fun
  | [d1, d2, d3] => { results := [.lit (.bool false)], args := [d1, d2, d3] }
  | _ => none }
def FnExactPlaceProductWrongFalsely : Prop := fnExactPlaceProductRow.holds Try.pinned (OpenSpec.ofChange fnExactPlaceProductWrong)

/-- 'laws.FnExactPlaceOf': WHATEVER THE INPUT: true; the input reads as it did. -/
def fnExactPlaceOfSpec : ChangeSpec := { name := "fnExactPlaceOf", fn := fun _ => fun
  | [d1, d2, d3, d4] => { results := [.lit (.bool true)], args := [d1, d2, d3, d4] }
  | _ => none }
def fnExactPlaceOfRow : OpenClaim := { program := "ytcechmaoihckgaa", sum := "d0f3bfd3057e7e74e07655f1e880239700597c395a7073afed057b707c1799f9", func := "loop.example/g01370/laws.FnExactPlaceOf", spec := "fnExactPlaceOf", unfollowed := true, recurses := true, apart := false }
def FnExactPlaceOfSaid : Prop := fnExactPlaceOfRow.holds Try.pinned (OpenSpec.ofChange fnExactPlaceOfSpec)

/-- ITS FALSE NEIGHBOUR: 'it returns false'. Refute it at one input. -/
def fnExactPlaceOfWrong : ChangeSpec := { name := "fnExactPlaceOf", fn := fun _ => fun
  | [d1, d2, d3, d4] => { results := [.lit (.bool false)], args := [d1, d2, d3, d4] }
  | _ => none }
def FnExactPlaceOfWrongFalsely : Prop := fnExactPlaceOfRow.holds Try.pinned (OpenSpec.ofChange fnExactPlaceOfWrong)

/-- 'laws.FnExactAreInLine': WHATEVER THE INPUT: true; the input reads as it did. -/
def fnExactAreInLineSpec : ChangeSpec := { name := "fnExactAreInLine", fn := fun _ => fun
  | [d1, d2, d3, d4] => { results := [.lit (.bool true)], args := [d1, d2, d3, d4] }
  | _ => none }
def fnExactAreInLineRow : OpenClaim := { program := "ytcechmaoihckgaa", sum := "d0f3bfd3057e7e74e07655f1e880239700597c395a7073afed057b707c1799f9", func := "loop.example/g01370/laws.FnExactAreInLine", spec := "fnExactAreInLine", unfollowed := true, recurses := true, apart := false }
def FnExactAreInLineSaid : Prop := fnExactAreInLineRow.holds Try.pinned (OpenSpec.ofChange fnExactAreInLineSpec)

/-- ITS FALSE NEIGHBOUR: 'it returns false'. Refute it at one input. -/
def fnExactAreInLineWrong : ChangeSpec := { name := "fnExactAreInLine", fn := fun _ => fun
  | [d1, d2, d3, d4] => { results := [.lit (.bool false)], args := [d1, d2, d3, d4] }
  | _ => none }
def FnExactAreInLineWrongFalsely : Prop := fnExactAreInLineRow.holds Try.pinned (OpenSpec.ofChange fnExactAreInLineWrong)

/-- 'laws.FnExactNullPlaces': WHATEVER THE INPUT: true; the input reads as it did. -/
def fnExactNullPlacesSpec : ChangeSpec := { name := "fnExactNullPlaces", fn := fun _ => fun
  | [d] => { results := [.lit (.bool true)], args := [d] }
  | _ => none }
def fnExactNullPlacesRow : OpenClaim := { program := "ytcechmaoihckgaa", sum := "d0f3bfd3057e7e74e07655f1e880239700597c395a7073afed057b707c1799f9", func := "loop.example/g01370/laws.FnExactNullPlaces", spec := "fnExactNullPlaces", unfollowed := true, recurses := true, apart := false }
def FnExactNullPlacesSaid : Prop := fnExactNullPlacesRow.holds Try.pinned (OpenSpec.ofChange fnExactNullPlacesSpec)

/-- ITS FALSE NEIGHBOUR: 'it returns false'. Refute it at one input. -/
def fnExactNullPlacesWrong : ChangeSpec := { name := "fnExactNullPlaces", fn := fun _ => fun
  | [d] => { results := [.lit (.bool false)], args := [d] }
  | _ => none }
def FnExactNullPlacesWrongFalsely : Prop := fnExactNullPlacesRow.holds Try.pinned (OpenSpec.ofChange fnExactNullPlacesWrong)

/-- 'laws.FnExactPlaceQuadrance': WHATEVER THE INPUT: true; the input reads as it did. -/
def fnExactPlaceQuadranceSpec : ChangeSpec := { name := "fnExactPlaceQuadrance", fn := fun _ => fun
  | [d1, d2, d3] => { results := [.lit (.bool true)], args := [d1, d2, d3] }
  | _ => none }
def fnExactPlaceQuadranceRow : OpenClaim := { program := "ytcechmaoihckgaa", sum := "d0f3bfd3057e7e74e07655f1e880239700597c395a7073afed057b707c1799f9", func := "loop.example/g01370/laws.FnExactPlaceQuadrance", spec := "fnExactPlaceQuadrance", unfollowed := true, recurses := true, apart := false }
def FnExactPlaceQuadranceSaid : Prop := fnExactPlaceQuadranceRow.holds Try.pinned (OpenSpec.ofChange fnExactPlaceQuadranceSpec)

/-- ITS FALSE NEIGHBOUR: 'it returns false'. Refute it at one input. -/
def fnExactPlaceQuadranceWrong : ChangeSpec := { name := "fnExactPlaceQuadrance", fn := fun _ => fun
  | [d1, d2, d3] => { results := [.lit (.bool false)], args := [d1, d2, d3] }
  | _ => none }
def FnExactPlaceQuadranceWrongFalsely : Prop := fnExactPlaceQuadranceRow.holds Try.pinned (OpenSpec.ofChange fnExactPlaceQuadranceWrong)

/-- 'laws.FnExactKindOfLine': WHATEVER THE INPUT: true; the input reads as it did. -/
def fnExactKindOfLineSpec : ChangeSpec := { name := "fnExactKindOfLine", fn := fun _ => fun
  | [d1, d2] => { results := [.lit (.bool true)], args := [d1, d2] }
  | _ => none }
def fnExactKindOfLineRow : OpenClaim := { program := "ytcechmaoihckgaa", sum := "d0f3bfd3057e7e74e07655f1e880239700597c395a7073afed057b707c1799f9", func := "loop.example/g01370/laws.FnExactKindOfLine", spec := "fnExactKindOfLine", unfollowed := true, recurses := true, apart := false }
def FnExactKindOfLineSaid : Prop := fnExactKindOfLineRow.holds Try.pinned (OpenSpec.ofChange fnExactKindOfLineSpec)

/-- ITS FALSE NEIGHBOUR: 'it returns false'. Refute it at one input. -/
def fnExactKindOfLineWrong : ChangeSpec := { name := "fnExactKindOfLine", fn := fun _ => fun
  | [d1, d2] => { results := [.lit (.bool false)], args := [d1, d2] }
  | _ => none }
def FnExactKindOfLineWrongFalsely : Prop := fnExactKindOfLineRow.holds Try.pinned (OpenSpec.ofChange fnExactKindOfLineWrong)

/-- 'laws.FnExactJoinOf': WHATEVER THE INPUT: true; the input reads as it did. -/
def fnExactJoinOfSpec : ChangeSpec := { name := "fnExactJoinOf", fn := fun _ => fun
  | [d1, d2, d3] => { results := [.lit (.bool true)], args := [d1, d2, d3] }
  | _ => none }
def fnExactJoinOfRow : OpenClaim := { program := "ytcechmaoihckgaa", sum := "d0f3bfd3057e7e74e07655f1e880239700597c395a7073afed057b707c1799f9", func := "loop.example/g01370/laws.FnExactJoinOf", spec := "fnExactJoinOf", unfollowed := true, recurses := true, apart := false }
def FnExactJoinOfSaid : Prop := fnExactJoinOfRow.holds Try.pinned (OpenSpec.ofChange fnExactJoinOfSpec)

/-- ITS FALSE NEIGHBOUR: 'it returns false'. Refute it at one input. -/
def fnExactJoinOfWrong : ChangeSpec := { name := "fnExactJoinOf", fn := fun _ => fun
  | [d1, d2, d3] => { results := [.lit (.bool false)], args := [d1, d2, d3] }
  | _ => none }
def FnExactJoinOfWrongFalsely : Prop := fnExactJoinOfRow.holds Try.pinned (OpenSpec.ofChange fnExactJoinOfWrong)

/-- 'laws.FnExactQuadrancesOfPlaces': WHATEVER THE INPUT: true; the input reads as it did. -/
def fnExactQuadrancesOfPlacesSpec : ChangeSpec := { name := "fnExactQuadrancesOfPlaces", fn := fun _ => fun
  | [d1, d2, d3, d4] => { results := [.lit (.bool true)], args := [d1, d2, d3, d4] }
  | _ => none }
def fnExactQuadrancesOfPlacesRow : OpenClaim := { program := "ytcechmaoihckgaa", sum := "d0f3bfd3057e7e74e07655f1e880239700597c395a7073afed057b707c1799f9", func := "loop.example/g01370/laws.FnExactQuadrancesOfPlaces", spec := "fnExactQuadrancesOfPlaces", unfollowed := true, recurses := true, apart := false }
def FnExactQuadrancesOfPlacesSaid : Prop := fnExactQuadrancesOfPlacesRow.holds Try.pinned (OpenSpec.ofChange fnExactQuadrancesOfPlacesSpec)

/-- ITS FALSE NEIGHBOUR: 'it returns false'. Refute it at one input. -/
def fnExactQuadrancesOfPlacesWrong : ChangeSpec := { name := "fnExactQuadrancesOfPlaces", fn := fun _ => fun
  | [d1, d2, d3, d4] => { results := [.lit (.bool false)], args := [d1, d2, d3, d4] }
  | _ => none }
def FnExactQuadrancesOfPlacesWrongFalsely : Prop := fnExactQuadrancesOfPlacesRow.holds Try.pinned (OpenSpec.ofChange fnExactQuadrancesOfPlacesWrong)

/-- 'laws.FnExactSpreadOfJoins': WHATEVER THE INPUT: true; the input reads as it did. -/
def fnExactSpreadOfJoinsSpec : ChangeSpec := { name := "fnExactSpreadOfJoins", fn := fun _ => fun
  | [d1, d2, d3, d4] => { results := [.lit (.bool true)], args := [d1, d2, d3, d4] }
  | _ => none }
def fnExactSpreadOfJoinsRow : OpenClaim := { program := "ytcechmaoihckgaa", sum := "d0f3bfd3057e7e74e07655f1e880239700597c395a7073afed057b707c1799f9", func := "loop.example/g01370/laws.FnExactSpreadOfJoins", spec := "fnExactSpreadOfJoins", unfollowed := true, recurses := true, apart := false }
def FnExactSpreadOfJoinsSaid : Prop := fnExactSpreadOfJoinsRow.holds Try.pinned (OpenSpec.ofChange fnExactSpreadOfJoinsSpec)

/-- ITS FALSE NEIGHBOUR: 'it returns false'. Refute it at one input. -/
def fnExactSpreadOfJoinsWrong : ChangeSpec := { name := "fnExactSpreadOfJoins", fn := fun _ => fun
  | [d1, d2, d3, d4] => { results := [.lit (.bool false)], args := [d1, d2, d3, d4] }
  | _ => none }
def FnExactSpreadOfJoinsWrongFalsely : Prop := fnExactSpreadOfJoinsRow.holds Try.pinned (OpenSpec.ofChange fnExactSpreadOfJoinsWrong)

/-- 'laws.FnExactPlacesOn': WHATEVER THE INPUT: true; the input reads as it did. -/
def fnExactPlacesOnSpec : ChangeSpec := { name := "fnExactPlacesOn", fn := fun _ => fun
  | [d1, d2] => { results := [.lit (.bool true)], args := [d1, d2] }
  | _ => none }
def fnExactPlacesOnRow : OpenClaim := { program := "ytcechmaoihckgaa", sum := "d0f3bfd3057e7e74e07655f1e880239700597c395a7073afed057b707c1799f9", func := "loop.example/g01370/laws.FnExactPlacesOn", spec := "fnExactPlacesOn", unfollowed := true, recurses := true, apart := false }
def FnExactPlacesOnSaid : Prop := fnExactPlacesOnRow.holds Try.pinned (OpenSpec.ofChange fnExactPlacesOnSpec)

/-- ITS FALSE NEIGHBOUR: 'it returns false'. Refute it at one input. -/
def fnExactPlacesOnWrong : ChangeSpec := { name := "fnExactPlacesOn", fn := fun _ => fun
  | [d1, d2] => { results := [.lit (.bool false)], args := [d1, d2] }
  | _ => none }
def FnExactPlacesOnWrongFalsely : Prop := fnExactPlacesOnRow.holds Try.pinned (OpenSpec.ofChange fnExactPlacesOnWrong)

/-- 'laws.FnExactCountByQuadrance': WHATEVER THE INPUT: true; the input reads as it did. -/
def fnExactCountByQuadranceSpec : ChangeSpec := { name := "fnExactCountByQuadrance", fn := fun _ => fun
  | [d1, d2] => { results := [.lit (.bool true)], args := [d1, d2] }
  | _ => none }
def fnExactCountByQuadranceRow : OpenClaim := { program := "ytcechmaoihckgaa", sum := "d0f3bfd3057e7e74e07655f1e880239700597c395a7073afed057b707c1799f9", func := "loop.example/g01370/laws.FnExactCountByQuadrance", spec := "fnExactCountByQuadrance", unfollowed := true, recurses := true, apart := false }
def FnExactCountByQuadranceSaid : Prop := fnExactCountByQuadranceRow.holds Try.pinned (OpenSpec.ofChange fnExactCountByQuadranceSpec)

/-- ITS FALSE NEIGHBOUR: 'it returns false'. Refute it at one input. -/
def fnExactCountByQuadranceWrong : ChangeSpec := { name := "fnExactCountByQuadrance", fn := fun _ => fun
  | [d1, d2] => { results := [.lit (.bool false)], args := [d1, d2] }
  | _ => none }
def FnExactCountByQuadranceWrongFalsely : Prop := fnExactCountByQuadranceRow.holds Try.pinned (OpenSpec.ofChange fnExactCountByQuadranceWrong)

/-- 'laws.FnExactMidpointsOf': WHATEVER THE INPUT: true; the input reads as it did. -/
def fnExactMidpointsOfSpec : ChangeSpec := { name := "fnExactMidpointsOf", fn := fun _ => fun
  | [d1, d2, d3] => { results := [.lit (.bool true)], args := [d1, d2, d3] }
  | _ => none }
def fnExactMidpointsOfRow : OpenClaim := { program := "ytcechmaoihckgaa", sum := "d0f3bfd3057e7e74e07655f1e880239700597c395a7073afed057b707c1799f9", func := "loop.example/g01370/laws.FnExactMidpointsOf", spec := "fnExactMidpointsOf", unfollowed := true, recurses := true, apart := false }
def FnExactMidpointsOfSaid : Prop := fnExactMidpointsOfRow.holds Try.pinned (OpenSpec.ofChange fnExactMidpointsOfSpec)

/-- ITS FALSE NEIGHBOUR: 'it returns false'. Refute it at one input. -/
def fnExactMidpointsOfWrong : ChangeSpec := { name := "fnExactMidpointsOf", fn := fun _ => fun
  | [d1, d2, d3] => { results := [.lit (.bool false)], args := [d1, d2, d3] }
  | _ => none }
def FnExactMidpointsOfWrongFalsely : Prop := fnExactMidpointsOfRow.holds Try.pinned (OpenSpec.ofChange fnExactMidpointsOfWrong)

/-- 'laws.FnExactNewDesk': WHATEVER THE INPUT: true; the input reads as it did. -/
def fnExactNewDeskSpec : ChangeSpec := { name := "fnExactNewDesk", fn := fun _ => fun
  | [] => { results := [.lit (.bool true)], args := [] }
  | _ => none }
def fnExactNewDeskRow : OpenClaim := { program := "ytcechmaoihckgaa", sum := "d0f3bfd3057e7e74e07655f1e880239700597c395a7073afed057b707c1799f9", func := "loop.example/g01370/laws.FnExactNewDesk", spec := "fnExactNewDesk", apart := false }
def FnExactNewDeskSaid : Prop := fnExactNewDeskRow.holds Try.pinned (OpenSpec.ofChange fnExactNewDeskSpec)

/-- ITS FALSE NEIGHBOUR: 'it returns false'. Refute it at one input. -/
def fnExactNewDeskWrong : ChangeSpec := { name := "fnExactNewDesk", fn := fun _ => fun
  | [] => { results := [.lit (.bool false)], args := [] }
  | _ => none }
def FnExactNewDeskWrongFalsely : Prop := fnExactNewDeskRow.holds Try.pinned (OpenSpec.ofChange fnExactNewDeskWrong)

/-- 'laws.FnExactIsDesk': WHATEVER THE INPUT: true; the input reads as it did. -/
def fnExactIsDeskSpec : ChangeSpec := { name := "fnExactIsDesk", fn := fun _ => fun
  | [d] => { results := [.lit (.bool true)], args := [d] }
  | _ => none }
def fnExactIsDeskRow : OpenClaim := { program := "ytcechmaoihckgaa", sum := "d0f3bfd3057e7e74e07655f1e880239700597c395a7073afed057b707c1799f9", func := "loop.example/g01370/laws.FnExactIsDesk", spec := "fnExactIsDesk", apart := false }
def FnExactIsDeskSaid : Prop := fnExactIsDeskRow.holds Try.pinned (OpenSpec.ofChange fnExactIsDeskSpec)

/-- ITS FALSE NEIGHBOUR: 'it returns false'. Refute it at one input. -/
def fnExactIsDeskWrong : ChangeSpec := { name := "fnExactIsDesk", fn := fun _ => fun
  | [d] => { results := [.lit (.bool false)], args := [d] }
  | _ => none }
def FnExactIsDeskWrongFalsely : Prop := fnExactIsDeskRow.holds Try.pinned (OpenSpec.ofChange fnExactIsDeskWrong)

/- THE SECOND FORM. 'bulk': how many values and letters a reading holds, each counted each time it is reached (what is shared counts as often as it is met; a slice's spare places count too). A statement '..UptoSaid' is the law's where the arguments, and the package variables that the reading takes, are together of bulk at most 1048576: NARROWER than '..Said'. Prove '..Said' where nothing that the law and all that it calls make is longer than what came in: it says more and counts as full. Else prove '..UptoSaid'. A law counts once. -/
mutual
def uptoBulk {H : Type} : DataW H → Nat
  | .lit (.string bytes) => bytes.length + 1
  | .lit _ => 1
  | .nil => 1
  | .ptr d => uptoBulk d + 1
  | .slice elems spare => uptoBulkAll elems + uptoBulkAll spare + 1
  | .agg parts => uptoBulkAll parts + 1
  | .iface _ d => uptoBulk d + 1
  | .map entries => uptoBulkEntries entries + 1
  | .held _ => 1
def uptoBulkAll {H : Type} : List (DataW H) → Nat
  | [] => 0
  | d :: r => uptoBulk d + uptoBulkAll r
def uptoBulkEntries {H : Type} : List (Lit × DataW H) → Nat
  | [] => 0
  | x :: r => uptoBulkEntry x + uptoBulkEntries r
def uptoBulkEntry {H : Type} : Lit × DataW H → Nat
  | (.string bytes, d) => bytes.length + uptoBulk d + 1
  | (_, d) => uptoBulk d + 1
 end
def uptoSmall : (H : Type) → List (DataW H) → Bool := fun _ ds => decide (uptoBulkAll ds ≤ 1048576)
def OpenSpec.upto (s : _root_.Go.ChangeSpec) : _root_.Go.OpenSpec := { _root_.Go.OpenSpec.ofChange s with cond := some uptoSmall }

/-- 'laws.FnExactIsNullPlace', WHERE WHAT IT READS IS OF BULK AT MOST 1048576: true; the input reads as it did. -/
def fnExactIsNullPlaceUptoRow : OpenClaim := { program := "ytcechmaoihckgaa", sum := "d0f3bfd3057e7e74e07655f1e880239700597c395a7073afed057b707c1799f9", func := "loop.example/g01370/laws.FnExactIsNullPlace", spec := "fnExactIsNullPlace", unfollowed := true, recurses := true, apart := false, narrowed := true }
def FnExactIsNullPlaceUptoSaid : Prop := fnExactIsNullPlaceUptoRow.holds Try.pinned (OpenSpec.upto fnExactIsNullPlaceSpec)

/-- 'laws.FnExactPlaceProduct', WHERE WHAT IT READS IS OF BULK AT MOST 1048576: true; the input reads as it did. -/
def fnExactPlaceProductUptoRow : OpenClaim := { program := "ytcechmaoihckgaa", sum := "d0f3bfd3057e7e74e07655f1e880239700597c395a7073afed057b707c1799f9", func := "loop.example/g01370/laws.FnExactPlaceProduct", spec := "fnExactPlaceProduct", unfollowed := true, recurses := true, apart := false, narrowed := true }
def FnExactPlaceProductUptoSaid : Prop := fnExactPlaceProductUptoRow.holds Try.pinned (OpenSpec.upto fnExactPlaceProductSpec)

/-- 'laws.FnExactPlaceOf', WHERE WHAT IT READS IS OF BULK AT MOST 1048576: true; the input reads as it did. -/
def fnExactPlaceOfUptoRow : OpenClaim := { program := "ytcechmaoihckgaa", sum := "d0f3bfd3057e7e74e07655f1e880239700597c395a7073afed057b707c1799f9", func := "loop.example/g01370/laws.FnExactPlaceOf", spec := "fnExactPlaceOf", unfollowed := true, recurses := true, apart := false, narrowed := true }
def FnExactPlaceOfUptoSaid : Prop := fnExactPlaceOfUptoRow.holds Try.pinned (OpenSpec.upto fnExactPlaceOfSpec)

/-- 'laws.FnExactAreInLine', WHERE WHAT IT READS IS OF BULK AT MOST 1048576: true; the input reads as it did. -/
def fnExactAreInLineUptoRow : OpenClaim := { program := "ytcechmaoihckgaa", sum := "d0f3bfd3057e7e74e07655f1e880239700597c395a7073afed057b707c1799f9", func := "loop.example/g01370/laws.FnExactAreInLine", spec := "fnExactAreInLine", unfollowed := true, recurses := true, apart := false, narrowed := true }
def FnExactAreInLineUptoSaid : Prop := fnExactAreInLineUptoRow.holds Try.pinned (OpenSpec.upto fnExactAreInLineSpec)

/-- 'laws.FnExactNullPlaces', WHERE WHAT IT READS IS OF BULK AT MOST 1048576: true; the input reads as it did. -/
def fnExactNullPlacesUptoRow : OpenClaim := { program := "ytcechmaoihckgaa", sum := "d0f3bfd3057e7e74e07655f1e880239700597c395a7073afed057b707c1799f9", func := "loop.example/g01370/laws.FnExactNullPlaces", spec := "fnExactNullPlaces", unfollowed := true, recurses := true, apart := false, narrowed := true }
def FnExactNullPlacesUptoSaid : Prop := fnExactNullPlacesUptoRow.holds Try.pinned (OpenSpec.upto fnExactNullPlacesSpec)

/-- 'laws.FnExactPlaceQuadrance', WHERE WHAT IT READS IS OF BULK AT MOST 1048576: true; the input reads as it did. -/
def fnExactPlaceQuadranceUptoRow : OpenClaim := { program := "ytcechmaoihckgaa", sum := "d0f3bfd3057e7e74e07655f1e880239700597c395a7073afed057b707c1799f9", func := "loop.example/g01370/laws.FnExactPlaceQuadrance", spec := "fnExactPlaceQuadrance", unfollowed := true, recurses := true, apart := false, narrowed := true }
def FnExactPlaceQuadranceUptoSaid : Prop := fnExactPlaceQuadranceUptoRow.holds Try.pinned (OpenSpec.upto fnExactPlaceQuadranceSpec)

/-- 'laws.FnExactKindOfLine', WHERE WHAT IT READS IS OF BULK AT MOST 1048576: true; the input reads as it did. -/
def fnExactKindOfLineUptoRow : OpenClaim := { program := "ytcechmaoihckgaa", sum := "d0f3bfd3057e7e74e07655f1e880239700597c395a7073afed057b707c1799f9", func := "loop.example/g01370/laws.FnExactKindOfLine", spec := "fnExactKindOfLine", unfollowed := true, recurses := true, apart := false, narrowed := true }
def FnExactKindOfLineUptoSaid : Prop := fnExactKindOfLineUptoRow.holds Try.pinned (OpenSpec.upto fnExactKindOfLineSpec)

/-- 'laws.FnExactJoinOf', WHERE WHAT IT READS IS OF BULK AT MOST 1048576: true; the input reads as it did. -/
def fnExactJoinOfUptoRow : OpenClaim := { program := "ytcechmaoihckgaa", sum := "d0f3bfd3057e7e74e07655f1e880239700597c395a7073afed057b707c1799f9", func := "loop.example/g01370/laws.FnExactJoinOf", spec := "fnExactJoinOf", unfollowed := true, recurses := true, apart := false, narrowed := true }
def FnExactJoinOfUptoSaid : Prop := fnExactJoinOfUptoRow.holds Try.pinned (OpenSpec.upto fnExactJoinOfSpec)

/-- 'laws.FnExactQuadrancesOfPlaces', WHERE WHAT IT READS IS OF BULK AT MOST 1048576: true; the input reads as it did. -/
def fnExactQuadrancesOfPlacesUptoRow : OpenClaim := { program := "ytcechmaoihckgaa", sum := "d0f3bfd3057e7e74e07655f1e880239700597c395a7073afed057b707c1799f9", func := "loop.example/g01370/laws.FnExactQuadrancesOfPlaces", spec := "fnExactQuadrancesOfPlaces", unfollowed := true, recurses := true, apart := false, narrowed := true }
def FnExactQuadrancesOfPlacesUptoSaid : Prop := fnExactQuadrancesOfPlacesUptoRow.holds Try.pinned (OpenSpec.upto fnExactQuadrancesOfPlacesSpec)

/-- 'laws.FnExactSpreadOfJoins', WHERE WHAT IT READS IS OF BULK AT MOST 1048576: true; the input reads as it did. -/
def fnExactSpreadOfJoinsUptoRow : OpenClaim := { program := "ytcechmaoihckgaa", sum := "d0f3bfd3057e7e74e07655f1e880239700597c395a7073afed057b707c1799f9", func := "loop.example/g01370/laws.FnExactSpreadOfJoins", spec := "fnExactSpreadOfJoins", unfollowed := true, recurses := true, apart := false, narrowed := true }
def FnExactSpreadOfJoinsUptoSaid : Prop := fnExactSpreadOfJoinsUptoRow.holds Try.pinned (OpenSpec.upto fnExactSpreadOfJoinsSpec)

/-- 'laws.FnExactPlacesOn', WHERE WHAT IT READS IS OF BULK AT MOST 1048576: true; the input reads as it did. -/
def fnExactPlacesOnUptoRow : OpenClaim := { program := "ytcechmaoihckgaa", sum := "d0f3bfd3057e7e74e07655f1e880239700597c395a7073afed057b707c1799f9", func := "loop.example/g01370/laws.FnExactPlacesOn", spec := "fnExactPlacesOn", unfollowed := true, recurses := true, apart := false, narrowed := true }
def FnExactPlacesOnUptoSaid : Prop := fnExactPlacesOnUptoRow.holds Try.pinned (OpenSpec.upto fnExactPlacesOnSpec)

/-- 'laws.FnExactCountByQuadrance', WHERE WHAT IT READS IS OF BULK AT MOST 1048576: true; the input reads as it did. -/
def fnExactCountByQuadranceUptoRow : OpenClaim := { program := "ytcechmaoihckgaa", sum := "d0f3bfd3057e7e74e07655f1e880239700597c395a7073afed057b707c1799f9", func := "loop.example/g01370/laws.FnExactCountByQuadrance", spec := "fnExactCountByQuadrance", unfollowed := true, recurses := true, apart := false, narrowed := true }
def FnExactCountByQuadranceUptoSaid : Prop := fnExactCountByQuadranceUptoRow.holds Try.pinned (OpenSpec.upto fnExactCountByQuadranceSpec)

/-- 'laws.FnExactMidpointsOf', WHERE WHAT IT READS IS OF BULK AT MOST 1048576: true; the input reads as it did. -/
def fnExactMidpointsOfUptoRow : OpenClaim := { program := "ytcechmaoihckgaa", sum := "d0f3bfd3057e7e74e07655f1e880239700597c395a7073afed057b707c1799f9", func := "loop.example/g01370/laws.FnExactMidpointsOf", spec := "fnExactMidpointsOf", unfollowed := true, recurses := true, apart := false, narrowed := true }
def FnExactMidpointsOfUptoSaid : Prop := fnExactMidpointsOfUptoRow.holds Try.pinned (OpenSpec.upto fnExactMidpointsOfSpec)

/-- 'laws.FnExactNewDesk', WHERE WHAT IT READS IS OF BULK AT MOST 1048576: true; the input reads as it did. -/
def fnExactNewDeskUptoRow : OpenClaim := { program := "ytcechmaoihckgaa", sum := "d0f3bfd3057e7e74e07655f1e880239700597c395a7073afed057b707c1799f9", func := "loop.example/g01370/laws.FnExactNewDesk", spec := "fnExactNewDesk", apart := false, narrowed := true }
def FnExactNewDeskUptoSaid : Prop := fnExactNewDeskUptoRow.holds Try.pinned (OpenSpec.upto fnExactNewDeskSpec)

/-- 'laws.FnExactIsDesk', WHERE WHAT IT READS IS OF BULK AT MOST 1048576: true; the input reads as it did. -/
def fnExactIsDeskUptoRow : OpenClaim := { program := "ytcechmaoihckgaa", sum := "d0f3bfd3057e7e74e07655f1e880239700597c395a7073afed057b707c1799f9", func := "loop.example/g01370/laws.FnExactIsDesk", spec := "fnExactIsDesk", apart := false, narrowed := true }
def FnExactIsDeskUptoSaid : Prop := fnExactIsDeskUptoRow.holds Try.pinned (OpenSpec.upto fnExactIsDeskSpec)

end Rows
end Go.Proofs.Ytcechmaoihckgaa
