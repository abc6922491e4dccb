/-
  DERIVED. GIVEN WITH THE SEED: THE CARDS: each row of YtoblkbpejfojjaaGreatDoorRows.lean that lists a variable, with what it lists TIED to the program's text (the seventh form; the later family's looks); each row that meets fmt, with fmt's text TOLD by the authors' own Lean function (tested against real Go, not proved from fmt's source: count such statements apart). THE CARD IS WHAT COUNTS. Prove the row's statement (the work); the ties are given (YtoblkbpejfojjaaGreatDoorTie.lean); close each card by the builder's one call (the guide's Derived/Test/ToyasCard.lean, 'card_holds'). Laid BY PROGRAM, IN A SANDBOX (cutbox-door.mjs). By AI agents, Wed Nov 11 2026. No macro, syntax, notation, axiom, sorry.
-/
import Derived.Test.YtoblkbpejfojjaaGreatDoorRows
import GoSem.ClaimSeven
namespace Go.Proofs.YtoblkbpejfojjaaGreatDoor
namespace Rows

/-- THE TIED CARD OF 'laws.FnMoves'. -/
def fnMovesCard : Claim7 := { stood := { row := fnMovesRow, standIns := [], harness := (true, "38f491e9d0c1dd0db25eea6f0d68f3cb7279e2a4fb89a41ac7923bc1d2af2d8c"), looks := false }, kinds := [], alts := [], laidByText := true, laidKinds := [.data], laidTests := true, laidLooks := .later }
def FnMovesCardSaid : Prop := Claim7.holds Tryz.pinned (.plain (OpenSpec.ofChange fnMovesSpec)) fnMovesCard

/-- THE TIED CARD OF 'laws.FnReflections'. -/
def fnReflectionsCard : Claim7 := { stood := { row := fnReflectionsRow, standIns := [], harness := (true, "38f491e9d0c1dd0db25eea6f0d68f3cb7279e2a4fb89a41ac7923bc1d2af2d8c"), looks := false }, kinds := [], alts := [], laidByText := true, laidKinds := [.data], laidTests := true, laidLooks := .later }
def FnReflectionsCardSaid : Prop := Claim7.holds Tryz.pinned (.plain (OpenSpec.ofChange fnReflectionsSpec)) fnReflectionsCard

/-- THE SECOND FORM's CARD OF 'laws.FnMoves'. -/
def fnMovesUptoCard : Claim7 := { stood := { row := fnMovesUptoRow, standIns := [], harness := (true, "38f491e9d0c1dd0db25eea6f0d68f3cb7279e2a4fb89a41ac7923bc1d2af2d8c"), looks := false }, kinds := [], alts := [], laidByText := true, laidKinds := [.data], laidTests := true, laidLooks := .later }
def FnMovesUptoCardSaid : Prop := Claim7.holds Tryz.pinned (.plain (OpenSpec.upto fnMovesSpec)) fnMovesUptoCard

/-- THE SECOND FORM's CARD OF 'laws.FnReflections'. -/
def fnReflectionsUptoCard : Claim7 := { stood := { row := fnReflectionsUptoRow, standIns := [], harness := (true, "38f491e9d0c1dd0db25eea6f0d68f3cb7279e2a4fb89a41ac7923bc1d2af2d8c"), looks := false }, kinds := [], alts := [], laidByText := true, laidKinds := [.data], laidTests := true, laidLooks := .later }
def FnReflectionsUptoCardSaid : Prop := Claim7.holds Tryz.pinned (.plain (OpenSpec.upto fnReflectionsSpec)) fnReflectionsUptoCard
end Rows
end Go.Proofs.YtoblkbpejfojjaaGreatDoor
