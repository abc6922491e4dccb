import Derived.Test.YtoblkbpejfojjaaGreatDoorGc
set_option linter.unusedSimpArgs false
set_option linter.unusedVariables false
namespace Go.Proofs.YtoblkbpejfojjaaGreatDoor
open Go.RowKit
theorem two_chk : (([3, 5, 7, 11, 13] : List Int).all fun p => ([0, 1, 2] : List Int).all fun c => twoB p c) = true := by decide +kernel

end Go.Proofs.YtoblkbpejfojjaaGreatDoor
