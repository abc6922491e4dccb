import Derived.Test.YtoblkbpejfojjaaGreatDoorGa
set_option linter.unusedSimpArgs false
set_option linter.unusedVariables false
namespace Go.Proofs.YtoblkbpejfojjaaGreatDoor
open Go.RowKit
/-! The finite facts, for the primes 3, 5, 7, 11, 13, 17. -/
theorem key_chk1 : (([3, 5, 7, 11, 13, 17] : List Int).all fun p => ([0, 1, 2] : List Int).all fun c => keyB p c) = true := by decide +kernel

end Go.Proofs.YtoblkbpejfojjaaGreatDoor
