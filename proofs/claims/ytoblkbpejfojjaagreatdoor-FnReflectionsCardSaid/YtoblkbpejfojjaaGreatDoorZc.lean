import Derived.Test.YtoblkbpejfojjaaGreatDoorGa
set_option linter.unusedSimpArgs false
set_option linter.unusedVariables false
namespace Go.Proofs.YtoblkbpejfojjaaGreatDoor
open Go.RowKit
/-! The finite facts, for the primes 29. -/
theorem key_chk3 : (([29] : List Int).all fun p => ([0, 1, 2] : List Int).all fun c => keyB p c) = true := by decide +kernel

end Go.Proofs.YtoblkbpejfojjaaGreatDoor
