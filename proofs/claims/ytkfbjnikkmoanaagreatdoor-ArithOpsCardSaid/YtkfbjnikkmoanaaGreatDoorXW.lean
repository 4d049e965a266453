import Derived.Test.YtkfbjnikkmoanaaGreatDoorXA
namespace Go.Proofs.YtkfbjnikkmoanaaGreatDoor
open Go.RowKit Go.Sx
set_option linter.unusedSimpArgs false
set_option linter.unusedVariables false
set_option linter.unnecessarySimpa false
set_option maxRecDepth 100000
set_option maxHeartbeats 4000000
theorem wrap_succ {j : Nat} (h : j < 1000000000000) : IntKind.i64.wrap ((j : Int) + 1) = ((j + 1 : Nat) : Int) := by
  rw [IntWalk.i64_in _ (by omega)]; omega
end Go.Proofs.YtkfbjnikkmoanaaGreatDoor
