/-
  Cells set.
  Conditions: none.
-/
import Derived.Test.YtjjonmhpgkahoaaGreatDoorH33
set_option linter.unusedSimpArgs false
set_option linter.unusedVariables false
namespace Go.Proofs.YtjjonmhpgkahoaaGreatDoor
namespace Ax
set_option maxRecDepth 100000
set_option maxHeartbeats 20000000
end Ax
end Go.Proofs.YtjjonmhpgkahoaaGreatDoor
