/-
  A challenge that may be made, of the spec package.
  Conditions: none.
-/
import Derived.Test.YtjjonmhpgkahoaaGreatDoorS21
import Derived.Test.YtjjonmhpgkahoaaGreatDoorS27
set_option linter.unusedSimpArgs false
set_option linter.unusedVariables false
namespace Go.Proofs.YtjjonmhpgkahoaaGreatDoor
namespace Ax
set_option maxRecDepth 100000
set_option maxHeartbeats 20000000
section
variable {g:Gm} {n:Int}
end
end Ax
end Go.Proofs.YtjjonmhpgkahoaaGreatDoor
