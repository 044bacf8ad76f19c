/-
  A challenge that may be made, of the spec package.
  Conditions: none.
-/
import Derived.Test.YtjjonmhpgkahoaaGreatDoorV22
import Derived.Test.YtjjonmhpgkahoaaGreatDoorV27
set_option linter.unusedSimpArgs false
set_option linter.unusedVariables false
namespace Go.Proofs.YtjjonmhpgkahoaaGreatDoor
namespace Ax
set_option maxRecDepth 100000
set_option maxHeartbeats 20000000
structure StC (g:Gm):Prop where
 gm:GmL g
 own:GmP g
section
variable {g:Gm} {n:Int}
end
end Ax
end Go.Proofs.YtjjonmhpgkahoaaGreatDoor
