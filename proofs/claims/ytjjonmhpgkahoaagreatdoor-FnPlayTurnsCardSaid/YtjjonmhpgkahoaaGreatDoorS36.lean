/-
  Turns without points, of the impl package.
  Conditions: none.
-/
import Derived.Test.YtjjonmhpgkahoaaGreatDoorS23
import Derived.Test.YtjjonmhpgkahoaaGreatDoorS29
set_option linter.unusedSimpArgs false
set_option linter.unusedVariables false
namespace Go.Proofs.YtjjonmhpgkahoaaGreatDoor
namespace Ax
set_option maxRecDepth 100000
set_option maxHeartbeats 20000000
section
variable {a b t:List UInt8} {g:Gm} {k n:Int}
end
section
variable {g:Gm} {k n:Int} {t:List UInt8}
end
end Ax
end Go.Proofs.YtjjonmhpgkahoaaGreatDoor
