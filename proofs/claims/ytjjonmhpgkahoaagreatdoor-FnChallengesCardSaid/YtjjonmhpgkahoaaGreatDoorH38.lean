/-
  Cells set.
  Conditions: none.
-/
import Derived.Test.YtjjonmhpgkahoaaGreatDoorH33
import Derived.Test.YtjjonmhpgkahoaaGreatDoorH30
set_option linter.unusedSimpArgs false
set_option linter.unusedVariables false
namespace Go.Proofs.YtjjonmhpgkahoaaGreatDoor
namespace Ax
set_option maxRecDepth 100000
set_option maxHeartbeats 20000000
def Iw (w:List UInt8):Prop:=w.length≤15
section
variable {σ:Src} {b f:Bd} {m c k i r:Int} {L:List Int} {x:Int}
end
end Ax
end Go.Proofs.YtjjonmhpgkahoaaGreatDoor
