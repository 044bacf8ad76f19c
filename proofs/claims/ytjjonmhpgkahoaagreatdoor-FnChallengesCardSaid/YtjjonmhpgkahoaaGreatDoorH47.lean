/-
  The law of plays taken back.
  Conditions: none.
-/
import Derived.Test.YtjjonmhpgkahoaaGreatDoorH36
import Derived.Test.YtjjonmhpgkahoaaGreatDoorH46
import Derived.Test.YtjjonmhpgkahoaaGreatDoorH45
set_option linter.unusedSimpArgs false
set_option linter.unusedVariables false
namespace Go.Proofs.YtjjonmhpgkahoaaGreatDoor
namespace Ax
set_option maxRecDepth 100000
set_option maxHeartbeats 20000000
section
variable {g:Gm}
theorem pr2 {α β:Type} {a:α} {b:β} {p:α×β} (h:(a,b)=p):a=p.1∧b=p.2:=by subst h;exact⟨rfl,rfl⟩
end
section
variable {g:Gm} {q:Pl} {n:Int}
end
end Ax
end Go.Proofs.YtjjonmhpgkahoaaGreatDoor
