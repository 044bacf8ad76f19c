/-
  Actions: which are valid, what they lead to, of the spec package.
  Conditions: none.
-/
import Derived.Test.YtjjonmhpgkahoaaGreatDoorE29
import Derived.Test.YtjjonmhpgkahoaaGreatDoorE32
set_option linter.unusedSimpArgs false
set_option linter.unusedVariables false
namespace Go.Proofs.YtjjonmhpgkahoaaGreatDoor
namespace Ax
set_option maxRecDepth 100000
set_option maxHeartbeats 20000000
structure Ac where
 kind:Int
 play:Pl
 tiles:List UInt8
 secs:Int
@[simp] theorem eta_ac (a:Ac):Ac.mk a.kind a.play a.tiles a.secs=a:=rfl
def actB (a:Ac):Bool:=inR a.secs 0 36000&&(if a.kind=1 then plainB a.play&&a.tiles.isEmpty else if a.kind=2 then eqPl a.play pl0&&(!a.tiles.isEmpty&&rackB a.tiles) else if a.kind=3∨a.kind=4 then eqPl a.play pl0&&a.tiles.isEmpty else false)
section
variable {a:Ac}
end
def doG (g:Gm) (a:Ac):Gm:=if a.kind=1 then turnR g a.play a.secs else if a.kind=2 then xtR g a.tiles a.secs else if a.kind=3 then passR g a.secs else chR g a.secs
def doP (g:Gm) (a:Ac):Int:=if a.kind=1 then turnS' g a.play a.secs else if a.kind=2 then 0 else if a.kind=3 then 0 else chP g a.secs
def doC (g:Gm) (a:Ac):Int:=if a.kind=1 then turnC g a.play a.secs else if a.kind=2 then xtC g a.tiles a.secs else if a.kind=3 then actC g a.secs else chC g a.secs
section
variable {g:Gm} {a:Ac}
end
end Ax
end Go.Proofs.YtjjonmhpgkahoaaGreatDoor
