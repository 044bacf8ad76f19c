/-
  The law of plays.
  Conditions: none.
-/
import Derived.Test.YtjjonmhpgkahoaaGreatDoorH37
import Derived.Test.YtjjonmhpgkahoaaGreatDoorH42
import Derived.Test.YtjjonmhpgkahoaaGreatDoorH36
import Derived.Test.YtjjonmhpgkahoaaGreatDoorH32
import Derived.Test.YtjjonmhpgkahoaaGreatDoorH44
import Derived.Test.YtjjonmhpgkahoaaGreatDoorH30
set_option linter.unusedSimpArgs false
set_option linter.unusedVariables false
namespace Go.Proofs.YtjjonmhpgkahoaaGreatDoor
namespace Ax
set_option maxRecDepth 100000
set_option maxHeartbeats 20000000
def lJ (p:Pr):aa:=fsp (ac (aA aGm) (ac (aA aPl) (a1 aI))) (fun (g,q,n)=>ER g q) (fun (g,q,n)=>.tup [.agg (gmR (ey g q n)),.i .i64 (mg g q n),.i .i64 (bz g q n)])
theorem xB:FOk Tryz.prog 41 (lJ std):=FOk.frz mr fun ⟨g,q,n⟩=>⟨by simp [deep,eK,AH.get,km,fe,gmK,gmR],by simp [PV.idIn,cP,gmK,gmR]⟩
section
variable {g:Gm} {q:Pl} {n:Int}
end
theorem pr3 {α β γ:Type} {a:α} {b:β} {c:γ} {p:α×(β×γ)} (h:(a,(b,c))=p):a=p.1∧b=p.2.1∧c=p.2.2:=by subst h;exact⟨rfl,rfl,rfl⟩
theorem OQ {g:Gm} {q:Pl} (h:BeB g) (hw:Iw q.word):ER g q:=h.b.s (by decide) (by have : q.word.length≤15:=hw;omega)
theorem Ut {g:Gm} {q:Pl} {n:Int} (h:BeB g) (hw:Iw q.word) (hc:bz g q n=0):GmB 1048576 (ey g q n):=by
 unfold ey
 rw [if_pos hc]
 have : q.word.length≤15:=hw
 exact GR h.b hc (by omega)
theorem Ud (a:Int):std.eqI a a=true:=by simp
theorem TE {a b:Int} (h:a=b):std.eqI a b=true:=by subst h;exact Ud _
section
variable {g:Gm} {q:Pl} {n:Int}
theorem c_0 (h:std.eqI (bz g q n) 0=true):bz g q n=0:=by simpa using h
theorem ffI {a b:Int} (h:std.eqI a b=false) (e:a=b):False:=by subst e;simp at h
theorem ffS {a b:List UInt8} (h:std.eqS a b=false) (e:a=b):False:=by subst e;simp at h
theorem ffD {x y:Bd} (h:std.and (std.eqI x.size y.size) (std.and (std.eqS x.prem y.prem) (std.eqS x.cells y.cells))=false) (e:x=y):False:=by subst e;simp at h
theorem ffV {b:Bool} (h:b=false) (e:b=true):False:=by subst h;cases e
end
end Ax
end Go.Proofs.YtjjonmhpgkahoaaGreatDoor
