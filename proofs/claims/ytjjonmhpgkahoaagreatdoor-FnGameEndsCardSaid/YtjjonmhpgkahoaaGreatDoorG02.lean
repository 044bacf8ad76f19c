/-
  Small functions of the laws of games: walked.
  Conditions: none.
-/
import Derived.Test.YtjjonmhpgkahoaaGreatDoorE44
import Derived.Test.YtjjonmhpgkahoaaGreatDoorE18
import Derived.Test.YtjjonmhpgkahoaaGreatDoorE24
import Derived.Test.YtjjonmhpgkahoaaGreatDoorE25
import Derived.Test.YtjjonmhpgkahoaaGreatDoorE43
import Derived.Test.YtjjonmhpgkahoaaGreatDoorG01
import Derived.Test.YtjjonmhpgkahoaaGreatDoorE34
set_option linter.unusedSimpArgs false
set_option linter.unusedVariables false
namespace Go.Proofs.YtjjonmhpgkahoaaGreatDoor
namespace Ax
set_option maxRecDepth 100000
set_option maxHeartbeats 2000000
def sp_s_FinalChange_b (_:Pr):NSpec:=nsp (mN (a1 (aA aGm))) (fun g=>GmL g) (fun g=>rNC) (fun g x=>x=fcN g)
theorem ok_s_FinalChange_b:NOk Tryz.prog 26 (sp_s_FinalChange_b std):=by
 refine NOk.go (c:=cxN std [(88,sp_s_l18Ok std),(95,sp_s_l18Change std)] [] [] 0 (if false then some stdU else none) []) (cxN_ok (.cons ok_s_l18Ok (.cons ok_s_l18Change .nil)) .nil .nil) mixed Tryz.func26 rfl rfl (by kernel_rfl) ?_
 rintro g hp
 refine⟨rfl,?_⟩
 unfold sp_s_l18Ok sp_s_l18Change
 generalize hP:std=p,hB0:fcN=B0,hB1:gameB=B1,hB2:chgs=B2
 cbv
 repeat' first
  | (refine fun (_:Unit)=>?_;cbv)
  | (refine aI2 (fun h=>?_) (fun h=>?_)<;>cbv)
  | (refine aI2 ?_ ?_)
  | (refine Or.inl (fun (_:Unit)=>?_);cbv)
 all_goals subst hP hB0 hB1 hB2
 all_goals try exact fin
 ·exact (fc_i (g:=g) ‹_›).symm
 ·exact (fc_o (g:=g) ‹_› ‹_›).symm
 ·exact gv_end (g:=g) ‹_›
 ·exact (fc_y (g:=g) ‹_› ‹_›).symm
end Ax
end Go.Proofs.YtjjonmhpgkahoaaGreatDoor
