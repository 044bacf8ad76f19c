/-
  Small functions of games.
  Conditions: none.
-/
import Derived.Test.YtjjonmhpgkahoaaGreatDoorS11
set_option linter.unusedSimpArgs false
set_option linter.unusedVariables false
namespace Go.Proofs.YtjjonmhpgkahoaaGreatDoor
namespace Ax
set_option maxRecDepth 100000
def beginG (p:Pr) (g:Gm) (n:Int):Gm:={ g with player:=p.sub 1 g.player,clocks:=p.set g.clocks g.player (p.sub (p.get 0 g.clocks g.player) n) }
def sp_i_xGame_begin (p:Pr):MSpec:=msp (mG (a1 aI)) (fun (g,n)=>p.inL g.player (p.len g.clocks)∧p.inK .i64 (p.sub (p.get 0 g.clocks g.player) n)∧p.inK .i64 (p.sub 1 g.player)) (fun (g,n)=>.tup [.i .i64 g.player,.i .i64 (p.sub 1 g.player)]) (fun (g,n)=>gmH (beginG p g n))
theorem ok_i_xGame_begin:MOk Tryz.prog 115 (sp_i_xGame_begin std):=by
 refine MOk.go (c:=cx std [] [] 7) (cx_ok .nil .nil) mixed Tryz.func115 rfl rfl (by kernel_rfl) ?_
 rintro ⟨g,n⟩ hp
 dsimp only at hp
 refine⟨rfl,?_⟩
 generalize hP:std=p
 cbv
 repeat' first
  | (refine fun (_:Unit)=>?_;cbv)
  | (refine aI2 (fun h=>?_) (fun h=>?_)<;>cbv)
  | (refine aI2 ?_ ?_)
  | (refine Or.inl (fun (_:Unit)=>?_);cbv)
 all_goals subst hP
 all_goals try exact fin
end Ax
end Go.Proofs.YtjjonmhpgkahoaaGreatDoor
