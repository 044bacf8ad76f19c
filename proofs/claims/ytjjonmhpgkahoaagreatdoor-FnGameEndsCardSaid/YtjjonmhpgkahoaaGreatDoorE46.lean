/-
  What passes and exchanges answer, of the impl package.
  Conditions: none.
-/
import Derived.Test.YtjjonmhpgkahoaaGreatDoorE45
import Derived.Test.YtjjonmhpgkahoaaGreatDoorE27
set_option linter.unusedSimpArgs false
set_option linter.unusedVariables false
namespace Go.Proofs.YtjjonmhpgkahoaaGreatDoor
namespace Ax
set_option maxRecDepth 100000
set_option maxHeartbeats 2000000
theorem v_zero (g:Gm) (k n:Int):(⟨g.ts,g.lex,g.bd0,g.secs,g.rule,g.bd,g.bag,g.racks,vSc g k n,ckL g n,zPl g,zZr g,⟨k,g.player,⟨0,0,false,[]⟩,[],[],0,0⟩,vOv g⟩:Gm)=zeroG g k n:=by
 unfold zeroG vSc vOv setS ovB
 cases idleE g with
 | true=>rw [if_pos rfl,if_pos rfl,Bool.or_true];rfl
 | false=>rw [if_neg (by decide),if_neg (by decide),Bool.or_false];rfl
structure PiP (g:Gm):Prop where
 gm:GmQ g
 cp:GcL g
def sp_i_PassTurn (p:Pr):FSpec:=fsp (ac (aA aGm) (a1 aI)) (fun (g,n)=>PiP g) (fun (g,n)=>.tup [.agg (gmO6 (passR g n)),.i .i64 (actC g n)]) (fun (g,n)=>gmH6 (passR g n))
def spPiN (p:Pr):FSpec:=fsp (ac (aA aGm) (a1 aI)) (fun (g,n)=>PiN g n) (fun (g,n)=>.tup [.agg (gmO6 gm0),.i .i64 (actC g n)]) (fun _=>gmH6 gm0)
theorem okPiN:FOk Tryz.prog 33 (spPiN std):=FOk.own ok_i_PassTurn_n rfl fun ⟨g,n⟩ w e u h hr=>
 tup_fol (.cons (agg_fol (esl_fol h)) (.cons (fun _ h=>h) .nil)) u hr
theorem ok_i_PassTurn:FOk Tryz.prog 33 (sp_i_PassTurn std):=FOk.casesE ok_i_PassTurn_y okPiN fun ⟨g,n⟩ hp=>by
 by_cases hc:actC g n=0
 ·have e:zeroG g 3 n=passR g n:=(if_pos hc).symm
  refine .inl ⟨⟨hp.gm,hp.cp,hc⟩,?_,?_⟩
  ·show _=PV.tup [.agg (gmO6 (passR g n)),.i .i64 (actC g n)]
   rw [hc,←e,←v_zero];rfl
  ·show _=gmH6 (passR g n)
   rw [←e,←v_zero];rfl
 ·refine .inr ⟨⟨hp.gm,hp.cp,hc⟩,?_,?_⟩
  ·show _=PV.tup [.agg (gmO6 (passR g n)),.i .i64 (actC g n)]
   unfold passR;rw [if_neg hc]
  ·show _=gmH6 (passR g n)
   unfold passR;rw [if_neg hc]
def sp_i_ExchangeTurn (p:Pr):FSpec:=fsp (ac (aA aGm) (ac aS (a1 aI))) (fun (g,t,n)=>XiP g t) (fun (g,t,n)=>.tup [.agg (gmO6 (xtR g t n)),.i .i64 (xtC g t n)]) (fun (g,t,n)=>gmH6 (xtR g t n))
def spXiN (p:Pr):FSpec:=fsp (ac (aA aGm) (ac aS (a1 aI))) (fun (g,t,n)=>XiN g t n) (fun (g,t,n)=>.tup [.agg (gmO6 gm0),.i .i64 (xtC g t n)]) (fun _=>gmH6 gm0)
theorem okXiN:FOk Tryz.prog 35 (spXiN std):=FOk.own ok_i_ExchangeTurn_n rfl fun ⟨g,t,n⟩ w e u h hr=>
 tup_fol (.cons (agg_fol (esl_fol h)) (.cons (fun _ h=>h) .nil)) u hr
theorem ok_i_ExchangeTurn:FOk Tryz.prog 35 (sp_i_ExchangeTurn std):=FOk.casesE ok_i_ExchangeTurn_y okXiN fun ⟨g,t,n⟩ hp=>by
 by_cases hc:xtC g t n=0
 ·have e:zeroG (xtG g t) 2 n=xtR g t n:=(if_pos hc).symm
  refine .inl ⟨⟨hp,hc⟩,?_,?_⟩
  ·show _=PV.tup [.agg (gmO6 (xtR g t n)),.i .i64 (xtC g t n)]
   rw [hc,←e,←v_zero];rfl
  ·show _=gmH6 (xtR g t n)
   rw [←e,←v_zero];rfl
 ·refine .inr ⟨⟨hp,hc⟩,?_,?_⟩
  ·show _=PV.tup [.agg (gmO6 (xtR g t n)),.i .i64 (xtC g t n)]
   unfold xtR;rw [if_neg hc]
  ·show _=gmH6 (xtR g t n)
   unfold xtR;rw [if_neg hc]
end Ax
end Go.Proofs.YtjjonmhpgkahoaaGreatDoor
