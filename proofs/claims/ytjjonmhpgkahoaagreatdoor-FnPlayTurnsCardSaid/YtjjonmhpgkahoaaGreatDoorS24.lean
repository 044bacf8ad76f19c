/-
  What passes and exchanges answer, of the spec package.
  Conditions: none.
-/
import Derived.Test.YtjjonmhpgkahoaaGreatDoorS23
set_option linter.unusedSimpArgs false
set_option linter.unusedVariables false
namespace Go.Proofs.YtjjonmhpgkahoaaGreatDoor
namespace Ax
set_option maxRecDepth 100000
set_option maxHeartbeats 2000000
def sp_s_PassTurn (p:Pr):FSpec:=fsp (ac (aA aGm) (a1 aI)) (fun (g,n)=>PsP g) (fun (g,n)=>.tup [.agg (gmO6 (passR g n)),.i .i64 (actC g n)]) (fun (g,n)=>gmH6 (passR g n))
def spPsN (p:Pr):FSpec:=fsp (ac (aA aGm) (a1 aI)) (fun (g,n)=>PsN g n) (fun (g,n)=>.tup [.agg (gmO6 gm0),.i .i64 (actC g n)]) (fun _=>gmH6 gm0)
theorem okPsN:FOk Tryz.prog 37 (spPsN std):=FOk.own ok_s_PassTurn_n rfl fun ⟨g,n⟩ w e u h hr=>
 tup_fol (.cons (agg_fol (esl_fol h)) (.cons (fun _ h=>h) .nil)) u hr
theorem okPsZ:FOk Tryz.prog 37 (fsp (ac (aA aGm) (a1 aI)) (fun (g,n)=>PsP g∧(actC g n=0→idleE g=false)) (fun (g,n)=>.tup [.agg (gmO6 (passR g n)),.i .i64 (actC g n)]) (fun (g,n)=>gmH6 (passR g n))):=
 FOk.casesE ok_s_PassTurn_z okPsN fun ⟨g,n⟩ hp=>by
  by_cases hc:actC g n=0
  ·have e:idleG g 3 n=passR g n:=by unfold passR zeroG;rw [if_pos hc,hp.2 hc];rfl
   refine .inl ⟨⟨hp.1,hc,hp.2 hc⟩,?_,?_⟩
   ·show _=PV.tup [.agg (gmO6 (passR g n)),.i .i64 (actC g n)]
    rw [hc,←e];rfl
   ·show _=gmH6 (passR g n)
    rw [←e];rfl
  ·refine .inr ⟨⟨hp.1,hc⟩,?_,?_⟩
   ·show _=PV.tup [.agg (gmO6 (passR g n)),.i .i64 (actC g n)]
    unfold passR;rw [if_neg hc]
   ·show _=gmH6 (passR g n)
    unfold passR;rw [if_neg hc]
theorem ok_s_PassTurn:FOk Tryz.prog 37 (sp_s_PassTurn std):=FOk.casesE ok_s_PassTurn_y okPsZ fun ⟨g,n⟩ hp=>by
 by_cases hc:actC g n=0∧idleE g=true
 ·have e:settleG (idleG g 3 n)=passR g n:=by unfold passR zeroG;rw [if_pos hc.1,hc.2];rfl
  refine .inl ⟨⟨hp,hc.1,hc.2⟩,?_,?_⟩
  ·show _=PV.tup [.agg (gmO6 (passR g n)),.i .i64 (actC g n)]
   rw [hc.1,←e];rfl
  ·show _=gmH6 (passR g n)
   rw [←e];rfl
 ·exact .inr ⟨⟨hp,fun h=>by cases h2:idleE g with | true=>exact absurd ⟨h,h2⟩ hc | false=>rfl⟩,rfl,rfl⟩
def sp_s_ExchangeTurn (p:Pr):FSpec:=fsp (ac (aA aGm) (ac aS (a1 aI))) (fun (g,t,n)=>XsP g t) (fun (g,t,n)=>.tup [.agg (gmO6 (xtR g t n)),.i .i64 (xtC g t n)]) (fun (g,t,n)=>gmH6 (xtR g t n))
def spXsN (p:Pr):FSpec:=fsp (ac (aA aGm) (ac aS (a1 aI))) (fun (g,t,n)=>XsN g t n) (fun (g,t,n)=>.tup [.agg (gmO6 gm0),.i .i64 (xtC g t n)]) (fun _=>gmH6 gm0)
theorem okXsN:FOk Tryz.prog 36 (spXsN std):=FOk.own ok_s_ExchangeTurn_n rfl fun ⟨g,t,n⟩ w e u h hr=>
 tup_fol (.cons (agg_fol (esl_fol h)) (.cons (fun _ h=>h) .nil)) u hr
theorem okXsZ:FOk Tryz.prog 36 (fsp (ac (aA aGm) (ac aS (a1 aI))) (fun (g,t,n)=>XsP g t∧(xtC g t n=0→idleE (xtG g t)=false)) (fun (g,t,n)=>.tup [.agg (gmO6 (xtR g t n)),.i .i64 (xtC g t n)]) (fun (g,t,n)=>gmH6 (xtR g t n))):=
 FOk.casesE ok_s_ExchangeTurn_z okXsN fun ⟨g,t,n⟩ hp=>by
  by_cases hc:xtC g t n=0
  ·have e:idleG (xtG g t) 2 n=xtR g t n:=by unfold xtR zeroG;rw [if_pos hc,hp.2 hc];rfl
   refine .inl ⟨⟨hp.1,hc,hp.2 hc⟩,?_,?_⟩
   ·show _=PV.tup [.agg (gmO6 (xtR g t n)),.i .i64 (xtC g t n)]
    rw [hc,←e];rfl
   ·show _=gmH6 (xtR g t n)
    rw [←e];rfl
  ·refine .inr ⟨⟨hp.1,hc⟩,?_,?_⟩
   ·show _=PV.tup [.agg (gmO6 (xtR g t n)),.i .i64 (xtC g t n)]
    unfold xtR;rw [if_neg hc]
   ·show _=gmH6 (xtR g t n)
    unfold xtR;rw [if_neg hc]
theorem ok_s_ExchangeTurn:FOk Tryz.prog 36 (sp_s_ExchangeTurn std):=FOk.casesE ok_s_ExchangeTurn_y okXsZ fun ⟨g,t,n⟩ hp=>by
 by_cases hc:xtC g t n=0∧idleE (xtG g t)=true
 ·have e:settleG (idleG (xtG g t) 2 n)=xtR g t n:=by unfold xtR zeroG;rw [if_pos hc.1,hc.2];rfl
  refine .inl ⟨⟨hp,hc.1,hc.2⟩,?_,?_⟩
  ·show _=PV.tup [.agg (gmO6 (xtR g t n)),.i .i64 (xtC g t n)]
   rw [hc.1,←e];rfl
  ·show _=gmH6 (xtR g t n)
   rw [←e];rfl
 ·exact .inr ⟨⟨hp,fun h=>by cases h2:idleE (xtG g t) with | true=>exact absurd ⟨h,h2⟩ hc | false=>rfl⟩,rfl,rfl⟩
end Ax
end Go.Proofs.YtjjonmhpgkahoaaGreatDoor
