/-
  What a turn with a play answers, of the impl package.
  Conditions: none.
-/
import Derived.Test.YtghmphmbpdiflaaGreatDoorE39
import Derived.Test.YtghmphmbpdiflaaGreatDoorE40
import Derived.Test.YtghmphmbpdiflaaGreatDoorE20
set_option linter.unusedSimpArgs false
set_option linter.unusedVariables false
namespace Go.Proofs.YtghmphmbpdiflaaGreatDoor
namespace Ax
set_option maxRecDepth 100000
set_option maxHeartbeats 2000000
section
variable {g:Gm} {q:Pl} {n:Int}
theorem bag_eq (hG:PyG g n) (hC:PyC g q):pBag g q=g.bag.drop (drawN g.bag (restT g q)):=by
 unfold pBag frB
 rw [hG.ok.bag,hC.rk,td_nat hC.rk];rfl
theorem drw_eq (hC:PyC g q):pDrw g q=g.bag.take (drawN g.bag (restT g q)):=by
 unfold pDrw
 rw [td_nat hC.rk]
theorem p1_eq (hG:PyG g n) (hC:PyC g q):p1 g q n=turn1 g q n:=by
 unfold p1 turn1 pRks pScs pClk pCel pScore
 rw [rack_eq hG hC,bag_eq hG hC,drw_eq hC]
theorem pG_eq (hG:PyG g n) (hC:PyC g q):pG g q n=turnG g q n:=by
 have e:=p1_eq hG hC
 have e2:pEnd g q=(g.rule==0&&(isort (restT g q++g.bag.take (drawN g.bag (restT g q)))).isEmpty):=by
  unfold pEnd
  rw [rack_eq hG hC]
 have e3:pG g q n={ p1 g q n with scores:=setS (p1 g q n) (pEnd g q),over:=ovB g (pEnd g q) }:=rfl
 rw [e3,e,e2]
 unfold turnG
 by_cases h:g.rule=0∧(isort (restT g q++g.bag.take (drawN g.bag (restT g q)))).isEmpty =true
 ·rw [if_pos h,h.2,show (g.rule==0)=true by simpa using h.1]
  unfold setS ovB settleG setSc
  simp
 ·rw [if_neg h]
  have h2:(g.rule==0&&(isort (restT g q++g.bag.take (drawN g.bag (restT g q)))).isEmpty)=false:=by
   rw [Bool.eq_false_iff]
   intro h3
   rw [Bool.and_eq_true,beq_iff_eq] at h3
   exact h h3
  rw [h2]
  unfold setS ovB
  simp [turn1]
end
def sp_PlayTurn (p:Pr):FSpec:=fsp (ac (aA aGm) (ac (aA aPl) (a1 aI))) (fun (g,q,n)=>PtP g q) (fun (g,q,n)=>.tup [.agg (gmO6 (turnR g q n)),.i .i64 (turnS' g q n),.i .i64 (turnC g q n)]) (fun (g,q,n)=>gmH6 (turnR g q n))
def spPtN (p:Pr):FSpec:=fsp (ac (aA aGm) (ac (aA aPl) (a1 aI))) (fun (g,q,n)=>PtN g q n) (fun (g,q,n)=>.tup [.agg (gmO6 gm0),.i .i64 0,.i .i64 (turnC g q n)]) (fun _=>gmH6 gm0)
theorem okPtN:FOk Tryz.prog 270 (spPtN std):=FOk.own ok_i_PlayTurn_n rfl fun ⟨g,q,n⟩ w e u h hr=>
 tup_fol (.cons (agg_fol (esl_fol h)) (.cons (fun _ h=>h) (.cons (fun _ h=>h) .nil))) u hr
theorem ok_PlayTurn:FOk Tryz.prog 270 (sp_PlayTurn std):=FOk.casesE ok_i_PlayTurn_y okPtN fun ⟨g,q,n⟩ hp=>by
 by_cases hc:turnC g q n=0
 ·obtain⟨hG,hC⟩:=turn_of hc
  refine .inl ⟨⟨hp,hc⟩,?_,?_⟩
  ·show PV.tup [.agg (gmO6 (pG g q n)),.i .i64 (pScore g q),.i .i64 0]=.tup [.agg (gmO6 (turnR g q n)),.i .i64 (turnS' g q n),.i .i64 (turnC g q n)]
   unfold turnR turnS'
   rw [if_pos hc,if_pos hc,hc,pG_eq hG hC];rfl
  ·show gmH6 (pG g q n)=gmH6 (turnR g q n)
   unfold turnR
   rw [if_pos hc,pG_eq hG hC]
 ·refine .inr ⟨⟨hp,hc⟩,?_,?_⟩
  ·show PV.tup [.agg (gmO6 gm0),.i .i64 0,.i .i64 (turnC g q n)]=.tup [.agg (gmO6 (turnR g q n)),.i .i64 (turnS' g q n),.i .i64 (turnC g q n)]
   unfold turnR turnS'
   rw [if_neg hc,if_neg hc]
  ·show gmH6 gm0=gmH6 (turnR g q n)
   unfold turnR
   rw [if_neg hc]
end Ax
end Go.Proofs.YtghmphmbpdiflaaGreatDoor
