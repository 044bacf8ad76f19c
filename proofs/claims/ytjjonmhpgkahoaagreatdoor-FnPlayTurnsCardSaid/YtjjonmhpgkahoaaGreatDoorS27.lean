/-
  What a turn with a play answers, of the spec package; Challenges of the spec package: verdicts, plays taken back.
  Conditions: none.
-/
import Derived.Test.YtjjonmhpgkahoaaGreatDoorS25
import Derived.Test.YtjjonmhpgkahoaaGreatDoorS26
import Derived.Test.YtjjonmhpgkahoaaGreatDoorS22
import Derived.Test.YtjjonmhpgkahoaaGreatDoorS21
set_option linter.unusedSimpArgs false
set_option linter.unusedVariables false
namespace Go.Proofs.YtjjonmhpgkahoaaGreatDoor
namespace Ax
set_option maxRecDepth 100000
set_option maxHeartbeats 2000000
def sp_s_PlayTurn (p:Pr):FSpec:=fsp (ac (aA aGm) (ac (aA aPl) (a1 aI))) (fun (g,q,n)=>StP' g q) (fun (g,q,n)=>.tup [.agg (gmO6 (turnR g q n)),.i .i64 (turnS' g q n),.i .i64 (turnC g q n)]) (fun (g,q,n)=>gmH6 (turnR g q n))
def spStN (p:Pr):FSpec:=fsp (ac (aA aGm) (ac (aA aPl) (a1 aI))) (fun (g,q,n)=>StN g q n) (fun (g,q,n)=>.tup [.agg (gmO6 gm0),.i .i64 0,.i .i64 (turnC g q n)]) (fun _=>gmH6 gm0)
theorem okStN:FOk Tryz.prog 41 (spStN std):=FOk.own ok_s_PlayTurn_n rfl fun ⟨g,q,n⟩ w e u h hr=>
 tup_fol (.cons (agg_fol (esl_fol h)) (.cons (fun _ h=>h) (.cons (fun _ h=>h) .nil))) u hr
theorem ok_s_PlayTurn:FOk Tryz.prog 41 (sp_s_PlayTurn std):=FOk.casesE ok_s_PlayTurn_y okStN fun ⟨g,q,n⟩ hp=>by
 by_cases hc:turnC g q n=0
 ·obtain⟨e1,e2⟩:=qG_eq (g:=g) (q:=q) (n:=n) hc
  refine .inl ⟨⟨hp,hc⟩,?_,?_⟩
  ·show PV.tup [.agg (gmO6 (qG g q n)),.i .i64 (qScore g q),.i .i64 0]=.tup [.agg (gmO6 (turnR g q n)),.i .i64 (turnS' g q n),.i .i64 (turnC g q n)]
   unfold turnR turnS'
   rw [if_pos hc,if_pos hc,hc,e1,e2]
  ·show gmH6 (qG g q n)=gmH6 (turnR g q n)
   unfold turnR
   rw [if_pos hc,e1]
 ·refine .inr ⟨⟨hp,hc⟩,?_,?_⟩
  ·show PV.tup [.agg (gmO6 gm0),.i .i64 0,.i .i64 (turnC g q n)]=.tup [.agg (gmO6 (turnR g q n)),.i .i64 (turnS' g q n),.i .i64 (turnC g q n)]
   unfold turnR turnS'
   rw [if_neg hc,if_neg hc]
  ·show gmH6 gm0=gmH6 (turnR g q n)
   unfold turnR
   rw [if_neg hc]
end Ax
namespace Ax
set_option maxRecDepth 100000
set_option maxHeartbeats 4000000
end Ax
end Go.Proofs.YtjjonmhpgkahoaaGreatDoor
