/-
  What a turn with a play answers, of the spec package.
  Conditions: none.
-/
import Derived.Test.YtjjonmhpgkahoaaGreatDoorV25
import Derived.Test.YtjjonmhpgkahoaaGreatDoorV26
import Derived.Test.YtjjonmhpgkahoaaGreatDoorV22
set_option linter.unusedSimpArgs false
set_option linter.unusedVariables false
namespace Go.Proofs.YtjjonmhpgkahoaaGreatDoor
namespace Ax
set_option maxRecDepth 100000
set_option maxHeartbeats 2000000
def sp_s_PlayTurn (p:Pr):FSpec:=fsp (ac (aA aGm) (ac (aA aPl) (a1 aI))) (fun (g,q,n)=>StP' g q) (fun (g,q,n)=>.tup [.agg (gmO6 (turnR g q n)),.i .i64 (turnS' g q n),.i .i64 (turnC g q n)]) (fun (g,q,n)=>gmH6 (turnR g q n))
def spStN (p:Pr):FSpec:=fsp (ac (aA aGm) (ac (aA aPl) (a1 aI))) (fun (g,q,n)=>StN g q n) (fun (g,q,n)=>.tup [.agg (gmO6 gm0),.i .i64 0,.i .i64 (turnC g q n)]) (fun _=>gmH6 gm0)
theorem okStN:FOk Tryz.prog 41 (spStN std):=FOk.own ok_s_PlayTurn_n rfl fun ⟨g,q,n⟩ w e u h hr=>
 tup_fol (.cons (agg_fol (esl_fol h)) (.cons (fun _ h=>h) (.cons (fun _ h=>h) .nil))) u hr
theorem ok_s_PlayTurn:FOk Tryz.prog 41 (sp_s_PlayTurn std):=FOk.casesE ok_s_PlayTurn_y okStN fun ⟨g,q,n⟩ hp=>by
 by_cases hc:turnC g q n=0
 ·obtain⟨e1,e2⟩:=qG_eq (g:=g) (q:=q) (n:=n) hc
  refine .inl ⟨⟨hp,hc⟩,?_,?_⟩
  ·show PV.tup [.agg (gmO6 (qG g q n)),.i .i64 (qScore g q),.i .i64 0]=.tup [.agg (gmO6 (turnR g q n)),.i .i64 (turnS' g q n),.i .i64 (turnC g q n)]
   unfold turnR turnS'
   rw [if_pos hc,if_pos hc,hc,e1,e2]
  ·show gmH6 (qG g q n)=gmH6 (turnR g q n)
   unfold turnR
   rw [if_pos hc,e1]
 ·refine .inr ⟨⟨hp,hc⟩,?_,?_⟩
  ·show PV.tup [.agg (gmO6 gm0),.i .i64 0,.i .i64 (turnC g q n)]=.tup [.agg (gmO6 (turnR g q n)),.i .i64 (turnS' g q n),.i .i64 (turnC g q n)]
   unfold turnR turnS'
   rw [if_neg hc,if_neg hc]
  ·show gmH6 gm0=gmH6 (turnR g q n)
   unfold turnR
   rw [if_neg hc]
set_option maxHeartbeats 4000000
def sp_s_l19Can (p:Pr):FSpec:=fsp (a1 (aP aGm)) (fun g=>True) (fun g=>.b (canB g))
theorem ok_s_l19Can:FOk Tryz.prog 142 (sp_s_l19Can std):=by
 refine FOk.go (c:=cx std [] [] 0) (cx_ok .nil .nil) mixed Tryz.func142 rfl rfl rfl (by kernel_rfl) ?_
 rintro g hp
 refine⟨rfl,?_⟩
 generalize hP:std=p,hB0:canB=B0
 cbv
 repeat' first|refine fun (_:Unit)=>?_;cbv|refine aI2 (fun h=>?_) (fun h=>?_)<;>cbv|refine aI2 ?_ ?_|refine Or.inl (fun (_:Unit)=>?_);cbv
 all_goals subst hP hB0
 all_goals try exact fin
 ·have e1:g.over=false:=by assumption
  have e2:(g.rule==0)=false:=h
  unfold canB;rw [e1,e2];rfl
 ·have e2:(g.rule==0)=true:=h
  unfold canB;rw [e2];simp
 ·unfold canB;rw [show g.over=true from h];rfl
def sp_s_l19Withdraw (p:Pr):MSpec:=msp (mG a0) (fun (g,_u)=>WdP g) (fun (g,_u)=>.tup []) (fun (g,_u)=>gmHw g ⟨g.ts,g.lex,g.bd0,g.secs,g.rule,⟨g.bd.size,g.bd.prem,g.last.before⟩,wBag g,wRks g,wSs g,g.clocks,g.player,wZe g,⟨3,g.last.player,⟨0,0,false,[]⟩,[],[],0,0⟩,wOv g⟩)
theorem ok_s_l19Withdraw:MOk Tryz.prog 137 (sp_s_l19Withdraw std):=by
 refine MOk.go (c:=cx std [(224,sp_s_l18Board std),(125,sp_s_l12Flat std),(126,sp_s_l03Take std),(74,sp_s_l03Sort std),(127,sp_s_l03Tiles std),(128,sp_s_l12Placed std),(194,sp_s_l00Own std)] [(132,sp_s_l18Settle std)] 7) (cx_ok (.cons ok_s_l18Board (.cons ok_s_l12Flat (.cons ok_s_l03Take (.cons ok_s_l03Sort (.cons ok_s_l03Tiles (.cons ok_s_l12Placed (.cons ok_s_l00Own .nil))))))) (.cons ok_s_l18Settle .nil)) mixed Tryz.func137 rfl rfl (by kernel_rfl) ?_
 rintro ⟨g,_u⟩ hp
 dsimp only at hp
 refine⟨rfl,?_⟩
 unfold sp_s_l18Board sp_s_l12Flat sp_s_l03Take sp_s_l03Sort sp_s_l03Tiles sp_s_l12Placed sp_s_l00Own sp_s_l18Settle
 generalize hP:std=p,hB0:wBag=B0,hB1:wRks=B1,hB2:wSs=B2,hB3:wZe=B3,hB4:wOv=B4,hB5:isort=B5,hB6:takeS=B6,hB7:takeB=B7,hB8:tilesS=B8,hB9:placedS=B9,hB10:flatB=B10,hB11:flatP=B11,hB12:setSc=B12
 cbv
 repeat' first|refine fun (_:Unit)=>?_;cbv|refine aI2 (fun h=>?_) (fun h=>?_)<;>cbv|refine aI2 ?_ ?_|refine Or.inl (fun (_:Unit)=>?_);cbv
 all_goals subst hP hB0 hB1 hB2 hB3 hB4 hB5 hB6 hB7 hB8 hB9 hB10 hB11 hB12
 all_goals try exact fin
 all_goals (have h1:=w_rest hp;have h2:=w_pl hp;have h3:=w_til hp;have h4:=hp.p;have h5:=hp.r2;have h6:=hp.s2;have h7:=hp.dr;have h8:=hp.bag;have h9:=hp.sc;have b1:=hp.so;have b2:=hp.z)
 all_goals first
  | exact hp.pl.fit
  | exact hp.pl.on
  | exact⟨h4.1,by show g.last.player<(g.racks.length:Int);omega⟩
  | exact⟨h4.1,by show g.last.player<(g.scores.length:Int);omega⟩
  | exact ltM_of (Nat.le_trans h7 (by decide))
  | exact ltM_of (Nat.le_trans hp.rk (by decide))
  | exact ltM_of (Nat.le_trans h2 (by decide))
  | exact ltM_of (n:=(isort g.last.drawn).length) (by rw [isort_length];omega)
  | exact ltM_of (n:=g.scores.length) (by omega)
  | exact ltM_of (n:=(wRest g++wTil g).length) (by rw [List.length_append];omega)
  | (show (0:Int)+(g.racks.length:Int)≤274877906944;omega)
  | exact in64 (by show _≤(g.last.drawn.length:Int)+(g.bag.length:Int)∧(g.last.drawn.length:Int)+(g.bag.length:Int)≤_;omega)
  | exact in64 (by show _≤((wRest g).length : Int)+((wTil g).length : Int)∧((wRest g).length : Int)+((wTil g).length : Int)≤_;omega)
  | exact in64 (by show _≤g.sc g.last.player-g.last.score∧g.sc g.last.player-g.last.score≤_;omega)
  | exact in64 (by show _≤g.last.zeros+1∧g.last.zeros+1≤_;omega)
  | exact hp.set
  | exact w_ov1 ‹_›
  | exact w_ov0 ‹_›
  | exact congrArg (fun L=>Ob.own [.i .i64] L 2) (w_ss1 ‹_›)
  | exact congrArg (fun L=>Ob.own [.i .i64] L 2) (w_ss0 ‹_›)
  | rfl
  | skip
end Ax
end Go.Proofs.YtjjonmhpgkahoaaGreatDoor
