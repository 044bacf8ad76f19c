/-
  A challenge that may not be made, of the spec package; both joined.
  Conditions: none.
-/
import Derived.Test.YtghmphmbpdiflaaGreatDoorE26
import Derived.Test.YtghmphmbpdiflaaGreatDoorE20
set_option linter.unusedSimpArgs false
set_option linter.unusedVariables false
namespace Go.Proofs.YtghmphmbpdiflaaGreatDoor
namespace Ax
set_option maxRecDepth 100000
set_option maxHeartbeats 20000000
structure StCn (g:Gm) (n:Int):Prop where
 b:StC g
 c:chC g n≠0
section
variable {g:Gm} {n:Int}
theorem cn1 (h:std.eqI (actC g n) 0=false):actC g n=chC g n:=by
 have h1:=eqI_f h
 unfold chC
 rw [if_neg h1]
theorem cn2 (h:std.eqI (actC g n) 0=true) (h2:canB g=false):6=chC g n:=by
 have h1:=eqI_t h
 unfold chC
 rw [if_pos h1,h2];rfl
theorem cn3 (hc:chC g n≠0) (h:std.eqI (actC g n) 0=true) (h2:canB g=true):False:=by
 have h1:=eqI_t h
 unfold chC at hc
 rw [if_pos h1,h2] at hc
 exact hc rfl
end
def sp_s_ChallengeTurn_n (p:Pr):FSpec:=fsp (ac (aA aGm) (a1 aI)) (fun (g,n)=>StCn g n) (fun (g,n)=>.tup [.agg (gmK gm0 .esl .esl .esl .esl .esl .esl),.agg [.esl,.esl,.b false,.i .i64 0],.i .i64 (chC g n)])
theorem ok_s_ChallengeTurn_n:FOk Tryz.prog 227 (sp_s_ChallengeTurn_n std):=by
 refine FOk.go (c:=cx std [(94,sp_s_l18Begin std),(265,sp_s_l19Can std),(266,sp_s_l19Verdict std),(97,sp_s_l18Own std),(173,sp_s_l18Waits std)] [(174,sp_s_l18Clock std),(267,sp_s_l19Withdraw std),(175,sp_s_l18Settle std)] 0) (cx_ok (.cons ok_s_l18Begin (.cons ok_s_l19Can (.cons ok_s_l19Verdict (.cons ok_s_l18Own (.cons ok_s_l18Waits .nil))))) (.cons ok_s_l18Clock (.cons ok_s_l19Withdraw (.cons ok_s_l18Settle .nil)))) mixed Tryz.func227 rfl rfl rfl (by kernel_rfl) ?_
 rintro ⟨g,n⟩ hp
 dsimp only at hp
 refine⟨rfl,?_⟩
 unfold sp_s_l18Begin sp_s_l19Can sp_s_l19Verdict sp_s_l18Own sp_s_l18Waits sp_s_l18Clock sp_s_l19Withdraw sp_s_l18Settle
 generalize hP:std=p,hB0:actC=B0,hB1:canB=B1,hB2:vUp=B2,hB3:vPts=B3,hB4:vWords=B4,hB5:vWrong=B5,hB6:wBag=B6,hB7:wRks=B7,hB8:wSs=B8,hB9:wZe=B9,hB10:wOv=B10,hB11:waitsB=B11,hB12:setSc=B12,hB13:ckL=B13,hB14:chC=B14
 cbv
 repeat' first
  | (refine fun (_:Unit)=>?_;cbv)
  | (refine aI2 (fun h=>?_) (fun h=>?_)<;>cbv)
  | (refine aI2 ?_ ?_)
  | (refine Or.inl (fun (_:Unit)=>?_);cbv)
 all_goals subst hP hB0 hB1 hB2 hB3 hB4 hB5 hB6 hB7 hB8 hB9 hB10 hB11 hB12 hB13 hB14
 all_goals try exact fin
 all_goals try (exfalso;exact cn3 hp.c ‹_› ‹_›)
 all_goals try (exfalso;exact absurd (show std.eqI 6 0=true by assumption) (by decide))
 all_goals first
  | exact hp.b.gm
  | exact cn1 ‹_›
  | exact cn2 ‹_› ‹_›
  | skip
def chH8 (g:Gm) (a b:List (List UInt8)):AH:=[(0,.own [.i .i64] g.ts.values 2),(1,.own [.i .i64] g.ts.counts 2),(2,.own [.s] g.lex 9),(3,.own [.s] g.racks 9),(4,.own [.i .i64] g.scores 2),(5,.own [.i .i64] g.clocks 2),(6,.own [.s] a 9),(7,.own [.s] b 9)]
def chR (g:Gm) (n:Int):Gm:=if chC g n=0 then chG g n else gm0
def chW (g:Gm) (n:Int):List (List UInt8):=if chC g n=0 then vWords g else []
def chX (g:Gm) (n:Int):List (List UInt8):=if chC g n=0 then vWrong g else []
def chU (g:Gm) (n:Int):Bool:=if chC g n=0 then vUp g else false
def chP (g:Gm) (n:Int):Int:=if chC g n=0 then vPts g else 0
theorem esl8_fol {w:World} {e:Env} (h : ∀k,((chH8 gm0 [] []).get k).isSome =true→e.on k∧e.adr k=none∧e.len k=0∧e.cap k=0) {x:Int} : ∀u,R w e (.tup [.agg (gmK gm0 .esl .esl .esl .esl .esl .esl),.agg [.esl,.esl,.b false,.i .i64 0],.i .i64 x]) u→R w e (.tup [.agg (gmO6 gm0),.agg [.osl 6,.osl 7,.b false,.i .i64 0],.i .i64 x]) u:=by
 refine tup_fol (.cons (agg_fol (esl_fol fun k hk=>h k ?_)) (.cons (agg_fol (.cons (fun _ hr=>nil_O (h 6 rfl) hr) (.cons (fun _ hr=>nil_O (h 7 rfl) hr) (.cons (fun _ h=>h) (.cons (fun _ h=>h) .nil))))) (.cons (fun _ h=>h) .nil)))
 match k,hk with
 | 0,_=>rfl
 | 1,_=>rfl
 | 2,_=>rfl
 | 3,_=>rfl
 | 4,_=>rfl
 | 5,_=>rfl
 | n+6,hk=>simp [gmH6,AH.get] at hk
def sp_s_ChallengeTurn (p:Pr):FSpec:=fsp (ac (aA aGm) (a1 aI)) (fun (g,n)=>StC g) (fun (g,n)=>.tup [.agg (gmO6 (chR g n)),.agg [.osl 6,.osl 7,.b (chU g n),.i .i64 (chP g n)],.i .i64 (chC g n)]) (fun (g,n)=>chH8 (chR g n) (chW g n) (chX g n))
def spStCn (p:Pr):FSpec:=fsp (ac (aA aGm) (a1 aI)) (fun (g,n)=>StCn g n) (fun (g,n)=>.tup [.agg (gmO6 gm0),.agg [.osl 6,.osl 7,.b false,.i .i64 0],.i .i64 (chC g n)]) (fun _=>chH8 gm0 [] [])
theorem okStCn:FOk Tryz.prog 227 (spStCn std):=FOk.own ok_s_ChallengeTurn_n rfl fun ⟨g,n⟩ w e u h hr=>esl8_fol h u hr
theorem chG_rest (g:Gm) (n:Int):(chG g n).ts =g.ts∧(chG g n).lex =g.lex∧(chG g n).bd0 =g.bd0∧(chG g n).secs =g.secs∧(chG g n).rule =g.rule:=by
 unfold chG
 split
 ·exact⟨rfl,rfl,rfl,rfl,rfl⟩
 ·unfold rfG
  split<;>exact⟨rfl,rfl,rfl,rfl,rfl⟩
theorem ok_s_ChallengeTurn:FOk Tryz.prog 227 (sp_s_ChallengeTurn std):=FOk.casesE ok_s_ChallengeTurn_y okStCn fun ⟨g,n⟩ hp=>by
 by_cases hc:chC g n=0
 ·obtain⟨e1,e2,e3,e4,e5⟩:=chG_rest g n
  refine .inl ⟨⟨hp,hc⟩,?_,?_⟩
  ·show _=PV.tup [.agg (gmO6 (chR g n)),.agg [.osl 6,.osl 7,.b (chU g n),.i .i64 (chP g n)],.i .i64 (chC g n)]
   unfold chR chU chP
   rw [if_pos hc,if_pos hc,if_pos hc,hc]
   show PV.tup [.agg (gmK ⟨g.ts,g.lex,g.bd0,g.secs,g.rule,(chG g n).bd,(chG g n).bag,(chG g n).racks,(chG g n).scores,(chG g n).clocks,(chG g n).player,(chG g n).zeros,(chG g n).last,(chG g n).over⟩ (.osl 0) (.osl 1) (.osl 2) (.osl 3) (.osl 4) (.osl 5)),_,_]=_
   rw [←e1,←e2,←e3,←e4,←e5];rfl
  ·show _=chH8 (chR g n) (chW g n) (chX g n)
   unfold chR chW chX
   rw [if_pos hc,if_pos hc,if_pos hc]
   show chH8 ⟨g.ts,g.lex,g.bd0,g.secs,g.rule,(chG g n).bd,(chG g n).bag,(chG g n).racks,(chG g n).scores,(chG g n).clocks,(chG g n).player,(chG g n).zeros,(chG g n).last,(chG g n).over⟩ _ _=_
   rw [←e1,←e2,←e3,←e4,←e5]
 ·refine .inr ⟨⟨hp,hc⟩,?_,?_⟩
  ·show _=PV.tup [.agg (gmO6 (chR g n)),.agg [.osl 6,.osl 7,.b (chU g n),.i .i64 (chP g n)],.i .i64 (chC g n)]
   unfold chR chU chP
   rw [if_neg hc,if_neg hc,if_neg hc]
  ·show chH8 gm0 [] []=chH8 (chR g n) (chW g n) (chX g n)
   unfold chR chW chX
   rw [if_neg hc,if_neg hc,if_neg hc]
end Ax
end Go.Proofs.YtghmphmbpdiflaaGreatDoor
