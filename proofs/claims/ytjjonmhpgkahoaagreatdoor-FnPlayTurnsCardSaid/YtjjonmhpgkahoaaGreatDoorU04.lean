/-
  A turn with a play that fails, of the impl package; What a turn with a play answers, of the impl package; Plays scored, laid and judged: walked; Cells set; plays drawn: walked; Cells set; plays drawn: walked; What the laws of plays are handed: walked; The law of quiet turns.
  Conditions: none.
-/
import Derived.Test.YtjjonmhpgkahoaaGreatDoorS37
import Derived.Test.YtjjonmhpgkahoaaGreatDoorS29
import Derived.Test.YtjjonmhpgkahoaaGreatDoorU03
import Derived.Test.YtjjonmhpgkahoaaGreatDoorS22
import Derived.Test.YtjjonmhpgkahoaaGreatDoorS31
import Derived.Test.YtjjonmhpgkahoaaGreatDoorS33
import Derived.Test.YtjjonmhpgkahoaaGreatDoorS35
set_option linter.unusedSimpArgs false
set_option linter.unusedVariables false
namespace Go.Proofs.YtjjonmhpgkahoaaGreatDoor
namespace Ax
set_option maxRecDepth 100000
set_option maxHeartbeats 20000000
section
variable {g:Gm} {q:Pl} {n:Int}
theorem tn1 (h:std.eqI (actC g n) 0=false):actC g n=turnC g q n:=by
 have h1:=eqI_f h
 unfold turnC
 rw [if_neg h1]
theorem tn2 (h:std.eqI (actC g n) 0=true) (h2:waitsB g=true):6=turnC g q n:=by
 have h1:=eqI_t h
 unfold turnC
 rw [if_pos h1,if_pos h2]
theorem tn3 (h:std.eqI (actC g n) 0=true) (h2:waitsB g=false) (h3:std.eqI (codeI g.bd g.lex (g.rk g.player) q) 0=false) (h4:std.eqI (codeI g.bd g.lex (g.rk g.player) q) 9=false∨std.eqI g.rule 0=true):codeI g.bd g.lex (g.rk g.player) q=turnC g q n:=by
 have h1:=eqI_t h
 have h3:=eqI_f h3
 unfold turnC
 rw [if_pos h1,if_neg (by rw [h2];simp),if_pos ⟨h3,h4.imp eqI_f eqI_t⟩]
theorem tn45 (h:std.eqI (actC g n) 0=true) (h2:waitsB g=false) (h3:std.eqI (codeI g.bd g.lex (g.rk g.player) q) 0=true∨(std.eqI (codeI g.bd g.lex (g.rk g.player) q) 9=true∧std.eqI g.rule 0=false)):turnC g q n=if 20000<scoreI g.ts g.bd q∨50000<g.sc g.player+scoreI g.ts g.bd q then 5 else 0:=by
 have h1:=eqI_t h
 unfold turnC
 rw [if_pos h1,if_neg (by rw [h2];simp),if_neg ?_]
 rintro ⟨a,b⟩
 rcases h3 with h3 | ⟨h3,h4⟩
 ·exact a (eqI_t h3)
 ·rcases b with b | b
  ·exact b (eqI_t h3)
  ·exact eqI_f h4 b
theorem tn4 (h:std.eqI (actC g n) 0=true) (h2:waitsB g=false) (h3:std.eqI (codeI g.bd g.lex (g.rk g.player) q) 0=true∨(std.eqI (codeI g.bd g.lex (g.rk g.player) q) 9=true∧std.eqI g.rule 0=false)) (h5:std.ltI 20000 (scoreI g.ts g.bd q)=true∨std.ltI 50000 (g.sc g.player+scoreI g.ts g.bd q)=true):5=turnC g q n:=by
 rw [tn45 h h2 h3,if_pos (h5.imp lt_of lt_of)]
theorem tn5 (hc:turnC g q n≠0) (h:std.eqI (actC g n) 0=true) (h2:waitsB g=false) (h3:std.eqI (codeI g.bd g.lex (g.rk g.player) q) 0=true∨(std.eqI (codeI g.bd g.lex (g.rk g.player) q) 9=true∧std.eqI g.rule 0=false)) (h5:std.ltI 20000 (scoreI g.ts g.bd q)=false) (h6:std.ltI 50000 (g.sc g.player+scoreI g.ts g.bd q)=false):False:=by
 apply hc
 have a:=ge_of h5
 have b:=ge_of h6
 rw [tn45 h h2 h3,if_neg (by omega)]
end
def sp_i_PlayTurn_n (p:Pr):FSpec:=fsp (ac (aA aGm) (ac (aA aPl) (a1 aI))) (fun (g,q,n)=>PtN g q n) (fun (g,q,n)=>.tup [.agg (gmK gm0 .esl .esl .esl .esl .esl .esl),.i .i64 0,.i .i64 (turnC g q n)])
theorem ok_i_PlayTurn_n:FOk Tryz.prog 40 (sp_i_PlayTurn_n std):=by
 refine FOk.go (c:=cx std [(99,sp_i_actionCode std),(102,sp_i_Game_waits std),(112,sp_i_legal std),(113,sp_i_scorePlay std),(114,sp_i_copyGame std),(117,sp_i_placedTiles std),(116,sp_i_without std),(118,sp_i_toDraw std),(119,sp_i_made std),(120,sp_i_FillRack std)] [(115,sp_i_xGame_begin std),(101,sp_i_xGame_settle std)] 0) (cx_ok (.cons ok_i_actionCode (.cons ok_i_Game_waits (.cons ok_i_legal (.cons ok_i_scorePlay (.cons ok_i_copyGame (.cons ok_i_placedTiles (.cons ok_i_without (.cons ok_i_toDraw (.cons ok_i_made (.cons ok_i_FillRack .nil)))))))))) (.cons ok_i_xGame_begin (.cons ok_i_xGame_settle .nil))) mixed Tryz.func40 rfl rfl rfl (by kernel_rfl) ?_
 rintro ⟨g,q,n⟩ hp
 dsimp only at hp
 refine⟨rfl,?_⟩
 unfold sp_i_actionCode sp_i_Game_waits sp_i_legal sp_i_scorePlay sp_i_copyGame sp_i_xGame_begin sp_i_placedTiles sp_i_without sp_i_toDraw sp_i_made sp_i_FillRack sp_i_xGame_settle
 generalize hP:std=p,hB0:actC=B0,hB1:waitsB=B1,hB2:codeI=B2,hB3:scoreI=B3,hB4:madeB=B4,hB5:withoutS=B5,hB6:withoutB=B6,hB7:tilesP=B7,hB8:placedI=B8,hB9:tdI=B9,hB10:frR=B10,hB11:frB=B11,hB12:frC=B12,hB13:setS=B13,hB14:ovB=B14,hB15:turnC=B15
 cbv
 repeat' first
  | (refine fun (_:Unit)=>?_;cbv)
  | (refine aI2 (fun h=>?_) (fun h=>?_)<;>cbv)
  | (refine aI2 ?_ ?_)
  | (refine Or.inl (fun (_:Unit)=>?_);cbv)
 all_goals subst hP hB0 hB1 hB2 hB3 hB4 hB5 hB6 hB7 hB8 hB9 hB10 hB11 hB12 hB13 hB14 hB15
 all_goals try exact fin
 all_goals try (exfalso;exact tn5 hp.c ‹_› ‹_› (Or.inl ‹_›) ‹_› ‹_›)
 all_goals try (exfalso;exact tn5 hp.c ‹_› ‹_› (Or.inr ⟨‹_›,‹_›⟩) ‹_› ‹_›)
 all_goals try (have hG:=pyg (show std.eqI (actC g n) 0=true by assumption);have hpl:=in_bd hG.fa.ply;have hr2:=hG.fa.r;have hs2:=hG.fa.s;have hk2:=hG.fa.k;have hck:=hG.ok.clk g.player;have hsc:=hG.ok.sc g.player;have hn:=hG.n;have hts:=tsB_ok hG.ok.ts;have hbl:=bag_len hG.ok.bag)
 all_goals try (have hC:=pyc (q:=q) hG (Or.inl ‹_›);have hsb:=sco_bd hts hC.vp;have htd:=td_bd (a:=g.bag) hC.rk;have hrl:=rack_len hC.rk)
 all_goals try (have hC:=pyc (q:=q) hG (Or.inr ‹_›);have hsb:=sco_bd hts hC.vp;have htd:=td_bd (a:=g.bag) hC.rk;have hrl:=rack_len hC.rk)
 all_goals first
  | exact hp.b.gm
  | exact tn1 ‹_›
  | exact tn2 ‹_› ‹_›
  | exact tn3 ‹_› ‹_› ‹_› (Or.inl ‹_›)
  | exact tn3 ‹_› ‹_› ‹_› (Or.inr ‹_›)
  | exact tn4 ‹_› ‹_› (Or.inl ‹_›) (Or.inl ‹_›)
  | exact tn4 ‹_› ‹_› (Or.inl ‹_›) (Or.inr ‹_›)
  | exact tn4 ‹_› ‹_› (Or.inr ⟨‹_›,‹_›⟩) (Or.inl ‹_›)
  | exact tn4 ‹_› ‹_› (Or.inr ⟨‹_›,‹_›⟩) (Or.inr ‹_›)
  | exact⟨hr2,hG.fa.ply⟩
  | exact⟨hpl.1,by show g.player<(g.racks.length:Int);omega⟩
  | exact⟨hpl.1,by show g.player<(g.scores.length:Int);omega⟩
  | exact⟨hpl.1,by show g.player<(g.clocks.length:Int);omega⟩
  | exact⟨hG.ok.bd,lex_lxp hG.ok.lex,rack_stp (hG.ok.rk _),hp.b.wl⟩
  | exact⟨hts,hC.vp⟩
  | exact in64 (by show _≤g.sc g.player+scoreI g.ts g.bd q∧g.sc g.player+scoreI g.ts g.bd q≤_;omega)
  | skip
end Ax
namespace Ax
set_option maxRecDepth 100000
set_option maxHeartbeats 2000000
section
variable {g:Gm} {q:Pl} {n:Int}
theorem bag_eq (hG:PyG g n) (hC:PyC g q):pBag g q=g.bag.drop (drawN g.bag (restT g q)):=by
 unfold pBag frB
 rw [hG.ok.bag,hC.rk,td_nat hC.rk];rfl
theorem drw_eq (hC:PyC g q):pDrw g q=g.bag.take (drawN g.bag (restT g q)):=by
 unfold pDrw
 rw [td_nat hC.rk]
theorem p1_eq (hG:PyG g n) (hC:PyC g q):p1 g q n=turn1 g q n:=by
 unfold p1 turn1 pRks pScs pClk pCel pScore
 rw [rack_eq hG hC,bag_eq hG hC,drw_eq hC]
theorem pG_eq (hG:PyG g n) (hC:PyC g q):pG g q n=turnG g q n:=by
 have e:=p1_eq hG hC
 have e2:pEnd g q=(g.rule==0&&(isort (restT g q++g.bag.take (drawN g.bag (restT g q)))).isEmpty):=by
  unfold pEnd
  rw [rack_eq hG hC]
 have e3:pG g q n={ p1 g q n with scores:=setS (p1 g q n) (pEnd g q),over:=ovB g (pEnd g q) }:=rfl
 rw [e3,e,e2]
 unfold turnG
 by_cases h:g.rule=0∧(isort (restT g q++g.bag.take (drawN g.bag (restT g q)))).isEmpty =true
 ·rw [if_pos h,h.2,show (g.rule==0)=true by simpa using h.1]
  unfold setS ovB settleG setSc
  simp
 ·rw [if_neg h]
  have h2:(g.rule==0&&(isort (restT g q++g.bag.take (drawN g.bag (restT g q)))).isEmpty)=false:=by
   rw [Bool.eq_false_iff]
   intro h3
   rw [Bool.and_eq_true,beq_iff_eq] at h3
   exact h h3
  rw [h2]
  unfold setS ovB
  simp [turn1]
end
def sp_PlayTurn (p:Pr):FSpec:=fsp (ac (aA aGm) (ac (aA aPl) (a1 aI))) (fun (g,q,n)=>PtP g q) (fun (g,q,n)=>.tup [.agg (gmO6 (turnR g q n)),.i .i64 (turnS' g q n),.i .i64 (turnC g q n)]) (fun (g,q,n)=>gmH6 (turnR g q n))
def spPtN (p:Pr):FSpec:=fsp (ac (aA aGm) (ac (aA aPl) (a1 aI))) (fun (g,q,n)=>PtN g q n) (fun (g,q,n)=>.tup [.agg (gmO6 gm0),.i .i64 0,.i .i64 (turnC g q n)]) (fun _=>gmH6 gm0)
theorem okPtN:FOk Tryz.prog 40 (spPtN std):=FOk.own ok_i_PlayTurn_n rfl fun ⟨g,q,n⟩ w e u h hr=>
 tup_fol (.cons (agg_fol (esl_fol h)) (.cons (fun _ h=>h) (.cons (fun _ h=>h) .nil))) u hr
theorem ok_PlayTurn:FOk Tryz.prog 40 (sp_PlayTurn std):=FOk.casesE ok_i_PlayTurn_y okPtN fun ⟨g,q,n⟩ hp=>by
 by_cases hc:turnC g q n=0
 ·obtain⟨hG,hC⟩:=turn_of hc
  refine .inl ⟨⟨hp,hc⟩,?_,?_⟩
  ·show PV.tup [.agg (gmO6 (pG g q n)),.i .i64 (pScore g q),.i .i64 0]=.tup [.agg (gmO6 (turnR g q n)),.i .i64 (turnS' g q n),.i .i64 (turnC g q n)]
   unfold turnR turnS'
   rw [if_pos hc,if_pos hc,hc,pG_eq hG hC];rfl
  ·show gmH6 (pG g q n)=gmH6 (turnR g q n)
   unfold turnR
   rw [if_pos hc,pG_eq hG hC]
 ·refine .inr ⟨⟨hp,hc⟩,?_,?_⟩
  ·show PV.tup [.agg (gmO6 gm0),.i .i64 0,.i .i64 (turnC g q n)]=.tup [.agg (gmO6 (turnR g q n)),.i .i64 (turnS' g q n),.i .i64 (turnC g q n)]
   unfold turnR turnS'
   rw [if_neg hc,if_neg hc]
  ·show gmH6 gm0=gmH6 (turnR g q n)
   unfold turnR
   rw [if_neg hc]
end Ax
namespace Ax
set_option maxRecDepth 100000
set_option maxHeartbeats 20000000
@[reducible] def shPq:List AtTy:=[.i .i64,.i .i64,.b,.s]
def plF (x:El shPq):Pl:=⟨x.1,x.2.1,x.2.2.1,x.2.2.2⟩
def aPL:Arg (List (El shPq)):=⟨fun | .rsl [.i .i64,.i .i64,.b,.s] L=>some L | _=>none,.rsl shPq,fun x a h=>by split at h<;>cases h;rfl⟩
def aCs:Arg Bd:=⟨fun | .fn g [.rptr [.i .i64 a,.s b,.s c] 0]=>if Nat.beq g 221 then some ⟨a,b,c⟩ else none | _=>none,fun b=>.fn 221 [.rptr (bdK b) 0],fun x a h=>by
 split at h
 ·split at h
  ·rename_i g _ _ _ hg
   cases h
   rw [Nat.eq_of_beq_eq_true hg];rfl
  ·cases h
 ·cases h⟩
structure SoP (b:Bd) (q:Pl):Prop where
 v:validI b q=true
 bd:bdB b=true
structure SoL (b:Bd) (L:List (El shPq)):Prop where
 a : ∀k:Nat,k<L.length→SoP b (plF (L.getD k (dE shPq)))
 n:(L.length:Int)≤1073741824
theorem SoL.k {b:Bd} {L:List (El shPq)} {k:Int} (h:SoL b L) (h0:0≤k) (h1:k<(L.length:Int)):SoP b (plF (L.getD k.toNat (dE shPq))):=h.a k.toNat (by omega)
theorem SoP.one {b:Bd} {q:Pl} (h:SoP b q):SoL b [(q.row,q.col,q.down,q.word)]:=⟨fun k hk=>by
 have : k=0:=by have : ([(q.row,q.col,q.down,q.word)]:List (El shPq)).length =1:=rfl;omega
 subst this
 exact h,(by decide:((1:Nat):Int)≤1073741824)⟩
theorem fit_bq {b:Bd} (h:b.Fit):BdP b:=by
 have h1:=h.lo;have h2:=h.hi;have h3:=h.prem;have h4:=h.cells
 have h5:b.size*b.size≤225:=(Int.mul_le_mul h2 h2 (by omega) (by decide):b.size*b.size≤15*15)
 exact⟨by omega,by omega⟩
theorem tsok_q {t:TS} (h:TsOk t):TsL t:=⟨by have:=h.len;omega,by have:=h.len;have:=h.vals;omega,by have:=h.len;have:=h.cnts;omega⟩
theorem SoP.f {b:Bd} {q:Pl} (h:SoP b q):b.Fit:=bdB.fit h.bd
theorem SoP.n {b:Bd} {q:Pl} (h:SoP b q):(q.word.length:Int)≤1073741824:=by have:=(validI_facts h.v).2.2.2;omega
def sp_i_scorable_1 (p:Pr):FSpec:=fsp (ac (aA aPl) (a1 (aP aBd))) (fun (q,b)=>SoP b q) (fun (q,b)=>.b (!validI b q))
theorem ok_i_scorable_1:FOk Tryz.prog 221 (sp_i_scorable_1 std):=by
 refine FOk.go (c:=cx std [(202,sp_i_Play_validOn std)] [] 0) (cx_ok (.cons ok_i_Play_validOn .nil) .nil) mixed Tryz.func221 rfl rfl rfl (by kernel_rfl) ?_
 rintro ⟨q,b⟩ hp
 dsimp only at hp
 refine⟨rfl,?_⟩
 unfold sp_i_Play_validOn
 generalize hP:std=p,hB0:validI=B0
 cbv
 repeat' first
  | (refine fun (_:Unit)=>?_;cbv)
  | (refine aI2 (fun h=>?_) (fun h=>?_)<;>cbv)
  | (refine aI2 ?_ ?_)
  | (refine Or.inl (fun (_:Unit)=>?_);cbv)
 all_goals subst hP hB0
 all_goals try exact fin
 all_goals (try simp only [eta_bd,eta_pl] at *)
 ·exact hp.f
 ·exact hp.n
def sp_indexPl (p:Pr):FSpec:=fsp (ac aPL (a1 aCs)) (fun (L,b)=>SoL b L) (fun (L,b)=>.i .i64 (-1))
theorem ok_indexPl:FOk Tryz.prog 278 (sp_indexPl std):=by
 refine FOk.go (c:=cx std [(221,sp_i_scorable_1 std)] [] 0) (cx_ok (.cons ok_i_scorable_1 .nil) .nil) mixed Tryz.func278 rfl rfl rfl (by kernel_rfl) ?_
 rintro ⟨L,b⟩ hp
 dsimp only at hp
 refine⟨rfl,?_⟩
 unfold sp_i_scorable_1
 obtain⟨H,hH⟩ : ∃H:Hd (Int),H=⟨fun k=>0≤k∧k≤L.length,fun k=>(L.length-k).toNat,(· < ·)⟩:=⟨_,rfl⟩
 have hl : ∀m n,H.lt m n→m<n:=by subst hH;exact fun _ _ h=>h
 generalize hP:std=p,hB0:validI=B0
 cbv
 repeat' first
  | (refine fun (_:Unit)=>?_;cbv)
  | (refine Or.inr ⟨9,[],[.s 8 (.i .i64)],[],[],H,rfl,hl,?_,fun (k:Int) hk=>?_⟩<;>cbv)
  | (refine aI2 (fun h=>?_) (fun h=>?_)<;>cbv)
  | (refine aI2 ?_ ?_)
 all_goals subst hP hB0 hH
 all_goals clear hl
 all_goals try dsimp only at hk
 all_goals try dsimp only
 all_goals try exact fin
 all_goals (try simp only [eta_bd,eta_pl] at *)
 all_goals have hq:=hp.k hk.1 (lt_of ‹_›)
 ·exact hq
 ·rename (!validI _ _)=true=>hh
  exact absurd (show (!validI b (plF (L.getD k.toNat (dE shPq))))=true from hh) (by rw [hq.v];decide)
 ·have h1:=lt_of (by assumption:std.ltI k (std.len L)=true)
  have h2:=hp.n
  exact in64 (by show _≤k+1∧k+1≤_;have : k<(L.length:Int):=h1;omega)
def sp_containsPl (p:Pr):FSpec:=fsp (ac aPL (a1 aCs)) (fun (L,b)=>SoL b L) (fun (L,b)=>.b false)
theorem ok_containsPl:FOk Tryz.prog 220 (sp_containsPl std):=by
 refine FOk.go (c:=cx std [(278,sp_indexPl std)] [] 0) (cx_ok (.cons ok_indexPl .nil) .nil) mixed Tryz.func220 rfl rfl rfl (by kernel_rfl) ?_
 rintro ⟨L,b⟩ hp
 dsimp only at hp
 refine⟨rfl,?_⟩
 unfold sp_indexPl
 generalize hP:std=p
 cbv
 repeat' first
  | (refine fun (_:Unit)=>?_;cbv)
  | (refine aI2 (fun h=>?_) (fun h=>?_)<;>cbv)
  | (refine aI2 ?_ ?_)
  | (refine Or.inl (fun (_:Unit)=>?_);cbv)
 all_goals subst hP
 all_goals try exact fin
def sp_i_scorable (p:Pr):FSpec:=fsp (ac (aA aTs) (ac (aA aBd) (a1 aPL))) (fun (t,b,L)=>SoL b L∧tsB t=true∧bdB b=true) (fun (t,b,L)=>.b true)
theorem ok_i_scorable:FOk Tryz.prog 133 (sp_i_scorable std):=by
 refine FOk.go (c:=cx std [(79,sp_i_ValidTiles std),(81,sp_i_ValidBoard std),(220,sp_containsPl std)] [] 0) (cx_ok (.cons ok_i_ValidTiles (.cons ok_i_ValidBoard (.cons ok_containsPl .nil))) .nil) mixed Tryz.func133 rfl rfl rfl (by kernel_rfl) ?_
 rintro ⟨t,b,L⟩ hp
 dsimp only at hp
 refine⟨rfl,?_⟩
 unfold sp_i_ValidTiles sp_i_ValidBoard sp_containsPl
 generalize hP:std=p,hB0:tsB=B0,hB1:bdB=B1
 cbv
 repeat' first
  | (refine fun (_:Unit)=>?_;cbv)
  | (refine aI2 (fun h=>?_) (fun h=>?_)<;>cbv)
  | (refine aI2 ?_ ?_)
  | (refine Or.inl (fun (_:Unit)=>?_);cbv)
 all_goals subst hP hB0 hB1
 all_goals try exact fin
 all_goals (try simp only [eta_bd,eta_pl,eta_ts] at *)
 ·exact tsok_q (tsB_ok hp.2.1)
 ·exact fit_bq (bdB.fit hp.2.2)
 all_goals skip
def sp_i_ScorePlay (p:Pr):FSpec:=fsp (ac (aA aTs) (ac (aA aBd) (a1 (aA aPl)))) (fun (t,b,q)=>SoP b q∧tsB t=true) (fun (t,b,q)=>.tup [.i .i64 (scoreI t b q),.i .i64 0])
theorem ok_i_ScorePlay:FOk Tryz.prog 42 (sp_i_ScorePlay std):=by
 refine FOk.go (c:=cx std [(133,sp_i_scorable std),(113,sp_i_scorePlay std)] [] 0) (cx_ok (.cons ok_i_scorable (.cons ok_i_scorePlay .nil)) .nil) mixed Tryz.func42 rfl rfl rfl (by kernel_rfl) ?_
 rintro ⟨t,b,q⟩ hp
 dsimp only at hp
 refine⟨rfl,?_⟩
 unfold sp_i_scorable sp_i_scorePlay
 generalize hP:std=p,hB0:scoreI=B0,hB1:tsB=B1,hB2:bdB=B2
 cbv
 repeat' first
  | (refine fun (_:Unit)=>?_;cbv)
  | (refine aI2 (fun h=>?_) (fun h=>?_)<;>cbv)
  | (refine aI2 ?_ ?_)
  | (refine Or.inl (fun (_:Unit)=>?_);cbv)
 all_goals subst hP hB0 hB1 hB2
 all_goals try exact fin
 all_goals (try simp only [eta_bd,eta_pl,eta_ts] at *)
 all_goals first
  | exact hp.1.one
  | exact hp.2
  | exact hp.1.bd
  | exact⟨tsB_ok hp.2,VP.of hp.1.bd hp.1.v⟩
def sp_i_MakePlay (p:Pr):FSpec:=fsp (ac (aA aBd) (a1 (aA aPl))) (fun (b,q)=>SoP b q) (fun (b,q)=>.tup [.agg (bdK (madeB b q)),.i .i64 0])
theorem ok_i_MakePlay:FOk Tryz.prog 43 (sp_i_MakePlay std):=by
 refine FOk.go (c:=cx std [(134,sp_i_ValidPlay std),(119,sp_i_made std)] [] 0) (cx_ok (.cons ok_i_ValidPlay (.cons ok_i_made .nil)) .nil) mixed Tryz.func43 rfl rfl rfl (by kernel_rfl) ?_
 rintro ⟨b,q⟩ hp
 dsimp only at hp
 refine⟨rfl,?_⟩
 unfold sp_i_ValidPlay sp_i_made
 generalize hP:std=p,hB0:madeB=B0,hB1:okI=B1
 cbv
 repeat' first
  | (refine fun (_:Unit)=>?_;cbv)
  | (refine aI2 (fun h=>?_) (fun h=>?_)<;>cbv)
  | (refine aI2 ?_ ?_)
  | (refine Or.inl (fun (_:Unit)=>?_);cbv)
 all_goals subst hP hB0 hB1
 all_goals try exact fin
 all_goals (try simp only [eta_bd,eta_pl] at *)
 ·exact fit_bq hp.f
 ·exact hp.n
 all_goals have hok:okI b q=true:=by unfold okI;rw [hp.bd,hp.v];rfl
 all_goals try exact (by rename okI b q=false=>hh;rw [hok] at hh;cases hh)
 ·exact VP.of hp.bd hp.v
def sp_i_LegalPlay (p:Pr):FSpec:=fsp (ac (aA aBd) (ac (aA aLex) (ac aS (a1 (aA aPl))))) (fun (b,ws,rack,q)=>LgP b ws rack q∧rackB rack=true∧lexB ws=true∧WsL ws) (fun (b,ws,rack,q)=>.i .i64 (codeI b ws rack q))
theorem ok_i_LegalPlay:FOk Tryz.prog 44 (sp_i_LegalPlay std):=by
 refine FOk.go (c:=cx std [(81,sp_i_ValidBoard std),(80,sp_i_ValidLexicon std),(84,sp_i_ValidRack std),(112,sp_i_legal std)] [] 0) (cx_ok (.cons ok_i_ValidBoard (.cons ok_i_ValidLexicon (.cons ok_i_ValidRack (.cons ok_i_legal .nil)))) .nil) mixed Tryz.func44 rfl rfl rfl (by kernel_rfl) ?_
 rintro ⟨b,ws,rack,q⟩ hp
 dsimp only at hp
 refine⟨rfl,?_⟩
 unfold sp_i_ValidBoard sp_i_ValidLexicon sp_i_ValidRack sp_i_legal
 generalize hP:std=p,hB0:codeI=B0,hB1:bdB=B1,hB2:rackB=B2,hB3:lexB=B3
 cbv
 repeat' first
  | (refine fun (_:Unit)=>?_;cbv)
  | (refine aI2 (fun h=>?_) (fun h=>?_)<;>cbv)
  | (refine aI2 ?_ ?_)
  | (refine Or.inl (fun (_:Unit)=>?_);cbv)
 all_goals subst hP hB0 hB1 hB2 hB3
 all_goals try exact fin
 all_goals (try simp only [eta_bd,eta_pl] at *)
 ·exact fit_bq (bdB.fit hp.1.bd)
 all_goals first
  | exact hp.2.2.2
  | exact (show (rack.length:Int)≤274877906944 by have:=hp.1.rk.len;omega)
  | skip
 all_goals try exact (by rename bdB b=false=>hh;rw [hp.1.bd] at hh;cases hh)
 all_goals try exact (by rename lexB ws=false=>hh;rw [hp.2.2.1] at hh;cases hh)
end Ax
namespace Ax
set_option maxRecDepth 100000
set_option maxHeartbeats 20000000
def le15 (w:List UInt8):Prop:=w.length≤15
section
variable {σ:Src} {b f:Bd} {m c k i r:Int} {L:List Int} {x:Int}
theorem so_q (h:b.Fit):std.inK .i64 (std.quo b.size 2):=qz ⟨by have:=h.lo;omega,by have:=h.hi;omega⟩
theorem so_1 (h:b.Fit):std.inK .i64 (std.sub b.size 1):=in64 (by have:=h.lo;have:=h.hi;show _≤b.size-1∧b.size-1≤_;omega)
theorem so_c (h:b.Fit) (hs:SrOk m σ):0≤pkV σ (std.sub b.size 1)∧pkV σ (std.sub b.size 1)≤b.size:=by
 have h1:=pk_bd hs (n:=std.sub b.size 1)
 have h2:std.sub b.size 1=b.size-1:=rfl
 have h3:=h1.2.1 (by have:=h.lo;omega)
 exact⟨h1.1,by omega⟩
theorem so_k (h:b.Fit) (hk:0≤c∧c≤b.size):std.inK .i64 (std.sub c 1):=in64 (by have:=h.hi;show _≤c-1∧c-1≤_;omega)
theorem so_f (h:f.full r (std.sub c 1)=true) (hk:0≤c∧c≤b.size):(0≤std.sub c 1∧std.sub c 1≤b.size)∧(std.sub c 1).toNat < c.toNat:=by
 unfold Bd.full at h
 rw [Bool.and_eq_true] at h
 have h1:=(inB_iff.1 h.1).2
 have h2:std.sub c 1=c-1:=rfl
 omega
theorem so_a (h:b.Fit) (hk:0≤c∧c≤b.size) (h2:0≤i∧i≤(L.length:Int)∧c+(L.length:Int)≤b.size):std.inK .i64 (std.add c (std.len L)):=in64 (by have:=h.hi;show _≤c+(L.length:Int)∧c+(L.length:Int)≤_;omega)
theorem so_at (hf:f.Fit) (hsz:f.size=b.size) (hr:0≤r∧r<b.size) (hl:std.ltI (std.add c (std.len L)) b.size=true) (hk:0≤c∧c≤b.size):AtP f r (std.add c (std.len L)):=by
 have h1:=lt_of hl
 have h2:std.add c (std.len L)=c+(L.length:Int):=rfl
 exact⟨hf,by rw [inB_iff,hsz];omega⟩
theorem so_rp (h:b.Fit) (hs:SrOk m σ):0≤pkV σ b.size∧pkV σ b.size<b.size:=by
 have h1:=pk_bd hs (n:=b.size)
 exact⟨h1.1,h1.2.1 (by have:=h.lo;omega)⟩
theorem so_rq (h:b.Fit):0≤std.quo b.size 2∧std.quo b.size 2<b.size:=by
 have h1:=h.lo
 rw [quo_nn (by omega)];omega
theorem so_i (h:b.Fit) (hk:0≤c∧c≤b.size) (h2:0≤i∧i≤(L.length:Int)∧c+(L.length:Int)≤b.size):std.inK .i64 (std.add i 1):=in64 (by have:=h.hi;show _≤i+1∧i+1≤_;omega)
theorem so_l (h:b.Fit) (hk:0≤c∧c≤b.size) (h2:0≤i∧i≤(L.length:Int)∧c+(L.length:Int)≤b.size):std.ltM (std.add (std.len L) (std.len [x])):=by
 have:=h.hi
 show (L.length:Int)+1≤274877906944
 omega
theorem so_n:(std.snoc L [x]).length =L.length+1:=by show (L++[x]).length =_;rw [List.length_append];rfl
theorem so_m (h:b.Fit) (hk:0≤c∧c≤b.size) (hl:std.ltI (std.add c (std.len L)) b.size=true):(15-((std.snoc L [x]).length : Int)).toNat < (15-(L.length:Int)).toNat :=by
 have h1:c+(L.length:Int)<b.size:=lt_of hl
 have:=h.hi
 rw [so_n];omega
theorem so_j (h2:0≤i∧i≤(L.length:Int)∧c+(L.length:Int)≤b.size) (hl:std.ltI (std.add c (std.len L)) b.size=true):0≤std.add i 1∧std.add i 1≤((std.snoc L [x]).length : Int)∧c+((std.snoc L [x]).length : Int)≤b.size:=by
 have h1:c+(L.length:Int)<b.size:=lt_of hl
 have h3:std.add i 1=i+1:=rfl
 rw [so_n];omega
theorem so_j0 (h2:0≤i∧i≤(L.length:Int)∧c+(L.length:Int)≤b.size) (hl:std.ltI (std.add c (std.len L)) b.size=true):0≤i∧i≤((std.snoc L [x]).length : Int)∧c+((std.snoc L [x]).length : Int)≤b.size:=by
 have h1:c+(L.length:Int)<b.size:=lt_of hl
 rw [so_n];omega
theorem so_0 (hk:0≤c∧c≤b.size):(0:Int)≤0∧(0:Int)≤(([]:List Int).length : Int)∧c+(([]:List Int).length : Int)≤b.size:=⟨by decide,by decide,by show c+0≤_;omega⟩
theorem so_w (h:b.Fit) (hk:0≤c∧c≤b.size) (h2:0≤i∧i≤(L.length:Int)∧c+(L.length:Int)≤b.size):le15 (std.toS L):=by
 have:=h.hi
 show (toSl L).length ≤15
 unfold toSl
 rw [List.length_map];omega
theorem so_no (h:f.full r c=true) (k:std.eqI (atI f r c) 46=true):False:=by
 unfold Bd.full at h
 rw [Bool.and_eq_true] at h
 have h1:((f.at_ r c).toNat : Int)=46:=by simpa [atI] using k
 have h2:f.at_ r c=46:=by
  apply UInt8.toNat_inj.1
  have h3:(46:UInt8).toNat =46:=rfl
  omega
 rw [h2] at h
 exact absurd h.2 (by decide)
theorem so_u:std.ltM (std.lenS (std.toS [x])):=(by decide:((1:Nat):Int)≤274877906944)
theorem so_t {w:List UInt8} {m:Int} (hw:w.length≤15):std.ltM (std.lenS (std.toS (std.drL (std.tkL (std.toB w) m) i))):=by
 show ((toSl (List.drop i.toNat (List.take m.toNat (toBl w)))).length : Int)≤274877906944
 unfold toSl toBl
 rw [List.length_map,List.length_drop,List.length_take,List.length_map];omega
theorem so_tx {τ:Src} {l:List (List UInt8)} (h:l.all (fun w=>Nat.ble w.length 15)=true):(txV τ l).length ≤15:=by
 unfold txV
 rw [List.getD_eq_getElem?_getD]
 cases hk:l[(pkV τ (l.length:Nat)).toNat]? with
 | none=>exact Nat.zero_le _
 | some w=>exact Nat.le_of_ble_eq_true (List.all_eq_true.1 h w (List.mem_of_getElem? hk))
theorem so_x (h2:0≤i∧i≤(L.length:Int)∧c+(L.length:Int)≤b.size) {n:Int} (h:std.ltI i n=true):std.inL i n:=⟨h2.1,lt_of h⟩
end
def sp_s_l12Some (_:Pr):NSpec:=nsp (mS (a1 (aP aBd))) (fun (σ,b)=>SrOk 999999900000 σ∧b.Fit) (fun (σ,b)=>rS (aA aPl)) (fun (σ,b) (τ,q)=>far 100 σ τ∧le15 q.word)
theorem ok_s_l12Some:NOk Tryz.prog 110 (sp_s_l12Some std):=by
 refine NOk.goEK 9 [0,1,2,3] (c:=cxN std [(195,sp_s_l11Transpose std),(196,sp_s_l11Full std),(197,sp_s_l11At std),(198,sp_s_l03Small std)] [(96,sp_s_xl00Src_one std),(64,sp_s_xl00Src_pick std),(193,sp_textO std)] [] 1 (if false then some stdU else none) []) (cxN_ok (.cons ok_s_l11Transpose (.cons ok_s_l11Full (.cons ok_s_l11At (.cons ok_s_l03Small .nil)))) (.cons ok_s_xl00Src_one (.cons ok_s_xl00Src_pick (.cons ok_textO .nil))) .nil) mixed Tryz.func110 rfl rfl (by kernel_rfl) ?_
 rintro ⟨σ,b⟩ hp
 dsimp only at hp
 refine⟨rfl,?_⟩
 unfold sp_s_l11Transpose sp_s_l11Full sp_s_l11At sp_s_l03Small sp_s_xl00Src_one sp_s_xl00Src_pick sp_textO
 obtain⟨H,hH⟩ : ∃H:Hd (Int),H=⟨fun c=>0≤c∧c≤b.size,fun c=>c.toNat,(· < ·)⟩:=⟨_,rfl⟩
 have hl : ∀m n,H.lt m n→m<n:=by subst hH;exact fun _ _ h=>h
 obtain⟨H2,hH2⟩ : ∃H:(Int)→Hd (Int×List Int),H=fun c=>⟨fun (i,L)=>0≤i∧i≤L.length∧c+L.length≤b.size,fun (i,L)=>(15-L.length:Int).toNat,(· < ·)⟩:=⟨_,rfl⟩
 have hl2 : ∀x m n,(H2 x).lt m n→m<n:=by subst hH2;exact fun _ _ _ h=>h
 generalize hP:std=p,hB0:pkS=B0,hB1:pkV=B1,hB2:txV=B2,hB3:far=B3,hB4:turnI=B4,hB5:Bd.full=B5,hB6:atI=B6,hB7:le15=B7
 cbv
 repeat' first
  | (refine fun (_:Unit)=>?_;cbv)
  | (refine Or.inr ⟨43,[],[.s 8 (.i .i64)],[],[],H,rfl,hl,?_,fun (c:Int) hk=>?_⟩<;>cbv)
  | (refine Or.inr ⟨54,[],[.s 11 (.i .i64),.o 6 [.i .u8]],[.s 10],[],H2 c,rfl,hl2 _,?_,fun ((i,L):Int×List Int) hk2=>?_⟩<;>cbv)
  | (refine aI2 (fun h=>?_) (fun h=>?_)<;>cbv)
  | (refine aI2 ?_ ?_)
 all_goals subst hP hB0 hB1 hB2 hB3 hB4 hB5 hB6 hB7 hH hH2
 all_goals clear hl
 all_goals try dsimp only at hk
 all_goals clear hl2
 all_goals try dsimp only at hk2
 all_goals try dsimp only
 all_goals try exact fin
 all_goals (try simp only [eta_sr,eta_bd] at *)
 all_goals try with_reducible exact Int.NonNeg.mk _
 all_goals have hF:=hp.2
 all_goals have hT:(⟨b.size,turnI b.size b.prem,turnI b.size b.cells⟩:Bd).Fit :=hp.2.tr
 all_goals try with_reducible exact hT
 all_goals try ((with_reducible refine so_t ?_);refine so_tx ?_;rfl)
 all_goals first
  | exact hp.1.le (by decide)
  | exact (pk_ok hp.1 _).le (by decide)
  | exact (pk_ok (pk_ok hp.1 _) _).le (by decide)
  | exact (pk_ok (pk_ok (pk_ok hp.1 _) _) _).le (by decide)
  | exact (pk_ok (pk_ok (pk_ok (pk_ok hp.1 _) _) _) _).le (by decide)
  | with_reducible exact so_q hF
  | exact so_1 hF
  | with_reducible exact so_c hF (pk_ok (pk_ok (pk_ok hp.1 2) b.size) 2)
  | with_reducible exact so_k hF hk
  | with_reducible exact (so_f ‹_› hk).1
  | with_reducible exact (so_f ‹_› hk).2
  | with_reducible exact so_0 hk
  | with_reducible exact so_a hF hk hk2
  | with_reducible exact so_at hF rfl (so_rq hF) ‹_› hk
  | with_reducible exact so_at hT rfl (so_rq hF) ‹_› hk
  | with_reducible exact so_at hF rfl (so_rp hF (pk_ok hp.1 2)) ‹_› hk
  | with_reducible exact so_at hT rfl (so_rp hF (pk_ok hp.1 2)) ‹_› hk
  | with_reducible exact so_u
  | with_reducible exact so_i hF hk hk2
  | with_reducible exact so_l hF hk hk2
  | with_reducible exact so_m hF hk ‹_›
  | with_reducible exact so_j hk2 ‹_›
  | with_reducible exact so_j0 hk2 ‹_›
  | with_reducible exact so_w hF hk hk2
  | with_reducible exact (so_no ‹_› ‹_›).elim
  | with_reducible exact so_x hk2 ‹_›
  | exact (((((far_pk σ 2).pk _).pk _).pk _).pk _).le (by decide)
  | skip
end Ax
namespace Ax
set_option maxRecDepth 100000
set_option maxHeartbeats 20000000
def rPlF:NRes (Src×(Pl×Bool)):=⟨fun H l=>match l with
 | [.agg c,.b b]=>both' (srOf H) (both' (plOf c) (some b))
 | _=>none,fun a=>srH a.1,fun a=>.tup [.agg (plK a.2.1),.b a.2.2]⟩
def sp_l18FindP (_:Pr):NSpec:=nsp (mS (a1 (aP aGm))) (fun (σ,g)=>SrOk 999999990000 σ∧FdP g) (fun (σ,g)=>rPlF) (fun (σ,g) (τ,q,b)=>far 700 σ τ∧le12 q.word)
theorem ok_l18FindP:NOk Tryz.prog 111 (sp_l18FindP std):=by
 refine NOk.go (c:=cxN std [(199,sp_s_WordsFrom std),(173,sp_s_l11Letters std),(200,sp_s_l00Max std),(201,sp_s_l03Ways_c std),(122,sp_s_l12Legal std)] [(96,sp_s_xl00Src_one std),(64,sp_s_xl00Src_pick std)] [] 1 (if false then some stdU else none) []) (cxN_ok (.cons ok_s_WordsFrom (.cons ok_s_l11Letters (.cons ok_s_l00Max (.cons ok_s_l03Ways_c (.cons ok_s_l12Legal .nil))))) (.cons ok_s_xl00Src_one (.cons ok_s_xl00Src_pick .nil)) .nil) mixed Tryz.func111 rfl rfl (by kernel_rfl) ?_
 rintro ⟨σ,g⟩ hp
 dsimp only at hp
 refine⟨rfl,?_⟩
 unfold sp_s_WordsFrom sp_s_l11Letters sp_s_l00Max sp_s_l03Ways_c sp_s_l12Legal sp_s_xl00Src_one sp_s_xl00Src_pick
 unfold sp_s_l03Ways
 obtain⟨H,hH⟩ : ∃H:Hd (Int×Int×Int),H=⟨fun (k,a,z)=>0≤k∧k≤30∧far (20*k) σ ⟨σ.code,a,z⟩,fun (k,a,z)=>(30-k).toNat,(· < ·)⟩:=⟨_,rfl⟩
 have hl : ∀m n,H.lt m n→m<n:=by subst hH;exact fun _ _ h=>h
 generalize hP:std=p,hB0:pkS=B0,hB1:pkV=B1,hB2:fromW=B2,hB3:lettersS=B3,hB4:maxI=B4,hB5:waysL=B5,hB6:legalC=B6,hB7:far=B7,hB8:ltL=B8,hB9:le12=B9
 cbv
 repeat' first
  | (refine fun (_:Unit)=>?_;cbv)
  | (refine Or.inr ⟨26,[],[.s 7 (.i .i64),.c 0 1 (.i .i64),.c 0 2 (.i .u64)],[],[],H,rfl,hl,?_,fun ((k,a,z):Int×Int×Int) hk=>?_⟩<;>cbv)
  | (refine aI2 (fun h=>?_) (fun h=>?_)<;>cbv)
  | (refine aI2 ?_ ?_)
 all_goals subst hP hB0 hB1 hB2 hB3 hB4 hB5 hB6 hB7 hB8 hB9 hH
 all_goals clear hl
 all_goals try dsimp only at hk
 all_goals try dsimp only
 all_goals try exact fin
 all_goals (try simp only [eta_sr,eta_bd,eta_pl,eta_ts,eta_la] at *)
 ·exact hp.2.pl
 ·exact⟨Int.le_refl 0,by decide,(far_0 σ).le (by decide)⟩
 all_goals obtain⟨k0,k1,hf⟩:=hk
 all_goals have hs:SrOk 999999990600 ⟨σ.code,a,z⟩:=(hf.s _ hp.1).le (by omega)
 all_goals have hcd:(Src.mk σ.code a z).code =σ.code:=rfl
 all_goals generalize Src.mk σ.code a z=υ at *
 all_goals try (have hlt:k<30:=lt_of ‹_›)
 all_goals try (have hn:1≤((fromW g.lex (rkG g)).length : Int):=len_f ‹_›)
 all_goals have x3:=pk_ok (pk_ok (pk_ok hs 2) g.bd.size) g.bd.size
 all_goals have x4:=pk_ok (pk_ok (pk_ok (pk_ok hs 2) g.bd.size) g.bd.size) 3
 all_goals try (have w3:=hp.2.wd (pk_bd x3).1 ((pk_bd x3).2.1 hn))
 all_goals try (have w4:=hp.2.wd (pk_bd x4).1 ((pk_bd x4).2.1 hn))
 ·exact hs.le (by decide)
 ·exact hp.2.df
 ·exact (pk_ok hs _).le (by decide)
 ·exact (pk_ok (pk_ok hs _) _).le (by decide)
 ·exact hp.2.bd
 ·exact qz hp.2.sz
 ·exact (pk_ok (pk_ok (pk_ok hs _) _) _).le (by decide)
 ·exact qz2 hp.2.sz x3
 ·exact ((((hf.pk _).pk _).pk _).pk _).le (by omega)
 ·exact Nat.zero_le _
 ·exact (pk_ok (pk_ok (pk_ok (pk_ok hs _) _) _) _).le (by decide)
 ·exact pk_inL x4 hn
 ·exact pk_inL x4 hn
 ·exact Nat.lt_succ_of_le w4.l
 ·exact w4.y
 ·exact (pk_ok (pk_ok (pk_ok (pk_ok (pk_ok hs _) _) _) _) _).le (by decide)
 ·exact pk_inL (pk_ok x4 _) (len_1 w4.s)
 ·exact pk_inL (pk_ok x4 _) (len_1 w4.s)
 ·exact le_of hp.2 (w4.w _)
 ·exact (pk_ok (pk_ok (pk_ok (pk_ok (pk_ok (pk_ok hs _) _) _) _) _) _).le (by decide)
 ·exact (((((((hf.pk _).pk _).pk _).pk _).pk _).pk _).pk _).le (by omega)
 ·exact w4.w _
 ·exact congrArg (PV.rsl [.i .u8]) (by simp only [pk_code,hcd])
 ·exact inv_of k0 hlt ((((((((hf.pk _).pk _).pk _).pk _).pk _).pk _).nr).le (by omega)) ((pk_code _ _).trans ((pk_code _ _).trans ((pk_code _ _).trans ((pk_code _ _).trans ((pk_code _ _).trans ((pk_code _ _).trans hcd))))))
 ·exact congrArg (PV.rsl [.i .u8]) (by simp only [pk_code,hcd])
 ·exact inv_of k0 hlt (X:=_) (((((((hf.pk _).pk _).pk _).pk _).pk _).pk _).le (by omega)) (by simp only [pk_code,hcd])
 ·exact congrArg (PV.rsl [.i .u8]) (by simp only [pk_code,hcd])
 ·exact inv_of k0 hlt (X:=_) (((((((hf.pk _).pk _).pk _).pk _).pk _).pk _).le (by omega)) (by simp only [pk_code,hcd])
 ·exact ((((((hf.pk _).pk _).pk _).pk _).pk _).pk _).le (by omega)
 ·exact w4.w _
 ·exact le_of hp.2 (w4.w _)
 ·exact (pk_ok (pk_ok (pk_ok (pk_ok (pk_ok (pk_ok hs _) _) _) _) _) _).le (by decide)
 ·exact (((((((hf.pk _).pk _).pk _).pk _).pk _).pk _).pk _).le (by omega)
 ·exact w4.w _
 ·exact congrArg (PV.rsl [.i .u8]) (by simp only [pk_code,hcd])
 ·exact inv_of k0 hlt ((((((((hf.pk _).pk _).pk _).pk _).pk _).pk _).nr).le (by omega)) ((pk_code _ _).trans ((pk_code _ _).trans ((pk_code _ _).trans ((pk_code _ _).trans ((pk_code _ _).trans ((pk_code _ _).trans hcd))))))
 ·exact congrArg (PV.rsl [.i .u8]) (by simp only [pk_code,hcd])
 ·exact inv_of k0 hlt (X:=_) (((((((hf.pk _).pk _).pk _).pk _).pk _).pk _).le (by omega)) (by simp only [pk_code,hcd])
 ·exact congrArg (PV.rsl [.i .u8]) (by simp only [pk_code,hcd])
 ·exact inv_of k0 hlt (X:=_) (((((((hf.pk _).pk _).pk _).pk _).pk _).pk _).le (by omega)) (by simp only [pk_code,hcd])
 ·exact ((((((hf.pk _).pk _).pk _).pk _).pk _).pk _).le (by omega)
 ·exact w4.w _
 ·exact (((hf.pk _).pk _).pk _).le (by omega)
 ·exact Nat.zero_le _
 ·exact (pk_ok (pk_ok (pk_ok hs _) _) _).le (by decide)
 ·exact pk_inL x3 hn
 ·exact pk_inL x3 hn
 ·exact Nat.lt_succ_of_le w3.l
 ·exact w3.y
 ·exact (pk_ok (pk_ok (pk_ok (pk_ok hs _) _) _) _).le (by decide)
 ·exact pk_inL (pk_ok x3 _) (len_1 w3.s)
 ·exact pk_inL (pk_ok x3 _) (len_1 w3.s)
 ·exact le_of hp.2 (w3.w _)
 ·exact (pk_ok (pk_ok (pk_ok (pk_ok (pk_ok hs _) _) _) _) _).le (by decide)
 ·exact ((((((hf.pk _).pk _).pk _).pk _).pk _).pk _).le (by omega)
 ·exact w3.w _
 ·exact congrArg (PV.rsl [.i .u8]) (by simp only [pk_code,hcd])
 ·exact inv_of k0 hlt (((((((hf.pk _).pk _).pk _).pk _).pk _).nr).le (by omega)) ((pk_code _ _).trans ((pk_code _ _).trans ((pk_code _ _).trans ((pk_code _ _).trans ((pk_code _ _).trans hcd)))))
 ·exact congrArg (PV.rsl [.i .u8]) (by simp only [pk_code,hcd])
 ·exact inv_of k0 hlt (X:=_) ((((((hf.pk _).pk _).pk _).pk _).pk _).le (by omega)) (by simp only [pk_code,hcd])
 ·exact congrArg (PV.rsl [.i .u8]) (by simp only [pk_code,hcd])
 ·exact inv_of k0 hlt (X:=_) ((((((hf.pk _).pk _).pk _).pk _).pk _).le (by omega)) (by simp only [pk_code,hcd])
 ·exact (((((hf.pk _).pk _).pk _).pk _).pk _).le (by omega)
 ·exact w3.w _
 ·exact le_of hp.2 (w3.w _)
 ·exact (pk_ok (pk_ok (pk_ok (pk_ok (pk_ok hs _) _) _) _) _).le (by decide)
 ·exact ((((((hf.pk _).pk _).pk _).pk _).pk _).pk _).le (by omega)
 ·exact w3.w _
 ·exact congrArg (PV.rsl [.i .u8]) (by simp only [pk_code,hcd])
 ·exact inv_of k0 hlt (((((((hf.pk _).pk _).pk _).pk _).pk _).nr).le (by omega)) ((pk_code _ _).trans ((pk_code _ _).trans ((pk_code _ _).trans ((pk_code _ _).trans ((pk_code _ _).trans hcd)))))
 ·exact congrArg (PV.rsl [.i .u8]) (by simp only [pk_code,hcd])
 ·exact inv_of k0 hlt (X:=_) ((((((hf.pk _).pk _).pk _).pk _).pk _).le (by omega)) (by simp only [pk_code,hcd])
 ·exact congrArg (PV.rsl [.i .u8]) (by simp only [pk_code,hcd])
 ·exact inv_of k0 hlt (X:=_) ((((((hf.pk _).pk _).pk _).pk _).pk _).le (by omega)) (by simp only [pk_code,hcd])
 ·exact (((((hf.pk _).pk _).pk _).pk _).pk _).le (by omega)
 ·exact w3.w _
 ·exact hf.le (by omega)
 ·exact Nat.zero_le _
end Ax
namespace Ax
set_option maxRecDepth 100000
set_option maxHeartbeats 20000000
def rPt:NRes (Gm×(Pl×Int)):=⟨fun _ l=>match l with
 | [.agg c,.agg d,.i .i64 n]=>both' (gmOf c) (both' (plOf d) (some n))
 | _=>none,fun _=>[],fun a=>.tup [.agg (gmR a.1),.agg (plK a.2.1),.i .i64 a.2.2]⟩
theorem eta_gmq (g:Gm):Gm.mk g.ts g.lex g.bd0 g.secs g.rule g.bd g.bag g.racks g.scores g.clocks g.player g.zeros g.last g.over=g:=rfl
theorem be_full {g:Gm} (h:BeB g) (hv:gameB g=true):FullR g:=h.f.resolve_right fun e=>by rw [hv] at e;cases e
theorem be_fd {g:Gm} (h:BeB g) (hv:gameB g=true):FdP g:=DrG.fd ⟨hv,be_full h hv,h.b,h.lx⟩
def sp_s_DrawPlayTurn (_:Pr):NSpec:=nsp (mN (a1 aY)) (fun code=>CdP code) (fun code=>rPt) (fun code (x,q,n)=>BeB x∧le15 q.word)
theorem ok_s_DrawPlayTurn:NOk Tryz.prog 39 (sp_s_DrawPlayTurn std):=by
 refine NOk.goEK 3 [0,1,2] (c:=cxN std [(61,sp_s_l00From std),(88,sp_s_l18Ok std)] [(96,sp_s_xl00Src_one std),(93,sp_s_l18Seconds std)] [(87,sp_s_l18Bent std),(110,sp_s_l12Some std),(111,sp_l18FindP std)] 0 (if false then some stdU else none) []) (cxN_ok (.cons ok_s_l00From (.cons ok_s_l18Ok .nil)) (.cons ok_s_xl00Src_one (.cons ok_s_l18Seconds .nil)) (.cons ok_s_l18Bent (.cons ok_s_l12Some (.cons ok_l18FindP .nil)))) mixed Tryz.func39 rfl rfl (by kernel_rfl) ?_
 rintro code hp
 refine⟨rfl,?_⟩
 unfold sp_s_l00From sp_s_l18Ok sp_s_l18Bent sp_s_l12Some sp_l18FindP sp_s_xl00Src_one sp_s_l18Seconds
 generalize hP:std=p,hB0:far=B0,hB1:pkV=B1,hB2:pkS=B2,hB3:gameB=B3,hB4:le15=B4,hB5:secV=B5,hB6:secS=B6
 cbv
 repeat' first
  | (refine fun (_:Unit)=>?_;cbv)
  | (refine fun (y:Nd _) hy=>?_;cbv)
  | (refine aI2 (fun h=>?_) (fun h=>?_)<;>cbv)
  | (refine aI2 ?_ ?_)
  | (refine Or.inl (fun (_:Unit)=>?_);cbv)
 all_goals subst hP hB0 hB1 hB2 hB3 hB4 hB5 hB6
 all_goals try exact fin
 all_goals try exact fun _=>rfl
 ·exact hp.s (by decide)
 all_goals try (rename Nd (Src×(Pl×Bool))=>yc;rcases yc with ⟨⟨σ3,⟨q3,b3⟩⟩⟩)
 all_goals try (rename Nd (Src×Pl)=>yb;rcases yb with ⟨⟨σ2,q2⟩⟩)
 all_goals try (rename Nd (Src×Gm)=>ya;rcases ya with ⟨⟨σ1,g1⟩⟩)
 all_goals try dsimp only at *
 all_goals (try simp only [eta_sr,eta_ts,eta_bd,eta_la,eta_pl,eta_gmq] at *)
 all_goals rename far 9100 _ _∧BeB _=>h1
 all_goals have s1:=h1.1.s _ (hp.s (Int.le_refl 0))
 all_goals try exact s1.le (by decide)
 all_goals try exact h1.2.ft
 all_goals try exact h1.2
 all_goals try exact h1.2.gl
 all_goals try exact be_fd h1.2 ‹_›
 all_goals try (rename far 700 _ _∧le12 _=>h3;rename far 100 _ _∧le15 _=>h2;have s3:=h3.1.s _ (pk_ok (h2.1.s _ s1) 6);first | exact s3.le (by decide) | exact (show _≤15 from Nat.le_trans h3.2 (by decide)) | exact h2.2)
 all_goals try (rename far 100 _ _∧le15 _=>h2;have s2:=h2.1.s _ s1;first | exact h2.2 | exact s2.le (by decide) | exact (pk_ok s2 6).le (by decide))
 all_goals skip
end Ax
namespace Ax
set_option maxRecDepth 100000
set_option maxHeartbeats 20000000
end Ax
end Go.Proofs.YtjjonmhpgkahoaaGreatDoor
