/-
  A turn with a play that fails, of the impl package.
  Conditions: none.
-/
import Derived.Test.YtghmphmbpdiflaaGreatDoorE36
set_option linter.unusedSimpArgs false
set_option linter.unusedVariables false
namespace Go.Proofs.YtghmphmbpdiflaaGreatDoor
namespace Ax
set_option maxRecDepth 100000
set_option maxHeartbeats 20000000
section
variable {g:Gm} {q:Pl} {n:Int}
theorem tn1 (h:std.eqI (actC g n) 0=false):actC g n=turnC g q n:=by
 have h1:=eqI_f h
 unfold turnC
 rw [if_neg h1]
theorem tn2 (h:std.eqI (actC g n) 0=true) (h2:waitsB g=true):6=turnC g q n:=by
 have h1:=eqI_t h
 unfold turnC
 rw [if_pos h1,if_pos h2]
theorem tn3 (h:std.eqI (actC g n) 0=true) (h2:waitsB g=false) (h3:std.eqI (codeI g.bd g.lex (g.rk g.player) q) 0=false) (h4:std.eqI (codeI g.bd g.lex (g.rk g.player) q) 9=false∨std.eqI g.rule 0=true):codeI g.bd g.lex (g.rk g.player) q=turnC g q n:=by
 have h1:=eqI_t h
 have h3:=eqI_f h3
 unfold turnC
 rw [if_pos h1,if_neg (by rw [h2];simp),if_pos ⟨h3,h4.imp eqI_f eqI_t⟩]
theorem tn45 (h:std.eqI (actC g n) 0=true) (h2:waitsB g=false) (h3:std.eqI (codeI g.bd g.lex (g.rk g.player) q) 0=true∨(std.eqI (codeI g.bd g.lex (g.rk g.player) q) 9=true∧std.eqI g.rule 0=false)):turnC g q n=if 20000<scoreI g.ts g.bd q∨50000<g.sc g.player+scoreI g.ts g.bd q then 5 else 0:=by
 have h1:=eqI_t h
 unfold turnC
 rw [if_pos h1,if_neg (by rw [h2];simp),if_neg ?_]
 rintro ⟨a,b⟩
 rcases h3 with h3 | ⟨h3,h4⟩
 ·exact a (eqI_t h3)
 ·rcases b with b | b
  ·exact b (eqI_t h3)
  ·exact eqI_f h4 b
theorem tn4 (h:std.eqI (actC g n) 0=true) (h2:waitsB g=false) (h3:std.eqI (codeI g.bd g.lex (g.rk g.player) q) 0=true∨(std.eqI (codeI g.bd g.lex (g.rk g.player) q) 9=true∧std.eqI g.rule 0=false)) (h5:std.ltI 20000 (scoreI g.ts g.bd q)=true∨std.ltI 50000 (g.sc g.player+scoreI g.ts g.bd q)=true):5=turnC g q n:=by
 rw [tn45 h h2 h3,if_pos (h5.imp lt_of lt_of)]
theorem tn5 (hc:turnC g q n≠0) (h:std.eqI (actC g n) 0=true) (h2:waitsB g=false) (h3:std.eqI (codeI g.bd g.lex (g.rk g.player) q) 0=true∨(std.eqI (codeI g.bd g.lex (g.rk g.player) q) 9=true∧std.eqI g.rule 0=false)) (h5:std.ltI 20000 (scoreI g.ts g.bd q)=false) (h6:std.ltI 50000 (g.sc g.player+scoreI g.ts g.bd q)=false):False:=by
 apply hc
 have a:=ge_of h5
 have b:=ge_of h6
 rw [tn45 h h2 h3,if_neg (by omega)]
end
def sp_i_PlayTurn_n (p:Pr):FSpec:=fsp (ac (aA aGm) (ac (aA aPl) (a1 aI))) (fun (g,q,n)=>PtN g q n) (fun (g,q,n)=>.tup [.agg (gmK gm0 .esl .esl .esl .esl .esl .esl),.i .i64 0,.i .i64 (turnC g q n)])
theorem ok_i_PlayTurn_n:FOk Tryz.prog 270 (sp_i_PlayTurn_n std):=by
 refine FOk.go (c:=cx std [(88,sp_i_actionCode std),(91,sp_i_Game_waits std),(305,sp_i_legal std),(216,sp_i_scorePlay std),(165,sp_i_copyGame std),(306,sp_i_placedTiles std),(169,sp_i_without std),(307,sp_i_toDraw std),(214,sp_i_made std),(308,sp_i_FillRack std)] [(166,sp_i_xGame_begin std),(90,sp_i_xGame_settle std)] 0) (cx_ok (.cons ok_i_actionCode (.cons ok_i_Game_waits (.cons ok_i_legal (.cons ok_i_scorePlay (.cons ok_i_copyGame (.cons ok_i_placedTiles (.cons ok_i_without (.cons ok_i_toDraw (.cons ok_i_made (.cons ok_i_FillRack .nil)))))))))) (.cons ok_i_xGame_begin (.cons ok_i_xGame_settle .nil))) mixed Tryz.func270 rfl rfl rfl (by kernel_rfl) ?_
 rintro ⟨g,q,n⟩ hp
 dsimp only at hp
 refine⟨rfl,?_⟩
 unfold sp_i_actionCode sp_i_Game_waits sp_i_legal sp_i_scorePlay sp_i_copyGame sp_i_xGame_begin sp_i_placedTiles sp_i_without sp_i_toDraw sp_i_made sp_i_FillRack sp_i_xGame_settle
 generalize hP:std=p,hB0:actC=B0,hB1:waitsB=B1,hB2:codeI=B2,hB3:scoreI=B3,hB4:madeB=B4,hB5:withoutS=B5,hB6:withoutB=B6,hB7:tilesP=B7,hB8:placedI=B8,hB9:tdI=B9,hB10:frR=B10,hB11:frB=B11,hB12:frC=B12,hB13:setS=B13,hB14:ovB=B14,hB15:turnC=B15
 cbv
 repeat' first
  | (refine fun (_:Unit)=>?_;cbv)
  | (refine aI2 (fun h=>?_) (fun h=>?_)<;>cbv)
  | (refine aI2 ?_ ?_)
  | (refine Or.inl (fun (_:Unit)=>?_);cbv)
 all_goals subst hP hB0 hB1 hB2 hB3 hB4 hB5 hB6 hB7 hB8 hB9 hB10 hB11 hB12 hB13 hB14 hB15
 all_goals try exact fin
 all_goals try (exfalso;exact tn5 hp.c ‹_› ‹_› (Or.inl ‹_›) ‹_› ‹_›)
 all_goals try (exfalso;exact tn5 hp.c ‹_› ‹_› (Or.inr ⟨‹_›,‹_›⟩) ‹_› ‹_›)
 all_goals try (have hG:=pyg (show std.eqI (actC g n) 0=true by assumption);have hpl:=in_bd hG.fa.ply;have hr2:=hG.fa.r;have hs2:=hG.fa.s;have hk2:=hG.fa.k;have hck:=hG.ok.clk g.player;have hsc:=hG.ok.sc g.player;have hn:=hG.n;have hts:=tsB_ok hG.ok.ts;have hbl:=bag_len hG.ok.bag)
 all_goals try (have hC:=pyc (q:=q) hG (Or.inl ‹_›);have hsb:=sco_bd hts hC.vp;have htd:=td_bd (a:=g.bag) hC.rk;have hrl:=rack_len hC.rk)
 all_goals try (have hC:=pyc (q:=q) hG (Or.inr ‹_›);have hsb:=sco_bd hts hC.vp;have htd:=td_bd (a:=g.bag) hC.rk;have hrl:=rack_len hC.rk)
 all_goals first
  | exact hp.b.gm
  | exact tn1 ‹_›
  | exact tn2 ‹_› ‹_›
  | exact tn3 ‹_› ‹_› ‹_› (Or.inl ‹_›)
  | exact tn3 ‹_› ‹_› ‹_› (Or.inr ‹_›)
  | exact tn4 ‹_› ‹_› (Or.inl ‹_›) (Or.inl ‹_›)
  | exact tn4 ‹_› ‹_› (Or.inl ‹_›) (Or.inr ‹_›)
  | exact tn4 ‹_› ‹_› (Or.inr ⟨‹_›,‹_›⟩) (Or.inl ‹_›)
  | exact tn4 ‹_› ‹_› (Or.inr ⟨‹_›,‹_›⟩) (Or.inr ‹_›)
  | exact⟨hr2,hG.fa.ply⟩
  | exact⟨hpl.1,by show g.player<(g.racks.length:Int);omega⟩
  | exact⟨hpl.1,by show g.player<(g.scores.length:Int);omega⟩
  | exact⟨hpl.1,by show g.player<(g.clocks.length:Int);omega⟩
  | exact⟨hG.ok.bd,lex_lxp hG.ok.lex,rack_stp (hG.ok.rk _),hp.b.wl⟩
  | exact⟨hts,hC.vp⟩
  | exact in64 (by show _≤g.sc g.player+scoreI g.ts g.bd q∧g.sc g.player+scoreI g.ts g.bd q≤_;omega)
  | skip
end Ax
end Go.Proofs.YtghmphmbpdiflaaGreatDoor
