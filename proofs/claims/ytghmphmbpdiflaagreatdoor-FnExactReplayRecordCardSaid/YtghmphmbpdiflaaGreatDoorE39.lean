/-
  A turn with a play, of the impl package.
  Conditions: none.
-/
import Derived.Test.YtghmphmbpdiflaaGreatDoorE36
set_option linter.unusedSimpArgs false
set_option linter.unusedVariables false
namespace Go.Proofs.YtghmphmbpdiflaaGreatDoor
namespace Ax
set_option maxRecDepth 100000
set_option maxHeartbeats 2000000
def sp_i_PlayTurn_y (p:Pr):FSpec:=fsp (ac (aA aGm) (ac (aA aPl) (a1 aI))) (fun (g,q,n)=>PtY g q n) (fun (g,q,n)=>.tup [.agg (gmK ⟨g.ts,g.lex,g.bd0,g.secs,g.rule,⟨(pCel g q).size,(pCel g q).prem,(pCel g q).cells⟩,pBag g q,pRks g q,pSs g q n,pClk g n,pPl g,0,⟨1,g.player,q,g.bd.cells,pDrw g q,pScore g q,g.zeros⟩,pOv g q⟩ (.osl 0) (.osl 1) (.osl 2) (.osl 3) (.osl 4) (.osl 5)),.i .i64 (pScore g q),.i .i64 0]) (fun (g,q,n)=>[(0,.own [.i .i64] g.ts.values 2),(1,.own [.i .i64] g.ts.counts 2),(2,.own [.s] g.lex 9),(3,.own [.s] (pRks g q) 9),(4,.own [.i .i64] (pSs g q n) 2),(5,.own [.i .i64] (pClk g n) 2)])
theorem ok_i_PlayTurn_y:FOk Tryz.prog 270 (sp_i_PlayTurn_y std):=by
 refine FOk.go (c:=cx std [(88,sp_i_actionCode std),(91,sp_i_Game_waits std),(305,sp_i_legal std),(216,sp_i_scorePlay std),(165,sp_i_copyGame std),(306,sp_i_placedTiles std),(169,sp_i_without std),(307,sp_i_toDraw std),(214,sp_i_made std),(308,sp_i_FillRack std)] [(166,sp_i_xGame_begin std),(90,sp_i_xGame_settle std)] 0) (cx_ok (.cons ok_i_actionCode (.cons ok_i_Game_waits (.cons ok_i_legal (.cons ok_i_scorePlay (.cons ok_i_copyGame (.cons ok_i_placedTiles (.cons ok_i_without (.cons ok_i_toDraw (.cons ok_i_made (.cons ok_i_FillRack .nil)))))))))) (.cons ok_i_xGame_begin (.cons ok_i_xGame_settle .nil))) mixed Tryz.func270 rfl rfl rfl (by kernel_rfl) ?_
 rintro ⟨g,q,n⟩ hp
 dsimp only at hp
 refine⟨rfl,?_⟩
 unfold sp_i_actionCode sp_i_Game_waits sp_i_legal sp_i_scorePlay sp_i_copyGame sp_i_xGame_begin sp_i_placedTiles sp_i_without sp_i_toDraw sp_i_made sp_i_FillRack sp_i_xGame_settle
 generalize hP:std=p,hB0:actC=B0,hB1:waitsB=B1,hB2:codeI=B2,hB3:scoreI=B3,hB4:madeB=B4,hB5:withoutS=B5,hB6:withoutB=B6,hB7:tilesP=B7,hB8:placedI=B8,hB9:tdI=B9,hB10:frR=B10,hB11:frB=B11,hB12:frC=B12,hB13:setS=B13,hB14:ovB=B14,hB15:pScore=B15,hB16:pRks=B16,hB17:pSs=B17,hB18:pClk=B18,hB19:pBag=B19,hB20:pDrw=B20,hB21:pCel=B21,hB22:pOv=B22,hB23:pPl=B23
 cbv
 repeat' first
  | (refine fun (_:Unit)=>?_;cbv)
  | (refine aI2 (fun h=>?_) (fun h=>?_)<;>cbv)
  | (refine aI2 ?_ ?_)
  | (refine Or.inl (fun (_:Unit)=>?_);cbv)
 all_goals subst hP hB0 hB1 hB2 hB3 hB4 hB5 hB6 hB7 hB8 hB9 hB10 hB11 hB12 hB13 hB14 hB15 hB16 hB17 hB18 hB19 hB20 hB21 hB22 hB23
 all_goals try exact fin
 all_goals try (exfalso;exact pe1 hp.c ‹_›)
 all_goals try (exfalso;exact pe2 hp.c ‹_› ‹_›)
 all_goals try (exfalso;exact pe3 hp.c ‹_› ‹_› ‹_› (Or.inl ‹_›))
 all_goals try (exfalso;exact pe3 hp.c ‹_› ‹_› ‹_› (Or.inr ‹_›))
 all_goals try (exfalso;exact pe4 hp.c ‹_› ‹_› (Or.inl ‹_›))
 all_goals try (exfalso;exact pe4 hp.c ‹_› ‹_› (Or.inr ‹_›))
 all_goals try (have hG:=pyg (show std.eqI (actC g n) 0=true by assumption);have hpl:=in_bd hG.fa.ply;have hr2:=hG.fa.r;have hs2:=hG.fa.s;have hk2:=hG.fa.k;have hck:=hG.ok.clk g.player;have hsc:=hG.ok.sc g.player;have hn:=hG.n;have hts:=tsB_ok hG.ok.ts;have hbl:=bag_len hG.ok.bag)
 all_goals try (have hC:=pyc (q:=q) hG (Or.inl ‹_›);have hsb:=sco_bd hts hC.vp;have htd:=td_bd (a:=g.bag) hC.rk;have hrl:=rack_len hC.rk)
 all_goals try (have hC:=pyc (q:=q) hG (Or.inr ‹_›);have hsb:=sco_bd hts hC.vp;have htd:=td_bd (a:=g.bag) hC.rk;have hrl:=rack_len hC.rk)
 all_goals first
  | exact hp.b.gm
  | exact⟨hr2,hG.fa.ply⟩
  | exact⟨hpl.1,by show g.player<(g.racks.length:Int);omega⟩
  | exact⟨hpl.1,by show g.player<(g.scores.length:Int);omega⟩
  | exact⟨hpl.1,by show g.player<(g.clocks.length:Int);omega⟩
  | exact⟨hG.ok.bd,lex_lxp hG.ok.lex,rack_stp (hG.ok.rk _),hp.b.wl⟩
  | exact⟨hts,hC.vp⟩
  | exact hC.vp
  | exact rack_stp (hG.ok.rk _)
  | exact tp_stp hC.vp
  | exact⟨⟨⟨hp.b.cp.v,hp.b.cp.c⟩,hp.b.cp.l⟩,hp.b.cp.r,hp.b.cp.s,hp.b.cp.k⟩
  | exact in64 (by show _≤g.clk g.player-n∧g.clk g.player-n≤_;omega)
  | exact in64 (by show _≤1-g.player∧1-g.player≤_;omega)
  | exact in64 (by show _≤g.sc g.player+scoreI g.ts g.bd q∧g.sc g.player+scoreI g.ts g.bd q≤_;omega)
  | exact⟨by omega,by show (restT g q).length ≤_;omega⟩
  | exact (⟨by show g.bag.length≤_;omega,by show (restT g q).length ≤_;omega⟩:TdP g.bag (restT g q))
  | exact⟨hpl.1,by show g.player<((g.racks.set g.player.toNat (pRack g q)).length : Int);rw [List.length_set];omega⟩
  | exact set_q (g:=g) (q:=q) (n:=n) hp.c _
  | exact congrArg (fun L=>Ob.own [.i .i64] L 2) (ss_no (g:=g) (q:=q) (n:=n) ‹_›)
  | exact congrArg (fun L=>Ob.own [.i .i64] L 2) (ss_yes (g:=g) (q:=q) (n:=n) hG ‹_›)
  | exact ov_no (g:=g) (q:=q) (n:=n) ‹_›
  | exact ov_yes (g:=g) (q:=q) (n:=n) hG ‹_›
  | exact htd.1
  | exact htd.2.1
  | skip
end Ax
end Go.Proofs.YtghmphmbpdiflaaGreatDoor
