/-
  Challenges of the impl package: verdicts, plays taken back, plays that stand.
  Conditions: none.
-/
import Derived.Test.YtghmphmbpdiflaaGreatDoorE19
import Derived.Test.YtghmphmbpdiflaaGreatDoorE36
set_option linter.unusedSimpArgs false
set_option linter.unusedVariables false
namespace Go.Proofs.YtghmphmbpdiflaaGreatDoor
namespace Ax
set_option maxRecDepth 100000
set_option maxHeartbeats 4000000
def iWords (g:Gm):List (List UInt8):=wordsI g.bef g.last.play
def iWrong (g:Gm):List (List UInt8):=wrongS g.lex (wordsI g.bef g.last.play)
def iUp (g:Gm):Bool:=!(iWrong g).isEmpty
def iPts (g:Gm):Int:=if iUp g then 0-g.last.score else if g.rule=3 then 5*((iWords g).length : Int) else 0
def iRest (g:Gm):List UInt8:=withoutS (g.rk g.last.player) g.last.drawn
def iTil (g:Gm):List UInt8:=tilesP (placedI g.bef g.last.play)
def iRks (g:Gm):List (List UInt8):=g.racks.set g.last.player.toNat (pileL (countsL (iRest g++iTil g)))
def iw1 (g:Gm):Gm:=⟨g.ts,g.lex,g.bd0,g.secs,g.rule,⟨g.bd.size,g.bd.prem,g.last.before⟩,wBag g,iRks g,wSc g,g.clocks,g.player,g.last.zeros+1,idleL 3 g.last.player,g.over⟩
def iSs (g:Gm):List Int:=setS (iw1 g) (g.last.zeros+1==6)
def iOv (g:Gm):Bool:=ovB (iw1 g) (g.last.zeros+1==6)
def iRf (g:Gm) (k:Int):Gm:={ rf1 g k with scores:=setS (rf1 g k) (waitsB g),over:=ovB (rf1 g k) (waitsB g) }
structure VeP (g:Gm):Prop where
 vp:VP g.bef g.last.play
 lx:LxP g.lex
 sc : -1000000≤g.last.score∧g.last.score≤1000000
 ok:Go.Proofs.YtghmphmbpdiflaaGreatDoor.okB g.bef g.last.play=true
structure WiP (g:Gm):Prop where
 vp:VP g.bef g.last.play
 r2:g.racks.length=2
 s2:g.scores.length=2
 p:0≤g.last.player∧g.last.player≤1
 st:StP (g.rk g.last.player)
 sd:StP g.last.drawn
 rl:(iRest g).length ≤7
 sp:StP (iRest g++iTil g)
 dr:g.last.drawn.length≤120
 bag:g.bag.length≤120
 sc : -1000000≤g.sc g.last.player∧g.sc g.last.player≤1000000
 so : -1000000≤g.last.score∧g.last.score≤1000000
 z:0≤g.last.zeros∧g.last.zeros≤5
 set:SetQ (iw1 g) (g.last.zeros+1==6)
structure RfP (g:Gm) (k:Int):Prop where
 r2:g.racks.length=2
 s2:g.scores.length=2
 ply:inR g.player 0 1=true
 p:0≤g.last.player∧g.last.player≤1
 sc : -1000000≤g.sc g.last.player∧g.sc g.last.player≤1000000
 kb : -1000000≤k∧k≤1000000
 z:0≤g.zeros∧g.zeros≤100
 set : ∀(p z:Int) (l:La),SetQ ⟨g.ts,g.lex,g.bd0,g.secs,g.rule,g.bd,g.bag,g.racks,rSc g k,g.clocks,p,z,l,g.over⟩ (waitsB g)
section
variable {g:Gm} {k:Int}
theorem i_up:std.ltI 0 (std.len (iWrong g))=iUp g:=by
 unfold iUp
 show decide ((0:Int)<((iWrong g).length : Int))=_
 cases iWrong g with
 | nil=>rfl
 | cons x r=>simp
theorem i_yes (h:std.ltI 0 (std.len (iWrong g))=true):0-g.last.score=iPts g:=by
 rw [i_up] at h
 rw [iPts,if_pos h]
theorem i_five (h:std.ltI 0 (std.len (iWrong g))=false) (h2:std.eqI g.rule 3=true):5*((iWords g).length : Int)=iPts g:=by
 rw [i_up] at h
 rw [iPts,h,if_neg (by simp),if_pos (beq_iff_eq.1 h2)]
theorem i_no (h:std.ltI 0 (std.len (iWrong g))=false) (h2:std.eqI g.rule 3=false):0=iPts g:=by
 rw [i_up] at h
 rw [iPts,h,if_neg (by simp),if_neg (beq_eq_false_iff_ne.1 h2)]
theorem i_words (h:VP g.bef g.last.play) (ho:Go.Proofs.YtghmphmbpdiflaaGreatDoor.okB g.bef g.last.play=true):(wordsI g.bef g.last.play).length ≤13:=by
 have h1:OnR (flatB g.bef g.last.play) (flatP g.last.play):=(okB_on ho).on
 rw [←words_same h.bd h.on h.lett]
 have h2:=words_n g.bef g.last.play
 rw [flatP_word] at h2
 have:=h.hi
 omega
def rfJ (g:Gm) (k p z:Int) (l:La):Gm:=⟨g.ts,g.lex,g.bd0,g.secs,g.rule,g.bd,g.bag,g.racks,rSc g k,g.clocks,p,z,l,g.over⟩
theorem rj_2 (h:std.eqI g.rule 2=true):rf1 g k=rfJ g k (1-g.player) (g.zeros+1) (idleL 3 g.player):=by
 have e:g.rule=2:=beq_iff_eq.1 h
 unfold rf1
 rw [if_pos e,if_pos e,if_pos e];rfl
theorem rj_o (h:std.eqI g.rule 2=false):rf1 g k=rfJ g k g.player g.zeros (idleL 0 0):=by
 have e : ¬g.rule=2:=beq_eq_false_iff_ne.1 h
 unfold rf1
 rw [if_neg e,if_neg e,if_neg e];rfl
theorem iRf_of {p z:Int} {l:La} (e:rf1 g k=rfJ g k p z l):iRf g k={ rfJ g k p z l with scores:=setS (rfJ g k p z l) (waitsB g),over:=ovB (rfJ g k p z l) (waitsB g) }:=by
 unfold iRf
 rw [e]
end
def sp_i_Game_canChallenge (p:Pr):FSpec:=fsp (a1 (aA aGm)) (fun g=>True) (fun g=>.b (canB g))
theorem ok_i_Game_canChallenge:FOk Tryz.prog 309 (sp_i_Game_canChallenge std):=by
 refine FOk.go (c:=cx std [] [] 0) (cx_ok .nil .nil) mixed Tryz.func309 rfl rfl rfl (by kernel_rfl) ?_
 rintro g hp
 refine⟨rfl,?_⟩
 generalize hP:std=p,hB0:canB=B0
 cbv
 repeat' first
  | (refine fun (_:Unit)=>?_;cbv)
  | (refine aI2 (fun h=>?_) (fun h=>?_)<;>cbv)
  | (refine aI2 ?_ ?_)
  | (refine Or.inl (fun (_:Unit)=>?_);cbv)
 all_goals subst hP hB0
 all_goals try exact fin
 ·have e1:g.over=false:=by assumption
  have e2:(g.rule==0)=false:=h
  unfold canB;rw [e1,e2];rfl
 ·have e2:(g.rule==0)=true:=h
  unfold canB;rw [e2];simp
 ·unfold canB;rw [show g.over=true from h];rfl
def sp_i_Game_verdict (p:Pr):FSpec:=fsp (a1 (aA aGm)) (fun g=>VeP g) (fun g=>.agg [.osl 0,.osl 1,.b (iUp g),.i .i64 (iPts g)]) (fun g=>[(0,.own [.s] (iWords g) 9),(1,.own [.s] (iWrong g) 9)])
theorem ok_i_Game_verdict:FOk Tryz.prog 311 (sp_i_Game_verdict std):=by
 refine FOk.go (c:=cx std [(335,sp_i_wordsFormed_o std),(336,sp_i_wrongWords_o std)] [] 0) (cx_ok (.cons ok_i_wordsFormed_o (.cons ok_i_wrongWords_o .nil)) .nil) mixed Tryz.func311 rfl rfl rfl (by kernel_rfl) ?_
 rintro g hp
 refine⟨rfl,?_⟩
 unfold sp_i_wordsFormed_o sp_i_wrongWords_o
 generalize hP:std=p,hB0:iUp=B0,hB1:iPts=B1,hB2:iWords=B2,hB3:iWrong=B3,hB4:wordsI=B4,hB5:wrongS=B5
 cbv
 repeat' first
  | (refine fun (_:Unit)=>?_;cbv)
  | (refine aI2 (fun h=>?_) (fun h=>?_)<;>cbv)
  | (refine aI2 ?_ ?_)
  | (refine Or.inl (fun (_:Unit)=>?_);cbv)
 all_goals subst hP hB0 hB1 hB2 hB3 hB4 hB5
 all_goals try exact fin
 all_goals have hw:=i_words hp.vp hp.ok
 all_goals have hs:=hp.sc
 ·exact hp.vp
 ·exact hp.vp
 ·exact in64 (by show _≤0-g.last.score∧0-g.last.score≤_;omega)
 ·exact i_up
 ·exact i_yes ‹_›
 ·exact in64 (by show _≤5*((wordsI g.bef g.last.play).length : Int)∧5*((wordsI g.bef g.last.play).length : Int)≤_;omega)
 ·exact i_up
 ·exact i_five ‹_› ‹_›
 ·exact i_up
 ·exact i_no ‹_› ‹_›
def sp_i_xGame_withdraw (p:Pr):MSpec:=msp (mG a0) (fun (g,_u)=>WiP g) (fun (g,_u)=>.tup []) (fun (g,_u)=>gmH ⟨g.ts,g.lex,g.bd0,g.secs,g.rule,⟨g.bd.size,g.bd.prem,g.last.before⟩,wBag g,iRks g,iSs g,g.clocks,g.player,wZe g,⟨3,g.last.player,⟨0,0,false,[]⟩,[],[],0,0⟩,iOv g⟩)
theorem ok_i_xGame_withdraw:MOk Tryz.prog 312 (sp_i_xGame_withdraw std):=by
 refine MOk.go (c:=cx std [(169,sp_i_without std),(306,sp_i_placedTiles std),(58,sp_i_sorted std)] [(90,sp_i_xGame_settle std)] 7) (cx_ok (.cons ok_i_without (.cons ok_i_placedTiles (.cons ok_i_sorted .nil))) (.cons ok_i_xGame_settle .nil)) mixed Tryz.func312 rfl rfl (by kernel_rfl) ?_
 rintro ⟨g,_u⟩ hp
 dsimp only at hp
 refine⟨rfl,?_⟩
 unfold sp_i_without sp_i_placedTiles sp_i_sorted sp_i_xGame_settle
 generalize hP:std=p,hB0:wBag=B0,hB1:iRks=B1,hB2:iSs=B2,hB3:wZe=B3,hB4:iOv=B4,hB5:withoutS=B5,hB6:withoutB=B6,hB7:tilesP=B7,hB8:placedI=B8,hB9:pileL=B9,hB10:countsL=B10,hB11:setS=B11,hB12:ovB=B12
 cbv
 repeat' first
  | (refine fun (_:Unit)=>?_;cbv)
  | (refine aI2 (fun h=>?_) (fun h=>?_)<;>cbv)
  | (refine aI2 ?_ ?_)
  | (refine Or.inl (fun (_:Unit)=>?_);cbv)
 all_goals subst hP hB0 hB1 hB2 hB3 hB4 hB5 hB6 hB7 hB8 hB9 hB10 hB11 hB12
 all_goals try exact fin
 all_goals (have h4:=hp.p;have h5:=hp.r2;have h6:=hp.s2;have h7:=hp.dr;have h8:=hp.bag;have h9:=hp.sc;have b1:=hp.so;have b2:=hp.z;have b3:=hp.rl;have b4:=hp.sp.len;have b5:(iTil g).length ≤(iRest g++iTil g).length :=by rw [List.length_append];omega)
 all_goals first
  | exact⟨h4.1,by show g.last.player<(g.racks.length:Int);omega⟩
  | exact⟨h4.1,by show g.last.player<(g.scores.length:Int);omega⟩
  | exact⟨hp.st,hp.sd⟩
  | exact hp.st
  | exact hp.sd
  | exact hp.vp
  | exact hp.sp
  | exact hp.set
  | exact in64 (by show _≤((iRest g).length : Int)+((iTil g).length : Int)∧((iRest g).length : Int)+((iTil g).length : Int)≤_;omega)
  | exact in64 (by show _≤(g.last.drawn.length:Int)+(g.bag.length:Int)∧(g.last.drawn.length:Int)+(g.bag.length:Int)≤_;omega)
  | exact in64 (by show _≤g.sc g.last.player-g.last.score∧g.sc g.last.player-g.last.score≤_;omega)
  | exact in64 (by show _≤g.last.zeros+1∧g.last.zeros+1≤_;omega)
  | rfl
  | skip
def sp_i_xGame_refuse (p:Pr):MSpec:=msp (mG (a1 aI)) (fun (g,k)=>RfP g k) (fun (g,k)=>.tup []) (fun (g,k)=>gmH ⟨g.ts,g.lex,g.bd0,g.secs,g.rule,g.bd,g.bag,g.racks,(iRf g k).scores,g.clocks,(iRf g k).player,(iRf g k).zeros,⟨(iRf g k).last.kind,(iRf g k).last.player,⟨(iRf g k).last.play.row,(iRf g k).last.play.col,(iRf g k).last.play.down,(iRf g k).last.play.word⟩,(iRf g k).last.before,(iRf g k).last.drawn,(iRf g k).last.score,(iRf g k).last.zeros⟩,(iRf g k).over⟩)
theorem ok_i_xGame_refuse:MOk Tryz.prog 313 (sp_i_xGame_refuse std):=by
 refine MOk.go (c:=cx std [(91,sp_i_Game_waits std)] [(90,sp_i_xGame_settle std)] 7) (cx_ok (.cons ok_i_Game_waits .nil) (.cons ok_i_xGame_settle .nil)) mixed Tryz.func313 rfl rfl (by kernel_rfl) ?_
 rintro ⟨g,k⟩ hp
 dsimp only at hp
 refine⟨rfl,?_⟩
 unfold sp_i_Game_waits sp_i_xGame_settle
 generalize hP:std=p,hB0:waitsB=B0,hB1:setS=B1,hB2:ovB=B2,hB3:iRf=B3
 cbv
 repeat' first
  | (refine fun (_:Unit)=>?_;cbv)
  | (refine aI2 (fun h=>?_) (fun h=>?_)<;>cbv)
  | (refine aI2 ?_ ?_)
  | (refine Or.inl (fun (_:Unit)=>?_);cbv)
 all_goals subst hP hB0 hB1 hB2 hB3
 all_goals try exact fin
 all_goals (have h4:=hp.p;have h5:=hp.r2;have h6:=hp.s2;have h7:=in_bd hp.ply;have h8:=hp.sc;have h9:=hp.kb;have b1:=hp.z)
 all_goals first
  | exact⟨h5,hp.ply⟩
  | exact⟨h4.1,by show g.last.player<(g.scores.length:Int);omega⟩
  | exact in64 (by show _≤g.sc g.last.player+k∧g.sc g.last.player+k≤_;omega)
  | exact in64 (by show _≤1-g.player∧1-g.player≤_;omega)
  | exact in64 (by show _≤g.zeros+1∧g.zeros+1≤_;omega)
  | exact hp.set _ _ _
  | (rw [iRf_of (rj_2 ‹_›)];rfl)
  | (rw [iRf_of (rj_o ‹_›)];rfl)
  | skip
end Ax
end Go.Proofs.YtghmphmbpdiflaaGreatDoor
