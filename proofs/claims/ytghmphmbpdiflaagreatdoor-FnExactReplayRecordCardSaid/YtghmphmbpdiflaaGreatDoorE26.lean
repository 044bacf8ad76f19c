/-
  A challenge that may be made, of the spec package.
  Conditions: none.
-/
import Derived.Test.YtghmphmbpdiflaaGreatDoorE19
import Derived.Test.YtghmphmbpdiflaaGreatDoorE25
set_option linter.unusedSimpArgs false
set_option linter.unusedVariables false
namespace Go.Proofs.YtghmphmbpdiflaaGreatDoor
namespace Ax
set_option maxRecDepth 100000
set_option maxHeartbeats 20000000
structure StC (g:Gm):Prop where
 gm:GmL g
 own:GmP g
structure StCy (g:Gm) (n:Int):Prop where
 b:StC g
 c:chC g n=0
section
variable {g:Gm} {n:Int}
theorem ce1 (hc:chC g n=0) (h:std.eqI (actC g n) 0=false):False:=by
 have h1:=eqI_f h
 unfold chC at hc
 rw [if_neg h1] at hc
 exact h1 hc
theorem ce2 (hc:chC g n=0) (h:std.eqI (actC g n) 0=true) (h2:canB g=false):False:=by
 have h1:=eqI_t h
 unfold chC at hc
 rw [if_pos h1,h2] at hc
 exact absurd hc (by decide)
theorem chc_of (hc:chC g n=0):ChF g n:=by
 by_cases h1:actC g n=0
 ·have h:std.eqI (actC g n) 0=true:=by simpa using h1
  cases h2:canB g with
  | true=>exact chf h h2
  | false=>exact (ce2 hc h h2).elim
 ·exact (ce1 hc (by simpa using h1)).elim
theorem ch_set3 (h:ChF g n) (p z:Int) (l:La):SetP ⟨g.ts,g.lex,g.bd0,g.secs,g.rule,g.bd,g.bag,g.racks,rSc g (vPts g),ckL g n,p,z,l,g.over⟩:=by
 have h1:=ch_set2 h
 exact⟨⟨h1.en.ts,h1.en.rk,h1.en.ck,h1.en.len,h1.en.clk⟩,h1.len,h1.lo,h1.hi⟩
theorem chG_y (h:vUp g=true):chG g n=wdG (clockG g n):=if_pos h
theorem chG_n (h:vUp g=false):chG g n=rfG (clockG g n) (vPts g):=if_neg (by rw [h];simp)
def rfL (g:Gm) (n p z:Int) (l:La):Gm:=⟨g.ts,g.lex,g.bd0,g.secs,g.rule,g.bd,g.bag,g.racks,rSc g (vPts g),ckL g n,p,z,l,g.over⟩
theorem rf_2 (h:std.eqI g.rule 2=true):rf1 (clockG g n) (vPts g)=rfL g n (1-g.player) (g.zeros+1) (idleL 3 g.player):=by
 have e:(clockG g n).rule =2:=beq_iff_eq.1 h
 unfold rf1
 rw [if_pos e,if_pos e,if_pos e];rfl
theorem rf_o (h:std.eqI g.rule 2=false):rf1 (clockG g n) (vPts g)=rfL g n g.player g.zeros (idleL 0 0):=by
 have e : ¬(clockG g n).rule =2:=beq_eq_false_iff_ne.1 h
 unfold rf1
 rw [if_neg e,if_neg e,if_neg e];rfl
theorem chG_0 {p z:Int} {l:La} (h:vUp g=false) (hw:waitsB (clockG g n)=false) (e:rf1 (clockG g n) (vPts g)=rfL g n p z l):chG g n=rfL g n p z l:=by
 rw [chG_n h,rfG,hw,if_neg (by simp),e]
theorem chG_1 {p z:Int} {l:La} (h:vUp g=false) (hw:waitsB (clockG g n)=true) (e:rf1 (clockG g n) (vPts g)=rfL g n p z l):chG g n={ rfL g n p z l with scores:=setSc (rfL g n p z l),over:=true }:=by
 rw [chG_n h,rfG,hw,if_pos rfl,e]
end
def sp_s_ChallengeTurn_y (p:Pr):FSpec:=fsp (ac (aA aGm) (a1 aI)) (fun (g,n)=>StCy g n) (fun (g,n)=>.tup [.agg (gmK ⟨g.ts,g.lex,g.bd0,g.secs,g.rule,⟨(chG g n).bd.size,(chG g n).bd.prem,(chG g n).bd.cells⟩,(chG g n).bag,(chG g n).racks,(chG g n).scores,(chG g n).clocks,(chG g n).player,(chG g n).zeros,⟨(chG g n).last.kind,(chG g n).last.player,⟨(chG g n).last.play.row,(chG g n).last.play.col,(chG g n).last.play.down,(chG g n).last.play.word⟩,(chG g n).last.before,(chG g n).last.drawn,(chG g n).last.score,(chG g n).last.zeros⟩,(chG g n).over⟩ (.osl 0) (.osl 1) (.osl 2) (.osl 3) (.osl 4) (.osl 5)),.agg [.osl 6,.osl 7,.b (vUp g),.i .i64 (vPts g)],.i .i64 0]) (fun (g,n)=>[(0,.own [.i .i64] g.ts.values 2),(1,.own [.i .i64] g.ts.counts 2),(2,.own [.s] g.lex 9),(3,.own [.s] (chG g n).racks 9),(4,.own [.i .i64] (chG g n).scores 2),(5,.own [.i .i64] (chG g n).clocks 2),(6,.own [.s] (vWords g) 9),(7,.own [.s] (vWrong g) 9)])
theorem ok_s_ChallengeTurn_y:FOk Tryz.prog 227 (sp_s_ChallengeTurn_y std):=by
 refine FOk.go (c:=cx std [(94,sp_s_l18Begin std),(265,sp_s_l19Can std),(266,sp_s_l19Verdict std),(97,sp_s_l18Own std),(173,sp_s_l18Waits std)] [(174,sp_s_l18Clock std),(267,sp_s_l19Withdraw std),(175,sp_s_l18Settle std)] 0) (cx_ok (.cons ok_s_l18Begin (.cons ok_s_l19Can (.cons ok_s_l19Verdict (.cons ok_s_l18Own (.cons ok_s_l18Waits .nil))))) (.cons ok_s_l18Clock (.cons ok_s_l19Withdraw (.cons ok_s_l18Settle .nil)))) mixed Tryz.func227 rfl rfl rfl (by kernel_rfl) ?_
 rintro ⟨g,n⟩ hp
 dsimp only at hp
 refine⟨rfl,?_⟩
 unfold sp_s_l18Begin sp_s_l19Can sp_s_l19Verdict sp_s_l18Own sp_s_l18Waits sp_s_l18Clock sp_s_l19Withdraw sp_s_l18Settle
 generalize hP:std=p,hB0:actC=B0,hB1:canB=B1,hB2:vUp=B2,hB3:vPts=B3,hB4:vWords=B4,hB5:vWrong=B5,hB6:wBag=B6,hB7:wRks=B7,hB8:wSs=B8,hB9:wZe=B9,hB10:wOv=B10,hB11:waitsB=B11,hB12:setSc=B12,hB13:ckL=B13,hB14:chG=B14
 cbv
 repeat' first
  | (refine fun (_:Unit)=>?_;cbv)
  | (refine aI2 (fun h=>?_) (fun h=>?_)<;>cbv)
  | (refine aI2 ?_ ?_)
  | (refine Or.inl (fun (_:Unit)=>?_);cbv)
 all_goals subst hP hB0 hB1 hB2 hB3 hB4 hB5 hB6 hB7 hB8 hB9 hB10 hB11 hB12 hB13 hB14
 all_goals try exact fin
 all_goals try (exfalso;exact ce1 hp.c ‹_›)
 all_goals try (exfalso;exact ce2 hp.c ‹_› ‹_›)
 all_goals try (exfalso;exact absurd (show std.eqI 6 0=true by assumption) (by decide))
 all_goals have hF:=chc_of hp.c
 all_goals (have hpl:=hF.sy.fa.ply;have hr2:=hF.sy.r2;have hs2:=hF.sy.fa.s;have hk2:=hF.sy.fa.k;have hck:=hF.sy.ok.clk g.player;have hcc:=hF.sy.c;have hn:=hF.sy.nb;have hlp:=ch_ply hF;have hvp:=ch_pts hF;have hsl:=hF.sy.ok.sc g.last.player;have hgz:=(pkf hF.ok).gz)
 all_goals first
  | exact hp.b.gm
  | exact hp.b.own
  | exact ch_vd hF hp.b.gm.su.ws
  | exact ch_wd hF
  | exact⟨hk2,by show g.player=0∨g.player=1;omega,by show _≤g.clk g.player-n∧g.clk g.player-n≤_;omega⟩
  | exact⟨hr2,by show g.player=0∨g.player=1;omega⟩
  | exact⟨hlp.1,by show g.last.player<(g.scores.length:Int);omega⟩
  | exact in64 (by show _≤g.sc g.last.player+vPts g∧g.sc g.last.player+vPts g≤_;omega)
  | exact in64 (by show _≤1-g.player∧1-g.player≤_;omega)
  | exact in64 (by show _≤g.zeros+1∧g.zeros+1≤_;omega)
  | exact ch_set3 hF _ _ _
  | (rw [chG_y (g:=g) (n:=n) ‹_›];rfl)
  | (rw [chG_0 (g:=g) (n:=n) ‹_› ‹_› (rf_2 ‹_›)];rfl)
  | (rw [chG_0 (g:=g) (n:=n) ‹_› ‹_› (rf_o ‹_›)];rfl)
  | (rw [chG_1 (g:=g) (n:=n) ‹_› ‹_› (rf_2 ‹_›)];rfl)
  | (rw [chG_1 (g:=g) (n:=n) ‹_› ‹_› (rf_o ‹_›)];rfl)
  | (rw [chG_1 (g:=g) (n:=n) ‹_› ‹_› (rf_2 ‹_›)];done)
  | (rw [chG_1 (g:=g) (n:=n) ‹_› ‹_› (rf_o ‹_›)];done)
  | skip
end Ax
end Go.Proofs.YtghmphmbpdiflaaGreatDoor
