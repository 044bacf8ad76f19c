/-
  The law of plays.
  Conditions: none.
-/
import Derived.Test.YtjjonmhpgkahoaaGreatDoorU04
set_option linter.unusedSimpArgs false
set_option linter.unusedVariables false
namespace Go.Proofs.YtjjonmhpgkahoaaGreatDoor
namespace Ax
set_option maxRecDepth 100000
set_option maxHeartbeats 20000000
def rGII:NRes (Gm×(Int×Int)):=⟨fun _ l=>match l with
 | [.agg c,.i .i64 n,.i .i64 m]=>both' (gmOf c) (some (n,m))
 | _=>none,fun _=>[],fun a=>.tup [.agg (gmR a.1),.i .i64 a.2.1,.i .i64 a.2.2]⟩
def sp_i_TF (p:Pr):FSpec:=fsp (ac (aA aGm) (ac (aA aPl) (a1 aI))) (fun (g,q,n)=>PtP g q) (fun (g,q,n)=>.tup [.agg (gmR (turnR g q n)),.i .i64 (turnS' g q n),.i .i64 (turnC g q n)])
theorem ok_i_TF:FOk Tryz.prog 40 (sp_i_TF std):=FOk.frz ok_PlayTurn fun ⟨g,q,n⟩=>⟨by simp [deep,deeps,AH.get,gmH6,gmO6,gmK,gmR],by simp [PV.idIn,idInL,gmK,gmR]⟩
def sp_s_TF (p:Pr):FSpec:=fsp (ac (aA aGm) (ac (aA aPl) (a1 aI))) (fun (g,q,n)=>StP' g q) (fun (g,q,n)=>.tup [.agg (gmR (turnR g q n)),.i .i64 (turnS' g q n),.i .i64 (turnC g q n)])
theorem ok_s_TF:FOk Tryz.prog 41 (sp_s_TF std):=FOk.frz ok_s_PlayTurn fun ⟨g,q,n⟩=>⟨by simp [deep,deeps,AH.get,gmH6,gmO6,gmK,gmR],by simp [PV.idIn,idInL,gmK,gmR]⟩
def sp_i_TN (_:Pr):NSpec:=nsp (mN (ac (aA aGm) (ac (aA aPl) (a1 aI)))) (fun (g,q,n)=>PtP g q) (fun _=>rGII) (fun (g,q,n) x=>x=(turnR g q n,turnS' g q n,turnC g q n))
def tF (a:Gm×(Pl×Int)):=(turnR a.1 a.2.1 a.2.2,turnS' a.1 a.2.1 a.2.2,turnC a.1 a.2.1 a.2.2)
theorem ok_i_TN:NOk Tryz.prog 40 (sp_i_TN std):=NOk.ofF (B:=rGII) (f:=tF) ok_i_TF (fun _=>rfl) (fun _=>rfl)
def sp_s_TN (_:Pr):NSpec:=nsp (mN (ac (aA aGm) (ac (aA aPl) (a1 aI)))) (fun (g,q,n)=>StP' g q) (fun _=>rGII) (fun (g,q,n) x=>x=(turnR g q n,turnS' g q n,turnC g q n))
theorem ok_s_TN:NOk Tryz.prog 41 (sp_s_TN std):=NOk.ofF (B:=rGII) (f:=tF) ok_s_TF (fun _=>rfl) (fun _=>rfl)
structure PtF (g x:Gm) (q:Pl):Prop where
 bd:x.bd=madeB g.bd q
 v:gameB x=true
 pl:x.player=1-g.player
 rk:x.racks.getD (1-g.player).toNat []=g.racks.getD (1-g.player).toNat []
 s0:x.over=false→x.scores.getD g.player.toNat 0=g.scores.getD g.player.toNat 0+scoreI g.ts g.bd q
 s1:x.over=false→x.scores.getD (1-g.player).toNat 0=g.scores.getD (1-g.player).toNat 0
 lg:codeI g.bd g.lex (g.rk g.player) q=0∨(codeI g.bd g.lex (g.rk g.player) q=9∧g.rule≠0)
section
variable {g:Gm} {q:Pl} {n:Int}
theorem set_ne {α:Type} {l:List α} {p:Int} {x d:α} (hp:0≤p∧p≤1):(l.set p.toNat x).getD (1-p).toNat d=l.getD (1-p).toNat d:=by
 rw [List.getD_eq_getElem?_getD,List.getD_eq_getElem?_getD,List.getElem?_set_ne (by omega)]
theorem set_eq {α:Type} {l:List α} {p:Int} {x d:α} (hp:0≤p∧p≤1) (hl:l.length=2):(l.set p.toNat x).getD p.toNat d=x:=by
 rw [List.getD_eq_getElem?_getD,List.getElem?_set_self (by omega)];rfl
theorem turn_r (hc:turnC g q n=0):(turnR g q n).bd =madeB g.bd q∧(turnR g q n).player =1-g.player∧(turnR g q n).racks =(turn1 g q n).racks ∧((turnR g q n).over =false→(turnR g q n).scores =(turn1 g q n).scores):=by
 unfold turnR
 rw [if_pos hc]
 unfold turnG
 split
 ·exact⟨rfl,rfl,rfl,fun h=>by cases h⟩
 ·exact⟨rfl,rfl,rfl,fun _=>rfl⟩
theorem pt_f (hc:turnC g q n=0) (hf:FullR g):PtF g (turnR g q n) q:=by
 have ht:=trn_f hc
 have hv:=ht.a.v
 have hp:=in_bd hv.pl
 obtain⟨r1,r2,r3,r4⟩:=turn_r hc
 refine⟨r1,turn_ok hc hf,r2,?_,fun ho=>?_,fun ho=>?_,?_⟩
 ·rw [r3];exact set_ne hp
 ·rw [r4 ho];exact set_eq hp hv.sl
 ·rw [r4 ho];exact set_ne hp
 ·unfold turnC at hc
  rw [if_pos (eqI_t (sturn_of hc).1)] at hc
  split at hc
  ·cases hc
  ·split at hc
   ·rename_i h6;exact absurd hc h6.1
   ·rename_i h6
    by_cases h7:codeI g.bd g.lex (g.rk g.player) q=0
    ·exact .inl h7
    ·refine .inr ⟨?_,fun e=>h6 ⟨h7,.inr e⟩⟩
     by_cases h8:codeI g.bd g.lex (g.rk g.player) q=9
     ·exact h8
     ·exact absurd ⟨h7,.inl h8⟩ h6
end
theorem pr3 {α β γ:Type} {a:α} {b:β} {c:γ} {p:α×(β×γ)} (h:(a,(b,c))=p):a=p.1∧b=p.2.1∧c=p.2.2:=by subst h;exact⟨rfl,rfl,rfl⟩
theorem be_pt {g:Gm} {q:Pl} (h:BeB g) (hw:le15 q.word):PtP g q:=h.b.q (by decide) (by have : q.word.length≤15:=hw;omega)
theorem be_st {g:Gm} {q:Pl} (h:BeB g) (hw:le15 q.word):StP' g q:=h.b.s (by decide) (by have : q.word.length≤15:=hw;omega)
theorem tr_b {g:Gm} {q:Pl} {n:Int} (h:BeB g) (hw:le15 q.word) (hc:turnC g q n=0):GmB 1048576 (turnR g q n):=by
 unfold turnR
 rw [if_pos hc]
 have : q.word.length≤15:=hw
 exact turnG_b h.b hc (by omega)
theorem tr_n {g:Gm} {q:Pl} {n:Int} (h:BeB g) (hw:le15 q.word):GmN (turnR g q n):=by
 by_cases hc:turnC g q n=0
 ·exact (tr_b h hw hc).n (by decide)
 ·unfold turnR
  rw [if_neg hc]
  exact gm0_n
theorem eqI_r (a:Int):std.eqI a a=true:=by simp
section
variable {g:Gm} {q:Pl} {n:Int}
abbrev C0 (g:Gm) (q:Pl) (n:Int):Prop:=std.eqI (turnC g q n) 0=true
theorem c_0 (h:C0 g q n):turnC g q n=0:=eqI_t h
theorem pt_v (h:C0 g q n):GV g:=(trn_f (c_0 h)).a.v
theorem pt_su (h:C0 g q n):tsB g.ts=true∧lexB g.lex=true:=by
 have h8:=(pt_v h).su
 unfold setupB at h8
 simp only [Bool.and_eq_true] at h8
 exact⟨h8.1,h8.2.1⟩
theorem pt_so (h:C0 g q n):SoP g.bd q:=⟨(trn_f (c_0 h)).v,(pt_v h).bd⟩
theorem pt_p (h:C0 g q n):0≤g.player∧g.player≤1:=in_bd (pt_v h).pl
theorem pt_rk (h:C0 g q n):rackB (std.get [] g.racks g.player)=true:=by
 have hp:=pt_p h
 have h0:=(pt_v h).s0
 have h1:=(pt_v h).s1
 unfold sideB at h0 h1
 simp only [Bool.and_eq_true] at h0 h1
 show rackB (g.racks.getD g.player.toNat [])=true
 rcases (show g.player=0∨g.player=1 by omega) with e | e<;>rw [e]
 ·exact h0.1
 ·exact h1.1
theorem pt_lg (hb:BeB g) (hw:le15 q.word) (h:C0 g q n):LgP g.bd g.lex (std.get [] g.racks g.player) q∧WsL g.lex:=by
 have hr:=pt_rk h
 have hr2:=hr
 unfold rackB at hr2
 rw [Bool.and_eq_true] at hr2
 have h7:(std.get [] g.racks g.player).length ≤7:=of_decide_eq_true hr2.2
 have hw:q.word.length≤15:=hw
 exact⟨⟨(pt_v h).bd,lex_lxp (pt_su h).2,⟨(pileB_asc hr2.1).1,by omega⟩,by omega⟩,hb.b.gq.su.ws⟩
theorem pt_gq (hb:BeB g) (hw:le15 q.word) (h:C0 g q n):GmQ (turnR g q n):=(tr_b hb hw (c_0 h)).gq
theorem pt_F (hb:BeB g) (h:C0 g q n):PtF g (turnR g q n) q:=pt_f (c_0 h) (be_full hb (pt_v h).b)
theorem pt_rl (h:C0 g q n):(turnR g q n).racks.length =2:=by
 rw [(turn_r (c_0 h)).2.2.1]
 show (g.racks.set _ _).length =2
 rw [List.length_set,(pt_v h).rl]
theorem pt_ix {α:Type} (hb:C0 g q n) {l:List α} (hl:l.length=2):std.inL g.player (std.len l)∧std.inL (std.sub 1 g.player) (std.len l):=by
 have hp:=pt_p hb
 have h2:std.len l=2:=by show ((l.length:Nat):Int)=2;rw [hl];rfl
 rw [h2]
 exact⟨(by show 0≤g.player∧g.player<2;omega),(by show 0≤1-g.player∧1-g.player<2;omega)⟩
theorem pt_64 (h:C0 g q n):std.inK .i64 (std.sub 1 g.player):=by
 have hp:=pt_p h
 exact in64 (by show _≤1-g.player∧1-g.player≤_;omega)
theorem pt_S (h:C0 g q n):turnS' g q n=scoreI g.ts g.bd q:=by
 unfold turnS'
 rw [if_pos (c_0 h)]
theorem pt_65 (h:C0 g q n):std.inK .i64 (std.add (std.get 0 g.scores g.player) (turnS' g q n)):=by
 have ht:=trn_f (c_0 h)
 have hp:=pt_p h
 have h1:=ht.a.s0
 have h2:=ht.a.s1
 have h3:=ht.hi
 have h4:=ht.lo
 rw [pt_S h]
 refine in64 ?_
 show _≤g.sc g.player+scoreI g.ts g.bd q∧g.sc g.player+scoreI g.ts g.bd q≤_
 rcases (show g.player=0∨g.player=1 by omega) with e | e<;>rw [e] at h3 ⊢ <;>omega
theorem pt_sl (h:C0 g q n) (hb:BeB g):(turnR g q n).scores.length =2:=(gv_of (pt_F hb h).v).sl
theorem ffI {a b:Int} (h:std.eqI a b=false) (e:a=b):False:=by subst e;simp at h
theorem ffS {a b:List UInt8} (h:std.eqS a b=false) (e:a=b):False:=by subst e;simp at h
theorem ffD {x y:Bd} (h:std.and (std.eqI x.size y.size) (std.and (std.eqS x.prem y.prem) (std.eqS x.cells y.cells))=false) (e:x=y):False:=by subst e;simp at h
theorem ffV {b:Bool} (h:b=false) (e:b=true):False:=by subst h;cases e
theorem ffC {c r:Int} (h0:std.eqI c 0=false) (h9:std.eqI c 9=false) (h:c=0∨(c=9∧r≠0)):False:=h.elim (ffI h0) fun h=>ffI h9 h.1
theorem ffR {c r:Int} (h0:std.eqI c 0=false) (h:c=0∨(c=9∧r≠0)):(match std.eqI r 0 with | true=>false | false=>true)=true:=by
 rcases h with h | h
 ·exact (ffI h0 h).elim
 ·have h1:std.eqI r 0=false:=by
   cases e:std.eqI r 0 with
   | false=>rfl
   | true=>exact absurd (show r=0 by simpa using e) h.2
  rw [h1]
end
def sp_l_FnPlayTurns (p:Pr):FSpec:=fsp (a1 aY) (fun code=>CbP code) (fun code=>.b true)
theorem ok_l_FnPlayTurns:FOk Tryz.prog 6 (sp_l_FnPlayTurns std):=by
 refine FOk.go (c:={ cxN std [(9,sp_l_f6big std),(13,sp_s_SameGame std),(42,sp_i_ScorePlay std),(43,sp_i_MakePlay std),(44,sp_i_LegalPlay std),(16,sp_i_ValidGame std)] [] [(39,sp_s_DrawPlayTurn std),(40,sp_i_TN std),(41,sp_s_TN std)] 0 (if false then some stdU else none) [] with K:=fun i=>([[],[],[],[20,21,23,24],[25,26,27,28,29,31,32],[33,34,35,36,37,38,39,40],[41,42,43,44,45,46,47,48,49,50,51,52,53],[],[55],[],[57,58,59,60,61,62,63,64,65,66],[67,68,69,70,71,72,73],[74,75,76,77,78,79,80,81,82,83,84,85,86],[87,88,89,90,91,92,93,94,95,96,97,98,99,100,101,102,103,104,105,106,107,108,109,110,111,112,113,114,115,116,117,118,119,120,121,122,123,124,125,126,127,128,129,130,131,132],[],[134,135,136,137,138,139,140,141,142,143,144,145,146,147,148,149,150,151,152,153,154,155,156,157,158,159,160,161,162,163,164,165,166,167,168,169],[],[171,172,173,174,175,176,177,178,179,180,181,182]]:List (List Nat)).getD i [] }) (CxOk.k (cxN_ok (.cons ok_l_f6big (.cons ok_s_SameGame (.cons ok_i_ScorePlay (.cons ok_i_MakePlay (.cons ok_i_LegalPlay (.cons ok_i_ValidGame .nil)))))) .nil (.cons ok_s_DrawPlayTurn (.cons ok_i_TN (.cons ok_s_TN .nil)))) _) mixed Tryz.func6 rfl rfl rfl (by kernel_rfl) ?_
 rintro code hp
 refine⟨rfl,?_⟩
 unfold sp_l_f6big sp_s_DrawPlayTurn sp_i_TN sp_s_TN sp_s_SameGame sp_i_ScorePlay sp_i_MakePlay sp_i_LegalPlay sp_i_ValidGame
 generalize hP:std=p,hB0:bigB=B0,hB1:gameB=B1,hB2:turnR=B2,hB3:turnS'=B3,hB4:turnC=B4,hB5:scoreI=B5,hB6:madeB=B6,hB7:codeI=B7,hB8:qeN=B8,hB9:le15=B9,hB10:tsB=B10,hB11:rackB=B11,hB12:lexB=B12
 cbv
 repeat' first|refine fun (_:Unit)=>?_;cbv|refine fun (y:Nd _) hy=>?_;cbv|refine aI2 (fun h=>?_) (fun h=>?_)<;>cbv|refine aI2 ?_ ?_|refine Or.inl (fun (_:Unit)=>?_);cbv
 all_goals subst hP hB0 hB1 hB2 hB3 hB4 hB5 hB6 hB7 hB8 hB9 hB10 hB11 hB12
 all_goals try exact fin
 all_goals try exact hp.d ‹_›
 iterate 2 all_goals try (rename Nd (Gm×(Int×Int))=>ya;rcases ya with ⟨⟨gB,⟨sB,cB⟩⟩⟩)
 all_goals try (rename Nd (Gm×(Pl×Int))=>ya;rcases ya with ⟨⟨g,⟨q,n⟩⟩⟩)
 all_goals try dsimp only at *
 iterate 2 all_goals try (rename (Prod.mk (α:=Gm) (β:=Int×Int) _ _=_)=>hh;obtain⟨rfl,rfl,rfl⟩:=pr3 hh;clear hh)
 all_goals try dsimp only at *
 all_goals (try simp only [eta_ts,eta_bd,eta_la,eta_pl,eta_gmz] at *)
 all_goals try (rename BeB _∧le15 _=>h1)
 all_goals try first|exact be_pt h1.1 h1.2|exact be_st h1.1 h1.2|exact tr_n h1.1 h1.2|exact eqI_r _
 all_goals have hc0:std.eqI (turnC g q n) 0=true:=by assumption
 all_goals try first|exact pt_so hc0|exact (pt_su hc0).1|exact (pt_su hc0).2|exact (pt_lg h1.1 h1.2 hc0).1|exact pt_rk hc0|exact (pt_lg h1.1 h1.2 hc0).2|exact pt_gq h1.1 h1.2 hc0|exact pt_64 hc0|exact pt_65 hc0|exact (pt_ix hc0 (by first|exact (pt_v hc0).rl|exact pt_rl hc0|exact (pt_v hc0).sl|exact pt_sl hc0 h1.1)).1|exact (pt_ix hc0 (by first|exact (pt_v hc0).rl|exact pt_rl hc0|exact (pt_v hc0).sl|exact pt_sl hc0 h1.1)).2
 all_goals have F:=pt_F h1.1 hc0
 all_goals try first|exact ffR ‹_› F.lg|exact (ffC ‹_› ‹_› F.lg).elim|exact (ffV ‹_› F.v).elim|exact (ffI ‹_› F.pl).elim|exact (ffS ‹_› F.rk).elim|exact (ffD ‹_› F.bd).elim|exact (ffI ‹_› (pt_S hc0).symm).elim|exact (ffI ‹_› (F.s1 ‹_›)).elim|exact (ffI ‹_› ((F.s0 ‹_›).trans (by rw [pt_S hc0];rfl))).elim
end Ax
end Go.Proofs.YtjjonmhpgkahoaaGreatDoor
