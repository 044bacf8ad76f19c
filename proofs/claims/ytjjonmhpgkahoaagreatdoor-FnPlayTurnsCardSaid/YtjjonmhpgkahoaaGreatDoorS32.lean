/-
  Steps of a drawn game: walked.
  Conditions: none.
-/
import Derived.Test.YtjjonmhpgkahoaaGreatDoorS31
import Derived.Test.YtjjonmhpgkahoaaGreatDoorS29
import Derived.Test.YtjjonmhpgkahoaaGreatDoorS30
set_option linter.unusedSimpArgs false
set_option linter.unusedVariables false
namespace Go.Proofs.YtjjonmhpgkahoaaGreatDoor
namespace Ax
set_option maxRecDepth 100000
set_option maxHeartbeats 20000000
def sgRd (H:AH) (l:List PV):Option (Src×Gm):=match H,l with
 | [x0,x1,x2,x3,x4,x5,x6],[.ptr 0 0,.agg c]=>match srT x0,hN x1,hN x2,hW x3,hW x4,hN x5,hN x6,gmO c with
   | some σ,some (1,v),some (2,w),some (3,lx),some (4,rk),some (5,sc),some (6,ck),some (g,[.osl 1,.osl 2,.osl 3,.osl 4,.osl 5,.osl 6])=>some (σ,fillG g v w lx rk sc ck)
   | _,_,_,_,_,_,_,_=>none
 | _,_=>none
def mSG:MArgs (Src×Gm):=⟨sgRd,fun a=>(0,.cells (srK a.1) 159)::gmH7 a.2 1,fun a=>[.ptr 0 0,.agg (gmK a.2 (.osl 1) (.osl 2) (.osl 3) (.osl 4) (.osl 5) (.osl 6))],fun H l a h=>by
 unfold sgRd at h
 split at h
 ·split at h
  ·rename_i h0 h1 h2 h3 h4 h5 h6 h7
   obtain⟨v,c,lx,rk,sc,ck,hx,rfl⟩:=gmO_eq h7
   cases hx
   cases h
   rw [srT_ok h0,hN_ok h1,hN_ok h2,hW_ok h3,hW_ok h4,hN_ok h5,hN_ok h6]
   exact⟨rfl,rfl⟩
  ·cases h
 ·cases h⟩
def rSG:NRes (Src×Gm):=⟨fun H l=>match l with
 | [.agg c]=>both' (srHd H) (gmOf c)
 | _=>none,fun a=>(0,.cells (srK a.1) 159)::(1,.gone)::(2,.gone)::(3,.gone)::(4,.gone)::(5,.gone)::(6,.gone)::gmH7 a.2 7,fun a=>.agg (gmK a.2 (.osl 7) (.osl 8) (.osl 9) (.osl 10) (.osl 11) (.osl 12))⟩
structure DrG (g:Gm):Prop where
 v:gameB g=true
 f:FullR g
 b:GmB 1048576 g
 lx:g.lex=allW
theorem DrG.fd {g:Gm} (h:DrG g):FdP g:=by
 have hv:=gv_of h.v
 have hp:=in_bd hv.pl
 have h0:=hv.s0
 have h1:=hv.s1
 have hz:=bdB.fit hv.bd
 unfold sideB at h0 h1
 simp only [Bool.and_eq_true] at h0 h1
 refine⟨h.lx,⟨hp.1,by rw [hv.rl];omega⟩,?_,?_,?_⟩
 ·rcases (show g.player=0∨g.player=1 by omega) with e | e<;>rw [e]
  ·exact h0.1
  ·exact h1.1
 ·exact bd_p h.b.bd (by decide)
 ·exact⟨by have:=hz.lo;omega,by have:=hz.hi;omega⟩
section
variable {g:Gm} {q:Pl} {n:Int} {t:List UInt8}
theorem turn_lex (h:turnC g q n=0):(turnR g q n).lex =g.lex:=by
 unfold turnR
 rw [if_pos h]
 unfold turnG
 split<;>rfl
theorem zero_lex {k:Int} : (zeroG g k n).lex =g.lex:=by
 unfold zeroG
 split<;>rfl
theorem DrG.turn (h:DrG g) (hc:turnC g q n=0) (hw:le12 q.word):DrG (turnR g q n):=by
 refine⟨turn_ok hc h.f,full_turn hc h.f,?_,(turn_lex hc).trans h.lx⟩
 unfold turnR
 rw [if_pos hc]
 have h1:q.word.length≤12:=hw
 exact turnG_b h.b hc (by omega)
theorem DrG.xt (h:DrG g) (hc:xtC g t n=0):DrG (xtR g t n):=by
 refine⟨xt_ok hc,full_xt hc h.f,?_,?_⟩
 ·unfold xtR
  rw [if_pos hc]
  exact zeroG_b (xtG_b h.b (xt_act hc).2.2)
 ·unfold xtR
  rw [if_pos hc]
  exact zero_lex.trans h.lx
theorem DrG.pass (h:DrG g) (hc:actC g n=0):DrG (passR g n):=by
 refine⟨pass_ok hc,full_pass hc h.f,?_,?_⟩
 ·unfold passR
  rw [if_pos hc]
  exact zeroG_b h.b
 ·unfold passR
  rw [if_pos hc]
  exact zero_lex.trans h.lx
theorem DrG.ps (h:DrG g):PsP g:=by
 have hs:=h.b.s (q:=⟨0,0,false,[]⟩) (by decide) (by decide)
 exact⟨hs.gm,hs.own⟩
theorem DrG.st (h:DrG g) (hw:le12 q.word):StP' g q:=by
 have h1:q.word.length≤12:=hw
 exact h.b.s (by decide) (by omega)
theorem DrG.xs (h:DrG g) (ht:t.length≤1):XsP g t:=⟨h.ps,by omega⟩
end
def sp_s_l18Step (_:Pr):NSpec:=nsp mSG (fun (σ,g)=>SrOk 999999980000 σ∧DrG g) (fun (σ,g)=>rSG) (fun (σ,g) (τ,x)=>far 1000 σ τ∧DrG x)
theorem ok_s_l18Step:NOk Tryz.prog 249 (sp_s_l18Step std):=by
 refine NOk.goE (c:=cxN std [(41,sp_s_PlayTurn std),(36,sp_s_ExchangeTurn std),(37,sp_s_PassTurn std)] [(96,sp_s_xl00Src_one std),(64,sp_s_xl00Src_pick std)] [(111,sp_s_l18Find std)] 7 (if false then some stdU else none) []) (cxN_ok (.cons ok_s_PlayTurn (.cons ok_s_ExchangeTurn (.cons ok_s_PassTurn .nil))) (.cons ok_s_xl00Src_one (.cons ok_s_xl00Src_pick .nil)) (.cons ok_s_l18Find .nil)) mixed Tryz.func249 rfl rfl (by kernel_rfl) ?_
 rintro ⟨σ,g⟩ hp
 dsimp only at hp
 refine⟨rfl,?_⟩
 unfold sp_s_PlayTurn sp_s_ExchangeTurn sp_s_PassTurn sp_s_xl00Src_one sp_s_xl00Src_pick sp_s_l18Find
 generalize hP:std=p,hB0:pkS=B0,hB1:pkV=B1,hB2:far=B2,hB3:turnR=B3,hB4:turnS'=B4,hB5:turnC=B5,hB6:xtR=B6,hB7:xtC=B7,hB8:passR=B8,hB9:actC=B9
 cbv
 repeat' first
  | (refine fun (_:Unit)=>?_;cbv)
  | (refine fun (y:Nd _) hy=>?_;cbv)
  | (refine aI2 (fun h=>?_) (fun h=>?_)<;>cbv)
  | (refine aI2 ?_ ?_)
  | (refine Or.inl (fun (_:Unit)=>?_);cbv)
 all_goals subst hP hB0 hB1 hB2 hB3 hB4 hB5 hB6 hB7 hB8 hB9
 all_goals try exact fin
 all_goals try simp only [eta_sr,eta_ts,eta_bd,eta_pl,eta_la,eta_gm]
 all_goals have hd:=hp.2
 all_goals have hs1:=pk_ok hp.1 90
 ·exact hp.1.le (by decide)
 ·exact hs1.le (by decide)
 ·exact hd.fd
 all_goals have hy1:far 700 (pkS σ 90) y.x.1∧le12 y.x.2.1.word:=hy
 all_goals have hs2:SrOk 999999980702 y.x.1:=(hy1.1.s _ hs1).le (by decide)
 all_goals have hF:far 702 σ y.x.1:=far_tr (far_pk σ 90) hy1.1 (by decide)
 all_goals have hc1:(g.racks.getD g.player.toNat []).length ≤7:=hd.fd.n
 all_goals first
  | exact hs2.le (by decide)
  | exact (pk_ok hs2 8).le (by decide)
  | exact hd.st hy1.2
  | exact hd.ps
  | exact hd.xs (by show (List.take 1 _).length ≤1;rw [List.length_take];omega)
  | exact hd.fd.pl
  | exact (hF.pk 8).le (by decide)
  | exact ((hF.pk 8).pk 2).le (by decide)
  | exact (hF.pk 2).le (by decide)
  | exact hF.le (by decide)
  | exact hd.turn (eqI_t ‹_›) hy1.2
  | exact hd.xt (eqI_t ‹_›)
  | exact hd.pass (eqI_t ‹_›)
  | exact hd
  | skip
end Ax
end Go.Proofs.YtjjonmhpgkahoaaGreatDoor
