/-
  Steps of a drawn game: walked.
  Conditions: none.
-/
import Derived.Test.YtjjonmhpgkahoaaGreatDoorH33
import Derived.Test.YtjjonmhpgkahoaaGreatDoorH32
import Derived.Test.YtjjonmhpgkahoaaGreatDoorH30
set_option linter.unusedSimpArgs false
set_option linter.unusedVariables false
namespace Go.Proofs.YtjjonmhpgkahoaaGreatDoor
namespace Ax
set_option maxRecDepth 100000
set_option maxHeartbeats 20000000
def Si (H:AH) (l:List PV):Option (Src×Gm):=match H,l with
 | [x0,x1,x2,x3,x4,x5,x6],[.ptr 0 0,.agg c]=>match srT x0,hN x1,hN x2,hW x3,hW x4,hN x5,hN x6,gmO c with
   | some σ,some (1,v),some (2,w),some (3,lx),some (4,rk),some (5,sc),some (6,ck),some (g,[.osl 1,.osl 2,.osl 3,.osl 4,.osl 5,.osl 6])=>some (σ,Gq g v w lx rk sc ck)
   | _,_,_,_,_,_,_,_=>none
 | _,_=>none
def mSG:je (Src×Gm):=⟨Si,fun a=>(0,.cells (srK a.1) 159)::Kj a.2 1,fun a=>[.ptr 0 0,.agg (gmK a.2 (.osl 1) (.osl 2) (.osl 3) (.osl 4) (.osl 5) (.osl 6))],fun H l a h=>by
 unfold Si at h
 split at h
 ·split at h
  ·rename_i h0 h1 h2 h3 h4 h5 h6 h7
   obtain⟨v,c,lx,rk,sc,ck,hx,rfl⟩:=Br h7
   cases hx
   cases h
   rw [xA h0,kT h1,kT h2,yc h3,yc h4,kT h5,kT h6]
   exact⟨rfl,rfl⟩
  ·cases h
 ·cases h⟩
def rSG:qw (Src×Gm):=⟨fun H l=>match l with
 | [.agg c]=>hZ (NS H) (Dp c)
 | _=>none,fun a=>(0,.cells (srK a.1) 159)::(1,.gone)::(2,.gone)::(3,.gone)::(4,.gone)::(5,.gone)::(6,.gone)::Kj a.2 7,fun a=>.agg (gmK a.2 (.osl 7) (.osl 8) (.osl 9) (.osl 10) (.osl 11) (.osl 12))⟩
structure DrG (g:Gm):Prop where
 v:az g=true
 f:iU g
 b:GmB 1048576 g
 lx:g.lex=qB
theorem DrG.fd {g:Gm} (h:DrG g):FdP g:=by
 have hv:=oJ h.v
 have hp:=br hv.pl
 have h0:=hv.s0
 have h1:=hv.s1
 have hz:=bdB.fit hv.bd
 unfold bj at h0 h1
 simp only [Bool.and_eq_true] at h0 h1
 refine⟨h.lx,⟨hp.1,by rw [hv.rl];omega⟩,?_,?_,?_⟩
 ·rcases (show g.player=0∨g.player=1 by omega) with e | e<;>rw [e]
  ·exact h0.1
  ·exact h1.1
 ·exact Fd h.b.bd (by decide)
 ·exact⟨by have:=hz.lo;omega,by have:=hz.hi;omega⟩
section
variable {g:Gm} {q:Pl} {n:Int} {t:List UInt8}
theorem CN (h:bz g q n=0):(ey g q n).lex =g.lex:=by
 unfold ey
 rw [if_pos h]
 unfold uV
 split<;>rfl
theorem CW {k:Int} : (l5 g k n).lex =g.lex:=by
 unfold l5
 split<;>rfl
theorem DrG.turn (h:DrG g) (hc:bz g q n=0) (hw:wK q.word):DrG (ey g q n):=by
 refine⟨GQ hc h.f,zL hc h.f,?_,(CN hc).trans h.lx⟩
 unfold ey
 rw [if_pos hc]
 have h1:q.word.length≤12:=hw
 exact GR h.b hc (by omega)
theorem DrG.xt (h:DrG g) (hc:xtC g t n=0):DrG (xtR g t n):=by
 refine⟨RC hc,L8 hc h.f,?_,?_⟩
 ·unfold xtR
  rw [if_pos hc]
  exact Gg (Ua h.b (rM hc).2.2)
 ·unfold xtR
  rw [if_pos hc]
  exact CW.trans h.lx
theorem DrG.pass (h:DrG g) (hc:aO g n=0):DrG (eM g n):=by
 refine⟨NJ hc,HE hc h.f,?_,?_⟩
 ·unfold eM
  rw [if_pos hc]
  exact Gg h.b
 ·unfold eM
  rw [if_pos hc]
  exact CW.trans h.lx
theorem DrG.ps (h:DrG g):PsP g:=by
 have hs:=h.b.s (q:=⟨0,0,false,[]⟩) (by decide) (by decide)
 exact⟨hs.gm,hs.own⟩
theorem DrG.st (h:DrG g) (hw:wK q.word):ER g q:=by
 have h1:q.word.length≤12:=hw
 exact h.b.s (by decide) (by omega)
theorem DrG.xs (h:DrG g) (ht:t.length≤1):XsP g t:=⟨h.ps,by omega⟩
end
def nU (_:Pr):d7:=nsp mSG (fun (σ,g)=>db 999999980000 σ∧DrG g) (fun (σ,g)=>rSG) (fun (σ,g) (τ,x)=>far 1000 σ τ∧DrG x)
theorem Bn:NOk Tryz.prog 249 (nU std):=by
 refine NOk.goE (c:=cxN std [(41,gb std),(36,iX std),(37,mq std)] [(96,aF std),(64,aj std)] [(111,nq std)] 7 (if false then some dU else none) []) (jk (.cons mr (.cons sI (.cons yH .nil))) (.cons ct (.cons aL .nil)) (.cons AM .nil)) mixed Tryz.func249 rfl rfl (by kernel_rfl) ?_
 rintro ⟨σ,g⟩ hp
 dsimp only at hp
 refine⟨rfl,?_⟩
 unfold gb iX mq aF aj nq
 generalize hP:std=p,hB0:pkS=B0,hB1:pkV=B1,hB2:far=B2,hB3:ey=B3,hB4:mg=B4,hB5:bz=B5,hB6:xtR=B6,hB7:xtC=B7,hB8:eM=B8,hB9:aO=B9
 cbv
 repeat' first|refine fun (_:Unit)=>?_;cbv|refine fun (y:Nd _) hy=>?_;cbv|refine aI2 (fun h=>?_) (fun h=>?_)<;>cbv|refine aI2 ?_ ?_|refine Or.inl (fun (_:Unit)=>?_);cbv
 all_goals subst hP hB0 hB1 hB2 hB3 hB4 hB5 hB6 hB7 hB8 hB9
 all_goals try exact fin
 all_goals try simp only [mA,iR,eD,fV,oD,eta_gm]
 all_goals have hd:=hp.2
 all_goals have hs1:=ai hp.1 90
 ·exact hp.1.le (by decide)
 ·exact hs1.le (by decide)
 ·exact hd.fd
 all_goals have hy1:far 700 (pkS σ 90) y.x.1∧wK y.x.2.1.word:=hy
 all_goals have hs2:db 999999980702 y.x.1:=(hy1.1.s _ hs1).le (by decide)
 all_goals have hF:far 702 σ y.x.1:=uf (wI σ 90) hy1.1 (by decide)
 all_goals have hc1:(g.racks.getD g.player.toNat []).length ≤7:=hd.fd.n
 all_goals first
  | exact hs2.le (by decide)
  | exact (ai hs2 8).le (by decide)
  | exact hd.st hy1.2
  | exact hd.ps
  | exact hd.xs (by show (List.take 1 _).length ≤1;rw [List.length_take];omega)
  | exact hd.fd.pl
  | exact (hF.pk 8).le (by decide)
  | exact ((hF.pk 8).pk 2).le (by decide)
  | exact (hF.pk 2).le (by decide)
  | exact hF.le (by decide)
  | exact hd.turn (bV ‹_›) hy1.2
  | exact hd.xt (bV ‹_›)
  | exact hd.pass (bV ‹_›)
  | exact hd
  | skip
end Ax
end Go.Proofs.YtjjonmhpgkahoaaGreatDoor
