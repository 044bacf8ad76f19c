/-
  Games drawn that are seldom not valid; what the laws of turns are asked: walked.
  Conditions: none.
-/
import Derived.Test.YtjjonmhpgkahoaaGreatDoorS33
set_option linter.unusedSimpArgs false
set_option linter.unusedVariables false
namespace Go.Proofs.YtjjonmhpgkahoaaGreatDoor
namespace Ax
set_option maxRecDepth 100000
set_option maxHeartbeats 20000000
structure BeB (g:Gm):Prop where
 b:GmB 1048576 g
 lx:g.lex=allW
 ft:g.bd.Fit
 f:FullR g∨gameB g=false
theorem be_bag {g:Gm} (h:(allT g.ts).length ≤(tilesS (lettersS g.bd)).length + (g.racks.getD 0 []).length + (g.racks.getD 1 []).length + g.bag.length):gameB { g with bag:=g.bag++[101] }=false:=by
 cases hv:gameB { g with bag:=g.bag++[101] } with
 | false=>rfl
 | true=>
   have ht:=(gv_of hv).ti
   unfold gameTiles at ht
   have ht:=congrArg List.length ht
   rw [isort_length] at ht
   simp only [List.length_append,List.length_singleton] at ht
   have ht:(tilesS (lettersS g.bd)).length + (g.racks.getD 0 []).length + (g.racks.getD 1 []).length + (g.bag.length+1)=(allT g.ts).length :=ht
   omega
theorem be_rk {g:Gm} {l:List (List UInt8)} (h:g.racks=l.take 1):gameB g=false:=by
 cases hv:gameB g with
 | false=>rfl
 | true=>
   have h1:=(gv_of hv).rl
   rw [h,List.length_take] at h1
   omega
theorem bt_far {σ Y:Src} {n:Int} (h:far 9000 σ Y):far 9100 σ (pkS (pkS Y 40) n):=((h.pk 40).pk n).le (by omega)
theorem bt_am {σ Y:Src} {l:List Int} (h:far 9000 σ Y):far 9100 σ (pkS (pkS Y 40) l.length):=((h.pk 40).pk _).le (by omega)
theorem wsB_tk {n:Int} {l:List (List UInt8)} (h:WsB n l) (k:Nat):WsB n (l.take k):=by
 refine⟨?_,fun j=>?_⟩
 ·have:=h.l
  rw [List.length_take];omega
 ·have h1:=h.w j
  rw [List.getD_eq_getElem?_getD,List.getElem?_take]
  split
  ·rw [List.getD_eq_getElem?_getD] at h1;exact h1
  ·have h2:=h.l
   show (([]:List UInt8).length : Int)≤n
   have : (([]:List UInt8).length : Int)=0:=rfl
   omega
def sp_s_l18Bent (_:Pr):NSpec:=nsp (mS a0) (fun (σ,_u)=>SrOk 999999800000 σ) (fun (σ,_u)=>rS (aA aGm)) (fun (σ,_u) (τ,x)=>far 9100 σ τ∧BeB x)
theorem ok_s_l18Bent:NOk Tryz.prog 87 (sp_s_l18Bent std):=by
 refine NOk.go (c:=cxN std [] [(64,sp_s_xl00Src_pick std),(66,sp_amongO std)] [(184,sp_s_l18Draw std)] 1 (if false then some stdU else none) []) (cxN_ok .nil (.cons ok_s_xl00Src_pick (.cons ok_amongO .nil)) (.cons ok_s_l18Draw .nil)) mixed Tryz.func87 rfl rfl (by kernel_rfl) ?_
 rintro ⟨σ,_u⟩ hp
 dsimp only at hp
 refine⟨rfl,?_⟩
 unfold sp_s_xl00Src_pick sp_amongO sp_s_l18Draw
 generalize hP:std=p,hB0:pkS=B0,hB1:pkV=B1,hB2:amV=B2,hB3:far=B3
 cbv
 repeat' first
  | (refine fun (_:Unit)=>?_;cbv)
  | (refine fun (y:Nd _) hy=>?_;cbv)
  | (refine aI2 (fun h=>?_) (fun h=>?_)<;>cbv)
  | (refine aI2 ?_ ?_)
  | (refine Or.inl (fun (_:Unit)=>?_);cbv)
 all_goals subst hP hB0 hB1 hB2 hB3
 all_goals try exact fin
 all_goals try exact Int.NonNeg.mk _
 ·exact hp.le (by decide)
 all_goals have hy:far 9000 σ y.x.1∧DrB y.x.2:=hy
 all_goals have h1:SrOk (999999800000+9000) y.x.1:=hy.1.s _ hp
 all_goals have h2:far (9000+2) σ (pkS y.x.1 40):=hy.1.pk 40
 all_goals have h3:DrB y.x.2:=hy.2
 ·exact h1.le (by decide)
 ·exact in64 (by show _≤1-y.x.2.player∧1-y.x.2.player≤_;have h9:0≤y.x.2.player∧y.x.2.player≤1:=h3.pl;omega)
 all_goals try exact (pk_ok h1 40).le (by decide)
 all_goals try exact h2.le (by decide)
 all_goals try exact (⟨by decide,by rw [h3.sl];decide⟩:(0:Int)≤0∧(0:Int)<(y.x.2.scores.length:Int))
 all_goals try exact (⟨by decide,by rw [h3.kl];decide⟩:(0:Int)≤1∧(1:Int)<(y.x.2.clocks.length:Int))
 ·exact bt_am (Y:=y.x.1) (l:=[-1,1-y.x.2.player,2]) hy.1
 ·exact⟨⟨h3.b.ts,h3.b.lx,h3.b.b0,h3.b.bd,h3.b.bag,h3.b.rk,h3.b.sc,h3.b.ck,h3.b.wd,h3.b.bf,h3.b.dr⟩,h3.lx,h3.ft,.inl h3.f⟩
 ·exact bt_am (Y:=y.x.1) (l:=[100000,100001,50000, -50001]) hy.1
 ·refine⟨⟨h3.b.ts,h3.b.lx,h3.b.b0,h3.b.bd,h3.b.bag,h3.b.rk,?_,h3.b.ck,h3.b.wd,h3.b.bf,h3.b.dr⟩,h3.lx,h3.ft,.inl h3.f⟩
  show ((y.x.2.scores.set 0 _).length : Int)≤_
  rw [List.length_set];exact h3.b.sc
 ·exact bt_am (Y:=y.x.1) (l:=[-36000, -36001,36001, -1]) hy.1
 ·refine⟨⟨h3.b.ts,h3.b.lx,h3.b.b0,h3.b.bd,h3.b.bag,h3.b.rk,h3.b.sc,?_,h3.b.wd,h3.b.bf,h3.b.dr⟩,h3.lx,h3.ft,.inl h3.f⟩
  show ((y.x.2.clocks.set 1 _).length : Int)≤_
  rw [List.length_set];exact h3.b.ck
 ·exact bt_am (Y:=y.x.1) (l:=[-1,5,6,1]) hy.1
 all_goals try exact⟨⟨h3.b.ts,h3.b.lx,h3.b.b0,h3.b.bd,h3.b.bag,h3.b.rk,h3.b.sc,h3.b.ck,h3.b.wd,h3.b.bf,h3.b.dr⟩,h3.lx,h3.ft,.inl h3.f⟩
 ·exact in64 (by show _≤(y.x.2.bag.length:Int)+1∧(y.x.2.bag.length:Int)+1≤_;have:=h3.bg;omega)
 ·refine⟨⟨h3.b.ts,h3.b.lx,h3.b.b0,h3.b.bd,?_,h3.b.rk,h3.b.sc,h3.b.ck,h3.b.wd,h3.b.bf,h3.b.dr⟩,h3.lx,h3.ft,.inr (be_bag h3.tl)⟩
  show ((y.x.2.bag++[101]).length : Int)≤_
  have:=h3.bg
  rw [List.length_append,List.length_singleton];omega
 ·have h9:=h3.rl
  show (1:Int)≤(y.x.2.racks.length:Int)
  omega
 ·refine⟨⟨h3.b.ts,h3.b.lx,h3.b.b0,h3.b.bd,h3.b.bag,?_,h3.b.sc,h3.b.ck,h3.b.wd,h3.b.bf,h3.b.dr⟩,h3.lx,h3.ft,.inr (be_rk rfl)⟩
  exact wsB_tk h3.b.rk 1
 ·have h9:=pk_bd (pk_ok h1 40) (n:=6)
  have h10:=h9.2.1 (by decide)
  exact in64 (by show _≤pkV (pkS y.x.1 40) 6-1∧pkV (pkS y.x.1 40) 6-1≤_;omega)
 ·exact bt_far (Y:=y.x.1) (n:=6) hy.1
 ·exact bt_am (Y:=y.x.1) (l:=[-1,4,0,3]) hy.1
 ·exact in64 (by show _≤y.x.2.last.score+1∧y.x.2.last.score+1≤_;have:=h3.ls;omega)
 ·exact bt_am (Y:=y.x.1) (l:=[-1,36000,36001]) hy.1
 ·exact⟨⟨h3.b.ts,h3.b.lx,h3.b.b0,⟨h3.b.bd.c,h3.b.bd.c⟩,h3.b.bag,h3.b.rk,h3.b.sc,h3.b.ck,h3.b.wd,h3.b.bf,h3.b.dr⟩,h3.lx,⟨h3.ft.lo,h3.ft.hi,h3.ft.cells,h3.ft.cells⟩,.inl h3.f⟩
 ·exact⟨⟨h3.b.ts,h3.b.lx,h3.b.bd,h3.b.bd,h3.b.bag,h3.b.rk,h3.b.sc,h3.b.ck,h3.b.wd,h3.b.bf,h3.b.dr⟩,h3.lx,h3.ft,.inl h3.f⟩
end Ax
end Go.Proofs.YtjjonmhpgkahoaaGreatDoor
