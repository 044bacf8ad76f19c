/-
  Games of the spec package: small functions.
  Conditions: none.
-/
import Derived.Test.YtjjonmhpgkahoaaGreatDoorH13
set_option linter.unusedSimpArgs false
set_option linter.unusedVariables false
namespace Go.Proofs.YtjjonmhpgkahoaaGreatDoor
namespace Ax
set_option maxRecDepth 100000
set_option maxHeartbeats 2000000
structure Su where
 ts:TS
 lex:List (List UInt8)
 bd:Bd
 secs:Int
 rule:Int
def gSu (g:Gm):Su:=⟨g.ts,g.lex,g.bd0,g.secs,g.rule⟩
def suK (u:Su) (v c l:PV):List PV:=[.s u.ts.letters,v,c,.i .i64 u.ts.blanks,l,.i .i64 u.bd.size,.s u.bd.prem,.s u.bd.cells,.i .i64 u.secs,.i .i64 u.rule]
def Rb:List PV→Option Su
 | [.s a,.rsl [.i .i64] v,.rsl [.i .i64] c,.i .i64 d,.rsl [.s] l,.i .i64 e,.s f,.s h,.i .i64 m,.i .i64 n]=>some ⟨⟨a,v,c,d⟩,l,⟨e,f,h⟩,m,n⟩
 | _=>none
theorem Mt {l:List PV} {u:Su} (h:Rb l=some u):l=suK u (.rsl [.i .i64] u.ts.values) (.rsl [.i .i64] u.ts.counts) (.rsl [.s] u.lex):=by
 unfold Rb at h
 split at h
 ·cases h;rfl
 ·cases h
def aSu:gi Su:=⟨Rb,fun u=>suK u (.rsl [.i .i64] u.ts.values) (.rsl [.i .i64] u.ts.counts) (.rsl [.s] u.lex),fun _ _=>Mt⟩
def dp (p:Pr):aa:=fsp (a1 aI) (fun n=>True) (fun n=>.b (inR n (-50000) 50000))
theorem kN:FOk Tryz.prog 124 (dp std):=by
 refine FOk.go (c:=cx std [(89,ba std)] [] 0) (ae (.cons dm .nil) .nil) mixed Tryz.func124 rfl rfl rfl (by kernel_rfl) ?_
 rintro n hp
 refine⟨rfl,?_⟩
 unfold ba
 generalize hP:std=p,hB0:inR=B0
 cbv
 repeat' first|refine fun (_:Unit)=>?_;cbv|refine aI2 (fun h=>?_) (fun h=>?_)<;>cbv|refine aI2 ?_ ?_|refine Or.inl (fun (_:Unit)=>?_);cbv
 all_goals subst hP hB0
 all_goals try exact fin
def dY (p:Pr):aa:=fsp (ac (aP aGm) (a1 aS)) (fun (g,s)=>True) (fun (g,s)=>.agg [.i .i64 g.bd.size,.s g.bd.prem,.s s])
theorem mo:FOk Tryz.prog 224 (dY std):=by
 refine FOk.go (c:=cx std [] [] 0) (ae .nil .nil) mixed Tryz.func224 rfl rfl rfl (by kernel_rfl) ?_
 rintro ⟨g,s⟩ hp
 dsimp only at hp
 refine⟨rfl,?_⟩
 generalize hP:std=p
 cbv
 repeat' first|refine fun (_:Unit)=>?_;cbv|refine aI2 (fun h=>?_) (fun h=>?_)<;>cbv|refine aI2 ?_ ?_|refine Or.inl (fun (_:Unit)=>?_);cbv
 all_goals subst hP
 all_goals try exact fin
structure Rq (g:Gm):Prop where
 two:g.racks.length=2
 ply:g.player=0∨g.player=1
theorem QF {g:Gm} (hp:Rq g):std.inL (std.sub 1 g.player) (std.len g.racks):=by
 have:=hp.two
 refine⟨?_,?_⟩
 ·show 0≤1-g.player
  rcases hp.ply with h | h<;>omega
 ·show 1-g.player<(g.racks.length:Int)
  rcases hp.ply with h | h<;>omega
theorem Us {g:Gm} (h:std.eqS g.bag []=true):std.eqS (std.get [] g.racks (std.sub 1 g.player)) []=aT g:=by
 have h:g.bag=[]:=by simpa using h
 unfold aT Gm.rk
 rw [h,Bool.eq_iff_iff]
 simp
theorem Vp {g:Gm} (h:std.eqS g.bag []=false):aT g=false:=by
 have h:g.bag≠[]:=by simpa using h
 unfold aT
 rw [Bool.and_eq_false_iff]
 left
 simp [h]
def bH (p:Pr):aa:=fsp (a1 (aP aGm)) (fun g=>Rq g) (fun g=>.b (aT g))
theorem eP:FOk Tryz.prog 121 (bH std):=by
 refine FOk.go (c:=cx std [] [] 0) (ae .nil .nil) mixed Tryz.func121 rfl rfl rfl (by kernel_rfl) ?_
 rintro g hp
 refine⟨rfl,?_⟩
 generalize hP:std=p,hB0:aT=B0
 cbv
 repeat' first|refine fun (_:Unit)=>?_;cbv|refine aI2 (fun h=>?_) (fun h=>?_)<;>cbv|refine aI2 ?_ ?_|refine Or.inl (fun (_:Unit)=>?_);cbv
 all_goals subst hP hB0
 all_goals try exact fin
 ·exact an (by show _≤1-g.player∧1-g.player≤_;rcases hp.ply with h | h<;>omega)
 ·exact QF hp
 ·exact Us ‹_›
 ·exact Vp ‹_›
structure QO (u:Su):Prop where
 v:u.ts.values.length≤274877906944
 c:u.ts.counts.length≤274877906944
 l:u.lex.length≤274877906944
def cN (p:Pr):aa:=fsp (a1 (aP aSu)) (fun u=>QO u) (fun u=>.agg (suK u (.osl 0) (.osl 1) (.osl 2))) (fun u=>[(0,.own [.i .i64] u.ts.values 2),(1,.own [.i .i64] u.ts.counts 2),(2,.own [.s] u.lex 9)])
theorem jC:FOk Tryz.prog 75 (cN std):=by
 refine FOk.go (c:=cx std [(175,pO std)] [] 0) (ae (.cons D2 .nil) .nil) mixed Tryz.func75 rfl rfl rfl (by kernel_rfl) ?_
 rintro u hp
 refine⟨rfl,?_⟩
 unfold pO
 generalize hP:std=p
 cbv
 repeat' first|refine fun (_:Unit)=>?_;cbv|refine aI2 (fun h=>?_) (fun h=>?_)<;>cbv|refine aI2 ?_ ?_|refine Or.inl (fun (_:Unit)=>?_);cbv
 all_goals subst hP
 all_goals try exact fin
 ·exact aR hp.v
 ·exact aR hp.c
 ·show (0:Int)+u.lex.length≤274877906944
  have:=hp.l;omega
structure GmP (g:Gm):Prop where
 su:QO (gSu g)
 r:g.racks.length≤274877906944
 s:g.scores.length≤274877906944
 k:g.clocks.length≤274877906944
def aV (p:Pr):aa:=fsp (a1 (aP aGm)) (fun g=>GmP g) (fun g=>.agg (gmK g (.osl 0) (.osl 1) (.osl 2) (.osl 3) (.osl 4) (.osl 5))) (fun g=>[(0,.own [.i .i64] g.ts.values 2),(1,.own [.i .i64] g.ts.counts 2),(2,.own [.s] g.lex 9),(3,.own [.s] g.racks 9),(4,.own [.i .i64] g.scores 2),(5,.own [.i .i64] g.clocks 2)])
theorem dk:FOk Tryz.prog 108 (aV std):=by
 refine FOk.go (c:=cx std [(75,cN std),(194,dJ std)] [] 0) (ae (.cons jC (.cons l9 .nil)) .nil) mixed Tryz.func108 rfl rfl rfl (by kernel_rfl) ?_
 rintro g hp
 refine⟨rfl,?_⟩
 unfold cN dJ
 generalize hP:std=p
 cbv
 repeat' first|refine fun (_:Unit)=>?_;cbv|refine aI2 (fun h=>?_) (fun h=>?_)<;>cbv|refine aI2 ?_ ?_|refine Or.inl (fun (_:Unit)=>?_);cbv
 all_goals subst hP
 all_goals try exact fin
 ·exact hp.su
 ·show (0:Int)+g.racks.length≤274877906944
  have:=hp.r;omega
 ·exact aR hp.s
 ·exact aR hp.k
def ckL (g:Gm) (n:Int):List Int:=g.clocks.set g.player.toNat (g.clk g.player-n)
def bp (g:Gm) (n:Int):Gm:={ g with clocks:=ckL g n }
def SM (g g':Gm):AH:=[(0,.cells (gmK g' (.osl 1) (.osl 2) (.osl 3) (.osl 4) (.osl 5) (.osl 7)) 41),(1,.own [.i .i64] g.ts.values 2),(2,.own [.i .i64] g.ts.counts 2),(3,.own [.s] g.lex 9),(4,.own [.s] g.racks 9),
 (5,.own [.i .i64] g.scores 2),(6,.own [.i .i64] g.clocks 2),(7,.own [.i .i64] g'.clocks 2)]
def Va (g g':Gm):AH:=[(0,.cells (gmK g' (.osl 1) (.osl 2) (.osl 3) (.osl 4) (.osl 7) (.osl 6)) 41),(1,.own [.i .i64] g.ts.values 2),(2,.own [.i .i64] g.ts.counts 2),(3,.own [.s] g.lex 9),(4,.own [.s] g.racks 9),
 (5,.own [.i .i64] g.scores 2),(6,.own [.i .i64] g.clocks 2),(7,.own [.i .i64] g'.scores 2)]
structure CkP (g:Gm) (n:Int):Prop where
 len:g.clocks.length=2
 ply:g.player=0∨g.player=1
 num : -72000≤g.clk g.player-n∧g.clk g.player-n≤72000
theorem T5 {g:Gm} {n:Int} (hp:CkP g n):std.inL g.player (std.len g.clocks):=by
 have:=hp.len
 refine⟨?_,?_⟩
 ·rcases hp.ply with h | h<;>omega
 ·show g.player<(g.clocks.length:Int)
  rcases hp.ply with h | h<;>omega
def bF (p:Pr):bX:=msp (mG (a1 aI)) (fun (g,n)=>CkP g n) (fun (g,n)=>.tup []) (fun (g,n)=>SM g { g with clocks:=ckL g n })
theorem eT:MOk Tryz.prog 131 (bF std):=by
 refine MOk.go (c:=cx std [(194,dJ std)] [] 7) (ae (.cons l9 .nil) .nil) mixed Tryz.func131 rfl rfl (by kernel_rfl) ?_
 rintro ⟨g,n⟩ hp
 dsimp only at hp
 refine⟨rfl,?_⟩
 unfold dJ
 generalize hP:std=p,hB0:ckL=B0
 cbv
 repeat' first|refine fun (_:Unit)=>?_;cbv|refine aI2 (fun h=>?_) (fun h=>?_)<;>cbv|refine aI2 ?_ ?_|refine Or.inl (fun (_:Unit)=>?_);cbv
 all_goals subst hP hB0
 all_goals have f1:=T5 hp
 all_goals try exact fin
 ·exact aR (by rw [hp.len];decide)
 ·have:=hp.num
  exact an (by show _≤g.clk g.player-n∧g.clk g.player-n≤_;omega)
structure Es (g:Gm):Prop where
 ts:er g.ts
 rk:g.racks.length=2
 ck:g.clocks.length=2
 len : ∀k:Int,(g.rk k).length ≤7
 clk : ∀k:Int, -36000≤g.clk k
def fK (g:Gm):List Int:=[chg g 0,chg g 1]
section
variable {g:Gm} {k:Int}
theorem zp (hp:Es g) (k:Int):0≤dB g.ts (g.rk k)∧dB g.ts (g.rk k)≤140:=by
 have h1:=MK hp.ts (g.rk k)
 have h2:=hp.len k
 omega
theorem LC (hp:Es g) (k:Int):0≤pen (g.clk k)∧pen (g.clk k)≤6010:=Go.Proofs.YtjjonmhpgkahoaaGreatDoor.pen_bd (hp.clk k)
theorem OC (h:std.eqS (g.rk k) []=true):0-dB g.ts (g.rk k)-pen (g.clk k)+dB g.ts (g.rk (1-k))=chg g k:=by
 have h:g.rk k=[]:=by simpa using h
 unfold chg
 rw [h]
 simp only [List.isEmpty_nil,if_true]
 omega
theorem TB (h:std.eqS (g.rk k) []=false):0-dB g.ts (g.rk k)-pen (g.clk k)=chg g k:=by
 have h:g.rk k≠[]:=by simpa using h
 unfold chg
 rw [if_neg (by simpa using h)]
 omega
theorem EW (hp:Es g) (k:Int) : -10000≤chg g k∧chg g k≤10000:=by
 have h1:=zp hp k
 have h2:=LC hp k
 have h3:=zp hp (1-k)
 unfold chg
 split<;>omega
theorem p6 (h0:0≤k) (h:k<2):(fK g).take k.toNat++[chg g k]=(fK g).take (k+1).toNat :=by
 rw [tk h0 (by show k<2;omega) 0]
 congr 2
 rcases (show k=0∨k=1 from by omega) with rfl | rfl<;>rfl
end
def lh (p:Pr):aa:=fsp (a1 (aP aGm)) (fun g=>Es g) (fun g=>.osl 0) (fun g=>[(0,.own [.i .i64] (fK g) 2)])
theorem xW:FOk Tryz.prog 95 (lh std):=by
 refine FOk.go (c:=cx std [(191,pB std),(98,kd std)] [] 0) (ae (.cons C8 (.cons vN .nil)) .nil) mixed Tryz.func95 rfl rfl rfl (by kernel_rfl) ?_
 rintro g hp
 refine⟨rfl,?_⟩
 unfold pB kd
 obtain⟨H,hH⟩ : ∃H:Hd (Int×List Int),H=⟨fun (k,L)=>0≤k∧k≤2∧L=(fK g).take k.toNat,fun (k,L)=>(2-k).toNat,(· < ·)⟩:=⟨_,rfl⟩
 have hl:=hdl hH
 generalize hP:std=p,hB0:fK=B0,hB1:dB=B1,hB2:pen=B2
 cbv
 repeat' first|refine fun (_:Unit)=>?_;cbv|refine Or.inr ⟨8,[],[.s 4 (.i .i64),.o 0 [.i .i64]],[.s 3],[],H,rfl,hl,?_,fun ((k,L):Int×List Int) hk=>?_⟩<;>cbv|refine aI2 (fun h=>?_) (fun h=>?_)<;>cbv|refine aI2 ?_ ?_
 all_goals subst hP hB0 hB1 hB2 hH
 all_goals clear hl
 all_goals try dsimp only at hk
 all_goals try dsimp only
 all_goals try exact fin
 all_goals obtain⟨q0,q1,rfl⟩:=hk
 all_goals try (have h1:k<2:=ah ‹_›)
 all_goals have a1:=zp hp k
 all_goals have a2:=LC hp k
 all_goals have a3:=zp hp (1-k)
 all_goals have a4:=hp.rk
 all_goals have a5:=hp.ck
 all_goals have a6:=hp.len k
 all_goals have a7:=hp.len (1-k)
 all_goals have a8:=hp.clk k
 ·exact⟨q0,by show k<(g.racks.length:Int);omega⟩
 ·exact aR (n:=(g.rk k).length) (by omega)
 ·exact an (by show _≤0-dB g.ts (g.rk k)∧0-dB g.ts (g.rk k)≤_;omega)
 ·exact⟨q0,by show k<(g.clocks.length:Int);omega⟩
 ·exact a8
 ·exact an (by show _≤0-dB g.ts (g.rk k)-pen (g.clk k)∧0-dB g.ts (g.rk k)-pen (g.clk k)≤_;omega)
 ·exact⟨q0,by show k<(g.racks.length:Int);omega⟩
 ·exact⟨by show 0≤1-k;omega,by show 1-k<(g.racks.length:Int);omega⟩
 ·exact aR (n:=(g.rk (1-k)).length) (by omega)
 ·exact an (by show _≤0-dB g.ts (g.rk k)-pen (g.clk k)+dB g.ts (g.rk (1-k))∧0-dB g.ts (g.rk k)-pen (g.clk k)+dB g.ts (g.rk (1-k))≤_;omega)
 ·show (((fK g).take k.toNat).length : Int)+1≤_
  rw [List.length_take];omega
 ·refine⟨by show 0≤k+1;omega,by show k+1≤2;omega,?_⟩
  show (fK g).take k.toNat++[0-dB g.ts (g.rk k)-pen (g.clk k)+dB g.ts (g.rk (1-k))]=(fK g).take (k+1).toNat
  rw [OC (k:=k) ‹_›,p6 q0 h1]
 ·show (((fK g).take k.toNat).length : Int)+1≤_
  rw [List.length_take];omega
 ·refine⟨by show 0≤k+1;omega,by show k+1≤2;omega,?_⟩
  show (fK g).take k.toNat++[0-dB g.ts (g.rk k)-pen (g.clk k)]=(fK g).take (k+1).toNat
  rw [TB (k:=k) ‹_›,p6 q0 h1]
 ·rw [bZ (show ((fK g).length : Int)≤k from ao ‹_›)]
structure rZ (g:Gm):Prop where
 en:Es g
 len:g.scores.length=2
 lo : ∀k:Int, -1000000≤g.sc k
 hi : ∀k:Int,g.sc k≤1000000
def fN (g:Gm):List Int:=[g.sc 0+chg g 0,g.sc 1+chg g 1]
theorem Hj {L:List Int} (h:L.length=2):std.inL 0 (std.len L):=⟨Int.le_refl 0,by show (0:Int)<(L.length:Int);omega⟩
theorem Hg {L:List Int} (h:L.length=2):std.inL 1 (std.len L):=⟨by decide,by show (1:Int)<(L.length:Int);omega⟩
theorem vY {g:Gm} (h:rZ g) (k:Int) : -9223372036854775808≤g.sc k+chg g k∧g.sc k+chg g k≤9223372036854775807:=by
 have h1:=EW h.en k
 have h2:=h.lo k
 have h3:=h.hi k
 omega
def bc (p:Pr):bX:=msp (mG a0) (fun (g,_u)=>rZ g) (fun (g,_u)=>.tup []) (fun (g,_u)=>Va g { g with scores:=fN g,over:=true })
theorem dy:MOk Tryz.prog 132 (bc std):=by
 refine MOk.go (c:=cx std [(95,lh std)] [] 7) (ae (.cons xW .nil) .nil) mixed Tryz.func132 rfl rfl (by kernel_rfl) ?_
 rintro ⟨g,_u⟩ hp
 dsimp only at hp
 refine⟨rfl,?_⟩
 unfold lh
 generalize hP:std=p,hB0:fK=B0,hB1:fN=B1
 cbv
 repeat' first|refine fun (_:Unit)=>?_;cbv|refine aI2 (fun h=>?_) (fun h=>?_)<;>cbv|refine aI2 ?_ ?_|refine Or.inl (fun (_:Unit)=>?_);cbv
 all_goals subst hP hB0 hB1
 all_goals try exact fin
 ·exact Hj hp.len
 ·exact Hj hp.len
 ·exact Hj (L:=fK g) rfl
 ·exact Hj (L:=fK g) rfl
 ·exact an (vY hp 0)
 ·exact Hg hp.len
 ·exact Hg hp.len
 ·exact Hg (L:=fK g) rfl
 ·exact Hg (L:=fK g) rfl
 ·exact an (vY hp 1)
def xp:Option UInt8→List UInt8→List Int→List Int→Bool
 | p,a::r,v::vs,c::cs=>aZ a&&(Ce p a&&(inR v 0 20&&(inR c 1 20&&xp (some a) r vs cs)))
 | _,_,_,_=>true
theorem C4 : ∀(l:List UInt8) (p:Option UInt8) (vs cs:List Int),vs.length=l.length→cs.length=l.length→xp p l vs cs=(eV p l&&vcB vs cs)
 | [],p,[],[],_,_=>rfl
 | [],_,_::_,_,h,_=>by simp at h
 | [],_,[],_::_,_,h=>by simp at h
 | _::_,_,[],_,h,_=>by simp at h
 | _::_,_,_::_,[],_,h=>by simp at h
 | a::l,p,v::vs,c::cs,h1,h2=>by
   rw [xp,eV,vcB,C4 l (some a) vs cs (by simpa using h1) (by simpa using h2)]
   cases aZ a<;>cases Ce p a<;>cases inR v 0 20<;>cases inR c 1 20<;>cases eV (some a) l<;>simp
theorem xF : ∀(l:List UInt8) (q:UInt8),eV (some q) l=true→aZ q=true→l.length+q.toNat≤122
 | [],q,_,hq=>by
   unfold aZ at hq
   simp only [Bool.and_eq_true,decide_eq_true_eq] at hq
   simp only [List.length_nil]
   omega
 | a::r,q,h,_=>by
   rw [eV] at h
   simp only [Bool.and_eq_true,Ce,decide_eq_true_eq] at h
   have h2:=xF r a h.2.2 h.1
   rw [List.length_cons]
   omega
theorem y6 {l:List UInt8} (h:eV none l=true):l.length≤26:=by
 match l,h with
 | [],_=>exact Nat.zero_le _
 | a::r,h=>
   rw [eV] at h
   simp only [Bool.and_eq_true] at h
   have h2:=xF r a h.2.2 h.1
   have h3:=h.1
   unfold aZ at h3
   simp only [Bool.and_eq_true,decide_eq_true_eq] at h3
   rw [List.length_cons]
   omega
def tG (l:List UInt8) (k:Nat):Option UInt8:=if k=0 then none else l[k-1]?
theorem EB (L:List UInt8) (V C:List Int) (k:Nat) (h:k<L.length) (h1:k<V.length) (h2:k<C.length) :
 xp (tG L k) (L.drop k) (V.drop k) (C.drop k)=(aZ L[k]&&(Ce (tG L k) L[k]&&(inR V[k] 0 20&&(inR C[k] 1 20&&xp (tG L (k+1)) (L.drop (k+1)) (V.drop (k+1)) (C.drop (k+1)))))):=by
 have e:tG L (k+1)=some L[k]:=by unfold tG;rw [if_neg (by omega)];simp
 rw [e,List.drop_eq_getElem_cons h,List.drop_eq_getElem_cons h1,List.drop_eq_getElem_cons h2]
 rfl
theorem oQ (t:TS):tsB t=(inR t.letters.length 1 26&&(decide (t.values.length=t.letters.length)&&(decide (t.counts.length=t.letters.length)&&(inR t.blanks 0 4&&(xp none t.letters t.values t.counts&&decide (t.blanks+t.counts.sum≤120)))))):=by
 unfold tsB
 by_cases h1:t.values.length=t.letters.length
 ·by_cases h2:t.counts.length=t.letters.length
  ·rw [C4 _ _ _ _ h1 h2,decide_eq_true h1,decide_eq_true h2]
   cases hs:eV none t.letters
   ·simp
   ·have:=y6 hs
    have e:inR (t.letters.length:Int) 1 26=decide (1≤t.letters.length):=by
     unfold inR
     rw [Bool.eq_iff_iff]
     simp
     omega
    rw [e]
    simp
  ·rw [decide_eq_false h2]
   simp
 ·rw [decide_eq_false h1]
  simp
def trK (t:TS) (k:Int):Bool:=xp (tG t.letters k.toNat) (t.letters.drop k.toNat) (t.values.drop k.toNat) (t.counts.drop k.toNat)
def Is (t:TS) (k:Int):Bool:=Ce (tG t.letters k.toNat) (t.letters.getD k.toNat 0)
section
variable {t:TS} {k:Int}
theorem My (hv:t.values.length=t.letters.length) (hc:t.counts.length=t.letters.length) (h0:0≤k) (h:k<t.letters.length):trK t k=(inR (std.byte t.letters k) 97 122&&(Is t k&&(inR (std.get 0 t.values k) 0 20&&(inR (std.get 0 t.counts k) 1 20&&trK t (k+1))))):=by
 have h1:k.toNat<t.letters.length:=by omega
 unfold trK Is
 rw [EB _ _ _ _ h1 (by omega) (by omega),show (k+1).toNat =k.toNat+1 from by omega,Bh,AF,AF]
 simp only [List.getD_eq_getElem?_getD,List.getElem?_eq_getElem h1,List.getElem?_eq_getElem (show k.toNat<t.values.length by omega),List.getElem?_eq_getElem (show k.toNat<t.counts.length by omega),Option.getD_some]
 congr 1
theorem QC (h0:0≤k) (h:std.ltI 0 k=false):Is t k=true:=by
 have h1:=ao h
 have h2:k.toNat=0:=by omega
 unfold Is tG
 rw [h2,if_pos rfl];rfl
theorem Rv (h0:std.ltI 0 k=true) (h:k<t.letters.length):Is t k=!(std.leI (std.byte t.letters k) (std.byte t.letters (std.sub k 1))):=by
 have h1:=ah h0
 unfold Is tG
 rw [if_neg (by omega)]
 simp only [ET,Bh,An]
 rw [show (k-1).toNat =k.toNat-1 from by omega]
 rw [List.getD_eq_getElem?_getD (i:=k.toNat-1),List.getElem?_eq_getElem (show k.toNat-1<t.letters.length by omega)]
 show decide _=_
 rw [Bool.eq_iff_iff]
 simp
theorem zc (e:tsB t=(trK t k&&decide (t.blanks+t.counts.sum≤120))) {a r v n z:Bool} (st:trK t k=(a&&(r&&(v&&(n&&z))))) (h:(a&&(r&&(v&&n)))=false):tsB t=false:=by
 rw [e,st]
 revert h
 cases a<;>cases r<;>cases v<;>cases n<;>simp
end
theorem T9 {t:TS} (h:inR t.letters.length 1 26=false):tsB t=false:=by rw [oQ,h];rfl
theorem TN {t:TS} (h : ¬t.values.length=t.letters.length):tsB t=false:=by rw [oQ,decide_eq_false h];simp
theorem TZ {t:TS} (h : ¬t.counts.length=t.letters.length):tsB t=false:=by rw [oQ,decide_eq_false h];simp
theorem TM {t:TS} (h:inR t.blanks 0 4=false):tsB t=false:=by rw [oQ,h];simp
theorem Sr {t:TS} (h:inR t.letters.length 1 26=true) (h2:t.values.length=t.letters.length) (h3:t.counts.length=t.letters.length) (h4:inR t.blanks 0 4=true):tsB t=(trK t 0&&decide (t.blanks+t.counts.sum≤120)):=by
 rw [oQ,h,decide_eq_true h2,decide_eq_true h3,h4];rfl
theorem zD {L:List Int} {s:List UInt8} (h:std.eqI (std.len L) (std.lenS s)=true):L.length=s.length:=by
 simp only [lu,nZ,gG,beq_iff_eq] at h;omega
theorem Gb {L:List Int} {s:List UInt8} (h:std.eqI (std.len L) (std.lenS s)=false) : ¬L.length=s.length:=by
 simp only [lu,nZ,gG,beq_eq_false_iff_ne,ne_eq] at h;omega
theorem br {a b c:Int} (h:inR a b c=true):b≤a∧a≤c:=by simpa [inR] using h
structure TsL (t:TS):Prop where
 l:t.letters.length≤274877906944
 v:t.values.length≤274877906944
 c:t.counts.length≤274877906944
def lH (p:Pr):aa:=fsp (a1 (aP aTs)) (fun t=>TsL t) (fun t=>.b (tsB t))
theorem xg:FOk Tryz.prog 171 (lH std):=by
 refine FOk.go (c:=cx std [(89,ba std),(236,cg std)] [] 0) (ae (.cons dm (.cons gk .nil)) .nil) mixed Tryz.func171 rfl rfl rfl (by kernel_rfl) ?_
 rintro t hp
 refine⟨rfl,?_⟩
 unfold ba cg
 obtain⟨H,hH⟩ : ∃H:Hd (Int×Int),H=⟨fun (m,k)=>0≤k∧k≤t.letters.length∧m=t.blanks+(t.counts.take k.toNat).sum ∧0≤m∧m≤4+20*k∧tsB t=(trK t k&&decide (t.blanks+t.counts.sum≤120)),fun (m,k)=>(t.letters.length-k).toNat,(· < ·)⟩:=⟨_,rfl⟩
 have hl:=hdl hH
 generalize hP:std=p,hB0:tsB=B0,hB1:aZ=B1,hB2:inR=B2,hB3:u8=B3
 cbv
 repeat' first|refine fun (_:Unit)=>?_;cbv|refine Or.inr ⟨44,[],[.s 4 (.i .i64),.s 5 (.i .i64)],[],[],H,rfl,hl,?_,fun ((m,k):Int×Int) hk=>?_⟩<;>cbv|refine aI2 (fun h=>?_) (fun h=>?_)<;>cbv|refine aI2 ?_ ?_
 all_goals subst hP hB0 hB1 hB2 hB3 hH
 all_goals clear hl
 all_goals try dsimp only at hk
 all_goals try dsimp only
 all_goals try exact fin
 ·exact TM ‹_›
 ·have b4:=br (show inR t.blanks 0 4=true by assumption)
  exact⟨Int.le_refl 0,Int.natCast_nonneg _,by simp,b4.1,b4.2,Sr ‹_› (zD ‹_›) (zD ‹_›) ‹_›⟩
 all_goals try (have b1:=br (show inR (t.letters.length:Int) 1 26=true by assumption))
 all_goals try (have b2:=zD (L:=t.values) (s:=t.letters) ‹_›)
 all_goals try (have b3:=zD (L:=t.counts) (s:=t.letters) ‹_›)
 all_goals try (obtain⟨q0,q1,q2,q3,q4,e⟩:=hk)
 all_goals try (have h1:k<t.letters.length:=ah ‹_›)
 all_goals try (have st:=My b2 b3 q0 h1)
 all_goals try (have r0:=QC (t:=t) q0 ‹_›)
 all_goals try (have r1:=Rv (t:=t) (k:=k) ‹_› h1)
 all_goals try (have c1:=br (show inR (std.get 0 t.counts k) 1 20=true by assumption))
 all_goals try (have c2:=mI (L:=t.counts) q0 (by omega))
 ·exact an (by show _≤k-1∧k-1≤_;omega)
 ·exact zc e st (by rw [show inR (std.get 0 t.counts k) 1 20=false by assumption];simp)
 ·exact an (by show _≤m+std.get 0 t.counts k∧m+std.get 0 t.counts k≤_;omega)
 ·exact an (by show _≤k+1∧k+1≤_;omega)
 ·have g1:k+1≤(t.letters.length:Int):=by omega
  refine⟨by show 0≤k+1;omega,g1,by show m+std.get 0 t.counts k=t.blanks+(t.counts.take (k+1).toNat).sum;rw [c2];simp only [AF];omega,by show 0≤m+std.get 0 t.counts k;omega,by show m+std.get 0 t.counts k≤4+20*(k+1);omega,?_⟩
  rw [e,st,r1,show inR (std.byte t.letters k) 97 122=true by assumption,show std.leI (std.byte t.letters k) (std.byte t.letters (std.sub k 1))=false by assumption,show inR (std.get 0 t.values k) 0 20=true by assumption,show inR (std.get 0 t.counts k) 1 20=true by assumption]
  rfl
 ·exact zc e st (by rw [show inR (std.get 0 t.values k) 0 20=false by assumption];simp)
 ·exact zc e st (by rw [r1,show std.leI (std.byte t.letters k) (std.byte t.letters (std.sub k 1))=true by assumption];simp)
 ·exact zc e st (by rw [show inR (std.get 0 t.counts k) 1 20=false by assumption];simp)
 ·exact an (by show _≤m+std.get 0 t.counts k∧m+std.get 0 t.counts k≤_;omega)
 ·have g1:k+1≤(t.letters.length:Int):=by omega
  refine⟨by show 0≤k+1;omega,g1,by show m+std.get 0 t.counts k=t.blanks+(t.counts.take (k+1).toNat).sum;rw [c2];simp only [AF];omega,by show 0≤m+std.get 0 t.counts k;omega,by show m+std.get 0 t.counts k≤4+20*(k+1);omega,?_⟩
  rw [e,st,r0,show inR (std.byte t.letters k) 97 122=true by assumption,show inR (std.get 0 t.values k) 0 20=true by assumption,show inR (std.get 0 t.counts k) 1 20=true by assumption]
  rfl
 ·exact zc e st (by rw [show inR (std.get 0 t.values k) 0 20=false by assumption];simp)
 ·exact zc e st (by rw [show inR (std.byte t.letters k) 97 122=false by assumption];simp)
 ·have h2:(t.letters.length:Int)≤k:=ao ‹_›
  rw [e,q2,bZ (by omega)]
  unfold trK
  rw [dn h2]
  rfl
 ·exact TZ (Gb ‹_›)
 ·exact TN (Gb ‹_›)
 ·exact T9 ‹_›
end Ax
end Go.Proofs.YtjjonmhpgkahoaaGreatDoor
