/-
  The laws package: the sizes of plays, of boards, of games.
  Conditions: none.
-/
import Derived.Test.YtjjonmhpgkahoaaGreatDoorH10
import Derived.Test.YtjjonmhpgkahoaaGreatDoorH14
import Derived.Test.YtjjonmhpgkahoaaGreatDoorH18
import Derived.Test.YtjjonmhpgkahoaaGreatDoorH16
set_option linter.unusedSimpArgs false
set_option linter.unusedVariables false
namespace Go.Proofs.YtjjonmhpgkahoaaGreatDoor
namespace Ax
set_option maxRecDepth 100000
set_option maxHeartbeats 2000000
@[simp] theorem Rk (g:Gm):Su.mk g.ts g.lex g.bd0 g.secs g.rule=gSu g:=rfl
section
variable {n:Int} {g:Gm}
end
structure TsN (t:TS):Prop where
 v:(t.values.length:Int)≤1073741824
 c:(t.counts.length:Int)≤1073741824
structure SuN (u:Su):Prop where
 ts:TsN u.ts
 l:(u.lex.length:Int)≤1073741824
structure GmN (g:Gm):Prop where
 su:SuN (gSu g)
 r:(g.racks.length:Int)≤1073741824
 s:(g.scores.length:Int)≤1073741824
 k:(g.clocks.length:Int)≤1073741824
section
variable {α:Type} {l L:List α} {k:Int} {d:α}
end
def qeN (a b:List Int):Bool:=a==b
def qeW (a b:List (List UInt8)):Bool:=a==b
def HZ (a b:TS):Bool:=a.letters==b.letters&&(qeN a.values b.values&&(qeN a.counts b.counts&&a.blanks==b.blanks))
theorem OO (a:List Int):qeN a a=true:=by simp [qeN]
theorem GP (a:List (List UInt8)):qeW a a=true:=by simp [qeW]
theorem PZ (a:TS):HZ a a=true:=by simp [HZ,OO]
section
variable {α:Type} {a b:List α} {k:Int} {d:α}
theorem FK (h0:0≤k) (h1:k<a.length) (hl:a.length=b.length) (h:a.take k.toNat=b.take k.toNat) (he:a.getD k.toNat d=b.getD k.toNat d):a.take (k+1).toNat =b.take (k+1).toNat :=by
 rw [tk h0 h1 d,tk h0 (by omega) d,h,he]
theorem F7 (h1:(a.length:Int)≤k) (hl:a.length=b.length) (h:a.take k.toNat=b.take k.toNat):a=b:=by
 rw [←bZ h1,h,bZ (by omega)]
theorem Hi (he:a.getD k.toNat d≠b.getD k.toNat d):a≠b:=fun h=>he (by rw [h])
end
section
variable {P:Program} {f:FuncId} {α:Type}
theorem FOk.casesE {A:gi α} {pre1 pre2 pre:α→Prop} {v1 v2 v:α→PV} {e1 e2 e:α→AH} (h1:FOk P f (fsp A pre1 v1 e1)) (h2:FOk P f (fsp A pre2 v2 e2)) (hd : ∀a,pre a→(pre1 a∧v1 a=v a∧e1 a=e a)∨(pre2 a∧v2 a=v a∧e2 a=e a)):FOk P f (fsp A pre v e):=by
 refine⟨h1.fn,fun args out hs hp=>?_⟩
 unfold fsp at hs
 split at hs
 ·rename_i a ha
  cases hs
  rcases hd a (hp _ (List.mem_cons_self ..)) with ⟨g1,g2,g3⟩ | ⟨g1,g2,g3⟩
  ·have:=h1.run args ⟨[pre1 a],v1 a,e1 a⟩ (by unfold fsp;rw [ha]) (fun p hm=>by rw [List.mem_singleton.1 hm];exact g1)
   rw [g2,g3] at this
   intro w e vals hz hl
   refine (this w e vals hz hl).mono ?_
   rintro en w' ⟨u,e',rfl,hP⟩
   exact⟨u,e',rfl,by cases hP;constructor<;>assumption⟩
  ·have:=h2.run args ⟨[pre2 a],v2 a,e2 a⟩ (by unfold fsp;rw [ha]) (fun p hm=>by rw [List.mem_singleton.1 hm];exact g1)
   rw [g2,g3] at this
   intro w e vals hz hl
   refine (this w e vals hz hl).mono ?_
   rintro en w' ⟨u,e',rfl,hP⟩
   exact⟨u,e',rfl,by cases hP;constructor<;>assumption⟩
 ·cases hs
def LZ:List (Nat×Ob)→Bool
 | []=>true
 | (_,.own _ [] _)::r=>LZ r
 | _=>false
theorem DJ : ∀{H:AH} {k:Nat} {o:Ob},LZ H=true→H.get k=some o→∃sh t,o=.own sh [] t
 | [],k,o,_,h=>by simp [AH.get] at h
 | (j,x)::r,k,o,hn,h=>by
   unfold LZ at hn
   unfold AH.get at h
   split at hn
   ·rename_i h0;cases h0
   ·rename_i h0
    cases h0
    split at h
    ·cases h;exact⟨_,_,rfl⟩
    ·exact DJ hn h
   ·cases hn
theorem FOk.own {A:gi α} {pre:α→Prop} {v v':α→PV} {H:AH} (h:FOk P f (fsp A pre v)) (hH:LZ H=true)
 (hd : ∀a w e u,(∀k,(H.get k).isSome =true→e.on k∧e.adr k=none∧e.len k=0∧e.cap k=0)→R w e (v a) u→R w e (v' a) u):FOk P f (fsp A pre v' fun _=>H):=by
 refine⟨h.fn,fun args out hs hp w e vals hz hl=>?_⟩
 unfold fsp at hs
 split at hs
 ·rename_i a ha
  cases hs
  refine (h.run args ⟨[pre a],v a,[]⟩ (by unfold fsp;rw [ha]) hp w e vals hz hl).mono ?_
  rintro en w' ⟨u,e',rfl,hP⟩
  have hoff : ∀k,¬e'.on k:=fun k hk=>(hP.new k hk).elim (fun h=>h) (fun h=>by have h2:=h.2;simp [AH.get] at h2)
  have hle:e'.Le ⟨fun _=>none,fun _=>0,fun _=>0,e'.fz,fun k=>(H.get k).isSome =true,fun k=>(H.get k).isSome =true⟩:=⟨fun k hk=>(hoff k hk).elim,fun k hk=>(hoff k hk).elim,fun k hk=>(hoff k hk).elim,fun k hk=>(hoff k hk).elim,fun _ h=>h⟩
  have hb : ∀k b,¬Env.blk ⟨fun _=>none,fun _=>0,fun _=>0,e'.fz,fun k=>(H.get k).isSome =true,fun k=>(H.get k).isSome =true⟩ k b:=fun k b ⟨x,hx,_⟩=>by cases hx
  refine⟨u,_,rfl,hd a _ _ _ (fun k hk=>⟨hk,rfl,rfl,rfl⟩) (jt (fun _ _=>rfl) hle _ _ hP.val),⟨fun k hk=>hk.elim,fun k hk=>hk.elim,fun k hk=>hk.elim,fun k hk=>hk.elim,fun b hb=>hP.le.fz b hb⟩,
   ⟨fun b hb=>hP.fz.fz b hb,fun k b _ _ hk=>(hb k b hk).elim⟩,fun k o ho=>?_,fun k hk=>.inr ⟨Nat.zero_le _,hk⟩,fun k hk=>.inr ⟨fun h=>h,hk,fun b h=>(hb k b h).elim⟩,fun k hk=>hk.elim,fun k k' b _ _ _ _ hk=>(hb k b hk).elim,⟨hP.chg.os,hP.chg.tape,hP.chg.output,hP.chg.size,fun b hb _=>hP.chg.block b hb fun ⟨k,hk,_⟩=>hk.elim⟩⟩
  obtain⟨sh,t,rfl⟩:=DJ hH ho
  exact⟨⟨rfl,.inl ⟨rfl,rfl,rfl⟩⟩,by show (H.get k).isSome =true;rw [ho];rfl,fun _=>by show (H.get k).isSome =true;rw [ho];rfl⟩
 ·cases hs
theorem xz {w:World} {e:Env} {k:Nat} {u:Value} (h:e.on k∧e.adr k=none∧e.len k=0∧e.cap k=0) (hr:R w e .esl u):R w e (.osl k) u:=by
 unfold R at *
 exact⟨h.1,by rw [h.2.1,h.2.2.1,h.2.2.2];exact hr⟩
inductive Fol (w:World) (e:Env):List PV→List PV→Prop
 | nil:Fol w e [] []
 | cons {p q:PV} {l r:List PV} (h : ∀u,R w e p u→R w e q u) (t:Fol w e l r):Fol w e (p::l) (q::r)
theorem EI {w:World} {e:Env} : ∀{l r:List PV},Fol w e l r→∀{vs:List Value},Rs w e l vs→Rs w e r vs
 | _,_,.nil,_,h=>h
 | _,_,.cons h t,vs,hs=>by
   unfold Rs at hs ⊢
   obtain⟨u,us,rfl,h1,h2⟩:=hs
   exact⟨u,us,rfl,h u h1,EI t h2⟩
theorem l8 {w:World} {e:Env} {l r:List PV} (h:Fol w e l r) : ∀u,R w e (.agg l) u→R w e (.agg r) u:=fun u hr=>by
 unfold R at hr ⊢
 obtain⟨vs,rfl,h1⟩:=hr
 exact⟨vs,rfl,EI h h1⟩
theorem nC {w:World} {e:Env} {l r:List PV} (h:Fol w e l r) : ∀u,R w e (.tup l) u→R w e (.tup r) u:=fun u hr=>by
 unfold R at hr ⊢
 obtain⟨vs,rfl,h1⟩:=hr
 exact⟨vs,rfl,EI h h1⟩
end
theorem tB {w:World} {e:Env} (h : ∀k,((km gm0).get k).isSome =true→e.on k∧e.adr k=none∧e.len k=0∧e.cap k=0):Fol w e (gmK gm0 .esl .esl .esl .esl .esl .esl) (fe gm0):=by
 unfold fe gmK
 repeat' first|exact .nil|refine .cons ?_ ?_|exact fun _ h=>h|exact fun _ hr=>xz (h _ rfl) hr
set_option maxHeartbeats 20000000
structure PsP (g:Gm):Prop where
 gm:GmL g
 own:GmP g
structure PsY (g:Gm) (n:Int) (x:Bool):Prop where
 b:PsP g
 c:aO g n=0
 e:ja g=x
structure PsN (g:Gm) (n:Int):Prop where
 b:PsP g
 c:aO g n≠0
section
variable {g:Gm} {n k:Int} {t:List UInt8}
theorem pz1 (hc:aO g n=0) (h:std.eqI (aO g n) 0=false):False:=dI h hc
theorem pz2 (hc:aO g n≠0) (h:std.eqI (aO g n) 0=true):False:=hc (bV h)
theorem HG (hc:aO g n=0):SyG g n:=syg (by simpa using hc)
theorem O0 (hG:SyG g n):CkP g n:=by
 have:=hG.c;have:=hG.nb;have h3:=hG.ok.clk g.player;have h4:=hG.fa.ply
 exact⟨hG.fa.k,by omega,by omega,by omega⟩
theorem Tn (hc:aO g n=0) : -10≤g.zeros∧g.zeros≤10:=by
 have h:=sg (g:=g) (n:=n) (by simpa using hc)
 unfold az kq at h
 simp only [Bool.and_eq_true] at h
 have:=br h.2.1.2.2.2.2
 omega
theorem SK (hc:aO g n=0):ZrP g k n:=by
 have hG:=HG hc
 have h4:=hG.fa.ply
 exact⟨O0 hG,⟨hG.r2,by omega⟩,Tn hc⟩
theorem Se (hc:aO g n=0):ZrP (xtG g t) k n:=by
 have hG:=HG hc
 have h:=O0 hG
 have h4:=hG.fa.ply
 exact⟨⟨h.len,h.ply,h.num⟩,⟨by show (g.racks.set _ _).length =2;rw [List.length_set];exact hG.r2,by show g.player=0∨g.player=1;omega⟩,(show -10≤g.zeros∧g.zeros≤10 from Tn hc)⟩
theorem UY (hc:aO g n=0):rZ (om g k n):=by
 have hG:=HG hc
 exact Dd hG (r:=g.racks) (b:=g.bag) hG.r2 fun k=>bP (hG.ok.rk k)
theorem Vn (hc:aO g n=0) (h:exC g.bag (g.rk g.player) t=0):rZ (om (xtG g t) k n):=by
 have hG:=HG hc
 exact Dd hG (by rw [List.length_set];exact hG.r2) fun k=>P3 (Bb h) (fun k=>bP (hG.ok.rk k)) _ k
theorem xt0 (h:xtC g t n=0):aO g n=0:=bV (rM h).1
theorem xz1 (hc:xtC g t n=0) (h:std.eqI (aO g n) 0=false):False:=dI h (xt0 hc)
theorem xz2 (hc:xtC g t n=0) (h:cu t=false):False:=by have:=(rM hc).2.1;rw [h] at this;cases this
theorem xz3 (hc:xtC g t n=0) (h:std.eqI (exC g.bag (g.rk g.player) t) 0=false):False:=dI h (rM hc).2.2
theorem VS (h:cu t=false):xtC g t n=1:=by unfold xtC;rw [h];rfl
theorem VF (h:cu t=true) (h2:std.eqI (aO g n) 0=false):xtC g t n=aO g n:=by unfold xtC;rw [if_pos h,if_neg (dI h2)]
theorem Tg (h2:std.eqI (aO g n) 0=true):xtC g t n=exC g.bag (g.rk g.player) t:=by
 unfold xtC
 by_cases h:cu t=true
 ·rw [if_pos h,if_pos (bV h2)]
 ·rw [if_neg h]
  unfold exC
  rw [show cu t=false by simpa using h];simp
theorem SJ (h:std.eqI (aO g n) 1=true):xtC g t n=aO g n:=by
 have h1:=bV h
 unfold xtC
 split
 ·rw [if_neg (by rw [h1];decide)]
 ·exact h1.symm
theorem xz4 (hc:xtC g t n≠0) (h2:std.eqI (aO g n) 0=true) (h:std.eqI (exC g.bag (g.rk g.player) t) 0=true):False:=by
 apply hc
 rw [Tg h2];exact bV h
end
def vq (p:Pr):aa:=fsp (ac (aA aGm) (a1 aI)) (fun (g,n)=>PsY g n true) (fun (g,n)=>.tup [.agg (gmK ⟨g.ts,g.lex,g.bd0,g.secs,g.rule,⟨g.bd.size,g.bd.prem,g.bd.cells⟩,g.bag,g.racks,zSc g 3 n,ckL g n,zPl g,zZr g,⟨3,g.player,⟨0,0,false,[]⟩,[],[],0,0⟩,true⟩ (.osl 0) (.osl 1) (.osl 2) (.osl 3) (.osl 4) (.osl 5)),.i .i64 0]) (fun (g,n)=>[(0,.own [.i .i64] g.ts.values 2),(1,.own [.i .i64] g.ts.counts 2),(2,.own [.s] g.lex 9),(3,.own [.s] g.racks 9),(4,.own [.i .i64] (zSc g 3 n) 2),(5,.own [.i .i64] (ckL g n) 2)])
theorem vO:FOk Tryz.prog 37 (vq std):=by
 refine FOk.go (c:=cx std [(105,aG std),(108,aV std)] [(109,ff std)] 0) (ae (.cons cy (.cons dk .nil)) (.cons oX .nil)) mixed Tryz.func37 rfl rfl rfl (by kernel_rfl) ?_
 rintro ⟨g,n⟩ hp
 dsimp only at hp
 refine⟨rfl,?_⟩
 unfold aG aV ff
 generalize hP:std=p,hB0:aO=B0,hB1:ckL=B1,hB2:zSc=B2,hB3:zPl=B3,hB4:zZr=B4
 cbv
 repeat' first|refine fun (_:Unit)=>?_;cbv|refine aI2 (fun h=>?_) (fun h=>?_)<;>cbv|refine aI2 ?_ ?_|refine Or.inl (fun (_:Unit)=>?_);cbv
 all_goals subst hP hB0 hB1 hB2 hB3 hB4
 all_goals try (exfalso;exact pz1 hp.c ‹_›)
 all_goals try exact fin
 all_goals first
  | exact hp.b.gm
  | exact hp.b.own
  | exact⟨SK hp.c,hp.e,UY hp.c⟩
  | skip
def vv (p:Pr):aa:=fsp (ac (aA aGm) (a1 aI)) (fun (g,n)=>PsY g n false) (fun (g,n)=>.tup [.agg (gmK ⟨g.ts,g.lex,g.bd0,g.secs,g.rule,⟨g.bd.size,g.bd.prem,g.bd.cells⟩,g.bag,g.racks,g.scores,ckL g n,zPl g,zZr g,⟨3,g.player,⟨0,0,false,[]⟩,[],[],0,0⟩,g.over⟩ (.osl 0) (.osl 1) (.osl 2) (.osl 3) (.osl 4) (.osl 5)),.i .i64 0]) (fun (g,n)=>[(0,.own [.i .i64] g.ts.values 2),(1,.own [.i .i64] g.ts.counts 2),(2,.own [.s] g.lex 9),(3,.own [.s] g.racks 9),(4,.own [.i .i64] g.scores 2),(5,.own [.i .i64] (ckL g n) 2)])
theorem vR:FOk Tryz.prog 37 (vv std):=by
 refine FOk.go (c:=cx std [(105,aG std),(108,aV std)] [(109,cA std)] 0) (ae (.cons cy (.cons dk .nil)) (.cons ip .nil)) mixed Tryz.func37 rfl rfl rfl (by kernel_rfl) ?_
 rintro ⟨g,n⟩ hp
 dsimp only at hp
 refine⟨rfl,?_⟩
 unfold aG aV cA
 generalize hP:std=p,hB0:aO=B0,hB1:ckL=B1,hB2:zPl=B2,hB3:zZr=B3
 cbv
 repeat' first|refine fun (_:Unit)=>?_;cbv|refine aI2 (fun h=>?_) (fun h=>?_)<;>cbv|refine aI2 ?_ ?_|refine Or.inl (fun (_:Unit)=>?_);cbv
 all_goals subst hP hB0 hB1 hB2 hB3
 all_goals try (exfalso;exact pz1 hp.c ‹_›)
 all_goals try exact fin
 all_goals first
  | exact hp.b.gm
  | exact hp.b.own
  | exact⟨SK hp.c,hp.e⟩
  | skip
def vJ (p:Pr):aa:=fsp (ac (aA aGm) (a1 aI)) (fun (g,n)=>PsN g n) (fun (g,n)=>.tup [.agg (gmK gm0 .esl .esl .esl .esl .esl .esl),.i .i64 (aO g n)])
theorem vP:FOk Tryz.prog 37 (vJ std):=by
 refine FOk.go (c:=cx std [(105,aG std),(108,aV std)] [(109,cA std)] 0) (ae (.cons cy (.cons dk .nil)) (.cons ip .nil)) mixed Tryz.func37 rfl rfl rfl (by kernel_rfl) ?_
 rintro ⟨g,n⟩ hp
 dsimp only at hp
 refine⟨rfl,?_⟩
 unfold aG aV cA
 generalize hP:std=p,hB0:aO=B0,hB1:ckL=B1,hB2:zPl=B2,hB3:zZr=B3
 cbv
 repeat' first|refine fun (_:Unit)=>?_;cbv|refine aI2 (fun h=>?_) (fun h=>?_)<;>cbv|refine aI2 ?_ ?_|refine Or.inl (fun (_:Unit)=>?_);cbv
 all_goals subst hP hB0 hB1 hB2 hB3
 all_goals try (exfalso;exact pz2 hp.c ‹_›)
 all_goals try exact fin
 all_goals first
  | exact hp.b.gm
  | exact hp.b.own
  | skip
structure XsP (g:Gm) (t:List UInt8):Prop where
 b:PsP g
 t:t.length≤274877906944
structure XsY (g:Gm) (t:List UInt8) (n:Int) (x:Bool):Prop where
 b:XsP g t
 c:xtC g t n=0
 e:ja (xtG g t)=x
structure XsN (g:Gm) (t:List UInt8) (n:Int):Prop where
 b:XsP g t
 c:xtC g t n≠0
def Ov (g:Gm) (t:List UInt8):List UInt8:=exB g.bag (g.rk g.player) t
def Iv (g:Gm) (t:List UInt8):List (List UInt8):=g.racks.set g.player.toNat (exR g.bag (g.rk g.player) t)
def xSc (g:Gm) (t:List UInt8) (n:Int):List Int:=zSc (xtG g t) 2 n
def qp (p:Pr):aa:=fsp (ac (aA aGm) (ac aS (a1 aI))) (fun (g,t,n)=>XsY g t n true) (fun (g,t,n)=>.tup [.agg (gmK ⟨g.ts,g.lex,g.bd0,g.secs,g.rule,⟨g.bd.size,g.bd.prem,g.bd.cells⟩,Ov g t,Iv g t,xSc g t n,ckL g n,zPl g,zZr g,⟨2,g.player,⟨0,0,false,[]⟩,[],[],0,0⟩,true⟩ (.osl 0) (.osl 1) (.osl 2) (.osl 3) (.osl 4) (.osl 5)),.i .i64 0]) (fun (g,t,n)=>[(0,.own [.i .i64] g.ts.values 2),(1,.own [.i .i64] g.ts.counts 2),(2,.own [.s] g.lex 9),(3,.own [.s] (Iv g t) 9),(4,.own [.i .i64] (xSc g t n) 2),(5,.own [.i .i64] (ckL g n) 2)])
theorem qA:FOk Tryz.prog 36 (qp std):=by
 refine FOk.go (c:=cx std [(105,aG std),(106,bU std),(107,co std),(108,aV std)] [(109,ff std)] 0) (ae (.cons cy (.cons fI (.cons gL (.cons dk .nil)))) (.cons oX .nil)) mixed Tryz.func36 rfl rfl rfl (by kernel_rfl) ?_
 rintro ⟨g,t,n⟩ hp
 dsimp only at hp
 refine⟨rfl,?_⟩
 unfold aG bU co aV ff
 generalize hP:std=p,hB0:aO=B0,hB1:ckL=B1,hB2:zSc=B2,hB3:zPl=B3,hB4:zZr=B4,hB5:Ov=B5,hB6:Iv=B6,hB7:xSc=B7,hB8:exR=B8,hB9:exB=B9,hB10:exC=B10,hB11:cu=B11
 cbv
 repeat' first|refine fun (_:Unit)=>?_;cbv|refine aI2 (fun h=>?_) (fun h=>?_)<;>cbv|refine aI2 ?_ ?_|refine Or.inl (fun (_:Unit)=>?_);cbv
 all_goals subst hP hB0 hB1 hB2 hB3 hB4 hB5 hB6 hB7 hB8 hB9 hB10 hB11
 all_goals try (exfalso;exact xz1 hp.c ‹_›)
 all_goals try (exfalso;exact xz2 hp.c ‹_›)
 all_goals try (exfalso;exact xz3 hp.c ‹_›)
 all_goals try exact fin
 all_goals try (have hG:=HG (xt0 hp.c);have hpl:=hG.fa.ply;have hr2:=hG.r2;have hrl:=bP (hG.ok.rk g.player))
 all_goals first
  | exact hp.b.b.gm
  | exact hp.b.b.own
  | exact aR hp.b.t
  | exact⟨hp.b.b.gm.bag,hp.b.b.gm.rk g.player,hp.b.t⟩
  | exact⟨hpl.1,by show g.player<(g.racks.length:Int);omega⟩
  | exact⟨Se (xt0 hp.c),hp.e,Vn (xt0 hp.c) (rM hp.c).2.2⟩
  | skip
def qC (p:Pr):aa:=fsp (ac (aA aGm) (ac aS (a1 aI))) (fun (g,t,n)=>XsY g t n false) (fun (g,t,n)=>.tup [.agg (gmK ⟨g.ts,g.lex,g.bd0,g.secs,g.rule,⟨g.bd.size,g.bd.prem,g.bd.cells⟩,Ov g t,Iv g t,g.scores,ckL g n,zPl g,zZr g,⟨2,g.player,⟨0,0,false,[]⟩,[],[],0,0⟩,g.over⟩ (.osl 0) (.osl 1) (.osl 2) (.osl 3) (.osl 4) (.osl 5)),.i .i64 0]) (fun (g,t,n)=>[(0,.own [.i .i64] g.ts.values 2),(1,.own [.i .i64] g.ts.counts 2),(2,.own [.s] g.lex 9),(3,.own [.s] (Iv g t) 9),(4,.own [.i .i64] g.scores 2),(5,.own [.i .i64] (ckL g n) 2)])
theorem qj:FOk Tryz.prog 36 (qC std):=by
 refine FOk.go (c:=cx std [(105,aG std),(106,bU std),(107,co std),(108,aV std)] [(109,cA std)] 0) (ae (.cons cy (.cons fI (.cons gL (.cons dk .nil)))) (.cons ip .nil)) mixed Tryz.func36 rfl rfl rfl (by kernel_rfl) ?_
 rintro ⟨g,t,n⟩ hp
 dsimp only at hp
 refine⟨rfl,?_⟩
 unfold aG bU co aV cA
 generalize hP:std=p,hB0:aO=B0,hB1:ckL=B1,hB2:zPl=B2,hB3:zZr=B3,hB4:Ov=B4,hB5:Iv=B5,hB6:exR=B6,hB7:exB=B7,hB8:exC=B8,hB9:cu=B9
 cbv
 repeat' first|refine fun (_:Unit)=>?_;cbv|refine aI2 (fun h=>?_) (fun h=>?_)<;>cbv|refine aI2 ?_ ?_|refine Or.inl (fun (_:Unit)=>?_);cbv
 all_goals subst hP hB0 hB1 hB2 hB3 hB4 hB5 hB6 hB7 hB8 hB9
 all_goals try (exfalso;exact xz1 hp.c ‹_›)
 all_goals try (exfalso;exact xz2 hp.c ‹_›)
 all_goals try (exfalso;exact xz3 hp.c ‹_›)
 all_goals try exact fin
 all_goals try (have hG:=HG (xt0 hp.c);have hpl:=hG.fa.ply;have hr2:=hG.r2;have hrl:=bP (hG.ok.rk g.player))
 all_goals first
  | exact hp.b.b.gm
  | exact hp.b.b.own
  | exact aR hp.b.t
  | exact⟨hp.b.b.gm.bag,hp.b.b.gm.rk g.player,hp.b.t⟩
  | exact⟨hpl.1,by show g.player<(g.racks.length:Int);omega⟩
  | exact⟨Se (xt0 hp.c),hp.e⟩
  | skip
def qn (p:Pr):aa:=fsp (ac (aA aGm) (ac aS (a1 aI))) (fun (g,t,n)=>XsN g t n) (fun (g,t,n)=>.tup [.agg (gmK gm0 .esl .esl .esl .esl .esl .esl),.i .i64 (xtC g t n)])
theorem qx:FOk Tryz.prog 36 (qn std):=by
 refine FOk.go (c:=cx std [(105,aG std),(106,bU std),(107,co std),(108,aV std)] [(109,cA std)] 0) (ae (.cons cy (.cons fI (.cons gL (.cons dk .nil)))) (.cons ip .nil)) mixed Tryz.func36 rfl rfl rfl (by kernel_rfl) ?_
 rintro ⟨g,t,n⟩ hp
 dsimp only at hp
 refine⟨rfl,?_⟩
 unfold aG bU co aV cA
 generalize hP:std=p,hB0:aO=B0,hB1:ckL=B1,hB2:zPl=B2,hB3:zZr=B3,hB4:exR=B4,hB5:exB=B5,hB6:exC=B6,hB7:cu=B7,hB8:xtC=B8
 cbv
 repeat' first|refine fun (_:Unit)=>?_;cbv|refine aI2 (fun h=>?_) (fun h=>?_)<;>cbv|refine aI2 ?_ ?_|refine Or.inl (fun (_:Unit)=>?_);cbv
 all_goals subst hP hB0 hB1 hB2 hB3 hB4 hB5 hB6 hB7 hB8
 all_goals try (exfalso;exact xz4 hp.c ‹_› ‹_›)
 all_goals try exact fin
 all_goals try (have hG:=syg (show std.eqI (aO g n) 0=true by assumption);have hpl:=hG.fa.ply;have hr2:=hG.r2)
 all_goals first
  | exact hp.b.b.gm
  | exact hp.b.b.own
  | exact aR hp.b.t
  | exact⟨hp.b.b.gm.bag,hp.b.b.gm.rk g.player,hp.b.t⟩
  | exact⟨hpl.1,by show g.player<(g.racks.length:Int);omega⟩
  | exact (VS ‹_›).symm
  | exact (SJ ‹_›).symm
  | exact (VF ‹_› ‹_›).symm
  | exact (Tg ‹_›).symm
  | skip
end Ax
end Go.Proofs.YtjjonmhpgkahoaaGreatDoor
