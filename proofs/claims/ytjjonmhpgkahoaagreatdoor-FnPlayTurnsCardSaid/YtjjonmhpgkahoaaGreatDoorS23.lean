/-
  Passes and exchanges, of the spec package.
  Conditions: none.
-/
import Derived.Test.YtjjonmhpgkahoaaGreatDoorS22
set_option linter.unusedSimpArgs false
set_option linter.unusedVariables false
namespace Go.Proofs.YtjjonmhpgkahoaaGreatDoor
namespace Ax
set_option maxRecDepth 100000
set_option maxHeartbeats 20000000
structure PsP (g:Gm):Prop where
 gm:GmL g
 own:GmP g
structure PsY (g:Gm) (n:Int) (x:Bool):Prop where
 b:PsP g
 c:actC g n=0
 e:idleE g=x
structure PsN (g:Gm) (n:Int):Prop where
 b:PsP g
 c:actC g n≠0
section
variable {g:Gm} {n k:Int} {t:List UInt8}
theorem pz1 (hc:actC g n=0) (h:std.eqI (actC g n) 0=false):False:=eqI_f h hc
theorem pz2 (hc:actC g n≠0) (h:std.eqI (actC g n) 0=true):False:=hc (eqI_t h)
theorem pz_y (hc:actC g n=0):SyG g n:=syg (by simpa using hc)
theorem zr_ck (hG:SyG g n):CkP g n:=by
 have:=hG.c;have:=hG.nb;have h3:=hG.ok.clk g.player;have h4:=hG.fa.ply
 exact⟨hG.fa.k,by omega,by omega,by omega⟩
theorem zr_z (hc:actC g n=0) : -10≤g.zeros∧g.zeros≤10:=by
 have h:=sg (g:=g) (n:=n) (by simpa using hc)
 unfold gameB twoB at h
 simp only [Bool.and_eq_true] at h
 have:=in_bd h.2.1.2.2.2.2
 omega
theorem zr_p (hc:actC g n=0):ZrP g k n:=by
 have hG:=pz_y hc
 have h4:=hG.fa.ply
 exact⟨zr_ck hG,⟨hG.r2,by omega⟩,zr_z hc⟩
theorem zr_x (hc:actC g n=0):ZrP (xtG g t) k n:=by
 have hG:=pz_y hc
 have h:=zr_ck hG
 have h4:=hG.fa.ply
 exact⟨⟨h.len,h.ply,h.num⟩,⟨by show (g.racks.set _ _).length =2;rw [List.length_set];exact hG.r2,by show g.player=0∨g.player=1;omega⟩,(show -10≤g.zeros∧g.zeros≤10 from zr_z hc)⟩
theorem zs_p (hc:actC g n=0):SetP (idleG g k n):=by
 have hG:=pz_y hc
 exact set_idle hG (r:=g.racks) (b:=g.bag) hG.r2 fun k=>rack_len (hG.ok.rk k)
theorem zs_x (hc:actC g n=0) (h:exC g.bag (g.rk g.player) t=0):SetP (idleG (xtG g t) k n):=by
 have hG:=pz_y hc
 exact set_idle hG (by rw [List.length_set];exact hG.r2) fun k=>rk_set (exR_len h) (fun k=>rack_len (hG.ok.rk k)) _ k
theorem xt0 (h:xtC g t n=0):actC g n=0:=eqI_t (xt_act h).1
theorem xz1 (hc:xtC g t n=0) (h:std.eqI (actC g n) 0=false):False:=eqI_f h (xt0 hc)
theorem xz2 (hc:xtC g t n=0) (h:pileB t=false):False:=by have:=(xt_act hc).2.1;rw [h] at this;cases this
theorem xz3 (hc:xtC g t n=0) (h:std.eqI (exC g.bag (g.rk g.player) t) 0=false):False:=eqI_f h (xt_act hc).2.2
theorem xt_1 (h:pileB t=false):xtC g t n=1:=by unfold xtC;rw [h];rfl
theorem xt_a (h:pileB t=true) (h2:std.eqI (actC g n) 0=false):xtC g t n=actC g n:=by unfold xtC;rw [if_pos h,if_neg (eqI_f h2)]
theorem xt_e (h2:std.eqI (actC g n) 0=true):xtC g t n=exC g.bag (g.rk g.player) t:=by
 unfold xtC
 by_cases h:pileB t=true
 ·rw [if_pos h,if_pos (eqI_t h2)]
 ·rw [if_neg h]
  unfold exC
  rw [show pileB t=false by simpa using h];simp
theorem xt_1' (h:std.eqI (actC g n) 1=true):xtC g t n=actC g n:=by
 have h1:=eqI_t h
 unfold xtC
 split
 ·rw [if_neg (by rw [h1];decide)]
 ·exact h1.symm
theorem xz4 (hc:xtC g t n≠0) (h2:std.eqI (actC g n) 0=true) (h:std.eqI (exC g.bag (g.rk g.player) t) 0=true):False:=by
 apply hc
 rw [xt_e h2];exact eqI_t h
end
def sp_s_PassTurn_y (p:Pr):FSpec:=fsp (ac (aA aGm) (a1 aI)) (fun (g,n)=>PsY g n true) (fun (g,n)=>.tup [.agg (gmK ⟨g.ts,g.lex,g.bd0,g.secs,g.rule,⟨g.bd.size,g.bd.prem,g.bd.cells⟩,g.bag,g.racks,zSc g 3 n,ckL g n,zPl g,zZr g,⟨3,g.player,⟨0,0,false,[]⟩,[],[],0,0⟩,true⟩ (.osl 0) (.osl 1) (.osl 2) (.osl 3) (.osl 4) (.osl 5)),.i .i64 0]) (fun (g,n)=>[(0,.own [.i .i64] g.ts.values 2),(1,.own [.i .i64] g.ts.counts 2),(2,.own [.s] g.lex 9),(3,.own [.s] g.racks 9),(4,.own [.i .i64] (zSc g 3 n) 2),(5,.own [.i .i64] (ckL g n) 2)])
theorem ok_s_PassTurn_y:FOk Tryz.prog 37 (sp_s_PassTurn_y std):=by
 refine FOk.go (c:=cx std [(105,sp_s_l18Begin std),(108,sp_s_l18Own std)] [(109,sp_s_l18Zero_y std)] 0) (cx_ok (.cons ok_s_l18Begin (.cons ok_s_l18Own .nil)) (.cons ok_s_l18Zero_y .nil)) mixed Tryz.func37 rfl rfl rfl (by kernel_rfl) ?_
 rintro ⟨g,n⟩ hp
 dsimp only at hp
 refine⟨rfl,?_⟩
 unfold sp_s_l18Begin sp_s_l18Own sp_s_l18Zero_y
 generalize hP:std=p,hB0:actC=B0,hB1:ckL=B1,hB2:zSc=B2,hB3:zPl=B3,hB4:zZr=B4
 cbv
 repeat' first
  | (refine fun (_:Unit)=>?_;cbv)
  | (refine aI2 (fun h=>?_) (fun h=>?_)<;>cbv)
  | (refine aI2 ?_ ?_)
  | (refine Or.inl (fun (_:Unit)=>?_);cbv)
 all_goals subst hP hB0 hB1 hB2 hB3 hB4
 all_goals try (exfalso;exact pz1 hp.c ‹_›)
 all_goals try exact fin
 all_goals first
  | exact hp.b.gm
  | exact hp.b.own
  | exact⟨zr_p hp.c,hp.e,zs_p hp.c⟩
  | skip
def sp_s_PassTurn_z (p:Pr):FSpec:=fsp (ac (aA aGm) (a1 aI)) (fun (g,n)=>PsY g n false) (fun (g,n)=>.tup [.agg (gmK ⟨g.ts,g.lex,g.bd0,g.secs,g.rule,⟨g.bd.size,g.bd.prem,g.bd.cells⟩,g.bag,g.racks,g.scores,ckL g n,zPl g,zZr g,⟨3,g.player,⟨0,0,false,[]⟩,[],[],0,0⟩,g.over⟩ (.osl 0) (.osl 1) (.osl 2) (.osl 3) (.osl 4) (.osl 5)),.i .i64 0]) (fun (g,n)=>[(0,.own [.i .i64] g.ts.values 2),(1,.own [.i .i64] g.ts.counts 2),(2,.own [.s] g.lex 9),(3,.own [.s] g.racks 9),(4,.own [.i .i64] g.scores 2),(5,.own [.i .i64] (ckL g n) 2)])
theorem ok_s_PassTurn_z:FOk Tryz.prog 37 (sp_s_PassTurn_z std):=by
 refine FOk.go (c:=cx std [(105,sp_s_l18Begin std),(108,sp_s_l18Own std)] [(109,sp_s_l18Zero_n std)] 0) (cx_ok (.cons ok_s_l18Begin (.cons ok_s_l18Own .nil)) (.cons ok_s_l18Zero_n .nil)) mixed Tryz.func37 rfl rfl rfl (by kernel_rfl) ?_
 rintro ⟨g,n⟩ hp
 dsimp only at hp
 refine⟨rfl,?_⟩
 unfold sp_s_l18Begin sp_s_l18Own sp_s_l18Zero_n
 generalize hP:std=p,hB0:actC=B0,hB1:ckL=B1,hB2:zPl=B2,hB3:zZr=B3
 cbv
 repeat' first
  | (refine fun (_:Unit)=>?_;cbv)
  | (refine aI2 (fun h=>?_) (fun h=>?_)<;>cbv)
  | (refine aI2 ?_ ?_)
  | (refine Or.inl (fun (_:Unit)=>?_);cbv)
 all_goals subst hP hB0 hB1 hB2 hB3
 all_goals try (exfalso;exact pz1 hp.c ‹_›)
 all_goals try exact fin
 all_goals first
  | exact hp.b.gm
  | exact hp.b.own
  | exact⟨zr_p hp.c,hp.e⟩
  | skip
def sp_s_PassTurn_n (p:Pr):FSpec:=fsp (ac (aA aGm) (a1 aI)) (fun (g,n)=>PsN g n) (fun (g,n)=>.tup [.agg (gmK gm0 .esl .esl .esl .esl .esl .esl),.i .i64 (actC g n)])
theorem ok_s_PassTurn_n:FOk Tryz.prog 37 (sp_s_PassTurn_n std):=by
 refine FOk.go (c:=cx std [(105,sp_s_l18Begin std),(108,sp_s_l18Own std)] [(109,sp_s_l18Zero_n std)] 0) (cx_ok (.cons ok_s_l18Begin (.cons ok_s_l18Own .nil)) (.cons ok_s_l18Zero_n .nil)) mixed Tryz.func37 rfl rfl rfl (by kernel_rfl) ?_
 rintro ⟨g,n⟩ hp
 dsimp only at hp
 refine⟨rfl,?_⟩
 unfold sp_s_l18Begin sp_s_l18Own sp_s_l18Zero_n
 generalize hP:std=p,hB0:actC=B0,hB1:ckL=B1,hB2:zPl=B2,hB3:zZr=B3
 cbv
 repeat' first
  | (refine fun (_:Unit)=>?_;cbv)
  | (refine aI2 (fun h=>?_) (fun h=>?_)<;>cbv)
  | (refine aI2 ?_ ?_)
  | (refine Or.inl (fun (_:Unit)=>?_);cbv)
 all_goals subst hP hB0 hB1 hB2 hB3
 all_goals try (exfalso;exact pz2 hp.c ‹_›)
 all_goals try exact fin
 all_goals first
  | exact hp.b.gm
  | exact hp.b.own
  | skip
structure XsP (g:Gm) (t:List UInt8):Prop where
 b:PsP g
 t:t.length≤274877906944
structure XsY (g:Gm) (t:List UInt8) (n:Int) (x:Bool):Prop where
 b:XsP g t
 c:xtC g t n=0
 e:idleE (xtG g t)=x
structure XsN (g:Gm) (t:List UInt8) (n:Int):Prop where
 b:XsP g t
 c:xtC g t n≠0
def xBag (g:Gm) (t:List UInt8):List UInt8:=exB g.bag (g.rk g.player) t
def xRks (g:Gm) (t:List UInt8):List (List UInt8):=g.racks.set g.player.toNat (exR g.bag (g.rk g.player) t)
def xSc (g:Gm) (t:List UInt8) (n:Int):List Int:=zSc (xtG g t) 2 n
def sp_s_ExchangeTurn_y (p:Pr):FSpec:=fsp (ac (aA aGm) (ac aS (a1 aI))) (fun (g,t,n)=>XsY g t n true) (fun (g,t,n)=>.tup [.agg (gmK ⟨g.ts,g.lex,g.bd0,g.secs,g.rule,⟨g.bd.size,g.bd.prem,g.bd.cells⟩,xBag g t,xRks g t,xSc g t n,ckL g n,zPl g,zZr g,⟨2,g.player,⟨0,0,false,[]⟩,[],[],0,0⟩,true⟩ (.osl 0) (.osl 1) (.osl 2) (.osl 3) (.osl 4) (.osl 5)),.i .i64 0]) (fun (g,t,n)=>[(0,.own [.i .i64] g.ts.values 2),(1,.own [.i .i64] g.ts.counts 2),(2,.own [.s] g.lex 9),(3,.own [.s] (xRks g t) 9),(4,.own [.i .i64] (xSc g t n) 2),(5,.own [.i .i64] (ckL g n) 2)])
theorem ok_s_ExchangeTurn_y:FOk Tryz.prog 36 (sp_s_ExchangeTurn_y std):=by
 refine FOk.go (c:=cx std [(105,sp_s_l18Begin std),(106,sp_s_l03Pile std),(107,sp_s_ExchangeTiles std),(108,sp_s_l18Own std)] [(109,sp_s_l18Zero_y std)] 0) (cx_ok (.cons ok_s_l18Begin (.cons ok_s_l03Pile (.cons ok_s_ExchangeTiles (.cons ok_s_l18Own .nil)))) (.cons ok_s_l18Zero_y .nil)) mixed Tryz.func36 rfl rfl rfl (by kernel_rfl) ?_
 rintro ⟨g,t,n⟩ hp
 dsimp only at hp
 refine⟨rfl,?_⟩
 unfold sp_s_l18Begin sp_s_l03Pile sp_s_ExchangeTiles sp_s_l18Own sp_s_l18Zero_y
 generalize hP:std=p,hB0:actC=B0,hB1:ckL=B1,hB2:zSc=B2,hB3:zPl=B3,hB4:zZr=B4,hB5:xBag=B5,hB6:xRks=B6,hB7:xSc=B7,hB8:exR=B8,hB9:exB=B9,hB10:exC=B10,hB11:pileB=B11
 cbv
 repeat' first
  | (refine fun (_:Unit)=>?_;cbv)
  | (refine aI2 (fun h=>?_) (fun h=>?_)<;>cbv)
  | (refine aI2 ?_ ?_)
  | (refine Or.inl (fun (_:Unit)=>?_);cbv)
 all_goals subst hP hB0 hB1 hB2 hB3 hB4 hB5 hB6 hB7 hB8 hB9 hB10 hB11
 all_goals try (exfalso;exact xz1 hp.c ‹_›)
 all_goals try (exfalso;exact xz2 hp.c ‹_›)
 all_goals try (exfalso;exact xz3 hp.c ‹_›)
 all_goals try exact fin
 all_goals try (have hG:=pz_y (xt0 hp.c);have hpl:=hG.fa.ply;have hr2:=hG.r2;have hrl:=rack_len (hG.ok.rk g.player))
 all_goals first
  | exact hp.b.b.gm
  | exact hp.b.b.own
  | exact ltM_of hp.b.t
  | exact⟨hp.b.b.gm.bag,hp.b.b.gm.rk g.player,hp.b.t⟩
  | exact⟨hpl.1,by show g.player<(g.racks.length:Int);omega⟩
  | exact⟨zr_x (xt0 hp.c),hp.e,zs_x (xt0 hp.c) (xt_act hp.c).2.2⟩
  | skip
def sp_s_ExchangeTurn_z (p:Pr):FSpec:=fsp (ac (aA aGm) (ac aS (a1 aI))) (fun (g,t,n)=>XsY g t n false) (fun (g,t,n)=>.tup [.agg (gmK ⟨g.ts,g.lex,g.bd0,g.secs,g.rule,⟨g.bd.size,g.bd.prem,g.bd.cells⟩,xBag g t,xRks g t,g.scores,ckL g n,zPl g,zZr g,⟨2,g.player,⟨0,0,false,[]⟩,[],[],0,0⟩,g.over⟩ (.osl 0) (.osl 1) (.osl 2) (.osl 3) (.osl 4) (.osl 5)),.i .i64 0]) (fun (g,t,n)=>[(0,.own [.i .i64] g.ts.values 2),(1,.own [.i .i64] g.ts.counts 2),(2,.own [.s] g.lex 9),(3,.own [.s] (xRks g t) 9),(4,.own [.i .i64] g.scores 2),(5,.own [.i .i64] (ckL g n) 2)])
theorem ok_s_ExchangeTurn_z:FOk Tryz.prog 36 (sp_s_ExchangeTurn_z std):=by
 refine FOk.go (c:=cx std [(105,sp_s_l18Begin std),(106,sp_s_l03Pile std),(107,sp_s_ExchangeTiles std),(108,sp_s_l18Own std)] [(109,sp_s_l18Zero_n std)] 0) (cx_ok (.cons ok_s_l18Begin (.cons ok_s_l03Pile (.cons ok_s_ExchangeTiles (.cons ok_s_l18Own .nil)))) (.cons ok_s_l18Zero_n .nil)) mixed Tryz.func36 rfl rfl rfl (by kernel_rfl) ?_
 rintro ⟨g,t,n⟩ hp
 dsimp only at hp
 refine⟨rfl,?_⟩
 unfold sp_s_l18Begin sp_s_l03Pile sp_s_ExchangeTiles sp_s_l18Own sp_s_l18Zero_n
 generalize hP:std=p,hB0:actC=B0,hB1:ckL=B1,hB2:zPl=B2,hB3:zZr=B3,hB4:xBag=B4,hB5:xRks=B5,hB6:exR=B6,hB7:exB=B7,hB8:exC=B8,hB9:pileB=B9
 cbv
 repeat' first
  | (refine fun (_:Unit)=>?_;cbv)
  | (refine aI2 (fun h=>?_) (fun h=>?_)<;>cbv)
  | (refine aI2 ?_ ?_)
  | (refine Or.inl (fun (_:Unit)=>?_);cbv)
 all_goals subst hP hB0 hB1 hB2 hB3 hB4 hB5 hB6 hB7 hB8 hB9
 all_goals try (exfalso;exact xz1 hp.c ‹_›)
 all_goals try (exfalso;exact xz2 hp.c ‹_›)
 all_goals try (exfalso;exact xz3 hp.c ‹_›)
 all_goals try exact fin
 all_goals try (have hG:=pz_y (xt0 hp.c);have hpl:=hG.fa.ply;have hr2:=hG.r2;have hrl:=rack_len (hG.ok.rk g.player))
 all_goals first
  | exact hp.b.b.gm
  | exact hp.b.b.own
  | exact ltM_of hp.b.t
  | exact⟨hp.b.b.gm.bag,hp.b.b.gm.rk g.player,hp.b.t⟩
  | exact⟨hpl.1,by show g.player<(g.racks.length:Int);omega⟩
  | exact⟨zr_x (xt0 hp.c),hp.e⟩
  | skip
def sp_s_ExchangeTurn_n (p:Pr):FSpec:=fsp (ac (aA aGm) (ac aS (a1 aI))) (fun (g,t,n)=>XsN g t n) (fun (g,t,n)=>.tup [.agg (gmK gm0 .esl .esl .esl .esl .esl .esl),.i .i64 (xtC g t n)])
theorem ok_s_ExchangeTurn_n:FOk Tryz.prog 36 (sp_s_ExchangeTurn_n std):=by
 refine FOk.go (c:=cx std [(105,sp_s_l18Begin std),(106,sp_s_l03Pile std),(107,sp_s_ExchangeTiles std),(108,sp_s_l18Own std)] [(109,sp_s_l18Zero_n std)] 0) (cx_ok (.cons ok_s_l18Begin (.cons ok_s_l03Pile (.cons ok_s_ExchangeTiles (.cons ok_s_l18Own .nil)))) (.cons ok_s_l18Zero_n .nil)) mixed Tryz.func36 rfl rfl rfl (by kernel_rfl) ?_
 rintro ⟨g,t,n⟩ hp
 dsimp only at hp
 refine⟨rfl,?_⟩
 unfold sp_s_l18Begin sp_s_l03Pile sp_s_ExchangeTiles sp_s_l18Own sp_s_l18Zero_n
 generalize hP:std=p,hB0:actC=B0,hB1:ckL=B1,hB2:zPl=B2,hB3:zZr=B3,hB4:exR=B4,hB5:exB=B5,hB6:exC=B6,hB7:pileB=B7,hB8:xtC=B8
 cbv
 repeat' first
  | (refine fun (_:Unit)=>?_;cbv)
  | (refine aI2 (fun h=>?_) (fun h=>?_)<;>cbv)
  | (refine aI2 ?_ ?_)
  | (refine Or.inl (fun (_:Unit)=>?_);cbv)
 all_goals subst hP hB0 hB1 hB2 hB3 hB4 hB5 hB6 hB7 hB8
 all_goals try (exfalso;exact xz4 hp.c ‹_› ‹_›)
 all_goals try exact fin
 all_goals try (have hG:=syg (show std.eqI (actC g n) 0=true by assumption);have hpl:=hG.fa.ply;have hr2:=hG.r2)
 all_goals first
  | exact hp.b.b.gm
  | exact hp.b.b.own
  | exact ltM_of hp.b.t
  | exact⟨hp.b.b.gm.bag,hp.b.b.gm.rk g.player,hp.b.t⟩
  | exact⟨hpl.1,by show g.player<(g.racks.length:Int);omega⟩
  | exact (xt_1 ‹_›).symm
  | exact (xt_1' ‹_›).symm
  | exact (xt_a ‹_› ‹_›).symm
  | exact (xt_e ‹_›).symm
  | skip
end Ax
end Go.Proofs.YtjjonmhpgkahoaaGreatDoor
