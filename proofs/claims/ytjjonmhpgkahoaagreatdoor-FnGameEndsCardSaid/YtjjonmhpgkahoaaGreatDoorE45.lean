/-
  Who wins, what a clock costs, what is unseen: walked; What a row of bytes comes in as; laws that return true; Turns without points, of the impl package.
  Conditions: none.
-/
import Derived.Test.YtjjonmhpgkahoaaGreatDoorE44
import Derived.Test.YtjjonmhpgkahoaaGreatDoorE18
import Derived.Test.YtjjonmhpgkahoaaGreatDoorE28
import Derived.Test.YtjjonmhpgkahoaaGreatDoorE34
set_option linter.unusedSimpArgs false
set_option linter.unusedVariables false
namespace Go.Proofs.YtjjonmhpgkahoaaGreatDoor
namespace Ax
set_option maxRecDepth 100000
set_option maxHeartbeats 2000000
structure CbP (l:List Int):Prop where
 b : ∀x∈l,0≤x∧x≤255
 n:(l.length:Int)≤9223372036854775807
theorem CbP.d {l:List Int} (h:CbP l) (hb:bigB l=false):CdP l:=⟨h.b,by have h1:=of_decide_eq_false hb;omega⟩
theorem eta_gmz (g:Gm):Gm.mk g.ts g.lex g.bd0 g.secs g.rule g.bd g.bag g.racks g.scores g.clocks g.player g.zeros g.last g.over=g:=rfl
end Ax
end Go.Proofs.YtjjonmhpgkahoaaGreatDoor
namespace Go.Proofs.YtjjonmhpgkahoaaGreatDoor
open Go.ChangeShapes Go.WideShapes Go.ChangeAt Go.RowKit Go.Joins
set_option maxRecDepth 100000
namespace Ax
theorem flat_by:flatT tyT 6 22=some [.r [.i .u8]]:=by kernel_rfl
theorem vok_by {w:World} {fz:Nat→Prop} {l:List PV} {cs:List Value} (h:VOk w fz [.r [.i .u8]] l cs) : ∃x:List Int,l=[.rsl [.i .u8] x]∧CbP x:=by
 obtain⟨x,_,_,_,rfl, -,z, -,rfl, -⟩:=h
 unfold SzA at z
 refine⟨x,rfl,⟨fun y hy=>?_,z.1⟩⟩
 have h2:=z.2 y hy
 unfold SzE SzEs SzA at h2
 exact h2
theorem law_trueB {f:FuncId} {S:FSpec} (h:FOk Tryz.prog f S) {args:List PV} {pre:Prop} (hs:S args=some ⟨[pre],.b true,[]⟩) (hp:pre) {W:World} (hg:Gl W) {vals:Array Value} (hl:Rs W (e0 W) args vals.toList) :
 Calls Tryz.prog f vals W fun e W'=>e=.returned (.bool true)∧Below W.heap.size W W':=by
 refine (h.run args _ hs (fun p hm=>by rw [List.mem_singleton.1 hm];exact hp) W (e0 W) vals (e0_ok hg) hl).mono ?_
 rintro en w' ⟨u,e',rfl,hP⟩
 have hv:=hP.val
 unfold R at hv
 subst hv
 exact⟨rfl,⟨hP.chg.os,hP.chg.tape,hP.chg.output,hP.chg.size,fun b hb=>hP.chg.block b hb fun ⟨k,hk,_⟩=>hk.elim⟩⟩
end Ax
end Go.Proofs.YtjjonmhpgkahoaaGreatDoor
namespace Go.Proofs.YtjjonmhpgkahoaaGreatDoor
namespace Ax
set_option maxRecDepth 100000
set_option maxHeartbeats 20000000
structure IdP (g:Gm) (n:Int):Prop where
 cp:GcP g
 ck:CkP g n
 ply:inR g.player 0 1=true
 z : -10≤g.zeros∧g.zeros≤10
def sp_i_idle (p:Pr):FSpec:=fsp (ac (aA aGm) (ac aI (a1 aI))) (fun (g,k,n)=>IdP g n) (fun (g,k,n)=>.ptr 0 0) (fun (g,k,n)=>gmH ⟨g.ts,g.lex,g.bd0,g.secs,g.rule,g.bd,g.bag,g.racks,g.scores,ckL g n,zPl g,zZr g,⟨k,g.player,⟨0,0,false,[]⟩,[],[],0,0⟩,g.over⟩)
theorem ok_i_idle:FOk Tryz.prog 100 (sp_i_idle std):=by
 refine FOk.go (c:=cx std [(114,sp_i_copyGame std)] [(115,sp_i_xGame_begin std)] 0) (cx_ok (.cons ok_i_copyGame .nil) (.cons ok_i_xGame_begin .nil)) mixed Tryz.func100 rfl rfl rfl (by kernel_rfl) ?_
 rintro ⟨g,k,n⟩ hp
 dsimp only at hp
 refine⟨rfl,?_⟩
 unfold sp_i_copyGame sp_i_xGame_begin
 generalize hP:std=p,hB0:ckL=B0,hB1:zPl=B1,hB2:zZr=B2
 cbv
 repeat' first
  | (refine fun (_:Unit)=>?_;cbv)
  | (refine aI2 (fun h=>?_) (fun h=>?_)<;>cbv)
  | (refine aI2 ?_ ?_)
  | (refine Or.inl (fun (_:Unit)=>?_);cbv)
 all_goals subst hP hB0 hB1 hB2
 all_goals try exact fin
 all_goals have h1:=hp.ck.ply
 all_goals have h2:=hp.ck.len
 all_goals have h3:=hp.ck.num
 all_goals have h4:=hp.z
 ·exact ck_in hp.ck
 ·exact in64 (by show _≤g.clk g.player-n∧g.clk g.player-n≤_;omega)
 ·exact in64 (by show _≤1-g.player∧1-g.player≤_;rcases h1 with h | h<;>omega)
 ·exact in64 (by show _≤g.zeros+1∧g.zeros+1≤_;omega)
section
variable {a b t:List UInt8} {g:Gm} {k n:Int}
theorem pile_iso (ht:pileB t=true):isort t=t:=(isort_unique (pileB_asc ht).2 fun _=>rfl).symm
theorem wt_b (hb:rackB b=true) (ht:pileB t=true):takeB b t=withoutB b t:=by
 have h:=take_less2 hb (pileB_asc ht).1
 rw [pile_iso ht] at h
 exact h
theorem wt_s (hb:rackB b=true) (ht:pileB t=true) (h:takeB b t=true):withoutS b t=takeS b t:=by
 have h2:=rest_same hb (pileB_asc ht).1 (by rw [pile_iso ht];exact h)
 rw [pile_iso ht] at h2
 exact h2.symm
theorem st_tk (h:ExF a b t):StP (takeS b t++a.take t.length):=by
 have h1:=(bag_stp h.ha).ti
 have h2:=(rack_stp h.hb).ti
 have h3:=h.la;have h4:=h.lb;have h5:=h.lr
 refine⟨?_,by rw [List.length_append,List.length_take];omega⟩
 rw [List.all_append,Bool.and_eq_true]
 exact⟨List.all_eq_true.2 fun x hx=>List.all_eq_true.1 h2 x ((takeGo_sub b t).mem hx),List.all_eq_true.2 fun x hx=>List.all_eq_true.1 h1 x (List.mem_of_mem_take hx)⟩
theorem pile_stp (h:pileB t=true):StP t:=by
 have h2:=h
 rw [pile_adj,Bool.and_eq_true,decide_eq_true_eq] at h2
 exact⟨(pileB_asc h).1,by omega⟩
theorem cpy2 (X Y:List UInt8) {n:Nat} (h:X.length+Y.length=n):std.toS (std.cpy (std.cpy (List.replicate n (0:Int)) 0 (toBl X)) (X.length:Int) (toBl Y))=X++Y:=by
 have e1:std.cpy (List.replicate n (0:Int)) 0 (toBl X)=toBl X++List.replicate Y.length 0:=by
  show (List.replicate n (0:Int)).take 0++toBl X++(List.replicate n (0:Int)).drop (0+(toBl X).length)=_
  rw [toB_len,List.take_zero,List.nil_append,List.drop_replicate]
  congr 2
  omega
 rw [e1]
 show toSl ((toBl X++List.replicate Y.length 0).take ((X.length:Int)).toNat ++toBl Y++(toBl X++List.replicate Y.length 0).drop (((X.length:Int)).toNat + (toBl Y).length))=_
 rw [show ((X.length:Int)).toNat =(toBl X).length by simp,List.take_left,List.drop_of_length_le (by simp),List.append_nil,toB_app,toS_toB]
theorem cpy_room (X:List UInt8) {n m:Nat} (h:X.length+m≤n):(X.length:Int)+(m:Int)≤((std.cpy (List.replicate n (0:Int)) 0 (toBl X)).length : Int):=by
 rw [cpy_len (by simp;omega),List.length_replicate]
 omega
end
def sp_i_ExchangeTiles (p:Pr):FSpec:=fsp (ac aS (ac aS (a1 aS))) (fun (a,b,t)=>ExP a b t) (fun (a,b,t)=>.tup [.s (exR a b t),.s (exB a b t),.i .i64 (exC a b t)])
theorem ok_i_ExchangeTiles:FOk Tryz.prog 104 (sp_i_ExchangeTiles std):=by
 refine FOk.go (c:=cx std [(68,sp_i_ValidBag std),(84,sp_i_ValidRack std),(92,sp_i_ValidPile std),(116,sp_i_without std),(69,sp_i_sorted std)] [] 0) (cx_ok (.cons ok_i_ValidBag (.cons ok_i_ValidRack (.cons ok_i_ValidPile (.cons ok_i_without (.cons ok_i_sorted .nil))))) .nil) mixed Tryz.func104 rfl rfl rfl (by kernel_rfl) ?_
 rintro ⟨a,b,t⟩ hp
 dsimp only at hp
 refine⟨rfl,?_⟩
 unfold sp_i_ValidBag sp_i_ValidRack sp_i_ValidPile sp_i_without sp_i_sorted
 generalize hP:std=p,hB0:exR=B0,hB1:exB=B1,hB2:exC=B2,hB3:bagB=B3,hB4:rackB=B4,hB5:pileB=B5,hB6:withoutS=B6,hB7:withoutB=B7,hB8:pileL=B8,hB9:countsL=B9
 cbv
 repeat' first
  | (refine fun (_:Unit)=>?_;cbv)
  | (refine aI2 (fun h=>?_) (fun h=>?_)<;>cbv)
  | (refine aI2 ?_ ?_)
  | (refine Or.inl (fun (_:Unit)=>?_);cbv)
 all_goals subst hP hB0 hB1 hB2 hB3 hB4 hB5 hB6 hB7 hB8 hB9
 all_goals try exact fin
 all_goals try (have hw:takeB b t=withoutB b t:=wt_b ‹_› ‹_›)
 all_goals try (have hc:exC a b t=0:=by rw [exC_std];simp only [*]<;>simp)
 all_goals try (have hF:=ex_f hc;have h1:=hF.la;have h2:=hF.lb;have h3:=hF.lt;have h4:=hF.lr;have hs:=wt_s hF.hb hF.ht hF.tk)
 all_goals first
  | exact ltM_of hp.la
  | exact ltM_of hp.lb
  | exact ltM_of hp.lt
  | exact exR_no (by rw [exC_std];simp only [*]<;>simp)
  | exact exB_no (by rw [exC_std];simp only [*]<;>simp)
  | (rw [exC_std];simp only [*]<;>simp;done)
  | exact rack_stp ‹_›
  | exact pile_stp ‹_›
  | (show (t.length:Int)≤(a.length:Int);omega)
  | (show ((a.drop t.length).length : Int)+(t.length:Int)≤((std.cpy (List.replicate a.length (0:Int)) 0 (toBl (a.drop t.length))).length : Int);exact cpy_room (a.drop t.length) (by rw [List.length_drop];omega))
  | exact in64 (by show _≤((withoutS b t).length : Int)+((a.take t.length).length : Int)∧((withoutS b t).length : Int)+((a.take t.length).length : Int)≤_;rw [hs,List.length_take];omega)
  | (show StP (withoutS b t++a.take t.length);rw [hs];exact st_tk hF)
  | (show pileL (countsL (withoutS b t++a.take t.length))=_;rw [hs,sort_pile (st_tk hF).ti,exR_eq hc];done)
  | (show std.toS (std.cpy (std.cpy (List.replicate a.length (0:Int)) 0 (toBl (a.drop t.length))) ((a.drop t.length).length : Int) (toBl t))=_;rw [exB_eq hc];exact cpy2 (a.drop t.length) t (by rw [List.length_drop];omega))
  | skip
def vSc (g:Gm) (k n:Int):List Int:=setS (idleG g k n) (idleE g)
def vOv (g:Gm):Bool:=ovB g (idleE g)
section
variable {g:Gm} {k n:Int} {t:List UInt8}
theorem vs_w (h:waitsB g=true):setS (idleG g k n) true=vSc g k n:=by
 unfold vSc idleE;rw [h];rfl
theorem vs_z (h:waitsB g=false):setS (idleG g k n) (std.eqI (std.add g.zeros 1) 6)=vSc g k n:=by
 unfold vSc idleE;rw [h];rfl
theorem vo_w (h:waitsB g=true):ovB g true=vOv g:=by
 unfold vOv idleE;rw [h];rfl
theorem vo_z (h:waitsB g=false):ovB g (std.eqI (std.add g.zeros 1) 6)=vOv g:=by
 unfold vOv idleE;rw [h];rfl
theorem vs_x (h:exC g.bag (g.rk g.player) t=0):setS (idleG (xtG g t) k n) (std.eqI (std.add g.zeros 1) 6)=vSc (xtG g t) k n:=by
 unfold vSc;rw [xt_idle h];rfl
theorem vo_x (h:exC g.bag (g.rk g.player) t=0):ovB g (std.eqI (std.add g.zeros 1) 6)=vOv (xtG g t):=by
 unfold vOv;rw [xt_idle h];rfl
theorem xz5 (hc:xtC g t n=0) (h:waitsB g=true):False:=by
 have:=(xt_waits (xt_act hc).2.2).2
 rw [h] at this;cases this
theorem id_p (hc:actC g n=0) (cp:GcL g):IdP g n:=
 ⟨⟨⟨⟨cp.v,cp.c⟩,cp.l⟩,cp.r,cp.s,cp.k⟩,zr_ck (pz_y hc),(gm_facts (sg (n:=n) (by simpa using hc))).ply,zr_z hc⟩
theorem wt_p (hc:actC g n=0):WtP g:=⟨(pz_y hc).r2,(gm_facts (sg (n:=n) (by simpa using hc))).ply⟩
end
structure PiY (g:Gm) (n:Int):Prop where
 gm:GmQ g
 cp:GcL g
 c:actC g n=0
structure PiN (g:Gm) (n:Int):Prop where
 gm:GmQ g
 cp:GcL g
 c:actC g n≠0
def sp_i_PassTurn_y (p:Pr):FSpec:=fsp (ac (aA aGm) (a1 aI)) (fun (g,n)=>PiY g n) (fun (g,n)=>.tup [.agg (gmK ⟨g.ts,g.lex,g.bd0,g.secs,g.rule,⟨g.bd.size,g.bd.prem,g.bd.cells⟩,g.bag,g.racks,vSc g 3 n,ckL g n,zPl g,zZr g,⟨3,g.player,⟨0,0,false,[]⟩,[],[],0,0⟩,vOv g⟩ (.osl 0) (.osl 1) (.osl 2) (.osl 3) (.osl 4) (.osl 5)),.i .i64 0]) (fun (g,n)=>[(0,.own [.i .i64] g.ts.values 2),(1,.own [.i .i64] g.ts.counts 2),(2,.own [.s] g.lex 9),(3,.own [.s] g.racks 9),(4,.own [.i .i64] (vSc g 3 n) 2),(5,.own [.i .i64] (ckL g n) 2)])
theorem ok_i_PassTurn_y:FOk Tryz.prog 33 (sp_i_PassTurn_y std):=by
 refine FOk.go (c:=cx std [(99,sp_i_actionCode std),(100,sp_i_idle std),(102,sp_i_Game_waits std)] [(101,sp_i_xGame_settle std)] 0) (cx_ok (.cons ok_i_actionCode (.cons ok_i_idle (.cons ok_i_Game_waits .nil))) (.cons ok_i_xGame_settle .nil)) mixed Tryz.func33 rfl rfl rfl (by kernel_rfl) ?_
 rintro ⟨g,n⟩ hp
 dsimp only at hp
 refine⟨rfl,?_⟩
 unfold sp_i_actionCode sp_i_idle sp_i_Game_waits sp_i_xGame_settle
 generalize hP:std=p,hB0:actC=B0,hB1:waitsB=B1,hB2:ckL=B2,hB3:zPl=B3,hB4:zZr=B4,hB5:vSc=B5,hB6:vOv=B6,hB7:setS=B7,hB8:ovB=B8
 cbv
 repeat' first
  | (refine fun (_:Unit)=>?_;cbv)
  | (refine aI2 (fun h=>?_) (fun h=>?_)<;>cbv)
  | (refine aI2 ?_ ?_)
  | (refine Or.inl (fun (_:Unit)=>?_);cbv)
 all_goals subst hP hB0 hB1 hB2 hB3 hB4 hB5 hB6 hB7 hB8
 all_goals try (exfalso;exact pz1 hp.c ‹_›)
 all_goals try exact fin
 all_goals first
  | exact hp.gm
  | exact id_p hp.c hp.cp
  | exact wt_p hp.c
  | exact⟨fun _=>zs_p hp.c⟩
  | exact congrArg (fun L=>Ob.own [.i .i64] L 2) (vs_w (g:=g) (k:=3) (n:=n) ‹_›)
  | exact congrArg (fun L=>Ob.own [.i .i64] L 2) (vs_z (g:=g) (k:=3) (n:=n) ‹_›)
  | exact vo_w (g:=g) ‹_›
  | exact vo_z (g:=g) ‹_›
  | skip
def sp_i_PassTurn_n (p:Pr):FSpec:=fsp (ac (aA aGm) (a1 aI)) (fun (g,n)=>PiN g n) (fun (g,n)=>.tup [.agg (gmK gm0 .esl .esl .esl .esl .esl .esl),.i .i64 (actC g n)])
theorem ok_i_PassTurn_n:FOk Tryz.prog 33 (sp_i_PassTurn_n std):=by
 refine FOk.go (c:=cx std [(99,sp_i_actionCode std),(100,sp_i_idle std),(102,sp_i_Game_waits std)] [(101,sp_i_xGame_settle std)] 0) (cx_ok (.cons ok_i_actionCode (.cons ok_i_idle (.cons ok_i_Game_waits .nil))) (.cons ok_i_xGame_settle .nil)) mixed Tryz.func33 rfl rfl rfl (by kernel_rfl) ?_
 rintro ⟨g,n⟩ hp
 dsimp only at hp
 refine⟨rfl,?_⟩
 unfold sp_i_actionCode sp_i_idle sp_i_Game_waits sp_i_xGame_settle
 generalize hP:std=p,hB0:actC=B0,hB1:waitsB=B1,hB2:ckL=B2,hB3:zPl=B3,hB4:zZr=B4,hB5:setS=B5,hB6:ovB=B6
 cbv
 repeat' first
  | (refine fun (_:Unit)=>?_;cbv)
  | (refine aI2 (fun h=>?_) (fun h=>?_)<;>cbv)
  | (refine aI2 ?_ ?_)
  | (refine Or.inl (fun (_:Unit)=>?_);cbv)
 all_goals subst hP hB0 hB1 hB2 hB3 hB4 hB5 hB6
 all_goals try (exfalso;exact pz2 hp.c ‹_›)
 all_goals try exact fin
 all_goals first
  | exact hp.gm
  | skip
structure XiP (g:Gm) (t:List UInt8):Prop where
 gm:GmQ g
 cp:GcL g
 t:t.length≤274877906944
structure XiY (g:Gm) (t:List UInt8) (n:Int):Prop where
 b:XiP g t
 c:xtC g t n=0
structure XiN (g:Gm) (t:List UInt8) (n:Int):Prop where
 b:XiP g t
 c:xtC g t n≠0
def yBag (g:Gm) (t:List UInt8):List UInt8:=exB g.bag (g.rk g.player) t
def yRks (g:Gm) (t:List UInt8):List (List UInt8):=g.racks.set g.player.toNat (exR g.bag (g.rk g.player) t)
def sp_i_ExchangeTurn_y (p:Pr):FSpec:=fsp (ac (aA aGm) (ac aS (a1 aI))) (fun (g,t,n)=>XiY g t n) (fun (g,t,n)=>.tup [.agg (gmK ⟨g.ts,g.lex,g.bd0,g.secs,g.rule,⟨g.bd.size,g.bd.prem,g.bd.cells⟩,yBag g t,yRks g t,vSc (xtG g t) 2 n,ckL g n,zPl g,zZr g,⟨2,g.player,⟨0,0,false,[]⟩,[],[],0,0⟩,vOv (xtG g t)⟩ (.osl 0) (.osl 1) (.osl 2) (.osl 3) (.osl 4) (.osl 5)),.i .i64 0]) (fun (g,t,n)=>[(0,.own [.i .i64] g.ts.values 2),(1,.own [.i .i64] g.ts.counts 2),(2,.own [.s] g.lex 9),(3,.own [.s] (yRks g t) 9),(4,.own [.i .i64] (vSc (xtG g t) 2 n) 2),(5,.own [.i .i64] (ckL g n) 2)])
theorem ok_i_ExchangeTurn_y:FOk Tryz.prog 35 (sp_i_ExchangeTurn_y std):=by
 refine FOk.go (c:=cx std [(92,sp_i_ValidPile std),(99,sp_i_actionCode std),(104,sp_i_ExchangeTiles std),(100,sp_i_idle std),(102,sp_i_Game_waits std)] [(101,sp_i_xGame_settle std)] 0) (cx_ok (.cons ok_i_ValidPile (.cons ok_i_actionCode (.cons ok_i_ExchangeTiles (.cons ok_i_idle (.cons ok_i_Game_waits .nil))))) (.cons ok_i_xGame_settle .nil)) mixed Tryz.func35 rfl rfl rfl (by kernel_rfl) ?_
 rintro ⟨g,t,n⟩ hp
 dsimp only at hp
 refine⟨rfl,?_⟩
 unfold sp_i_ValidPile sp_i_actionCode sp_i_ExchangeTiles sp_i_idle sp_i_Game_waits sp_i_xGame_settle
 generalize hP:std=p,hB0:actC=B0,hB1:waitsB=B1,hB2:ckL=B2,hB3:zPl=B3,hB4:zZr=B4,hB5:vSc=B5,hB6:vOv=B6,hB7:setS=B7,hB8:ovB=B8,hB9:exR=B9,hB10:exB=B10,hB11:exC=B11,hB12:pileB=B12,hB13:yBag=B13,hB14:yRks=B14,hB15:xtG=B15
 cbv
 repeat' first
  | (refine fun (_:Unit)=>?_;cbv)
  | (refine aI2 (fun h=>?_) (fun h=>?_)<;>cbv)
  | (refine aI2 ?_ ?_)
  | (refine Or.inl (fun (_:Unit)=>?_);cbv)
 all_goals subst hP hB0 hB1 hB2 hB3 hB4 hB5 hB6 hB7 hB8 hB9 hB10 hB11 hB12 hB13 hB14 hB15
 all_goals try (exfalso;exact xz1 hp.c ‹_›)
 all_goals try (exfalso;exact xz2 hp.c ‹_›)
 all_goals try (exfalso;exact xz3 hp.c ‹_›)
 all_goals try (exfalso;exact xz5 hp.c ‹_›)
 all_goals try exact fin
 all_goals have hG:=pz_y (xt0 hp.c)
 all_goals have hpl:=hG.fa.ply
 all_goals have hr2:=hG.r2
 all_goals first
  | exact hp.b.gm
  | exact ltM_of hp.b.t
  | exact⟨hpl.1,by show g.player<(g.racks.length:Int);omega⟩
  | exact⟨hp.b.gm.bag,hp.b.gm.rks g.player,hp.b.t⟩
  | exact id_p (xt0 hp.c) hp.b.cp
  | exact wt_p (xt0 hp.c)
  | exact⟨fun _=>zs_x (xt0 hp.c) (xt_act hp.c).2.2⟩
  | exact congrArg (fun L=>Ob.own [.i .i64] L 2) (vs_x (g:=g) (t:=t) (k:=2) (n:=n) (xt_act hp.c).2.2)
  | exact vo_x (g:=g) (t:=t) (xt_act hp.c).2.2
  | skip
def sp_i_ExchangeTurn_n (p:Pr):FSpec:=fsp (ac (aA aGm) (ac aS (a1 aI))) (fun (g,t,n)=>XiN g t n) (fun (g,t,n)=>.tup [.agg (gmK gm0 .esl .esl .esl .esl .esl .esl),.i .i64 (xtC g t n)])
theorem ok_i_ExchangeTurn_n:FOk Tryz.prog 35 (sp_i_ExchangeTurn_n std):=by
 refine FOk.go (c:=cx std [(92,sp_i_ValidPile std),(99,sp_i_actionCode std),(104,sp_i_ExchangeTiles std),(100,sp_i_idle std),(102,sp_i_Game_waits std)] [(101,sp_i_xGame_settle std)] 0) (cx_ok (.cons ok_i_ValidPile (.cons ok_i_actionCode (.cons ok_i_ExchangeTiles (.cons ok_i_idle (.cons ok_i_Game_waits .nil))))) (.cons ok_i_xGame_settle .nil)) mixed Tryz.func35 rfl rfl rfl (by kernel_rfl) ?_
 rintro ⟨g,t,n⟩ hp
 dsimp only at hp
 refine⟨rfl,?_⟩
 unfold sp_i_ValidPile sp_i_actionCode sp_i_ExchangeTiles sp_i_idle sp_i_Game_waits sp_i_xGame_settle
 generalize hP:std=p,hB0:actC=B0,hB1:waitsB=B1,hB2:ckL=B2,hB3:zPl=B3,hB4:zZr=B4,hB5:setS=B5,hB6:ovB=B6,hB7:exR=B7,hB8:exB=B8,hB9:exC=B9,hB10:pileB=B10,hB11:xtC=B11
 cbv
 repeat' first
  | (refine fun (_:Unit)=>?_;cbv)
  | (refine aI2 (fun h=>?_) (fun h=>?_)<;>cbv)
  | (refine aI2 ?_ ?_)
  | (refine Or.inl (fun (_:Unit)=>?_);cbv)
 all_goals subst hP hB0 hB1 hB2 hB3 hB4 hB5 hB6 hB7 hB8 hB9 hB10 hB11
 all_goals try (exfalso;exact xz4 hp.c ‹_› ‹_›)
 all_goals try exact fin
 all_goals try (have hG:=syg (show std.eqI (actC g n) 0=true by assumption);have hpl:=hG.fa.ply;have hr2:=hG.r2)
 all_goals first
  | exact hp.b.gm
  | exact ltM_of hp.b.t
  | exact⟨hpl.1,by show g.player<(g.racks.length:Int);omega⟩
  | exact⟨hp.b.gm.bag,hp.b.gm.rks g.player,hp.b.t⟩
  | exact (xt_1 ‹_›).symm
  | exact (xt_a ‹_› ‹_›).symm
  | exact (xt_e ‹_›).symm
  | skip
end Ax
end Go.Proofs.YtjjonmhpgkahoaaGreatDoor
