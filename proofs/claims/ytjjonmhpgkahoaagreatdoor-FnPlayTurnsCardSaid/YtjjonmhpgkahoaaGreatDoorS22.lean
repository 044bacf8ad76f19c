/-
  Turns without points, of the spec package: exchanges of tiles, the end of the turn; Results told in other words: nil as an empty row; two preconditions joined.
  Conditions: none.
-/
import Derived.Test.YtjjonmhpgkahoaaGreatDoorS21
import Derived.Test.YtjjonmhpgkahoaaGreatDoorS15
set_option linter.unusedSimpArgs false
set_option linter.unusedVariables false
namespace Go.Proofs.YtjjonmhpgkahoaaGreatDoor
namespace Ax
set_option maxRecDepth 100000
set_option maxHeartbeats 20000000
structure ExP (a b t:List UInt8):Prop where
 la:a.length≤274877906944
 lb:b.length≤274877906944
 lt:t.length≤274877906944
section
variable {a b t:List UInt8} {g:Gm} {k n:Int}
theorem exC_std (a b t:List UInt8):exC a b t=if bagB a&&(rackB b&&pileB t) then (if std.eqS t [] then 2 else if takeB b t then (if std.ltI (std.lenS a) 7 then 6 else 0) else 3) else 1:=by
 unfold exC
 rw [emp_iz]
 have e:(std.ltI (std.lenS a) 7=true)↔a.length<7:=by
  show decide ((a.length:Int)<7)=true↔_
  rw [decide_eq_true_eq];omega
 simp only [e]
theorem exR_no (h:exC a b t≠0) : []=exR a b t:=(if_neg h).symm
theorem exB_no (h:exC a b t≠0) : []=exB a b t:=(if_neg h).symm
theorem zn1 (he:idleE g=false) (h:waitsB g=true):False:=by unfold idleE at he;rw [h] at he;cases he
theorem zn2 (he:idleE g=false) (h:std.eqI (std.add g.zeros 1) 6=true):False:=by
 unfold idleE at he
 rw [show (g.zeros+1==6)=true from h,Bool.or_true] at he;cases he
theorem zy1 (he:idleE g=true) (h1:waitsB g=false) (h2:std.eqI (std.add g.zeros 1) 6=false):False:=by
 unfold idleE at he
 rw [h1,show (g.zeros+1==6)=false from h2] at he;cases he
end
def sp_s_ExchangeTiles (p:Pr):FSpec:=fsp (ac aS (ac aS (a1 aS))) (fun (a,b,t)=>ExP a b t) (fun (a,b,t)=>.tup [.s (exR a b t),.s (exB a b t),.i .i64 (exC a b t)])
theorem ok_s_ExchangeTiles:FOk Tryz.prog 107 (sp_s_ExchangeTiles std):=by
 refine FOk.go (c:=cx std [(73,sp_s_l17Ok std),(185,sp_s_l03Rack std),(106,sp_s_l03Pile std),(126,sp_s_l03Take std),(74,sp_s_l03Sort std)] [] 0) (cx_ok (.cons ok_s_l17Ok (.cons ok_s_l03Rack (.cons ok_s_l03Pile (.cons ok_s_l03Take (.cons ok_s_l03Sort .nil))))) .nil) mixed Tryz.func107 rfl rfl rfl (by kernel_rfl) ?_
 rintro ⟨a,b,t⟩ hp
 dsimp only at hp
 refine⟨rfl,?_⟩
 unfold sp_s_l17Ok sp_s_l03Rack sp_s_l03Pile sp_s_l03Take sp_s_l03Sort
 generalize hP:std=p,hB0:exR=B0,hB1:exB=B1,hB2:exC=B2,hB3:bagB=B3,hB4:rackB=B4,hB5:pileB=B5,hB6:takeS=B6,hB7:takeB=B7,hB8:isort=B8
 cbv
 repeat' first
  | (refine fun (_:Unit)=>?_;cbv)
  | (refine aI2 (fun h=>?_) (fun h=>?_)<;>cbv)
  | (refine aI2 ?_ ?_)
  | (refine Or.inl (fun (_:Unit)=>?_);cbv)
 all_goals subst hP hB0 hB1 hB2 hB3 hB4 hB5 hB6 hB7 hB8
 all_goals try exact fin
 all_goals try (have hc:exC a b t=0:=by rw [exC_std];simp only [*]<;>simp)
 all_goals try (have hF:=ex_f hc;have h1:=hF.la;have h2:=hF.lb;have h3:=hF.lt;have h4:=hF.lr)
 all_goals first
  | exact ltM_of hp.la
  | exact ltM_of hp.lb
  | exact ltM_of hp.lt
  | exact exR_no (by rw [exC_std];simp only [*]<;>simp)
  | exact exB_no (by rw [exC_std];simp only [*]<;>simp)
  | (rw [exC_std];simp only [*]<;>simp;done)
  | (show (t.length:Int)≤(a.length:Int);omega)
  | exact (exR_eq hc).symm
  | exact (exB_eq hc).symm
  | exact in64 (by show _≤((takeS b t).length : Int)+((a.take t.length).length : Int)∧((takeS b t).length : Int)+((a.take t.length).length : Int)≤_;rw [List.length_take];omega)
  | exact ltM_of (n:=(takeS b t++a.take t.length).length) (by rw [List.length_append,List.length_take];omega)
  | exact in64 (by show _≤((a.drop t.length).length : Int)+(t.length:Int)∧((a.drop t.length).length : Int)+(t.length:Int)≤_;rw [List.length_drop];omega)
  | skip
def plainB (q:Pl):Bool:=inR q.row 0 14&&(inR q.col 0 14&&wordB q.word)
structure ZrP (g:Gm) (k n:Int):Prop where
 ck:CkP g n
 pl:PlyP g
 z : -10≤g.zeros∧g.zeros≤10
structure ZrN (g:Gm) (k n:Int):Prop where
 b:ZrP g k n
 e:idleE g=false
structure ZrY (g:Gm) (k n:Int):Prop where
 b:ZrP g k n
 e:idleE g=true
 s:SetP (idleG g k n)
def zPl (g:Gm):Int:=1-g.player
def zZr (g:Gm):Int:=g.zeros+1
def zSc (g:Gm) (k n:Int):List Int:=setSc (idleG g k n)
def gmHz (g g':Gm):AH:=[(0,.cells (gmK g' (.osl 1) (.osl 2) (.osl 3) (.osl 4) (.osl 7) (.osl 8)) 41),(1,.own [.i .i64] g.ts.values 2),(2,.own [.i .i64] g.ts.counts 2),(3,.own [.s] g.lex 9),(4,.own [.s] g.racks 9),
 (5,.own [.i .i64] g.scores 2),(6,.own [.i .i64] g.clocks 2),(7,.own [.i .i64] g'.scores 2),(8,.own [.i .i64] g'.clocks 2)]
def sp_s_l18Zero_n (p:Pr):MSpec:=msp (mG (ac aI (a1 aI))) (fun (g,k,n)=>ZrN g k n) (fun (g,k,n)=>.tup []) (fun (g,k,n)=>gmHk g ⟨g.ts,g.lex,g.bd0,g.secs,g.rule,g.bd,g.bag,g.racks,g.scores,ckL g n,zPl g,zZr g,⟨k,g.player,⟨0,0,false,[]⟩,[],[],0,0⟩,g.over⟩)
theorem ok_s_l18Zero_n:MOk Tryz.prog 109 (sp_s_l18Zero_n std):=by
 refine MOk.go (c:=cx std [(121,sp_s_l18Waits std)] [(131,sp_s_l18Clock std),(132,sp_s_l18Settle std)] 7) (cx_ok (.cons ok_s_l18Waits .nil) (.cons ok_s_l18Clock (.cons ok_s_l18Settle .nil))) mixed Tryz.func109 rfl rfl (by kernel_rfl) ?_
 rintro ⟨g,k,n⟩ hp
 dsimp only at hp
 refine⟨rfl,?_⟩
 unfold sp_s_l18Waits sp_s_l18Clock sp_s_l18Settle
 generalize hP:std=p,hB0:ckL=B0,hB1:waitsB=B1,hB2:setSc=B2,hB3:zPl=B3,hB4:zZr=B4,hB5:zSc=B5
 cbv
 repeat' first
  | (refine fun (_:Unit)=>?_;cbv)
  | (refine aI2 (fun h=>?_) (fun h=>?_)<;>cbv)
  | (refine aI2 ?_ ?_)
  | (refine Or.inl (fun (_:Unit)=>?_);cbv)
 all_goals subst hP hB0 hB1 hB2 hB3 hB4 hB5
 all_goals try exact fin
 all_goals try (exfalso;exact zn1 hp.e ‹_›)
 all_goals try (exfalso;exact zn2 hp.e ‹_›)
 ·exact hp.b.pl
 ·exact hp.b.ck
 ·exact in64 (by show _≤1-g.player∧1-g.player≤_;rcases hp.b.pl.ply with h | h<;>omega)
 ·exact in64 (by show _≤g.zeros+1∧g.zeros+1≤_;have:=hp.b.z;omega)
def sp_s_l18Zero_y (p:Pr):MSpec:=msp (mG (ac aI (a1 aI))) (fun (g,k,n)=>ZrY g k n) (fun (g,k,n)=>.tup []) (fun (g,k,n)=>gmHz g ⟨g.ts,g.lex,g.bd0,g.secs,g.rule,g.bd,g.bag,g.racks,zSc g k n,ckL g n,zPl g,zZr g,⟨k,g.player,⟨0,0,false,[]⟩,[],[],0,0⟩,true⟩)
theorem ok_s_l18Zero_y:MOk Tryz.prog 109 (sp_s_l18Zero_y std):=by
 refine MOk.go (c:=cx std [(121,sp_s_l18Waits std)] [(131,sp_s_l18Clock std),(132,sp_s_l18Settle std)] 7) (cx_ok (.cons ok_s_l18Waits .nil) (.cons ok_s_l18Clock (.cons ok_s_l18Settle .nil))) mixed Tryz.func109 rfl rfl (by kernel_rfl) ?_
 rintro ⟨g,k,n⟩ hp
 dsimp only at hp
 refine⟨rfl,?_⟩
 unfold sp_s_l18Waits sp_s_l18Clock sp_s_l18Settle
 generalize hP:std=p,hB0:ckL=B0,hB1:waitsB=B1,hB2:setSc=B2,hB3:zPl=B3,hB4:zZr=B4,hB5:zSc=B5
 cbv
 repeat' first
  | (refine fun (_:Unit)=>?_;cbv)
  | (refine aI2 (fun h=>?_) (fun h=>?_)<;>cbv)
  | (refine aI2 ?_ ?_)
  | (refine Or.inl (fun (_:Unit)=>?_);cbv)
 all_goals subst hP hB0 hB1 hB2 hB3 hB4 hB5
 all_goals try exact fin
 all_goals try (exfalso;exact zy1 hp.e ‹_› ‹_›)
 all_goals try exact hp.s
 ·exact hp.b.pl
 ·exact hp.b.ck
 ·exact in64 (by show _≤1-g.player∧1-g.player≤_;rcases hp.b.pl.ply with h | h<;>omega)
 ·exact in64 (by show _≤g.zeros+1∧g.zeros+1≤_;have:=hp.b.z;omega)
end Ax
namespace Ax
set_option maxRecDepth 100000
set_option maxHeartbeats 2000000
section
variable {P:Program} {f:FuncId} {α:Type}
theorem FOk.casesE {A:Args α} {pre1 pre2 pre:α→Prop} {v1 v2 v:α→PV} {e1 e2 e:α→AH} (h1:FOk P f (fsp A pre1 v1 e1)) (h2:FOk P f (fsp A pre2 v2 e2)) (hd : ∀a,pre a→(pre1 a∧v1 a=v a∧e1 a=e a)∨(pre2 a∧v2 a=v a∧e2 a=e a)):FOk P f (fsp A pre v e):=by
 refine⟨h1.fn,fun args out hs hp=>?_⟩
 unfold fsp at hs
 split at hs
 ·rename_i a ha
  cases hs
  rcases hd a (hp _ (List.mem_cons_self ..)) with ⟨g1,g2,g3⟩ | ⟨g1,g2,g3⟩
  ·have:=h1.run args ⟨[pre1 a],v1 a,e1 a⟩ (by unfold fsp;rw [ha]) (fun p hm=>by rw [List.mem_singleton.1 hm];exact g1)
   rw [g2,g3] at this
   intro w e vals hz hl
   refine (this w e vals hz hl).mono ?_
   rintro en w' ⟨u,e',rfl,hP⟩
   exact⟨u,e',rfl,by cases hP;constructor<;>assumption⟩
  ·have:=h2.run args ⟨[pre2 a],v2 a,e2 a⟩ (by unfold fsp;rw [ha]) (fun p hm=>by rw [List.mem_singleton.1 hm];exact g1)
   rw [g2,g3] at this
   intro w e vals hz hl
   refine (this w e vals hz hl).mono ?_
   rintro en w' ⟨u,e',rfl,hP⟩
   exact⟨u,e',rfl,by cases hP;constructor<;>assumption⟩
 ·cases hs
def nilH:List (Nat×Ob)→Bool
 | []=>true
 | (_,.own _ [] _)::r=>nilH r
 | _=>false
theorem nilH_get : ∀{H:AH} {k:Nat} {o:Ob},nilH H=true→H.get k=some o→∃sh t,o=.own sh [] t
 | [],k,o,_,h=>by simp [AH.get] at h
 | (j,x)::r,k,o,hn,h=>by
   unfold nilH at hn
   unfold AH.get at h
   split at hn
   ·rename_i h0;cases h0
   ·rename_i h0
    cases h0
    split at h
    ·cases h;exact⟨_,_,rfl⟩
    ·exact nilH_get hn h
   ·cases hn
theorem FOk.own {A:Args α} {pre:α→Prop} {v v':α→PV} {H:AH} (h:FOk P f (fsp A pre v)) (hH:nilH H=true)
 (hd : ∀a w e u,(∀k,(H.get k).isSome =true→e.on k∧e.adr k=none∧e.len k=0∧e.cap k=0)→R w e (v a) u→R w e (v' a) u):FOk P f (fsp A pre v' fun _=>H):=by
 refine⟨h.fn,fun args out hs hp w e vals hz hl=>?_⟩
 unfold fsp at hs
 split at hs
 ·rename_i a ha
  cases hs
  refine (h.run args ⟨[pre a],v a,[]⟩ (by unfold fsp;rw [ha]) hp w e vals hz hl).mono ?_
  rintro en w' ⟨u,e',rfl,hP⟩
  have hoff : ∀k,¬e'.on k:=fun k hk=>(hP.new k hk).elim (fun h=>h) (fun h=>by have h2:=h.2;simp [AH.get] at h2)
  have hle:e'.Le ⟨fun _=>none,fun _=>0,fun _=>0,e'.fz,fun k=>(H.get k).isSome =true,fun k=>(H.get k).isSome =true⟩:=⟨fun k hk=>(hoff k hk).elim,fun k hk=>(hoff k hk).elim,fun k hk=>(hoff k hk).elim,fun k hk=>(hoff k hk).elim,fun _ h=>h⟩
  have hb : ∀k b,¬Env.blk ⟨fun _=>none,fun _=>0,fun _=>0,e'.fz,fun k=>(H.get k).isSome =true,fun k=>(H.get k).isSome =true⟩ k b:=fun k b ⟨x,hx,_⟩=>by cases hx
  refine⟨u,_,rfl,hd a _ _ _ (fun k hk=>⟨hk,rfl,rfl,rfl⟩) (R_mono (fun _ _=>rfl) hle _ _ hP.val),⟨fun k hk=>hk.elim,fun k hk=>hk.elim,fun k hk=>hk.elim,fun k hk=>hk.elim,fun b hb=>hP.le.fz b hb⟩,
   ⟨fun b hb=>hP.fz.fz b hb,fun k b _ _ hk=>(hb k b hk).elim⟩,fun k o ho=>?_,fun k hk=>.inr ⟨Nat.zero_le _,hk⟩,fun k hk=>.inr ⟨fun h=>h,hk,fun b h=>(hb k b h).elim⟩,fun k hk=>hk.elim,fun k k' b _ _ _ _ hk=>(hb k b hk).elim,⟨hP.chg.os,hP.chg.tape,hP.chg.output,hP.chg.size,fun b hb _=>hP.chg.block b hb fun ⟨k,hk,_⟩=>hk.elim⟩⟩
  obtain⟨sh,t,rfl⟩:=nilH_get hH ho
  exact⟨⟨rfl,.inl ⟨rfl,rfl,rfl⟩⟩,by show (H.get k).isSome =true;rw [ho];rfl,fun _=>by show (H.get k).isSome =true;rw [ho];rfl⟩
 ·cases hs
theorem nil_O {w:World} {e:Env} {k:Nat} {u:Value} (h:e.on k∧e.adr k=none∧e.len k=0∧e.cap k=0) (hr:R w e .esl u):R w e (.osl k) u:=by
 unfold R at *
 exact⟨h.1,by rw [h.2.1,h.2.2.1,h.2.2.2];exact hr⟩
inductive Fol (w:World) (e:Env):List PV→List PV→Prop
 | nil:Fol w e [] []
 | cons {p q:PV} {l r:List PV} (h : ∀u,R w e p u→R w e q u) (t:Fol w e l r):Fol w e (p::l) (q::r)
theorem Rs_fol {w:World} {e:Env} : ∀{l r:List PV},Fol w e l r→∀{vs:List Value},Rs w e l vs→Rs w e r vs
 | _,_,.nil,_,h=>h
 | _,_,.cons h t,vs,hs=>by
   unfold Rs at hs ⊢
   obtain⟨u,us,rfl,h1,h2⟩:=hs
   exact⟨u,us,rfl,h u h1,Rs_fol t h2⟩
theorem agg_fol {w:World} {e:Env} {l r:List PV} (h:Fol w e l r) : ∀u,R w e (.agg l) u→R w e (.agg r) u:=fun u hr=>by
 unfold R at hr ⊢
 obtain⟨vs,rfl,h1⟩:=hr
 exact⟨vs,rfl,Rs_fol h h1⟩
theorem tup_fol {w:World} {e:Env} {l r:List PV} (h:Fol w e l r) : ∀u,R w e (.tup l) u→R w e (.tup r) u:=fun u hr=>by
 unfold R at hr ⊢
 obtain⟨vs,rfl,h1⟩:=hr
 exact⟨vs,rfl,Rs_fol h h1⟩
end
theorem esl_fol {w:World} {e:Env} (h : ∀k,((gmH6 gm0).get k).isSome =true→e.on k∧e.adr k=none∧e.len k=0∧e.cap k=0):Fol w e (gmK gm0 .esl .esl .esl .esl .esl .esl) (gmO6 gm0):=by
 unfold gmO6 gmK
 repeat' first
  | exact .nil
  | refine .cons ?_ ?_
  | exact fun _ h=>h
  | exact fun _ hr=>nil_O (h _ rfl) hr
end Ax
end Go.Proofs.YtjjonmhpgkahoaaGreatDoor
