/-
  The law of ends: if nobody plays, a game ends.
  Conditions: none.
-/
import Derived.Test.YtjjonmhpgkahoaaGreatDoorE45
import Derived.Test.YtjjonmhpgkahoaaGreatDoorG03
import Derived.Test.YtjjonmhpgkahoaaGreatDoorE47
set_option linter.unusedSimpArgs false
set_option linter.unusedVariables false
namespace Go.Proofs.YtjjonmhpgkahoaaGreatDoor
namespace Ax
set_option maxRecDepth 100000
set_option maxHeartbeats 20000000
theorem NOk.ofF {P:Program} {g:FuncId} {α β:Type} {A:Args α} {pre:α→Prop} {B:NRes β} {f:α→β} {v:α→PV} (h:FOk P g (fsp A pre v)) (hv : ∀a,v a=B.v (f a)) (hB : ∀x,B.eh x=[]):NOk P g (nsp (mN A) pre (fun _=>B) (fun a x=>x=f a)):=by
 refine⟨h.fn,fun H args out hs hp w e vals hz hob hon hlv hbd hdis hl=>?_⟩
 unfold nsp at hs
 split at hs
 ·rename_i a ha
  cases hs
  unfold mN at ha
  dsimp only at ha
  split at ha
  ·have he:({ e with on:=fun _=>False,lv:=fun _=>False } : Env)=e:=by
    have h1:(fun _:Nat=>False)=e.on:=funext fun k=>propext ⟨fun h=>h.elim,fun h=>absurd ((hon k).1 h) (Nat.not_lt_zero k)⟩
    have h2:(fun _:Nat=>False)=e.lv:=funext fun k=>propext ⟨fun h=>h.elim,fun h=>absurd ((hlv k).1 h) (Nat.not_lt_zero k)⟩
    show (⟨e.adr,e.cap,e.len,e.fz,fun _=>False,fun _=>False⟩:Env)=⟨e.adr,e.cap,e.len,e.fz,e.on,e.lv⟩
    rw [←h1,←h2]
   have hS:(fsp A pre v:FSpec) args=some ⟨[pre a],v a,[]⟩:=by unfold fsp;rw [ha]
   refine (h.run args _ hS (fun q hq=>hp q hq) w e vals hz hl).mono ?_
   rintro en w' ⟨u,e',hu,hP⟩
   rw [he,hv] at hP
   refine⟨f a,rfl,u,e',hu,?_⟩
   show Post w w' e e' 0 ⟨[],B.v (f a),B.eh (f a)⟩ u
   rw [hB]
   exact⟨hP.val,hP.le,hP.fz,hP.eff,hP.new,hP.nlv,hP.klv,hP.dis,hP.chg⟩
  ·cases ha
 ·cases hs
def sp_i_PassTurnN (_:Pr):NSpec:=nsp (mN (ac (aA aGm) (a1 aI))) (fun (g,n)=>PiP g) (fun _=>rGI) (fun (g,n) x=>x=(passR g n,actC g n))
theorem ok_i_PassTurnN:NOk Tryz.prog 33 (sp_i_PassTurnN std):=NOk.ofF (B:=rGI) (f:=fun a:Gm×Int=>(passR a.1 a.2,actC a.1 a.2)) ok_i_PassTurnF (fun _=>rfl) (fun _=>rfl)
def rII:NRes (Int×Int):=⟨fun _ l=>match l with
 | [.i .i64 n,.i .i64 m]=>some (n,m)
 | _=>none,fun _=>[],fun a=>.tup [.i .i64 a.1,.i .i64 a.2]⟩
def sp_i_WinnerOfN (_:Pr):NSpec:=nsp (mN (a1 (aA aGm))) (fun g=>GmQ g) (fun _=>rII) (fun g x=>x=(wnV g,wnC g))
theorem ok_i_WinnerOfN:NOk Tryz.prog 27 (sp_i_WinnerOfN std):=NOk.ofF (B:=rII) (f:=fun g=>(wnV g,wnC g)) ok_i_WinnerOf (fun _=>rfl) (fun _=>rfl)
def sp_s_WinnerOfN (_:Pr):NSpec:=nsp (mN (a1 (aA aGm))) (fun g=>GmL g) (fun _=>rII) (fun g x=>x=(wnV g,wnC g))
theorem ok_s_WinnerOfN:NOk Tryz.prog 28 (sp_s_WinnerOfN std):=NOk.ofF (B:=rII) (f:=fun g=>(wnV g,wnC g)) ok_s_WinnerOf (fun _=>rfl) (fun _=>rfl)
structure EnJ (g x:Gm) (k:Int):Prop where
 p:PsJ g x k
 b:GmB 1048576 x
 k6:k≤6
@[reducible] def gevV:List LV:=LV.s 19 (.i .i64)::LV.c 1 0 .s ::LV.c 1 1 (.r [.i .i64])::LV.c 1 2 (.r [.i .i64])::LV.c 1 3 (.i .i64)::LV.c 1 4 (.r [.s])::LV.c 1 5 (.i .i64)::LV.c 1 6 .s ::LV.c 1 7 .s ::LV.c 1 8 (.i .i64)::LV.c 1 9 (.i .i64)::LV.c 1 10 (.i .i64)::LV.c 1 11 .s ::LV.c 1 12 .s ::LV.c 1 13 .s ::LV.c 1 14 (.r [.s])::LV.c 1 15 (.r [.i .i64])::LV.c 1 16 (.r [.i .i64])::LV.c 1 17 (.i .i64)::LV.c 1 18 (.i .i64)::LV.c 1 19 (.i .i64)::LV.c 1 20 (.i .i64)::LV.c 1 21 (.i .i64)::LV.c 1 22 (.i .i64)::LV.c 1 23 .b ::LV.c 1 24 .s ::LV.c 1 25 .s ::LV.c 1 26 .s ::LV.c 1 27 (.i .i64)::LV.c 1 28 (.i .i64)::LV.c 1 29 .b ::[]
theorem pr_eq {α β:Type} {a:α} {b:β} {p:α×β} (h:(a,b)=p):a=p.1∧b=p.2:=by subst h;exact⟨rfl,rfl⟩
theorem fc_0 {g:Gm} (h:std.eqI (fcN g).2 0=true):gameB g=true∧g.over=false∧fcN g=(chgs g,0):=by
 have h1:(fcN g).2=0:=by simpa using h
 cases hv:gameB g with
 | false=>rw [fc_i hv] at h1;cases h1
 | true=>
   cases ho:g.over with
   | true=>rw [fc_o hv ho] at h1;cases h1
   | false=>exact⟨rfl,rfl,fc_y hv ho⟩
theorem fc_len (g:Gm):std.leP (std.len (fcN g).1) 1073741824:=by
 show ((fcN g).1.length : Int)≤1073741824
 unfold fcN
 split
 ·split
  ·exact (by decide:(0:Int)≤1073741824)
  ·exact (by decide:(2:Int)≤1073741824)
 ·exact (by decide:(0:Int)≤1073741824)
theorem en_0 {g:Gm} (hb:GmB 1048576 g) (h:std.eqI (fcN g).2 0=true):EnJ g g 0:=⟨ps_0 (fc_0 h).1 (fc_0 h).2.1,hb,by decide⟩
theorem en_s {g x:Gm} {k:Int} (h:EnJ g x k) (ho:x.over=false) (hl:std.ltI k 6=true) (hc:std.eqI (actC x 0) 0=true):EnJ g (passR x 0) (std.add k 1):=by
 have hc1:actC x 0=0:=by simpa using hc
 have hl1:=lt_of hl
 refine⟨ps_step h.p ho hc1,?_,by show k+1≤6;omega⟩
 unfold passR
 rw [if_pos hc1]
 exact zeroG_b h.b
theorem en_k {g x:Gm} {k:Int} (h:EnJ g x k) (ho:x.over=false) (hc:std.eqI (actC x 0) 0=false):actC x 0=5∧k=0:=by
 have hc1 : ¬actC x 0=0:=by simpa using hc
 exact (ps_act h.p ho).resolve_left hc1
theorem en_1 {g x:Gm} {k:Int} (h:EnJ g x k):std.inK .i64 (std.add k 1):=in64 (by have:=h.k6;have:=h.p.lo;show _≤k+1∧k+1≤_;omega)
theorem sc_n {g:Gm} (h:gameB g=true) {i:Int} (h0:0≤i) (h1:i≤1):std.inK .i64 (std.add (std.get 0 g.scores i) (std.get 0 (chgs g) i)):=by
 have hv:=gv_of h
 have he:=gv_end h
 have k0:=hv.s0;have k1:=hv.s1
 unfold sideB at k0 k1
 simp only [Bool.and_eq_true] at k0 k1
 have q0:=in_bd k0.2.1;have q1:=in_bd k1.2.1
 have c0:=chg_bd he 0;have c1:=chg_bd he 1
 rcases (show i=0∨i=1 by omega) with e | e<;>subst e
 ·exact in64 (by show _≤g.scores.getD 0 0+chg g 0∧g.scores.getD 0 0+chg g 0≤_;omega)
 ·exact in64 (by show _≤g.scores.getD 1 0+chg g 1∧g.scores.getD 1 0+chg g 1≤_;omega)
theorem en_f {g x:Gm} {k:Int} (h:EnJ g x k) (hg:gameB g=true) (hk:x.over=true∨std.ltI k 6=false):x.over=true∧x.scores=[g.sc 0+chg g 0,g.sc 1+chg g 1]∧gameB x=true:=by
 have ho:x.over=true:=hk.elim id fun hk=>ps_end hg h.p (ge_of hk)
 exact⟨ho,h.p.ye ho,h.p.v⟩
theorem eq_s (a:Int):std.eqI a a=true:=by simp
theorem en_w {x:List Int} {v:Int} (hv:v=if x.getD 0 0=x.getD 1 0 then -1 else if x.getD 0 0<x.getD 1 0 then 1 else 0) :
 (std.eqI v 0=true→std.ltI (std.get 0 x 1) (std.get 0 x 0)=true)∧(std.eqI v 0=false→std.eqI v 1=true→std.ltI (std.get 0 x 0) (std.get 0 x 1)=true)∧(std.eqI v 0=false→std.eqI v 1=false→std.eqI (std.get 0 x 0) (std.get 0 x 1)=true)∧(std.eqI v 0=false→std.eqI v 1=false→std.eqI v (-1)=true):=by
 have e0:std.get 0 x 0=x.getD 0 0:=rfl
 have e1:std.get 0 x 1=x.getD 1 0:=rfl
 rw [e0,e1]
 generalize x.getD 0 0=a at *
 generalize x.getD 1 0=b at *
 subst hv
 by_cases h1:a=b
 ·subst h1;simp
 ·by_cases h2:a<b
  ·simp [h1,h2]
  ·simp [h1,h2];omega
theorem en_z {x:List Int} {g:Gm} (hx:x=[g.sc 0+chg g 0,g.sc 1+chg g 1]):std.eqI (std.get 0 x 0) (std.add (std.get 0 g.scores 0) (std.get 0 (chgs g) 0))=true∧std.eqI (std.get 0 x 1) (std.add (std.get 0 g.scores 1) (std.get 0 (chgs g) 1))=true∧std.eqI (std.len x) 2=true:=by
 subst hx
 exact⟨eq_s _,eq_s _,rfl⟩
def sp_l_FnGameEnds (p:Pr):FSpec:=fsp (a1 aY) (fun code=>CbP code) (fun code=>.b true)
theorem ok_l_FnGameEnds:FOk Tryz.prog 4 (sp_l_FnGameEnds std):=by
 refine FOk.go (c:=cxN std [(9,sp_l_f6big std),(30,sp_i_TimePenalty std),(31,sp_s_TimePenalty std),(32,sp_l_f6ints std)] [] [(24,sp_s_DrawPassTurn std),(29,sp_s_DrawTimePenalty std),(25,sp_i_FinalChange_b std),(26,sp_s_FinalChange_b std),(27,sp_i_WinnerOfN std),(28,sp_s_WinnerOfN std),(33,sp_i_PassTurnN std)] 0 (if false then some stdU else none) []) (cxN_ok (.cons ok_l_f6big (.cons ok_i_TimePenalty (.cons ok_s_TimePenalty (.cons ok_l_f6ints .nil)))) .nil (.cons ok_s_DrawPassTurn (.cons ok_s_DrawTimePenalty (.cons ok_i_FinalChange_b (.cons ok_s_FinalChange_b (.cons ok_i_WinnerOfN (.cons ok_s_WinnerOfN (.cons ok_i_PassTurnN .nil)))))))) mixed Tryz.func4 rfl rfl rfl (by kernel_rfl) ?_
 rintro code hp
 refine⟨rfl,?_⟩
 unfold sp_l_f6big sp_s_DrawPassTurn sp_s_DrawTimePenalty sp_i_FinalChange_b sp_s_FinalChange_b sp_i_WinnerOfN sp_s_WinnerOfN sp_i_TimePenalty sp_s_TimePenalty sp_l_f6ints sp_i_PassTurnN
 obtain⟨H,hH⟩ : ∃H:(Gm)→Hd (Int×List UInt8×List Int×List Int×Int×List (List UInt8)×Int×List UInt8×List UInt8×Int×Int×Int×List UInt8×List UInt8×List UInt8×List (List UInt8)×List Int×List Int×Int×Int×Int×Int×Int×Int×Bool×List UInt8×List UInt8×List UInt8×Int×Int×Bool),H=fun g=>⟨fun (k,x0,x1,x2,x3,x4,x5,x6,x7,x8,x9,x10,x11,x12,x13,x14,x15,x16,x17,x18,x19,x20,x21,x22,x23,x24,x25,x26,x27,x28,x29)=>EnJ g ⟨⟨x0,x1,x2,x3⟩,x4,⟨x5,x6,x7⟩,x8,x9,⟨x10,x11,x12⟩,x13,x14,x15,x16,x17,x18,⟨x19,x20,⟨x21,x22,x23,x24⟩,x25,x26,x27,x28⟩,x29⟩ k,fun (k,x0,x1,x2,x3,x4,x5,x6,x7,x8,x9,x10,x11,x12,x13,x14,x15,x16,x17,x18,x19,x20,x21,x22,x23,x24,x25,x26,x27,x28,x29)=>(6-k).toNat,(· < ·)⟩:=⟨_,rfl⟩
 have hl : ∀x m n,(H x).lt m n→m<n:=by subst hH;exact fun _ _ _ h=>h
 generalize hP:std=p,hB0:bigB=B0,hB1:gameB=B1,hB2:fcN=B2,hB3:wnV=B3,hB4:wnC=B4,hB5:tpV=B5,hB6:tpC=B6,hB7:passR=B7,hB8:actC=B8,hB9:far=B9,hB10:qeN=B10
 cbv
 repeat' first
  | (refine fun (_:Unit)=>?_;cbv)
  | (refine Or.inr ⟨94,[],gevV,[],[],H ‹Nd (Gm×Int)›.x.1,rfl,hl _,?_,fun ((k,x0,x1,x2,x3,x4,x5,x6,x7,x8,x9,x10,x11,x12,x13,x14,x15,x16,x17,x18,x19,x20,x21,x22,x23,x24,x25,x26,x27,x28,x29):Int×List UInt8×List Int×List Int×Int×List (List UInt8)×Int×List UInt8×List UInt8×Int×Int×Int×List UInt8×List UInt8×List UInt8×List (List UInt8)×List Int×List Int×Int×Int×Int×Int×Int×Int×Bool×List UInt8×List UInt8×List UInt8×Int×Int×Bool) hk=>?_⟩<;>(first | (rw [hd_as];cbv) | cbv))
  | (refine fun (y:Nd _) hy=>?_;cbv)
  | (refine aI2 (fun h=>?_) (fun h=>?_)<;>cbv)
  | (refine aI2 ?_ ?_)
 all_goals subst hP hB0 hB1 hB2 hB3 hB4 hB5 hB6 hB7 hB8 hB9 hB10 hH
 all_goals clear hl
 all_goals try dsimp only at hk
 all_goals try dsimp only
 all_goals try exact fin
 ·exact hp.d ‹_›
 all_goals try (rename Nd (List Int×Int)=>ya;rcases ya with ⟨⟨L2,c2⟩⟩)
 all_goals try (rename Nd (List Int×Int)=>ya;rcases ya with ⟨⟨L1,c1⟩⟩)
 all_goals try (rename Nd (Int×Int)=>ya;rcases ya with ⟨⟨w3,e3⟩⟩)
 all_goals try (rename Nd (Int×Int)=>ya;rcases ya with ⟨⟨w2,e2⟩⟩)
 all_goals try (rename Nd (Int×Int)=>ya;rcases ya with ⟨⟨w1,e1⟩⟩)
 all_goals try (rename Nd (Gm×Int)=>ya;rcases ya with ⟨⟨gB,nB⟩⟩)
 all_goals try (rename Nd (Gm×Int)=>ya;rcases ya with ⟨⟨gA,nA⟩⟩)
 all_goals try dsimp only at *
 all_goals try (rename (Prod.mk (α:=List Int) (β:=Int) _ _=_)=>hh;obtain⟨rfl,rfl⟩:=pr_eq hh;clear hh)
 all_goals try (rename (Prod.mk (α:=List Int) (β:=Int) _ _=_)=>hh;obtain⟨rfl,rfl⟩:=pr_eq hh;clear hh)
 all_goals try (rename (Prod.mk (α:=Int) (β:=Int) _ _=_)=>hh;obtain⟨rfl,rfl⟩:=pr_eq hh;clear hh)
 all_goals try (rename (Prod.mk (α:=Int) (β:=Int) _ _=_)=>hh;obtain⟨rfl,rfl⟩:=pr_eq hh;clear hh)
 all_goals try (rename (Prod.mk (α:=Int) (β:=Int) _ _=_)=>hh;obtain⟨rfl,rfl⟩:=pr_eq hh;clear hh)
 all_goals try (rename (Prod.mk (α:=Gm) (β:=Int) _ _=_)=>hh;obtain⟨rfl,rfl⟩:=pr_eq hh;clear hh)
 all_goals try dsimp only at *
 all_goals (try simp only [eta_ts,eta_bd,eta_la,eta_pl,eta_gmz] at *)
 all_goals try (rename BeB _=>hb0)
 all_goals try (have f0:=fc_0 (by assumption:std.eqI (fcN _).2 0=true))
 all_goals try (rename EnJ _ _ _=>hk)
 all_goals first
  | exact hk.b.gq
  | exact⟨hk.b.gq,hk.b.gc⟩
  | exact hb0.b.gq
  | exact hb0.gl
  | exact hp.d ‹_›
  | exact fc_len _
  | exact en_0 hb0.b ‹_›
  | exact en_1 hk
  | exact en_s hk ‹_› ‹_› ‹_›
  | exact (qeN_r _).symm.trans ‹_›
  | exact (eq_s _).symm.trans ‹_›
  | skip
 all_goals try (have hko:=en_k hk ‹_› (by assumption:std.eqI (actC _ 0) 0=false))
 all_goals try exact (by rw [hko.1];rfl)
 all_goals try exact (show std.eqI k 0=true by rw [hko.2];rfl).symm.trans ‹_›
 all_goals obtain⟨f1,f2,f3⟩:=f0
 all_goals simp only [f3] at *
 all_goals try exact sc_ix f1 (by decide) (by decide)
 all_goals try exact (⟨by decide,by decide⟩:(0:Int)≤0∧(0:Int)<2)
 all_goals try exact (⟨by decide,by decide⟩:(0:Int)≤1∧(1:Int)<2)
 all_goals try exact sc_n f1 (by decide) (by decide)
 all_goals have hF:=en_f hk f1 (by first | exact .inl ‹_› | exact .inr ‹_›)
 all_goals obtain⟨g1,g2,g3⟩:=hF
 all_goals have hw:=wn_y g3 g1
 all_goals have hz:=en_z g2
 all_goals first
  | exact (en_w hw.1).1 ‹_›
  | exact (en_w hw.1).2.1 ‹_› ‹_›
  | exact (en_w hw.1).2.2.1 ‹_› ‹_›
  | exact ((en_w hw.1).2.2.2 ‹_› ‹_›).symm.trans ‹_›
  | exact hz.1.symm.trans ‹_›
  | exact hz.2.1.symm.trans ‹_›
  | exact hz.2.2.symm.trans ‹_›
  | exact g1.symm.trans ‹_›
  | exact (show std.eqI (wnC _) 0=true by rw [hw.2];rfl).symm.trans ‹_›
  | skip
end Ax
end Go.Proofs.YtjjonmhpgkahoaaGreatDoor
