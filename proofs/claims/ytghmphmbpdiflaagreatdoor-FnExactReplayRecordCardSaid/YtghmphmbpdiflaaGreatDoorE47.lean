/-
  Records, of the impl package: the last state, its rows the call's own.
  Conditions: none.
-/
import Derived.Test.YtghmphmbpdiflaaGreatDoorE45
import Derived.Test.YtghmphmbpdiflaaGreatDoorE46
set_option linter.unusedSimpArgs false
set_option linter.unusedVariables false
namespace Go.Proofs.YtghmphmbpdiflaaGreatDoor
namespace Ax
set_option maxRecDepth 100000
set_option maxHeartbeats 20000000
@[reducible] def rpV8:List LV:=LV.s 48 (.i .i64)::LV.c 10 0 .s ::LV.c 10 3 (.i .i64)::LV.c 10 5 (.i .i64)::LV.c 10 6 .s ::LV.c 10 7 .s ::LV.c 10 8 (.i .i64)::LV.c 10 9 (.i .i64)::LV.c 10 10 (.i .i64)::LV.c 10 11 .s ::LV.c 10 12 .s ::LV.c 10 13 .s ::LV.c 10 17 (.i .i64)::LV.c 10 18 (.i .i64)::LV.c 10 19 (.i .i64)::LV.c 10 20 (.i .i64)::LV.c 10 21 (.i .i64)::LV.c 10 22 (.i .i64)::LV.c 10 23 .b ::LV.c 10 24 .s ::LV.c 10 25 .s ::LV.c 10 26 .s ::LV.c 10 27 (.i .i64)::LV.c 10 28 (.i .i64)::LV.c 10 29 .b ::LV.o 3 [.i .i64]::LV.o 4 [.i .i64]::LV.o 5 [.s]::LV.o 6 [.s]::LV.o 7 [.i .i64]::LV.o 8 [.i .i64]::LV.o 11 [.r [.i .i64]]::LV.o 12 [.i .i64]::[]
def sp_i_replayed_g (p:Pr):FSpec:=fsp (ac (aA aSu) (a1 (aA aRcd))) (fun (u,r)=>RyP u r) (fun (u,r)=>.tup [.agg (gmO6 (rpZ (bgG u r) r)++[.osl 6,.osl 7,.i .i64 (rpI (bgG u r) r),.i .i64 (ruC (bgG u r) r)]),.i .i64 0]) (fun (u,r)=>[(0,.own [.i .i64] (rpZ (bgG u r) r).ts.values 2),(1,.own [.i .i64] (rpZ (bgG u r) r).ts.counts 2),(2,.own [.s] (rpZ (bgG u r) r).lex 9),(3,.own [.s] (rpZ (bgG u r) r).racks 9),(4,.own [.i .i64] (rpZ (bgG u r) r).scores 2),(5,.own [.i .i64] (rpZ (bgG u r) r).clocks 2),(6,.own [.r [.i .i64]] (rpS (bgG u r) r) 24),(7,.own [.i .i64] (ruP (bgG u r) r) 2)])
theorem ok_i_replayed_g:FOk Tryz.prog 184 (sp_i_replayed_g std):=by
 refine FOk.go (c:=cxN std [(12,sp_i_ValidSetup std),(229,sp_i_ValidRecord std),(230,sp_i_ShuffleBag std),(9,sp_i_StartGame std),(231,sp_i_DoAction std),(206,sp_cloneN std)] [] [] 0 (if false then some stdU else none) [206]) (cxN_ok (.cons ok_i_ValidSetup (.cons ok_i_ValidRecord (.cons ok_i_ShuffleBag (.cons ok_i_StartGame (.cons ok_i_DoAction (.cons ok_cloneN .nil)))))) .nil .nil) mixed Tryz.func184 rfl rfl rfl (by kernel_rfl) ?_
 rintro ⟨u,r⟩ hp
 dsimp only at hp
 refine⟨rfl,?_⟩
 unfold sp_i_ValidSetup sp_i_ValidRecord sp_i_ShuffleBag sp_i_StartGame sp_i_DoAction sp_cloneN
 obtain⟨H,hH⟩ : ∃H:Hd (Int×List UInt8×Int×Int×List UInt8×List UInt8×Int×Int×Int×List UInt8×List UInt8×List UInt8×Int×Int×Int×Int×Int×Int×Bool×List UInt8×List UInt8×List UInt8×Int×Int×Bool×List Int×List Int×List (List UInt8)×List (List UInt8)×List Int×List Int×List (List Int)×List Int),H=⟨fun (k,x0,x3,x5,x6,x7,x8,x9,x10,x11,x12,x13,x17,x18,x19,x20,x21,x22,x23,x24,x25,x26,x27,x28,x29,x1,x2,x4,x14,x15,x16,S,P)=>RpJ (bgG u r) r k S P ⟨⟨x0,x1,x2,x3⟩,x4,⟨x5,x6,x7⟩,x8,x9,⟨x10,x11,x12⟩,x13,x14,x15,x16,x17,x18,⟨x19,x20,⟨x21,x22,x23,x24⟩,x25,x26,x27,x28⟩,x29⟩,fun (k,x0,x3,x5,x6,x7,x8,x9,x10,x11,x12,x13,x17,x18,x19,x20,x21,x22,x23,x24,x25,x26,x27,x28,x29,x1,x2,x4,x14,x15,x16,S,P)=>(r.acts.length-k).toNat,(· < ·)⟩:=⟨_,rfl⟩
 have hl : ∀m n,H.lt m n→m<n:=by subst hH;exact fun _ _ h=>h
 generalize hP:std=p,hB0:suB=B0,hB1:rcB=B1,hB2:sbS=B2,hB3:sbC=B3,hB4:bgnR=B4,hB5:bgnC=B5,hB6:bgG=B6,hB7:rpZ=B7,hB8:rpS=B8,hB9:ruP=B9,hB10:rpI=B10,hB11:ruC=B11,hB12:daR=B12,hB13:daP=B13,hB14:daC=B14
 cbv
 repeat' first
  | (refine fun (_:Unit)=>?_;cbv)
  | (refine Or.inr ⟨49,[(.c 10 30,[.r [.i .i64]],24),(.c 10 31,[.i .i64],2)],rpV8,[.c 10 1,.c 10 2,.c 10 4,.c 10 14,.c 10 15,.c 10 16,.c 10 30,.c 10 31],[9],H,rfl,hl,?_,fun ((k,x0,x3,x5,x6,x7,x8,x9,x10,x11,x12,x13,x17,x18,x19,x20,x21,x22,x23,x24,x25,x26,x27,x28,x29,x1,x2,x4,x14,x15,x16,S,P):Int×List UInt8×Int×Int×List UInt8×List UInt8×Int×Int×Int×List UInt8×List UInt8×List UInt8×Int×Int×Int×Int×Int×Int×Bool×List UInt8×List UInt8×List UInt8×Int×Int×Bool×List Int×List Int×List (List UInt8)×List (List UInt8)×List Int×List Int×List (List Int)×List Int) hk=>?_⟩<;>cbv)
  | (refine aI2 (fun h=>?_) (fun h=>?_)<;>cbv)
  | (refine aI2 ?_ ?_)
 all_goals subst hP hB0 hB1 hB2 hB3 hB4 hB5 hB6 hB7 hB8 hB9 hB10 hB11 hB12 hB13 hB14 hH
 all_goals clear hl
 all_goals try dsimp only at hk
 all_goals try dsimp only
 all_goals try (exfalso;exact ry1 hp ‹_›)
 all_goals try (exfalso;exact ry2 hp ‹_›)
 all_goals try (exfalso;exact ry3 hp ‹_›)
 all_goals try exact fin
 ·exact hp.q.sq
 ·exact hp.q.rq
 ·exact hp.q.sq.ts
 ·exact (⟨hp.q.sq,hp.q.sc,by rw [ry_b hp];exact Nat.le_trans (bag_bd (ry_f hp).1 _) (by decide)⟩:SiL u (sbS u.ts r.seed))
 ·show RpJ (bgG u r) r 0 [] [] (bgnR u (sbS u.ts r.seed))
  rw [ry_g hp]
  exact rp_0 (bg_eq hp.c ▸ run_l hp.q hp.c)
 all_goals have hr:=hp.q.rc
 all_goals have hn:=hr.n
 all_goals have q0:=hk.lo
 all_goals try (have hlt:k<(r.acts.length:Int):=lt_of ‹_›)
 all_goals try (have hge:(r.acts.length:Int)≤k:=ge_of ‹_›)
 all_goals try (have ha:=rc_acts (k:=k) (ry_f hp).2.1 q0 hlt)
 all_goals try (have hE:=rp_no hk hlt ha (eqI_f ‹_›))
 all_goals try (have hE:=rp_end hk hge)
 all_goals try (rw [←hE.z];done)
 ·exact⟨q0,hlt⟩
 ·exact rp_do hk hr
 ·exact congrArg (fun z=>Ob.own [.r [.i .i64]] z 24) hE.s
 ·exact congrArg (fun z=>Ob.own [.i .i64] z 2) hE.p
 ·exact hE.i
 ·exact hE.c
 ·obtain⟨L,hj, -⟩:=(rp_yes hk hlt ha (eqI_t ‹_›) hr).j
  exact Int.le_trans hj.b.sc (by decide)
 ·show (S.length:Int)+1≤274877906944
  have:=hk.l;omega
 ·show (P.length:Int)+1≤274877906944
  have:=hk.l;omega
 ·exact in64 (by show _≤k+1∧k+1≤_;omega)
 ·exact rp_yes hk hlt ha (eqI_t ‹_›) hr
 ·exact congrArg (fun z=>Ob.own [.r [.i .i64]] z 24) hE.s
 ·exact congrArg (fun z=>Ob.own [.i .i64] z 2) hE.p
 ·exact hE.i
 ·exact hE.c
def sp_i_replayed_h (p:Pr):FSpec:=fsp (ac (aA aSu) (a1 (aA aRcd))) (fun (u,r)=>RyP u r) (fun (u,r)=>.tup [.agg (rpK (rpZ (bgG u r) r) (.rsl [.r [.i .i64]] (rpS (bgG u r) r)) (.rsl [.i .i64] (ruP (bgG u r) r)) (rpI (bgG u r) r) (ruC (bgG u r) r)),.i .i64 0])
theorem ok_i_replayed_h:FOk Tryz.prog 184 (sp_i_replayed_h std):=FOk.frz ok_i_replayed_g fun ⟨u,r⟩=>⟨by simp [deep,deeps,AH.get,gmO6,rpK,gmR,gmK],by simp [PV.idIn,idInL,rpK,gmR,gmK]⟩
def sp_i_wholly_g (p:Pr):FSpec:=fsp (ac (aA aSu) (a1 (aA aRcd))) (fun (u,r)=>RzP u r) (fun (u,r)=>.tup [.agg (gmO6 (rpZ (bgG u r) r)++[.osl 6,.osl 7,.i .i64 (rpI (bgG u r) r),.i .i64 (ruC (bgG u r) r)]),.i .i64 0]) (fun (u,r)=>[(0,.own [.i .i64] (rpZ (bgG u r) r).ts.values 2),(1,.own [.i .i64] (rpZ (bgG u r) r).ts.counts 2),(2,.own [.s] (rpZ (bgG u r) r).lex 9),(3,.own [.s] (rpZ (bgG u r) r).racks 9),(4,.own [.i .i64] (rpZ (bgG u r) r).scores 2),(5,.own [.i .i64] (rpZ (bgG u r) r).clocks 2),(6,.own [.r [.i .i64]] (rpS (bgG u r) r) 24),(7,.own [.i .i64] (ruP (bgG u r) r) 2)])
theorem ok_i_wholly_g:FOk Tryz.prog 109 (sp_i_wholly_g std):=by
 refine FOk.go (c:=cx std [(184,sp_i_replayed_g std)] [] 0) (cx_ok (.cons ok_i_replayed_g .nil) .nil) mixed Tryz.func109 rfl rfl rfl (by kernel_rfl) ?_
 rintro ⟨u,r⟩ hp
 dsimp only at hp
 refine⟨rfl,?_⟩
 unfold sp_i_replayed_g
 generalize hP:std=p,hB0:bgG=B0,hB1:rpZ=B1,hB2:rpS=B2,hB3:ruP=B3,hB4:rpI=B4,hB5:ruC=B5
 cbv
 repeat' first
  | (refine fun (_:Unit)=>?_;cbv)
  | (refine aI2 (fun h=>?_) (fun h=>?_)<;>cbv)
  | (refine aI2 ?_ ?_)
  | (refine Or.inl (fun (_:Unit)=>?_);cbv)
 all_goals subst hP hB0 hB1 hB2 hB3 hB4 hB5
 all_goals try (exfalso;exact rz1 hp ‹_›)
 all_goals try exact fin
def sp_i_wholly_w (p:Pr):FSpec:=fsp (ac (aA aSu) (a1 (aA aRcd))) (fun (u,r)=>RwP u r) (fun (u,r)=>.tup [.agg rp0,.i .i64 (ruC (bgG u r) r)])
theorem ok_i_wholly_w:FOk Tryz.prog 109 (sp_i_wholly_w std):=by
 refine FOk.go (c:=cx std [(184,sp_i_replayed_h std)] [] 0) (cx_ok (.cons ok_i_replayed_h .nil) .nil) mixed Tryz.func109 rfl rfl rfl (by kernel_rfl) ?_
 rintro ⟨u,r⟩ hp
 dsimp only at hp
 refine⟨rfl,?_⟩
 unfold sp_i_replayed_h
 generalize hP:std=p,hB0:bgG=B0,hB1:rpZ=B1,hB2:rpS=B2,hB3:ruP=B3,hB4:rpI=B4,hB5:ruC=B5
 cbv
 repeat' first
  | (refine fun (_:Unit)=>?_;cbv)
  | (refine aI2 (fun h=>?_) (fun h=>?_)<;>cbv)
  | (refine aI2 ?_ ?_)
  | (refine Or.inl (fun (_:Unit)=>?_);cbv)
 all_goals subst hP hB0 hB1 hB2 hB3 hB4 hB5
 all_goals try (exfalso;exact rw1 hp ‹_›)
 all_goals try exact fin
def sp_i_wholly_m (p:Pr):FSpec:=fsp (ac (aA aSu) (a1 (aA aRcd))) (fun (u,r)=>RnP u r) (fun (u,r)=>.tup [.agg rp0,.i .i64 (bgC u r)])
theorem ok_i_wholly_m:FOk Tryz.prog 109 (sp_i_wholly_m std):=by
 refine FOk.go (c:=cx std [(184,sp_i_replayed_n std)] [] 0) (cx_ok (.cons ok_i_replayed_n .nil) .nil) mixed Tryz.func109 rfl rfl rfl (by kernel_rfl) ?_
 rintro ⟨u,r⟩ hp
 dsimp only at hp
 refine⟨rfl,?_⟩
 unfold sp_i_replayed_n
 generalize hP:std=p,hB0:bgC=B0
 cbv
 repeat' first
  | (refine fun (_:Unit)=>?_;cbv)
  | (refine aI2 (fun h=>?_) (fun h=>?_)<;>cbv)
  | (refine aI2 ?_ ?_)
  | (refine Or.inl (fun (_:Unit)=>?_);cbv)
 all_goals subst hP hB0
 all_goals try (exfalso;exact rn2 hp ‹_›)
 all_goals try exact fin
def sp_i_ReplayRecord_y (p:Pr):FSpec:=fsp (ac (aA aSu) (a1 (aA aRcd))) (fun (u,r)=>RzP u r) (fun (u,r)=>.tup [.agg (gmO6 (rpZ (bgG u r) r)),.i .i64 0]) (fun (u,r)=>gmH6 (rpZ (bgG u r) r))
theorem ok_i_ReplayRecord_y:FOk Tryz.prog 42 (sp_i_ReplayRecord_y std):=by
 refine FOk.go (c:=cx std [(109,sp_i_wholly_g std)] [] 0) (cx_ok (.cons ok_i_wholly_g .nil) .nil) mixed Tryz.func42 rfl rfl rfl (by kernel_rfl) ?_
 rintro ⟨u,r⟩ hp
 dsimp only at hp
 refine⟨rfl,?_⟩
 unfold sp_i_wholly_g
 generalize hP:std=p,hB0:bgG=B0,hB1:rpZ=B1,hB2:rpS=B2,hB3:ruP=B3,hB4:rpI=B4,hB5:ruC=B5
 cbv
 repeat' first
  | (refine fun (_:Unit)=>?_;cbv)
  | (refine aI2 (fun h=>?_) (fun h=>?_)<;>cbv)
  | (refine aI2 ?_ ?_)
  | (refine Or.inl (fun (_:Unit)=>?_);cbv)
 all_goals subst hP hB0 hB1 hB2 hB3 hB4 hB5
 all_goals try exact fin
def sp_i_ReplayRecord_w (p:Pr):FSpec:=fsp (ac (aA aSu) (a1 (aA aRcd))) (fun (u,r)=>RwP u r) (fun (u,r)=>.tup [.agg (gmK gm0 .esl .esl .esl .esl .esl .esl),.i .i64 (ruC (bgG u r) r)])
theorem ok_i_ReplayRecord_w:FOk Tryz.prog 42 (sp_i_ReplayRecord_w std):=by
 refine FOk.go (c:=cx std [(109,sp_i_wholly_w std)] [] 0) (cx_ok (.cons ok_i_wholly_w .nil) .nil) mixed Tryz.func42 rfl rfl rfl (by kernel_rfl) ?_
 rintro ⟨u,r⟩ hp
 dsimp only at hp
 refine⟨rfl,?_⟩
 unfold sp_i_wholly_w
 generalize hP:std=p,hB0:bgG=B0,hB1:ruC=B1
 cbv
 repeat' first
  | (refine fun (_:Unit)=>?_;cbv)
  | (refine aI2 (fun h=>?_) (fun h=>?_)<;>cbv)
  | (refine aI2 ?_ ?_)
  | (refine Or.inl (fun (_:Unit)=>?_);cbv)
 all_goals subst hP hB0 hB1
 all_goals try exact fin
def sp_i_ReplayRecord_m (p:Pr):FSpec:=fsp (ac (aA aSu) (a1 (aA aRcd))) (fun (u,r)=>RnP u r) (fun (u,r)=>.tup [.agg (gmK gm0 .esl .esl .esl .esl .esl .esl),.i .i64 (bgC u r)])
theorem ok_i_ReplayRecord_m:FOk Tryz.prog 42 (sp_i_ReplayRecord_m std):=by
 refine FOk.go (c:=cx std [(109,sp_i_wholly_m std)] [] 0) (cx_ok (.cons ok_i_wholly_m .nil) .nil) mixed Tryz.func42 rfl rfl rfl (by kernel_rfl) ?_
 rintro ⟨u,r⟩ hp
 dsimp only at hp
 refine⟨rfl,?_⟩
 unfold sp_i_wholly_m
 generalize hP:std=p,hB0:bgC=B0
 cbv
 repeat' first
  | (refine fun (_:Unit)=>?_;cbv)
  | (refine aI2 (fun h=>?_) (fun h=>?_)<;>cbv)
  | (refine aI2 ?_ ?_)
  | (refine Or.inl (fun (_:Unit)=>?_);cbv)
 all_goals subst hP hB0
 all_goals try exact fin
def spRrW (p:Pr):FSpec:=fsp (ac (aA aSu) (a1 (aA aRcd))) (fun (u,r)=>RwP u r) (fun (u,r)=>.tup [.agg (gmO6 gm0),.i .i64 (ruC (bgG u r) r)]) (fun _=>gmH6 gm0)
theorem okRrW:FOk Tryz.prog 42 (spRrW std):=FOk.own ok_i_ReplayRecord_w rfl fun ⟨u,b⟩ w e v h hr=>
 tup_fol (.cons (agg_fol (esl_fol h)) (.cons (fun _ h=>h) .nil)) v hr
def spRrM (p:Pr):FSpec:=fsp (ac (aA aSu) (a1 (aA aRcd))) (fun (u,r)=>RnP u r) (fun (u,r)=>.tup [.agg (gmO6 gm0),.i .i64 (bgC u r)]) (fun _=>gmH6 gm0)
theorem okRrM:FOk Tryz.prog 42 (spRrM std):=FOk.own ok_i_ReplayRecord_m rfl fun ⟨u,b⟩ w e v h hr=>
 tup_fol (.cons (agg_fol (esl_fol h)) (.cons (fun _ h=>h) .nil)) v hr
structure RqF (u:Su) (r:Rcd):Prop where
 q:RpL u r
 c:bgC u r=0→¬ruC (bgG u r) r=0
def spRrF (p:Pr):FSpec:=fsp (ac (aA aSu) (a1 (aA aRcd))) (fun (u,r)=>RqF u r) (fun (u,r)=>.tup [.agg (gmO6 (rrG u r)),.i .i64 (rrC u r)]) (fun (u,r)=>gmH6 (rrG u r))
theorem okRrF:FOk Tryz.prog 42 (spRrF std):=FOk.casesE okRrW okRrM fun ⟨u,r⟩ hp=>by
 by_cases hc:bgC u r=0
 ·have e:=rr_f hc (hp.c hc)
  refine .inl ⟨⟨⟨hp.q,hc⟩,hp.c hc⟩,?_,?_⟩
  ·show PV.tup [.agg (gmO6 gm0),.i .i64 (ruC (bgG u r) r)]=PV.tup [.agg (gmO6 (rrG u r)),.i .i64 (rrC u r)]
   rw [e.1,e.2]
  ·show gmH6 gm0=gmH6 (rrG u r)
   rw [e.2]
 ·have e:=rr_n hc
  refine .inr ⟨⟨hp.q,hc⟩,?_,?_⟩
  ·show PV.tup [.agg (gmO6 gm0),.i .i64 (bgC u r)]=PV.tup [.agg (gmO6 (rrG u r)),.i .i64 (rrC u r)]
   rw [e.1,e.2]
  ·show gmH6 gm0=gmH6 (rrG u r)
   rw [e.2]
def sp_i_ReplayRecord (p:Pr):FSpec:=fsp (ac (aA aSu) (a1 (aA aRcd))) (fun (u,r)=>RpL u r) (fun (u,r)=>.tup [.agg (gmO6 (rrG u r)),.i .i64 (rrC u r)]) (fun (u,r)=>gmH6 (rrG u r))
theorem ok_i_ReplayRecord:FOk Tryz.prog 42 (sp_i_ReplayRecord std):=FOk.casesE ok_i_ReplayRecord_y okRrF fun ⟨u,r⟩ hp=>by
 by_cases hc:bgC u r=0∧ruC (bgG u r) r=0
 ·have e:=rr_z hc.1 hc.2
  refine .inl ⟨⟨⟨hp,hc.1⟩,hc.2⟩,?_,?_⟩
  ·show PV.tup [.agg (gmO6 (rpZ (bgG u r) r)),.i .i64 0]=PV.tup [.agg (gmO6 (rrG u r)),.i .i64 (rrC u r)]
   rw [e.1,e.2]
  ·show gmH6 (rpZ (bgG u r) r)=gmH6 (rrG u r)
   rw [e.2]
 ·exact .inr ⟨⟨hp,fun h h2=>hc ⟨h,h2⟩⟩,rfl,rfl⟩
end Ax
end Go.Proofs.YtghmphmbpdiflaaGreatDoor
