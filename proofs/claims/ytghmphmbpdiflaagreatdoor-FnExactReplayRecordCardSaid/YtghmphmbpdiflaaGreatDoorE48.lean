/-
  The plain walker: the first parts of a body are walked with other contracts than the rest; The law of ReplayRecord.
  Conditions: the tables of types and of functions are as the program has them; none.
-/
import Derived.Test.YtghmphmbpdiflaaGreatDoorE45
import Derived.Test.YtghmphmbpdiflaaGreatDoorE44
import Derived.Test.YtghmphmbpdiflaaGreatDoorE47
set_option linter.unusedSimpArgs false
set_option linter.unusedVariables false
namespace Go.Proofs.YtghmphmbpdiflaaGreatDoor
namespace Ax
open Go.RowKit
section
variable {P:Program} {c:Cx} {w w0:World} {e:Env} {fz:Nat→Prop} {M:Root} {st:AS} {a:Act} {f:FuncId}
def awpS (c1 c:Cx) (Q:AEx→AS→Prop):Nat→Code→AS→Prop
 | n+1,.seq x y,st=>awp c1 x (fun z st'=>match z with
   | .normal =>awpS c1 c Q n y st'
   | z=>Q z st') st
 | _,x,st=>awp c x Q st
theorem awpS_ok {c1:Cx} (hc1:CxOk P c1) (hc:CxOk P c) (hm:P.follows .mixedOrders =true) (hM1:M.n=c1.n0) (hMn:M.n=c.n0) {Q:AEx→AS→Prop} {K:Exit→Act→World→Prop}
 (h0 : ∀x st a w e,SR w0 fz M st a w e→Q x st→K x.of a w) :
 ∀(n:Nat) (b:Code),codeOk b=true→∀(st:AS) (a:Act) (w:World) (e:Env),awpS c1 c Q n b st→SR w0 fz M st a w e→b.wp P K a w:=by
 have plain : ∀{c:Cx} (_:CxOk P c) (_:M.n=c.n0) {Q:AEx→AS→Prop} {K:Exit→Act→World→Prop} (_ : ∀x st a w e,SR w0 fz M st a w e→Q x st→K x.of a w) (b:Code),codeOk b=true→∀(st:AS) (a:Act) (w:World) (e:Env),awp c b Q st→SR w0 fz M st a w e→b.wp P K a w:=fun {c} hc hMn {Q K} h0 b hk st a w e h hs=>by
  refine wp_mono (awp_ok hc hm hMn b hk _ _ _ w e h hs) ?_
  intro x' a' w' hq
  cases x' with
  | normal=>obtain⟨st',e',g1,g2⟩:=hq;exact h0 .normal _ _ _ _ g1 g2
  | ret=>obtain⟨st',e',g1,g2⟩:=hq;exact h0 .ret _ _ _ _ g1 g2
  | exit id=>obtain⟨st',e',g1,g2⟩:=hq;exact h0 (.exit id) _ _ _ _ g1 g2
  | goto l=>exact hq.elim
  | panic ch=>exact hq.elim
  | outgrown=>exact hq.elim
 intro n
 induction n with
 | zero=>exact fun b hk st a w e h hs=>plain hc hMn h0 b hk st a w e (by cases b<;>exact h) hs
 | succ n ih=>
   intro b hk st a w e h hs
   cases b with
   | seq x y=>
     unfold codeOk at hk
     rw [Bool.and_eq_true] at hk
     refine wp_seq (plain (K:=Exit.then (Code.wp P y K) K) hc1 hM1 (fun z st' a' w' e' hs' hq=>?_) x hk.1 st a w e h hs)
     cases z with
     | normal=>exact ih y hk.2 st' a' w' e' hq hs'
     | ret=>exact h0 .ret _ _ _ _ hs' hq
     | exit id=>exact h0 (.exit id) _ _ _ _ hs' hq
   | _=>exact plain hc hMn h0 _ hk st a w e h hs
theorem FOk.goS (n:Nat) {c1:Cx} (hc1:CxOk P c1) (hn1:c1.n0=0) {α:Type} {A:Args α} {pre:α→Prop} {v:α→PV} {eff:α→AH} {fn:Func} {body:Code} (hc:CxOk P c) (hm:P.follows .mixedOrders =true) (hf:P.funcs[f]? =some fn) (hb:fn.body=some body) (hn:(fn.name=="runtime.NumGoroutine")=false) (hn0:c.n0=0) (hck:codeOk body=true)
 (h : ∀a,pre a→(idInL [] (A.enc a)&&Nat.ble (A.enc a).length fn.ntmps)=true∧awpS c1 c (retQ c fn.results.toList ⟨[],v a,eff a⟩) n body ⟨A.enc a++List.replicate (fn.ntmps-(A.enc a).length) .dead,[],0⟩):FOk P f (fsp A pre v eff):=by
 refine⟨⟨fn,hf,hn,by rw [hb];rfl⟩,fun args out hs hp w e0 vals hz hl=>?_⟩
 unfold fsp at hs
 split at hs
 case h_2=>cases hs
 rename_i a ha
 cases hs
 obtain⟨h1,h2⟩:=h a (hp _ (by simp))
 rw [A.ok _ _ ha] at hl
 rw [Bool.and_eq_true,Nat.ble_eq] at h1
 have hrn0:Rn id [] e0 { e0 with on:=fun _=>False,lv:=fun _=>False }:=⟨fun k hk=>absurd hk (by simp),fun _=>rfl,fun _=>rfl,fun _=>rfl,rfl⟩
 have hl0:Rs w { e0 with on:=fun _=>False,lv:=fun _=>False } (A.enc a) vals.toList:=Rs_rn hrn0 (A.enc a) _ h1.1 (by rw [rnL_id];exact hl)
 obtain⟨e,he⟩ : ∃e:Env,e={ e0 with on:=fun _=>False,lv:=fun _=>False }:=⟨_,rfl⟩
 rw [←he] at hl0 ⊢
 have hz:FzW w e.fz:=by subst he;exact hz
 have hon : ∀k,¬e.on k:=by subst he;exact fun k h=>h
 have hlv : ∀k,¬e.lv k:=by subst he;exact fun k h=>h
 have hlen:=Rs_length hl0
 obtain⟨M,hM⟩ : ∃M:Root,M=⟨fun b=>∃k,e.on k∧e.blk k b,0,e,[]⟩:=⟨_,rfl⟩
 have hMb : ∀b,¬M b:=fun b=>by subst hM;rintro ⟨k,hk, -⟩;exact hon k hk
 have hMn:M.n=c.n0:=by subst hM;exact hn0.symm
 have hsr:SR w e.fz M ⟨A.enc a++List.replicate (fn.ntmps-(A.enc a).length) .dead,[],0⟩ { tmps:=vals++Array.replicate (fn.ntmps-vals.size) undef,defers:=[] } w e:=by
  have hsz:vals.size=(A.enc a).length :=by rw [←hlen];simp
  refine⟨by simp [hsz],fun t p hp=>tm_args (by simpa using hl0) hp,fun id o h=>by simp [AH.get] at h,fun k hk=>(hlv k hk).elim,fun k hk=>(hon k hk).elim,fun k k' b hk=>(hlv k hk).elim,fun k b hk=>(hlv k hk).elim,⟨fun _ h=>h,fun _ h=>.inl h,fun k b hk=>(hlv k hk).elim⟩,⟨fun b hb=>⟨hz.lt b hb,hMb b⟩,hz.gl⟩,Chg.refl _ _,by subst hM;exact fun k _ hk=>⟨hk,rfl,rfl,rfl⟩,by subst hM;rfl⟩
 have hon' : ∀k,e.on k↔k<([]:AH).length :=fun k=>⟨fun h=>(hon k h).elim,fun h=>absurd h (Nat.not_lt_zero k)⟩
 have hlv' : ∀k,e.lv k↔k<([]:AH).length :=fun k=>⟨fun h=>(hlv k h).elim,fun h=>absurd h (Nat.not_lt_zero k)⟩
 have hM1:M.n=c1.n0:=by rw [hMn,hn0,hn1]
 have fin : ∀st1 e1 a1 w1,SR w e.fz M st1 a1 w1 e1→retQ c fn.results.toList ⟨[],v a,eff a⟩ .ret st1→a1.defers=[]∧∃u,(results fn a1.tmps).run P w1=.ok u w1∧∃u' e',Ending.returned u=.returned u'∧Post w w1 e e' 0 ⟨[pre a],v a,eff a⟩ u':=fun st1 e1 a1 w1 g1 g2=>by
  have g2:retQ c fn.results.toList ⟨[pre a],v a,eff a⟩ .ret st1:=g2
  obtain⟨u,e2,g3,g4⟩:=ret_post (D:=[]) hc (H:=[]) (by rw [hn0];rfl) hon' hlv' hM g1 g2
  exact⟨by have:=g1.defers;subst hM;exact this,u,g3,u,e2,rfl,g4⟩
 refine calls_of_wp hf hb (awpS_ok hc1 hc hm hM1 hMn (fun x st' a' w' e' hs' hq=>?_) n body hck _ _ w _ h2 hsr)
 cases x with
 | normal=>exact fin st' e' a' w' hs' hq
 | ret=>exact fin st' e' a' w' hs' hq
 | exit id=>exact hq.elim
end
end Ax
namespace Ax
set_option maxRecDepth 100000
set_option maxHeartbeats 20000000
def sp_l_toSetupF (p:Pr):FSpec:=fsp (a1 (aA aSu)) (fun u=>SuN u) (fun u=>.agg (suK u (.rsl [.i .i64] u.ts.values) (.rsl [.i .i64] u.ts.counts) (.rsl [.s] u.lex)))
theorem ok_l_toSetupF:FOk Tryz.prog 40 (sp_l_toSetupF std):=FOk.frz ok_l_toSetup fun u=>⟨by simp [deep,deeps,AH.get,suK],by simp [PV.idIn,idInL,suK]⟩
def sp_l_toRecordF (p:Pr):FSpec:=fsp (a1 (aA aRcd)) (fun r=>p.leP (p.len r.acts) 1073741824) (fun r=>.agg (rcK r (.rsl shAc r.acts)))
theorem ok_l_toRecordF:FOk Tryz.prog 41 (sp_l_toRecordF std):=FOk.frz ok_l_toRecord fun r=>⟨by simp [deep,deeps,AH.get,rcK],by simp [PV.idIn,idInL,rcK]⟩
theorem runZ_b : ∀(l:List (El shAc)) (g:Gm),GmB 1048576 g→(∀x∈l,AcM (acE x))→GmB 1048576 (runZ g l)
 | [],_,h,_=>h
 | x::l,g,h,ha=>by
   rw [runZ_cons]
   split
   ·rename_i hc
    exact runZ_b l _ (doG_b h hc (ha x (List.mem_cons_self ..)).w) fun y hy=>ha y (List.mem_cons_of_mem _ hy)
   ·exact h
theorem RcL.mem {r:Rcd} (h:RcL r) : ∀x∈r.acts,AcM (acE x):=fun x hx=>by
 obtain⟨i,hi,rfl⟩:=List.getElem_of_mem hx
 have h1:=h.a (i:Int)
 unfold acN at h1
 rw [Int.toNat_natCast,List.getD_eq_getElem?_getD,List.getElem?_eq_getElem hi] at h1
 exact h1
theorem rrG_n {u:Su} {r:Rcd} (h:RpL u r):GmN (rrG u r):=by
 unfold rrG
 split
 ·rename_i hc
  have hb:bgC u r=0:=by
   unfold rrC at hc
   split at hc
   ·assumption
   ·exact hc
  have h1:=(run_l h hb).g
  rw [bg_eq hb] at h1
  exact (runZ_b r.acts _ h1 h.rc.mem).n (by decide)
 ·exact⟨⟨⟨by decide,by decide⟩,by decide⟩,by decide,by decide,by decide⟩
theorem endSu_b {u:Su} (h:SuN u):0≤endSu 1 u∧endSu 1 u≤274877906944:=by
 have h1:=h.ts.v;have h2:=h.ts.c;have h3:=h.l
 show 0≤(1:Int)+(u.ts.values.length:Int)+(u.ts.counts.length:Int)+(u.lex.length:Int)∧(1:Int)+(u.ts.values.length:Int)+(u.ts.counts.length:Int)+(u.lex.length:Int)≤274877906944
 omega
theorem endA_b {u:Su} {r:Rcd} (h:SuN u) (h2:std.ltI (endA (endSu 1 u) r.acts) 0=true):False:=by
 have h1:=(endSu_b h).1
 have h3:endSu 1 u+7*(r.acts.length:Int)<0:=lt_of h2
 omega
def sp_l_FnExactReplayRecord (p:Pr):FSpec:=fsp (ac (aA aSu) (a1 (aA aRcd))) (fun (u,r)=>LawR u r) (fun (u,r)=>.bt)
theorem ok_l_FnExactReplayRecord:FOk Tryz.prog 6 (sp_l_FnExactReplayRecord std):=by
 refine FOk.goS 7 (c1:=cx std [(37,sp_l_szSetup std),(38,sp_l_szRecord std),(40,sp_l_toSetupF std),(41,sp_l_toRecordF std),(39,sp_s_ReplayRecord std)] [] 0) (cx_ok (.cons ok_l_szSetup (.cons ok_l_szRecord (.cons ok_l_toSetupF (.cons ok_l_toRecordF (.cons ok_s_ReplayRecord .nil))))) .nil) rfl (c:=cx std [(37,sp_l_szSetup std),(38,sp_l_szRecord std),(40,sp_l_toSetup std),(41,sp_l_toRecord std),(39,sp_s_ReplayRecord std),(42,sp_i_ReplayRecord std),(44,sp_l_eqSetup std),(45,sp_l_eqRecord std),(43,sp_l_eqGame std),(49,sp_l_heldGame std)] [(46,sp_l_markSetup std),(47,sp_l_markRecord std),(48,sp_l_markGame std)] 0) (cx_ok (.cons ok_l_szSetup (.cons ok_l_szRecord (.cons ok_l_toSetup (.cons ok_l_toRecord (.cons ok_s_ReplayRecord (.cons ok_i_ReplayRecord (.cons ok_l_eqSetup (.cons ok_l_eqRecord (.cons ok_l_eqGame (.cons ok_l_heldGame .nil)))))))))) (.cons ok_l_markSetup (.cons ok_l_markRecord (.cons ok_l_markGame .nil)))) mixed Tryz.func6 rfl rfl rfl (by kernel_rfl) ?_
 rintro ⟨u,r⟩ hp
 dsimp only at hp
 refine⟨rfl,?_⟩
 unfold sp_l_szSetup sp_l_szRecord sp_l_toSetup sp_l_toRecord sp_s_ReplayRecord sp_i_ReplayRecord sp_l_eqSetup sp_l_eqRecord sp_l_eqGame sp_l_heldGame sp_l_markSetup sp_l_markRecord sp_l_markGame sp_l_toSetupF sp_l_toRecordF
 generalize hP:std=p,hB0:szU=B0,hB1:szR=B1,hB2:rrG=B2,hB3:rrC=B3,hB4:qeSu=B4,hB5:qeGm=B5,hB6:heldGm=B6,hB7:endN=B7,hB8:endW=B8,hB9:endTs=B9,hB10:endSu=B10,hB11:endG1=B11,hB12:endG2=B12,hB13:endGm=B13,hB14:markN=B14,hB15:markW=B15,hB16:endA=B16,hB17:markAS=B17
 cbv
 repeat' first
  | (refine fun (_:Unit)=>?_;cbv)
  | (refine aI2 (fun h=>?_) (fun h=>?_)<;>cbv)
  | (refine aI2 ?_ ?_)
  | (refine Or.inl (fun (_:Unit)=>?_);cbv)
 all_goals subst hP hB0 hB1 hB2 hB3 hB4 hB5 hB6 hB7 hB8 hB9 hB10 hB11 hB12 hB13 hB14 hB15 hB16 hB17
 all_goals try exact fin
 all_goals (try simp only [eta_ts,eta_bd,eta_suw,eta_rcd,eta_la,eta_pl,eta_gm] at *)
 ·exact⟨by decide,by decide⟩
 ·have h0:0≤szU 1048576 u:=ge_of h
  exact⟨h0,(zU h0 (by decide)).2.1⟩
 all_goals have h0:0≤szU 1048576 u:=ge_of (by with_reducible assumption)
 all_goals have h1:0≤szR (szU 1048576 u) r:=ge_of (by with_reducible assumption)
 all_goals have hU:=(zU h0 (by decide)).2.2
 all_goals have hR:=zR h1 (zU h0 (by decide)).2.1
 all_goals have hn:=hR.n
 all_goals have hN:=hU.n
 all_goals have hG:=rrG_n ⟨hU,hR⟩
 all_goals have hb:=endSu_b hN
 all_goals clear h0 h1
 ·exact hN
 ·exact Int.le_trans hn (by decide)
 ·exact⟨hU,hR⟩
 ·exact hN
 ·exact Int.le_trans hn (by decide)
 ·exact⟨hU,hR⟩
 ·exact hG
 ·exact hN
 ·exact hN
 ·have e:qeSu u u=false:=by with_reducible assumption
  rw [qeSu_r] at e;cases e
 ·exact Int.le_trans hn (by decide)
 ·exact Int.le_trans hn (by decide)
 ·exact⟨by decide,by decide,hN⟩
 ·exact⟨hb.1,hb.2,Int.le_trans hn (by decide)⟩
 ·exact hG
 ·exact⟨by decide,by decide,hG⟩
 ·exact⟨by decide,by decide,markGm_n hG⟩
 ·rename_i h9
  exact (lb (rrG u r) h9).elim
 ·rename_i h9
  exact (ld (rrG u r) h9).elim
 ·exact hN
 ·exact Int.le_trans hn (by decide)
 ·exact⟨hU,hR⟩
 ·exact hG
 ·exact⟨by decide,by decide,markGm_n hG⟩
 ·exact (endA_b hN h).elim
 ·rw [qeGm_r] at h;cases h
end Ax
end Go.Proofs.YtghmphmbpdiflaaGreatDoor
