/-
  The plain walker: functions.
  Conditions: the tables of types and of functions are as the program has them; none.
-/
import Derived.Test.YtjjonmhpgkahoaaGreatDoorH08
import Derived.Test.YtjjonmhpgkahoaaGreatDoorProg
import Derived.KernelRfl
import Derived.Test.YtjjonmhpgkahoaaGreatDoorH09
set_option linter.unusedSimpArgs false
set_option linter.unusedVariables false
namespace Go.Proofs.YtjjonmhpgkahoaaGreatDoor
namespace Ax
open Go.RowKit
def Sx (c:Cx) (st:AS):ResultVar→Option PV
 | .tmp t=>some (st.tm.getD t .dead)
 | .cell a ty=>match c.T ty,st.tm.getD a .dead with
   | some ti,.ptr id off=>match st.h.get id with
     | some (.cells l _)=>ldC ti l off
     | some (.arr k (some n) L _)=>match off,tF c ty with
       | 0,some (m,_)=>if Nat.beq n m then some (.arr k n L) else none
       | _,_=>none
     | _=>none
   | _,_=>none
def DD (c:Cx) (st:AS):List ResultVar→Option (List PV)
 | []=>some []
 | r::rs=>match Sx c st r,DD c st rs with
   | some v,some l=>some (v::l)
   | _,_=>none
def Du:List PV→PV
 | [v]=>v
 | l=>.tup l
def full (h:AH) (n:Nat):Bool:=(List.range n).all fun k=>(h.get k).isSome
def UV (c:Cx) (st:AS) (l:List PV) (out:Out) (ρ:List Nat):Prop:=(keep c.n0 ρ&&chk ρ out.eff ρ.length&&(full out.eff ρ.length&&out.v.idIn (List.range ρ.length)))=true∧obs ρ st.h out.eff (tj (Du l) (out.v.rn (look ρ)))
def tq (c:Cx) (rs:List ResultVar) (out:Out):AEx→AS→Prop
 | .exit _,_=>False
 | _,st=>match DD c st rs with
   | some l=>UV c st l out (reach st.h 60 (List.range c.n0++oa l) [])
   | none=>False
mutual
theorem Hv : ∀p:PV,p.rn id=p
 | .bt | .bf | .b _ | .nb _ | .i _ _ | .s _ | .nilp | .esl | .rsl _ _ | .arr _ _ _ | .nx _ _ | .raw _ | .dead =>by unfold PV.rn;rfl
 | .ptr _ _=>by unfold PV.rn;rfl
 | .osl _=>by unfold PV.rn;rfl
 | .eptr _ _ _ _=>by unfold PV.rn;rfl
 | .osub _ _=>by unfold PV.rn;rfl
 | .rptr l o=>by unfold PV.rn;rw [ol l]
 | .agg l=>by unfold PV.rn;rw [ol l]
 | .tup l=>by unfold PV.rn;rw [ol l]
 | .fn f l=>by unfold PV.rn;rw [ol l]
theorem ol : ∀l:List PV,rnL id l=l
 | []=>by unfold rnL;rfl
 | p::ps=>by unfold rnL;rw [Hv p,ol ps]
end
section
variable {P:Program} {c:Cx} {w w0:World} {e:Env} {fz:Nat→Prop} {M:ij} {st:AS} {a:Act}
def rv (tmps:Array Value):ResultVar→Sem Value
 | .tmp t=>pure (tmps.getD t undef)
 | .cell x t=>do loadVar t (←asAddr (tmps.getD x undef))
theorem Fg (fn:Func) (tmps:Array Value):results fn tmps=(do let vs ←fn.results.mapM (rv tmps);pure (if h:vs.size=1 then vs[0] else .tuple vs)):=by
 unfold results
 congr 2
theorem GS (hc:dD P c) (hs:SR w0 fz M st a w e) : ∀(rs:List ResultVar) (l:List PV),DD c st rs=some l→∃vs:List Value,
 (rs.mapM (rv a.tmps)).run P w=.ok vs w∧Rs w e l vs
 | [],l,h=>by
   simp only [DD,Option.some.injEq] at h
   subst h
   exact⟨[],rfl,by unfold Rs;rfl⟩
 | r::rs,l,h=>by
   unfold DD at h
   split at h
   ·rename_i v l' hv hl
    cases h
    obtain⟨vs,h1,h2⟩:=GS hc hs rs l' hl
    have h3 : ∃u,(rv a.tmps r).run P w=.ok u w∧R w e v u:=by
     unfold Sx at hv
     split at hv
     ·rename_i t
      cases hv
      exact⟨_,rfl,CU hs.tm (.tmp t)⟩
     ·rename_i x ty
      split at hv
      ·rename_i ti id off ht hx
       split at hv
       ·rename_i lc ty' hg
        have hx':=CU hs.tm (.tmp x)
        change R w e (st.tm.getD x .dead) (a.tmps.getD x undef) at hx'
        rw [hx] at hx'
        unfold R at hx'
        obtain⟨-,b,h4,h5⟩:=hx'
        obtain⟨⟨b',cs,h6,h7,h8,h9⟩, -⟩:=hs.ob _ _ hg
        rw [h4] at h6
        cases h6
        obtain⟨u,h10,h11⟩:=nM (hc.T ty ti ht) h9 (JZ h8) hv
        rw [Nat.zero_add] at h10
        exact⟨u,by show (do loadVar ty (←asAddr (a.tmps.getD x undef)):Sem Value).run P w=_;rw [h5];simp [asAddr,h10],h11⟩
       ·rename_i k n L ty' hg
        have hx':=CU hs.tm (.tmp x)
        change R w e (st.tm.getD x .dead) (a.tmps.getD x undef) at hx'
        rw [hx] at hx'
        unfold R at hx'
        obtain⟨-,b,h4,h5⟩:=hx'
        split at hv
        ·rename_i m k' hm
         split at hv
         ·rename_i hnm
          have hnm:=Nat.eq_of_beq_eq_true hnm
          subst hnm
          cases hv
          obtain⟨ti',te,ht',hn,hke,hzl,hza,hu,hag⟩:=lf hc hm
          rw [ht] at ht'
          cases ht'
          obtain⟨⟨hfl,h0,b',vs,fr,h3,h4',h6,h7,h8,h8',h9,h10⟩, -⟩:=hs.ob _ _ hg
          rw [h4] at h3
          cases h3
          obtain⟨q1,q2⟩:=h9 n rfl
          obtain⟨r1,r2⟩:=Ep (e:=e) hfl h6 h10
          obtain⟨u,hu',hR⟩:=nM (off:=0) (hc.T ty _ ht) r1 r2 (p:=.agg (L.map k.pv)) (by
           unfold ldC
           simp [hn,hag,q1,List.take_of_length_le])
          rw [Nat.zero_add] at hu'
          refine⟨u,by show (do loadVar ty (←asAddr (a.tmps.getD x undef)):Sem Value).run P w=_;rw [h5];simp [asAddr,hu'],?_⟩
          unfold R at hR ⊢
          obtain⟨vs',rfl,h12⟩:=hR
          refine⟨hfl,q1,?_⟩
          rw [←(qb hfl).1 h12]
         ·cases hv
        ·cases hv
       ·cases hv
      ·cases hv
    obtain⟨u,h4,h5⟩:=h3
    refine⟨u::vs,?_,by unfold Rs;exact⟨u,vs,rfl,h5,h2⟩⟩
    rw [List.mapM_cons,Sem.run_bind,h4,Result.andThen_ok,Sem.run_bind,h1]
    rfl
   ·cases h
theorem jX (hc:dD P c) (hs:SR w0 fz M st a w e) {fn:Func} {l:List PV} (h:DD c st fn.results.toList=some l) : ∃v,(results fn a.tmps).run P w=.ok v w∧R w e (Du l) v:=by
 obtain⟨vs,h1,h2⟩:=GS hc hs _ _ h
 have hlen:=bm h2
 have key:(results fn a.tmps).run P w=.ok (if h:vs.toArray.size=1 then vs.toArray[0] else .tuple vs.toArray) w:=by
  rw [Fg,Array.mapM_eq_mapM_toList,Sem.run_bind,Sem.run_map,h1]
  rfl
 refine⟨_,key,?_⟩
 unfold Du
 split
 ·rename_i v
  unfold Rs at h2
  obtain⟨u,us,rfl,h4,h5⟩:=h2
  unfold Rs at h5
  subst h5
  exact h4
 ·rename_i hne
  rw [dif_neg]
  ·unfold R;exact⟨_,rfl,by simpa using h2⟩
  ·intro h1
   have : l.length=1:=by rw [←hlen];simpa using h1
   obtain⟨v,rfl⟩:=List.length_eq_one_iff.1 this
   exact hne v rfl
theorem yA (hc:dD P c) (hm:P.follows .mixedOrders =true) {f:FuncId} {fn:Func} {body:Code} (hf:P.funcs[f]? =some fn) (hb:fn.body=some body) (hck:codeOk body=true) {H:AH} {args:List PV} (hn0:c.n0=H.length)
 {e:Env} {vals:Array Value} (hz:FzW w e.fz) (hob : ∀id o,H.get id=some o→OR w e id o∧e.on id) (hon : ∀k,e.on k↔k<H.length) (hlv : ∀k,e.lv k↔k<H.length) (hbd : ∀k b,e.on k→e.blk k b→b<w.heap.size∧¬e.fz b)
 (hdis : ∀k k' b,e.on k→e.on k'→e.blk k b→e.blk k' b→k=k') (hl0:Rs w e args vals.toList)
 {Qr:AEx→AS→Prop} {Pf:Ending→World→Prop} (hx : ∀id st,¬Qr (.exit id) st)
 (hr : ∀ex st e1 a' w',Qr ex st→SR w e.fz ⟨fun b=>∃k,e.on k∧e.blk k b,H.length,e,[]⟩ st a' w' e1→a'.defers=[]∧∃v,(results fn a'.tmps).run P w'=.ok v w'∧Pf (.returned v) w')
 (h2:awp c body Qr ⟨args++List.replicate (fn.ntmps-args.length) .dead,H,H.length⟩):Calls P f vals w Pf:=by
 have hlen:=bm hl0
 obtain⟨M,hM⟩ : ∃M:ij,M=⟨fun b=>∃k,e.on k∧e.blk k b,H.length,e,[]⟩:=⟨_,rfl⟩
 have hlo : ∀k,e.lv k→e.on k:=fun k hk=>(hon k).2 ((hlv k).1 hk)
 have hMn:M.n=c.n0:=by rw [hM,hn0]
 have hsr:SR w e.fz M ⟨args++List.replicate (fn.ntmps-args.length) .dead,H,H.length⟩ { tmps:=vals++Array.replicate (fn.ntmps-vals.size) undef,defers:=[] } w e:=by
  have hsz:vals.size=args.length:=by rw [←hlen];simp
  refine⟨by simp [hsz],fun t p hp=>?_,fun id o h=>⟨(hob id o h).1,(hob id o h).2,fun _=>(hlv id).2 ((hon id).1 (hob id o h).2)⟩,hlo,fun id hid=>(hon id).1 hid,fun k k' b hk hk'=>hdis k k' b (hlo k hk) (hlo k' hk'),fun k b hk hb=>⟨.inr (by subst hM;exact⟨k,hlo k hk,hb⟩),(hbd k b (hlo k hk) hb).1⟩,⟨fun _ h=>h,fun _ h=>.inl h,fun k b hk hb=>(hbd k b (hlo k hk) hb).2⟩,⟨fun b hb=>⟨hz.lt b hb,by subst hM;rintro ⟨k,hk,hkb⟩;exact (hbd k b hk hkb).2 hb⟩,hz.gl⟩,Chg.refl _ _,by subst hM;exact fun k _ hk=>⟨hk,rfl,rfl,rfl⟩,by subst hM;rfl⟩
  rw [List.getElem?_append] at hp
  split at hp
  ·rename_i ht
   obtain⟨u,h4,h5⟩:=mB hl0 hp
   have : (vals++Array.replicate (fn.ntmps-vals.size) undef).getD t undef=u:=by
    rw [Array.getD_eq_getD_getElem?,Array.getElem?_append_left (by rw [hsz];exact ht)]
    have : vals[t]? =some u:=by simpa using h4
    rw [this];rfl
   show R w _ p ((vals++Array.replicate (fn.ntmps-vals.size) undef).getD t undef)
   rw [this]
   exact h5
  ·rw [List.getElem?_replicate] at hp
   split at hp
   ·cases hp;unfold R;trivial
   ·cases hp
 refine calls_of_wp hf hb (wp_mono (fS hc hm hMn body hck _ _ _ w _ h2 hsr) ?_)
 intro x a' w' hq
 cases x with
 | normal=>obtain⟨st,e1,h4,h5⟩:=hq;subst hM;exact hr _ _ _ _ _ h5 h4
 | ret=>obtain⟨st,e1,h4,h5⟩:=hq;subst hM;exact hr _ _ _ _ _ h5 h4
 | exit id=>obtain⟨st,e1,h4,h5⟩:=hq;exact (hx _ _ h5).elim
 | goto l=>exact hq.elim
 | panic ch=>exact hq.elim
 | outgrown=>exact hq.elim
theorem Hb (hc:dD P c) (hm:P.follows .mixedOrders =true) {f:FuncId} {fn:Func} {body:Code} (hf:P.funcs[f]? =some fn) (hb:fn.body=some body) (hck:codeOk body=true) {H:AH} {args:List PV} {out:Out} (hn0:c.n0=H.length)
 {e:Env} {vals:Array Value} (hz:FzW w e.fz) (hob : ∀id o,H.get id=some o→OR w e id o∧e.on id) (hon : ∀k,e.on k↔k<H.length) (hlv : ∀k,e.lv k↔k<H.length) (hbd : ∀k b,e.on k→e.blk k b→b<w.heap.size∧¬e.fz b)
 (hdis : ∀k k' b,e.on k→e.on k'→e.blk k b→e.blk k' b→k=k') (hl0:Rs w e args vals.toList)
 (h2:awp c body (tq c fn.results.toList out) ⟨args++List.replicate (fn.ntmps-args.length) .dead,H,H.length⟩):Calls P f vals w fun en w'=>∃v e',en=.returned v∧fW w w' e e' H.length out v:=by
 obtain⟨M,hM⟩ : ∃M:ij,M=⟨fun b=>∃k,e.on k∧e.blk k b,H.length,e,[]⟩:=⟨_,rfl⟩
 have fin : ∀st e1 a' w',SR w e.fz M st a' w' e1→tq c fn.results.toList out .ret st→a'.defers=[]∧∃v,(results fn a'.tmps).run P w'=.ok v w'∧∃v' e',Ending.returned v=.returned v'∧fW w w' e e' H.length out v':=by
  intro st e1 a' w' hs' hq
  unfold tq at hq
  simp only at hq
  split at hq
  ·rename_i l hlr
   obtain⟨hck1,hobs⟩:=hq
   generalize reach st.h 60 (List.range c.n0++oa l) []=ρ at hck1 hobs
   obtain⟨v,hv1,hv2⟩:=jX hc hs' hlr
   simp only [keep,chk,Bool.and_eq_true,List.all_eq_true,Nat.blt_eq,Nat.ble_eq,List.mem_range] at hck1
   obtain⟨⟨⟨hkn,hkeep⟩,hnd, -,hob1⟩,hfull,hvin⟩:=hck1
   rw [hn0] at hkn hkeep
   have hkeep : ∀k,k<H.length→look ρ k=k:=fun k hk=>Nat.eq_of_beq_eq_true (hkeep k hk)
   obtain⟨hsame,hob2⟩:=pR hobs
   have hrn:=e1.rn_ok (look ρ) ρ.length
   unfold full at hfull
   rw [List.all_eq_true] at hfull
   have hfull : ∀k,k<ρ.length→(out.eff.get k).isSome =true:=fun k hk=>hfull k (List.mem_range.2 hk)
   have hroot : ∀k,e.on k→e1.on k∧e1.adr k=e.adr k∧e1.cap k=e.cap k∧e1.len k=e.len k:=fun k hk=>by
    have:=hs'.root k
    subst hM
    exact this ((hon k).1 hk) hk
   have hst : ∀k,e.on k→k<ρ.length∧look ρ k=k:=fun k hk=>⟨Nat.lt_of_lt_of_le ((hon k).1 hk) hkn,hkeep k ((hon k).1 hk)⟩
   refine⟨by have:=hs'.defers;subst hM;exact this,v,hv1,v,e1.rn (look ρ) ρ.length,rfl,?_,?_,⟨fun b hb=>hs'.ez.sup b hb,fun k b hk _ hb hf=>absurd hf (hs'.ez.nf (look ρ k) b hk.2 hb)⟩,?_,?_,?_,?_,?_,?_⟩
   ·exact yK hrn _ _ hvin (py _ _ _ hsame hv2)
   ·refine⟨fun k hk=>⟨(hst k hk).1,by rw [(hst k hk).2];exact (hroot k hk).1⟩,fun k hk=>?_,fun k hk=>?_,fun k hk=>?_,fun b hb=>hs'.ez.sub b hb⟩
    ·show e1.adr (look ρ k)=_;rw [(hst k hk).2];exact (hroot k hk).2.1
    ·show e1.cap (look ρ k)=_;rw [(hst k hk).2];exact (hroot k hk).2.2.1
    ·show e1.len (look ρ k)=_;rw [(hst k hk).2];exact (hroot k hk).2.2.2
   ·intro k o hk
    have hmem:=get_mem hk
    obtain⟨h4,h5⟩:=hob1 _ hmem
    obtain⟨x,hx,hxo⟩:=hob2 _ hmem
    obtain⟨h6,h7,h8⟩:=hs'.ob _ _ hx
    exact⟨yo hrn h5 (xE hxo h6),⟨h4,h7⟩,fun hg=>⟨h4,h8 (by rw [kF hxo,mz];exact hg)⟩⟩
   ·intro k hk
    by_cases hkH:k<H.length
    ·exact .inl ((hon k).2 hkH)
    ·exact .inr ⟨Nat.le_of_not_lt hkH,hfull k hk.1⟩
   ·intro k hk
    by_cases hkH:k<H.length
    ·exact .inl ((hlv k).2 hkH)
    ·refine .inr ⟨fun h=>hkH ((hon k).1 h),⟨hk.1,hs'.lo _ hk.2⟩,fun b hb=>⟨(hs'.bd (look ρ k) b hk.2 hb).2,?_⟩⟩
     rcases (hs'.bd (look ρ k) b hk.2 hb).1 with h | h
     ·exact .inl h
     ·refine .inr ?_
      subst hM
      obtain⟨j,hj,x,hx,hxb⟩:=h
      obtain⟨q1,q2, -, -⟩:=hroot j hj
      refine⟨j,(hlv j).2 ((hon j).1 hj),fun hjl=>?_,x,hx,hxb⟩
      have hjl:e1.lv (look ρ j):=hjl.2
      have h3:=(hst j hj).2
      have:=hs'.dis (look ρ k) (look ρ j) b hk.2 hjl hb ⟨x,by rw [h3,q2];exact hx,hxb⟩
      have:=iA hnd hk.1 (hst j hj).1 this
      subst this
      exact hkH ((hon k).1 hj)
   ·intro k hk
    have hkn:k<ρ.length:=(hst k ((hlv k).1 hk |> (hon k).2)).1
    obtain⟨o,ho⟩:=Option.isSome_iff_exists.1 (hfull k hkn)
    cases hg:o.gn with
    | true=>cases o with
      | gone=>exact .inr ho
      | _=>cases hg
    | false=>
      obtain⟨x,hx,hxo⟩:=hob2 _ (get_mem ho)
      exact .inl ⟨hkn,(hs'.ob _ _ hx).2.2 (by rw [kF hxo,mz];exact hg)⟩
   ·intro k k' b hk _ hk' _ hb hb'
    exact iA hnd hk.1 hk'.1 (hs'.dis _ _ b hk.2 hk'.2 hb hb')
   ·refine⟨hs'.low.os,hs'.low.tape,hs'.low.output,hs'.low.size,fun b hb hnM=>hs'.low.block b hb fun hMb=>hnM ?_⟩
    subst hM
    obtain⟨k,hk,hkb⟩:=hMb
    exact⟨k,(hlv k).2 ((hon k).1 hk),hfull k (hst k hk).1,hkb⟩
  ·exact hq.elim
 refine yA hc hm hf hb hck hn0 hz hob hon hlv hbd hdis hl0 (fun _ _ h=>h) (fun ex st e1 a' w' hq hs'=>?_) h2
 rw [←hM] at hs'
 cases ex with
 | normal=>exact fin st e1 a' w' hs' hq
 | ret=>exact fin st e1 a' w' hs' hq
 | exit id=>exact hq.elim
theorem FOk.of_awp (hc:dD P c) (hm:P.follows .mixedOrders =true) {f:FuncId} {fn:Func} {body:Code} {S:aa} (hf:P.funcs[f]? =some fn) (hb:fn.body=some body) (hn:(fn.name=="runtime.NumGoroutine")=false) (hn0:c.n0=0) (hck:codeOk body=true)
 (h : ∀args out,S args=some out→(∀p∈out.pre,p)→(cP [] args&&Nat.ble args.length fn.ntmps)=true∧awp c body (tq c fn.results.toList out) ⟨args++List.replicate (fn.ntmps-args.length) .dead,[],0⟩):FOk P f S:=by
 refine⟨⟨fn,hf,hn,by rw [hb];rfl⟩,fun args out hs hp w e vals hz hl=>?_⟩
 obtain⟨h1,h2⟩:=h args out hs hp
 rw [Bool.and_eq_true,Nat.ble_eq] at h1
 have hrn0:Rn id [] e { e with on:=fun _=>False,lv:=fun _=>False }:=⟨fun k hk=>absurd hk (by simp),fun _=>rfl,fun _=>rfl,fun _=>rfl,rfl⟩
 have hl0:Rs w { e with on:=fun _=>False,lv:=fun _=>False } args vals.toList:=th hrn0 args _ h1.1 (by rw [ol];exact hl)
 exact Hb (H:=[]) hc hm hf hb hck (by rw [hn0];rfl) (e:={ e with on:=fun _=>False,lv:=fun _=>False }) hz (fun id o h=>by simp [AH.get] at h) (fun k=>⟨fun h=>h.elim,fun h=>absurd h (Nat.not_lt_zero k)⟩) (fun k=>⟨fun h=>h.elim,fun h=>absurd h (Nat.not_lt_zero k)⟩) (fun k b h=>h.elim) (fun k k' b h=>h.elim) hl0 h2
theorem MOk.of_awp {f:FuncId} {fn:Func} {body:Code} {S:bX} (hc:dD P c) (hm:P.follows .mixedOrders =true) (hf:P.funcs[f]? =some fn) (hb:fn.body=some body) (hn:(fn.name=="runtime.NumGoroutine")=false) (hck:codeOk body=true)
 (h : ∀H args out,S H args=some out→(∀p∈out.pre,p)→Nat.beq c.n0 H.length=true∧awp c body (tq c fn.results.toList out) ⟨args++List.replicate (fn.ntmps-args.length) .dead,H,H.length⟩):MOk P f S:=by
 refine⟨⟨fn,hf,hn,by rw [hb];rfl⟩,fun H args out hs hp w e vals hz hob hon hlv hbd hdis hl=>?_⟩
 obtain⟨h1,h2⟩:=h H args out hs hp
 exact Hb hc hm hf hb hck (Nat.eq_of_beq_eq_true h1) hz hob hon hlv hbd hdis hl h2
def bX.or (S T:bX):bX:=fun H l=>match S H l with | some o=>some o | none=>T H l
theorem MOk.or {f:FuncId} {S T:bX} (hS:MOk P f S) (hT:MOk P f T):MOk P f (S.or T):=⟨hS.fn,fun H l out h hp=>by
 unfold bX.or at h
 split at h
 ·rename_i hs;cases h;exact hS.run H l _ hs hp
 ·exact hT.run H l out h hp⟩
end
open Go.RowKit
def assoc {α:Type} (t:Nat):List (Nat×α)→Option α
 | []=>none
 | (k,v)::r=>if Nat.beq k t then some v else assoc t r
def eqL:List (Nat×Nat)→List (Nat×Nat)→Bool
 | [],[]=>true
 | (a,b)::r,(c,d)::s=>Nat.beq a c&&(Nat.beq b d&&eqL r s)
 | _,_=>false
theorem Kx : ∀{x y:List (Nat×Nat)},eqL x y=true→x=y
 | [],[],_=>rfl
 | (a,b)::r,(c,d)::s,h=>by
   simp only [eqL,Bool.and_eq_true] at h
   rw [Nat.eq_of_beq_eq_true h.1,Nat.eq_of_beq_eq_true h.2.1,Kx h.2.2]
 | [],_::_,h=>by simp [eqL] at h
 | _::_,[],h=>by simp [eqL] at h
def dCk (P:Program):TD→TypeDesc→Bool
 | .int k,.int k'=>k==k'
 | .bool,.bool =>true
 | .str,.string =>true
 | .ptr e,.pointer e'=>Nat.beq e e'
 | .sl e,.slice e'=>Nat.beq e e'
 | .st fs,.struct F=>eqL (F.toList.map fun f=>(f.offset,f.type)) fs&&F.toList.all fun f=>(P.info? f.type).isSome
 | .arr n e,.array n' e'=>Nat.beq n n'&&Nat.beq e e'
 | .oth,_=>true
 | _,_=>false
def PE (P:Program) (t:TypeId) (ti:TI):Bool:=
 match P.info? t,P.underlying t with
 | some i,some d=>(!Nat.ble ti.n 40||Nat.ble i.bytes 512)&&(Nat.beq i.size ti.n&&((match i.zero with | some z=>zOk ti.z z.cells.toList | none=>false)&&((QX d==ti.agg)&&dCk P ti.d d)))
 | _,_=>false
theorem NQ {P:Program} {t:TypeId} {ti:TI} (h:PE P t ti=true):ra P t ti:=by
 unfold PE at h
 split at h
 ·rename_i i d hi hd
  simp only [Bool.and_eq_true] at h
  obtain⟨h0,h1,h2,h3,h4⟩:=h
  split at h2
  ·rename_i z hz
   refine⟨⟨i,hi,Nat.eq_of_beq_eq_true h1,z,hz,h2⟩,fun i' hi' hb=>by
    rw [hi] at hi'
    cases hi'
    rw [hb] at h0
    simpa using h0,d,hd,by simpa using h3,?_⟩
   unfold dCk at h4
   split at h4<;>rename_i hd1
   ·rw [hd1];simp only [beq_iff_eq] at h4;rw [h4]
   ·rw [hd1]
   ·rw [hd1]
   ·rw [hd1];rw [Nat.eq_of_beq_eq_true h4]
   ·rw [hd1];rw [Nat.eq_of_beq_eq_true h4]
   ·rw [hd1]
    rw [Bool.and_eq_true] at h4
    exact⟨_,rfl,Kx h4.1,fun f hf=>List.all_eq_true.1 h4.2 f (by simpa using hf)⟩
   ·rw [hd1]
    rw [Bool.and_eq_true] at h4
    rw [Nat.eq_of_beq_eq_true h4.1,Nat.eq_of_beq_eq_true h4.2]
   ·rw [hd1];trivial
   ·cases h4
  ·cases h2
 ·cases h
theorem Rp {P:Program} {T:TypeId→Option TI} (m:Nat) (hm : ∀t,Nat.ble m t=true→T t=none) (h:((List.range m).all fun t=>match T t with | some ti=>PE P t ti | none=>true)=true) : ∀t ti,T t=some ti→ra P t ti:=fun t ti hg=>by
 by_cases hl:t<m
 ·have:=List.all_eq_true.1 h t (List.mem_range.2 hl)
  rw [hg] at this
  exact NQ this
 ·rw [hm t (Nat.ble_eq_true_of_le (Nat.le_of_not_lt hl))] at hg
  cases hg
def P1 (P:Program) (t:TypeId):Bool:=!P.stoodInHeld t&&(!P.eqGuardType P.depth t&&(match P.underlying t with
 | some (.struct F)=>F.toList.all fun f=>!(f.name=="_")
 | _=>true))
theorem MY {P:Program} {t:TypeId} (h:P1 P t=true):Mn P t:=by
 unfold P1 at h
 simp only [Bool.and_eq_true,Bool.not_eq_true'] at h
 refine⟨h.1,h.2.1,fun F hF f hf=>?_⟩
 have h3:=h.2.2
 rw [hF] at h3
 have:=List.all_eq_true.1 h3 f hf
 simpa using this
def Ks (t:TypeId):List TypeId→Bool
 | []=>false
 | x::r=>Nat.beq x t||Ks t r
theorem G9 {t:TypeId} : ∀{l:List TypeId},Ks t l=true→t∈l
 | [],h=>by cases h
 | x::r,h=>by
   unfold Ks at h
   rw [Bool.or_eq_true] at h
   rcases h with h | h
   ·rw [←Nat.eq_of_beq_eq_true h];exact List.mem_cons_self
   ·exact List.mem_cons_of_mem _ (G9 h)
theorem Rx {P:Program} (l:List TypeId) (h:(l.all fun t=>P1 P t)=true) : ∀t,Ks t l=true→Mn P t:=fun t ht=>MY (List.all_eq_true.1 h t (G9 ht))
inductive CY (P:Program):List (FuncId×aa)→Prop
 | nil:CY P []
 | cons {f:FuncId} {S:aa} {r:List (FuncId×aa)} : FOk P f S→CY P r→CY P ((f,S)::r)
theorem CY.get {P:Program} : ∀{l:List (FuncId×aa)},CY P l→∀f S,assoc f l=some S→FOk P f S
 | [],_,f,S,h=>by simp [assoc] at h
 | (g,T)::r,.cons h1 h2,f,S,h=>by
   unfold assoc at h
   split at h
   ·rename_i hk
    cases h
    have : g=f:=Nat.eq_of_beq_eq_true hk
    subst this
    exact h1
   ·exact CY.get h2 f S h
inductive CH (P:Program):List (FuncId×bX)→Prop
 | nil:CH P []
 | cons {f:FuncId} {S:bX} {r:List (FuncId×bX)} : MOk P f S→CH P r→CH P ((f,S)::r)
theorem CH.get {P:Program} : ∀{l:List (FuncId×bX)},CH P l→∀f S,assoc f l=some S→MOk P f S
 | [],_,f,S,h=>by simp [assoc] at h
 | (g,T)::r,.cons h1 h2,f,S,h=>by
   unfold assoc at h
   split at h
   ·rename_i hk
    cases h
    have : g=f:=Nat.eq_of_beq_eq_true hk
    subst this
    exact h1
   ·exact CH.get h2 f S h
open Go.RowKit
structure Arg (α:Type) where
 rd:PV→Option α
 enc:α→PV
 ok : ∀x a,rd x=some a→x=enc a
structure gi (α:Type) where
 rd:List PV→Option α
 enc:α→List PV
 ok : ∀x a,rd x=some a→x=enc a
def aI:Arg Int:=⟨fun | .i .i64 n=>some n | _=>none,.i .i64,fun x a h=>by split at h<;>cases h;rfl⟩
def aC:Arg Int:=⟨fun | .i .u8 n=>some n | _=>none,.i .u8,fun x a h=>by split at h<;>cases h;rfl⟩
def aS:Arg (List UInt8):=⟨fun | .s n=>some n | _=>none,.s,fun x a h=>by split at h<;>cases h;rfl⟩
def aB:Arg Bool:=⟨fun | .b n=>some n | _=>none,.b,fun x a h=>by split at h<;>cases h;rfl⟩
def aN:Arg (List Int):=⟨fun | .rsl [.i .i64] n=>some n | _=>none,.rsl [.i .i64],fun x a h=>by split at h<;>cases h;rfl⟩
def aW:Arg (List (List UInt8)):=⟨fun | .rsl [.s] n=>some n | _=>none,.rsl [.s],fun x a h=>by split at h<;>cases h;rfl⟩
def a0:gi Unit:=⟨fun | []=>some () | _=>none,fun _=>[],fun x a h=>by split at h<;>cases h;rfl⟩
def a1 {α:Type} (A:Arg α):gi α:=⟨fun | [x]=>A.rd x | _=>none,fun a=>[A.enc a],fun x a h=>by split at h<;>first | exact congrArg (fun z=>[z]) (A.ok _ _ h) | cases h⟩
def hZ {α β:Type} : Option α→Option β→Option (α×β)
 | some a,some b=>some (a,b)
 | _,_=>none
theorem mU {α β:Type} {x:Option α} {y:Option β} {z:α×β} (h:hZ x y=some z):x=some z.1∧y=some z.2:=by
 unfold hZ at h
 split at h<;>cases h
 exact⟨rfl,rfl⟩
def ac {α β:Type} (A:Arg α) (B:gi β):gi (α×β):=⟨fun | x::r=>hZ (A.rd x) (B.rd r) | _=>none,fun a=>A.enc a.1::B.enc a.2,fun x a h=>by
 split at h
 ·obtain⟨h1,h2⟩:=mU h
  rw [A.ok _ _ h1,B.ok _ _ h2]
 ·cases h⟩
def aA {α:Type} (A:gi α):Arg α:=⟨fun | .agg l=>A.rd l | _=>none,fun a=>.agg (A.enc a),fun x a h=>by split at h<;>first | exact congrArg PV.agg (A.ok _ _ h) | cases h⟩
def aP {α:Type} (A:gi α):Arg α:=⟨fun | .rptr l 0=>A.rd l | _=>none,fun a=>.rptr (A.enc a) 0,fun x a h=>by split at h<;>first | exact congrArg (PV.rptr · 0) (A.ok _ _ h) | cases h⟩
def fsp {α:Type} (A:gi α) (pre:α→Prop) (v:α→PV) (eff:α→AH:=fun _=>[]):aa:=fun l=>match A.rd l with
 | some a=>some ⟨[pre a],v a,eff a⟩
 | none=>none
structure je (α:Type) where
 rd:AH→List PV→Option α
 eh:α→AH
 ea:α→List PV
 ok : ∀H l a,rd H l=some a→H=eh a∧l=ea a
def msp {α:Type} (A:je α) (pre:α→Prop) (v:α→PV) (eff:α→AH):bX:=fun H l=>match A.rd H l with
 | some a=>some ⟨[pre a],v a,eff a⟩
 | none=>none
section
variable {P:Program} {c:Cx} {f:FuncId} {fn:Func} {body:Code} {α:Type}
theorem FOk.go {A:gi α} {pre:α→Prop} {v:α→PV} {eff:α→AH} (hc:dD P c) (hm:P.follows .mixedOrders =true) (hf:P.funcs[f]? =some fn) (hb:fn.body=some body) (hn:(fn.name=="runtime.NumGoroutine")=false) (hn0:c.n0=0) (hck:codeOk body=true)
 (h : ∀a,pre a→(cP [] (A.enc a)&&Nat.ble (A.enc a).length fn.ntmps)=true∧awp c body (tq c fn.results.toList ⟨[],v a,eff a⟩) ⟨A.enc a++List.replicate (fn.ntmps-(A.enc a).length) .dead,[],0⟩):FOk P f (fsp A pre v eff):=
 FOk.of_awp hc hm hf hb hn hn0 hck fun args out hs hp=>by
  unfold fsp at hs
  split at hs
  ·rename_i a ha
   cases hs
   rw [A.ok _ _ ha]
   exact h a (hp _ (by simp))
  ·cases hs
theorem MOk.go {A:je α} {pre:α→Prop} {v:α→PV} {eff:α→AH} (hc:dD P c) (hm:P.follows .mixedOrders =true) (hf:P.funcs[f]? =some fn) (hb:fn.body=some body) (hn:(fn.name=="runtime.NumGoroutine")=false) (hck:codeOk body=true)
 (h : ∀a,pre a→Nat.beq c.n0 (A.eh a).length =true∧awp c body (tq c fn.results.toList ⟨[],v a,eff a⟩) ⟨A.ea a++List.replicate (fn.ntmps-(A.ea a).length) .dead,A.eh a,(A.eh a).length⟩):MOk P f (msp A pre v eff):=
 MOk.of_awp hc hm hf hb hn hck fun H args out hs hp=>by
  unfold msp at hs
  split at hs
  ·rename_i a ha
   cases hs
   obtain⟨rfl,rfl⟩:=A.ok _ _ _ ha
   exact h a (hp _ (by simp))
  ·cases hs
end
section
variable {α:Type} {a b:Int} {s t:List UInt8} {x y:Bool} {L M:List α} {d e:α}
@[simp] theorem Qo:std.add a b=a+b:=rfl
@[simp] theorem An:std.sub a b=a-b:=rfl
@[simp] theorem UP:std.mul a b=a*b:=rfl
@[simp] theorem lu:std.eqI a b=(a==b):=rfl
@[simp] theorem Lb:std.ltI a b=decide (a<b):=rfl
@[simp] theorem ET:std.leI a b=decide (a≤b):=rfl
@[simp] theorem ED:std.eqB x y=(x==y):=rfl
@[simp] theorem Fl:std.eqS s t=(s==t):=rfl
@[simp] theorem VH:std.app s t=s++t:=rfl
@[simp] theorem VA:std.drp s a=s.drop a.toNat:=rfl
@[simp] theorem VM:std.tak s a=s.take a.toNat:=rfl
@[simp] theorem gG:std.lenS s=s.length:=rfl
@[simp] theorem Bh:std.byte s a=(s.getD a.toNat 0).toNat :=rfl
@[simp] theorem nZ:std.len L=L.length:=rfl
@[simp] theorem AF:std.get d L a=L.getD a.toNat d:=rfl
@[simp] theorem Uy:std.set L a e=L.set a.toNat e:=rfl
@[simp] theorem Uq:std.snoc L M=L++M:=rfl
@[simp] theorem Vs:std.ltM a↔a≤274877906944:=Iff.rfl
@[simp] theorem Up:IntKind.min .i64 = -9223372036854775808:=rfl
@[simp] theorem max_i64:IntKind.max .i64 =9223372036854775807:=rfl
@[simp] theorem U8:IntKind.min .u8 =0:=rfl
@[simp] theorem VD:IntKind.max .u8 =255:=rfl
@[simp] theorem V4:IntKind.min .i8 = -128:=rfl
@[simp] theorem UF:IntKind.max .i8 =127:=rfl
@[simp] theorem Um:IntKind.min .i32 = -2147483648:=rfl
@[simp] theorem Un:IntKind.max .i32 =2147483647:=rfl
@[simp] theorem Vy {k:IntKind} : std.inK k a↔k.min≤a∧a≤k.max:=Iff.rfl
@[simp] theorem UI:std.inL a b↔0≤a∧a<b:=Iff.rfl
@[simp] theorem Ux:std.leP a b↔a≤b:=Iff.rfl
@[simp] theorem U1:std.neP a b↔a≠b:=Iff.rfl
@[simp] theorem U0 {l:List Int} : std.toS l=fZ l:=rfl
@[simp] theorem UL:std.toB s=aq s:=rfl
@[simp] theorem VW:std.and x y=(x&&y):=rfl
@[simp] theorem Vv:std.ltS s t=Op.bytesLess s t:=rfl
theorem an {n:Int} (h : -9223372036854775808≤n∧n≤9223372036854775807):std.inK .i64 n:=h
theorem yg (h:0≤a):std.quo a b=a/b:=Int.tdiv_eq_ediv_of_nonneg h
theorem FF (h:0≤a):std.rem a b=a%b:=Int.tmod_eq_emod_of_nonneg h
@[simp] theorem gC (X:List UInt8) (n:Nat):(aq X).getD n 0=((X.getD n 0).toNat : Int):=by
 simp only [aq,List.getD_eq_getElem?_getD,List.getElem?_map]
 cases X[n]? <;>rfl
@[simp] theorem kI (X:List UInt8) (n:Nat) (c:UInt8):(aq X).set n (c.toNat:Int)=aq (X.set n c):=by simp [aq,List.map_set]
@[simp] theorem bu (X:List UInt8):(aq X).length =X.length:=by simp [aq]
@[simp] theorem Uk (X Y:List UInt8):aq X++aq Y=aq (X++Y):=by simp [aq]
@[simp] theorem i6 (X:List UInt8) (c:UInt8):aq X++[(c.toNat:Int)]=aq (X++[c]):=by simp [aq]
@[simp] theorem cJ (X:List UInt8):fZ (aq X)=X:=by
 simp only [fZ,aq,List.map_map]
 rw [List.map_congr_left (g:=id) (fun c _=>by simp),List.map_id]
theorem Bo:std.inK .u8 (std.byte s a):=by
 have:=(s.getD a.toNat 0).toNat_lt
 refine⟨?_,?_⟩
 ·show (0:Int)≤(((s.getD a.toNat 0).toNat : Nat):Int);omega
 ·show (((s.getD a.toNat 0).toNat : Nat):Int)≤255;omega
theorem aI2 {a b:Prop} (h:a) (k:b):a∧b:=⟨h,k⟩
theorem fin {P:Prop} (h:P:=by first
 | exact True.intro
 | with_reducible assumption
 | with_reducible exact Bo
 | with_reducible exact hp.1
 | with_reducible exact hp.2
 | with_reducible exact hp.2.1
 | with_reducible exact hp.2.2
 | (simp [std] at * <;>lia)
 | rfl):P:=h
theorem ah (h:std.ltI a b=true):a<b:=by simpa using h
theorem ao (h:std.ltI a b=false):b≤a:=by simpa using h
theorem tk (h0:0≤a) (h:a<L.length) (d:α):L.take (a+1).toNat =L.take a.toNat++[L.getD a.toNat d]:=by
 rw [show (a+1).toNat =a.toNat+1 from by omega,List.take_add_one,List.getD_eq_getElem?_getD,List.getElem?_eq_getElem (by omega)]
 rfl
theorem bZ (h:(L.length:Int)≤a):L.take a.toNat=L:=List.take_of_length_le (by omega)
theorem dc (h0:0≤a) (h:a<L.length) (d:α):L.drop a.toNat=L.getD a.toNat d::L.drop (a+1).toNat :=by
 have h1:a.toNat<L.length:=by omega
 rw [show (a+1).toNat =a.toNat+1 from by omega,List.drop_eq_getElem_cons h1,List.getD_eq_getElem?_getD,List.getElem?_eq_getElem h1]
 rfl
theorem dn (h:(L.length:Int)≤a):L.drop a.toNat=[]:=List.drop_of_length_le (by omega)
end
structure qw (β:Type) where
 rd:AH→List PV→Option β
 eh:β→AH
 v:β→PV
def oU (n:Nat):AH→AH
 | []=>[]
 | (k,o)::r=>if Nat.ble n k then (k,o)::oU n r else oU n r
def Mh (h hN:AH) (k:Nat):Ob:=match h.get k with
 | some (.cells l ty)=>.cells (nd (eK hN 12 l)) ty
 | _=>.gone
def Sw (h hN:AH) (n:Nat):AH:=(List.range n).map fun k=>(k,Mh h hN k)
def isC:Option Ob→Bool
 | some (.cells _ _)=>true
 | _=>false
def okN (n:Nat) (h E:AH) (v:PV):Bool:=(List.range n).all (fun k=>isC (h.get k)&&(E.get k).isSome)&&(v.idIn []&&E.all fun q=>Nat.blt q.1 n&&q.2.idIn [])
def obN (h hN:AH):AH→Prop→Prop
 | [],r=>r
 | (k,o)::l,r=>qH (Mh h hN k) o∧obN h hN l r
def Qw {β:Type} (c:Cx) (rs:List ResultVar) (B:qw β) (Q:β→Prop):AEx→AS→Prop
 | .exit _,_=>False
 | _,st=>match DD c st rs with
   | some l=>match B.rd (Sw st.h (oU c.n0 st.h) c.n0) (nd (eK (oU c.n0 st.h) 12 l)) with
     | some x=>okN c.n0 st.h (B.eh x) (B.v x)=true∧obN st.h (oU c.n0 st.h) (B.eh x) (tj (deep (oU c.n0 st.h) 12 (Du l)) (B.v x)∧Q x)
     | none=>False
   | none=>False
def nsp {α β:Type} (A:je α) (pre:α→Prop) (B:α→qw β) (Q:α→β→Prop):d7:=fun H l=>match A.rd H l with
 | some a=>some ⟨β,[pre a],Q a,(B a).v,(B a).eh⟩
 | none=>none
def yl (t:Nat):List (Nat×d7)→Option d7
 | []=>none
 | (k,v)::r=>if Nat.beq t k then some v else yl t r
inductive HF (P:Program):List (FuncId×d7)→Prop
 | nil:HF P []
 | cons {f:FuncId} {S:d7} {l:List (FuncId×d7)} : NOk P f S→HF P l→HF P ((f,S)::l)
theorem HF.get {P:Program} : ∀{l:List (FuncId×d7)},HF P l→∀f S,yl f l=some S→NOk P f S
 | [],_,f,S,h=>by simp [yl] at h
 | (k,v)::r,.cons h1 h2,f,S,h=>by
   unfold yl at h
   split at h
   ·rename_i hk
    have hk:f=k:=by simpa using hk
    cases h;subst hk;exact h1
   ·exact h2.get f S h
theorem sJ {n:Nat} : ∀{h:AH} {id:Nat} {o:Ob},(oU n h).get id=some o→n≤id∧h.get id=some o
 | [],id,o,h=>by simp [oU,AH.get] at h
 | (k,x)::r,id,o,h=>by
   unfold oU at h
   split at h
   ·rename_i hk
    have hk:n≤k:=by simpa using hk
    unfold AH.get at h ⊢
    split at h
    ·rename_i he
     have he:k=id:=by simpa using he
     subst he;cases h
     exact⟨hk,by rw [if_pos (by simp)]⟩
    ·rename_i he
     rw [if_neg he]
     exact sJ h
   ·rename_i hk
    obtain⟨h1,h2⟩:=sJ h
    refine⟨h1,?_⟩
    unfold AH.get
    rw [if_neg (by
     intro he
     have he:k=id:=by simpa using he
     subst he
     exact hk (by simpa using h1))]
    exact h2
theorem GL {h hN:AH} {r:Prop} : ∀{E:AH},obN h hN E r→r∧∀q∈E,qH (Mh h hN q.1) q.2
 | [],hh=>⟨hh,fun q hq=>absurd hq (by simp)⟩
 | (k,o)::l,hh=>by
   unfold obN at hh
   obtain⟨h1,h2⟩:=hh
   obtain⟨h3,h4⟩:=GL h2
   refine⟨h3,fun q hq=>?_⟩
   rcases List.mem_cons.1 hq with rfl | hq
   ·exact h1
   ·exact h4 q hq
section
variable {P:Program} {c:Cx} {f:FuncId} {fn:Func} {body:Code} {α β:Type}
theorem NOk.go {A:je α} {pre:α→Prop} {B:α→qw β} {Q:α→β→Prop} (hc:dD P c) (hm:P.follows .mixedOrders =true) (hf:P.funcs[f]? =some fn) (hb:fn.body=some body) (hn:(fn.name=="runtime.NumGoroutine")=false) (hck:codeOk body=true)
 (h : ∀a,pre a→Nat.beq c.n0 (A.eh a).length =true∧awp c body (Qw c fn.results.toList (B a) (Q a)) ⟨A.ea a++List.replicate (fn.ntmps-(A.ea a).length) .dead,A.eh a,(A.eh a).length⟩):NOk P f (nsp A pre B Q):=by
 refine⟨⟨fn,hf,hn,by rw [hb];rfl⟩,fun H args out hs hp w e vals hz hob hon hlv hbd hdis hl=>?_⟩
 unfold nsp at hs
 split at hs
 ·rename_i a ha
  cases hs
  obtain⟨rfl,rfl⟩:=A.ok _ _ _ ha
  obtain⟨h1,h2⟩:=h a (hp _ (by simp))
  have hn0:=Nat.eq_of_beq_eq_true h1
  refine yA hc hm hf hb hck hn0 hz hob hon hlv hbd hdis hl (fun _ _ h=>h) (fun ex st e1 a' w' hq hs'=>?_) h2
  have hq:Qw c fn.results.toList (B a) (Q a) .ret st:=by cases ex<;>first | exact hq | exact hq.elim
  generalize (A.eh a).length =n0 at hn0 hon hlv hs'
  unfold Qw at hq
  simp only [hn0] at hq
  split at hq
  ·rename_i l hlr
   split at hq
   ·rename_i x hx
    obtain⟨hck1,hq⟩:=hq
    obtain⟨⟨hsame,hQ⟩,hobs⟩:=GL hq
    obtain⟨v,hv1,hv2⟩:=jX hc hs' hlr
    simp only [okN,Bool.and_eq_true,List.all_eq_true,List.mem_range,Nat.blt_eq] at hck1
    obtain⟨hfull,hvin,hEin⟩:=hck1
    have hcell : ∀k,k<n0→∃m ty,st.h.get k=some (.cells m ty):=fun k hk=>by
     have:=(hfull k hk).1
     unfold isC at this
     split at this
     ·rename_i m ty hm';exact⟨m,ty,hm'⟩
     ·cases this
    have hroot : ∀k,e.on k→e1.on k∧e1.adr k=e.adr k∧e1.cap k=e.cap k∧e1.len k=e.len k:=fun k hk=>hs'.root k ((hon k).1 hk) hk
    have hlv1 : ∀k,k<n0→e1.lv k:=fun k hk=>by
     obtain⟨m,ty,hm'⟩:=hcell k hk
     exact (hs'.ob k _ hm').2.2 rfl
    have hsee:lO w' e1 (oU n0 st.h):=⟨fun id o ho=>hs'.ob id o (sJ ho).2,hs'.sees.fz,hs'.sees.dis⟩
    have hF:Frz w' e1 (oU n0 st.h) { e1 with fz:=fun b=>e1.fz b∨w.heap.size≤b∧b<w'.heap.size }:=by
     refine⟨⟨fun _ h=>h,fun _ _=>rfl,fun _ _=>rfl,fun _ _=>rfl,fun b hb=>.inl hb⟩,fun id o b ho hg hb=>.inr ?_⟩
     obtain⟨g1,g2⟩:=sJ ho
     have glv:=(hs'.ob id o g2).2.2 hg
     obtain⟨g3,g4⟩:=hs'.bd id b glv hb
     refine⟨g3.resolve_right fun ⟨k,hk,y,hy,hyb⟩=>?_,g4⟩
     have hkn:=(hon k).1 hk
     have:=hs'.dis id k b glv (hlv1 k hkn) hb ⟨y,by rw [(hroot k hk).2.1];exact hy,hyb⟩
     omega
    have hR:=py _ _ _ hsame (yB hsee hF 12 _ v hv2)
    have hrn:Rn id [] { e1 with fz:=fun b=>e1.fz b∨w.heap.size≤b∧b<w'.heap.size } ⟨e1.adr,e1.cap,e1.len,fun b=>e1.fz b∨w.heap.size≤b∧b<w'.heap.size,fun k=>k<n0,fun k=>k<n0⟩:=⟨fun k hk=>absurd hk (by simp),fun _=>rfl,fun _=>rfl,fun _=>rfl,rfl⟩
    refine⟨hs'.defers,v,hv1,x,hQ,v,⟨e1.adr,e1.cap,e1.len,fun b=>e1.fz b∨w.heap.size≤b∧b<w'.heap.size,fun k=>k<n0,fun k=>k<n0⟩,rfl,?_,?_,⟨fun b hb=>?_,fun k b hk hk0=>absurd ((hlv k).2 hk) hk0⟩,?_,fun k hk=>.inl ((hon k).2 hk),fun k hk=>.inl ((hlv k).2 hk),fun k hk=>.inl ((hlv k).1 hk),fun k k' b hk hk0=>absurd ((hlv k).2 hk) hk0,?_⟩
    ·exact yK hrn _ v hvin (by rw [Hv];exact hR)
    ·exact⟨fun k hk=>(hon k).1 hk,fun k hk=>(hroot k hk).2.1,fun k hk=>(hroot k hk).2.2.1,fun k hk=>(hroot k hk).2.2.2,fun b hb=>.inl (hs'.ez.sub b hb)⟩
    ·rcases hb with hb | hb
     ·exact hs'.ez.sup b hb
     ·exact .inr hb
    ·intro k o hk
     have hmem:=get_mem hk
     obtain⟨h4,h5⟩:=hEin _ hmem
     obtain⟨m,ty,hm'⟩:=hcell k h4
     have h6:=hobs _ hmem
     simp only [Mh,hm'] at h6
     obtain⟨b,vs,q1,q2,q3,q4⟩:=(hs'.ob k _ hm').1
     refine⟨?_,h4,fun _=>h4⟩
     cases o with
     | cells m2 ty2=>
       unfold qH at h6
       obtain⟨h6,rfl⟩:=h6
       have h7:=rQ _ _ _ h6 (kx _ _ (jU hsee hF 12 _ _ q4))
       refine⟨b,vs,q1,?_,q3,th hrn _ _ h5 (by rw [ol];exact h7)⟩
       rintro (hf1 | hf1)
       ·exact q2 hf1
       ·have hkon:=(hon k).2 h4
        have:=(hbd k b hkon ⟨_,by rw [←(hroot k hkon).2.1];exact q1,rfl⟩).1
        omega
     | _=>unfold qH at h6;exact absurd h6 (by simp)
    ·refine⟨hs'.low.os,hs'.low.tape,hs'.low.output,hs'.low.size,fun b hb hnM=>hs'.low.block b hb fun ⟨k,hk,hkb⟩=>hnM ⟨k,(hlv k).2 ((hon k).1 hk),(hfull k ((hon k).1 hk)).2,hkb⟩⟩
   ·exact hq.elim
  ·exact hq.elim
 ·cases hs
theorem FOk.no {A:gi α} {pre:α→Prop} {v:α→PV} {eff:α→AH} (hf:P.funcs[f]? =some fn) (hb:fn.body.isNone=false) (hn:(fn.name=="runtime.NumGoroutine")=false) (h : ∀a,¬pre a):FOk P f (fsp A pre v eff):=by
 refine⟨⟨fn,hf,hn,hb⟩,fun args out hs hp=>?_⟩
 unfold fsp at hs
 split at hs
 ·rename_i a ha
  cases hs
  exact absurd (hp (pre a) (by simp)) (h a)
 ·cases hs
def mN {α:Type} (A:gi α):je α:=⟨fun H l=>match H with | []=>A.rd l | _=>none,fun _=>[],A.enc,fun H l a h=>by split at h<;>first | exact⟨rfl,A.ok _ _ h⟩ | cases h⟩
end
def tyT (t:TypeId):Option TI:=if Nat.ble 344 t then none else if Nat.ble t 127 then (if Nat.ble t 24 then (if Nat.ble t 11 then (if Nat.ble t 6 then (if Nat.ble t 3 then (if Nat.ble t 2 then (if Nat.beq t 2 then some ⟨.int .i64,1,[.i .i64 0],[.i .i64]⟩ else none) else (if Nat.beq t 3 then some ⟨.int .i64,1,[.i .i64 0],[.i .i64]⟩ else none)) else (if Nat.ble t 4 then (if Nat.beq t 4 then some ⟨.bool,1,[.bf],[.b]⟩ else none) else (if Nat.ble t 5 then (if Nat.beq t 5 then some ⟨.int .u8,1,[.i .u8 0],[.i .u8]⟩ else none) else (if Nat.beq t 6 then some ⟨.int .u8,1,[.i .u8 0],[.i .u8]⟩ else none)))) else (if Nat.ble t 8 then (if Nat.ble t 7 then (if Nat.beq t 7 then some ⟨.st [(0,2),(1,3),(2,4),(3,6)],4,[.i .i64 0,.i .i64 0,.bf,.i .u8 0],[]⟩ else none) else (if Nat.beq t 8 then some ⟨.st [(0,2),(1,3),(2,4),(3,6)],4,[.i .i64 0,.i .i64 0,.bf,.i .u8 0],[]⟩ else none)) else (if Nat.ble t 9 then (if Nat.beq t 9 then some ⟨.str,1,[.s []],[.s]⟩ else none) else (if Nat.ble t 10 then (if Nat.beq t 10 then some ⟨.str,1,[.s []],[.s]⟩ else none) else (if Nat.beq t 11 then some ⟨.str,1,[.s []],[.s]⟩ else none))))) else (if Nat.ble t 16 then (if Nat.ble t 13 then (if Nat.ble t 12 then (if Nat.beq t 12 then some ⟨.int .u64,1,[.i .u64 0],[.i .u64]⟩ else none) else (if Nat.beq t 13 then some ⟨.st [(0,9),(1,12)],2,[.s [],.i .u64 0],[]⟩ else none)) else (if Nat.ble t 14 then (if Nat.beq t 14 then some ⟨.st [(0,9),(1,12)],2,[.s [],.i .u64 0],[]⟩ else none) else (if Nat.ble t 15 then (if Nat.beq t 15 then some ⟨.ptr 333,1,[.nilp],[]⟩ else none) else (if Nat.beq t 16 then some ⟨.ptr 336,1,[.nilp],[]⟩ else none)))) else (if Nat.ble t 19 then (if Nat.ble t 17 then (if Nat.beq t 17 then some ⟨.ptr 343,1,[.nilp],[]⟩ else none) else (if Nat.ble t 18 then (if Nat.beq t 18 then some ⟨.st [(0,17)],1,[.nilp],[]⟩ else none) else (if Nat.beq t 19 then some ⟨.st [(0,17)],1,[.nilp],[]⟩ else none))) else (if Nat.ble t 21 then (if Nat.beq t 21 then some ⟨.int .i32,1,[.i .i32 0],[.i .i32]⟩ else none) else (if Nat.ble t 22 then (if Nat.beq t 22 then some ⟨.sl 5,1,[.esl],[.i .u8]⟩ else none) else (if Nat.beq t 24 then some ⟨.sl 2,1,[.esl],[.i .i64]⟩ else none)))))) else (if Nat.ble t 37 then (if Nat.ble t 29 then (if Nat.ble t 26 then (if Nat.ble t 25 then (if Nat.beq t 25 then some ⟨.st [(0,9),(1,24),(2,24),(3,2)],4,[.s [],.esl,.esl,.i .i64 0],[]⟩ else none) else (if Nat.beq t 26 then some ⟨.st [(0,9),(1,24),(2,24),(3,2)],4,[.s [],.esl,.esl,.i .i64 0],[]⟩ else none)) else (if Nat.ble t 27 then (if Nat.beq t 27 then some ⟨.sl 9,1,[.esl],[.s]⟩ else none) else (if Nat.ble t 28 then (if Nat.beq t 28 then some ⟨.st [(0,27)],1,[.esl],[]⟩ else none) else (if Nat.beq t 29 then some ⟨.st [(0,27)],1,[.esl],[]⟩ else none)))) else (if Nat.ble t 32 then (if Nat.ble t 30 then (if Nat.beq t 30 then some ⟨.st [(0,2),(1,9),(2,9)],3,[.i .i64 0,.s [],.s []],[]⟩ else none) else (if Nat.ble t 31 then (if Nat.beq t 31 then some ⟨.st [(0,2),(1,9),(2,9)],3,[.i .i64 0,.s [],.s []],[]⟩ else none) else (if Nat.beq t 32 then some ⟨.st [(0,26),(4,29),(5,31),(8,2),(9,2)],10,[.s [],.esl,.esl,.i .i64 0,.esl,.i .i64 0,.s [],.s [],.i .i64 0,.i .i64 0],[]⟩ else none))) else (if Nat.ble t 33 then (if Nat.beq t 33 then some ⟨.st [(0,26),(4,29),(5,31),(8,2),(9,2)],10,[.s [],.esl,.esl,.i .i64 0,.esl,.i .i64 0,.s [],.s [],.i .i64 0,.i .i64 0],[]⟩ else none) else (if Nat.ble t 36 then (if Nat.beq t 36 then some ⟨.st [(0,2),(1,2),(2,4),(3,9)],4,[.i .i64 0,.i .i64 0,.bf,.s []],[]⟩ else none) else (if Nat.beq t 37 then some ⟨.st [(0,2),(1,2),(2,4),(3,9)],4,[.i .i64 0,.i .i64 0,.bf,.s []],[]⟩ else none))))) else (if Nat.ble t 75 then (if Nat.ble t 39 then (if Nat.ble t 38 then (if Nat.beq t 38 then some ⟨.st [(0,2),(1,2),(2,37),(6,9),(7,9),(8,2),(9,2)],10,[.i .i64 0,.i .i64 0,.i .i64 0,.i .i64 0,.bf,.s [],.s [],.s [],.i .i64 0,.i .i64 0],[]⟩ else none) else (if Nat.beq t 39 then some ⟨.st [(0,2),(1,2),(2,37),(6,9),(7,9),(8,2),(9,2)],10,[.i .i64 0,.i .i64 0,.i .i64 0,.i .i64 0,.bf,.s [],.s [],.s [],.i .i64 0,.i .i64 0],[]⟩ else none)) else (if Nat.ble t 40 then (if Nat.beq t 40 then some ⟨.st [(0,33),(10,31),(13,9),(14,27),(15,24),(16,24),(17,2),(18,2),(19,39),(29,4)],30,[.s [],.esl,.esl,.i .i64 0,.esl,.i .i64 0,.s [],.s [],.i .i64 0,.i .i64 0,.i .i64 0,.s [],.s [],.s [],.esl,.esl,.esl,.i .i64 0,.i .i64 0,.i .i64 0,.i .i64 0,.i .i64 0,.i .i64 0,.bf,.s [],.s [],.s [],.i .i64 0,.i .i64 0,.bf],[]⟩ else none) else (if Nat.ble t 41 then (if Nat.beq t 41 then some ⟨.st [(0,33),(10,31),(13,9),(14,27),(15,24),(16,24),(17,2),(18,2),(19,39),(29,4)],30,[.s [],.esl,.esl,.i .i64 0,.esl,.i .i64 0,.s [],.s [],.i .i64 0,.i .i64 0,.i .i64 0,.s [],.s [],.s [],.esl,.esl,.esl,.i .i64 0,.i .i64 0,.i .i64 0,.i .i64 0,.i .i64 0,.i .i64 0,.bf,.s [],.s [],.s [],.i .i64 0,.i .i64 0,.bf],[]⟩ else none) else (if Nat.beq t 75 then some ⟨.st [(0,27),(1,27),(2,4),(3,2)],4,[.esl,.esl,.bf,.i .i64 0],[]⟩ else none)))) else (if Nat.ble t 91 then (if Nat.ble t 76 then (if Nat.beq t 76 then some ⟨.st [(0,27),(1,27),(2,4),(3,2)],4,[.esl,.esl,.bf,.i .i64 0],[]⟩ else none) else (if Nat.ble t 87 then (if Nat.beq t 87 then some ⟨.ptr 159,1,[.nilp],[]⟩ else none) else (if Nat.beq t 91 then some ⟨.ptr 33,1,[.nilp],[]⟩ else none))) else (if Nat.ble t 94 then (if Nat.beq t 94 then some ⟨.ptr 26,1,[.nilp],[]⟩ else none) else (if Nat.ble t 111 then (if Nat.beq t 111 then some ⟨.ptr 41,1,[.nilp],[]⟩ else none) else (if Nat.beq t 127 then some ⟨.ptr 31,1,[.nilp],[]⟩ else none))))))) else (if Nat.ble t 290 then (if Nat.ble t 201 then (if Nat.ble t 171 then (if Nat.ble t 157 then (if Nat.ble t 139 then (if Nat.beq t 139 then some ⟨.ptr 29,1,[.nilp],[]⟩ else none) else (if Nat.beq t 157 then some ⟨.int .u64,1,[.i .u64 0],[.i .u64]⟩ else none)) else (if Nat.ble t 158 then (if Nat.beq t 158 then some ⟨.st [(0,22),(1,3),(2,157)],3,[.esl,.i .i64 0,.i .u64 0],[]⟩ else none) else (if Nat.ble t 159 then (if Nat.beq t 159 then some ⟨.st [(0,22),(1,3),(2,157)],3,[.esl,.i .i64 0,.i .u64 0],[]⟩ else none) else (if Nat.beq t 171 then some ⟨.arr 27 3,27,[.i .i64 0,.i .i64 0,.i .i64 0,.i .i64 0,.i .i64 0,.i .i64 0,.i .i64 0,.i .i64 0,.i .i64 0,.i .i64 0,.i .i64 0,.i .i64 0,.i .i64 0,.i .i64 0,.i .i64 0,.i .i64 0,.i .i64 0,.i .i64 0,.i .i64 0,.i .i64 0,.i .i64 0,.i .i64 0,.i .i64 0,.i .i64 0,.i .i64 0,.i .i64 0,.i .i64 0],[]⟩ else none)))) else (if Nat.ble t 175 then (if Nat.ble t 172 then (if Nat.beq t 172 then some ⟨.arr 27 3,27,[.i .i64 0,.i .i64 0,.i .i64 0,.i .i64 0,.i .i64 0,.i .i64 0,.i .i64 0,.i .i64 0,.i .i64 0,.i .i64 0,.i .i64 0,.i .i64 0,.i .i64 0,.i .i64 0,.i .i64 0,.i .i64 0,.i .i64 0,.i .i64 0,.i .i64 0,.i .i64 0,.i .i64 0,.i .i64 0,.i .i64 0,.i .i64 0,.i .i64 0,.i .i64 0,.i .i64 0],[]⟩ else none) else (if Nat.ble t 174 then (if Nat.beq t 174 then some ⟨.ptr 176,1,[.nilp],[]⟩ else none) else (if Nat.beq t 175 then some ⟨.st [(0,174),(1,22)],2,[.nilp,.esl],[]⟩ else none))) else (if Nat.ble t 176 then (if Nat.beq t 176 then some ⟨.st [(0,174),(1,22)],2,[.nilp,.esl],[]⟩ else none) else (if Nat.ble t 200 then (if Nat.beq t 200 then some ⟨.sl 211,1,[.esl],[.i .i64,.i .i64]⟩ else none) else (if Nat.beq t 201 then some ⟨.sl 3,1,[.esl],[.i .i64]⟩ else none))))) else (if Nat.ble t 240 then (if Nat.ble t 211 then (if Nat.ble t 210 then (if Nat.beq t 210 then some ⟨.st [(0,2),(1,2)],2,[.i .i64 0,.i .i64 0],[]⟩ else none) else (if Nat.beq t 211 then some ⟨.st [(0,2),(1,2)],2,[.i .i64 0,.i .i64 0],[]⟩ else none)) else (if Nat.ble t 218 then (if Nat.beq t 218 then some ⟨.sl 37,1,[.esl],[.i .i64,.i .i64,.b,.s]⟩ else none) else (if Nat.ble t 232 then (if Nat.beq t 232 then some ⟨.int .u64,1,[.i .u64 0],[.i .u64]⟩ else none) else (if Nat.beq t 240 then some ⟨.ptr 5,1,[.nilp],[]⟩ else none)))) else (if Nat.ble t 273 then (if Nat.ble t 243 then (if Nat.beq t 243 then some ⟨.ptr 39,1,[.nilp],[]⟩ else none) else (if Nat.ble t 251 then (if Nat.beq t 251 then some ⟨.sl 200,1,[.esl],[.r [.i .i64,.i .i64]]⟩ else none) else (if Nat.beq t 273 then some ⟨.int .u32,1,[.i .u32 0],[.i .u32]⟩ else none))) else (if Nat.ble t 288 then (if Nat.beq t 288 then some ⟨.st [],0,[],[]⟩ else none) else (if Nat.ble t 289 then (if Nat.beq t 289 then some ⟨.st [],0,[],[]⟩ else none) else (if Nat.beq t 290 then some ⟨.st [],0,[],[]⟩ else none)))))) else (if Nat.ble t 329 then (if Nat.ble t 313 then (if Nat.ble t 306 then (if Nat.ble t 293 then (if Nat.beq t 293 then some ⟨.arr 24 5,24,[.i .u8 0,.i .u8 0,.i .u8 0,.i .u8 0,.i .u8 0,.i .u8 0,.i .u8 0,.i .u8 0,.i .u8 0,.i .u8 0,.i .u8 0,.i .u8 0,.i .u8 0,.i .u8 0,.i .u8 0,.i .u8 0,.i .u8 0,.i .u8 0,.i .u8 0,.i .u8 0,.i .u8 0,.i .u8 0,.i .u8 0,.i .u8 0],[]⟩ else none) else (if Nat.beq t 306 then some ⟨.arr 20 157,20,[.i .u64 0,.i .u64 0,.i .u64 0,.i .u64 0,.i .u64 0,.i .u64 0,.i .u64 0,.i .u64 0,.i .u64 0,.i .u64 0,.i .u64 0,.i .u64 0,.i .u64 0,.i .u64 0,.i .u64 0,.i .u64 0,.i .u64 0,.i .u64 0,.i .u64 0,.i .u64 0],[]⟩ else none)) else (if Nat.ble t 311 then (if Nat.beq t 311 then some ⟨.st [(0,5),(1,5)],2,[.i .u8 0,.i .u8 0],[]⟩ else none) else (if Nat.ble t 312 then (if Nat.beq t 312 then some ⟨.st [(0,5),(1,5)],2,[.i .u8 0,.i .u8 0],[]⟩ else none) else (if Nat.beq t 313 then some ⟨.arr 16 312,32,[.i .u8 0,.i .u8 0,.i .u8 0,.i .u8 0,.i .u8 0,.i .u8 0,.i .u8 0,.i .u8 0,.i .u8 0,.i .u8 0,.i .u8 0,.i .u8 0,.i .u8 0,.i .u8 0,.i .u8 0,.i .u8 0,.i .u8 0,.i .u8 0,.i .u8 0,.i .u8 0,.i .u8 0,.i .u8 0,.i .u8 0,.i .u8 0,.i .u8 0,.i .u8 0,.i .u8 0,.i .u8 0,.i .u8 0,.i .u8 0,.i .u8 0,.i .u8 0],[]⟩ else none)))) else (if Nat.ble t 324 then (if Nat.ble t 322 then (if Nat.beq t 322 then some ⟨.sl 331,1,[.esl],[]⟩ else none) else (if Nat.ble t 323 then (if Nat.beq t 323 then some ⟨.arr 32 5,32,[.i .u8 0,.i .u8 0,.i .u8 0,.i .u8 0,.i .u8 0,.i .u8 0,.i .u8 0,.i .u8 0,.i .u8 0,.i .u8 0,.i .u8 0,.i .u8 0,.i .u8 0,.i .u8 0,.i .u8 0,.i .u8 0,.i .u8 0,.i .u8 0,.i .u8 0,.i .u8 0,.i .u8 0,.i .u8 0,.i .u8 0,.i .u8 0,.i .u8 0,.i .u8 0,.i .u8 0,.i .u8 0,.i .u8 0,.i .u8 0,.i .u8 0,.i .u8 0],[]⟩ else none) else (if Nat.beq t 324 then some ⟨.arr 64 5,64,[.i .u8 0,.i .u8 0,.i .u8 0,.i .u8 0,.i .u8 0,.i .u8 0,.i .u8 0,.i .u8 0,.i .u8 0,.i .u8 0,.i .u8 0,.i .u8 0,.i .u8 0,.i .u8 0,.i .u8 0,.i .u8 0,.i .u8 0,.i .u8 0,.i .u8 0,.i .u8 0,.i .u8 0,.i .u8 0,.i .u8 0,.i .u8 0,.i .u8 0,.i .u8 0,.i .u8 0,.i .u8 0,.i .u8 0,.i .u8 0,.i .u8 0,.i .u8 0,.i .u8 0,.i .u8 0,.i .u8 0,.i .u8 0,.i .u8 0,.i .u8 0,.i .u8 0,.i .u8 0,.i .u8 0,.i .u8 0,.i .u8 0,.i .u8 0,.i .u8 0,.i .u8 0,.i .u8 0,.i .u8 0,.i .u8 0,.i .u8 0,.i .u8 0,.i .u8 0,.i .u8 0,.i .u8 0,.i .u8 0,.i .u8 0,.i .u8 0,.i .u8 0,.i .u8 0,.i .u8 0,.i .u8 0,.i .u8 0,.i .u8 0,.i .u8 0],[]⟩ else none))) else (if Nat.ble t 325 then (if Nat.beq t 325 then some ⟨.ptr 331,1,[.nilp],[]⟩ else none) else (if Nat.ble t 328 then (if Nat.beq t 328 then some ⟨.arr 3 21,3,[.i .i32 0,.i .i32 0,.i .i32 0],[]⟩ else none) else (if Nat.beq t 329 then some ⟨.arr 3 21,3,[.i .i32 0,.i .i32 0,.i .i32 0],[]⟩ else none))))) else (if Nat.ble t 334 then (if Nat.ble t 331 then (if Nat.ble t 330 then (if Nat.beq t 330 then some ⟨.st [(0,273),(1,273),(2,329)],5,[.i .u32 0,.i .u32 0,.i .i32 0,.i .i32 0,.i .i32 0],[]⟩ else none) else (if Nat.beq t 331 then some ⟨.st [(0,273),(1,273),(2,329)],5,[.i .u32 0,.i .u32 0,.i .i32 0,.i .i32 0,.i .i32 0],[]⟩ else none)) else (if Nat.ble t 332 then (if Nat.beq t 332 then some ⟨.st [(0,17),(1,17),(2,17),(3,9)],4,[.nilp,.nilp,.nilp,.s []],[]⟩ else none) else (if Nat.ble t 333 then (if Nat.beq t 333 then some ⟨.st [(0,17),(1,17),(2,17),(3,9)],4,[.nilp,.nilp,.nilp,.s []],[]⟩ else none) else (if Nat.beq t 334 then some ⟨.arr 0 16,0,[],[]⟩ else none)))) else (if Nat.ble t 337 then (if Nat.ble t 335 then (if Nat.beq t 335 then some ⟨.st [(0,334)],0,[],[]⟩ else none) else (if Nat.ble t 336 then (if Nat.beq t 336 then some ⟨.st [(0,334)],0,[],[]⟩ else none) else (if Nat.beq t 337 then some ⟨.int .u8,1,[.i .u8 0],[.i .u8]⟩ else none))) else (if Nat.ble t 338 then (if Nat.beq t 338 then some ⟨.int .u8,1,[.i .u8 0],[.i .u8]⟩ else none) else (if Nat.ble t 340 then (if Nat.beq t 340 then some ⟨.int .i32,1,[.i .i32 0],[.i .i32]⟩ else none) else (if Nat.beq t 341 then some ⟨.int .i32,1,[.i .i32 0],[.i .i32]⟩ else none)))))))
def tyC (t:TypeId):Bool:=Ks t [31,37,38,39,211]
theorem Pj : ∀t,tyC t=true→Mn Tryz.prog t:=Rx [31,37,38,39,211] (by kernel_rfl)
theorem Ky : ∀t ti,tyT t=some ti→ra Tryz.prog t ti:=Rp 344 (fun t h=>if_pos h) (by kernel_rfl)
def tyI (t k:Nat):Option (FuncId×String):=
 if Nat.beq t 290 then (if Nat.beq k 27 then some (364,"loop.example/g00911/impl.at") else if Nat.beq k 30 then some (365,"loop.example/g00911/impl.cross") else none)
 else if Nat.beq t 289 then (if Nat.beq k 27 then some (362,"loop.example/g00911/impl.at") else if Nat.beq k 30 then some (363,"loop.example/g00911/impl.cross") else none)
 else none
theorem I3 (t:TypeId) (k:Nat) (g:FuncId) (s:String) (h:tyI t k=some (g,s)) (w:World):(nilAhead (Tryz.prog.types.size+Made.depth) t (.agg #[]) s).run Tryz.prog w=.ok (some false) w∧(method (Tryz.prog.types.size+Made.depth) t (.agg #[]) s).run Tryz.prog w=.ok (g,.agg #[]) w:=by
 unfold tyI at h
 split at h
 ·rename_i ht
  have ht:=Nat.eq_of_beq_eq_true ht
  subst ht
  split at h
  ·cases h;exact⟨by kernel_rfl,by kernel_rfl⟩
  ·split at h
   ·cases h;exact⟨by kernel_rfl,by kernel_rfl⟩
   ·cases h
 ·split at h
  ·rename_i ht
   have ht:=Nat.eq_of_beq_eq_true ht
   subst ht
   split at h
   ·cases h;exact⟨by kernel_rfl,by kernel_rfl⟩
   ·split at h
    ·cases h;exact⟨by kernel_rfl,by kernel_rfl⟩
    ·cases h
  ·cases h
abbrev cx (p:Pr) (F:List (FuncId×aa)) (M:List (FuncId×bX)) (n0:Nat):Cx:=⟨p,tyT,fun f=>assoc f F,fun f=>assoc f M,n0,tyC,tyI,fun _=>none,none,fun _=>false,fun _=>[]⟩
theorem ae {F:List (FuncId×aa)} {M:List (FuncId×bX)} {n0:Nat} (h:CY Tryz.prog F) (k:CH Tryz.prog M):dD Tryz.prog (cx std F M n0):=⟨rfl,Ky,h.get,k.get,Pj,(fun _ _ h=>by cases h),(fun _ h=>by cases h),I3⟩
abbrev cxN (p:Pr) (F:List (FuncId×aa)) (M:List (FuncId×bX)) (N:List (FuncId×d7)) (n0:Nat) (U:Option Uf) (Z:List Nat):Cx:=⟨p,tyT,fun f=>assoc f F,fun f=>assoc f M,n0,tyC,tyI,fun f=>yl f N,U,fun f=>Z.contains f,fun _=>[]⟩
theorem jk {F:List (FuncId×aa)} {M:List (FuncId×bX)} {N:List (FuncId×d7)} {n0:Nat} {U:Bool} {Z:List Nat} (h:CY Tryz.prog F) (k:CH Tryz.prog M) (l:HF Tryz.prog N):dD Tryz.prog (cxN std F M N n0 (if U then some dU else none) Z):=⟨rfl,Ky,h.get,k.get,Pj,l.get,fun q hq=>by cases U<;>cases hq<;>rfl,I3⟩
theorem dD.k {P:Program} {c:Cx} (h:dD P c) (K:Nat→List Nat):dD P { c with K:=K }:=⟨h.p,h.T,h.F,h.M,h.C,h.N,h.U,h.I⟩
theorem mixed:Tryz.prog.follows .mixedOrders =true:=by kernel_rfl
def bdK (b:Bd):List PV:=[.i .i64 b.size,.s b.prem,.s b.cells]
def plK (q:Pl):List PV:=[.i .i64 q.row,.i .i64 q.col,.b q.down,.s q.word]
def tsK (t:TS) (v c:PV):List PV:=[.s t.letters,v,c,.i .i64 t.blanks]
def gmK (g:Gm) (v c l r s k:PV):List PV:=
 [.s g.ts.letters,v,c,.i .i64 g.ts.blanks,l,.i .i64 g.bd0.size,.s g.bd0.prem,.s g.bd0.cells,.i .i64 g.secs,.i .i64 g.rule,.i .i64 g.bd.size,.s g.bd.prem,.s g.bd.cells,.s g.bag,r,s,k,.i .i64 g.player,.i .i64 g.zeros,
   .i .i64 g.last.kind,.i .i64 g.last.player,.i .i64 g.last.play.row,.i .i64 g.last.play.col,.b g.last.play.down,.s g.last.play.word,.s g.last.before,.s g.last.drawn,.i .i64 g.last.score,.i .i64 g.last.zeros,.b g.over]
def gmR (g:Gm):List PV:=gmK g (.rsl [.i .i64] g.ts.values) (.rsl [.i .i64] g.ts.counts) (.rsl [.s] g.lex) (.rsl [.s] g.racks) (.rsl [.i .i64] g.scores) (.rsl [.i .i64] g.clocks)
def Qn:List PV→Option Bd
 | [.i .i64 a,.s b,.s c]=>some ⟨a,b,c⟩
 | _=>none
def KQ:List PV→Option Pl
 | [.i .i64 a,.i .i64 b,.b c,.s d]=>some ⟨a,b,c,d⟩
 | _=>none
def P4:List PV→Option TS
 | [.s a,.rsl [.i .i64] v,.rsl [.i .i64] c,.i .i64 d]=>some ⟨a,v,c,d⟩
 | _=>none
def gmO:List PV→Option (Gm×List PV)
 | [.s a1,v,c,.i .i64 a2,lx,.i .i64 a3,.s a4,.s a5,.i .i64 a6,.i .i64 a7,.i .i64 a8,.s a9,.s b1,.s b2,rk,sc,ck,.i .i64 b3,.i .i64 b4,.i .i64 b5,.i .i64 b6,.i .i64 b7,.i .i64 b8,.b b9,.s c1,.s c2,.s c3,.i .i64 c4,.i .i64 c5,.b c6]=>
   some (⟨⟨a1,[],[],a2⟩,[],⟨a3,a4,a5⟩,a6,a7,⟨a8,a9,b1⟩,b2,[],[],[],b3,b4,⟨b5,b6,⟨b7,b8,b9,c1⟩,c2,c3,c4,c5⟩,c6⟩,[v,c,lx,rk,sc,ck])
 | _=>none
def Gq (g:Gm) (v c:List Int) (l r:List (List UInt8)) (s k:List Int):Gm:={ g with ts:={ g.ts with values:=v,counts:=c },lex:=l,racks:=r,scores:=s,clocks:=k }
def Dp (l:List PV):Option Gm:=match gmO l with
 | some (g,[.rsl [.i .i64] v,.rsl [.i .i64] c,.rsl [.s] lx,.rsl [.s] rk,.rsl [.i .i64] sc,.rsl [.i .i64] ck])=>some (Gq g v c lx rk sc ck)
 | _=>none
theorem M1 {l:List PV} {b:Bd} (h:Qn l=some b):l=bdK b:=by
 unfold Qn at h
 split at h
 ·cases h;rfl
 ·cases h
theorem Me {l:List PV} {b:Pl} (h:KQ l=some b):l=plK b:=by
 unfold KQ at h
 split at h
 ·cases h;rfl
 ·cases h
theorem LY {l:List PV} {t:TS} (h:P4 l=some t):l=tsK t (.rsl [.i .i64] t.values) (.rsl [.i .i64] t.counts):=by
 unfold P4 at h
 split at h
 ·cases h;rfl
 ·cases h
theorem Br {l:List PV} {g:Gm} {x:List PV} (h:gmO l=some (g,x)) : ∃v c lx rk sc ck,x=[v,c,lx,rk,sc,ck]∧l=gmK g v c lx rk sc ck:=by
 unfold gmO at h
 split at h
 ·cases h;exact⟨_,_,_,_,_,_,rfl,rfl⟩
 ·cases h
theorem FL {l:List PV} {g:Gm} (h:Dp l=some g):l=gmR g:=by
 unfold Dp at h
 split at h
 ·rename_i hg
  obtain⟨v,c,lx,rk,sc,ck,hx,rfl⟩:=Br hg
  cases hx
  cases h
  rfl
 ·cases h
@[simp] theorem iR (t:TS):TS.mk t.letters t.values t.counts t.blanks=t:=rfl
@[simp] theorem eD (b:Bd):Bd.mk b.size b.prem b.cells=b:=rfl
@[simp] theorem fV (q:Pl):Pl.mk q.row q.col q.down q.word=q:=rfl
@[simp] theorem oD (x:La):La.mk x.kind x.player x.play x.before x.drawn x.score x.zeros=x:=rfl
def aBd:gi Bd:=⟨Qn,bdK,fun _ _=>M1⟩
def aPl:gi Pl:=⟨KQ,plK,fun _ _=>Me⟩
def aTs:gi TS:=⟨P4,fun t=>tsK t (.rsl [.i .i64] t.values) (.rsl [.i .i64] t.counts),fun _ _=>LY⟩
def aGm:gi Gm:=⟨Dp,gmR,fun _ _=>FL⟩
def wN:gi (List (List UInt8)):=a1 aW
def gmH (g:Gm):AH:=[(0,.cells (gmK g (.osl 1) (.osl 2) (.osl 3) (.osl 4) (.osl 5) (.osl 6)) 41),(1,.own [.i .i64] g.ts.values 2),(2,.own [.i .i64] g.ts.counts 2),(3,.own [.s] g.lex 9),(4,.own [.s] g.racks 9),
 (5,.own [.i .i64] g.scores 2),(6,.own [.i .i64] g.clocks 2)]
def hN:Nat×Ob→Option (Nat×List Int)
 | (k,.own [.i .i64] L t)=>if Nat.beq t 2 then some (k,L) else none
 | _=>none
def hW:Nat×Ob→Option (Nat×List (List UInt8))
 | (k,.own [.s] L t)=>if Nat.beq t 9 then some (k,L) else none
 | _=>none
theorem kT {x:Nat×Ob} {k:Nat} {L:List Int} (h:hN x=some (k,L)):x=(k,.own [.i .i64] L 2):=by
 unfold hN at h
 split at h
 ·split at h
  ·rename_i ht
   cases h
   rw [Nat.eq_of_beq_eq_true ht]
  ·cases h
 ·cases h
theorem yc {x:Nat×Ob} {k:Nat} {L:List (List UInt8)} (h:hW x=some (k,L)):x=(k,.own [.s] L 9):=by
 unfold hW at h
 split at h
 ·split at h
  ·rename_i ht
   cases h
   rw [Nat.eq_of_beq_eq_true ht]
  ·cases h
 ·cases h
def hG:Nat×Ob→Option (Gm×List PV)
 | (0,.cells l t)=>if Nat.beq t 41 then gmO l else none
 | _=>none
theorem RH {x:Nat×Ob} {g:Gm} {y:List PV} (h:hG x=some (g,y)) : ∃v c lx rk sc ck,y=[v,c,lx,rk,sc,ck]∧x=(0,.cells (gmK g v c lx rk sc ck) 41):=by
 unfold hG at h
 split at h
 ·split at h
  ·rename_i ht
   obtain⟨v,c,lx,rk,sc,ck,h1,h2⟩:=Br h
   exact⟨v,c,lx,rk,sc,ck,h1,by rw [h2,Nat.eq_of_beq_eq_true ht]⟩
  ·cases h
 ·cases h
def Qy:AH→Option Gm
 | [x0,x1,x2,x3,x4,x5,x6]=>match hG x0,hN x1,hN x2,hW x3,hW x4,hN x5,hN x6 with
   | some (g,[.osl 1,.osl 2,.osl 3,.osl 4,.osl 5,.osl 6]),some (1,v),some (2,c),some (3,l),some (4,rk),some (5,sc),some (6,ck)=>some (Gq g v c l rk sc ck)
   | _,_,_,_,_,_,_=>none
 | _=>none
theorem NX {H:AH} {g:Gm} (h:Qy H=some g):H=gmH g:=by
 unfold Qy at h
 split at h
 ·split at h
  ·rename_i h0 h1 h2 h3 h4 h5 h6
   obtain⟨v,c,lx,rk,sc,ck,q1,rfl⟩:=RH h0
   cases q1
   cases h
   rw [kT h1,kT h2,yc h3,yc h4,kT h5,kT h6]
   rfl
  ·cases h
 ·cases h
def mG {β:Type} (B:gi β):je (Gm×β):=⟨fun H l=>match l with
 | .ptr 0 0::r=>hZ (Qy H) (B.rd r)
 | _=>none,fun a=>gmH a.1,fun a=>.ptr 0 0::B.enc a.2,fun H l a h=>by
   split at h
   ·obtain⟨h1,h2⟩:=mU h
    exact⟨NX h1,by rw [B.ok _ _ h2]⟩
   ·cases h⟩
def km (g:Gm):AH:=[(0,.own [.i .i64] g.ts.values 2),(1,.own [.i .i64] g.ts.counts 2),(2,.own [.s] g.lex 9),(3,.own [.s] g.racks 9),(4,.own [.i .i64] g.scores 2),(5,.own [.i .i64] g.clocks 2)]
def fe (g:Gm):List PV:=gmK g (.osl 0) (.osl 1) (.osl 2) (.osl 3) (.osl 4) (.osl 5)
set_option maxRecDepth 100000
def dJ (p:Pr):aa:=fsp (a1 aN) (fun L=>p.ltM (p.len L)) (fun L=>.osl 0) (fun L=>[(0,.own [.i .i64] L 2)])
theorem l9:FOk Tryz.prog 194 (dJ std):=by
 refine FOk.go (c:=cx std [] [] 0) (ae .nil .nil) mixed Tryz.func194 rfl rfl rfl (by kernel_rfl) ?_
 rintro L hp
 refine⟨rfl,?_⟩
 generalize hP:std=p
 cbv
 repeat' first|refine fun (_:Unit)=>?_;cbv|refine aI2 (fun h=>?_) (fun h=>?_)<;>cbv|refine aI2 ?_ ?_|refine Or.inl (fun (_:Unit)=>?_);cbv
 all_goals subst hP
 all_goals try exact fin
def kd (p:Pr):aa:=fsp (a1 aI) (fun n=>p.leP (-36000) n) (fun n=>.i .i64 (pen n))
theorem vN:FOk Tryz.prog 98 (kd std):=by
 refine FOk.go (c:=cx std [] [] 0) (ae .nil .nil) mixed Tryz.func98 rfl rfl rfl (by kernel_rfl) ?_
 rintro n hp
 refine⟨rfl,?_⟩
 generalize hP:std=p,hB0:pen=B0
 cbv
 repeat' first|refine fun (_:Unit)=>?_;cbv|refine aI2 (fun h=>?_) (fun h=>?_)<;>cbv|refine aI2 ?_ ?_|refine Or.inl (fun (_:Unit)=>?_);cbv
 all_goals subst hP hB0
 all_goals try exact fin
 ·simp [std] at h;simp [pen,h]
 ·simp [std] at h
  have h1 : ¬0≤n:=by omega
  have h2:(59-n).tdiv 60=(59-n)/60:=Int.tdiv_eq_ediv_of_nonneg (by omega)
  simp [std,pen,h1,h2]
def ba (p:Pr):aa:=fsp (ac aI (ac aI (a1 aI))) (fun (n,lo,hi)=>True) (fun (n,lo,hi)=>.b (inR n lo hi))
theorem dm:FOk Tryz.prog 89 (ba std):=by
 refine FOk.go (c:=cx std [] [] 0) (ae .nil .nil) mixed Tryz.func89 rfl rfl rfl (by kernel_rfl) ?_
 rintro ⟨n,lo,hi⟩ hp
 dsimp only at hp
 refine⟨rfl,?_⟩
 generalize hP:std=p,hB0:inR=B0
 cbv
 repeat' first|refine fun (_:Unit)=>?_;cbv|refine aI2 (fun h=>?_) (fun h=>?_)<;>cbv|refine aI2 ?_ ?_|refine Or.inl (fun (_:Unit)=>?_);cbv
 all_goals subst hP hB0
 all_goals try exact fin
 all_goals (simp [std,inR] at * <;>first | lia | (simp_all;done))
def cg (p:Pr):aa:=fsp (a1 aC) (fun n=>True) (fun n=>.b (inR n 97 122))
theorem gk:FOk Tryz.prog 236 (cg std):=by
 refine FOk.go (c:=cx std [] [] 0) (ae .nil .nil) mixed Tryz.func236 rfl rfl rfl (by kernel_rfl) ?_
 rintro n hp
 refine⟨rfl,?_⟩
 generalize hP:std=p,hB0:inR=B0
 cbv
 repeat' first|refine fun (_:Unit)=>?_;cbv|refine aI2 (fun h=>?_) (fun h=>?_)<;>cbv|refine aI2 ?_ ?_|refine Or.inl (fun (_:Unit)=>?_);cbv
 all_goals subst hP hB0
 all_goals try exact fin
 all_goals (simp [std,inR] at * <;>first | lia | (simp_all;done))
def pr (p:Pr):aa:=fsp (a1 aS) (fun s=>p.ltM (p.lenS s)) (fun s=>.b (bT s))
theorem DW:FOk Tryz.prog 293 (pr std):=by
 refine FOk.go (c:=cx std [(89,ba std),(236,cg std)] [] 0) (ae (.cons dm (.cons gk .nil)) .nil) mixed Tryz.func293 rfl rfl rfl (by kernel_rfl) ?_
 rintro s hp
 refine⟨rfl,?_⟩
 unfold ba cg
 obtain⟨H,hH⟩ : ∃H:Hd (Int),H=⟨fun k=>0≤k∧k≤s.length∧bT s=((s.drop k.toNat).all aZ&&inR s.length 1 12),fun k=>(s.length-k).toNat,(· < ·)⟩:=⟨_,rfl⟩
 have hl:=hdl hH
 generalize hP:std=p,hB0:bT=B0,hB1:inR=B1
 cbv
 repeat' first|refine fun (_:Unit)=>?_;cbv|refine Or.inr ⟨4,[],[.s 3 (.i .i64)],[],[],H,rfl,hl,?_,fun (k:Int) hk=>?_⟩<;>cbv|refine aI2 (fun h=>?_) (fun h=>?_)<;>cbv|refine aI2 ?_ ?_
 all_goals subst hP hB0 hB1 hH
 all_goals clear hl
 all_goals try dsimp only at hk
 all_goals try dsimp only
 all_goals try exact fin
 all_goals try first
  | exact⟨Int.le_refl 0,Int.natCast_nonneg _,rfl⟩
  | (simp [bT,aZ,inR];done)
  | (obtain⟨q0,q1,e⟩:=hk;refine⟨by simp [std] at *;lia,by simp [std] at *;lia,?_⟩;rw [e,dc q0 (ah ‹_›) 0];clear e;simp_all [std,bT,aZ,inR];done)
  | (obtain⟨q0,q1,e⟩:=hk;refine⟨by simp [std] at *;lia,by simp [std] at *;lia,?_⟩;rw [e,dc q0 (ah ‹_›) 0];clear e;simp_all [std,bT,aZ,inR]<;>grind;done)
  | (obtain⟨q0,q1,e⟩:=hk;rw [e,dc q0 (ah ‹_›) 0];clear e;simp_all [std,bT,aZ,inR];done)
  | (obtain⟨q0,q1,e⟩:=hk;rw [e,dc q0 (ah ‹_›) 0];clear e;simp_all [std,bT,aZ,inR]<;>grind;done)
  | (obtain⟨q0,q1,e⟩:=hk;rw [e,dn (ao ‹_›)];clear e;simp_all [std,bT,aZ,inR];done)
  | (obtain⟨q0,q1,e⟩:=hk;rw [e,dn (ao ‹_›)];clear e;simp_all [std,bT,aZ,inR]<;>grind;done)
def u8 (n:Int):UInt8:=UInt8.ofNat n.toNat
def dz:List UInt8→UInt8→Int
 | [],_=> -1
 | x::r,c=>if x=c then 0 else if dz r c<0 then -1 else dz r c+1
theorem aR {n:Nat} (h:n≤274877906944):std.ltM n:=by show (n:Int)≤274877906944;omega
theorem yq : ∀(l:List UInt8) (c:UInt8), -1≤dz l c
 | [],c=>by simp [dz]
 | x::r,c=>by have:=yq r c;unfold dz;split<;>(try split)<;>omega
theorem sM : ∀(l:List UInt8) (c:UInt8),dz l c=if jP l c<l.length then (jP l c:Int) else -1
 | [],c=>rfl
 | x::r,c=>by
   unfold dz jP
   rw [sM r c]
   by_cases h:x=c
   ·simp [h]
   ·simp only [h,if_false,beq_iff_eq,List.length_cons]
    by_cases h2:jP r c<r.length
    ·rw [if_pos h2,if_neg (by omega),if_pos (by omega)];omega
    ·rw [if_neg h2,if_pos (by omega),if_neg (by omega)]
theorem BF (t:TS) (c:UInt8):cI t c=if dz t.letters c<0 then 0 else t.values.getD (dz t.letters c).toNat 0:=by
 unfold cI
 rw [sM]
 by_cases h:jP t.letters c<t.letters.length
 ·rw [if_pos h,if_pos h,if_neg (by omega)];rfl
 ·rw [if_neg h,if_neg h,if_pos (by omega)]
theorem Gu {l:List UInt8} {k n:Int} (hn:0≤n∧n≤255):std.eqI (std.byte l k) n=true↔l.getD k.toNat 0=u8 n:=by
 show ((((l.getD k.toNat 0).toNat : Nat):Int)==n)=true↔_
 rw [beq_iff_eq]
 unfold u8
 generalize l.getD k.toNat 0=c
 constructor
 ·rintro rfl
  simp
 ·intro h
  have:=congrArg UInt8.toNat h
  simp only [UInt8.toNat_ofNat'] at this
  omega
theorem ND {l:List UInt8} {k n:Int} (hn:0≤n∧n≤255) (h:std.eqI (std.byte l k) n=false):l.getD k.toNat 0≠u8 n:=fun hh=>by rw [(Gu hn).2 hh] at h;cases h
theorem jM (l:List UInt8) (k:Int):u8 (std.byte l k)=l.getD k.toNat 0:=by simp [u8,std]
def nS (p:Pr):aa:=fsp (ac (aP aTs) (a1 aC)) (fun (t,n)=>p.ltM (p.lenS t.letters)∧p.inK .u8 n) (fun (t,n)=>.i .i64 (dz t.letters (u8 n)))
theorem AR:FOk Tryz.prog 298 (nS std):=by
 refine FOk.go (c:=cx std [] [] 0) (ae .nil .nil) mixed Tryz.func298 rfl rfl rfl (by kernel_rfl) ?_
 rintro ⟨t,n⟩ hp
 dsimp only at hp
 refine⟨rfl,?_⟩
 obtain⟨H,hH⟩ : ∃H:Hd (Int),H=⟨fun k=>0≤k∧k≤t.letters.length∧dz t.letters (u8 n)=(if dz (t.letters.drop k.toNat) (u8 n)<0 then -1 else k+dz (t.letters.drop k.toNat) (u8 n)),fun k=>(t.letters.length-k).toNat,(· < ·)⟩:=⟨_,rfl⟩
 have hl:=hdl hH
 generalize hP:std=p,hB0:dz=B0
 cbv
 repeat' first|refine fun (_:Unit)=>?_;cbv|refine Or.inr ⟨6,[],[.s 5 (.i .i64)],[],[],H,rfl,hl,?_,fun (k:Int) hk=>?_⟩<;>cbv|refine aI2 (fun h=>?_) (fun h=>?_)<;>cbv|refine aI2 ?_ ?_
 all_goals subst hP hB0 hH
 all_goals clear hl
 all_goals try dsimp only at hk
 all_goals try dsimp only
 all_goals try exact fin
 ·exact⟨Int.le_refl 0,Int.natCast_nonneg _,by have:=yq t.letters (u8 n);simp only [Int.toNat_zero,List.drop_zero];split<;>omega⟩
 ·obtain⟨q0,q1,e⟩:=hk
  rw [e,dc q0 (ah ‹_›) 0]
  simp only [dz,(Gu hp.2).1 h,if_true]
  simp
 ·obtain⟨q0,q1,e⟩:=hk
  refine⟨by simp [std] at *;lia,by simp [std] at *;lia,?_⟩
  rw [e,dc q0 (ah ‹_›) 0]
  have:=yq (t.letters.drop (k+1).toNat) (u8 n)
  simp only [dz,ND hp.2 h,if_false,Qo]
  split<;>split<;>omega
 ·obtain⟨q0,q1,e⟩:=hk
  rw [e,dn (ao ‹_›)]
  simp [dz]
def cU (p:Pr):aa:=fsp (ac (aP aTs) (a1 aC)) (fun (t,n)=>p.inK .u8 n∧er t) (fun (t,n)=>.i .i64 (cI t (u8 n)))
theorem jL:FOk Tryz.prog 253 (cU std):=by
 refine FOk.go (c:=cx std [(298,nS std)] [] 0) (ae (.cons AR .nil) .nil) mixed Tryz.func253 rfl rfl rfl (by kernel_rfl) ?_
 rintro ⟨t,n⟩ hp
 dsimp only at hp
 refine⟨rfl,?_⟩
 unfold nS
 generalize hP:std=p,hB0:dz=B0,hB1:cI=B1,hB2:u8=B2
 cbv
 repeat' first|refine fun (_:Unit)=>?_;cbv|refine aI2 (fun h=>?_) (fun h=>?_)<;>cbv|refine aI2 ?_ ?_|refine Or.inl (fun (_:Unit)=>?_);cbv
 all_goals subst hP hB0 hB1 hB2
 all_goals try exact fin
 ·exact aR (Nat.le_trans hp.2.len (by decide))
 ·have h1:dz t.letters (u8 n)<0:=ah ‹_›
  rw [BF,if_pos h1]
 ·have h1:=ao ‹_›
  have h2:=sM t.letters (u8 n)
  have h3:=hp.2.vals
  refine⟨h1,?_⟩
  show dz t.letters (u8 n)<((t.values.length:Nat):Int)
  rw [h2] at h1 ⊢
  split at h1<;>omega
 ·have h1:0≤dz t.letters (u8 n):=ao ‹_›
  rw [BF,if_neg (by omega)];rfl
def pB (p:Pr):aa:=fsp (ac (aP aTs) (a1 aS)) (fun (t,s)=>er t∧p.ltM (p.lenS s)) (fun (t,s)=>.i .i64 (dB t s))
theorem C8:FOk Tryz.prog 191 (pB std):=by
 refine FOk.go (c:=cx std [(253,cU std)] [] 0) (ae (.cons jL .nil) .nil) mixed Tryz.func191 rfl rfl rfl (by kernel_rfl) ?_
 rintro ⟨t,s⟩ hp
 dsimp only at hp
 refine⟨rfl,?_⟩
 unfold cU
 obtain⟨H,hH⟩ : ∃H:Hd (Int×Int),H=⟨fun (m,k)=>0≤k∧k≤s.length∧dB t s=m+dB t (s.drop k.toNat)∧0≤m∧m≤20*k,fun (m,k)=>(s.length-k).toNat,(· < ·)⟩:=⟨_,rfl⟩
 have hl:=hdl hH
 generalize hP:std=p,hB0:cI=B0,hB1:dB=B1,hB2:u8=B2
 cbv
 repeat' first|refine fun (_:Unit)=>?_;cbv|refine Or.inr ⟨7,[],[.s 5 (.i .i64),.s 6 (.i .i64)],[],[],H,rfl,hl,?_,fun ((m,k):Int×Int) hk=>?_⟩<;>cbv|refine aI2 (fun h=>?_) (fun h=>?_)<;>cbv|refine aI2 ?_ ?_
 all_goals subst hP hB0 hB1 hB2 hH
 all_goals clear hl
 all_goals try dsimp only at hk
 all_goals try dsimp only
 all_goals try exact fin
 ·obtain⟨q0,q1,e,q2,q3⟩:=hk
  have h1:=ah h
  have h2:=hp.1.lo (u8 (std.byte s k))
  have h3:=hp.1.hi (u8 (std.byte s k))
  exact an (by simp [std] at *;lia)
 ·obtain⟨q0,q1,e,q2,q3⟩:=hk
  have h1:=ah h
  have h2:=hp.1.lo (u8 (std.byte s k))
  have h3:=hp.1.hi (u8 (std.byte s k))
  refine⟨by simp [std] at *;lia,by simp [std] at *;lia,?_,by simp [std] at *;lia,by simp [std] at *;lia⟩
  rw [e,dc q0 h1 0,jM]
  simp [dB,Int.add_assoc]
 ·obtain⟨q0,q1,e,q2,q3⟩:=hk
  rw [e,dn (ao h)]
  simp [dB]
def yM (n:Int) (c:UInt8):List UInt8:=List.replicate n.toNat c
theorem JU {n m:Int} {c:Int} (h:0<m) (h2:m≤n):List.replicate (n-max m 0).toNat c++[c]=List.replicate (n-max (m-1) 0).toNat c:=by
 rw [show (n-max (m-1) 0).toNat =(n-max m 0).toNat + 1 from by omega,List.replicate_succ']
theorem NF {n m c:Int} (h:m≤0):std.toS (List.replicate (n-max m 0).toNat c)=yM n (u8 c):=by
 have h1:n-max m 0=n:=by omega
 rw [h1]
 unfold yM u8
 show fZ (List.replicate n.toNat c)=_
 unfold fZ
 rw [List.map_replicate]
def fq (p:Pr):aa:=fsp (ac aC (a1 aI)) (fun (c,n)=>p.leP n 200∧p.inK .u8 c) (fun (c,n)=>.s (yM n (u8 c)))
theorem pK:FOk Tryz.prog 158 (fq std):=by
 refine FOk.go (c:=cx std [] [] 0) (ae .nil .nil) mixed Tryz.func158 rfl rfl rfl (by kernel_rfl) ?_
 rintro ⟨c,n⟩ hp
 dsimp only at hp
 refine⟨rfl,?_⟩
 obtain⟨H,hH⟩ : ∃H:Hd (Int×List Int),H=⟨fun (m,L)=>m≤n∧L=List.replicate (n-max m 0).toNat c,fun (m,L)=>m.toNat,(· < ·)⟩:=⟨_,rfl⟩
 have hl:=hdl hH
 generalize hP:std=p,hB0:yM=B0,hB1:u8=B1
 cbv
 repeat' first|refine fun (_:Unit)=>?_;cbv|refine Or.inr ⟨7,[],[.s 1 (.i .i64),.o 0 [.i .u8]],[.s 5],[],H,rfl,hl,?_,fun ((m,L):Int×List Int) hk=>?_⟩<;>cbv|refine aI2 (fun h=>?_) (fun h=>?_)<;>cbv|refine aI2 ?_ ?_
 all_goals subst hP hB0 hB1 hH
 all_goals clear hl
 all_goals try dsimp only at hk
 all_goals try dsimp only
 all_goals try exact fin
 ·simp [std,hk.2] at *;lia
 ·exact⟨by simp [std] at *;lia,by rw [hk.2];exact JU (ah h) hk.1⟩
 ·have:=ao h
  obtain⟨q0,rfl⟩:=hk
  exact NF this
def pO (p:Pr):aa:=fsp (a1 (aP aTs)) (fun t=>p.ltM (p.len t.values)∧p.ltM (p.len t.counts)) (fun t=>.agg (tsK t (.osl 0) (.osl 1))) (fun t=>[(0,.own [.i .i64] t.values 2),(1,.own [.i .i64] t.counts 2)])
theorem D2:FOk Tryz.prog 175 (pO std):=by
 refine FOk.go (c:=cx std [(194,dJ std)] [] 0) (ae (.cons l9 .nil) .nil) mixed Tryz.func175 rfl rfl rfl (by kernel_rfl) ?_
 rintro t hp
 refine⟨rfl,?_⟩
 unfold dJ
 generalize hP:std=p
 cbv
 repeat' first|refine fun (_:Unit)=>?_;cbv|refine aI2 (fun h=>?_) (fun h=>?_)<;>cbv|refine aI2 ?_ ?_|refine Or.inl (fun (_:Unit)=>?_);cbv
 all_goals subst hP
 all_goals try exact fin
def Jp (t:TS) (k:Int):List UInt8:=lN (t.letters.drop k.toNat) (t.counts.drop k.toNat)
theorem HV {t:TS} {k:Int} (h0:0≤k) (h:k<t.letters.length) (h2:t.counts.length=t.letters.length):Jp t k=yM (t.counts.getD k.toNat 0) (t.letters.getD k.toNat 0)++Jp t (k+1):=by
 unfold Jp
 rw [dc h0 h 0,dc (L:=t.counts) h0 (by omega) 0]
 rfl
structure MM (t:TS):Prop where
 ok:er t
 bl:t.blanks≤4
 hi : ∀k:Nat,t.counts.getD k 0≤20
theorem xG (n:Int) (c:UInt8) (h:n≤20):(yM n c).length ≤20:=by simp [yM];omega
def dP (p:Pr):aa:=fsp (a1 (aP aTs)) (fun t=>MM t) (fun t=>.s (bW t))
theorem lY:FOk Tryz.prog 65 (dP std):=by
 refine FOk.go (c:=cx std [(158,fq std)] [] 0) (ae (.cons pK .nil) .nil) mixed Tryz.func65 rfl rfl rfl (by kernel_rfl) ?_
 rintro t hp
 refine⟨rfl,?_⟩
 unfold fq
 obtain⟨H,hH⟩ : ∃H:Hd (List UInt8×Int),H=⟨fun (s,k)=>0≤k∧k≤t.letters.length∧bW t=s++Jp t k∧(s.length:Int)≤20+20*k,fun (s,k)=>(t.letters.length-k).toNat,(· < ·)⟩:=⟨_,rfl⟩
 have hl:=hdl hH
 generalize hP:std=p,hB0:bW=B0,hB1:yM=B1,hB2:u8=B2
 cbv
 repeat' first|refine fun (_:Unit)=>?_;cbv|refine Or.inr ⟨10,[],[.s 3 .s,.s 4 (.i .i64)],[],[],H,rfl,hl,?_,fun ((s,k):List UInt8×Int) hk=>?_⟩<;>cbv|refine aI2 (fun h=>?_) (fun h=>?_)<;>cbv|refine aI2 ?_ ?_
 all_goals subst hP hB0 hB1 hB2 hH
 all_goals clear hl
 all_goals try dsimp only at hk
 all_goals try dsimp only
 all_goals try exact fin
 ·exact Int.le_trans hp.bl (by decide)
 ·refine⟨Int.le_refl 0,Int.natCast_nonneg _,rfl,?_⟩
  have:=xG t.blanks (u8 63) (Int.le_trans hp.bl (by decide))
  show (((yM t.blanks (u8 63)).length : Nat):Int)≤_
  omega
 ·exact⟨hk.1,by have:=hp.ok.cnts;have:=ah h;simp [std] at *;lia⟩
 ·exact Int.le_trans (hp.hi k.toNat) (by decide)
 ·have h1:=xG _ (u8 (std.byte t.letters k)) (hp.hi k.toNat)
  have h2:=hp.ok.len
  have h3:=ah h
  exact an (by simp [std] at *;lia)
 ·have h2:=hp.ok.len
  have h3:=ah h
  exact an (by simp [std] at *;lia)
 ·obtain⟨q0,q1,e,q2⟩:=hk
  have h1:=xG _ (u8 (std.byte t.letters k)) (hp.hi k.toNat)
  have h3:=ah h
  refine⟨by simp;omega,by simp [std] at *;lia,?_,by simp [std] at *;lia⟩
  rw [e,HV q0 h3 hp.ok.cnts,jM]
  simp
 ·obtain⟨q0,q1,e,q2⟩:=hk
  rw [e]
  unfold Jp
  rw [dn (ao h)]
  exact (List.append_nil s).symm
theorem ir (c:UInt8):aZ c=inR (c.toNat:Int) 97 122:=rfl
theorem pJ (c:UInt8):kw c=inR (c.toNat:Int) 65 90:=rfl
theorem iG {c:UInt8} {n:Nat} (h:n<256):(c==UInt8.ofNat n)=((c.toNat:Int)==(n:Int)):=by
 rw [Bool.eq_iff_iff,beq_iff_eq,beq_iff_eq,←UInt8.toNat_inj,UInt8.toNat_ofNat',Nat.mod_eq_of_lt h]
 omega
theorem e8 (c:UInt8):aK c=((c.toNat:Int)==63||inR (c.toNat:Int) 97 122):=by
 unfold aK
 rw [show (63:UInt8)=UInt8.ofNat 63 from rfl,iG (by decide),ir]
 rfl
theorem wP (a b:UInt8):leB a b=decide ((a.toNat:Int)≤b.toNat):=by unfold leB;simp
def iI (p:Pr):aa:=fsp (a1 aC) (fun n=>True) (fun n=>.b (n==63||inR n 97 122))
theorem sw:FOk Tryz.prog 174 (iI std):=by
 refine FOk.go (c:=cx std [(236,cg std)] [] 0) (ae (.cons gk .nil) .nil) mixed Tryz.func174 rfl rfl rfl (by kernel_rfl) ?_
 rintro n hp
 refine⟨rfl,?_⟩
 unfold cg
 generalize hP:std=p,hB0:inR=B0
 cbv
 repeat' first|refine fun (_:Unit)=>?_;cbv|refine aI2 (fun h=>?_) (fun h=>?_)<;>cbv|refine aI2 ?_ ?_|refine Or.inl (fun (_:Unit)=>?_);cbv
 all_goals subst hP hB0
 all_goals try exact fin
def cm (p:Pr):aa:=fsp (a1 aC) (fun n=>True) (fun n=>.b (inR n 65 90))
theorem gA:FOk Tryz.prog 219 (cm std):=by
 refine FOk.go (c:=cx std [] [] 0) (ae .nil .nil) mixed Tryz.func219 rfl rfl rfl (by kernel_rfl) ?_
 rintro n hp
 refine⟨rfl,?_⟩
 generalize hP:std=p,hB0:inR=B0
 cbv
 repeat' first|refine fun (_:Unit)=>?_;cbv|refine aI2 (fun h=>?_) (fun h=>?_)<;>cbv|refine aI2 ?_ ?_|refine Or.inl (fun (_:Unit)=>?_);cbv
 all_goals subst hP hB0
 all_goals try exact fin
 all_goals (simp [std,inR] at * <;>first | lia | (simp_all;done))
def zr (s:List UInt8) (k:Int):Bool:=dt (if k≤0 then none else some (s.getD (k-1).toNat 0)) (s.drop k.toNat)
theorem nz {s:List UInt8} {k:Int} (h0:0≤k) (h:k<s.length):zr s k=(aK (s.getD k.toNat 0)&&((decide (k≤0)||leB (s.getD (k-1).toNat 0) (s.getD k.toNat 0))&&zr s (k+1))):=by
 unfold zr
 rw [dc h0 h 0,if_neg (show ¬k+1≤0 by omega),show k+1-1=k from by omega]
 by_cases hk:k≤0
 ·simp [hk,dt]
 ·simp [hk,dt,Bool.and_assoc]
theorem zo {s:List UInt8} {k:Int} (h:(s.length:Int)≤k):zr s k=true:=by unfold zr;rw [dn h];cases (if k≤0 then none else some (s.getD (k-1).toNat 0))<;>rfl
def bU (p:Pr):aa:=fsp (a1 aS) (fun s=>p.ltM (p.lenS s)) (fun s=>.b (cu s))
theorem fI:FOk Tryz.prog 106 (bU std):=by
 refine FOk.go (c:=cx std [(174,iI std)] [] 0) (ae (.cons sw .nil) .nil) mixed Tryz.func106 rfl rfl rfl (by kernel_rfl) ?_
 rintro s hp
 refine⟨rfl,?_⟩
 unfold iI
 obtain⟨H,hH⟩ : ∃H:Hd (Int),H=⟨fun k=>0≤k∧k≤s.length∧cu s=(zr s k&&decide (s.length≤120)),fun k=>(s.length-k).toNat,(· < ·)⟩:=⟨_,rfl⟩
 have hl:=hdl hH
 generalize hP:std=p,hB0:cu=B0,hB1:inR=B1
 cbv
 repeat' first|refine fun (_:Unit)=>?_;cbv|refine Or.inr ⟨4,[],[.s 3 (.i .i64)],[],[],H,rfl,hl,?_,fun (k:Int) hk=>?_⟩<;>cbv|refine aI2 (fun h=>?_) (fun h=>?_)<;>cbv|refine aI2 ?_ ?_
 all_goals subst hP hB0 hB1 hH
 all_goals clear hl
 all_goals try dsimp only at hk
 all_goals try dsimp only
 all_goals try exact fin
 all_goals try first
  | exact⟨Int.le_refl 0,Int.natCast_nonneg _,rfl⟩
  | (simp [cu,e8,wP];done)
  | (obtain⟨q0,q1,e⟩:=hk;refine⟨by simp [std] at *;lia,by simp [std] at *;lia,?_⟩;rw [e,nz q0 (ah ‹_›)];clear e;simp_all [std,cu,e8,wP];done)
  | (obtain⟨q0,q1,e⟩:=hk;refine⟨by simp [std] at *;lia,by simp [std] at *;lia,?_⟩;rw [e,nz q0 (ah ‹_›)];clear e;simp_all [std,cu,e8,wP]<;>grind;done)
  | (obtain⟨q0,q1,e⟩:=hk;rw [e,nz q0 (ah ‹_›)];clear e;simp_all [std,cu,e8,wP];done)
  | (obtain⟨q0,q1,e⟩:=hk;rw [e,nz q0 (ah ‹_›)];clear e;simp_all [std,cu,e8,wP]<;>grind;done)
  | (obtain⟨q0,q1,e⟩:=hk;rw [e,zo (ao ‹_›)];clear e;simp_all [std,cu,e8,wP];done)
  | (obtain⟨q0,q1,e⟩:=hk;rw [e,zo (ao ‹_›)];clear e;simp_all [std,cu,e8,wP]<;>grind;done)
end Ax
end Go.Proofs.YtjjonmhpgkahoaaGreatDoor
