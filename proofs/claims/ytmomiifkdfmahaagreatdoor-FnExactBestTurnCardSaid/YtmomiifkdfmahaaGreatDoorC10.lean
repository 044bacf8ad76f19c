/-
  The plain walker: functions; The plain walker: tables of types, checked by reckoning; tables of functions; The plain walker: what a function is given and what it yields, told by plain things; What a law is handed, as plain values: by the table of types.
  Conditions: as each part below says.
-/
import Derived.Test.YtmomiifkdfmahaaGreatDoorC09
import Derived.ProofKit
import Derived.Lay
import Derived.Carry
import Derived.ChangeArms
import Derived.Deep.Slices
import Derived.Lib.SmallJoins
import Derived.WideShapes
set_option linter.unusedSimpArgs false
set_option linter.unusedVariables false
namespace Go.Proofs.YtmomiifkdfmahaaGreatDoor
namespace Ax
open Go.RowKit
def res1 (c:Cx) (st:AS):ResultVar→Option PV
 | .tmp t=>some (st.tm.getD t .dead)
 | .cell a ty=>match c.T ty,st.tm.getD a .dead with
   | some ti,.ptr id off=>match st.h.get id with
     | some (.cells l _)=>ldC ti l off
     | some (.arr k (some n) L _)=>match off,arrOf c ty with
       | 0,some (m,_)=>if Nat.beq n m then some (.arr k n L) else none
       | _,_=>none
     | _=>none
   | _,_=>none
def resL (c:Cx) (st:AS):List ResultVar→Option (List PV)
 | []=>some []
 | r::rs=>match res1 c st r,resL c st rs with
   | some v,some l=>some (v::l)
   | _,_=>none
def tupOf:List PV→PV
 | [v]=>v
 | l=>.tup l
def full (h:AH) (n:Nat):Bool:=(List.range n).all fun k=>(h.get k).isSome
def retP (c:Cx) (st:AS) (l:List PV) (out:Out) (ρ:List Nat):Prop:=(keep c.n0 ρ&&chk ρ out.eff ρ.length&&(full out.eff ρ.length&&out.v.idIn (List.range ρ.length)))=true∧obs ρ st.h out.eff (sameV (tupOf l) (out.v.rn (look ρ)))
def retQ (c:Cx) (rs:List ResultVar) (out:Out):AEx→AS→Prop
 | .exit _,_=>False
 | _,st=>match resL c st rs with
   | some l=>retP c st l out (reach st.h 60 (List.range c.n0++idsL l) [])
   | none=>False
mutual
theorem rn_id : ∀p:PV,p.rn id=p
 | .bt | .bf | .b _ | .nb _ | .i _ _ | .s _ | .nilp | .esl | .rsl _ _ | .arr _ _ _ | .nx _ _ | .raw _ | .dead =>by unfold PV.rn;rfl
 | .ptr _ _=>by unfold PV.rn;rfl
 | .osl _=>by unfold PV.rn;rfl
 | .eptr _ _ _ _=>by unfold PV.rn;rfl
 | .osub _ _=>by unfold PV.rn;rfl
 | .rptr l o=>by unfold PV.rn;rw [rnL_id l]
 | .agg l=>by unfold PV.rn;rw [rnL_id l]
 | .tup l=>by unfold PV.rn;rw [rnL_id l]
 | .fn f l=>by unfold PV.rn;rw [rnL_id l]
theorem rnL_id : ∀l:List PV,rnL id l=l
 | []=>by unfold rnL;rfl
 | p::ps=>by unfold rnL;rw [rn_id p,rnL_id ps]
end
section
variable {P:Program} {c:Cx} {w w0:World} {e:Env} {fz:Nat→Prop} {M:Root} {st:AS} {a:Act}
def rv (tmps:Array Value):ResultVar→Sem Value
 | .tmp t=>pure (tmps.getD t undef)
 | .cell x t=>do loadVar t (←asAddr (tmps.getD x undef))
theorem results_eq (fn:Func) (tmps:Array Value):results fn tmps=(do let vs ←fn.results.mapM (rv tmps);pure (if h:vs.size=1 then vs[0] else .tuple vs)):=by
 unfold results
 congr 2
theorem res_run (hc:CxOk P c) (hs:SR w0 fz M st a w e) : ∀(rs:List ResultVar) (l:List PV),resL c st rs=some l→∃vs:List Value,
 (rs.mapM (rv a.tmps)).run P w=.ok vs w∧Rs w e l vs
 | [],l,h=>by
   simp only [resL,Option.some.injEq] at h
   subst h
   exact⟨[],rfl,by unfold Rs;rfl⟩
 | r::rs,l,h=>by
   unfold resL at h
   split at h
   ·rename_i v l' hv hl
    cases h
    obtain⟨vs,h1,h2⟩:=res_run hc hs rs l' hl
    have h3 : ∃u,(rv a.tmps r).run P w=.ok u w∧R w e v u:=by
     unfold res1 at hv
     split at hv
     ·rename_i t
      cases hv
      exact⟨_,rfl,ev_R hs.tm (.tmp t)⟩
     ·rename_i x ty
      split at hv
      ·rename_i ti id off ht hx
       split at hv
       ·rename_i lc ty' hg
        have hx':=ev_R hs.tm (.tmp x)
        change R w e (st.tm.getD x .dead) (a.tmps.getD x undef) at hx'
        rw [hx] at hx'
        unfold R at hx'
        obtain⟨-,b,h4,h5⟩:=hx'
        obtain⟨⟨b',cs,h6,h7,h8,h9⟩, -⟩:=hs.ob _ _ hg
        rw [h4] at h6
        cases h6
        obtain⟨u,h10,h11⟩:=load_at (hc.T ty ti ht) h9 (at_row h8) hv
        rw [Nat.zero_add] at h10
        exact⟨u,by show (do loadVar ty (←asAddr (a.tmps.getD x undef)):Sem Value).run P w=_;rw [h5];simp [asAddr,h10],h11⟩
       ·rename_i k n L ty' hg
        have hx':=ev_R hs.tm (.tmp x)
        change R w e (st.tm.getD x .dead) (a.tmps.getD x undef) at hx'
        rw [hx] at hx'
        unfold R at hx'
        obtain⟨-,b,h4,h5⟩:=hx'
        split at hv
        ·rename_i m k' hm
         split at hv
         ·rename_i hnm
          have hnm:=Nat.eq_of_beq_eq_true hnm
          subst hnm
          cases hv
          obtain⟨ti',te,ht',hn,hke,hzl,hza,hu,hag⟩:=arrOf_ok hc hm
          rw [ht] at ht'
          cases ht'
          obtain⟨⟨hfl,h0,b',vs,fr,h3,h4',h6,h7,h8,h8',h9,h10⟩, -⟩:=hs.ob _ _ hg
          rw [h4] at h3
          cases h3
          obtain⟨q1,q2⟩:=h9 n rfl
          obtain⟨r1,r2⟩:=arr_at (e:=e) hfl h6 h10
          obtain⟨u,hu',hR⟩:=load_at (off:=0) (hc.T ty _ ht) r1 r2 (p:=.agg (L.map k.pv)) (by
           unfold ldC
           simp [hn,hag,q1,List.take_of_length_le])
          rw [Nat.zero_add] at hu'
          refine⟨u,by show (do loadVar ty (←asAddr (a.tmps.getD x undef)):Sem Value).run P w=_;rw [h5];simp [asAddr,hu'],?_⟩
          unfold R at hR ⊢
          obtain⟨vs',rfl,h12⟩:=hR
          refine⟨hfl,q1,?_⟩
          rw [←(pvs_val hfl).1 h12]
         ·cases hv
        ·cases hv
       ·cases hv
      ·cases hv
    obtain⟨u,h4,h5⟩:=h3
    refine⟨u::vs,?_,by unfold Rs;exact⟨u,vs,rfl,h5,h2⟩⟩
    rw [List.mapM_cons,Sem.run_bind,h4,Result.andThen_ok,Sem.run_bind,h1]
    rfl
   ·cases h
theorem results_run (hc:CxOk P c) (hs:SR w0 fz M st a w e) {fn:Func} {l:List PV} (h:resL c st fn.results.toList=some l) : ∃v,(results fn a.tmps).run P w=.ok v w∧R w e (tupOf l) v:=by
 obtain⟨vs,h1,h2⟩:=res_run hc hs _ _ h
 have hlen:=Rs_length h2
 have key:(results fn a.tmps).run P w=.ok (if h:vs.toArray.size=1 then vs.toArray[0] else .tuple vs.toArray) w:=by
  rw [results_eq,Array.mapM_eq_mapM_toList,Sem.run_bind,Sem.run_map,h1]
  rfl
 refine⟨_,key,?_⟩
 unfold tupOf
 split
 ·rename_i v
  unfold Rs at h2
  obtain⟨u,us,rfl,h4,h5⟩:=h2
  unfold Rs at h5
  subst h5
  exact h4
 ·rename_i hne
  rw [dif_neg]
  ·unfold R;exact⟨_,rfl,by simpa using h2⟩
  ·intro h1
   have : l.length=1:=by rw [←hlen];simpa using h1
   obtain⟨v,rfl⟩:=List.length_eq_one_iff.1 this
   exact hne v rfl
theorem run_awp (hc:CxOk P c) (hm:P.follows .mixedOrders =true) {f:FuncId} {fn:Func} {body:Code} (hf:P.funcs[f]? =some fn) (hb:fn.body=some body) (hck:codeOk body=true) {H:AH} {args:List PV} {out:Out} (hn0:c.n0=H.length)
 {e:Env} {vals:Array Value} (hz:FzW w e.fz) (hob : ∀id o,H.get id=some o→OR w e id o∧e.on id) (hon : ∀k,e.on k↔k<H.length) (hlv : ∀k,e.lv k↔k<H.length) (hbd : ∀k b,e.on k→e.blk k b→b<w.heap.size∧¬e.fz b)
 (hdis : ∀k k' b,e.on k→e.on k'→e.blk k b→e.blk k' b→k=k') (hl0:Rs w e args vals.toList)
 (h2:awp c body (retQ c fn.results.toList out) ⟨args++List.replicate (fn.ntmps-args.length) .dead,H,H.length⟩):Calls P f vals w fun en w'=>∃v e',en=.returned v∧Post w w' e e' H.length out v:=by
 have hlen:=Rs_length hl0
 obtain⟨M,hM⟩ : ∃M:Root,M=⟨fun b=>∃k,e.on k∧e.blk k b,H.length,e,[]⟩:=⟨_,rfl⟩
 have hlo : ∀k,e.lv k→e.on k:=fun k hk=>(hon k).2 ((hlv k).1 hk)
 have hMn:M.n=c.n0:=by rw [hM,hn0]
 have hsr:SR w e.fz M ⟨args++List.replicate (fn.ntmps-args.length) .dead,H,H.length⟩ { tmps:=vals++Array.replicate (fn.ntmps-vals.size) undef,defers:=[] } w e:=by
  have hsz:vals.size=args.length:=by rw [←hlen];simp
  refine⟨by simp [hsz],fun t p hp=>?_,fun id o h=>⟨(hob id o h).1,(hob id o h).2,fun _=>(hlv id).2 ((hon id).1 (hob id o h).2)⟩,hlo,fun id hid=>(hon id).1 hid,fun k k' b hk hk'=>hdis k k' b (hlo k hk) (hlo k' hk'),fun k b hk hb=>⟨.inr (by subst hM;exact⟨k,hlo k hk,hb⟩),(hbd k b (hlo k hk) hb).1⟩,⟨fun _ h=>h,fun _ h=>.inl h,fun k b hk hb=>(hbd k b (hlo k hk) hb).2⟩,⟨fun b hb=>⟨hz.lt b hb,by subst hM;rintro ⟨k,hk,hkb⟩;exact (hbd k b hk hkb).2 hb⟩,hz.gl⟩,Chg.refl _ _,by subst hM;exact fun k _ hk=>⟨hk,rfl,rfl,rfl⟩,by subst hM;rfl⟩
  rw [List.getElem?_append] at hp
  split at hp
  ·rename_i ht
   obtain⟨u,h4,h5⟩:=Rs_get hl0 hp
   have : (vals++Array.replicate (fn.ntmps-vals.size) undef).getD t undef=u:=by
    rw [Array.getD_eq_getD_getElem?,Array.getElem?_append_left (by rw [hsz];exact ht)]
    have : vals[t]? =some u:=by simpa using h4
    rw [this];rfl
   show R w _ p ((vals++Array.replicate (fn.ntmps-vals.size) undef).getD t undef)
   rw [this]
   exact h5
  ·rw [List.getElem?_replicate] at hp
   split at hp
   ·cases hp;unfold R;trivial
   ·cases hp
 refine calls_of_wp hf hb (wp_mono (awp_ok hc hm hMn body hck _ _ _ w _ h2 hsr) ?_)
 have fin : ∀st e1 a' w',SR w e.fz M st a' w' e1→retQ c fn.results.toList out .ret st→a'.defers=[]∧∃v,(results fn a'.tmps).run P w'=.ok v w'∧∃v' e',Ending.returned v=.returned v'∧Post w w' e e' H.length out v':=by
  intro st e1 a' w' hs' hq
  unfold retQ at hq
  simp only at hq
  split at hq
  ·rename_i l hlr
   obtain⟨hck1,hobs⟩:=hq
   generalize reach st.h 60 (List.range c.n0++idsL l) []=ρ at hck1 hobs
   obtain⟨v,hv1,hv2⟩:=results_run hc hs' hlr
   simp only [keep,chk,Bool.and_eq_true,List.all_eq_true,Nat.blt_eq,Nat.ble_eq,List.mem_range] at hck1
   obtain⟨⟨⟨hkn,hkeep⟩,hnd, -,hob1⟩,hfull,hvin⟩:=hck1
   rw [hn0] at hkn hkeep
   have hkeep : ∀k,k<H.length→look ρ k=k:=fun k hk=>Nat.eq_of_beq_eq_true (hkeep k hk)
   obtain⟨hsame,hob2⟩:=obs_mem hobs
   have hrn:=e1.rn_ok (look ρ) ρ.length
   unfold full at hfull
   rw [List.all_eq_true] at hfull
   have hfull : ∀k,k<ρ.length→(out.eff.get k).isSome =true:=fun k hk=>hfull k (List.mem_range.2 hk)
   have hroot : ∀k,e.on k→e1.on k∧e1.adr k=e.adr k∧e1.cap k=e.cap k∧e1.len k=e.len k:=fun k hk=>by
    have:=hs'.root k
    subst hM
    exact this ((hon k).1 hk) hk
   have hst : ∀k,e.on k→k<ρ.length∧look ρ k=k:=fun k hk=>⟨Nat.lt_of_lt_of_le ((hon k).1 hk) hkn,hkeep k ((hon k).1 hk)⟩
   refine⟨by have:=hs'.defers;subst hM;exact this,v,hv1,v,e1.rn (look ρ) ρ.length,rfl,?_,?_,⟨fun b hb=>hs'.ez.sup b hb,fun k b hk _ hb hf=>absurd hf (hs'.ez.nf (look ρ k) b hk.2 hb)⟩,?_,?_,?_,?_,?_,?_⟩
   ·exact R_rn hrn _ _ hvin (same_R _ _ _ hsame hv2)
   ·refine⟨fun k hk=>⟨(hst k hk).1,by rw [(hst k hk).2];exact (hroot k hk).1⟩,fun k hk=>?_,fun k hk=>?_,fun k hk=>?_,fun b hb=>hs'.ez.sub b hb⟩
    ·show e1.adr (look ρ k)=_;rw [(hst k hk).2];exact (hroot k hk).2.1
    ·show e1.cap (look ρ k)=_;rw [(hst k hk).2];exact (hroot k hk).2.2.1
    ·show e1.len (look ρ k)=_;rw [(hst k hk).2];exact (hroot k hk).2.2.2
   ·intro k o hk
    have hmem:=get_mem hk
    obtain⟨h4,h5⟩:=hob1 _ hmem
    obtain⟨x,hx,hxo⟩:=hob2 _ hmem
    obtain⟨h6,h7,h8⟩:=hs'.ob _ _ hx
    exact⟨OR_rn hrn h5 (same_O hxo h6),⟨h4,h7⟩,fun hg=>⟨h4,h8 (by rw [same_gn hxo,rnO_gn];exact hg)⟩⟩
   ·intro k hk
    by_cases hkH:k<H.length
    ·exact .inl ((hon k).2 hkH)
    ·exact .inr ⟨Nat.le_of_not_lt hkH,hfull k hk.1⟩
   ·intro k hk
    by_cases hkH:k<H.length
    ·exact .inl ((hlv k).2 hkH)
    ·refine .inr ⟨fun h=>hkH ((hon k).1 h),⟨hk.1,hs'.lo _ hk.2⟩,fun b hb=>⟨(hs'.bd (look ρ k) b hk.2 hb).2,?_⟩⟩
     rcases (hs'.bd (look ρ k) b hk.2 hb).1 with h | h
     ·exact .inl h
     ·refine .inr ?_
      subst hM
      obtain⟨j,hj,x,hx,hxb⟩:=h
      obtain⟨q1,q2, -, -⟩:=hroot j hj
      refine⟨j,(hlv j).2 ((hon j).1 hj),fun hjl=>?_,x,hx,hxb⟩
      have hjl:e1.lv (look ρ j):=hjl.2
      have h3:=(hst j hj).2
      have:=hs'.dis (look ρ k) (look ρ j) b hk.2 hjl hb ⟨x,by rw [h3,q2];exact hx,hxb⟩
      have:=look_inj hnd hk.1 (hst j hj).1 this
      subst this
      exact hkH ((hon k).1 hj)
   ·intro k hk
    have hkn:k<ρ.length:=(hst k ((hlv k).1 hk |> (hon k).2)).1
    obtain⟨o,ho⟩:=Option.isSome_iff_exists.1 (hfull k hkn)
    cases hg:o.gn with
    | true=>cases o with
      | gone=>exact .inr ho
      | _=>cases hg
    | false=>
      obtain⟨x,hx,hxo⟩:=hob2 _ (get_mem ho)
      exact .inl ⟨hkn,(hs'.ob _ _ hx).2.2 (by rw [same_gn hxo,rnO_gn];exact hg)⟩
   ·intro k k' b hk _ hk' _ hb hb'
    exact look_inj hnd hk.1 hk'.1 (hs'.dis _ _ b hk.2 hk'.2 hb hb')
   ·refine⟨hs'.low.os,hs'.low.tape,hs'.low.output,hs'.low.size,fun b hb hnM=>hs'.low.block b hb fun hMb=>hnM ?_⟩
    subst hM
    obtain⟨k,hk,hkb⟩:=hMb
    exact⟨k,(hlv k).2 ((hon k).1 hk),hfull k (hst k hk).1,hkb⟩
  ·exact hq.elim
 intro x a' w' hq
 cases x with
 | normal=>obtain⟨st,e1,h4,h5⟩:=hq;exact fin st e1 a' w' h4 h5
 | ret=>obtain⟨st,e1,h4,h5⟩:=hq;exact fin st e1 a' w' h4 h5
 | exit id=>obtain⟨st,e1,h4,h5⟩:=hq;exact h5.elim
 | goto l=>exact hq.elim
 | panic ch=>exact hq.elim
 | outgrown=>exact hq.elim
theorem FOk.of_awp (hc:CxOk P c) (hm:P.follows .mixedOrders =true) {f:FuncId} {fn:Func} {body:Code} {S:FSpec} (hf:P.funcs[f]? =some fn) (hb:fn.body=some body) (hn:(fn.name=="runtime.NumGoroutine")=false) (hn0:c.n0=0) (hck:codeOk body=true)
 (h : ∀args out,S args=some out→(∀p∈out.pre,p)→(idInL [] args&&Nat.ble args.length fn.ntmps)=true∧awp c body (retQ c fn.results.toList out) ⟨args++List.replicate (fn.ntmps-args.length) .dead,[],0⟩):FOk P f S:=by
 refine⟨⟨fn,hf,hn,by rw [hb];rfl⟩,fun args out hs hp w e vals hz hl=>?_⟩
 obtain⟨h1,h2⟩:=h args out hs hp
 rw [Bool.and_eq_true,Nat.ble_eq] at h1
 have hrn0:Rn id [] e { e with on:=fun _=>False,lv:=fun _=>False }:=⟨fun k hk=>absurd hk (by simp),fun _=>rfl,fun _=>rfl,fun _=>rfl,rfl⟩
 have hl0:Rs w { e with on:=fun _=>False,lv:=fun _=>False } args vals.toList:=Rs_rn hrn0 args _ h1.1 (by rw [rnL_id];exact hl)
 exact run_awp (H:=[]) hc hm hf hb hck (by rw [hn0];rfl) (e:={ e with on:=fun _=>False,lv:=fun _=>False }) hz (fun id o h=>by simp [AH.get] at h) (fun k=>⟨fun h=>h.elim,fun h=>absurd h (Nat.not_lt_zero k)⟩) (fun k=>⟨fun h=>h.elim,fun h=>absurd h (Nat.not_lt_zero k)⟩) (fun k b h=>h.elim) (fun k k' b h=>h.elim) hl0 h2
theorem MOk.of_awp {f:FuncId} {fn:Func} {body:Code} {S:MSpec} (hc:CxOk P c) (hm:P.follows .mixedOrders =true) (hf:P.funcs[f]? =some fn) (hb:fn.body=some body) (hn:(fn.name=="runtime.NumGoroutine")=false) (hck:codeOk body=true)
 (h : ∀H args out,S H args=some out→(∀p∈out.pre,p)→Nat.beq c.n0 H.length=true∧awp c body (retQ c fn.results.toList out) ⟨args++List.replicate (fn.ntmps-args.length) .dead,H,H.length⟩):MOk P f S:=by
 refine⟨⟨fn,hf,hn,by rw [hb];rfl⟩,fun H args out hs hp w e vals hz hob hon hlv hbd hdis hl=>?_⟩
 obtain⟨h1,h2⟩:=h H args out hs hp
 exact run_awp hc hm hf hb hck (Nat.eq_of_beq_eq_true h1) hz hob hon hlv hbd hdis hl h2
def MSpec.or (S T:MSpec):MSpec:=fun H l=>match S H l with | some o=>some o | none=>T H l
theorem MOk.or {f:FuncId} {S T:MSpec} (hS:MOk P f S) (hT:MOk P f T):MOk P f (S.or T):=⟨hS.fn,fun H l out h hp=>by
 unfold MSpec.or at h
 split at h
 ·rename_i hs;cases h;exact hS.run H l _ hs hp
 ·exact hT.run H l out h hp⟩
end
end Ax
end Go.Proofs.YtmomiifkdfmahaaGreatDoor
namespace Go.Proofs.YtmomiifkdfmahaaGreatDoor
namespace Ax
open Go.RowKit
def assoc {α:Type} (t:Nat):List (Nat×α)→Option α
 | []=>none
 | (k,v)::r=>if Nat.beq k t then some v else assoc t r
def eqL:List (Nat×Nat)→List (Nat×Nat)→Bool
 | [],[]=>true
 | (a,b)::r,(c,d)::s=>Nat.beq a c&&(Nat.beq b d&&eqL r s)
 | _,_=>false
theorem eqL_ok : ∀{x y:List (Nat×Nat)},eqL x y=true→x=y
 | [],[],_=>rfl
 | (a,b)::r,(c,d)::s,h=>by
   simp only [eqL,Bool.and_eq_true] at h
   rw [Nat.eq_of_beq_eq_true h.1,Nat.eq_of_beq_eq_true h.2.1,eqL_ok h.2.2]
 | [],_::_,h=>by simp [eqL] at h
 | _::_,[],h=>by simp [eqL] at h
def dCk (P:Program):TD→TypeDesc→Bool
 | .int k,.int k'=>k==k'
 | .bool,.bool =>true
 | .str,.string =>true
 | .ptr e,.pointer e'=>Nat.beq e e'
 | .sl e,.slice e'=>Nat.beq e e'
 | .st fs,.struct F=>eqL (F.toList.map fun f=>(f.offset,f.type)) fs&&F.toList.all fun f=>(P.info? f.type).isSome
 | .arr n e,.array n' e'=>Nat.beq n n'&&Nat.beq e e'
 | .oth,_=>true
 | _,_=>false
def tyCk (P:Program) (t:TypeId) (ti:TI):Bool:=
 match P.info? t,P.underlying t with
 | some i,some d=>(!Nat.ble ti.n 40||Nat.ble i.bytes 512)&&(Nat.beq i.size ti.n&&((match i.zero with | some z=>zOk ti.z z.cells.toList | none=>false)&&((aggD d==ti.agg)&&dCk P ti.d d)))
 | _,_=>false
theorem tyCk_ok {P:Program} {t:TypeId} {ti:TI} (h:tyCk P t ti=true):TyOk P t ti:=by
 unfold tyCk at h
 split at h
 ·rename_i i d hi hd
  simp only [Bool.and_eq_true] at h
  obtain⟨h0,h1,h2,h3,h4⟩:=h
  split at h2
  ·rename_i z hz
   refine⟨⟨i,hi,Nat.eq_of_beq_eq_true h1,z,hz,h2⟩,fun i' hi' hb=>by
    rw [hi] at hi'
    cases hi'
    rw [hb] at h0
    simpa using h0,d,hd,by simpa using h3,?_⟩
   unfold dCk at h4
   split at h4<;>rename_i hd1
   ·rw [hd1];simp only [beq_iff_eq] at h4;rw [h4]
   ·rw [hd1]
   ·rw [hd1]
   ·rw [hd1];rw [Nat.eq_of_beq_eq_true h4]
   ·rw [hd1];rw [Nat.eq_of_beq_eq_true h4]
   ·rw [hd1]
    rw [Bool.and_eq_true] at h4
    exact⟨_,rfl,eqL_ok h4.1,fun f hf=>List.all_eq_true.1 h4.2 f (by simpa using hf)⟩
   ·rw [hd1]
    rw [Bool.and_eq_true] at h4
    rw [Nat.eq_of_beq_eq_true h4.1,Nat.eq_of_beq_eq_true h4.2]
   ·rw [hd1];trivial
   ·cases h4
  ·cases h2
 ·cases h
theorem ty_all {P:Program} {T:TypeId→Option TI} (m:Nat) (hm : ∀t,Nat.ble m t=true→T t=none) (h:((List.range m).all fun t=>match T t with | some ti=>tyCk P t ti | none=>true)=true) : ∀t ti,T t=some ti→TyOk P t ti:=fun t ti hg=>by
 by_cases hl:t<m
 ·have:=List.all_eq_true.1 h t (List.mem_range.2 hl)
  rw [hg] at this
  exact tyCk_ok this
 ·rw [hm t (Nat.ble_eq_true_of_le (Nat.le_of_not_lt hl))] at hg
  cases hg
def eqCk (P:Program) (t:TypeId):Bool:=!P.stoodInHeld t&&(!P.eqGuardType P.depth t&&(match P.underlying t with
 | some (.struct F)=>F.toList.all fun f=>!(f.name=="_")
 | _=>true))
theorem eqCk_ok {P:Program} {t:TypeId} (h:eqCk P t=true):EqOk P t:=by
 unfold eqCk at h
 simp only [Bool.and_eq_true,Bool.not_eq_true'] at h
 refine⟨h.1,h.2.1,fun F hF f hf=>?_⟩
 have h3:=h.2.2
 rw [hF] at h3
 have:=List.all_eq_true.1 h3 f hf
 simpa using this
def memN (t:TypeId):List TypeId→Bool
 | []=>false
 | x::r=>Nat.beq x t||memN t r
theorem memN_ok {t:TypeId} : ∀{l:List TypeId},memN t l=true→t∈l
 | [],h=>by cases h
 | x::r,h=>by
   unfold memN at h
   rw [Bool.or_eq_true] at h
   rcases h with h | h
   ·rw [←Nat.eq_of_beq_eq_true h];exact List.mem_cons_self
   ·exact List.mem_cons_of_mem _ (memN_ok h)
theorem eq_all {P:Program} (l:List TypeId) (h:(l.all fun t=>eqCk P t)=true) : ∀t,memN t l=true→EqOk P t:=fun t ht=>eqCk_ok (List.all_eq_true.1 h t (memN_ok ht))
inductive FTok (P:Program):List (FuncId×FSpec)→Prop
 | nil:FTok P []
 | cons {f:FuncId} {S:FSpec} {r:List (FuncId×FSpec)} : FOk P f S→FTok P r→FTok P ((f,S)::r)
theorem FTok.get {P:Program} : ∀{l:List (FuncId×FSpec)},FTok P l→∀f S,assoc f l=some S→FOk P f S
 | [],_,f,S,h=>by simp [assoc] at h
 | (g,T)::r,.cons h1 h2,f,S,h=>by
   unfold assoc at h
   split at h
   ·rename_i hk
    cases h
    have : g=f:=Nat.eq_of_beq_eq_true hk
    subst this
    exact h1
   ·exact FTok.get h2 f S h
inductive MTok (P:Program):List (FuncId×MSpec)→Prop
 | nil:MTok P []
 | cons {f:FuncId} {S:MSpec} {r:List (FuncId×MSpec)} : MOk P f S→MTok P r→MTok P ((f,S)::r)
theorem MTok.get {P:Program} : ∀{l:List (FuncId×MSpec)},MTok P l→∀f S,assoc f l=some S→MOk P f S
 | [],_,f,S,h=>by simp [assoc] at h
 | (g,T)::r,.cons h1 h2,f,S,h=>by
   unfold assoc at h
   split at h
   ·rename_i hk
    cases h
    have : g=f:=Nat.eq_of_beq_eq_true hk
    subst this
    exact h1
   ·exact MTok.get h2 f S h
end Ax
end Go.Proofs.YtmomiifkdfmahaaGreatDoor
namespace Go.Proofs.YtmomiifkdfmahaaGreatDoor
namespace Ax
open Go.RowKit
structure Arg (α:Type) where
 rd:PV→Option α
 enc:α→PV
 ok : ∀x a,rd x=some a→x=enc a
structure Args (α:Type) where
 rd:List PV→Option α
 enc:α→List PV
 ok : ∀x a,rd x=some a→x=enc a
def aI:Arg Int:=⟨fun | .i .i64 n=>some n | _=>none,.i .i64,fun x a h=>by split at h<;>cases h;rfl⟩
def aC:Arg Int:=⟨fun | .i .u8 n=>some n | _=>none,.i .u8,fun x a h=>by split at h<;>cases h;rfl⟩
def aS:Arg (List UInt8):=⟨fun | .s n=>some n | _=>none,.s,fun x a h=>by split at h<;>cases h;rfl⟩
def aB:Arg Bool:=⟨fun | .b n=>some n | _=>none,.b,fun x a h=>by split at h<;>cases h;rfl⟩
def aN:Arg (List Int):=⟨fun | .rsl [.i .i64] n=>some n | _=>none,.rsl [.i .i64],fun x a h=>by split at h<;>cases h;rfl⟩
def aW:Arg (List (List UInt8)):=⟨fun | .rsl [.s] n=>some n | _=>none,.rsl [.s],fun x a h=>by split at h<;>cases h;rfl⟩
def a0:Args Unit:=⟨fun | []=>some () | _=>none,fun _=>[],fun x a h=>by split at h<;>cases h;rfl⟩
def a1 {α:Type} (A:Arg α):Args α:=⟨fun | [x]=>A.rd x | _=>none,fun a=>[A.enc a],fun x a h=>by split at h<;>first | exact congrArg (fun z=>[z]) (A.ok _ _ h) | cases h⟩
def both' {α β:Type} : Option α→Option β→Option (α×β)
 | some a,some b=>some (a,b)
 | _,_=>none
theorem both'_ok {α β:Type} {x:Option α} {y:Option β} {z:α×β} (h:both' x y=some z):x=some z.1∧y=some z.2:=by
 unfold both' at h
 split at h<;>cases h
 exact⟨rfl,rfl⟩
def ac {α β:Type} (A:Arg α) (B:Args β):Args (α×β):=⟨fun | x::r=>both' (A.rd x) (B.rd r) | _=>none,fun a=>A.enc a.1::B.enc a.2,fun x a h=>by
 split at h
 ·obtain⟨h1,h2⟩:=both'_ok h
  rw [A.ok _ _ h1,B.ok _ _ h2]
 ·cases h⟩
def aA {α:Type} (A:Args α):Arg α:=⟨fun | .agg l=>A.rd l | _=>none,fun a=>.agg (A.enc a),fun x a h=>by split at h<;>first | exact congrArg PV.agg (A.ok _ _ h) | cases h⟩
def aP {α:Type} (A:Args α):Arg α:=⟨fun | .rptr l 0=>A.rd l | _=>none,fun a=>.rptr (A.enc a) 0,fun x a h=>by split at h<;>first | exact congrArg (PV.rptr · 0) (A.ok _ _ h) | cases h⟩
def fsp {α:Type} (A:Args α) (pre:α→Prop) (v:α→PV) (eff:α→AH:=fun _=>[]):FSpec:=fun l=>match A.rd l with
 | some a=>some ⟨[pre a],v a,eff a⟩
 | none=>none
structure MArgs (α:Type) where
 rd:AH→List PV→Option α
 eh:α→AH
 ea:α→List PV
 ok : ∀H l a,rd H l=some a→H=eh a∧l=ea a
def msp {α:Type} (A:MArgs α) (pre:α→Prop) (v:α→PV) (eff:α→AH):MSpec:=fun H l=>match A.rd H l with
 | some a=>some ⟨[pre a],v a,eff a⟩
 | none=>none
section
variable {P:Program} {c:Cx} {f:FuncId} {fn:Func} {body:Code} {α:Type}
theorem FOk.go {A:Args α} {pre:α→Prop} {v:α→PV} {eff:α→AH} (hc:CxOk P c) (hm:P.follows .mixedOrders =true) (hf:P.funcs[f]? =some fn) (hb:fn.body=some body) (hn:(fn.name=="runtime.NumGoroutine")=false) (hn0:c.n0=0) (hck:codeOk body=true)
 (h : ∀a,pre a→(idInL [] (A.enc a)&&Nat.ble (A.enc a).length fn.ntmps)=true∧awp c body (retQ c fn.results.toList ⟨[],v a,eff a⟩) ⟨A.enc a++List.replicate (fn.ntmps-(A.enc a).length) .dead,[],0⟩):FOk P f (fsp A pre v eff):=
 FOk.of_awp hc hm hf hb hn hn0 hck fun args out hs hp=>by
  unfold fsp at hs
  split at hs
  ·rename_i a ha
   cases hs
   rw [A.ok _ _ ha]
   exact h a (hp _ (by simp))
  ·cases hs
theorem MOk.go {A:MArgs α} {pre:α→Prop} {v:α→PV} {eff:α→AH} (hc:CxOk P c) (hm:P.follows .mixedOrders =true) (hf:P.funcs[f]? =some fn) (hb:fn.body=some body) (hn:(fn.name=="runtime.NumGoroutine")=false) (hck:codeOk body=true)
 (h : ∀a,pre a→Nat.beq c.n0 (A.eh a).length =true∧awp c body (retQ c fn.results.toList ⟨[],v a,eff a⟩) ⟨A.ea a++List.replicate (fn.ntmps-(A.ea a).length) .dead,A.eh a,(A.eh a).length⟩):MOk P f (msp A pre v eff):=
 MOk.of_awp hc hm hf hb hn hck fun H args out hs hp=>by
  unfold msp at hs
  split at hs
  ·rename_i a ha
   cases hs
   obtain⟨rfl,rfl⟩:=A.ok _ _ _ ha
   exact h a (hp _ (by simp))
  ·cases hs
end
section
variable {α:Type} {a b:Int} {s t:List UInt8} {x y:Bool} {L M:List α} {d e:α}
@[simp] theorem sd_add:std.add a b=a+b:=rfl
@[simp] theorem sd_sub:std.sub a b=a-b:=rfl
@[simp] theorem sd_mul:std.mul a b=a*b:=rfl
@[simp] theorem sd_eqI:std.eqI a b=(a==b):=rfl
@[simp] theorem sd_ltI:std.ltI a b=decide (a<b):=rfl
@[simp] theorem sd_leI:std.leI a b=decide (a≤b):=rfl
@[simp] theorem sd_eqB:std.eqB x y=(x==y):=rfl
@[simp] theorem sd_eqS:std.eqS s t=(s==t):=rfl
@[simp] theorem sd_app:std.app s t=s++t:=rfl
@[simp] theorem sd_drp:std.drp s a=s.drop a.toNat:=rfl
@[simp] theorem sd_tak:std.tak s a=s.take a.toNat:=rfl
@[simp] theorem sd_lenS:std.lenS s=s.length:=rfl
@[simp] theorem sd_byte:std.byte s a=(s.getD a.toNat 0).toNat :=rfl
@[simp] theorem sd_len:std.len L=L.length:=rfl
@[simp] theorem sd_get:std.get d L a=L.getD a.toNat d:=rfl
@[simp] theorem sd_set:std.set L a e=L.set a.toNat e:=rfl
@[simp] theorem sd_snoc:std.snoc L M=L++M:=rfl
@[simp] theorem sd_ltM:std.ltM a↔a≤274877906944:=Iff.rfl
@[simp] theorem min_i64:IntKind.min .i64 = -9223372036854775808:=rfl
@[simp] theorem max_i64:IntKind.max .i64 =9223372036854775807:=rfl
@[simp] theorem min_u8:IntKind.min .u8 =0:=rfl
@[simp] theorem max_u8:IntKind.max .u8 =255:=rfl
@[simp] theorem min_i8:IntKind.min .i8 = -128:=rfl
@[simp] theorem max_i8:IntKind.max .i8 =127:=rfl
@[simp] theorem min_i32:IntKind.min .i32 = -2147483648:=rfl
@[simp] theorem max_i32:IntKind.max .i32 =2147483647:=rfl
@[simp] theorem sd_inK {k:IntKind} : std.inK k a↔k.min≤a∧a≤k.max:=Iff.rfl
@[simp] theorem sd_inL:std.inL a b↔0≤a∧a<b:=Iff.rfl
@[simp] theorem sd_leP:std.leP a b↔a≤b:=Iff.rfl
@[simp] theorem sd_neP:std.neP a b↔a≠b:=Iff.rfl
@[simp] theorem sd_toS {l:List Int} : std.toS l=toSl l:=rfl
@[simp] theorem sd_toB:std.toB s=toBl s:=rfl
@[simp] theorem sd_and:std.and x y=(x&&y):=rfl
@[simp] theorem sd_ltS:std.ltS s t=Op.bytesLess s t:=rfl
theorem in64 {n:Int} (h : -9223372036854775808≤n∧n≤9223372036854775807):std.inK .i64 n:=h
theorem quo_nn (h:0≤a):std.quo a b=a/b:=Int.tdiv_eq_ediv_of_nonneg h
theorem rem_nn (h:0≤a):std.rem a b=a%b:=Int.tmod_eq_emod_of_nonneg h
@[simp] theorem toB_get (X:List UInt8) (n:Nat):(toBl X).getD n 0=((X.getD n 0).toNat : Int):=by
  simp only [toBl,List.getD_eq_getElem?_getD,List.getElem?_map]
  cases X[n]? <;>rfl
@[simp] theorem toB_set (X:List UInt8) (n:Nat) (c:UInt8):(toBl X).set n (c.toNat:Int)=toBl (X.set n c):=by simp [toBl,List.map_set]
@[simp] theorem toB_len (X:List UInt8):(toBl X).length =X.length:=by simp [toBl]
@[simp] theorem toB_app (X Y:List UInt8):toBl X++toBl Y=toBl (X++Y):=by simp [toBl]
@[simp] theorem toB_snoc (X:List UInt8) (c:UInt8):toBl X++[(c.toNat:Int)]=toBl (X++[c]):=by simp [toBl]
@[simp] theorem toS_toB (X:List UInt8):toSl (toBl X)=X:=by
  simp only [toSl,toBl,List.map_map]
  rw [List.map_congr_left (g:=id) (fun c _=>by simp),List.map_id]
theorem byte_in:std.inK .u8 (std.byte s a):=by
 have:=(s.getD a.toNat 0).toNat_lt
 refine⟨?_,?_⟩
 ·show (0:Int)≤(((s.getD a.toNat 0).toNat : Nat):Int);omega
 ·show (((s.getD a.toNat 0).toNat : Nat):Int)≤255;omega
theorem fin {P:Prop} (h:P:=by first
 | exact True.intro
 | with_reducible assumption
 | with_reducible exact byte_in
 | with_reducible exact hp.1
 | with_reducible exact hp.2
 | with_reducible exact hp.2.1
 | with_reducible exact hp.2.2
 | (simp [std] at * <;>lia)
 | rfl):P:=h
theorem lt_of (h:std.ltI a b=true):a<b:=by simpa using h
theorem ge_of (h:std.ltI a b=false):b≤a:=by simpa using h
theorem tk (h0:0≤a) (h:a<L.length) (d:α):L.take (a+1).toNat =L.take a.toNat++[L.getD a.toNat d]:=by
 rw [show (a+1).toNat =a.toNat+1 from by omega,List.take_add_one,List.getD_eq_getElem?_getD,List.getElem?_eq_getElem (by omega)]
 rfl
theorem tk_all (h:(L.length:Int)≤a):L.take a.toNat=L:=List.take_of_length_le (by omega)
theorem dc (h0:0≤a) (h:a<L.length) (d:α):L.drop a.toNat=L.getD a.toNat d::L.drop (a+1).toNat :=by
 have h1:a.toNat<L.length:=by omega
 rw [show (a+1).toNat =a.toNat+1 from by omega,List.drop_eq_getElem_cons h1,List.getD_eq_getElem?_getD,List.getElem?_eq_getElem h1]
 rfl
theorem dn (h:(L.length:Int)≤a):L.drop a.toNat=[]:=List.drop_of_length_le (by omega)
end
end Ax
end Go.Proofs.YtmomiifkdfmahaaGreatDoor
namespace Go.Proofs.YtmomiifkdfmahaaGreatDoor
namespace Ax
open Go.RowKit Go.WideShapes
set_option maxRecDepth 100000
mutual
def SzA:(t:AtTy)→t.Ty→Prop
 | .i k,x=>k.min≤x∧x≤k.max
 | .b,_=>True
 | .s,x=>(x.length:Int)≤9223372036854775807
 | .r sh,x=>(x.length:Int)≤9223372036854775807∧∀e∈x,SzE sh e
def SzE:(sh:List AtTy)→El sh→Prop
 | [],_=>True
 | t::ts,e=>SzEs (SzA t) ts e
def SzEs {x:Type} (P:x→Prop):(ts:List AtTy)→EL2 x ts→Prop
 | [],e=>P e
 | t::ts,e=>P e.1∧SzEs (SzA t) ts e.2
end
def flatF (f:TypeId→Option (List AtTy)):List (Nat×TypeId)→Nat→Option (List AtTy)
 | [],_=>some []
 | (o,t)::r,k=>if Nat.beq o k then match f t with
   | some sh=>match flatF f r (k+sh.length) with
     | some s=>some (sh++s)
     | none=>none
   | none=>none else none
def flatD (f:TypeId→Option (List AtTy)):TD→Option (List AtTy)
 | .int k=>some [.i k]
 | .bool =>some [.b]
 | .str =>some [.s]
 | .sl e=>match f e with
   | some (a::sh)=>some [.r (a::sh)]
   | _=>none
 | .st fs=>flatF f fs 0
 | _=>none
def flatT (T:TypeId→Option TI):Nat→TypeId→Option (List AtTy)
 | 0,_=>none
 | n+1,t=>match T t with
   | some ti=>match flatD (flatT T n) ti.d with
     | some s=>if Nat.beq ti.n s.length then some s else none
     | none=>none
   | none=>none
def VOk (w:World) (fz:Nat→Prop):List AtTy→List PV→List Value→Prop
 | [],l,cs=>l=[]∧cs=[]
 | a::r,l,cs=>∃x u l' cs',l=a.pv x::l'∧cs=u::cs'∧SzA a x∧RA w fz a x u∧VOk w fz r l' cs'
section
variable {w:World} {fz:Nat→Prop}
theorem VOk.len : ∀{sh:List AtTy} {l:List PV} {cs:List Value},VOk w fz sh l cs→cs.length=sh.length
 | [],_,_,h=>by rw [h.2];rfl
 | _::r,_,_,h=>by
   obtain⟨x,u,l',cs',rfl,rfl, -, -,h⟩:=h
   simp [h.len]
theorem VOk.app : ∀{sh:List AtTy} {l:List PV} {cs:List Value} {sh':List AtTy} {l':List PV} {cs':List Value},VOk w fz sh l cs→VOk w fz sh' l' cs'→VOk w fz (sh++sh') (l++l') (cs++cs')
 | [],_,_,_,_,_,h,h'=>by rw [h.1,h.2];exact h'
 | a::r,_,_,_,_,_,h,h'=>by
   obtain⟨x,u,l1,cs1,rfl,rfl,h1,h2,h⟩:=h
   exact⟨x,u,l1++_,cs1++_,rfl,rfl,h1,h2,h.app h'⟩
theorem RAp_R {e:Env} : ∀(a:AtTy) (x:a.Ty) (u:Value),RA w e.fz a x u→R w e (a.pv x) u
 | .i _,_,_,h=>by unfold RA at h;unfold AtTy.pv R;exact h
 | .b,_,_,h=>by unfold RA at h;unfold AtTy.pv R;exact h
 | .s,_,_,h=>by unfold RA at h;unfold AtTy.pv R;exact h
 | .r _,_,_,h=>by unfold RA at h;unfold AtTy.pv R;exact h
theorem VOk.Rs {e:Env} : ∀{sh:List AtTy} {l:List PV} {cs:List Value},VOk w e.fz sh l cs→Ax.Rs w e l cs
 | [],_,_,h=>by rw [h.1,h.2];unfold Ax.Rs;rfl
 | a::r,_,_,h=>by
   obtain⟨x,u,l',cs',rfl,rfl, -,h2,h⟩:=h
   unfold Ax.Rs
   exact⟨u,cs',rfl,RAp_R a x u h2,h.Rs⟩
theorem VOk.els {α:Type} {f:α→PV} {P:α→Value→Prop} {Q:α→Prop} : ∀{ts:List AtTy} {l:List PV} {cs:List Value} (x:α) (u:Value),VOk w fz ts l cs→P x u→Q x→
 ∃e:EL2 α ts,f x::l=mk2 f ts e∧SzEs Q ts e∧∀b o,(∀j v,(u::cs)[j]? =some v→w.cell? ⟨b,o+j,none⟩=some v)→REs w fz P ts b o e
 | [],_,_,x,u,h,hp,hq=>by
   rw [h.1,h.2]
   exact⟨x,rfl,by unfold SzEs;exact hq,fun b o hc=>by unfold REs RE2;exact⟨u,hc 0 u rfl,hp⟩⟩
 | t::ts,_,_,x,u,h,hp,hq=>by
   obtain⟨y,v,l',cs',rfl,rfl,h1,h2,h⟩:=h
   obtain⟨e,g1,g2,g3⟩:=VOk.els (f:=t.pv) (P:=RA w fz t) (Q:=SzA t) y v h h2 h1
   refine⟨(x,e),by rw [g1];rfl,by unfold SzEs;exact⟨hq,g2⟩,fun b o hc=>?_⟩
   unfold REs RE2
   exact⟨⟨u,hc 0 u rfl,hp⟩,g3 b (o+1) fun j v' hv=>by rw [show o+1+j=o+(j+1) from by omega];exact hc (j+1) v' (by simpa using hv)⟩
theorem VOk.el {a:AtTy} {sh:List AtTy} {l:List PV} {cs:List Value} (h:VOk w fz (a::sh) l cs) :
 ∃e:El (a::sh),l=mk (a::sh) e∧SzE (a::sh) e∧∀b o,(∀j v,cs[j]? =some v→w.cell? ⟨b,o+j,none⟩=some v)→RE w fz (a::sh) b o e:=by
 obtain⟨x,u,l',cs',rfl,rfl,h1,h2,h⟩:=h
 obtain⟨e,g1,g2,g3⟩:=VOk.els (f:=a.pv) (P:=RA w fz a) (Q:=SzA a) x u h h2 h1
 exact⟨e,g1,by unfold SzE;exact g2,fun b o hc=>by unfold RE;exact g3 b o hc⟩
end
section
variable {H:Type} {enc:TypeId×Value→H} {P:Program} {T:TypeId→Option TI} {w:World} {spare:Nat→Bool} {held:Bool}
theorem cells_n (hT : ∀t ti,T t=some ti→TyOk P t ti) {t:TypeId} {ti:TI} (h:T t=some ti):P.cellsOf t=ti.n:=by
 obtain⟨i,h1,h2, -⟩:=(hT t ti h).info
 simp [Program.cellsOf,h1,h2]
theorem spot_none {a:Addr} {u:Value} (h:w.cell? a=some u):a=⟨a.block,a.off,none⟩:=by
 unfold World.cell? at h
 split at h
 ·split at h
  ·cases h
  ·rename_i hs
   cases hsp:a.spot with
   | none=>cases a;simp at hsp;subst hsp;rfl
   | some q=>rw [hsp] at hs;simp at hs
 ·cases h
theorem add_plain (b o k:Nat):(⟨b,o,none⟩:Addr).add k=⟨b,o+k,none⟩:=by
 unfold Addr.add
 split
 ·rename_i h;rw [h];rfl
 ·rfl
theorem open_fields (f:TypeId→Option (List AtTy)) (hf : ∀t sh,f t=some sh→P.cellsOf t=sh.length∧∀n cs x,DataW.trod enc P w 0 spare held n t cs=some x→∃l,VOk w (fun b=>b<w.heap.size) sh l cs) :
 ∀(fs:List (Nat×TypeId)) (k:Nat) (s:List AtTy) (cs:List Value),flatF f fs k=some s→cs.length=k+s.length→
  (∀(i:Nat) (o:Nat) (t:TypeId),fs[i]? =some (o,t)→∃n x,DataW.trod enc P w 0 spare held n t ((cs.drop o).take (P.cellsOf t))=some x)→∃l,VOk w (fun b=>b<w.heap.size) s l (cs.drop k)
 | [],k,s,cs,h,hl,_=>by
   simp only [flatF,Option.some.injEq] at h
   subst h
   exact⟨[],rfl,List.drop_of_length_le (by simp at hl;omega)⟩
 | (o,t)::r,k,s,cs,h,hl,hx=>by
   unfold flatF at h
   split at h
   ·rename_i hk
    obtain rfl:=Nat.eq_of_beq_eq_true hk
    split at h
    ·rename_i sh hsh
     split at h
     ·rename_i s' hs'
      cases h
      obtain⟨h1,h2⟩:=hf t sh hsh
      obtain⟨n,x,h3⟩:=hx 0 o t rfl
      obtain⟨l,h4⟩:=h2 n _ x h3
      obtain⟨l',h5⟩:=open_fields f hf r (o+sh.length) s' cs hs' (by rw [hl,List.length_append];omega) fun i o' t' h=>hx (i+1) o' t' (by simpa using h)
      refine⟨l++l',?_⟩
      have:=h4.app h5
      rw [h1,←List.drop_drop,List.take_append_drop] at this
      exact this
     ·cases h
    ·cases h
   ·cases h
theorem open_slice_row {a:AtTy} {r:List AtTy} {t e:TypeId} (hu:P.underlying t=some (.slice e)) (hc:P.cellsOf e=(a::r).length)
 (hf : ∀n cs x,DataW.trod enc P w 0 spare held n e cs=some x→∃l,VOk w (fun b=>b<w.heap.size) (a::r) l cs) (n:Nat) (cs:List Value) (x:DataW H×List MemPlace) (hx:DataW.trod enc P w 0 spare held n t cs=some x) :
 ∃l,VOk w (fun b=>b<w.heap.size) [.r (a::r)] l cs:=by
 rcases Deep.open_slice hu hx with ⟨rfl, -⟩ | ⟨ad,len,cap,m,k,D,Pl,rfl, -,hlc,hcm,hm, -,hcell⟩
 ·exact⟨_,[],_,[],[],rfl,rfl,by unfold SzA;exact⟨by simp,fun e he=>by cases he⟩,by unfold RA;exact⟨none,0,rfl,Nat.le_refl _,fun i x hx=>by simp at hx⟩,rfl,rfl⟩
 ·have hlm:len≤m:=by rw [hm];split<;>omega
  have key0 : ∀i,i<len→∃(cs':List Value) (y:El (a::r)),cs'.length=(a::r).length ∧(∀j,j<(a::r).length →w.cell? ((ad.add (i*(a::r).length)).add j)=cs'[j]?)∧SzE (a::r) y∧∀b o,(∀j v,cs'[j]? =some v→w.cell? ⟨b,o+j,none⟩=some v)→RE w (fun b=>b<w.heap.size) (a::r) b o y:=fun i hi=>by
   obtain⟨cs',g1,g2⟩:=hcell i (by omega)
   obtain⟨l,hl⟩:=hf _ _ _ g2
   obtain⟨y, -,h2,h3⟩:=hl.el
   rw [hc] at g1
   obtain⟨_,_,g3⟩:=World.cells?_some g1
   exact⟨cs',y,hl.len,g3,h2,h3⟩
  have hadp:0<len→ad=⟨ad.block,ad.off,none⟩∧ad.block<w.heap.size:=fun h0=>by
   obtain⟨cs',y,hlen,g3, -, -⟩:=key0 0 h0
   have g0:=g3 0 (by simp)
   obtain⟨u,hu⟩ : ∃u,cs'[0]? =some u:=⟨_,List.getElem?_eq_getElem (by rw [hlen];simp)⟩
   rw [hu,Nat.zero_mul] at g0
   have g0:w.cell? ad=some u:=g0
   exact⟨spot_none g0,World.block_lt_of_cell? w _ g0⟩
  have key : ∀i,i<len→∃y:El (a::r),SzE (a::r) y∧ad=⟨ad.block,ad.off,none⟩∧ad.block<w.heap.size∧RE w (fun b=>b<w.heap.size) (a::r) ad.block (ad.off+i*(a::r).length) y:=fun i hi=>by
   obtain⟨cs',y,hlen,g3,h2,h3⟩:=key0 i hi
   obtain⟨hp,hb⟩:=hadp (by omega)
   refine⟨y,h2,hp,hb,h3 _ _ fun j v hv=>?_⟩
   have hj:j<(a::r).length :=by rw [←hlen];exact (List.getElem?_eq_some_iff.1 hv).1
   have:=g3 j hj
   rw [hp,add_plain,add_plain] at this
   rw [←hv,←this]
  haveI:Inhabited (El (a::r)):=⟨dE _⟩
  obtain⟨V,hV⟩:=Deep.choose_lt (n:=len) (α:=El (a::r)) (p:=fun i y=>SzE (a::r) y∧ad=⟨ad.block,ad.off,none⟩∧ad.block<w.heap.size∧RE w (fun b=>b<w.heap.size) (a::r) ad.block (ad.off+i*(a::r).length) y) key
  have hlen:((List.range len).map V).length =len:=by simp
  have hcm':cap≤9223372036854775807:=hcm
  have hs1:((((List.range len).map V).length : Nat):Int)≤9223372036854775807:=by rw [hlen];omega
  have hs2 : ∀y∈(List.range len).map V,SzE (a::r) y:=fun y hy=>by
   obtain⟨i,hi,rfl⟩:=List.mem_map.1 hy
   exact (hV i (List.mem_range.1 hi)).1
  refine⟨_,(List.range len).map V,_,[],[],rfl,rfl,by unfold SzA;exact⟨hs1,hs2⟩,?_,rfl,rfl⟩
  ·unfold RA
   refine⟨some ad,cap,by rw [hlen],by rw [hlen];exact hlc,fun i y hy=>?_⟩
   have hi:i<len:=by have:=(List.getElem?_eq_some_iff.1 hy).1;rwa [hlen] at this
   rw [List.getElem?_map,List.getElem?_range hi] at hy
   simp only [Option.map_some,Option.some.injEq] at hy
   subst hy
   obtain⟨-,h2,h3,h4⟩:=hV i hi
   exact⟨_,_,congrArg some h2,h3,h4⟩
theorem open_flat (hT : ∀t ti,T t=some ti→TyOk P t ti) : ∀(m:Nat) (t:TypeId) (sh:List AtTy),flatT T m t=some sh→P.cellsOf t=sh.length∧
 ∀n cs x,DataW.trod enc P w 0 spare held n t cs=some x→∃l,VOk w (fun b=>b<w.heap.size) sh l cs
 | 0,_,_,h=>by simp [flatT] at h
 | m+1,t,sh,h=>by
   have ih:=open_flat hT m
   unfold flatT at h
   split at h
   ·rename_i ti hti
    obtain⟨d,hd, -,hu⟩:=(hT t ti hti).und
    have hn:=cells_n hT hti
    split at h
    ·rename_i s hs
     split at h
     ·rename_i hl
      cases h
      have hl:=Nat.eq_of_beq_eq_true hl
      refine⟨hn.trans hl,?_⟩
      generalize ti.d=td at hs hu
      cases td with
      | int k=>
        cases hs
        simp only at hu
        subst hu
        intro n cs x hx
        obtain⟨k,rfl, -,hw⟩:=DataW.trod_int hd hx
        simp only [Lit.wf,Bool.and_eq_true,decide_eq_true_eq] at hw
        exact⟨_,k,_,[],[],rfl,rfl,by unfold SzA;exact hw,by unfold RA;rfl,rfl,rfl⟩
      | bool=>
        cases hs
        simp only at hu
        subst hu
        intro n cs x hx
        obtain⟨k,rfl, -⟩:=DataW.trod_bool hd hx
        exact⟨_,k,_,[],[],rfl,rfl,by unfold SzA;trivial,by unfold RA;rfl,rfl,rfl⟩
      | str=>
        cases hs
        simp only at hu
        subst hu
        intro n cs x hx
        obtain⟨s,rfl, -,hw⟩:=DataW.trod_string hd hx
        refine⟨_,s.data.toList,_,[],[],rfl,rfl,?_,by unfold RA;rfl,rfl,rfl⟩
        unfold SzA
        have : s.size≤9223372036854775807:=hw
        have e:s.data.toList.length=s.size:=Array.length_toList
        omega
      | sl e=>
        simp only at hu
        subst hu
        simp only [flatD] at hs
        split at hs
        ·rename_i a r hr
         cases hs
         obtain⟨h1,h2⟩:=ih _ _ hr
         exact open_slice_row hd h1 h2
        ·cases hs
      | st fs=>
        simp only at hu
        obtain⟨F,rfl,hF, -⟩:=hu
        intro n cs x hx
        obtain⟨xs,n', -, -,hcl,hxl,hf⟩:=DataW.trod_struct hd hx
        have:=open_fields (flatT T m) ih fs 0 _ cs hs (by rw [hcl,hn,hl];omega) fun i o t h=>by
         rw [←hF,List.getElem?_map] at h
         cases hfi:F.toList[i]? with
         | none=>rw [hfi] at h;cases h
         | some f=>
           rw [hfi] at h
           simp only [Option.map_some,Option.some.injEq,Prod.mk.injEq] at h
           obtain⟨rfl,rfl⟩:=h
           have h3:=hf i f (by rw [←Array.getElem?_toList];exact hfi)
           have hi:i<xs.length:=by
            have:=(List.getElem?_eq_some_iff.1 hfi).1
            rw [hxl];simpa using this
           rw [List.getElem?_eq_getElem hi] at h3
           exact⟨n',_,h3⟩
        rw [List.drop_zero] at this
        exact this
      | _=>cases hs
     ·cases h
    ·cases h
   ·cases h
theorem open_arg (hT : ∀t ti,T t=some ti→TyOk P t ti) {t:TypeId} {sh:List AtTy} (m:Nat) (h:flatT T m t=some sh) {v:Value} {d:DataW H} {p:List MemPlace} (hx:DataW.Trod enc P w 0 spare held t v d p) : ∃l,VOk w (fun b=>b<w.heap.size) sh l v.cells.toList:=by
 obtain⟨n,hn⟩:=hx
 exact (open_flat hT m t sh h).2 _ _ _ hn
theorem arg_struct {sh:List AtTy} {cs:Array Value} {l:List PV} {e:Env} (hz:e.fz=fun b=>b<w.heap.size) (h:VOk w (fun b=>b<w.heap.size) sh l (Value.agg cs).cells.toList):R w e (.agg l) (.agg cs):=by
 unfold R
 exact⟨cs,rfl,VOk.Rs (e:=e) (by rw [hz];exact h)⟩
end
end Ax
end Go.Proofs.YtmomiifkdfmahaaGreatDoor
