/-
  The plain walker: what a function has made, but for some things, may be told as frozen where its first part ends; The plain walker: a function that is given things; what it has made may be told as frozen behind its first parts; The tiles of a game without a bag: walked; The tiles of a game without a bag are not more than lie there; Games drawn: walked.
  Conditions: the tables of types and of functions are as the program has them; none.
-/
import Derived.Test.YtjjonmhpgkahoaaGreatDoorS29
import Derived.Test.YtjjonmhpgkahoaaGreatDoorS30
import Derived.Test.YtjjonmhpgkahoaaGreatDoorS32
import Derived.Test.YtjjonmhpgkahoaaGreatDoorS10
import Derived.Test.YtjjonmhpgkahoaaGreatDoorS21
set_option linter.unusedSimpArgs false
set_option linter.unusedVariables false
namespace Go.Proofs.YtjjonmhpgkahoaaGreatDoor
namespace Ax
open Go.RowKit
section
variable {P:Program} {c:Cx} {w w0:World} {e:Env} {fz:Nat→Prop} {M:Root} {st:AS} {a:Act} {f:FuncId}
theorem rnO_id (o:Ob):o.rn id=o:=by
 cases o with
 | cells l ty=>show Ob.cells (rnL id l) ty=_;rw [rnL_id]
 | _=>rfl
def dpK (K:List Nat) (h:AH) (v:PV):PV:=if v.idIn K then v else deep h 12 v
def dpsK (K:List Nat) (h:AH):List PV→List PV
 | []=>[]
 | v::r=>dpK K h v::dpsK K h r
theorem dpsK_map (K:List Nat) (h:AH) : ∀l:List PV,dpsK K h l=l.map (dpK K h)
 | []=>rfl
 | v::r=>by rw [dpsK,dpsK_map K h r];rfl
def frzK (K:List Nat) (st:AS):Bool:=idInL K (dpsK K (cutN K st.h) st.tm)&&(cut K st.h).all fun q=>q.2.idIn K&&!q.2.gn
end
end Ax
namespace Ax
open Go.RowKit
def frzG (n0:Nat) (K:List Nat) (st:AS):Bool:=frzK K st&&(List.range n0).all fun k=>((cut K st.h).get k).isSome
def awpKN (c:Cx) (K:List Nat) (Q:AEx→AS→Prop):Nat→Code→AS→Prop
 | n+1,.seq x y,st=>awp c x (fun z st'=>match z with
   | .normal =>awpKN c K Q n y st'
   | z=>Q z st') st
 | 0,x,st=>frzG c.n0 K st=true∧awp c x Q ⟨dpsK K (cutN K st.h) st.tm,cut K st.h,st.nx⟩
 | _,_,_=>False
section
variable {P:Program} {c:Cx} {w w0:World} {e:Env} {fz:Nat→Prop} {M:Root} {st:AS} {a:Act}
theorem SR.frozenG (h:SR w0 fz M st a w e) {K:List Nat} {n0:Nat} (hn:M.n=n0) (hM : ∀b,M b→∃k,k<n0∧M.e.on k∧M.e.blk k b) (hi0:frzG n0 K st=true) : ∃e',SR w0 fz M ⟨dpsK K (cutN K st.h) st.tm,cut K st.h,st.nx⟩ a w e':=by
 have hsee:=h.sees
 unfold frzG at hi0
 rw [Bool.and_eq_true,List.all_eq_true] at hi0
 obtain⟨hi,hgv⟩:=hi0
 unfold frzK at hi
 rw [Bool.and_eq_true,List.all_eq_true] at hi
 obtain⟨hi,hkeep⟩:=hi
 have hmem : ∀id o,(cut K st.h).get id=some o→id∈K∧st.h.get id=some o∧o.idIn K=true∧o.gn=false:=fun id o ho=>by
  obtain⟨h1,h2⟩:=get_cutA ho
  have h3:=hkeep _ (get_mem ho)
  rw [Bool.and_eq_true] at h3
  exact⟨h1,h2,h3.1,by simpa using h3.2⟩
 have hgv : ∀k,k<n0→k∈K∧e.lv k:=fun k hk=>by
  have h1:=hgv k (List.mem_range.2 hk)
  obtain⟨o,ho⟩:=Option.isSome_iff_exists.1 h1
  obtain⟨h2,h3, -,h4⟩:=hmem k o ho
  exact⟨h2,(h.ob k o h3).2.2 h4⟩
 obtain⟨fzE,hfE⟩ : ∃fzE:Nat→Prop,fzE=fun b=>e.fz b∨(w0.heap.size≤b∧b<w.heap.size∧∀k∈K,e.lv k→¬e.blk k b):=⟨_,rfl⟩
 have hB : ∀b,fzE b↔e.fz b∨(w0.heap.size≤b∧b<w.heap.size∧∀k∈K,e.lv k→¬e.blk k b):=fun b=>by rw [hfE]
 have hle:e.Le { e with fz:=fzE }:=⟨fun _ h=>h,fun _ _=>rfl,fun _ _=>rfl,fun _ _=>rfl,fun b hb=>(hB b).2 (.inl hb)⟩
 have hsame:Same e.fz w w:=fun _ _=>rfl
 have hseeN:Sees w e (cutN K st.h):=⟨fun id o' ho'=>hsee.ob id o' (get_cutN ho').2,hsee.fz,hsee.dis⟩
 have hF:Frz w e (cutN K st.h) { e with fz:=fzE }:=⟨hle,fun id o b ho hg hb=>(hB b).2 (.inr (by
  obtain⟨hid,ho⟩:=get_cutN ho
  have hlv:=(h.ob id o ho).2.2 hg
  obtain⟨h1,h2⟩:=h.bd id b hlv hb
  exact⟨h1.resolve_right (fun hb'=>by
   obtain⟨k,hk,hon,x,hx,hxb⟩:=hM b hb'
   have h3:=(h.root k (by rw [hn];exact hk) hon).2.1
   have h4:=h.dis id k b hlv (hgv k hk).2 hb ⟨x,by rw [h3];exact hx,hxb⟩
   exact hid (by rw [h4];exact (hgv k hk).1)),h2,fun k hk hkl hkb=>hid (by rw [h.dis id k b hlv hkl hb hkb];exact hk)⟩))⟩
 obtain⟨e',he'⟩ : ∃e':Env,e'=⟨e.adr,e.cap,e.len,fzE,fun k=>k∈K∧e.on k,fun k=>k∈K∧e.lv k⟩:=⟨_,rfl⟩
 have hrn:Rn id K { e with fz:=fzE } e':=by
  subst he'
  exact⟨fun k hk h=>⟨hk,h⟩,fun _=>rfl,fun _=>rfl,fun _=>rfl,rfl⟩
 have f1:e'.fz=fzE:=by rw [he']
 have f2 : ∀k,e'.on k↔k∈K∧e.on k:=fun k=>by rw [he']
 have f3 : ∀k,e'.lv k↔k∈K∧e.lv k:=fun k=>by rw [he']
 have f4 : ∀k b,e'.blk k b↔e.blk k b:=fun k b=>by rw [he'];exact Iff.rfl
 refine⟨e',?_,fun t p hp=>?_,fun id o ho=>?_,fun k hk=>(f2 k).2 ⟨((f3 k).1 hk).1,h.lo k ((f3 k).1 hk).2⟩,fun k hk=>h.lt k ((f2 k).1 hk).2,fun k k' b hk hk' hb hb'=>h.dis k k' b ((f3 k).1 hk).2 ((f3 k').1 hk').2 ((f4 k b).1 hb) ((f4 k' b).1 hb'),fun k b hk hb=>h.bd k b ((f3 k).1 hk).2 ((f4 k b).1 hb),
  ⟨fun b hb=>by rw [f1];exact (hB b).2 (.inl (h.ez.sub b hb)),fun b hb=>by
    rw [f1,hB] at hb
    exact hb.elim (h.ez.sup b) fun q=>.inr ⟨q.1,q.2.1⟩,fun k b hk hb hf=>by
    rw [f1,hB] at hf
    obtain⟨hkK,hkl⟩:=(f3 k).1 hk
    rcases hf with hf | hf
    ·exact h.ez.nf k b hkl ((f4 k b).1 hb) hf
    ·exact hf.2.2 k hkK hkl ((f4 k b).1 hb)⟩,h.fzb,h.low,fun k hk ho=>by
    obtain⟨q1,q2,q3,q4⟩:=h.root k hk ho
    exact⟨(f2 k).2 ⟨(hgv k (by rw [←hn];exact hk)).1,q1⟩,by rw [he'];exact q2,by rw [he'];exact q3,by rw [he'];exact q4⟩,h.defers⟩
 ·show a.tmps.size=(dpsK K (cutN K st.h) st.tm).length
  rw [dpsK_map,List.length_map]
  exact h.size
 ·have hq:=idIn_get hi hp
  have hp:(dpsK K (cutN K st.h) st.tm)[t]? =some p:=hp
  rw [dpsK_map,List.getElem?_map,Option.map_eq_some_iff] at hp
  obtain⟨q,h1,rfl⟩:=hp
  refine R_rn hrn _ _ hq ?_
  rw [rn_id]
  unfold dpK
  split
  ·exact R_mono hsame hle q _ (h.tm t q h1)
  ·exact deep_R hseeN hF 12 q _ (h.tm t q h1)
 ·obtain⟨hk,ho,hin,hg⟩:=hmem id o ho
  obtain⟨a1,a2,a3⟩:=h.ob id o ho
  have h5:OR w { e with fz:=fzE } id o:=OR_mono hsame hle a2 (fun b hb=>⟨fun hf=>((hB b).1 hf).elim (fun h=>h) fun q=>absurd hb (q.2.2 _ hk (a3 hg)),rfl⟩) a1
  exact⟨OR_rn hrn hin (by rw [rnO_id];exact h5),(f2 id).2 ⟨hk,a2⟩,fun _=>(f3 id).2 ⟨hk,a3 hg⟩⟩
theorem awpKN_ok (hc:CxOk P c) (hm:P.follows .mixedOrders =true) (hMn:M.n=c.n0) (hMb : ∀b,M b→∃k,k<c.n0∧M.e.on k∧M.e.blk k b) {L:List Nat} {Q:AEx→AS→Prop} {K:Exit→Act→World→Prop}
 (h0 : ∀x st a w e,SR w0 fz M st a w e→Q x st→K x.of a w) :
 ∀(n:Nat) (b:Code),codeOk b=true→∀(st:AS) (a:Act) (w:World) (e:Env),awpKN c L Q n b st→SR w0 fz M st a w e→b.wp P K a w:=by
 have plain : ∀{Q:AEx→AS→Prop} {K:Exit→Act→World→Prop} (_ : ∀x st a w e,SR w0 fz M st a w e→Q x st→K x.of a w) (b:Code),codeOk b=true→∀(st:AS) (a:Act) (w:World) (e:Env),awp c b Q st→SR w0 fz M st a w e→b.wp P K a w:=fun {Q K} h0 b hk st a w e h hs=>by
  refine wp_mono (awp_ok hc hm hMn b hk _ _ _ w e h hs) ?_
  intro x' a' w' hq
  cases x' with
  | normal=>obtain⟨st',e',g1,g2⟩:=hq;exact h0 .normal _ _ _ _ g1 g2
  | ret=>obtain⟨st',e',g1,g2⟩:=hq;exact h0 .ret _ _ _ _ g1 g2
  | exit id=>obtain⟨st',e',g1,g2⟩:=hq;exact h0 (.exit id) _ _ _ _ g1 g2
  | goto l=>exact hq.elim
  | panic ch=>exact hq.elim
  | outgrown=>exact hq.elim
 intro n
 induction n with
 | zero=>
   intro b hk st a w e h hs
   have h:frzG c.n0 L st=true∧awp c b Q ⟨dpsK L (cutN L st.h) st.tm,cut L st.h,st.nx⟩:=by cases b<;>exact h
   obtain⟨e2,hs2⟩:=hs.frozenG hMn hMb h.1
   exact plain h0 b hk _ _ _ _ h.2 hs2
 | succ n ih=>
   intro b hk st a w e h hs
   cases b with
   | seq x y=>
     unfold codeOk at hk
     rw [Bool.and_eq_true] at hk
     refine wp_seq (plain (K:=Exit.then (Code.wp P y K) K) (fun z st' a' w' e' hs' hq=>?_) x hk.1 st a w e h hs)
     cases z with
     | normal=>exact ih y hk.2 st' a' w' e' hq hs'
     | ret=>exact h0 .ret _ _ _ _ hs' hq
     | exit id=>exact h0 (.exit id) _ _ _ _ hs' hq
   | _=>exact h.elim
theorem run_awpKN (hc:CxOk P c) (hm:P.follows .mixedOrders =true) {f:FuncId} {fn:Func} {body:Code} (hf:P.funcs[f]? =some fn) (hb:fn.body=some body) (hck:codeOk body=true) {H:AH} {args:List PV} (hn0:c.n0=H.length)
 {e:Env} {vals:Array Value} (hz:FzW w e.fz) (hob : ∀id o,H.get id=some o→OR w e id o∧e.on id) (hon : ∀k,e.on k↔k<H.length) (hlv : ∀k,e.lv k↔k<H.length) (hbd : ∀k b,e.on k→e.blk k b→b<w.heap.size∧¬e.fz b)
 (hdis : ∀k k' b,e.on k→e.on k'→e.blk k b→e.blk k' b→k=k') (hl0:Rs w e args vals.toList)
 {Qr:AEx→AS→Prop} {Pf:Ending→World→Prop} (hx : ∀id st,¬Qr (.exit id) st)
 (hr : ∀ex st e1 a' w',Qr ex st→SR w e.fz ⟨fun b=>∃k,e.on k∧e.blk k b,H.length,e,[]⟩ st a' w' e1→a'.defers=[]∧∃v,(results fn a'.tmps).run P w'=.ok v w'∧Pf (.returned v) w')
 {K:List Nat} {n:Nat} (h2:awpKN c K Qr n body ⟨args++List.replicate (fn.ntmps-args.length) .dead,H,H.length⟩):Calls P f vals w Pf:=by
 have hlen:=Rs_length hl0
 obtain⟨M,hM⟩ : ∃M:Root,M=⟨fun b=>∃k,e.on k∧e.blk k b,H.length,e,[]⟩:=⟨_,rfl⟩
 have hlo : ∀k,e.lv k→e.on k:=fun k hk=>(hon k).2 ((hlv k).1 hk)
 have hMn:M.n=c.n0:=by rw [hM,hn0]
 have hsr:SR w e.fz M ⟨args++List.replicate (fn.ntmps-args.length) .dead,H,H.length⟩ { tmps:=vals++Array.replicate (fn.ntmps-vals.size) undef,defers:=[] } w e:=by
  have hsz:vals.size=args.length:=by rw [←hlen];simp
  refine⟨by simp [hsz],fun t p hp=>?_,fun id o h=>⟨(hob id o h).1,(hob id o h).2,fun _=>(hlv id).2 ((hon id).1 (hob id o h).2)⟩,hlo,fun id hid=>(hon id).1 hid,fun k k' b hk hk'=>hdis k k' b (hlo k hk) (hlo k' hk'),fun k b hk hb=>⟨.inr (by subst hM;exact⟨k,hlo k hk,hb⟩),(hbd k b (hlo k hk) hb).1⟩,⟨fun _ h=>h,fun _ h=>.inl h,fun k b hk hb=>(hbd k b (hlo k hk) hb).2⟩,⟨fun b hb=>⟨hz.lt b hb,by subst hM;rintro ⟨k,hk,hkb⟩;exact (hbd k b hk hkb).2 hb⟩,hz.gl⟩,Chg.refl _ _,by subst hM;exact fun k _ hk=>⟨hk,rfl,rfl,rfl⟩,by subst hM;rfl⟩
  rw [List.getElem?_append] at hp
  split at hp
  ·rename_i ht
   obtain⟨u,h4,h5⟩:=Rs_get hl0 hp
   have : (vals++Array.replicate (fn.ntmps-vals.size) undef).getD t undef=u:=by
    rw [Array.getD_eq_getD_getElem?,Array.getElem?_append_left (by rw [hsz];exact ht)]
    have : vals[t]? =some u:=by simpa using h4
    rw [this];rfl
   show R w _ p ((vals++Array.replicate (fn.ntmps-vals.size) undef).getD t undef)
   rw [this]
   exact h5
  ·rw [List.getElem?_replicate] at hp
   split at hp
   ·cases hp;unfold R;trivial
   ·cases hp
 have hMb : ∀b,M b→∃k,k<c.n0∧M.e.on k∧M.e.blk k b:=fun b hb=>by
  subst hM
  obtain⟨k,hk,hkb⟩:=hb
  exact⟨k,by rw [hn0];exact (hon k).1 hk,hk,hkb⟩
 refine calls_of_wp hf hb (awpKN_ok hc hm hMn hMb (fun x st a' w' e1 hs' hq=>?_) n body hck _ _ w _ h2 hsr)
 cases x with
 | normal=>subst hM;exact hr _ _ _ _ _ hq hs'
 | ret=>subst hM;exact hr _ _ _ _ _ hq hs'
 | exit id=>exact (hx _ _ hq).elim
end
section
variable {P:Program} {c:Cx} {f:FuncId} {fn:Func} {body:Code} {α β:Type}
theorem NOk.goEK (n:Nat) (K:List Nat) {A:MArgs α} {pre:α→Prop} {B:α→NRes β} {Q:α→β→Prop} (hc:CxOk P c) (hm:P.follows .mixedOrders =true) (hf:P.funcs[f]? =some fn) (hb:fn.body=some body) (hn:(fn.name=="runtime.NumGoroutine")=false) (hck:codeOk body=true)
 (h : ∀a,pre a→Nat.beq c.n0 (A.eh a).length =true∧awpKN c K (retE c fn.results.toList (B a) (Q a)) n body ⟨A.ea a++List.replicate (fn.ntmps-(A.ea a).length) .dead,A.eh a,(A.eh a).length⟩):NOk P f (nsp A pre B Q):=by
 refine⟨⟨fn,hf,hn,by rw [hb];rfl⟩,fun H args out hs hp w e vals hz hob hon hlv hbd hdis hl=>?_⟩
 unfold nsp at hs
 split at hs
 ·rename_i a ha
  cases hs
  obtain⟨rfl,rfl⟩:=A.ok _ _ _ ha
  obtain⟨h1,h2⟩:=h a (hp _ (by simp))
  have hn0:=Nat.eq_of_beq_eq_true h1
  refine run_awpKN hc hm hf hb hck hn0 hz hob hon hlv hbd hdis hl (fun _ _ h=>h) (fun ex st e1 a' w' hq hs'=>?_) h2
  have hq:retE c fn.results.toList (B a) (Q a) .ret st:=by cases ex<;>first | exact hq | exact hq.elim
  generalize (A.eh a).length =n0 at hn0 hon hlv hs'
  unfold retE at hq
  simp only [hn0] at hq
  split at hq
  ·rename_i l hlr
   split at hq
   ·rename_i x hx
    obtain⟨v,hv1,hv2⟩:=results_run hc hs' hlr
    unfold retEP at hq
    obtain⟨hck1,hobs⟩:=hq
    generalize idsL l=ids at hck1 hobs
    obtain⟨ρ,hρ⟩ : ∃ρ,ρ=List.range n0++ids:=⟨_,rfl⟩
    rw [←hρ] at hck1 hobs
    have hlen:ρ.length=n0+ids.length:=by rw [hρ,List.length_append,List.length_range]
    have hlow : ∀k,k<n0→look ρ k=k:=fun k hk=>by
     unfold look
     rw [hρ,List.getD_eq_getElem?_getD,List.getElem?_append_left (by simpa using hk),List.getElem?_range hk];rfl
    have hhi : ∀k,n0≤k→look ρ k=look ids (k-n0):=fun k hk=>by
     unfold look
     rw [hρ,List.getD_eq_getElem?_getD,List.getElem?_append_right (by simpa using hk),List.length_range,←List.getD_eq_getElem?_getD]
    simp only [Bool.and_eq_true,List.all_eq_true,Nat.blt_eq] at hck1
    obtain⟨⟨hnd,hmv⟩,hob1,hfull,hvin⟩:=hck1
    obtain⟨⟨hsame,hQ⟩,hob2⟩:=obs_mem hobs
    unfold full at hfull
    rw [List.all_eq_true] at hfull
    have hfull : ∀k,k<ρ.length→(((B a).eh x).get k).isSome =true:=fun k hk=>hfull k (List.mem_range.2 hk)
    have hroot : ∀k,e.on k→e1.on k∧e1.adr k=e.adr k∧e1.cap k=e.cap k∧e1.len k=e.len k:=fun k hk=>hs'.root k ((hon k).1 hk) hk
    have hst : ∀k,e.on k→k<ρ.length∧look ρ k=k:=fun k hk=>⟨by have:=(hon k).1 hk;omega,hlow k ((hon k).1 hk)⟩
    have hidx : ∀k,n0≤k→k<ρ.length→look ρ k∈ids∧k-n0<ids.length:=fun k hk hk2=>by
     have h3:k-n0<ids.length:=by omega
     refine⟨?_,h3⟩
     rw [hhi k hk]
     unfold look
     rw [List.getD_eq_getElem?_getD,List.getElem?_eq_getElem h3]
     exact List.getElem_mem h3
    obtain⟨e2,he2⟩ : ∃e2:Env,e2={ e1.rn (look ρ) ρ.length with lv:=fun k=>(k<ρ.length∧e1.lv (look ρ k))∧goneB (((B a).eh x).get k)=false }:=⟨_,rfl⟩
    have hElv : ∀k,e2.lv k↔(k<ρ.length∧e1.lv (look ρ k))∧goneB (((B a).eh x).get k)=false:=fun k=>by rw [he2]
    have hEon : ∀k,e2.on k↔k<ρ.length∧e1.on (look ρ k):=fun k=>by rw [he2];exact Iff.rfl
    have hEadr : ∀k,e2.adr k=e1.adr (look ρ k):=fun k=>by rw [he2];rfl
    have hEblk : ∀k b,e2.blk k b↔e1.blk (look ρ k) b:=fun k b=>by unfold Env.blk;rw [hEadr]
    have hrn:Rn (look ρ) (List.range ρ.length) e1 e2:=by
     subst he2
     exact⟨fun _ hk h=>⟨List.mem_range.1 hk,h⟩,fun _=>rfl,fun _=>rfl,fun _=>rfl,rfl⟩
    have hEfz:e2.fz=e1.fz:=by rw [he2];rfl
    refine⟨hs'.defers,v,hv1,x,hQ,v,e2,rfl,?_,?_,⟨fun b hb=>hs'.ez.sup b (by rw [←hEfz];exact hb),fun k b hk _ hb hf=>absurd (show e1.fz b by rw [←hEfz];exact hf) (hs'.ez.nf (look ρ k) b ((hElv k).1 hk).1.2 ((hEblk k b).1 hb))⟩,?_,?_,?_,?_,?_,?_⟩
    ·exact R_rn hrn _ _ hvin (same_R _ _ _ hsame hv2)
    ·refine⟨fun k hk=>(hEon k).2 ⟨(hst k hk).1,by rw [(hst k hk).2];exact (hroot k hk).1⟩,fun k hk=>?_,fun k hk=>?_,fun k hk=>?_,fun b hb=>by rw [hEfz];exact hs'.ez.sub b hb⟩
     ·rw [hEadr,(hst k hk).2];exact (hroot k hk).2.1
     ·rw [he2];show e1.cap (look ρ k)=_;rw [(hst k hk).2];exact (hroot k hk).2.2.1
     ·rw [he2];show e1.len (look ρ k)=_;rw [(hst k hk).2];exact (hroot k hk).2.2.2
    ·intro k o hk
     have hmem:=get_mem hk
     obtain⟨⟨h4,h5⟩,h6⟩:=hob1 _ hmem
     cases hg:goneB (some o) with
     | true=>
       have ho:o=.gone :=by cases o<;>first | rfl | (simp [goneB] at hg)
       subst ho
       have hk0:k<n0:=by simpa [goneB] using h6
       refine⟨by unfold OR;trivial,(hEon k).2 ⟨h4,by rw [hlow k hk0];exact (hroot k ((hon k).2 hk0)).1⟩,fun hh=>by cases hh⟩
     | false=>
       obtain⟨y,hy,hyo⟩:=hob2 _ (noGone_mem hmem hg)
       obtain⟨g6,g7,g8⟩:=hs'.ob _ _ hy
       exact⟨OR_rn hrn h5 (same_O hyo g6),(hEon k).2 ⟨h4,g7⟩,fun hgn=>(hElv k).2 ⟨⟨h4,g8 (by rw [same_gn hyo,rnO_gn];exact hgn)⟩,by rw [hk];exact hg⟩⟩
    ·intro k hk
     by_cases hkH:k<n0
     ·exact .inl ((hon k).2 hkH)
     ·exact .inr ⟨Nat.le_of_not_lt hkH,hfull k ((hEon k).1 hk).1⟩
    ·intro k hk
     obtain⟨⟨hk1,hk2⟩,hk3⟩:=(hElv k).1 hk
     by_cases hkH:k<n0
     ·exact .inl ((hlv k).2 hkH)
     ·refine .inr ⟨fun h=>hkH ((hon k).1 h),(hEon k).2 ⟨hk1,hs'.lo _ hk2⟩,fun b hb=>?_⟩
      have hb:=(hEblk k b).1 hb
      refine⟨(hs'.bd (look ρ k) b hk2 hb).2,?_⟩
      rcases (hs'.bd (look ρ k) b hk2 hb).1 with h | h
      ·exact .inl h
      ·refine .inr ?_
       obtain⟨j,hj,y,hy,hyb⟩:=h
       obtain⟨q1,q2, -, -⟩:=hroot j hj
       have hj0:=(hon j).1 hj
       refine⟨j,(hlv j).2 hj0,fun hjl=>?_,y,hy,hyb⟩
       obtain⟨⟨-,hjl⟩,hjg⟩:=(hElv j).1 hjl
       rw [(hst j hj).2] at hjl
       have h3:=hs'.dis (look ρ k) j b hk2 hjl hb ⟨y,by rw [q2];exact hy,hyb⟩
       have h4:=(hidx k (Nat.le_of_not_lt hkH) hk1).1
       rw [h3] at h4
       have h5:=hmv j h4
       rw [hjg,show Nat.blt j n0=true from by rw [Nat.blt_eq];exact hj0] at h5
       cases h5
    ·intro k hk
     have hk0:=(hlv k).1 hk
     have hkr:k<ρ.length:=by omega
     obtain⟨o,ho⟩:=Option.isSome_iff_exists.1 (hfull k hkr)
     cases hg:goneB (some o) with
     | true=>cases o with
       | gone=>exact .inr ho
       | _=>simp [goneB] at hg
     | false=>
       obtain⟨y,hy,hyo⟩:=hob2 _ (noGone_mem (get_mem ho) hg)
       cases hgn:o.gn with
       | true=>cases o with
         | gone=>exact .inr ho
         | _=>cases hgn
       | false=>exact .inl ((hElv k).2 ⟨⟨hkr,(hs'.ob _ _ hy).2.2 (by rw [same_gn hyo,rnO_gn];exact hgn)⟩,by rw [ho];exact hg⟩)
    ·intro k k' b hk hk0 hk' hk0' hb hb'
     obtain⟨⟨g1,g2⟩, -⟩:=(hElv k).1 hk
     obtain⟨⟨g3,g4⟩, -⟩:=(hElv k').1 hk'
     have a1:n0≤k:=Nat.le_of_not_lt fun h=>hk0 ((hlv k).2 h)
     have a2:n0≤k':=Nat.le_of_not_lt fun h=>hk0' ((hlv k').2 h)
     have h3:=hs'.dis _ _ b g2 g4 ((hEblk k b).1 hb) ((hEblk k' b).1 hb')
     rw [hhi k a1,hhi k' a2] at h3
     have:=look_inj hnd (hidx k a1 g1).2 (hidx k' a2 g3).2 h3
     omega
    ·refine⟨hs'.low.os,hs'.low.tape,hs'.low.output,hs'.low.size,fun b hb hnM=>hs'.low.block b hb fun ⟨k,hk,hkb⟩=>hnM ⟨k,(hlv k).2 ((hon k).1 hk),hfull k (hst k hk).1,hkb⟩⟩
   ·exact hq.elim
  ·exact hq.elim
 ·cases hs
end
end Ax
namespace Ax
set_option maxRecDepth 100000
set_option maxHeartbeats 20000000
def fewA (g:Gm):List UInt8:=tilesS (lettersS g.bd)++g.racks.getD 0 []++g.racks.getD 1 []
def fewK (g:Gm):Nat→TS
 | 0=>⟨[],[],[],cntI (fewA g) 63⟩
 | k+1=>if 0<cntI (fewA g) (g.ts.letters.getD k 0) then ⟨(fewK g k).letters ++[g.ts.letters.getD k 0],(fewK g k).values ++[g.ts.values.getD k 0],(fewK g k).counts ++[cntI (fewA g) (g.ts.letters.getD k 0)],(fewK g k).blanks⟩ else fewK g k
def fewT (g:Gm):TS:=fewK g g.ts.letters.length
structure FwQ (g:Gm):Prop where
 bd:BdP g.bd
 cl:g.bd.cells.length≤400
 rl:g.racks.length=2
 r0:(g.racks.getD 0 []).length ≤7
 r1:(g.racks.getD 1 []).length ≤7
 tl:g.ts.letters.length≤27
 tv:g.ts.values.length=g.ts.letters.length
theorem DrG.fw {g:Gm} (h:DrG g) (x:List UInt8):FwQ { g with bag:=x }:=by
 have hv:=gv_of h.v
 have hz:=bdB.fit hv.bd
 have h0:=hv.s0
 have h1:=hv.s1
 unfold sideB at h0 h1
 simp only [Bool.and_eq_true] at h0 h1
 have hr : ∀q,rackB q=true→q.length≤7:=fun q hq=>by
  unfold rackB at hq
  rw [Bool.and_eq_true] at hq
  exact of_decide_eq_true hq.2
 have hc:=hz.cells
 have hm:g.bd.size*g.bd.size≤15*15:=Int.mul_le_mul hz.hi hz.hi (by have:=hz.lo;omega) (by decide)
 have ht:TsOk g.ts:=by
  have hs:=hv.su
  unfold setupB at hs
  rw [Bool.and_eq_true] at hs
  exact tsB_ok hs.1
 refine⟨bd_p h.b.bd (by decide),?_,hv.rl,hr _ h0.1,hr _ h1.1,?_,?_⟩
 ·show g.bd.cells.length≤400
  omega
 ·show g.ts.letters.length≤27
  have:=ht.len;omega
 ·exact ht.vals
theorem lettersS_le (b:Bd):(lettersS b).length ≤b.cells.length:=List.length_filter_le _ _
theorem tilesS_le (s:List UInt8):(tilesS s).length ≤s.length:=Nat.le_of_eq (tilesS_len s)
theorem fewA_n {g:Gm} (b1:(lettersS g.bd).length ≤g.bd.cells.length) (b2:(tilesS (lettersS g.bd)).length ≤(lettersS g.bd).length) (b3:g.bd.cells.length≤400) (b4:(g.racks.getD 0 []).length ≤7) (b5:(g.racks.getD 1 []).length ≤7):std.ltM (std.lenS (fewA g)):=by
 show ((fewA g).length : Int)≤274877906944
 unfold fewA
 rw [List.length_append,List.length_append]
 omega
theorem fewK_n (g:Gm) : ∀k,(fewK g k).letters.length ≤k∧(fewK g k).values.length ≤k∧(fewK g k).counts.length ≤k
 | 0=>⟨Nat.le_refl 0,Nat.le_refl 0,Nat.le_refl 0⟩
 | k+1=>by
   obtain⟨h1,h2,h3⟩:=fewK_n g k
   rw [fewK]
   split
   ·refine⟨?_,?_,?_⟩
    ·show ((fewK g k).letters ++[_]).length ≤k+1
     rw [List.length_append,List.length_singleton];omega
    ·show ((fewK g k).values ++[_]).length ≤k+1
     rw [List.length_append,List.length_singleton];omega
    ·show ((fewK g k).counts ++[_]).length ≤k+1
     rw [List.length_append,List.length_singleton];omega
   ·exact⟨by omega,by omega,by omega⟩
theorem byte_u8 (s:List UInt8) (k:Int):u8 (std.byte s k)=s.getD k.toNat 0:=by
 show UInt8.ofNat (((s.getD k.toNat 0).toNat : Int)).toNat =_
 rw [Int.toNat_natCast]
 exact UInt8.ofNat_toNat
def sp_s_l18Fewer (p:Pr):FSpec:=fsp (a1 (aP aGm)) (fun g=>FwQ g) (fun g=>.agg (tsK (fewT g) (.osl 0) (.osl 1))) (fun g=>[(0,.own [.i .i64] (fewT g).values 2),(1,.own [.i .i64] (fewT g).counts 2)])
theorem ok_s_l18Fewer:FOk Tryz.prog 223 (sp_s_l18Fewer std):=by
 refine FOk.go (c:=cx std [(173,sp_s_l11Letters std),(127,sp_s_l03Tiles std),(279,sp_s_l17Count std)] [] 0) (cx_ok (.cons ok_s_l11Letters (.cons ok_s_l03Tiles (.cons ok_s_l17Count .nil))) .nil) mixed Tryz.func223 rfl rfl rfl (by kernel_rfl) ?_
 rintro g hp
 refine⟨rfl,?_⟩
 unfold sp_s_l11Letters sp_s_l03Tiles sp_s_l17Count
 obtain⟨H,hH⟩ : ∃H:Hd (Int×List UInt8×List Int×List Int),H=⟨fun (k,a,v,c)=>0≤k∧k≤g.ts.letters.length∧(fewK g k.toNat)=⟨a,v,c,cntI (fewA g) 63⟩,fun (k,a,v,c)=>(g.ts.letters.length-k).toNat,(· < ·)⟩:=⟨_,rfl⟩
 have hl : ∀m n,H.lt m n→m<n:=by subst hH;exact fun _ _ h=>h
 generalize hP:std=p,hB0:fewT=B0,hB1:cntI=B1,hB2:lettersS=B2,hB3:tilesS=B3,hB4:u8=B4
 cbv
 repeat' first
  | (refine fun (_:Unit)=>?_;cbv)
  | (refine Or.inr ⟨29,[(.c 1 1,[.i .i64],2),(.c 1 2,[.i .i64],2)],[.s 5 (.i .i64),.c 1 0 .s,.o 2 [.i .i64],.o 3 [.i .i64]],[.c 1 1,.c 1 2],[],H,rfl,hl,?_,fun ((k,a,v,c):Int×List UInt8×List Int×List Int) hk=>?_⟩<;>cbv)
  | (refine aI2 (fun h=>?_) (fun h=>?_)<;>cbv)
  | (refine aI2 ?_ ?_)
 all_goals subst hP hB0 hB1 hB2 hB3 hB4 hH
 all_goals clear hl
 all_goals try dsimp only at hk
 all_goals try dsimp only
 all_goals try exact fin
 all_goals try simp only [eta_bd]
 all_goals have b1:=lettersS_le g.bd
 all_goals have b2:=tilesS_le (lettersS g.bd)
 all_goals have b3:=hp.cl
 all_goals have b4:=hp.r0
 all_goals have b5:=hp.r1
 all_goals have b6:=hp.tl
 all_goals have b7:=hp.tv
 all_goals have b8:=hp.rl
 ·show ((lettersS g.bd).length : Int)≤274877906944
  omega
 ·exact (⟨by decide,by rw [b8];decide⟩:(0:Int)≤0∧(0:Int)<(g.racks.length:Int))
 ·exact in64 (by show _≤((tilesS (lettersS g.bd)).length : Int)+((g.racks.getD 0 []).length : Int)∧((tilesS (lettersS g.bd)).length : Int)+((g.racks.getD 0 []).length : Int)≤_;omega)
 ·exact (⟨by decide,by rw [b8];decide⟩:(0:Int)≤1∧(1:Int)<(g.racks.length:Int))
 ·exact in64 (by show _≤((tilesS (lettersS g.bd)++g.racks.getD 0 []).length : Int)+((g.racks.getD 1 []).length : Int)∧((tilesS (lettersS g.bd)++g.racks.getD 0 []).length : Int)+((g.racks.getD 1 []).length : Int)≤_;rw [List.length_append];omega)
 ·exact fewA_n b1 b2 b3 b4 b5
 ·exact⟨Int.le_refl 0,Int.natCast_nonneg _,rfl⟩
 all_goals obtain⟨q0,q1,q2⟩:=hk
 all_goals have q1:k≤(g.ts.letters.length:Int):=q1
 all_goals try (have hlt:k<(g.ts.letters.length:Int):=lt_of ‹_›)
 all_goals have hn:a.length≤k.toNat∧v.length≤k.toNat∧c.length≤k.toNat:=(by have h:=fewK_n g k.toNat;rw [q2] at h;exact h)
 ·exact fewA_n b1 b2 b3 b4 b5
 ·exact in64 (by show _≤k+1∧k+1≤_;omega)
 ·show std.inK .i64 ((a.length:Int)+((std.drp (std.tak g.ts.letters (std.add k 1)) k).length : Int))
  rw [one_c q0 hlt]
  exact in64 (by show _≤(a.length:Int)+1∧(a.length:Int)+1≤_;have:=hn.1;omega)
 ·exact (⟨q0,by rw [b7];exact hlt⟩:0≤k∧k<(g.ts.values.length:Int))
 ·show (v.length:Int)+1≤274877906944
  have:=hn.2.1;omega
 ·show (c.length:Int)+1≤274877906944
  have:=hn.2.2;omega
 ·exact in64 (by show _≤k+1∧k+1≤_;omega)
 ·have hb:=byte_u8 g.ts.letters k
  have hg:0<cntI (fewA g) (g.ts.letters.getD k.toNat 0):=by
   have h9:std.ltI 0 (cntI (fewA g) (u8 (std.byte g.ts.letters k)))=true:=by assumption
   rw [hb] at h9
   exact lt_of h9
  refine⟨by show 0≤k+1;omega,by show k+1≤(g.ts.letters.length:Int);omega,?_⟩
  show fewK g (k+1).toNat =⟨a++std.drp (std.tak g.ts.letters (std.add k 1)) k,v++[g.ts.values.getD k.toNat 0],c++[cntI (fewA g) (u8 (std.byte g.ts.letters k))],cntI (fewA g) 63⟩
  rw [one_c q0 hlt,hb,show (k+1).toNat =k.toNat+1 by omega,fewK,if_pos hg,q2]
 ·exact in64 (by show _≤k+1∧k+1≤_;omega)
 ·have hb:=byte_u8 g.ts.letters k
  have hg : ¬0<cntI (fewA g) (g.ts.letters.getD k.toNat 0):=by
   have h9:std.ltI 0 (cntI (fewA g) (u8 (std.byte g.ts.letters k)))=false:=by assumption
   rw [hb] at h9
   exact Int.not_lt.2 (ge_of h9)
  refine⟨by show 0≤k+1;omega,by show k+1≤(g.ts.letters.length:Int);omega,?_⟩
  show fewK g (k+1).toNat =⟨a,v,c,cntI (fewA g) 63⟩
  rw [show (k+1).toNat =k.toNat+1 by omega,fewK,if_neg hg,q2]
 all_goals have hge:(g.ts.letters.length:Int)≤k:=ge_of ‹_›
 all_goals have e:fewT g=⟨a,v,c,cntI (fewA g) 63⟩:=(by rw [←q2];unfold fewT;rw [show k.toNat=g.ts.letters.length by omega])
 ·rw [e]
 ·rw [e]
 ·rw [e]
 ·rw [e];rfl
def sp_l18SeedM (p:Pr):MSpec:=msp (mS (a1 (aP aSu))) (fun (σ,u)=>SrOk 999999990000 σ∧DrSu u) (fun (σ,u)=>.s (sdB σ u)) (fun (σ,u)=>[(0,.cells (srK (pkS σ 60000)) 159)])
theorem ok_l18SeedM:MOk Tryz.prog 63 (sp_l18SeedM std):=by
 refine MOk.go (c:=cx std [(65,sp_s_l02All std),(156,sp_s_l17Shuffle std)] [(64,sp_s_xl00Src_pick std)] 1) (cx_ok (.cons ok_s_l02All (.cons ok_s_l17Shuffle .nil)) (.cons ok_s_xl00Src_pick .nil)) mixed Tryz.func63 rfl rfl (by kernel_rfl) ?_
 rintro ⟨σ,u⟩ hp
 dsimp only at hp
 refine⟨rfl,?_⟩
 unfold sp_s_l02All sp_s_l17Shuffle sp_s_xl00Src_pick
 generalize hP:std=p,hB0:pkS=B0,hB1:pkV=B1,hB2:shufL=B2,hB3:allT=B3,hB4:sdB=B4
 cbv
 repeat' first
  | (refine fun (_:Unit)=>?_;cbv)
  | (refine aI2 (fun h=>?_) (fun h=>?_)<;>cbv)
  | (refine aI2 ?_ ?_)
  | (refine Or.inl (fun (_:Unit)=>?_);cbv)
 all_goals subst hP hB0 hB1 hB2 hB3 hB4
 all_goals try exact fin
 all_goals (try simp only [eta_sr,eta_ts] at *)
 ·exact su_all hp.2.ok
 ·exact hp.1.le (by decide)
 ·have h5:=pk_bd hp.1 (n:=60000)
  have h6:=h5.2.1 (by decide)
  exact⟨Nat.le_trans hp.2.all.2.2.2 (by decide),h5.1,by omega⟩
 all_goals skip
end Ax
namespace Ax
theorem sm_all : ∀(o:Option UInt8) (l:List UInt8),smFrom o l=true→(∀x∈l,smallB x=true∧∀a,o=some a→a<x)∧l.Nodup
 | _,[],_=>⟨fun x hx=>by simp at hx,List.nodup_nil⟩
 | o,b::r,h=>by
   unfold smFrom at h
   simp only [Bool.and_eq_true] at h
   obtain⟨h1,h2,h3⟩:=h
   obtain⟨h4,h5⟩:=sm_all (some b) r h3
   have hb : ∀a,o=some a→a<b:=fun a ha=>by subst ha;exact UInt8.lt_iff_toNat_lt.2 (by simpa [aftB] using h2)
   refine⟨fun x hx=>?_,List.nodup_cons.2 ⟨fun hb'=>?_,h5⟩⟩
   ·rcases List.mem_cons.1 hx with rfl | hx
    ·exact⟨h1,hb⟩
    ·exact⟨(h4 x hx).1,fun a ha=>UInt8.lt_trans (hb a ha) ((h4 x hx).2 b rfl)⟩
   ·exact absurd ((h4 b hb').2 b rfl) (UInt8.lt_irrefl b)
theorem rep_app : ∀(a:List UInt8) (v:List Int) (l:UInt8) (c:Int),a.length=v.length→repT (a++[l]) (v++[c])=repT a v++List.replicate c.toNat l
 | [],[],l,c,_=>by simp [repT]
 | x::a,y::v,l,c,h=>by
   show List.replicate y.toNat x++repT (a++[l]) (v++[c])=(List.replicate y.toNat x++repT a v)++List.replicate c.toNat l
   rw [rep_app a v l c (by simpa using h),List.append_assoc]
 | [],_::_,_,_,h=>by simp at h
 | _::_,[],_,_,h=>by simp at h
theorem cp_or {p q:UInt8→Bool} (hd : ∀x,p x=true→q x=false) : ∀A:List UInt8,A.countP (fun x=>p x||q x)=A.countP p+A.countP q
 | []=>rfl
 | a::A=>by
   have ih:=cp_or hd A
   have h:=hd a
   rw [List.countP_cons,List.countP_cons,List.countP_cons,ih]
   cases hp:p a<;>cases hq:q a<;>simp_all<;>omega
theorem ct_cp (c:UInt8) (A:List UInt8):A.count c=A.countP (fun x=>x==c):=rfl
theorem cp_step {L:List UInt8} {A:List UInt8} {k:Nat} (hn:L.Nodup) (hk:k<L.length):A.countP (fun x=>(L.take (k+1)).contains x)=A.countP (fun x=>(L.take k).contains x)+A.count (L.getD k 0):=by
 have hg:L.getD k 0=L[k]:=by rw [List.getD_eq_getElem?_getD,List.getElem?_eq_getElem hk];rfl
 rw [ct_cp,hg,←cp_or (p:=fun x=>(L.take k).contains x) (q:=fun x=>x==L[k])]
 ·congr 1
  funext x
  simp only [List.contains_eq_mem,Bool.beq_eq_decide_eq]
  rw [←Bool.decide_or]
  refine decide_eq_decide.2 ?_
  rw [List.take_succ_eq_append_getElem hk,List.mem_append,List.mem_singleton]
 ·intro x hx
  have hx:x∈L.take k:=by simpa using hx
  rw [beq_eq_false_iff_ne]
  rintro rfl
  have h1:L.take k++L.drop k=L:=List.take_append_drop k L
  rw [←h1] at hn
  have h2:=(List.nodup_append.1 hn).2.2
  refine h2 _ hx _ ?_ rfl
  rw [List.drop_eq_getElem_cons hk]
  exact List.mem_cons_self
theorem cp_le {L A:List UInt8} (h63:(63:UInt8) ∉ L):A.countP (fun x=>L.contains x)+A.count 63≤A.length:=by
 rw [ct_cp,←cp_or]
 ·exact List.countP_le_length
 ·intro x hx
  have hx:x∈L:=by simpa using hx
  rw [beq_eq_false_iff_ne]
  rintro rfl
  exact h63 hx
end Ax
namespace Ax
set_option maxRecDepth 100000
set_option maxHeartbeats 20000000
structure DrB (g:Gm):Prop where
 b:GmB 1048576 g
 rl:g.racks.length=2
 sl:g.scores.length=2
 kl:g.clocks.length=2
 lx:g.lex=allW
 f:FullR g
 bg:g.bag.length≤120
 pl:0≤g.player∧g.player≤1
 ls:0≤g.last.score∧g.last.score≤20000
 ft:g.bd.Fit
 tl:(allT g.ts).length ≤(tilesS (lettersS g.bd)).length + (g.racks.getD 0 []).length + (g.racks.getD 1 []).length + g.bag.length
theorem fewK_ln (g:Gm) (hn:g.ts.letters.Nodup) : ∀k,k≤g.ts.letters.length→(fewK g k).letters.length =(fewK g k).counts.length ∧(repT (fewK g k).letters (fewK g k).counts).length =(fewA g).countP (fun x=>(g.ts.letters.take k).contains x)∧(fewK g k).blanks =cntI (fewA g) 63
 | 0,_=>⟨rfl,by simp [fewK,repT],rfl⟩
 | k+1,h=>by
   obtain⟨h1,h2,h3⟩:=fewK_ln g hn k (by omega)
   rw [cp_step hn (show k<g.ts.letters.length by omega),fewK]
   split
   ·refine⟨?_,?_,h3⟩
    ·show ((fewK g k).letters ++[_]).length =((fewK g k).counts ++[_]).length
     rw [List.length_append,List.length_append,h1];rfl
    ·show (repT ((fewK g k).letters ++[_]) ((fewK g k).counts ++[_])).length =_
     rw [rep_app _ _ _ _ h1,List.length_append,h2,List.length_replicate]
     unfold cntI
     rw [Int.toNat_natCast]
   ·rename_i hc
    have h0:(fewA g).count (g.ts.letters.getD k 0)=0:=by unfold cntI at hc;omega
    exact⟨h1,by rw [h2,h0];rfl,h3⟩
theorem few_len {g:Gm} (h:smFrom none g.ts.letters=true):(allT (fewT g)).length ≤(fewA g).length :=by
 obtain⟨h1,h2⟩:=sm_all _ _ h
 obtain⟨-,h4,h5⟩:=fewK_ln g h2 _ (Nat.le_refl _)
 have h63:(63:UInt8) ∉ g.ts.letters:=fun hm=>absurd (h1 _ hm).1 (by decide)
 have h6:=cp_le (A:=fewA g) h63
 unfold fewT allT
 rw [List.length_append,List.length_replicate,h4,h5,List.take_length]
 unfold cntI
 rw [Int.toNat_natCast];omega
theorem lsc_bd {g:Gm} (hv:GV g):0≤g.last.score∧g.last.score≤20000:=by
 have hl:=hv.la
 have idle : ∀{k p:Int},eqLa g.last (idleL k p)=true→0≤g.last.score∧g.last.score≤20000:=fun h=>by
  unfold eqLa idleL at h
  simp only [Bool.and_eq_true,beq_iff_eq] at h
  have h6:g.last.score=0:=h.2.2.2.2.2.1
  omega
 unfold lastOk at hl
 split at hl
 ·rw [Bool.and_eq_true] at hl
  exact idle hl.1
 ·split at hl
  ·rw [Bool.and_eq_true] at hl
   exact idle hl.1
  ·split at hl
   ·have hk:=pkf hl
    have hts:TsOk g.ts:=by
     have hs:=hv.su
     unfold setupB at hs
     rw [Bool.and_eq_true] at hs
     exact tsB_ok hs.1
    have hb:bdB g.bef=true:=by have:=hk.ok;unfold okB at this;rw [Bool.and_eq_true] at this;exact this.1
    have hv:validI g.bef g.last.play=true:=by rw [←okB_validI hb];exact hk.ok
    refine⟨?_,hk.s2⟩
    rw [hk.so,score_same hb hv]
    exact (Go.Proofs.YtjjonmhpgkahoaaGreatDoor.score_bd hts g.bef g.last.play (by have:=(validI_facts hv).2.2.2;omega)).1
   ·cases hl
theorem gv_len {g:Gm} (hv:GV g):(allT g.ts).length ≤(tilesS (lettersS g.bd)).length + (g.racks.getD 0 []).length + (g.racks.getD 1 []).length + g.bag.length:=by
 have ht:=hv.ti
 unfold gameTiles at ht
 have ht:=congrArg List.length ht
 rw [isort_length] at ht
 simp only [List.length_append] at ht
 omega
theorem DrG.drB {g:Gm} (h:DrG g):DrB g:=by
 have hv:=gv_of h.v
 have hb:=hv.bag
 unfold bagB at hb
 rw [Bool.and_eq_true] at hb
 exact⟨h.b,hv.rl,hv.sl,hv.kl,h.lx,h.f,of_decide_eq_true hb.2,in_bd hv.pl,lsc_bd hv,bdB.fit hv.bd,gv_len hv⟩
theorem fewT_b {g:Gm} (h:FwQ g):TsB 1048576 (fewT g):=by
 obtain⟨h1,h2,h3⟩:=fewK_n g g.ts.letters.length
 have h4:=h.tl
 unfold fewT
 exact⟨by omega,by omega,by omega⟩
theorem DrG.few {g:Gm} (h:DrG g) {l:La} (hl:l=g.last∨l=⟨0,0,⟨0,0,false,[]⟩,[],[],0,0⟩):DrB { g with ts:=fewT { g with bag:=[] },bag:=[],last:=l }:=by
 have hv:=gv_of h.v
 have hw:(l.play.word.length:Int)≤1048576∧(l.before.length:Int)≤1048576∧(l.drawn.length:Int)≤1048576:=by
  rcases hl with rfl | rfl
  ·exact⟨h.b.wd,h.b.bf,h.b.dr⟩
  ·exact⟨by decide,by decide,by decide⟩
 have hs:0≤l.score∧l.score≤20000:=by
  rcases hl with e | e
  ·rw [e];exact lsc_bd hv
  ·rw [e];exact (⟨by decide,by decide⟩:(0:Int)≤0∧(0:Int)≤20000)
 refine⟨⟨fewT_b (h.fw []),h.b.lx,h.b.b0,h.b.bd,by show (([]:List UInt8).length : Int)≤_;decide,h.b.rk,h.b.sc,h.b.ck,hw.1,hw.2.1,hw.2.2⟩,hv.rl,hv.sl,hv.kl,h.lx,.inl rfl,by show ([]:List UInt8).length ≤120;decide,in_bd hv.pl,hs,bdB.fit hv.bd,?_⟩
 have hsm:smFrom none g.ts.letters=true:=by
  have h8:=hv.su
  unfold setupB tsB at h8
  simp only [Bool.and_eq_true] at h8
  exact h8.1.2.1
 have h9:=few_len (g:={ g with bag:=[] }) hsm
 unfold fewA at h9
 rw [List.length_append,List.length_append] at h9
 exact h9
theorem DrSu.sg {u:Su} (h:DrSu u) (x:Int):SgL u (shufL (allT u.ts) x):=by
 have hb:=h.b
 have h1:=hb.ts
 have h2:=hb.lx
 have h3:=h.all.2.2.2
 refine⟨⟨ts_l h1 (by decide),⟨?_,fun k=>?_⟩,bd_p hb.bd (by decide)⟩,⟨?_,?_,?_⟩,by rw [shufL_len];omega⟩
 ·have:=h2.l;omega
 ·have:=h2.w (k:Int)
  rw [Int.toNat_natCast] at this
  omega
 ·have:=h1.v;omega
 ·have:=h1.c;omega
 ·have:=h2.l;omega
theorem DrSu.drg {u:Su} (h:DrSu u) {x:Int} (hx:0≤x):DrG (bgnR u (shufL (allT u.ts) x)):=by
 have hc:=h.bgn hx
 have h3:=h.all.2.2.2
 unfold bgnR
 rw [if_pos hc]
 exact⟨bgn_ok hc,full_bgn hc,bgn_b h.b (by rw [shufL_len];omega),h.lex⟩
theorem far_ix {n:Int} {σ X:Src} (h:far n σ X):far n σ ⟨σ.code,X.pos,X.seed⟩:=by rw [sr_eq h.c];exact h
section
variable {σ Y Z:Src} {G:Gm} {a z k:Int}
theorem dw_c (hY:far 20 σ Y):(pkS (pkS Y 60000) 8).code =σ.code:=by simp only [pk_code];exact hY.c
theorem dw_in (hY:far 20 σ Y) (hp:SrOk 999999900000 σ) (hd:DrG G):0≤pkV (pkS Y 60000) 8∧pkV (pkS Y 60000) 8≤7∧far (8900-1000*pkV (pkS Y 60000) 8) σ ⟨σ.code,(pkS (pkS Y 60000) 8).pos,(pkS (pkS Y 60000) 8).seed⟩∧DrG G:=by
 have h3:=pk_bd (pk_ok (hY.s _ hp) 60000) (n:=8)
 have h4:=h3.2.1 (by decide)
 exact⟨h3.1,by omega,far_ix (X:=pkS (pkS Y 60000) 8) (((hY.pk 60000).pk 8).le (by omega)),hd⟩
theorem dw_far (hY:far 20 σ Y) (h:far (8900-1000*k) σ ⟨σ.code,a,z⟩) (k0:0≤k):far 9000 σ (pkS ⟨(pkS (pkS Y 60000) 8).code,a,z⟩ 6):=by
 rw [dw_c hY]
 exact (h.pk 6).le (by omega)
theorem dw_ok {m:Int} (hY:far 20 σ Y) (hp:SrOk 999999900000 σ) (h:far (8900-1000*k) σ ⟨σ.code,a,z⟩) (k0:0≤k) (hm:999999910000≤m):SrOk m ⟨(pkS (pkS Y 60000) 8).code,a,z⟩:=by
 rw [dw_c hY]
 exact (h.s _ hp).le (by omega)
theorem dw_st (hY:far 20 σ Y) (h:far (8900-1000*k) σ ⟨σ.code,a,z⟩) (h2:far 1000 ⟨(pkS (pkS Y 60000) 8).code,a,z⟩ Z) (hd:DrG G) (k0:0<k) (k7:k≤7):0≤k-1∧k-1≤7∧far (8900-1000*(k-1)) σ ⟨σ.code,Z.pos,Z.seed⟩∧DrG G:=by
 rw [dw_c hY] at h2
 exact⟨by omega,by omega,far_ix (far_tr h h2 (by omega)),hd⟩
end
def rGs:NRes (Src×Gm):=⟨fun H l=>match l with
 | [.agg c]=>both' (srHd H) (gmOf c)
 | _=>none,fun a=>(0,.cells (srK a.1) 159)::gmH7 a.2 1,fun a=>.agg (gmK a.2 (.osl 1) (.osl 2) (.osl 3) (.osl 4) (.osl 5) (.osl 6))⟩
@[reducible] def drV:List LV:=LV.s 6 (.i .i64)::LV.c 0 1 (.i .i64)::LV.c 0 2 (.i .u64)::LV.c 9 0 .s ::LV.c 9 3 (.i .i64)::LV.c 9 5 (.i .i64)::LV.c 9 6 .s ::LV.c 9 7 .s ::LV.c 9 8 (.i .i64)::LV.c 9 9 (.i .i64)::LV.c 9 10 (.i .i64)::LV.c 9 11 .s ::LV.c 9 12 .s ::LV.c 9 13 .s ::LV.c 9 17 (.i .i64)::LV.c 9 18 (.i .i64)::LV.c 9 19 (.i .i64)::LV.c 9 20 (.i .i64)::LV.c 9 21 (.i .i64)::LV.c 9 22 (.i .i64)::LV.c 9 23 .b ::LV.c 9 24 .s ::LV.c 9 25 .s ::LV.c 9 26 .s ::LV.c 9 27 (.i .i64)::LV.c 9 28 (.i .i64)::LV.c 9 29 .b ::LV.o 3 [.i .i64]::LV.o 4 [.i .i64]::LV.o 5 [.s]::LV.o 6 [.s]::LV.o 7 [.i .i64]::LV.o 8 [.i .i64]::[]
def sp_s_l18Draw (_:Pr):NSpec:=nsp (mS a0) (fun (σ,_u)=>SrOk 999999900000 σ) (fun (σ,_u)=>rGs) (fun (σ,_u) (τ,x)=>far 9000 σ τ∧DrB x)
theorem ok_s_l18Draw:NOk Tryz.prog 184 (sp_s_l18Draw std):=by
 refine NOk.goEK 2 [0,1] (c:=cxN std [(12,sp_s_StartGame std),(223,sp_s_l18Fewer std)] [(63,sp_l18SeedM std),(96,sp_s_xl00Src_one std),(64,sp_s_xl00Src_pick std)] [(62,sp_s_l18DrawSetup std),(249,sp_s_l18Step std)] 1 (if false then some stdU else none) []) (cxN_ok (.cons ok_s_StartGame (.cons ok_s_l18Fewer .nil)) (.cons ok_l18SeedM (.cons ok_s_xl00Src_one (.cons ok_s_xl00Src_pick .nil))) (.cons ok_s_l18DrawSetup (.cons ok_s_l18Step .nil))) mixed Tryz.func184 rfl rfl (by kernel_rfl) ?_
 rintro ⟨σ,_u⟩ hp
 dsimp only at hp
 refine⟨rfl,?_⟩
 unfold sp_s_StartGame sp_s_l18Fewer sp_l18SeedM sp_s_xl00Src_one sp_s_xl00Src_pick sp_s_l18DrawSetup sp_s_l18Step
 obtain⟨H,hH⟩ : ∃H:Hd (Int×Int×Int×List UInt8×Int×Int×List UInt8×List UInt8×Int×Int×Int×List UInt8×List UInt8×List UInt8×Int×Int×Int×Int×Int×Int×Bool×List UInt8×List UInt8×List UInt8×Int×Int×Bool×List Int×List Int×List (List UInt8)×List (List UInt8)×List Int×List Int),H=⟨fun (k,a,z,x0,x3,x5,x6,x7,x8,x9,x10,x11,x12,x13,x17,x18,x19,x20,x21,x22,x23,x24,x25,x26,x27,x28,x29,x1,x2,x4,x14,x15,x16)=>0≤k∧k≤7∧far (8900-1000*k) σ ⟨σ.code,a,z⟩∧DrG ⟨⟨x0,x1,x2,x3⟩,x4,⟨x5,x6,x7⟩,x8,x9,⟨x10,x11,x12⟩,x13,x14,x15,x16,x17,x18,⟨x19,x20,⟨x21,x22,x23,x24⟩,x25,x26,x27,x28⟩,x29⟩,fun (k,a,z,x0,x3,x5,x6,x7,x8,x9,x10,x11,x12,x13,x17,x18,x19,x20,x21,x22,x23,x24,x25,x26,x27,x28,x29,x1,x2,x4,x14,x15,x16)=>k.toNat,(· < ·)⟩:=⟨_,rfl⟩
 have hl : ∀m n,H.lt m n→m<n:=by subst hH;exact fun _ _ h=>h
 generalize hP:std=p,hB0:pkS=B0,hB1:pkV=B1,hB2:far=B2,hB3:fewT=B3,hB4:sdB=B4,hB5:bgnR=B5,hB6:bgnC=B6
 cbv
 repeat' first
  | (refine fun (_:Unit)=>?_;cbv)
  | (refine Or.inr ⟨19,[],drV,[.c 9 1,.c 9 2,.c 9 4,.c 9 14,.c 9 15,.c 9 16],[],H,rfl,hl,?_,fun ((k,a,z,x0,x3,x5,x6,x7,x8,x9,x10,x11,x12,x13,x17,x18,x19,x20,x21,x22,x23,x24,x25,x26,x27,x28,x29,x1,x2,x4,x14,x15,x16):Int×Int×Int×List UInt8×Int×Int×List UInt8×List UInt8×Int×Int×Int×List UInt8×List UInt8×List UInt8×Int×Int×Int×Int×Int×Int×Bool×List UInt8×List UInt8×List UInt8×Int×Int×Bool×List Int×List Int×List (List UInt8)×List (List UInt8)×List Int×List Int) hk=>?_⟩<;>cbv)
  | (refine fun (y:Nd _) hy=>?_;cbv)
  | (refine aI2 (fun h=>?_) (fun h=>?_)<;>cbv)
  | (refine aI2 ?_ ?_)
 all_goals subst hP hB0 hB1 hB2 hB3 hB4 hB5 hB6 hH
 all_goals clear hl
 all_goals try dsimp only at hk
 all_goals try dsimp only
 all_goals try exact fin
 ·exact hp.le (by decide)
 ·exact (hy.1.s _ hp).le (by decide)
 ·exact hy.2.sg _
 ·exact (pk_ok (hy.1.s _ hp) 60000).le (by decide)
 ·exact dw_in (Y:=y.x.1) hy.1 hp (hy.2.drg (pk_bd (hy.1.s _ hp)).1)
 ·exact dw_ok (Y:=y.x.1) hy.1 hp hk.2.2.1 hk.1 (by decide)
 ·exact congrArg (PV.rsl [.i .u8]) hy.1.c
 ·rename Nd (Src×Su)=>y0
  rename far 20 σ _∧_=>hy0
  exact dw_st (Y:=y0.x.1) (Z:=y.x.1) hy0.1 hk.2.2.1 hy.1 hy.2 (lt_of ‹_›) hk.2.1
 ·exact dw_ok (Y:=y.x.1) hy.1 hp hk.2.2.1 hk.1 (by decide)
 ·exact hk.2.2.2.fw []
 all_goals first
  | exact dw_far (Y:=y.x.1) hy.1 hk.2.2.1 hk.1
  | exact hk.2.2.2.few (.inr rfl)
  | exact hk.2.2.2.few (.inl rfl)
  | exact hk.2.2.2.drB
  | skip
end Ax
end Go.Proofs.YtjjonmhpgkahoaaGreatDoor
