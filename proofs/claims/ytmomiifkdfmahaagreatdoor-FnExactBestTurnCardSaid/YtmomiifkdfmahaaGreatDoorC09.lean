/-
  The plain walker: a drawn region, step by step in any order; The plain walker: a drawn region, whole; The plain walker: code with blocks, tests, loops, returns.
  Conditions: as each part below says.
-/
import Derived.Test.YtmomiifkdfmahaaGreatDoorC08
import Derived.Deep.LoopGhost
set_option linter.unusedSimpArgs false
set_option linter.unusedVariables false
namespace Go.Proofs.YtmomiifkdfmahaaGreatDoor
namespace Ax
open Go.RowKit RegP RegL
section
variable {P:Program} {g:Rg} {ops:Array Oper} {tm0:List PV} {nx0:Nat} {w0 w:World} {fz:Nat→Prop} {M:Root} {vals:List PV} {effs:List AH} {nxs:List Nat} {ts:List (List Nat)} {L:Nat→Bool} {a:Act} {e:Env}
theorem Inv.tv (h:Fx P g ops tm0 nx0 vals effs nxs ts) (hv:Inv g ops tm0 nx0 w0 fz M vals effs nxs L a w e) {i:Nat} {o:Oper} (ho:ops[i]? =some o) (hb : ∀j∈bindsOn o,L j=true) (hback : ∀j,L j=true→i ∉ (clsGo ops.toList []).getD j []) {t:Nat} (ht:t∈o.looksAt ops) :
 ∀p,(TV g.dsts tm0 (vals.take i))[t]? =some p→R w e p (a.tmps.getD t undef):=by
 intro p hp
 unfold TV at hp
 have hmem : ∀(d:Option Nat) (v:PV),(d,v)∈g.dsts.zip (vals.take i)→∃j oj,j<i∧ops[j]? =some oj∧oj.dst=d∧vals[j]? =some v:=fun d v hm=>by
  obtain⟨j,hj⟩:=List.mem_iff_getElem?.1 hm
  rw [List.getElem?_zip_eq_some] at hj
  obtain⟨h1,h2⟩:=hj
  rw [h.dst,List.getElem?_map] at h1
  obtain⟨oj,h3,h4⟩:=Option.map_eq_some_iff.1 h1
  rw [List.getElem?_take] at h2
  split at h2
  ·rename_i hji;exact⟨j,oj,hji,by simpa using h3,h4,h2⟩
  ·cases h2
 by_cases hex : ∃(j:Nat) (oj:Oper),ops[j]? =some oj∧oj.dst=some t
 ·obtain⟨j,oj,hoj,hdj⟩:=hex
  rcases h.dep ho hoj hdj ht with ⟨hjb,hji⟩ | hij
  case inr=>
   rw [fold_put_no (t:=t)] at hp
   ·refine hv.no t p (fun j' oj' h1 h2=>?_) hp
    have:=h.uniq h1 hoj h2 hdj
    subst this
    cases hL:L j' with
    | false=>rfl
    | true=>exact absurd hij (hback j' hL)
   ·intro d v hm hd
    obtain⟨j',oj',h1,h2,h3, -⟩:=hmem _ _ hm
    have:=h.uniq h2 hoj (by rw [h3,hd]) hdj
    subst this
    have:=(cl_lt h.lt j' i hij).1
    omega
  have hjl:j<vals.length:=by rw [h.len];exact (Array.getElem?_eq_some_iff.1 hoj).1
  have hvj:vals[j]? =some vals[j]:=List.getElem?_eq_getElem hjl
  rw [fold_put_yes (t:=t) (v:=vals[j])] at hp
  ·obtain⟨q,hq,rfl⟩:=Option.map_eq_some_iff.1 hp
   exact hv.yes j oj t _ hoj hdj (hb j hjb) hvj (List.getElem?_eq_some_iff.1 hq).1
  ·refine List.mem_iff_getElem?.2 ⟨j,?_⟩
   rw [List.getElem?_zip_eq_some]
   exact⟨by rw [h.dst,List.getElem?_map,Array.getElem?_toList,hoj];exact congrArg some hdj,by rw [List.getElem?_take,if_pos hji];exact hvj⟩
  ·intro v' hm
   obtain⟨j',oj', -,h2,h3,h4⟩:=hmem _ _ hm
   have:=h.uniq h2 hoj h3 hdj
   subst this
   rw [hvj] at h4
   cases h4
   rfl
 ·rw [fold_put_no (t:=t)] at hp
  ·exact hv.no t p (fun j oj h1 h2=>absurd ⟨j,oj,h1,h2⟩ hex) hp
  ·intro d v hm hd
   obtain⟨j',oj', -,h2,h3, -⟩:=hmem _ _ hm
   exact hex ⟨j',oj',h2,by rw [h3,hd]⟩
theorem TV_len (dsts:List (Option Nat)) (tm0 vals:List PV):(TV dsts tm0 vals).length =tm0.length:=by
 unfold TV
 generalize dsts.zip vals=l
 induction l generalizing tm0 with
 | nil=>rfl
 | cons x l ih=>rw [List.foldl_cons,ih,put_len]
theorem Inv.guard (h:Fx P g ops tm0 nx0 vals effs nxs ts) (hv:Inv g ops tm0 nx0 w0 fz M vals effs nxs L a w e) {i:Nat} {o:Oper} (ho:ops[i]? =some o) (hb : ∀j∈bindsOn o,L j=true) (hback : ∀j,L j=true→i ∉ (clsGo ops.toList []).getD j []) {b:Bool} (hg:GuardIs g.dsts o (TV g.dsts tm0 (vals.take i)) b) :
 Region.wanted o (yielded ops a.tmps)=b:=by
 unfold GuardIs at hg
 unfold Region.wanted
 split at hg
 ·rename_i hgd;rw [hgd];exact hg.symm
 ·rename_i k want hgd
  rw [hgd]
  obtain⟨t,hk,hh⟩:=hg
  have hlook:t∈o.looksAt ops:=by
   have : (ops[k]?).bind (·.dst)=some t:=by
    rw [h.dst,List.getD_eq_getElem?_getD,List.getElem?_map,Array.getElem?_toList] at hk
    cases hok:ops[k]? with
    | none=>rw [hok] at hk;cases hk
    | some o=>rw [hok] at hk;exact hk
   unfold Oper.looksAt
   rw [hgd]
   simp [this]
  have hat : ∀p:PV,(TV g.dsts tm0 (vals.take i)).getD t .dead =p→p≠.dead →∃u,a.tmps[t]? =some u∧R w e p u:=fun p hp hd=>by
   rw [List.getD_eq_getElem?_getD] at hp
   cases ht:(TV g.dsts tm0 (vals.take i))[t]? with
   | none=>rw [ht] at hp;exact absurd hp.symm hd
   | some q=>
     rw [ht] at hp
     simp only [Option.getD_some] at hp
     subst hp
     have hlt:t<a.tmps.size:=by rw [hv.size,←TV_len g.dsts tm0 (vals.take i)];exact (List.getElem?_eq_some_iff.1 ht).1
     refine⟨a.tmps[t],Array.getElem?_eq_getElem hlt,?_⟩
     have:=hv.tv h ho hb hback hlook q ht
     rwa [Array.getD_eq_getD_getElem?,Array.getElem?_eq_getElem hlt] at this
  have hy:=yield_at h.dst hk a.tmps
  simp only [hy]
  rcases hh with ⟨x,hx,rfl⟩ | ⟨hx,rfl⟩
  ·obtain⟨u,h1,h2⟩:=hat _ rfl (fun hh=>by rw [hh] at hx;cases hx)
   rw [isB_ok hx] at h2
   subst h2
   rw [h1]
   cases x<;>cases want<;>rfl
  ·obtain⟨u,h1,h2⟩:=hat _ rfl (fun hh=>by rw [hx] at hh;cases hh)
   rw [hx] at h2
   unfold R at h2
   obtain⟨vs,rfl, -⟩:=h2
   rw [h1]
   rfl
theorem Inv.put (h:Fx P g ops tm0 nx0 vals effs nxs ts) (hv:Inv g ops tm0 nx0 w0 fz M vals effs nxs L a w e) {i:Nat} {o:Oper} (ho:ops[i]? =some o) {v:PV} (hvi:vals[i]? =some v) {u:Value} {w':World} {e':Env}
 (hm : ∀p x,R w e p x→R w' e' p x) (hu:R w' e' v u):(a.put o.dst u).tmps.size =tm0.length∧(a.put o.dst u).defers =M.d∧
 (∀(j:Nat) (oj:Oper) (t:Nat) (v:PV),ops[j]? =some oj→oj.dst=some t→upd L i j=true→vals[j]? =some v→t<tm0.length→R w' e' v ((a.put o.dst u).tmps.getD t undef))∧
 (∀(t:Nat) (p:PV),(∀(j:Nat) (oj:Oper),ops[j]? =some oj→oj.dst=some t→upd L i j=false)→tm0[t]? =some p→R w' e' p ((a.put o.dst u).tmps.getD t undef)):=by
 have hgd : ∀t:Nat,t<tm0.length→(a.put o.dst u).tmps.getD t undef=if o.dst=some t then u else a.tmps.getD t undef:=fun t ht=>by
  rw [Array.getD_eq_getD_getElem?,RegP.put_get,Array.getD_eq_getD_getElem?]
  split
  ·rw [Array.getElem?_eq_getElem (by rw [hv.size];exact ht)];rfl
  ·rfl
 refine⟨by rw [RegP.put_size];exact hv.size,by rw [RegP.put_defers'];exact hv.defers,fun j oj t v' hoj hdj hL hvj ht=>?_,fun t p hno hp=>?_⟩
 ·rw [hgd t ht]
  by_cases hji:j=i
  ·subst hji
   rw [ho] at hoj;cases hoj
   rw [hvi] at hvj;cases hvj
   rw [if_pos hdj]
   exact hu
  ·rw [if_neg fun hd=>hji (h.uniq hoj ho hdj hd)]
   rw [upd_ne L hji] at hL
   exact hm _ _ (hv.yes j oj t v' hoj hdj hL hvj ht)
 ·have ht:=(List.getElem?_eq_some_iff.1 hp).1
  rw [hgd t ht]
  rw [if_neg fun hd=>by have:=hno i o ho hd;rw [upd_same] at this;cases this]
  refine hm _ _ (hv.no t p (fun j oj h1 h2=>?_) hp)
  have:=hno j oj h1 h2
  by_cases hji:j=i
  ·subst hji;rw [upd_same] at this;cases this
  ·rwa [upd_ne L hji] at this
theorem Inv.step (h:Fx P g ops tm0 nx0 vals effs nxs ts) (hv:Inv g ops tm0 nx0 w0 fz M vals effs nxs L a w e) {i:Nat} {o:Oper} (ho:ops[i]? =some o) (hLi:L i=false) (hb : ∀j∈bindsOn o,L j=true)
 (hcl : ∀j oj,ops[j]? =some oj→L j=true→∀k∈bindsOn oj,L k=true) {Q:Exit→Act→World→Prop} {K:Act→World→Prop} (hK : ∀a' w' e',Inv g ops tm0 nx0 w0 fz M vals effs nxs (upd L i) a' w' e'→K a' w'):wpOp P ops Q i K a w:=by
 have hlist : ∀j∈(clsGo ops.toList []).getD i [],L j=true:=fun j hj=>cl_listed h.lt hcl i j (fun o' ho'=>by rw [ho] at ho';cases ho';exact hb) hj
 have hback : ∀j,L j=true→i ∉ (clsGo ops.toList []).getD j []:=fun j hj hi=>by
  have:=cl_listed h.lt hcl j i (fun o' ho'=>hcl j o' ho' hj) hi
  rw [hLi] at this
  cases this
 have hi:i<ops.size:=(Array.getElem?_eq_some_iff.1 ho).1
 unfold wpOp
 simp only [ho]
 rcases h.step ho with ⟨out,tm,h1,h2,h3,h4,h5,h6,h7⟩ | ⟨h3,h4,h5,h7⟩
 ·rw [if_pos (hv.guard h ho hb hback h7)]
  refine .inl (wp_never ?_)
  have hρ : ∀x∈o.op.operands,R w e (ev tm x) (a.eval x):=fun x hx=>by
   cases x with
   | tmp t=>
     have ht:t∈o.looksAt ops:=List.mem_append_left _ (List.mem_filterMap.2 ⟨.tmp t,by simpa using hx,rfl⟩)
     show R w e (tm.getD t .dead) (a.tmps.getD t undef)
     have he:=h6.getD t
     rw [he.R,List.getD_eq_getElem?_getD]
     cases hp:(TV g.dsts tm0 (vals.take i))[t]? with
     | none=>simp only [Option.getD_none];unfold R;trivial
     | some p=>exact hv.tv h ho hb hback ht p hp
   | const v=>exact R_const v
   | global g=>unfold ev R;trivial
   | func f=>unfold ev R;exact⟨#[],rfl,by unfold Rs;rfl⟩
  have hzw:FzW w e.fz:=hv.ez.fw hv.fzb hv.low
  have hz:=hzw.lt
  have hn1:nxs.getD (i+1) 0=newIds (nxs.getD i 0) out.eff:=by rw [List.getD_eq_getElem?_getD,h5];rfl
  have hn0:nx0≤nxs.getD i 0:=by have:=h.nxs_mono (Nat.zero_le i) (by omega);rwa [h.tr.st] at this
  have hfresh : ∀k,nxs.getD i 0≤k→(out.eff.get k).isSome =true→¬e.on k:=fun k hk hs hon=>by
   have hlt:k<nxs.getD (i+1) 0:=by rw [hn1];exact newIds_lt hs
   rcases hv.on k hon with h8 | ⟨j,hj,hLj,h8,h9⟩
   ·omega
   ·have : i=j:=h.far hi (by rw [←h.len];exact hj) hk hlt h8 h9
    subst this
    rw [hLi] at hLj
    cases hLj
  have hdone:Done P o a w e (nxs.getD i 0) out:=aop_ok h.hc h1 h2 hρ ⟨fun id o' hid=>hv.ob id o' (h.seen ho hLi hlist hback hid),hzw,hv.dis⟩ hfresh
  refine Oper.wp_mono ?_ hdone
  intro a' w' hpost
  obtain⟨u,e',rfl,hp⟩:=hpost
  have hlowblk : ∀b,b<w0.heap.size→¬M b→w'.heap[b]? =w.heap[b]? :=fun b hb' hM=>hp.chg.block b (Nat.lt_of_lt_of_le hb' hv.low.size) fun ⟨k,hk,_,hkb⟩=>by
   rcases (hv.bd k b hk hkb).1 with q | q
   ·omega
   ·exact hM q
  have hsame:Same e.fz w w':=hv.ez.same hz hp
  obtain⟨p1,p2,p3,p4⟩:=hv.put h ho h3 (fun p x=>R_mono hsame hp.le p x) hp.val
  obtain⟨hd',hb''⟩:=hp.keep (X:=fun b=>w0.heap.size≤b∨M b) (fun b hb=>.inl (Nat.le_trans hv.low.size hb)) hv.lo hv.dis hv.bd
  refine hK _ w' e' ⟨p1,p3,p4,?_,hp.lo hv.lo,?_,hd',hb'',hv.ez.post hz hv.low.size hv.lo (fun k b q r=>(hv.bd k b q r).2) hp,hv.fzb,⟨hp.chg.os.trans hv.low.os,hp.chg.tape.trans hv.low.tape,hp.chg.output.trans hv.low.output,Nat.le_trans hv.low.size hp.chg.size,fun b hb hM=>(hlowblk b hb hM).trans (hv.low.block b hb hM)⟩,root_le hv.root hp.le,p2⟩
  ·intro id ob hid
   cases hx:out.eff.get id with
   | some o'=>
     have hl:=ovl_last (L:=upd L i) (id:=id) (o:=o') effs 0 i g.h0 out.eff h4 hx (by rw [Nat.zero_add,upd_same]) (fun j y hij hy hLj=>by
      rw [Nat.zero_add,upd_ne L (by omega)] at hLj
      cases hy2:y.get id with
      | none=>rfl
      | some o''=>
        exfalso
        rcases h.order h4 hy (by rw [hx];rfl) (by rw [hy2];rfl) (by omega) with h8 | h8
        ·exact hback j hLj h8
        ·have:=(cl_lt h.lt i j h8).1;omega)
     rw [hl] at hid
     cases hid
     exact hp.eff id _ hx
   | none=>
     have hag:(ovl (upd L i) 0 effs g.h0).get id=(ovl L 0 effs g.h0).get id:=ovl_agree effs 0 g.h0 g.h0 rfl fun j x hj hs=>by
      rw [Nat.zero_add]
      refine upd_ne L fun hji=>?_
      subst hji
      rw [h4] at hj
      cases hj
      rw [hx] at hs
      cases hs
     rw [hag] at hid
     exact hp.ob hsame hv.dis hx (hv.ob id ob hid)
  ·intro id hid
   rcases hp.new id hid with h8 | ⟨h8,h9⟩
   ·rcases hv.on id h8 with h10 | ⟨j,hj,hLj,h10⟩
    ·exact .inl h10
    ·exact .inr ⟨j,hj,by unfold upd;rw [hLj,Bool.or_true],h10⟩
   ·exact .inr ⟨i,by rw [h.len];exact hi,upd_same L i,h8,by rw [hn1];exact newIds_lt h9⟩
 ·rw [if_neg (by rw [hv.guard h ho hb hback h7];exact Bool.false_ne_true)]
  obtain⟨p1,p2,p3,p4⟩:=hv.put h ho h3 (w':=w) (e':=e) (u:=undef) (fun _ _ hr=>hr) (by unfold R;exact⟨#[],rfl,by unfold Rs;rfl⟩)
  refine hK _ w e ⟨p1,p3,p4,?_,hv.lo,?_,hv.dis,hv.bd,hv.ez,hv.fzb,hv.low,hv.root,p2⟩
  ·intro id ob hid
   have hag:(ovl (upd L i) 0 effs g.h0).get id=(ovl L 0 effs g.h0).get id:=ovl_agree effs 0 g.h0 g.h0 rfl fun j x hj hs=>by
    rw [Nat.zero_add]
    refine upd_ne L fun hji=>?_
    subst hji
    rw [h4] at hj
    cases hj
    cases hs
   rw [hag] at hid
   exact hv.ob id ob hid
  ·intro id hid
   rcases hv.on id hid with h10 | ⟨j,hj,hLj,h10⟩
   ·exact .inl h10
   ·exact .inr ⟨j,hj,by unfold upd;rw [hLj,Bool.or_true],h10⟩
end
end Ax
end Go.Proofs.YtmomiifkdfmahaaGreatDoor
namespace Go.Proofs.YtmomiifkdfmahaaGreatDoor
namespace Ax
open Go.RowKit RegP RegL
section
variable {P:Program} {g:Rg} {ops:Array Oper} {tm0:List PV} {nx0:Nat} {w0 w:World} {fz:Nat→Prop} {M:Root} {vals:List PV} {effs:List AH} {nxs:List Nat} {ts:List (List Nat)} {L:Nat→Bool} {a:Act} {e:Env}
theorem Inv.all (h:Fx P g ops tm0 nx0 vals effs nxs ts) (hv:Inv g ops tm0 nx0 w0 fz M vals effs nxs L a w e) (hL : ∀i,i<ops.size→L i=true) {tm':List PV} (he:Eqv tm' (TV g.dsts tm0 vals)) :
 SR w0 fz M ⟨tm',effs.foldl (fun h e=>e++h) g.h0,nxs.getD ops.size 0⟩ a w e:=by
 refine⟨by rw [hv.size];show _=tm'.length;rw [he.1,TV_len],?_,?_,hv.lo,?_,hv.dis,hv.bd,hv.ez,hv.fzb,hv.low,hv.root,hv.defers⟩
 ·intro t p hp
  have hlt:=(List.getElem?_eq_some_iff.1 hp).1
  obtain⟨q,hq⟩ : ∃q,(TV g.dsts tm0 vals)[t]? =some q:=⟨_,List.getElem?_eq_getElem (by rw [←he.1];exact hlt)⟩
  rw [(he.2 t p q hp hq).R]
  unfold TV at hq
  have hmem : ∀(d:Option Nat) (v:PV),(d,v)∈g.dsts.zip vals→∃(j:Nat) (oj:Oper),ops[j]? =some oj∧oj.dst=d∧vals[j]? =some v:=fun d v hm=>by
   obtain⟨j,hj⟩:=List.mem_iff_getElem?.1 hm
   rw [List.getElem?_zip_eq_some] at hj
   obtain⟨h1,h2⟩:=hj
   rw [h.dst,List.getElem?_map] at h1
   obtain⟨oj,h3,h4⟩:=Option.map_eq_some_iff.1 h1
   exact⟨j,oj,by simpa using h3,h4,h2⟩
  by_cases hex : ∃(j:Nat) (oj:Oper),ops[j]? =some oj∧oj.dst=some t
  ·obtain⟨j,oj,hoj,hdj⟩:=hex
   have hjl:j<ops.size:=(Array.getElem?_eq_some_iff.1 hoj).1
   have hvj:vals[j]? =some (vals[j]'(by rw [h.len];exact hjl)):=List.getElem?_eq_getElem _
   generalize vals[j]'(by rw [h.len];exact hjl)=vj at hvj
   rw [fold_put_yes (t:=t) (v:=vj)] at hq
   ·obtain⟨q',hq',rfl⟩:=Option.map_eq_some_iff.1 hq
    exact hv.yes j oj t _ hoj hdj (hL j hjl) hvj (List.getElem?_eq_some_iff.1 hq').1
   ·refine List.mem_iff_getElem?.2 ⟨j,?_⟩
    rw [List.getElem?_zip_eq_some]
    exact⟨by rw [h.dst,List.getElem?_map,Array.getElem?_toList,hoj];exact congrArg some hdj,hvj⟩
   ·intro v' hm
    obtain⟨j',oj',h2,h3,h4⟩:=hmem _ _ hm
    have:=h.uniq h2 hoj h3 hdj
    subst this
    rw [hvj] at h4
    cases h4
    rfl
  ·rw [fold_put_no (t:=t)] at hq
   ·exact hv.no t q (fun j oj h1 h2=>absurd ⟨j,oj,h1,h2⟩ hex) hq
   ·intro d v hm hd
    obtain⟨j',oj',h2,h3, -⟩:=hmem _ _ hm
    exact hex ⟨j',oj',h2,by rw [h3,hd]⟩
 ·intro id o hid
  refine hv.ob id o ?_
  rw [foldl_ovl effs 0] at hid
  rw [←hid]
  refine ovl_agree effs 0 g.h0 g.h0 rfl fun j x hj _=>?_
  rw [Nat.zero_add]
  exact hL j (by rw [←h.len,←h.tr.lenE];exact (List.getElem?_eq_some_iff.1 hj).1)
 ·intro id hid
  show id<nxs.getD ops.size 0
  rcases hv.on id hid with h1 | ⟨j,hj, -, -,h2⟩
  ·have:=h.nxs_mono (Nat.zero_le ops.size) (Nat.le_refl _)
   rw [h.tr.st] at this
   omega
  ·have:=h.nxs_mono (i:=j+1) (j:=ops.size) (by rw [←h.len];exact hj) (Nat.le_refl _)
   omega
theorem draw_any (h:Fx P g ops tm0 nx0 vals effs nxs ts) {tm':List PV} (he:Eqv tm' (TV g.dsts tm0 vals)) {Q':Exit→Act→World→Prop} (hQ : ∀a w e,SR w0 fz M ⟨tm',effs.foldl (fun h e=>e++h) g.h0,nxs.getD ops.size 0⟩ a w e→Q' .normal a w) :
 ∀(m:Nat) (listed:Array Bool) (a:Act) (w:World) (e:Env),unl listed ops.size=m→listed.size=ops.size→(∀i o,ops[i]? =some o→listed.getD i false=true→∀e∈bindsOn o,listed.getD e false=true)→
  Inv g ops tm0 nx0 w0 fz M vals effs nxs (fun i=>listed.getD i false) a w e→wpAny P .any ops Q' m listed a w:=by
 intro m
 induction m with
 | zero=>
   intro listed a w e hm hsz hcl hv
   have hall:=unl_zero hm
   refine⟨?_,hQ a w e (hv.all h hall he)⟩
   rw [List.eq_nil_iff_forall_not_mem]
   intro i hi
   obtain⟨hun,o,hoi, -⟩:=ready_iff.1 hi
   have:=hall i (Array.getElem?_eq_some_iff.1 hoi).1
   have hlt:i<listed.size:=by rw [hsz];exact (Array.getElem?_eq_some_iff.1 hoi).1
   simp only [Array.getD_eq_getD_getElem?,Array.getElem?_eq_getElem hlt,Option.getD_some] at this hun
   rw [this] at hun
   cases hun
 | succ m ih=>
   intro listed a w e hm hsz hcl hv
   obtain⟨i0,hi0,hu0,hb0⟩:=unl_pos (n:=ops.size) (listed:=listed) (by omega)
   refine⟨fun hnil=>?_,fun i hi=>?_⟩
   ·exfalso
    have ho:ops[i0]? =some ops[i0]:=Array.getElem?_eq_getElem hi0
    have : i0∈Region.ready .any ops listed:=ready_iff.2 ⟨by
     have : i0<listed.size:=by omega
     simpa [Array.getD_eq_getD_getElem?,Array.getElem?_eq_getElem this] using hu0,_,ho,fun e he=>hb0 e (h.lt i0 _ ho e he)⟩
    rw [hnil] at this
    cases this
   ·obtain⟨hun,o,hoi,hall⟩:=ready_iff.1 hi
    have his:i<ops.size:=(Array.getElem?_eq_some_iff.1 hoi).1
    have hilt:i<listed.size:=by omega
    have hun':listed.getD i false=false:=by
     simpa [Array.getD_eq_getD_getElem?,Array.getElem?_eq_getElem hilt] using hun
    have hupd:(fun j=>(listed.setIfInBounds i true).getD j false)=upd (fun j=>listed.getD j false) i:=by
     funext j
     by_cases hji:j=i
     ·subst hji
      rw [upd_same]
      simp [hilt]
     ·rw [upd_ne _ hji];exact getD_set_ne false (fun e=>hji e.symm)
    refine hv.step h hoi hun' hall hcl fun a' w' e' hv'=>ih _ a' w' e' ?_ (by simpa using hsz) ?_ (by rw [hupd];exact hv')
    ·have:=unl_set (n:=ops.size) (listed:=listed) (i:=i) hilt hun' his
     omega
    ·intro j oj hj hLj e he
     by_cases hji:j=i
     ·subst hji
      rw [hoi] at hj;cases hj
      exact getD_set_true (hall e he)
     ·rw [getD_set_ne false (fun e=>hji e.symm)] at hLj
      exact getD_set_true (hcl j oj hj hLj e he)
end
theorem region_draw {P:Program} {c:Cx} {w0 w:World} {fz:Nat→Prop} {M:Root} {st:AS} {a:Act} {e:Env} {id:Nat} {ops:Array Oper} {Q:AS→Prop} {Q':Exit→Act→World→Prop} (hc:CxOk P c) (hm:P.follows .mixedOrders =true) (hck:drawOk ops=true)
 (hQ : ∀st a w e,Q st→SR w0 fz M st a w e→Q' .normal a w) (h:regW ⟨c,true,ops.toList.map (·.dst),st.h⟩ Q ops.toList 0 [] [] [] st.tm st.nx) (hs:SR w0 fz M st a w e):(Code.region id ops true).wp P Q' a w:=by
 obtain⟨vals,effs,nxs,ts,tm',h1,h2,hap,h3,h4⟩:=regW_trace (g:=⟨c,true,ops.toList.map (·.dst),st.h⟩) rfl (ops:=ops.toList) rfl (tm0:=st.tm) (n0:=st.nx) (cl:=clsGo ops.toList []) ops.toList [] [] [] [] [st.nx] st.tm st.nx ⟨[],rfl,rfl⟩ rfl rfl
  ⟨rfl,rfl,rfl,rfl,fun j o hj=>by simp at hj⟩ rfl ⟨by rw [TV_len],fun t p q hp hq=>by
    have : TV (ops.toList.map (·.dst)) st.tm []=st.tm:=by unfold TV;simp
    rw [this,hp] at hq
    cases hq
    exact .refl _⟩ h
 have h1':vals.length=ops.size:=by rw [h1];simp
 unfold drawOk at hck
 rw [List.all_eq_true] at hck
 have hfx:Fx P ⟨c,true,ops.toList.map (·.dst),st.h⟩ ops st.tm st.nx vals effs nxs ts:=⟨hc,rfl,fun i o ho=>hck (o,i) (List.mem_zipIdx_iff_getElem?.2 (by simpa using ho)),hap,h1',h2⟩
 refine wp_region_any hm ?_
 have hfalse : ∀k,(Array.replicate ops.size false).getD k false=false:=fun k=>by
  by_cases h:k<ops.size<;>simp [h]
 have hu:unl (Array.replicate ops.size false) ops.size=ops.size:=by
  have : ∀m,unl (Array.replicate ops.size false) m=m:=by
   intro m
   induction m with
   | zero=>rfl
   | succ m ih=>
     unfold unl at *
     rw [List.range_succ,List.countP_append,ih]
     by_cases h:m<ops.size<;>simp [h]
  exact this _
 refine draw_any hfx h3 (fun a w e hsr=>hQ _ a w e (by simpa using h4) hsr) ops.size (Array.replicate ops.size false) a _ e hu (by simp) (fun i o _ h=>by rw [hfalse i] at h;cases h) ?_
 refine⟨hs.size,fun j o t v _ _ hL=>absurd hL (by rw [hfalse j];exact Bool.false_ne_true),fun t p _ hp=>R_mono (w:=w) (w':=w.drew) (fun _ _=>rfl) (.refl e) p _ (hs.tm t p hp),?_,hs.lo,fun id hid=>.inl (hs.lt id hid),hs.dis,hs.bd,⟨hs.ez.sub,hs.ez.sup,hs.ez.nf⟩,hs.fzb,⟨hs.low.os,hs.low.tape,hs.low.output,hs.low.size,hs.low.block⟩,hs.root,hs.defers⟩
 intro id o hid
 have hag:(ovl (fun i=>(Array.replicate ops.size false).getD i false) 0 effs st.h).get id=st.h.get id:=by
  rw [show (fun i=>(Array.replicate ops.size false).getD i false)=fun _=>false from funext hfalse]
  have : ∀(effs:List AH) (i:Nat),ovl (fun _=>false) i effs st.h=st.h:=by
   intro effs
   induction effs with
   | nil=>intro i;rfl
   | cons x r ih=>intro i;unfold ovl;exact ih (i+1)
  rw [this]
 obtain⟨q1,q2,q3⟩:=hs.ob id o (by rw [←hag];exact hid)
 exact⟨OR_mono (w:=w) (w':=w.drew) (fun _ _=>rfl) (.refl e) q2 (fun b _=>⟨fun h=>h,rfl⟩) q1,q2,q3⟩
end Ax
end Go.Proofs.YtmomiifkdfmahaaGreatDoor
namespace Go.Proofs.YtmomiifkdfmahaaGreatDoor
namespace Ax
open Go.RowKit
def chk (ρ:List Nat) (h:AH) (n:Nat):Bool:=nodupB ρ&&(Nat.beq ρ.length n&&h.all fun q=>Nat.blt q.1 n&&q.2.idIn (List.range n))
mutual
def sameV:PV→PV→Prop
 | .bt,.b y=>y=true
 | .bf,.b y=>y=false
 | .b x,.b y=>x=y
 | .nb x,.b y=>(!x)=y
 | .i k a,.i k' b=>k=k'∧a=b
 | .s a,.s b=>a=b
 | .tup l,.tup m=>sameL l m
 | .agg l,.agg m=>sameL l m
 | .esl,.rsl _ L=>L=[]
 | p,q=>p=q
def sameL:List PV→List PV→Prop
 | [],[]=>True
 | [p],[q]=>sameV p q
 | p::ps,q::qs=>sameV p q∧sameL ps qs
 | _,_=>False
end
def sameO:Ob→Ob→Prop
 | .cells l ty,.cells m ty'=>sameL l m∧ty=ty'
 | .it l k,.it l' k'=>l=l'∧k=k'
 | o,o'=>o=o'
def obs (ρ:List Nat) (st:AH):AH→Prop→Prop
 | [],r=>r
 | (k,o)::l,r=>(match st.get (look ρ k) with | some x=>sameO x (o.rn (look ρ)) | none=>False)∧obs ρ st l r
def tms (ρ:List Nat) (tm:List PV):List (Nat×PV)→Prop→Prop
 | [],r=>r
 | (t,p)::l,r=>sameV (tm.getD t .dead) (p.rn (look ρ))∧tms ρ tm l r
def keep (n0:Nat) (ρ:List Nat):Bool:=Nat.ble n0 ρ.length&&(List.range n0).all fun k=>Nat.beq (look ρ k) k
def meets (n n0:Nat) (ρ:List Nat) (st:AS) (li:LI) (r:Prop):Prop:=
 (Nat.beq st.tm.length n&&keep n0 ρ&&chk ρ li.h li.nx&&li.tm.all fun q=>q.2.idIn (List.range li.nx))=true∧tms ρ st.tm li.tm (obs ρ st.h li.h r)
abbrev WP:=(AEx→AS→Prop)→AS→Prop
def unr (b:WP):Nat→WP
 | 0,_,_=>False
 | n+1,Q,st=>b (fun e st'=>match e with | .normal =>unr b n Q st' | e=>Q e st') st
inductive LV where
 | s (t:Nat) (k:AtTy) | c (id off:Nat) (k:AtTy) | o (id:Nat) (sh:List AtTy)
@[reducible] def LV.k:LV→AtTy
  | .s _ k=>k
  | .c _ _ k=>k
  | .o _ sh=>.r sh
@[reducible] def St2 (x:Type):List LV→Type
  | []=>x
  | v::r=>x×St2 v.k.Ty r
@[reducible] def St:List LV→Type
  | []=>Unit
  | v::r=>St2 v.k.Ty r
inductive Pt where
 | s (t:Nat) | c (id off:Nat)
def Pt.at (st:AS):Pt→PV
 | .s t=>st.tm.getD t .dead
 | .c id off=>match st.h.get id with
   | some (.cells l _)=>l.getD off .dead
   | some (.it _ k)=>.i .i64 k
   | _=>.dead
def rid:PV→Nat
 | .osl id=>id
 | .ptr id _=>id
 | _=>0
def rhoAt (st st':AS) (k:Nat):List Pt→Nat
 | []=>k
 | p::r=>if Nat.beq (rid (p.at st)) k then rid (p.at st') else rhoAt st st' k r
def rho (st st':AS) (al:List Pt):List Nat:=(List.range st.nx).map fun k=>rhoAt st st' k al
def gI:PV→Int
 | .i _ n=>n
 | _=>0
def gB:PV→Bool
 | .bt =>true
 | .b x=>x
 | .nb x=>!x
 | _=>false
def gS:PV→List UInt8
 | .s l=>l
 | _=>[]
def gR (sh:List AtTy):PV→List (El sh)
 | .rsl sh' L=>(castL sh' sh L).getD []
 | _=>[]
def gv:(t:AtTy)→PV→t.Ty
 | .i _,v=>gI v
 | .b,v=>gB v
 | .s,v=>gS v
 | .r sh,v=>gR sh v
def getO (sh:List AtTy):Option Ob→List (El sh)
 | some (.own sh' L _)=>(castL sh' sh L).getD []
 | some (.arr k _ L _)=>(castL [k] sh L).getD []
 | _=>[]
def get1 (ρ:List Nat) (st:AS):(v:LV)→v.k.Ty
 | .s t k=>gv k (st.tm.getD t .dead)
 | .c id off k=>gv k (Pt.at st (.c (look ρ id) off))
 | .o id sh=>getO sh (st.h.get (look ρ id))
def gets2 (ρ:List Nat) (st:AS) {x:Type} (a:x):(r:List LV)→St2 x r
 | []=>a
 | v::r=>(a,gets2 ρ st (get1 ρ st v) r)
def gets (ρ:List Nat) (st:AS):(vs:List LV)→St vs
 | []=>()
 | v::r=>gets2 ρ st (get1 ρ st v) r
def pvs2 {x:Type} (f:x→PV) (v0:LV):(r:List LV)→St2 x r→List (LV×PV)
 | [],a=>[(v0,f a)]
 | v::r,p=>(v0,f p.1)::pvs2 v.k.pv v r p.2
def pvs:(vs:List LV)→St vs→List (LV×PV)
 | [],_=>[]
 | v::r,s=>pvs2 v.k.pv v r s
def slots:List (LV×PV)→List (Nat×PV)
 | []=>[]
 | (.s t _,p)::r=>(t,p)::slots r
 | _::r=>slots r
def setR (sh:List AtTy) (L:List (El sh)):Ob→Ob
 | .own _ _ ty=>.own sh L ty
 | .arr k n M ty=>match castL sh [k] L with
   | some L'=>.arr k n L' ty
   | none=>.arr k n M ty
 | o=>o
def setO (k:Nat) (o:Ob):List (LV×PV)→Ob
 | []=>o
 | (.c id off _,p)::r=>setO k (if Nat.beq id k then (match o with | .cells l ty=>.cells (l.set off p) ty | .it l _=>.it l (gI p) | o=>o) else o) r
 | (.o id _,.rsl sh L)::r=>setO k (if Nat.beq id k then (setR sh L o) else o) r
 | _::r=>setO k o r
def kept (ds al vt mv:List Nat):Nat→List PV→List (Nat×PV)
 | _,[]=>[]
 | t,.dead ::r=>kept ds al vt mv (t+1) r
 | t,p::r=>if !vt.contains t&&(al.contains t||(!ds.contains t&&p.ids.all fun k=>!mv.contains k)) then (t,p)::kept ds al vt mv (t+1) r else kept ds al vt mv (t+1) r
def ptS:List Pt→List Nat
 | []=>[]
 | .s t::r=>t::ptS r
 | _::r=>ptS r
def keptH (h:AH) (dr:List Nat) (vl:List (LV×PV)):Nat→AH
 | 0=>[]
 | k+1=>if dr.contains k then keptH h dr vl k else match h.get k with
   | some (.gone)=>keptH h dr vl k
   | some o=>(k,setO k o vl)::keptH h dr vl k
   | none=>keptH h dr vl k
def hd (st:AS) (ds:List Nat) (al:List Pt) (dr:List Nat) (vl:List (LV×PV)):LI:=
 ⟨slots vl++kept ds (ptS al) ((slots vl).map (·.1)) (al.map fun p=>rid (p.at st)) 0 st.tm,keptH st.h dr vl st.nx,st.nx⟩
def nil1 (st:AS) (p:Pt) (sh:List AtTy) (ty:TypeId):AS:=match p with
 | .s t=>match st.tm.getD t .dead with
   | .esl =>⟨st.tm.set t (.osl st.nx),(st.nx,.own sh [] ty)::st.h,st.nx+1⟩
   | _=>st
 | .c id off=>match st.h.get id with
   | some (.cells l tc)=>match l.getD off .dead with
     | .esl =>⟨st.tm,(st.nx,.own sh [] ty)::(id,.cells (l.set off (.osl st.nx)) tc)::st.h,st.nx+1⟩
     | _=>st
   | _=>st
def nils:List (Pt×List AtTy×TypeId)→AS→AS
 | [],st=>st
 | (p,sh,ty)::r,st=>nils r (nil1 st p sh ty)
structure Hd (σ:Type) where
 J:σ→Prop
 μ:σ→Nat
 lt:Nat→Nat→Prop
def meet2 (n0:Nat) (ds:List Nat) (al:List Pt) (dr:List Nat) (vs:List LV) (st st':AS) (K:St vs→Prop) (ρ:List Nat) (s:St vs):Prop:=meets st.tm.length n0 ρ st' (hd st ds al dr (pvs vs s)) (K s)
def meet1 (n0:Nat) (ds:List Nat) (al:List Pt) (dr:List Nat) (vs:List LV) (st st':AS) (K:St vs→Prop) (ρ:List Nat):Prop:=meet2 n0 ds al dr vs st st' K ρ (gets ρ st' vs)
def loopB (n0:Nat) (ds:List Nat) (b:WP) (Q:AEx→AS→Prop) (vs:List LV) (al:List Pt) (dr:List Nat) (H:Hd (St vs)) (st:AS):Prop:=
 meet1 n0 ds al dr vs st st (fun s=>H.J s) (List.range st.nx)∧∀s,H.J s→b (fun e st'=>match e with
  | .normal =>meet1 n0 ds al dr vs st st' (fun s'=>H.J s'∧H.lt (H.μ s') (H.μ s)) (rho st st' al)
  | e=>Q e st') ((hd st ds al dr (pvs vs s)).as st.tm.length)
def loopV (n0:Nat) (ds:List Nat) (b:WP) (Q:AEx→AS→Prop) (st0:AS):Prop:=
 ∃(key:Nat) (nw:List (Pt×List AtTy×TypeId)) (vs:List LV) (al:List Pt) (dr:List Nat) (H:Hd (St vs)),Nat.beq key (ds.headD 0)=true∧(∀m n,H.lt m n→m<n)∧loopB n0 ds b Q vs al dr H (nils nw st0)
def loopW (n0:Nat) (ds:List Nat) (b:WP) (Q:AEx→AS→Prop) (st:AS):Prop:=
 (∀_:Unit,unr b 8 Q st)∨loopV n0 ds b Q st
def dsO:List Oper→List Nat
 | []=>[]
 | o::r=>match o.dst with
   | some t=>t::dsO r
   | none=>dsO r
def dsOf:Code→List Nat
 | .region _ ops _=>dsO ops.toList
 | .seq a b=>dsOf a++dsOf b
 | .cond _ a b=>dsOf a++dsOf b
 | .block _ a=>dsOf a
 | .loop a=>dsOf a
 | _=>[]
def setB (st:AS) (x:Operand) (v:PV):AS:=match x with
 | .tmp t=>⟨st.tm.set t v,st.h,st.nx⟩
 | _=>st
def awp (c:Cx):Code→WP
 | .skip,Q,st=>Q .normal st
 | .region _ ops draw,Q,st=>regW ⟨c,draw,ops.toList.map (·.dst),st.h⟩ (Q .normal) ops.toList 0 [] [] [] st.tm st.nx
 | .seq a b,Q,st=>awp c a (fun e st'=>match e with | .normal =>awp c b Q st' | e=>Q e st') st
 | .cond x t e,Q,st=>match ev st.tm x with
   | .bt =>awp c t Q st
   | .bf =>awp c e Q st
   | .b v=>(v=true→awp c t Q (setB st x .bt))∧(v=false→awp c e Q (setB st x .bf))
   | .nb v=>(v=false→awp c t Q (setB st x .bt))∧(v=true→awp c e Q (setB st x .bf))
   | _=>False
 | .block id body,Q,st=>awp c body (fun e st'=>match e with | .exit k=>if k=id then Q .normal st' else Q (.exit k) st' | e=>Q e st') st
 | .loop body,Q,st=>loopW c.n0 (dsOf body) (awp c body) Q st
 | .exit id,Q,st=>Q (.exit id) st
 | .ret,Q,st=>Q .ret st
 | _,_,_=>False
def codeOk:Code→Bool
 | .region _ ops draw=>!draw||drawOk ops
 | .seq a b=>codeOk a&&codeOk b
 | .cond _ a b=>codeOk a&&codeOk b
 | .block _ a=>codeOk a
 | .loop a=>codeOk a
 | .skip | .exit _ | .ret =>true
 | _=>false
section
variable {w w' w0:World} {e e':Env} {fz:Nat→Prop} {M:Root} {P:Program} {c:Cx} {st:AS} {a:Act}
mutual
theorem same_R : ∀(p q:PV) (v:Value),sameV p q→R w e p v→R w e q v:=by
 intro p q v h hr
 unfold sameV at h
 split at h
 ·subst h;rw [R_bt] at hr;rw [R_b];exact hr
 ·subst h;rw [R_bf] at hr;rw [R_b];exact hr
 ·subst h;exact hr
 ·subst h;rw [R_nb] at hr;rw [R_b];exact hr
 ·obtain⟨rfl,rfl⟩:=h;exact hr
 ·subst h;exact hr
 ·unfold R at *;obtain⟨vs,h1,h2⟩:=hr;exact⟨vs,h1,same_Rs _ _ _ h h2⟩
 ·unfold R at *;obtain⟨vs,h1,h2⟩:=hr;exact⟨vs,h1,same_Rs _ _ _ h h2⟩
 ·subst h;unfold R at *;exact⟨none,0,hr,Nat.le_refl _,fun i x hx=>by simp at hx⟩
 ·subst h;exact hr
theorem same_Rs : ∀(l m:List PV) (vs:List Value),sameL l m→Rs w e l vs→Rs w e m vs:=by
 intro l m vs h hr
 unfold sameL at h
 split at h
 ·exact hr
 ·unfold Rs at *;obtain⟨u,us,h1,h2,h3⟩:=hr;exact⟨u,us,h1,same_R _ _ _ h h2,h3⟩
 ·unfold Rs at *;obtain⟨u,us,h1,h2,h3⟩:=hr;exact⟨u,us,h1,same_R _ _ _ h.1 h2,same_Rs _ _ _ h.2 h3⟩
 ·exact h.elim
end
theorem same_O {o o':Ob} {id:Nat} (h:sameO o o') (hr:OR w e id o):OR w e id o':=by
 unfold sameO at h
 split at h
 ·obtain⟨h1,rfl⟩:=h
  obtain⟨b,vs,h2,h3,h4,h5⟩:=hr
  exact⟨b,vs,h2,h3,h4,same_Rs _ _ _ h1 h5⟩
 ·obtain⟨rfl,rfl⟩:=h;exact hr
 ·subst h;exact hr
theorem same_gn {o o':Ob} (h:sameO o o'):o.gn=o'.gn:=by
 unfold sameO at h
 split at h
 ·rfl
 ·rfl
 ·subst h;rfl
theorem obs_mem {ρ:List Nat} {st:AH} {r:Prop} : ∀{h:AH},obs ρ st h r→r∧∀q∈h,∃x,st.get (look ρ q.1)=some x∧sameO x (q.2.rn (look ρ))
 | [],h=>⟨h,fun q hq=>absurd hq (by simp)⟩
 | (k,o)::l,h=>by
   unfold obs at h
   obtain⟨h1,h2⟩:=h
   obtain⟨h3,h4⟩:=obs_mem h2
   refine⟨h3,fun q hq=>?_⟩
   rcases List.mem_cons.1 hq with rfl | hq
   ·split at h1
    ·rename_i x hx;exact⟨x,hx,h1⟩
    ·exact h1.elim
   ·exact h4 q hq
theorem tms_mem {ρ:List Nat} {tm:List PV} {r:Prop} : ∀{l:List (Nat×PV)},tms ρ tm l r→r∧∀q∈l,sameV (tm.getD q.1 .dead) (q.2.rn (look ρ))
 | [],h=>⟨h,fun q hq=>absurd hq (by simp)⟩
 | (t,p)::l,h=>by
   unfold tms at h
   obtain⟨h1,h2⟩:=h
   obtain⟨h3,h4⟩:=tms_mem h2
   refine⟨h3,fun q hq=>?_⟩
   rcases List.mem_cons.1 hq with rfl | hq
   ·exact h1
   ·exact h4 q hq
theorem get_mem : ∀{h:AH} {k:Nat} {o:Ob},h.get k=some o→(k,o)∈h
 | [],k,o,h=>by simp [AH.get] at h
 | (j,x)::r,k,o,h=>by
   unfold AH.get at h
   split at h
   ·rename_i hj
    cases h
    have : j=k:=by simpa using hj
    subst this
    exact List.mem_cons_self
   ·exact List.mem_cons_of_mem _ (get_mem h)
theorem lookT_mem : ∀{l:List (Nat×PV)} {t:Nat} {p:PV},lookT t l=p→p≠.dead →(t,p)∈l
 | [],t,p,h,hd=>absurd h.symm hd
 | (k,v)::l,t,p,h,hd=>by
   unfold lookT at h
   split at h
   ·rename_i hk
    have : k=t:=by simpa using hk
    subst this;subst h
    exact List.mem_cons_self
   ·exact List.mem_cons_of_mem _ (lookT_mem h hd)
theorem SR.meets {n n0:Nat} {ρ:List Nat} {li:LI} {r:Prop} (hn0:M.n=n0) (hs:SR w0 fz M st a w e) (hm:Ax.meets n n0 ρ st li r):r∧∃e',SR w0 fz M (li.as n) a w e':=by
 obtain⟨hck,hm⟩:=hm
 obtain⟨h1,h2⟩:=tms_mem hm
 obtain⟨hr,h3⟩:=obs_mem h1
 unfold chk at hck
 simp only [Bool.and_eq_true,List.all_eq_true,Nat.blt_eq] at hck
 obtain⟨⟨⟨hn,hkeep⟩,hnd,hlen,hob⟩,htm⟩:=hck
 have hn:st.tm.length=n:=by simpa using hn
 subst hn
 have hlen:ρ.length=li.nx:=by simpa using hlen
 have hrn:=e.rn_ok (look ρ) li.nx
 refine⟨hr,e.rn (look ρ) li.nx,?_,?_,?_,fun id h=>⟨h.1,hs.lo _ h.2⟩,fun id h=>h.1,?_,fun k b h hb=>hs.bd (look ρ k) b h.2 hb,⟨hs.ez.sub,hs.ez.sup,fun k b h hb=>hs.ez.nf (look ρ k) b h.2 hb⟩,hs.fzb,hs.low,fun k hk ho=>?_,hs.defers⟩
 ·rw [hs.size];simp [LI.as]
 ·intro t p hp
  simp only [LI.as,List.getElem?_map,Option.map_eq_some_iff] at hp
  obtain⟨t',ht,h4⟩:=hp
  obtain⟨hlt,heq⟩:=List.getElem?_eq_some_iff.1 ht
  have heq:t=t':=by simpa using heq
  subst heq
  by_cases hd:p=.dead
  ·subst hd;unfold R;trivial
  ·have hmem:=lookT_mem h4 hd
   have h5:=h2 _ hmem
   exact R_rn hrn p _ (htm _ hmem) (same_R _ _ _ h5 (ev_R hs.tm (.tmp t)))
 ·intro id o hid
  have hmem:=get_mem hid
  obtain⟨h4,h5⟩:=hob _ hmem
  obtain⟨x,hx,hxo⟩:=h3 _ hmem
  obtain⟨h6,h7,h8⟩:=hs.ob _ _ hx
  exact⟨OR_rn hrn h5 (same_O hxo h6),⟨h4,h7⟩,fun hg=>⟨h4,h8 (by rw [same_gn hxo,rnO_gn];exact hg)⟩⟩
 ·intro k k' b hk hk' hb hb'
  exact look_inj hnd (by rw [hlen];exact hk.1) (by rw [hlen];exact hk'.1) (hs.dis _ _ b hk.2 hk'.2 hb hb')
 ·unfold keep at hkeep
  simp only [Bool.and_eq_true,Nat.ble_eq,List.all_eq_true,List.mem_range] at hkeep
  have hk1:look ρ k=k:=Nat.eq_of_beq_eq_true (hkeep.2 k (by omega))
  obtain⟨q1,q2,q3,q4⟩:=hs.root k hk ho
  refine⟨⟨by omega,by rw [hk1];exact q1⟩,?_,?_,?_⟩
  ·show e.adr (look ρ k)=_;rw [hk1];exact q2
  ·show e.cap (look ρ k)=_;rw [hk1];exact q3
  ·show e.len (look ρ k)=_;rw [hk1];exact q4
theorem SR.setB (hs:SR w0 fz M st a w e) {x:Operand} {p q:PV} (hx:ev st.tm x=p) (hq : ∀u,R w e p u→R w e q u):SR w0 fz M (setB st x q) a w e:=by
 cases x with
 | tmp t=>exact hs.refine_ hx hq
 | const v=>exact hs
 | global g=>exact hs
 | func f=>exact hs
def AQ (w0:World) (fz:Nat→Prop) (M:Root) (Q:AEx→AS→Prop):Exit→Act→World→Prop
 | .normal,a,w=>∃st e,SR w0 fz M st a w e∧Q .normal st
 | .exit id,a,w=>∃st e,SR w0 fz M st a w e∧Q (.exit id) st
 | .ret,a,w=>∃st e,SR w0 fz M st a w e∧Q .ret st
 | _,_,_=>False
def WOk (P:Program) (w0:World) (fz:Nat→Prop) (M:Root) (body:Code) (b:WP):Prop:=∀(Q:AEx→AS→Prop) (st:AS) (a:Act) (w:World) (e:Env),b Q st→SR w0 fz M st a w e→body.wp P (AQ w0 fz M Q) a w
theorem SR.nilp_ (hs:SR w0 fz M st a w e) {sh:List AtTy} {ty:TypeId} {tm:List PV} {x:AH} (htl:tm.length=st.tm.length)
 (htm : ∀e',e.Le e'→e'.fz=e.fz→e'.on st.nx→e'.adr st.nx=none∧e'.len st.nx=0∧e'.cap st.nx=0→∀(t:Nat) (p:PV),tm[t]? =some p→st.tm[t]? =some p∨R w e' p (a.tmps.getD t undef))
 (hx : ∀e',e.Le e'→e'.fz=e.fz→e'.on st.nx→e'.adr st.nx=none∧e'.len st.nx=0∧e'.cap st.nx=0→∀id o,x.get id=some o→st.h.get id=some o∨OR w e' id o∧e.on id∧e.lv id) :
 ∃e',SR w0 fz M ⟨tm,(st.nx,.own sh [] ty)::x,st.nx+1⟩ a w e':=by
 have hno : ¬e.on st.nx:=fun h=>absurd (hs.lt _ h) (Nat.lt_irrefl _)
 obtain⟨E,hE⟩ : ∃E:Env,E={ e with adr:=fun k=>if k=st.nx then none else e.adr k,cap:=fun k=>if k=st.nx then 0 else e.cap k,len:=fun k=>if k=st.nx then 0 else e.len k,on:=fun k=>e.on k∨k=st.nx,lv:=fun k=>e.lv k∨k=st.nx }:=⟨_,rfl⟩
 have hne : ∀k,e.on k→k≠st.nx:=fun k hk h=>hno (h ▸ hk)
 have hle:e.Le E:=by
  subst hE
  exact⟨fun _ h=>.inl h,fun k hk=>if_neg (hne k hk),fun k hk=>if_neg (hne k hk),fun k hk=>if_neg (hne k hk),fun _ h=>h⟩
 have hz:E.adr st.nx=none∧E.len st.nx=0∧E.cap st.nx=0:=by subst hE;exact⟨if_pos rfl,if_pos rfl,if_pos rfl⟩
 have hon:E.on st.nx:=by subst hE;exact .inr rfl
 have hblk : ∀k b,E.blk k b→k≠st.nx∧e.blk k b:=fun k b hb=>by
  obtain⟨y,hy,hb⟩:=hb
  have hk:k≠st.nx:=fun h=>by subst h;rw [hz.1] at hy;cases hy
  refine⟨hk,y,?_,hb⟩
  subst hE
  simpa [hk] using hy
 have hlv : ∀k,k≠st.nx→E.lv k→e.lv k:=fun k hk h=>by subst hE;exact h.resolve_right hk
 have hfz:E.fz=e.fz:=by subst hE;rfl
 refine⟨E,by rw [hs.size];exact htl.symm,?_,?_,?_,?_,?_,?_,⟨fun b h=>by rw [hfz];exact hs.ez.sub b h,fun b h=>by rw [hfz] at h;exact hs.ez.sup b h,fun k b h hb=>by rw [hfz];obtain⟨n1,hb⟩:=hblk k b hb;exact hs.ez.nf k b (hlv k n1 h) hb⟩,hs.fzb,hs.low,root_le hs.root hle,hs.defers⟩
 ·intro t p hp
  rcases htm E hle hfz hon hz t p hp with h | h
  ·exact R_mono (w:=w) (w':=w) (fun _ _=>rfl) hle p _ (hs.tm t p h)
  ·exact h
 ·intro id o hid
  have e1:AH.get ((st.nx,.own sh [] ty)::x) id=if st.nx==id then some (.own sh [] ty) else x.get id:=rfl
  have hid:AH.get ((st.nx,.own sh [] ty)::x) id=some o:=hid
  rw [e1] at hid
  by_cases hk:st.nx=id
  ·subst hk
   rw [if_pos (by simp)] at hid
   cases hid
   exact⟨⟨hz.2.1,.inl ⟨hz.1,rfl,hz.2.2⟩⟩,hon,fun _=>by subst hE;exact .inr rfl⟩
  ·rw [if_neg (by simpa using hk)] at hid
   rcases hx E hle hfz hon hz id o hid with h | ⟨h1,h2,h3⟩
   ·obtain⟨h1,h2,h3⟩:=hs.ob id o h
    refine⟨OR_mono (w:=w) (w':=w) (fun _ _=>rfl) hle h2 (fun b _=>⟨fun h=>by rw [hfz] at h;exact h,rfl⟩) h1,hle.on _ h2,fun hg=>by subst hE;exact .inl (h3 hg)⟩
   ·exact⟨h1,hle.on _ h2,fun _=>by subst hE;exact .inl h3⟩
 ·intro k hk
  subst hE
  exact hk.imp_left (hs.lo k)
 ·intro k hk
  show k<st.nx+1
  subst hE
  rcases hk with hk | rfl
  ·have:=hs.lt k hk;omega
  ·omega
 ·intro k k' b hk hk' hb hb'
  obtain⟨n1,hb⟩:=hblk k b hb
  obtain⟨n2,hb'⟩:=hblk k' b hb'
  exact hs.dis k k' b (hlv k n1 hk) (hlv k' n2 hk') hb hb'
 ·intro k b hk hb
  obtain⟨n1,hb⟩:=hblk k b hb
  exact hs.bd k b (hlv k n1 hk) hb
theorem SR.nil1 (hs:SR w0 fz M st a w e) (p:Pt) (sh:List AtTy) (ty:TypeId) : ∃e',SR w0 fz M (Ax.nil1 st p sh ty) a w e':=by
 have hval : ∀{e':Env} {u:Value},e'.on st.nx→e'.adr st.nx=none∧e'.len st.nx=0∧e'.cap st.nx=0→R w e .esl u→R w e' (.osl st.nx) u:=fun {e' u} h1 h2 h=>by
  unfold R at h ⊢
  obtain⟨h3,h4,h5⟩:=h2
  rw [h3,h4,h5]
  exact⟨h1,h⟩
 cases p with
 | s t=>
   unfold Ax.nil1
   simp only
   split
   ·rename_i ht
    refine hs.nilp_ (by simp) (fun e' _ _ hon hz s r hr=>?_) fun e' _ _ _ _ id o h=>.inl h
    rw [List.getElem?_set] at hr
    split at hr
    ·rename_i hts
     subst hts
     split at hr
     ·cases hr
      right
      refine hval hon hz ?_
      have:=ev_R hs.tm (.tmp t)
      change R w e (st.tm.getD t .dead) (a.tmps.getD t undef) at this
      rwa [ht] at this
     ·cases hr
    ·exact .inl hr
   ·exact⟨e,hs⟩
 | c id off=>
   unfold Ax.nil1
   simp only
   split
   ·rename_i l tc hg
    split
    ·rename_i hl
     refine hs.nilp_ rfl (fun e' _ _ _ _ t p h=>.inl h) fun e' hle hf hon hz k o hk=>?_
     have e1:AH.get ((id,.cells (l.set off (.osl st.nx)) tc)::st.h) k=if id==k then some (.cells (l.set off (.osl st.nx)) tc) else st.h.get k:=rfl
     rw [e1] at hk
     split at hk
     ·rename_i hik
      have hik:id=k:=by simpa using hik
      subst hik
      cases hk
      obtain⟨h1,h2,h3⟩:=hs.ob id _ hg
      obtain⟨b,vs,q1,q2,q3,q4⟩:=h1
      refine .inr ⟨⟨b,vs,by rw [hle.adr id h2];exact q1,fun h=>q2 (by rw [hf] at h;exact h),q3,Rs_of (by rw [List.length_set];exact Rs_length q4) fun i p u hp hu=>?_⟩,h2,h3 rfl⟩
      rw [List.getElem?_set] at hp
      split at hp
      ·rename_i hoi
       subst hoi
       split at hp
       ·rename_i hlt
        cases hp
        rw [List.getD_eq_getElem?_getD,List.getElem?_eq_getElem hlt] at hl
        obtain⟨v,hv,hr⟩:=Rs_get q4 (List.getElem?_eq_getElem hlt)
        rw [hu] at hv
        cases hv
        exact hval hon hz (by have hl:l[off]=.esl :=hl;rwa [hl] at hr)
       ·cases hp
      ·obtain⟨v,hv,hr⟩:=Rs_get q4 hp
       rw [hu] at hv
       cases hv
       exact R_mono (w:=w) (w':=w) (fun _ _=>rfl) hle p _ hr
     ·exact .inl hk
    ·exact⟨e,hs⟩
   ·exact⟨e,hs⟩
theorem SR.nils (hs:SR w0 fz M st a w e) : ∀nw:List (Pt×List AtTy×TypeId),∃e',SR w0 fz M (Ax.nils nw st) a w e':=by
 intro nw
 induction nw generalizing st e with
 | nil=>exact⟨e,hs⟩
 | cons x r ih=>
   obtain⟨p,sh,ty⟩:=x
   obtain⟨e',h⟩:=hs.nil1 p sh ty
   exact ih h
theorem loop_ok {body:Code} {b:WP} {n0:Nat} {ds:List Nat} (hn0:M.n=n0) (hb:WOk P w0 fz M body b):WOk P w0 fz M (.loop body) (loopW n0 ds b):=by
 intro Q st a w e h hs
 rcases h with h | ⟨-,nw,vs,al,dr,H, -,hlt,h⟩
 ·refine wp_loop_ghost (fun k a' w'=>∃st' e',SR w0 fz M st' a' w' e'∧unr b k Q st') 8 ⟨st,e,hs,h ()⟩ ?_
  rintro k a' w' ⟨st',e',hs',hu⟩
  cases k with
  | zero=>exact hu.elim
  | succ k=>
    unfold unr at hu
    refine wp_mono (hb _ st' a' w' e' hu hs') ?_
    intro x a'' w'' hq
    cases x with
    | normal=>
      obtain⟨st2,e2,h3,h4⟩:=hq
      exact⟨k,Nat.lt_succ_self k,st2,e2,h3,h4⟩
    | exit id=>exact hq
    | ret=>exact hq
    | goto l=>exact hq.elim
    | panic ch=>exact hq.elim
    | outgrown=>exact hq.elim
 ·obtain⟨e1,hs1⟩:=hs.nils nw
  generalize Ax.nils nw st=st1 at h hs1
  obtain⟨h0,h1⟩:=h
  refine wp_loop_ghost (fun k a' w'=>∃s e',H.J s∧H.μ s=k∧SR w0 fz M ((hd st1 ds al dr (pvs vs s)).as st1.tm.length) a' w' e') (H.μ (gets (List.range st1.nx) st1 vs)) ?_ ?_
  ·obtain⟨hJ,e',h2⟩:=SR.meets hn0 hs1 h0
   exact⟨_,e',hJ,rfl,h2⟩
  ·rintro k a' w' ⟨s,e',hJ,rfl,hs'⟩
   refine wp_mono (hb _ _ a' w' e' (h1 s hJ) hs') ?_
   intro y a'' w'' hq
   cases y with
   | normal=>
     obtain⟨st2,e2,h4,h5⟩:=hq
     obtain⟨⟨h6,h7⟩,e3,h8⟩:=SR.meets hn0 h4 h5
     exact⟨_,hlt _ _ h7,_,e3,h6,rfl,h8⟩
   | exit id=>exact hq
   | ret=>exact hq
   | goto l=>exact hq.elim
   | panic ch=>exact hq.elim
   | outgrown=>exact hq.elim
theorem awp_ok (hc:CxOk P c) (hm:P.follows .mixedOrders =true) (hn0:M.n=c.n0) : ∀(body:Code),codeOk body=true→WOk P w0 fz M body (awp c body)
 | .skip,_=>fun Q st a w e h hs=>wp_skip ⟨st,e,hs,h⟩
 | .exit id,_=>fun Q st a w e h hs=>wp_exit ⟨st,e,hs,h⟩
 | .ret,_=>fun Q st a w e h hs=>wp_ret ⟨st,e,hs,h⟩
 | .region id ops draw,hk=>fun Q st a w e h hs=>by
   unfold awp at h
   cases draw with
   | true=>exact region_draw hc hm (by unfold codeOk at hk;simpa using hk) (fun st a w e h hs=>⟨st,e,hs,h⟩) h hs
   | false=>exact wp_region_list (regW_seq (g:=⟨c,false,ops.toList.map (·.dst),st.h⟩) hc rfl rfl (fun st a w e h hs=>⟨st,e,hs,h⟩) _ _ _ _ _ _ _ _ _ e h hs)
 | .seq x y,hk=>fun Q st a w e h hs=>by
   unfold codeOk at hk
   rw [Bool.and_eq_true] at hk
   unfold awp at h
   refine wp_seq (wp_mono (awp_ok hc hm hn0 x hk.1 _ st a w e h hs) ?_)
   intro x' a' w' hq
   cases x' with
   | normal=>obtain⟨st',e',h1,h2⟩:=hq;exact awp_ok hc hm hn0 y hk.2 Q st' a' w' e' h2 h1
   | exit id=>exact hq
   | ret=>exact hq
   | goto l=>exact hq.elim
   | panic ch=>exact hq.elim
   | outgrown=>exact hq.elim
 | .cond x t f,hk=>fun Q st a w e h hs=>by
   unfold codeOk at hk
   rw [Bool.and_eq_true] at hk
   unfold awp at h
   have hx:=ev_R hs.tm x
   split at h
   ·rename_i hv
    rw [hv,R_bt] at hx
    exact wp_cond_true hx (awp_ok hc hm hn0 t hk.1 Q st a w e h hs)
   ·rename_i hv
    rw [hv,R_bf] at hx
    exact wp_cond_false hx (awp_ok hc hm hn0 f hk.2 Q st a w e h hs)
   ·rename_i v hv
    rw [hv,R_b] at hx
    cases v
    ·exact wp_cond_false hx (awp_ok hc hm hn0 f hk.2 Q _ a w e (h.2 rfl) (hs.setB hv (R_lit (x:=false) rfl)))
    ·exact wp_cond_true hx (awp_ok hc hm hn0 t hk.1 Q _ a w e (h.1 rfl) (hs.setB hv (R_lit (x:=true) rfl)))
   ·rename_i v hv
    rw [hv,R_nb] at hx
    cases v
    ·exact wp_cond_true hx (awp_ok hc hm hn0 t hk.1 Q _ a w e (h.1 rfl) (hs.setB hv (R_lit (x:=true) rfl)))
    ·exact wp_cond_false hx (awp_ok hc hm hn0 f hk.2 Q _ a w e (h.2 rfl) (hs.setB hv (R_lit (x:=false) rfl)))
   ·exact h.elim
 | .block id body,hk=>fun Q st a w e h hs=>by
   unfold codeOk at hk
   unfold awp at h
   refine wp_block (wp_mono (awp_ok hc hm hn0 body hk _ st a w e h hs) ?_)
   intro x' a' w' hq
   cases x' with
   | normal=>exact hq
   | exit k=>
     obtain⟨st',e',h1,h2⟩:=hq
     unfold Exit.inBlock
     simp only at h2 ⊢
     split
     ·rename_i hk';rw [if_pos hk'] at h2;exact⟨st',e',h1,h2⟩
     ·rename_i hk';rw [if_neg hk'] at h2;exact⟨st',e',h1,h2⟩
   | ret=>exact hq
   | goto l=>exact hq.elim
   | panic ch=>exact hq.elim
   | outgrown=>exact hq.elim
 | .loop body,hk=>fun Q st a w e h hs=>by
   unfold codeOk at hk
   unfold awp at h
   exact loop_ok hn0 (awp_ok hc hm hn0 body hk) Q st a w e h hs
 | .rangeFunc _ _ _ _,hk=>by unfold codeOk at hk;cases hk
 | .scope _,hk=>by unfold codeOk at hk;cases hk
 | .label _,hk=>by unfold codeOk at hk;cases hk
 | .goto _,hk=>by unfold codeOk at hk;cases hk
 | .refuse _,hk=>by unfold codeOk at hk;cases hk
end
end Ax
end Go.Proofs.YtmomiifkdfmahaaGreatDoor
