/-
  The plain walker: regions in the text's order; code; The plain walker: what the operations of a region yield, one by one; The plain walker: regions that draw their order (lists of waits, effects laid over one another); A region that draws its order, the second form: what the world is may depend on which operations have been carried out ('S L w', L: which ones), and the operations behind number n are forced by their edges, direct or not; The plain walker: regions that draw their order.
  Conditions: as each part below says.
-/
import Derived.Test.YtmomiifkdfmahaaGreatDoorC07
import Derived.Test.YtmomiifkdfmahaaGreatDoorC01
set_option linter.unusedSimpArgs false
set_option linter.unusedVariables false
namespace Go.Proofs.YtmomiifkdfmahaaGreatDoor
namespace Ax
open Go.RowKit
section
variable {P:Program} {w0 w:World} {fz:Nat→Prop} {M:Root} {a:Act} {e:Env}
theorem yield_at {ops:Array Oper} {dsts:List (Option Nat)} (hdst:dsts=ops.toList.map (·.dst)) {j t:Nat} (hj:dsts.getD j none=some t) : ∀tmps:Array Value,yielded ops tmps j=match tmps[t]? with | some (.bool b)=>some b | _=>none:=by
 intro tmps
 have h1:(ops[j]?).bind (·.dst)=some t:=by
  rw [hdst,List.getD_eq_getElem?_getD,List.getElem?_map,Array.getElem?_toList] at hj
  cases ho:ops[j]? with
  | none=>rw [ho] at hj;cases hj
  | some o=>rw [ho] at hj;exact hj
 unfold yielded
 rw [h1]
 rfl
theorem tm_at {tm:List PV} (hs:a.tmps.size=tm.length) (h : ∀(t:Nat) (p:PV),tm[t]? =some p→R w e p (a.tmps.getD t undef)) {t:Nat} {p:PV} (hp:tm.getD t .dead =p) (hd:p≠.dead) : ∃u,a.tmps[t]? =some u∧R w e p u:=by
 rw [List.getD_eq_getElem?_getD] at hp
 cases ht:tm[t]? with
 | none=>rw [ht] at hp;exact absurd hp.symm hd
 | some q=>
   rw [ht] at hp
   simp only [Option.getD_some] at hp
   subst hp
   have hlt:t<a.tmps.size:=by rw [hs];exact (List.getElem?_eq_some_iff.1 ht).1
   refine⟨a.tmps[t],Array.getElem?_eq_getElem hlt,?_⟩
   have:=h t q ht
   rwa [Array.getD_eq_getD_getElem?,Array.getElem?_eq_getElem hlt] at this
theorem yield_b {ops:Array Oper} {dsts:List (Option Nat)} (hdst:dsts=ops.toList.map (·.dst)) {tm:List PV} (hs:a.tmps.size=tm.length) (h : ∀(t:Nat) (p:PV),tm[t]? =some p→R w e p (a.tmps.getD t undef)) {j t:Nat} {p:PV} {x:Bool} (hj:dsts.getD j none=some t) (hp:tm.getD t .dead =p) (hx:isB p=some x) :
 yielded ops a.tmps j=some x:=by
 obtain⟨u,h1,h2⟩:=tm_at hs h hp (fun hh=>by subst hh;cases hx)
 rw [isB_ok hx] at h2
 subst h2
 rw [yield_at hdst hj,h1]
theorem yield_n {ops:Array Oper} {dsts:List (Option Nat)} (hdst:dsts=ops.toList.map (·.dst)) {tm:List PV} (hs:a.tmps.size=tm.length) (h : ∀(t:Nat) (p:PV),tm[t]? =some p→R w e p (a.tmps.getD t undef)) {j t:Nat} (hj:dsts.getD j none=some t) (hp:tm.getD t .dead =.tup []) :
 yielded ops a.tmps j=none:=by
 obtain⟨u,h1,h2⟩:=tm_at hs h hp (fun hh=>by cases hh)
 unfold R at h2
 obtain⟨vs,rfl, -⟩:=h2
 rw [yield_at hdst hj,h1]
theorem isB_lit (x:Bool):isB (litB x)=some x:=by cases x<;>rfl
theorem R_lit {p:PV} {x:Bool} (hx:isB p=some x) : ∀u,R w e p u→R w e (litB x) u:=fun u h=>(isB_ok (isB_lit x)).2 ((isB_ok hx).1 h)
theorem regW_seq {g:Rg} (hc:CxOk P g.c) (hd:g.draw=false) {ops:Array Oper} (hdst:g.dsts=ops.toList.map (·.dst)) {Q:AS→Prop} {Q':Exit→Act→World→Prop} (hQ : ∀st a w e,Q st→SR w0 fz M st a w e→Q' .normal a w) :
 ∀(l:List Oper) (i:Nat) (ps ts:List (List Nat)) (effs:List AH) (tm:List PV) (nx:Nat) (a:Act) (w:World) (e:Env),regW g Q l i ps ts effs tm nx→SR w0 fz M ⟨tm,effs.foldl (fun h e=>e++h) g.h0,nx⟩ a w e→wpList P ops Q' l a w:=by
 intro l
 induction l with
 | nil=>
   intro i ps ts effs tm nx a w e h hs
   unfold regW hold at h
   rw [hd] at h
   exact hQ _ a w e (h ()) hs
 | cons o r ih=>
   intro i ps ts effs tm nx a w e h hs
   unfold regW at h
   rw [hd] at h
   simp only [Bool.false_eq_true,if_false] at h
   have hskip : ∀tm':List PV,SR w0 fz M ⟨tm',effs.foldl (fun h e=>e++h) g.h0,nx⟩ a w e→Region.wanted o (yielded ops a.tmps)=false→regW g Q r (i+1) (ps++[[]]) (ts++[[]]) (effs++[[]]) (put tm' o.dst (.tup [])) nx→wpList P ops Q' (o::r) a w:=fun tm' hs' hw h'=>by
    unfold wpList
    rw [if_neg (by rw [hw];exact Bool.false_ne_true)]
    refine ih _ _ _ _ _ _ _ _ e h' ?_
    rw [List.foldl_append]
    exact hs'.skip o.dst
   have hrun : ∀tm':List PV,SR w0 fz M ⟨tm',effs.foldl (fun h e=>e++h) g.h0,nx⟩ a w e→Region.wanted o (yielded ops a.tmps)=true→(match Ax.aop g.c o.op (ev tm') (effs.foldl (fun h e=>e++h) g.h0) nx with
    | some out=>conj out.pre (regW g Q r (i+1) (ps++[[]]) (ts++[[]]) (effs++[out.eff]) (put tm' o.dst out.v) (newIds nx out.eff))
    | none=>False)→wpList P ops Q' (o::r) a w:=fun tm' hs' hw h'=>by
    unfold wpList
    rw [if_pos hw]
    split at h'
    ·rename_i out ho
     obtain⟨h1,h2⟩:=conj_split h'
     refine .inl (wp_never (Oper.wp_mono ?_ (hs'.aop hc ho h1)))
     rintro a' w' ⟨e',h3⟩
     refine ih _ _ _ _ _ _ _ _ e' h2 ?_
     rw [List.foldl_append]
     exact h3
    ·exact h'.elim
   have href : ∀(t:Nat) (p:PV) (x:Bool),tm.getD t .dead =p→isB p=some x→SR w0 fz M ⟨tm.set t (litB x),effs.foldl (fun h e=>e++h) g.h0,nx⟩ a w e:=fun t p x hp hx=>hs.refine_ hp (R_lit hx)
   split at h
   ·rename_i hg
    have hw:Region.wanted o (yielded ops a.tmps)=true:=by unfold Region.wanted;rw [hg]
    split at h
    ·rename_i t _ _ hop
     split at h
     ·rename_i x hx
      cases hxx:x
      ·exact hrun _ (by have:=href t _ x hx rfl;rwa [hxx] at this) hw (h.2 hxx)
      ·exact hrun _ (by have:=href t _ x hx rfl;rwa [hxx] at this) hw (h.1 hxx)
     ·rename_i x hx
      cases hxx:x
      ·exact hrun _ (by have:=href t _ (!x) hx rfl;rwa [hxx] at this) hw (h.1 hxx)
      ·exact hrun _ (by have:=href t _ (!x) hx rfl;rwa [hxx] at this) hw (h.2 hxx)
     ·exact hrun _ hs hw h
    ·exact hrun _ hs hw h
   ·rename_i j want hg
    have hwb : ∀(t:Nat) (p:PV) (x:Bool),g.dsts.getD j none=some t→tm.getD t .dead =p→isB p=some x→Region.wanted o (yielded ops a.tmps)=(x==want):=fun t p x hj hp hx=>by
     unfold Region.wanted
     rw [hg]
     simp only [yield_b hdst hs.size hs.tm hj hp hx]
     cases x<;>cases want<;>rfl
    split at h
    ·rename_i t hj
     split at h
     ·rename_i x hx
      by_cases hxw:x=want
      ·exact hrun _ (by have:=href t _ x hx rfl;rwa [hxw] at this) (by rw [hwb t _ x hj hx rfl,hxw];cases want<;>rfl) (h.1 hxw)
      ·have hxw:x=!want:=by cases x<;>cases want<;>simp_all
       exact hskip _ (by have:=href t _ x hx rfl;rwa [hxw] at this) (by rw [hwb t _ x hj hx rfl,hxw];cases want<;>rfl) (h.2 hxw)
     ·rename_i x hx
      by_cases hxw:x=want
      ·exact hskip _ (by have:=href t _ (!x) hx rfl;rwa [hxw] at this) (by rw [hwb t _ (!x) hj hx rfl,hxw];cases want<;>rfl) (h.2 hxw)
      ·have hxw:x=!want:=by cases x<;>cases want<;>simp_all
       exact hrun _ (by have:=href t _ (!x) hx rfl;rw [hxw,Bool.not_not] at this;exact this) (by rw [hwb t _ (!x) hj hx rfl,hxw];cases want<;>rfl) (h.1 hxw)
     ·rename_i hx
      have hw:=hwb t _ true hj hx rfl
      split at h
      ·rename_i hww;exact hrun _ hs (by rw [hw,hww];rfl) h
      ·rename_i hww;exact hskip _ hs (by rw [hw];cases want<;>simp_all) h
     ·rename_i hx
      have hw:=hwb t _ false hj hx rfl
      split at h
      ·rename_i hww;exact hskip _ hs (by rw [hw,hww];rfl) h
      ·rename_i hww;exact hrun _ hs (by rw [hw];cases want<;>simp_all) h
     ·rename_i hx
      exact hskip _ hs (by unfold Region.wanted;rw [hg];simp only [yield_n hdst hs.size hs.tm hj hx];rfl) h
     ·exact h.elim
    ·exact h.elim
end
end Ax
end Go.Proofs.YtmomiifkdfmahaaGreatDoor
namespace Go.Proofs.YtmomiifkdfmahaaGreatDoor
namespace Ax
open Go.RowKit
def eqv (p q:PV):Prop:=p=q∨∃x,isB p=some x∧isB q=some x
def Eqv (l m:List PV):Prop:=l.length=m.length∧∀(t:Nat) (p q:PV),l[t]? =some p→m[t]? =some q→eqv p q
theorem eqv.refl (p:PV):eqv p p:=.inl rfl
theorem eqv.R {p q:PV} (h:eqv p q) {w:World} {e:Env} {u:Value} : R w e p u↔R w e q u:=by
 rcases h with rfl | ⟨x,h1,h2⟩
 ·exact Iff.rfl
 ·exact (isB_ok h1).trans (isB_ok h2).symm
theorem eqv.isB {p q:PV} (h:eqv p q) {x:Bool} (hp:Ax.isB p=some x):Ax.isB q=some x:=by
 rcases h with rfl | ⟨y,h1,h2⟩
 ·exact hp
 ·rw [h1] at hp;cases hp;exact h2
theorem Eqv.getD {l m:List PV} (h:Eqv l m) (t:Nat):eqv (l.getD t .dead) (m.getD t .dead):=by
 rw [List.getD_eq_getElem?_getD,List.getD_eq_getElem?_getD]
 by_cases ht:t<l.length
 ·have hm:t<m.length:=by rw [←h.1];exact ht
  exact h.2 t _ _ (by rw [List.getElem?_eq_getElem ht];rfl) (by rw [List.getElem?_eq_getElem hm];rfl)
 ·rw [List.getElem?_eq_none (by omega),List.getElem?_eq_none (by rw [←h.1];omega)]
  exact .refl _
theorem Eqv.put {l m:List PV} (h:Eqv l m) (d:Option Nat) (v:PV):Eqv (put l d v) (Ax.put m d v):=by
 cases d with
 | none=>exact h
 | some d=>
   refine⟨by simp [Ax.put,h.1],fun t p q hp hq=>?_⟩
   simp only [Ax.put,List.getElem?_set] at hp hq
   split at hp
   ·rename_i hd
    rw [if_pos hd] at hq
    split at hp
    ·split at hq
     ·cases hp;cases hq;exact .refl _
     ·cases hq
    ·cases hp
   ·rename_i hd
    rw [if_neg hd] at hq
    exact h.2 t p q hp hq
theorem Eqv.set {l m:List PV} (h:Eqv l m) {t:Nat} {p:PV} {x:Bool} (hp:l.getD t .dead =p) (hx:isB p=some x):Eqv (l.set t (litB x)) m:=by
 refine⟨by simp [h.1],fun s r q hr hq=>?_⟩
 rw [List.getElem?_set] at hr
 split at hr
 ·rename_i hts
  subst hts
  split at hr
  ·cases hr
   refine .inr ⟨x,isB_lit x,?_⟩
   have:=(h.getD t).isB (x:=x) (by rw [hp];exact hx)
   rwa [List.getD_eq_getElem?_getD,hq] at this
  ·cases hr
 ·exact h.2 s r q hr hq
def TV (dsts:List (Option Nat)) (tm0:List PV) (vals:List PV):List PV:=(dsts.zip vals).foldl (fun tm x=>put tm x.1 x.2) tm0
theorem TV_snoc {dsts:List (Option Nat)} {tm0 vals:List PV} {d:Option Nat} (h:dsts[vals.length]? =some d) (v:PV):TV dsts tm0 (vals++[v])=put (TV dsts tm0 vals) d v:=by
 unfold TV
 have : ∀(ds:List (Option Nat)) (vs:List PV),ds[vs.length]? =some d→ds.zip (vs++[v])=ds.zip vs++[(d,v)]:=by
  intro ds
  induction ds with
  | nil=>intro vs h;simp at h
  | cons x ds ih=>
    intro vs h
    cases vs with
    | nil=>simp at h;subst h;simp
    | cons y vs=>simp at h;simp [ih vs h]
 rw [this dsts vals h,List.foldl_append]
 rfl
def clsGo:List Oper→List (List Nat)→List (List Nat)
 | [],ps=>ps
 | o::r,ps=>clsGo r (ps++[closure ps o])
def GuardIs (dsts:List (Option Nat)) (o:Oper) (tm:List PV) (b:Bool):Prop:=
 match o.guard with
 | none=>b=true
 | some (k,want)=>∃t,dsts.getD k none=some t∧((∃x,isB (tm.getD t .dead)=some x∧(x==want)=b)∨(tm.getD t .dead =.tup []∧b=false))
def StepOk (g:Rg) (tm0:List PV) (cl:List (List Nat)) (vals:List PV) (effs:List AH) (nxs:List Nat) (ts:List (List Nat)) (j:Nat) (o:Oper):Prop:=
 (∃out tm,aop g.c o.op (ev tm) (cut (ts.getD j []) (viewAt (cl.getD j []) 0 (effs.take j) g.h0)) (nxs.getD j 0)=some out∧(∀p∈out.pre,p)∧vals[j]? =some out.v∧effs[j]? =some out.eff∧
   nxs[j+1]? =some (newIds (nxs.getD j 0) out.eff)∧Eqv tm (TV g.dsts tm0 (vals.take j))∧GuardIs g.dsts o (TV g.dsts tm0 (vals.take j)) true)∨
 (vals[j]? =some (.tup [])∧effs[j]? =some []∧nxs[j+1]? =some (nxs.getD j 0)∧GuardIs g.dsts o (TV g.dsts tm0 (vals.take j)) false)
structure Tr (g:Rg) (ops:List Oper) (tm0:List PV) (n0:Nat) (cl:List (List Nat)) (vals:List PV) (effs:List AH) (nxs:List Nat) (ts:List (List Nat)):Prop where
 st:nxs.getD 0 0=n0
 lenE:effs.length=vals.length
 lenN:nxs.length=vals.length+1
 lenT:ts.length=vals.length
 step : ∀j o,j<vals.length→ops[j]? =some o→StepOk g tm0 cl vals effs nxs ts j o
theorem StepOk.app {g:Rg} {tm0:List PV} {cl:List (List Nat)} {vals:List PV} {effs:List AH} {nxs:List Nat} {ts:List (List Nat)} {j:Nat} {o:Oper} (h:StepOk g tm0 cl vals effs nxs ts j o) (hj:j<vals.length) (hE:effs.length=vals.length) (hN:nxs.length=vals.length+1) (hT:ts.length=vals.length) (v:PV) (x:AH) (n:Nat) (T:List Nat) :
 StepOk g tm0 cl (vals++[v]) (effs++[x]) (nxs++[n]) (ts++[T]) j o:=by
 have e1:(vals++[v]).take j=vals.take j:=List.take_append_of_le_length (by omega)
 have e2:(effs++[x]).take j=effs.take j:=List.take_append_of_le_length (by omega)
 have e3:(nxs++[n]).getD j 0=nxs.getD j 0:=by rw [List.getD_eq_getElem?_getD,List.getD_eq_getElem?_getD,List.getElem?_append_left (by omega)]
 have e4:(vals++[v])[j]? =vals[j]? :=List.getElem?_append_left hj
 have e5:(effs++[x])[j]? =effs[j]? :=List.getElem?_append_left (by omega)
 have e6:(nxs++[n])[j+1]? =nxs[j+1]? :=List.getElem?_append_left (by omega)
 have e7:(ts++[T]).getD j []=ts.getD j []:=by rw [List.getD_eq_getElem?_getD,List.getD_eq_getElem?_getD,List.getElem?_append_left (by omega)]
 unfold StepOk at *
 rw [e1,e2,e3,e4,e5,e6,e7]
 exact h
set_option maxHeartbeats 4000000 in
theorem regW_trace {g:Rg} (hd:g.draw=true) {Q:AS→Prop} {ops:List Oper} (hdst:g.dsts=ops.map (·.dst)) {tm0:List PV} {n0:Nat} {cl:List (List Nat)} :
 ∀(l:List Oper) (ps ts:List (List Nat)) (vals:List PV) (effs:List AH) (nxs:List Nat) (tm:List PV) (nx:Nat),(∃pre,ops=pre++l∧pre.length=vals.length)→cl=clsGo l ps→ps.length=vals.length→Tr g ops tm0 n0 cl vals effs nxs ts→nxs.getD vals.length 0=nx→Eqv tm (TV g.dsts tm0 vals)→
  regW g Q l vals.length ps ts effs tm nx→∃vals' effs' nxs' ts' tm',vals'.length=ops.length∧Tr g ops tm0 n0 cl vals' effs' nxs' ts'∧apart ts' cl effs' 0=true∧Eqv tm' (TV g.dsts tm0 vals')∧Q ⟨tm',effs'.foldl (fun h e=>e++h) g.h0,nxs'.getD ops.length 0⟩:=by
 intro l
 induction l with
 | nil=>
   rintro ps ts vals effs nxs tm nx ⟨pre,h1,h2⟩ hcl _ htr hnx he h
   unfold regW hold at h
   rw [hd] at h
   have : vals.length=ops.length:=by rw [h1,List.append_nil,h2]
   split at h
   ·rename_i hap
    refine⟨vals,effs,nxs,ts,tm,this,htr,?_,he,by rw [←this,hnx];exact h ()⟩
    rw [hcl,clsGo]
    simpa using hap
   ·exact h.elim
 | cons o r ih=>
   rintro ps ts vals effs nxs tm nx ⟨pre,h1,h2⟩ hcl hps htr hnx he h
   unfold regW at h
   rw [hd] at h
   simp only [if_true] at h
   have hoj:ops[vals.length]? =some o:=by rw [h1,←h2,List.getElem?_append_right (Nat.le_refl _),Nat.sub_self];rfl
   have hdj:g.dsts[vals.length]? =some o.dst:=by rw [hdst,List.getElem?_map,hoj];rfl
   have hclj:cl.getD vals.length []=closure ps o:=by
    have : ∀(l:List Oper) (qs:List (List Nat)) (k:Nat),k<qs.length→(clsGo l qs).getD k []=qs.getD k []:=by
     intro l
     induction l with
     | nil=>intro qs k _;rfl
     | cons x l ihl=>
       intro qs k hk
       rw [clsGo,ihl _ k (by simp;omega),List.getD_eq_getElem?_getD,List.getD_eq_getElem?_getD,List.getElem?_append_left hk]
    rw [hcl,clsGo,this _ _ _ (by simp [hps]),List.getD_eq_getElem?_getD,List.getElem?_append_right (by omega),hps,Nat.sub_self]
    rfl
   have next : ∀(tm':List PV) (v:PV) (x:AH) (n:Nat) (T:List Nat),Eqv tm' (TV g.dsts tm0 vals)→StepOk g tm0 cl (vals++[v]) (effs++[x]) (nxs++[n]) (ts++[T]) vals.length o→
    regW g Q r (vals.length+1) (ps++[closure ps o]) (ts++[T]) (effs++[x]) (put tm' o.dst v) n→∃vals' effs' nxs' ts' tm',vals'.length=ops.length∧Tr g ops tm0 n0 cl vals' effs' nxs' ts'∧apart ts' cl effs' 0=true∧Eqv tm' (TV g.dsts tm0 vals')∧Q ⟨tm',effs'.foldl (fun h e=>e++h) g.h0,nxs'.getD ops.length 0⟩:=by
    intro tm' v x n T heq hst hr
    refine ih (ps++[closure ps o]) (ts++[T]) (vals++[v]) (effs++[x]) (nxs++[n]) (put tm' o.dst v) n ⟨pre++[o],by rw [h1];simp,by simp [h2]⟩ (by rw [hcl];rfl) (by simp [hps]) ⟨by rw [←htr.st,List.getD_eq_getElem?_getD,List.getD_eq_getElem?_getD,List.getElem?_append_left (by rw [htr.lenN];omega)],by simp [htr.lenE],by simp [htr.lenN],by simp [htr.lenT],fun j oj hj hoj'=>?_⟩ ?_ ?_ (by rw [List.length_append];exact hr)
    ·by_cases hjl:j<vals.length
     ·exact (htr.step j oj hjl hoj').app hjl htr.lenE htr.lenN htr.lenT v x n T
     ·have : j=vals.length:=by simp at hj;omega
      subst this
      rw [hoj] at hoj'
      cases hoj'
      exact hst
    ·rw [List.length_append,List.getD_eq_getElem?_getD,List.getElem?_append_right (by rw [htr.lenN];exact Nat.le_refl _),htr.lenN]
     simp
    ·rw [TV_snoc hdj]
     exact heq.put _ _
   have t1 : ∀v:PV,(vals++[v]).take vals.length=vals:=fun v=>List.take_left
   have t2 : ∀x:AH,(effs++[x]).take vals.length=effs:=fun x=>by rw [←htr.lenE];exact List.take_left
   have t3 : ∀n:Nat,(nxs++[n]).getD vals.length 0=nx:=fun n=>by rw [List.getD_eq_getElem?_getD,List.getElem?_append_left (by rw [htr.lenN];omega),←List.getD_eq_getElem?_getD];exact hnx
   have t4 : ∀v:PV,(vals++[v])[vals.length]? =some v:=fun v=>by simp
   have t5 : ∀x:AH,(effs++[x])[vals.length]? =some x:=fun x=>by rw [←htr.lenE];simp
   have t6 : ∀n:Nat,(nxs++[n])[vals.length+1]? =some n:=fun n=>by rw [←htr.lenN];simp
   have t7 : ∀T:List Nat,(ts++[T]).getD vals.length []=T:=fun T=>by rw [List.getD_eq_getElem?_getD,←htr.lenT];simp
   have hrun : ∀tm':List PV,Eqv tm' (TV g.dsts tm0 vals)→GuardIs g.dsts o (TV g.dsts tm0 vals) true→(match Ax.aop g.c o.op (ev tm') (cut (touch o.op (ev tm') (viewAt (closure ps o) 0 effs g.h0)) (viewAt (closure ps o) 0 effs g.h0)) nx with
    | some out=>conj out.pre (regW g Q r (vals.length+1) (ps++[closure ps o]) (ts++[touch o.op (ev tm') (viewAt (closure ps o) 0 effs g.h0)]) (effs++[out.eff]) (put tm' o.dst out.v) (newIds nx out.eff))
    | none=>False)→∃vals' effs' nxs' ts' tm',vals'.length=ops.length∧Tr g ops tm0 n0 cl vals' effs' nxs' ts'∧apart ts' cl effs' 0=true∧Eqv tm' (TV g.dsts tm0 vals')∧Q ⟨tm',effs'.foldl (fun h e=>e++h) g.h0,nxs'.getD ops.length 0⟩:=by
    intro tm' heq hgd h'
    split at h'
    ·rename_i out ho
     obtain⟨h3,h4⟩:=conj_split h'
     refine next tm' out.v out.eff _ _ heq (.inl ⟨out,tm',?_,h3,t4 _,t5 _,?_,?_,?_⟩) h4
     ·rw [hclj,t2,t3,t7];exact ho
     ·rw [t6,t3]
     ·rw [t1];exact heq
     ·rw [t1];exact hgd
    ·exact h'.elim
   have hskip : ∀tm':List PV,Eqv tm' (TV g.dsts tm0 vals)→GuardIs g.dsts o (TV g.dsts tm0 vals) false→regW g Q r (vals.length+1) (ps++[closure ps o]) (ts++[[]]) (effs++[[]]) (put tm' o.dst (.tup [])) nx→
    ∃vals' effs' nxs' ts' tm',vals'.length=ops.length∧Tr g ops tm0 n0 cl vals' effs' nxs' ts'∧apart ts' cl effs' 0=true∧Eqv tm' (TV g.dsts tm0 vals')∧Q ⟨tm',effs'.foldl (fun h e=>e++h) g.h0,nxs'.getD ops.length 0⟩:=by
    intro tm' heq hgd h'
    refine next tm' (.tup []) [] _ [] heq (.inr ⟨t4 _,t5 _,?_,?_⟩) h'
    ·rw [t6,t3]
    ·rw [t1];exact hgd
   have href : ∀(t:Nat) (p:PV) (x:Bool),tm.getD t .dead =p→isB p=some x→Eqv (tm.set t (litB x)) (TV g.dsts tm0 vals):=fun t p x hp hx=>he.set hp hx
   split at h
   ·rename_i hg
    have hw:GuardIs g.dsts o (TV g.dsts tm0 vals) true:=by unfold GuardIs;rw [hg]
    split at h
    ·rename_i t _ _ hop
     split at h
     ·rename_i x hx
      cases hxx:x
      ·exact hrun _ (by have:=href t _ x hx rfl;rwa [hxx] at this) hw (h.2 hxx)
      ·exact hrun _ (by have:=href t _ x hx rfl;rwa [hxx] at this) hw (h.1 hxx)
     ·rename_i x hx
      cases hxx:x
      ·exact hrun _ (by have:=href t _ (!x) hx rfl;rwa [hxx] at this) hw (h.1 hxx)
      ·exact hrun _ (by have:=href t _ (!x) hx rfl;rwa [hxx] at this) hw (h.2 hxx)
     ·exact hrun _ he hw h
    ·exact hrun _ he hw h
   ·rename_i j want hg
    have hwb : ∀(t:Nat) (p:PV) (x b:Bool),g.dsts.getD j none=some t→tm.getD t .dead =p→isB p=some x→(x==want)=b→GuardIs g.dsts o (TV g.dsts tm0 vals) b:=fun t p x b hj hp hx hb=>by
     unfold GuardIs
     rw [hg]
     exact⟨t,hj,.inl ⟨x,(he.getD t).isB (by rw [hp];exact hx),hb⟩⟩
    split at h
    ·rename_i t hj
     split at h
     ·rename_i x hx
      by_cases hxw:x=want
      ·exact hrun _ (by have:=href t _ x hx rfl;rwa [hxw] at this) (hwb t _ x _ hj hx rfl (by rw [hxw];cases want<;>rfl)) (h.1 hxw)
      ·have hxw:x=!want:=by cases x<;>cases want<;>simp_all
       exact hskip _ (by have:=href t _ x hx rfl;rwa [hxw] at this) (hwb t _ x _ hj hx rfl (by rw [hxw];cases want<;>rfl)) (h.2 hxw)
     ·rename_i x hx
      by_cases hxw:x=want
      ·exact hskip _ (by have:=href t _ (!x) hx rfl;rwa [hxw] at this) (hwb t _ (!x) _ hj hx rfl (by rw [hxw];cases want<;>rfl)) (h.2 hxw)
      ·have hxw:x=!want:=by cases x<;>cases want<;>simp_all
       exact hrun _ (by have:=href t _ (!x) hx rfl;rw [hxw,Bool.not_not] at this;exact this) (hwb t _ (!x) _ hj hx rfl (by rw [hxw];cases want<;>rfl)) (h.1 hxw)
     ·rename_i hx
      split at h
      ·rename_i hww;exact hrun _ he (hwb t _ true _ hj hx rfl (by rw [hww];rfl)) h
      ·rename_i hww;exact hskip _ he (hwb t _ true _ hj hx rfl (by cases want<;>simp_all)) h
     ·rename_i hx
      split at h
      ·rename_i hww;exact hskip _ he (hwb t _ false _ hj hx rfl (by rw [hww];rfl)) h
      ·rename_i hww;exact hrun _ he (hwb t _ false _ hj hx rfl (by cases want<;>simp_all)) h
     ·rename_i hx
      refine hskip _ he ?_ h
      unfold GuardIs
      rw [hg]
      refine⟨t,hj,.inr ⟨?_,rfl⟩⟩
      rcases he.getD t with h3 | ⟨y,h3, -⟩
      ·rw [←h3];exact hx
      ·rw [hx] at h3;cases h3
     ·exact h.elim
    ·exact h.elim
end Ax
end Go.Proofs.YtmomiifkdfmahaaGreatDoor
namespace Go.Proofs.YtmomiifkdfmahaaGreatDoor
namespace Ax
open Go.RowKit RegP
def ovl (L:Nat→Bool):Nat→List AH→AH→AH
 | _,[],h=>h
 | i,x::r,h=>ovl L (i+1) r (if L i then x++h else h)
theorem viewAt_ovl (p:List Nat) : ∀(i:Nat) (effs:List AH) (h:AH),viewAt p i effs h=ovl (p.contains ·) i effs h
 | _,[],_=>rfl
 | i,[]::r,h=>by unfold viewAt ovl;rw [viewAt_ovl p (i+1) r _];congr 1;split<;>rfl
 | i,(q::e)::r,h=>by unfold viewAt ovl;exact viewAt_ovl p (i+1) r _
theorem ovl_take {L:Nat→Bool} : ∀(effs:List AH) (i k:Nat) (h:AH),(∀j,k≤j→L (i+j)=false)→ovl L i (effs.take k) h=ovl L i effs h
 | [],i,k,h,_=>by simp
 | x::r,i,0,h,hL=>by
   have h1 : ∀(r:List AH) (i:Nat) (h:AH),(∀j,L (i+j)=false)→ovl L i r h=h:=by
    intro r
    induction r with
    | nil=>intro i h _;rfl
    | cons y r ih=>
      intro i h hh
      unfold ovl
      rw [if_neg (by have:=hh 0;simpa using this)]
      exact ih (i+1) h fun j=>by have:=hh (j+1);rwa [show i+(j+1)=i+1+j from by omega] at this
   rw [h1 (x::r) i h fun j=>hL j (Nat.zero_le _)]
   rfl
 | x::r,i,k+1,h,hL=>by
   rw [List.take_succ_cons]
   unfold ovl
   exact ovl_take r (i+1) k _ fun j hj=>by have:=hL (j+1) (by omega);rwa [show i+(j+1)=i+1+j from by omega] at this
theorem ovl_agree {L M:Nat→Bool} {id:Nat} : ∀(effs:List AH) (i:Nat) (h h':AH),h.get id=h'.get id→(∀j x,effs[j]? =some x→(x.get id).isSome =true→L (i+j)=M (i+j))→(ovl L i effs h).get id=(ovl M i effs h').get id
 | [],i,h,h',hh,_=>hh
 | x::r,i,h,h',hh,hL=>by
   unfold ovl
   refine ovl_agree r (i+1) _ _ ?_ fun j y hj hy=>by have:=hL (j+1) y (by simpa using hj) hy;rwa [show i+(j+1)=i+1+j from by omega] at this
   have e1 : ∀(b:Bool) (z:AH),AH.get (if b then x++z else z) id=if b then (match x.get id with | some o=>some o | none=>z.get id) else z.get id:=fun b z=>by
    cases b
    ·rfl
    ·exact get_app x z id
   rw [e1,e1]
   cases hx:x.get id with
   | none=>simp [hh]
   | some o=>
     have:=hL 0 x rfl (by rw [hx];rfl)
     rw [Nat.add_zero] at this
     rw [this]
     cases M i<;>simp [hh]
theorem ovl_last {L:Nat→Bool} {id:Nat} {o:Ob} : ∀(effs:List AH) (i k:Nat) (h:AH) (x:AH),effs[k]? =some x→x.get id=some o→L (i+k)=true→(∀j y,k<j→effs[j]? =some y→L (i+j)=true→y.get id=none)→(ovl L i effs h).get id=some o
 | [],i,k,h,x,hk,_,_,_=>by simp at hk
 | y::r,i,0,h,x,hk,hx,hL,hn=>by
   simp at hk
   subst hk
   unfold ovl
   rw [Nat.add_zero] at hL
   rw [if_pos hL]
   have h1 : ∀(r:List AH) (i:Nat) (h:AH),(∀j y,r[j]? =some y→L (i+j)=true→y.get id=none)→(ovl L i r h).get id=h.get id:=by
    intro r
    induction r with
    | nil=>intro i h _;rfl
    | cons z r ih=>
      intro i h hh
      unfold ovl
      rw [ih (i+1) _ fun j y hj hy=>hh (j+1) y (by simpa using hj) (by rw [show i+(j+1)=i+1+j from by omega];exact hy)]
      split
      ·rename_i hLi
       rw [get_app,hh 0 z rfl (by rw [Nat.add_zero];exact hLi)]
      ·rfl
   rw [h1 r (i+1) _ fun j z hj hz=>hn (j+1) z (by omega) (by simpa using hj) (by rw [show i+(j+1)=i+1+j from by omega];exact hz),get_app,hx]
 | y::r,i,k+1,h,x,hk,hx,hL,hn=>by
   unfold ovl
   exact ovl_last r (i+1) k _ x (by simpa using hk) hx (by rw [show i+1+k=i+(k+1) from by omega];exact hL) fun j z hj hz hLz=>hn (j+1) z (by omega) (by simpa using hz) (by rw [show i+(j+1)=i+1+j from by omega];exact hLz)
theorem foldl_ovl : ∀(effs:List AH) (i:Nat) (h:AH),effs.foldl (fun h e=>e++h) h=ovl (fun _=>true) i effs h
 | [],_,_=>rfl
 | x::r,i,h=>by unfold ovl;exact foldl_ovl r (i+1) _
theorem ok_eff {v:PV} {out:Out} (h:ok v=some out):out.eff=[]:=by cases h;rfl
theorem okp_eff {q:List Prop} {v:PV} {out:Out} (h:okp q v=some out):out.eff=[]:=by cases h;rfl
theorem bok_eff {x:Option PV} {out:Out} (h:x.bind ok=some out):out.eff=[]:=by
 obtain⟨v, -,h⟩:=Option.bind_eq_some_iff.1 h
 exact ok_eff h
theorem bin_eff {p:Pr} {op:BinOp} {x y:PV} {out:Out} (h:bin p op x y=some out):out.eff=[]:=by
 unfold bin at h
 split at h
 ·split at h
  ·unfold binI at h
   split at h<;>first | exact ok_eff h | exact okp_eff h | cases h
  ·cases h
 ·unfold binS at h
  split at h<;>first | exact ok_eff h | exact okp_eff h | cases h
 ·cases h
theorem binB_eff {p:Pr} {op:BinOp} {x y:PV} {out:Out} (h:binB p op x y=some out):out.eff=[]:=by
 unfold binB at h
 split at h
 ·exact bok_eff h
 ·obtain⟨v, -,h⟩:=Option.bind_eq_some_iff.1 h
  exact bok_eff h
 ·cases h
theorem aop0_eff {c:Cx} {o:Op} {ρ:Operand→PV} {h:AH} {nx:Nat} {out:Out} (hs:aop0 c o ρ h nx=some out) {id:Nat} (hid:(out.eff.get id).isSome =true):nx≤id∨(h.get id).isSome =true:=by
 have hone : ∀{k:Nat} {x:Ob},(AH.get [(k,x)] id).isSome =true→id=k:=fun {k x} hh=>by
  unfold AH.get at hh
  split at hh
  ·rename_i hk;exact (by simpa using hk:k=id).symm
  ·cases hh
 have hsh : ∀{x:AH},((rnH (mv [] nx) x).get id).isSome =true→nx≤id:=fun {x} hh=>by
  obtain⟨o,ho⟩:=Option.isSome_iff_exists.1 hh
  obtain⟨k',_,rfl,_⟩:=rnH_get ho
  rw [mv_ge (Nat.zero_le _)]
  omega
 unfold aop0 at hs
 split at hs
 case h_4=>split at hs<;>first | (cases hs;done) | (cases hs;exact .inl (Nat.le_of_eq (hone hid).symm))
 case h_5=>split at hs<;>first | (cases hs;done) | (cases hs;exact .inl (Nat.le_of_eq (hone hid).symm))
 case h_7=>
  repeat' (split at hs)
  all_goals first | (cases hs;done) | (cases hs;exact .inl (Nat.le_of_eq (hone hid).symm))
 case h_9 t a x=>
  split at hs
  ·split at hs
   ·rename_i l ty hg
    split at hs
    ·split at hs
     ·cases hs
      have:=hone hid
      subst this
      exact .inr (by rw [hg];rfl)
     ·cases hs
    ·cases hs
   ·cases hs
  ·split at hs
   ·rename_i sh L ty hg
    split at hs
    ·split at hs
     ·split at hs
      ·cases hs
       have:=hone hid
       subst this
       exact .inr (by rw [hg];rfl)
      ·cases hs
     ·cases hs
    ·cases hs
   ·cases hs
  ·cases hs
 case h_20 k=>
  unfold acall at hs
  split at hs
  case h_1=>
   have hno:out.eff=[]:=by
    repeat' (split at hs)
    all_goals first | exact ok_eff hs | cases hs
   rw [hno] at hid
   cases hid
  case h_2 x y t t'=>
   split at hs
   ·split at hs
    ·split at hs
     ·split at hs
      ·cases hs;exact .inl (Nat.le_of_eq (hone hid).symm)
      ·cases hs
     ·split at hs
      ·rename_i sh L ty hg
       split at hs
       ·split at hs
        ·cases hs
         unfold AH.get at hid
         split at hid
         ·rename_i hk
          exact .inl (Nat.le_of_eq (by simpa using hk))
         ·have:=hone hid
          subst this
          exact .inr (by rw [hg];rfl)
        ·cases hs
       ·cases hs
      ·cases hs
     ·cases hs
    ·cases hs
   ·cases hs
  case h_3 f args ts=>
   split at hs
   ·split at hs
    ·rename_i S hS
     simp only at hs
     split at hs
     ·rename_i hcl
      split at hs
      ·cases hs
       generalize reach h 60 (idsL (trims c ts.toList (args.toList.map ρ++_))) []=r at hid hcl
       obtain⟨x,ho⟩:=Option.isSome_iff_exists.1 hid
       obtain⟨k',_,rfl,_⟩:=rnH_get ho
       by_cases hk:k'<r.length
       ·right
        rw [mv_lt hk]
        unfold closed at hcl
        simp only [Bool.and_eq_true,List.all_eq_true] at hcl
        have hm:look r k'∈r:=by
         unfold look
         rw [List.getD_eq_getElem?_getD,List.getElem?_eq_getElem hk]
         exact List.getElem_mem hk
        have:=(hcl.2.1 _ hm).2
        split at this
        ·rename_i hx;rw [hx];rfl
        ·cases this
       ·exact .inl (by rw [mv_ge (Nat.le_of_not_lt hk)];omega)
      ·cases hs
     ·cases hs
    ·split at hs
     ·simp only at hs
      split at hs
      ·split at hs
       ·split at hs
        ·cases hs
        ·cases hs;exact .inl (hsh hid)
       ·cases hs
      ·split at hs
       ·cases hs;exact .inl (hsh hid)
       ·cases hs
     ·cases hs
   ·cases hs
  case h_4=>cases hs
 case h_21=>cases hs
 all_goals
  have hno:out.eff=[]:=by
   repeat' (split at hs)
   all_goals first | exact ok_eff hs | exact okp_eff hs | exact bok_eff hs | exact bin_eff hs | exact binB_eff hs | cases hs
  rw [hno] at hid
  cases hid
theorem aopX_eff {c:Cx} {o:Op} {ρ:Operand→PV} {h:AH} {nx:Nat} {out:Out} (hs:aopX c o ρ h nx=some out) {id:Nat} (hid:(out.eff.get id).isSome =true):nx≤id∨(h.get id).isSome =true:=by
 have hone : ∀{k:Nat} {x:Ob},(AH.get [(k,x)] id).isSome =true→id=k:=fun {k x} hh=>by
  unfold AH.get at hh
  split at hh
  ·rename_i hk;exact (by simpa using hk:k=id).symm
  ·cases hh
 unfold aopX at hs
 split at hs
 case h_6 t a x=>
  repeat' (split at hs)
  all_goals first
   | (cases hs;done)
   | (cases hs
      have:=hone hid
      subst this
      right
      rename_i hg _ _ _ _
      first | (rw [hg];rfl) | simp_all)
 all_goals
  repeat' (split at hs)
  all_goals first
   | (cases hs;done)
   | (cases hs;exact .inl (Nat.le_of_eq (hone hid).symm))
   | (have hno:out.eff=[]:=by first | exact ok_eff hs | exact okp_eff hs
      rw [hno] at hid
      cases hid)
theorem aopY_eff {c:Cx} {o:Op} {ρ:Operand→PV} {h:AH} {nx:Nat} {out:Out} (hs:aopY c o ρ h nx=some out) {id:Nat} (hid:(out.eff.get id).isSome =true):nx≤id∨(h.get id).isSome =true:=by
 have hone : ∀{k:Nat} {x:Ob},(AH.get [(k,x)] id).isSome =true→id=k:=fun {k x} hh=>by
  unfold AH.get at hh
  split at hh
  ·rename_i hk;exact (by simpa using hk:k=id).symm
  ·cases hh
 unfold aopY at hs
 split at hs
 case h_2 x=>
  split at hs
  ·split at hs
   ·rename_i hg
    cases hs
    have:=hone hid
    subst this
    exact .inr (by rw [hg];rfl)
   ·cases hs
  ·cases hs
 case h_8 x args ts=>
  repeat' (split at hs)
  all_goals first
   | (cases hs;done)
   | (cases hs
      obtain⟨x,ho⟩:=Option.isSome_iff_exists.1 hid
      obtain⟨k',_,rfl,_⟩:=rnH_get ho
      exact .inl (by rw [mv_ge (Nat.zero_le _)];omega))
 case h_9 x m args ts=>
  repeat' (split at hs)
  all_goals first
   | (cases hs;done)
   | (cases hs
      obtain⟨x,ho⟩:=Option.isSome_iff_exists.1 hid
      obtain⟨k',_,rfl,_⟩:=rnH_get ho
      exact .inl (by rw [mv_ge (Nat.zero_le _)];omega))
 case h_10 x y t t'=>
  repeat' (split at hs)
  all_goals first
   | (cases hs;done)
   | (cases hs;exact .inl (Nat.le_of_eq (hone hid).symm))
   | (rename_i hg _ _ _ _
      cases hs
      unfold AH.get at hid
      split at hid
      ·rename_i hk
       exact .inl (Nat.le_of_eq (by simpa using hk))
      ·have:=hone hid
       subst this
       exact .inr (by rw [hg];rfl))
 all_goals
  repeat' (split at hs)
  all_goals first
   | (cases hs;done)
   | (cases hs;exact .inl (Nat.le_of_eq (hone hid).symm))
   | (have hno:out.eff=[]:=by first | exact ok_eff hs | exact okp_eff hs
      rw [hno] at hid
      cases hid)
theorem cpyTo_eff {c:Cx} {h:AH} {te k:Nat} {q:Int} {l:List UInt8} {out:Out} (hs:cpyTo c h te k q l=some out) {id:Nat} (hid:(out.eff.get id).isSome =true):(h.get id).isSome =true:=by
 unfold cpyTo at hs
 split at hs
 ·rename_i hg
  split at hs
  ·split at hs
   ·cases hs
    unfold AH.get at hid
    split at hid
    ·rename_i hk
     rw [←(by simpa using hk:k=id),hg];rfl
    ·cases hid
   ·cases hs
  ·cases hs
 ·cases hs
theorem aopZ_eff {c:Cx} {o:Op} {ρ:Operand→PV} {h:AH} {nx:Nat} {out:Out} (hs:aopZ c o ρ h=some out) {id:Nat} (hid:(out.eff.get id).isSome =true):nx≤id∨(h.get id).isSome =true:=by
 have hno : ∀{v:PV} {p:List Prop},some (⟨p,v,[]⟩:Out)=some out→False:=fun hh=>by cases hh;cases hid
 unfold aopZ at hs
 split at hs
 ·split at hs
  ·exact (hno hs).elim
  ·cases hs
 ·repeat' (split at hs)
  all_goals first
   | (cases hs;done)
   | exact (hno hs).elim
 ·repeat' (split at hs)
  all_goals first
   | (cases hs;done)
   | exact .inr (cpyTo_eff hs hid)
 ·split at hs
  ·exact (hno hs).elim
  ·cases hs
 ·cases hs
theorem aop_eff {c:Cx} {o:Op} {ρ:Operand→PV} {h:AH} {nx:Nat} {out:Out} (hs:aop c o ρ h nx=some out) {id:Nat} (hid:(out.eff.get id).isSome =true):nx≤id∨(h.get id).isSome =true:=by
 unfold aop at hs
 split at hs
 ·rename_i h1
  cases hs
  exact aopX_eff h1 hid
 ·split at hs
  ·rename_i h1
   cases hs
   exact aopY_eff h1 hid
  ·split at hs
   ·rename_i h1
    cases hs
    exact aop0_eff h1 hid
   ·exact aopZ_eff hs hid
end Ax
end Go.Proofs.YtmomiifkdfmahaaGreatDoor
namespace Go.Proofs.YtmomiifkdfmahaaGreatDoor
namespace RegL
open RegP
section
variable {P:Program} {ops:Array Oper} {Q:Exit→Act→World→Prop} {S:(Nat→Bool)→World→Prop}
def upd (L:Nat→Bool) (i:Nat):Nat→Bool:=fun j=>decide (j=i)||L j
theorem upd_same (L:Nat→Bool) (i:Nat):upd L i i=true:=by simp [upd]
theorem upd_ne (L:Nat→Bool) {i j:Nat} (h:j≠i):upd L i j=L j:=by simp [upd,h]
inductive Anc (ops:Array Oper):Nat→Nat→Prop
 | one {j k:Nat} {o:Oper} : ops[k]? =some o→j∈bindsOn o→Anc ops j k
 | more {j m k:Nat} {o:Oper} : ops[k]? =some o→m∈bindsOn o→Anc ops j m→Anc ops j k
end
section
variable {a b c i:Nat} {W W1 W2 w:World} {L:Nat→Bool}
end
end RegL
end Go.Proofs.YtmomiifkdfmahaaGreatDoor
namespace Go.Proofs.YtmomiifkdfmahaaGreatDoor
namespace Ax
open Go.RowKit RegP RegL
def opCk2 (ops:Array Oper) (cl:List (List Nat)) (i:Nat) (o:Oper):Bool:=
 notSel o&&(bindsOn o).all (fun e=>decide (e<i))&&
 ops.toList.zipIdx.all fun (p,j)=>match p.dst with
  | none=>true
  | some t=>(!(o.looksAt ops).contains t||((bindsOn o).contains j&&decide (j<i)||(cl.getD j []).contains i))&&(decide (j=i)||o.dst !=some t)
def drawOk (ops:Array Oper):Bool:=let cl:=clsGo ops.toList [];ops.toList.zipIdx.all fun (o,i)=>opCk2 ops cl i o
theorem get_cut {T:List Nat} {id:Nat} : ∀(h:AH),(cut T h).get id=if T.contains id then h.get id else none
 | []=>by simp [cut,AH.get]
 | (k,o)::r=>by
   have e1 : ∀(x:AH),AH.get ((k,o)::x) id=if k==id then some o else AH.get x id:=fun _=>rfl
   unfold cut
   cases hk:k==id
   ·split
    ·rw [e1,e1,hk,get_cut r];rfl
    ·rw [e1,hk,get_cut r];rfl
   ·have hk:k=id:=by simpa using hk
    subst hk
    split
    ·rename_i h1;rw [e1,e1];simp
    ·rename_i h1;rw [get_cut r,if_neg h1]
theorem free_ok {ts ps:List (List Nat)} {j:Nat} {ks:List Nat} : ∀{n:Nat},free ts ps j ks n=true→∀i,i<n→i≠j→(∀x∈ts.getD i [],x ∉ ks)∨i∈ps.getD j []∨j∈ps.getD i []
 | 0,_,i,hi,_=>by omega
 | n+1,h,i,hi,hij=>by
   unfold free at h
   rw [Bool.and_eq_true] at h
   by_cases hin:i=n
   ·subst hin
    have h:=h.1
    simp only [Bool.or_eq_true,Nat.beq_eq,hij,false_or,List.all_eq_true,Bool.not_eq_true',List.contains_eq_mem,decide_eq_false_iff_not,decide_eq_true_eq] at h
    exact h
   ·exact free_ok h.2 i (by omega) hij
theorem apart_ok {ts ps:List (List Nat)} : ∀{effs:List AH} {j0:Nat},apart ts ps effs j0=true→∀j x id,effs[j]? =some x→(x.get id).isSome =true→∀i,i<ts.length→i≠j0+j→id∈ts.getD i []→i∈ps.getD (j0+j) []∨(j0+j)∈ps.getD i []
 | [],_,_,j,x,id,hx,_,_,_,_,_=>by simp at hx
 | []::r,j0,h,0,x,id,hx,hid,_,_,_,_=>by simp at hx;subst hx;cases hid
 | []::r,j0,h,j+1,x,id,hx,hid,i,hi,hij,hT=>by
   unfold apart at h
   have:=apart_ok h j x id (by simpa using hx) hid i hi (by omega) hT
   rwa [show j0+1+j=j0+(j+1) from by omega] at this
 | (q::y)::r,j0,h,0,x,id,hx,hid,i,hi,hij,hT=>by
   unfold apart at h
   rw [Bool.and_eq_true] at h
   simp at hx
   subst hx
   have hm:id∈(q::y).map (·.1):=by
    obtain⟨o,ho⟩:=Option.isSome_iff_exists.1 hid
    have : ∀(z:AH),z.get id=some o→id∈z.map (·.1):=by
     intro z
     induction z with
     | nil=>intro hz;cases hz
     | cons c z ihz=>
       obtain⟨k,o'⟩:=c
       intro hz
       unfold AH.get at hz
       split at hz
       ·rename_i hk
        have hk:k=id:=by simpa using hk
        simp [hk]
       ·exact List.mem_cons_of_mem _ (ihz hz)
    exact this _ ho
   rcases free_ok h.1 i hi (by omega) with h1 | h1
   ·exact absurd hm (h1 id hT)
   ·exact h1
 | (q::y)::r,j0,h,j+1,x,id,hx,hid,i,hi,hij,hT=>by
   unfold apart at h
   rw [Bool.and_eq_true] at h
   have:=apart_ok h.2 j x id (by simpa using hx) hid i hi (by omega) hT
   rwa [show j0+1+j=j0+(j+1) from by omega] at this
theorem fold_put_no {t:Nat} : ∀(l:List (Option Nat×PV)) (tm:List PV),(∀d v,(d,v)∈l→d≠some t)→(l.foldl (fun tm x=>put tm x.1 x.2) tm)[t]? =tm[t]?
 | [],_,_=>rfl
 | (d,v)::l,tm,h=>by
   rw [List.foldl_cons,fold_put_no l _ fun d' v' hm=>h d' v' (by simp [hm])]
   have:=h d v (by simp)
   cases d with
   | none=>rfl
   | some d=>simp only [put];rw [List.getElem?_set,if_neg (fun hh=>this (by rw [hh]))]
theorem fold_put_yes {t:Nat} {v:PV} : ∀(l:List (Option Nat×PV)) (tm:List PV),(some t,v)∈l→(∀v',(some t,v')∈l→v'=v)→(l.foldl (fun tm x=>put tm x.1 x.2) tm)[t]? =tm[t]?.map fun _=>v
 | [],_,h,_=>by cases h
 | (d,u)::l,tm,h,hu=>by
   rw [List.foldl_cons]
   by_cases hl:(some t,v)∈l
   ·rw [fold_put_yes l _ hl fun v' hv'=>hu v' (by simp [hv'])]
    cases d with
    | none=>rfl
    | some d=>
      simp only [put,List.getElem?_set]
      split
      ·split
       ·rename_i hd hlt;subst hd;rw [List.getElem?_eq_getElem hlt];rfl
       ·rename_i hd hlt;subst hd;rw [List.getElem?_eq_none (by omega)]
      ·rfl
   ·have he:(some t,v)=(d,u):=by
     rcases List.mem_cons.1 h with h | h
     ·exact h
     ·exact absurd h hl
    cases he
    rw [fold_put_no l _ fun d' v' hm hd'=>by subst hd';have:=hu v' (by simp [hm]);subst this;exact hl hm]
    simp only [put,List.getElem?_set,if_true]
    split
    ·rename_i hlt;rw [List.getElem?_eq_getElem hlt];rfl
    ·rename_i hlt;rw [List.getElem?_eq_none (by omega)];rfl
theorem mem_uniGo {a:Nat} {l:List Nat} {f:List Nat→List Nat} (hf : ∀m x,x∈f m↔x∈l∨x∈m) : ∀{m:List Nat} {x:Nat},x∈uniGo a l f m↔x∈a::l∨x∈m
 | [],x=>by simp [uniGo]
 | b::m,x=>by
   unfold uniGo
   split
   ·rename_i h
    rw [Nat.eq_of_beq_eq_true h,List.mem_cons,hf,List.mem_cons,List.mem_cons]
    constructor
    ·rintro (h1 | h1 | h1)
     ·exact .inl (.inl h1)
     ·exact .inl (.inr h1)
     ·exact .inr (.inr h1)
    ·rintro ((h1 | h1) | h1 | h1)
     ·exact .inl h1
     ·exact .inr (.inl h1)
     ·exact .inl h1
     ·exact .inr (.inr h1)
   ·split
    ·rw [List.mem_cons,mem_uniGo hf,List.mem_cons,List.mem_cons]
     constructor
     ·rintro (h1 | h1 | h1)
      ·exact .inr (.inl h1)
      ·exact .inl h1
      ·exact .inr (.inr h1)
     ·rintro (h1 | h1 | h1)
      ·exact .inr (.inl h1)
      ·exact .inl h1
      ·exact .inr (.inr h1)
    ·rw [List.mem_cons,hf,List.mem_cons (a:=x) (b:=a)]
     constructor
     ·rintro (h1 | h1 | h1)
      ·exact .inl (.inl h1)
      ·exact .inl (.inr h1)
      ·exact .inr h1
     ·rintro ((h1 | h1) | h1)
      ·exact .inl h1
      ·exact .inr (.inl h1)
      ·exact .inr (.inr h1)
theorem mem_uni : ∀{a l:List Nat} {x:Nat},x∈uni a l↔x∈a∨x∈l
 | [],l,x=>by simp [uni]
 | a::r,l,x=>by
   unfold uni
   exact mem_uniGo fun m y=>mem_uni
theorem mem_unis {ps:List (List Nat)} : ∀{es:List Edge} {l:List Nat} {x:Nat},x∈unis ps es l↔x∈l∨∃e∈es,Region.binds .any e=true∧(x=e.on∨x∈ps.getD e.on [])
 | [],l,x=>by simp [unis]
 | e::es,l,x=>by
   unfold unis
   rw [mem_unis]
   split
   ·rename_i hb
    rw [mem_uni,List.mem_cons]
    constructor
    ·rintro ((h1 | h1) | ⟨e',h1,h2⟩)
     ·exact .inr ⟨e,List.mem_cons_self,hb,h1⟩
     ·exact .inl h1
     ·exact .inr ⟨e',List.mem_cons_of_mem _ h1,h2⟩
    ·rintro (h1 | ⟨e',h1,h2,h3⟩)
     ·exact .inl (.inr h1)
     ·rcases List.mem_cons.1 h1 with rfl | h1
      ·exact .inl (.inl h3)
      ·exact .inr ⟨e',h1,h2,h3⟩
   ·rename_i hb
    constructor
    ·rintro (h1 | ⟨e',h1,h2⟩)
     ·exact .inl h1
     ·exact .inr ⟨e',List.mem_cons_of_mem _ h1,h2⟩
    ·rintro (h1 | ⟨e',h1,h2,h3⟩)
     ·exact .inl h1
     ·rcases List.mem_cons.1 h1 with rfl | h1
      ·exact absurd h2 hb
      ·exact .inr ⟨e',h1,h2,h3⟩
theorem mem_closure {ps:List (List Nat)} {o:Oper} {x:Nat} : x∈closure ps o↔∃e∈o.after.toList,Region.binds .any e=true∧(x=e.on∨x∈ps.getD e.on []):=by
 unfold closure
 rw [mem_unis]
 simp
theorem clsGo_get : ∀(l:List Oper) (ps:List (List Nat)) (i:Nat) (o:Oper),l[i]? =some o→(clsGo l ps).getD (ps.length+i) []=closure ((clsGo l ps).take (ps.length+i)) o
 | [],ps,i,o,h=>by simp at h
 | x::l,ps,0,o,h=>by
   simp at h
   subst h
   have h1 : ∀(l:List Oper) (qs:List (List Nat)),∃rs,clsGo l qs=qs++rs:=by
    intro l
    induction l with
    | nil=>intro qs;exact⟨[],by simp [clsGo]⟩
    | cons y l ih=>intro qs;obtain⟨rs,h⟩:=ih (qs++[closure qs y]);exact⟨closure qs y::rs,by rw [clsGo,h];simp⟩
   rw [clsGo]
   obtain⟨rs,hrs⟩:=h1 l (ps++[closure ps x])
   rw [hrs,Nat.add_zero]
   simp [List.getD_eq_getElem?_getD]
 | x::l,ps,i+1,o,h=>by
   rw [clsGo]
   have:=clsGo_get l (ps++[closure ps x]) i o (by simpa using h)
   rw [List.length_append,List.length_singleton] at this
   rwa [show ps.length+(i+1)=ps.length+1+i from by omega]
section
variable {ops:Array Oper}
theorem cl_mem (hlt : ∀i o,ops[i]? =some o→∀e∈bindsOn o,e<i) {i:Nat} {o:Oper} (ho:ops[i]? =some o) {j:Nat} : j∈(clsGo ops.toList []).getD i []↔∃e∈bindsOn o,j=e∨j∈(clsGo ops.toList []).getD e []:=by
 have h:=clsGo_get ops.toList [] i o (by simpa using ho)
 rw [List.length_nil,Nat.zero_add] at h
 rw [h]
 rw [mem_closure]
 have hg : ∀e,e<i→((clsGo ops.toList []).take i).getD e []=(clsGo ops.toList []).getD e []:=fun e he=>by
  rw [List.getD_eq_getElem?_getD,List.getD_eq_getElem?_getD,List.getElem?_take,if_pos he]
 constructor
 ·rintro ⟨x,hx,hb,hj⟩
  have hm:x.on∈bindsOn o:=mem_bindsOn.2 ⟨x,by simpa using hx,hb,rfl⟩
  rw [hg _ (hlt i o ho _ hm)] at hj
  exact⟨x.on,hm,hj⟩
 ·rintro ⟨e,he,hj⟩
  obtain⟨x,hx,hb,rfl⟩:=mem_bindsOn.1 he
  exact⟨x,by simpa using hx,hb,by rw [hg _ (hlt i o ho _ he)];exact hj⟩
theorem cl_lt (hlt : ∀i o,ops[i]? =some o→∀e∈bindsOn o,e<i) : ∀(i j:Nat),j∈(clsGo ops.toList []).getD i []→j<i∧i<ops.size:=by
 intro i
 induction i using Nat.strongRecOn with
 | _ i ih=>
   intro j hj
   by_cases hi:i<ops.size
   ·have ho:ops[i]? =some ops[i]:=Array.getElem?_eq_getElem hi
    obtain⟨e,he,h⟩:=(cl_mem hlt ho).1 hj
    have:=hlt i _ ho e he
    refine⟨?_,hi⟩
    rcases h with rfl | h
    ·exact this
    ·have:=(ih e this j h).1;omega
   ·exfalso
    have hlen : ∀(l:List Oper) (ps:List (List Nat)),(clsGo l ps).length =ps.length+l.length:=by
     intro l
     induction l with
     | nil=>intro ps;simp [clsGo]
     | cons x l ihl=>intro ps;rw [clsGo,ihl];simp;omega
    rw [List.getD_eq_getElem?_getD,List.getElem?_eq_none (by rw [hlen];simp;omega)] at hj
    cases hj
theorem cl_listed (hlt : ∀i o,ops[i]? =some o→∀e∈bindsOn o,e<i) {L:Nat→Bool} (hc : ∀i o,ops[i]? =some o→L i=true→∀e∈bindsOn o,L e=true) : ∀(i j:Nat),(∀o,ops[i]? =some o→∀e∈bindsOn o,L e=true)→j∈(clsGo ops.toList []).getD i []→L j=true:=by
 intro i
 induction i using Nat.strongRecOn with
 | _ i ih=>
   intro j hb hj
   have hi:=(cl_lt hlt i j hj).2
   have ho:ops[i]? =some ops[i]:=Array.getElem?_eq_getElem hi
   obtain⟨e,he,h⟩:=(cl_mem hlt ho).1 hj
   have hLe:=hb _ ho e he
   rcases h with rfl | h
   ·exact hLe
   ·exact ih e (hlt i _ ho e he) j (fun o' ho'=>hc e o' ho' hLe) h
end
structure Inv (g:Rg) (ops:Array Oper) (tm0:List PV) (nx0:Nat) (w0:World) (fz:Nat→Prop) (M:Root) (vals:List PV) (effs:List AH) (nxs:List Nat) (L:Nat→Bool) (a:Act) (w:World) (e:Env):Prop where
 size:a.tmps.size=tm0.length
 yes : ∀(j:Nat) (o:Oper) (t:Nat) (v:PV),ops[j]? =some o→o.dst=some t→L j=true→vals[j]? =some v→t<tm0.length→R w e v (a.tmps.getD t undef)
 no : ∀(t:Nat) (p:PV),(∀(j:Nat) (o:Oper),ops[j]? =some o→o.dst=some t→L j=false)→tm0[t]? =some p→R w e p (a.tmps.getD t undef)
 ob : ∀id o,(ovl L 0 effs g.h0).get id=some o→OR w e id o∧e.on id∧(o.gn=false→e.lv id)
 lo : ∀k,e.lv k→e.on k
 on : ∀id,e.on id→id<nx0∨∃j,j<vals.length∧L j=true∧nxs.getD j 0≤id∧id<nxs.getD (j+1) 0
 dis : ∀k k' b,e.lv k→e.lv k'→e.blk k b→e.blk k' b→k=k'
 bd : ∀k b,e.lv k→e.blk k b→(w0.heap.size≤b∨M b)∧b<w.heap.size
 ez:FzS w0 w fz e
 fzb:FzB w0 fz M
 low:Chg M w0 w
 root : ∀k,k<M.n→M.e.on k→e.on k∧e.adr k=M.e.adr k∧e.cap k=M.e.cap k∧e.len k=M.e.len k
 defers:a.defers=M.d
structure Fx (P:Program) (g:Rg) (ops:Array Oper) (tm0:List PV) (nx0:Nat) (vals:List PV) (effs:List AH) (nxs:List Nat) (ts:List (List Nat)):Prop where
 hc:CxOk P g.c
 dst:g.dsts=ops.toList.map (·.dst)
 ck : ∀i o,ops[i]? =some o→opCk2 ops (clsGo ops.toList []) i o=true
 ap:apart ts (clsGo ops.toList []) effs 0=true
 len:vals.length=ops.size
 tr:Tr g ops.toList tm0 nx0 (clsGo ops.toList []) vals effs nxs ts
section
variable {P:Program} {g:Rg} {ops:Array Oper} {tm0:List PV} {nx0:Nat} {w0 w:World} {fz:Nat→Prop} {M:Root} {vals:List PV} {effs:List AH} {nxs:List Nat} {ts:List (List Nat)} {L:Nat→Bool} {a:Act} {e:Env}
theorem Fx.lt (h:Fx P g ops tm0 nx0 vals effs nxs ts) : ∀i o,ops[i]? =some o→∀e∈bindsOn o,e<i:=fun i o ho e he=>by
 have:=h.ck i o ho
 simp only [opCk2,Bool.and_eq_true,List.all_eq_true,decide_eq_true_eq] at this
 exact this.1.2 e he
theorem Fx.dep (h:Fx P g ops tm0 nx0 vals effs nxs ts) {i j t:Nat} {o oj:Oper} (ho:ops[i]? =some o) (hj:ops[j]? =some oj) (hd:oj.dst=some t) (ht:t∈o.looksAt ops):(j∈bindsOn o∧j<i)∨i∈(clsGo ops.toList []).getD j []:=by
 have:=h.ck i o ho
 simp only [opCk2,Bool.and_eq_true,List.all_eq_true] at this
 have h2:=this.2 (oj,j) (List.mem_zipIdx_iff_getElem?.2 (by simpa using hj))
 simp only [hd,Bool.and_eq_true,Bool.or_eq_true,Bool.not_eq_true',List.contains_eq_mem,decide_eq_true_eq,decide_eq_false_iff_not] at h2
 rcases h2.1 with h3 | h3
 ·exact absurd ht h3
 ·exact h3
theorem Fx.uniq (h:Fx P g ops tm0 nx0 vals effs nxs ts) {i j t:Nat} {oi oj:Oper} (hi:ops[i]? =some oi) (hj:ops[j]? =some oj) (hdi:oi.dst=some t) (hdj:oj.dst=some t):i=j:=by
 have:=h.ck i oi hi
 simp only [opCk2,Bool.and_eq_true,List.all_eq_true] at this
 have h2:=this.2 (oj,j) (List.mem_zipIdx_iff_getElem?.2 (by simpa using hj))
 simp only [hdj,Bool.and_eq_true,Bool.or_eq_true,decide_eq_true_eq] at h2
 rcases h2.2 with e | e
 ·exact e.symm
 ·simp [hdi] at e
theorem Fx.step (h:Fx P g ops tm0 nx0 vals effs nxs ts) {i:Nat} {o:Oper} (ho:ops[i]? =some o):StepOk g tm0 (clsGo ops.toList []) vals effs nxs ts i o:=
 h.tr.step i o (by rw [h.len];exact (Array.getElem?_eq_some_iff.1 ho).1) (by simpa using ho)
theorem Fx.nxs_le (h:Fx P g ops tm0 nx0 vals effs nxs ts) {i:Nat} (hi:i<ops.size):nxs.getD i 0≤nxs.getD (i+1) 0:=by
 have ho:ops[i]? =some ops[i]:=Array.getElem?_eq_getElem hi
 rcases h.step ho with ⟨out,tm, -, -, -, -,h5, -⟩ | ⟨-, -,h5, -⟩
 ·rw [List.getD_eq_getElem?_getD (i:=i+1),h5];exact newIds_le _ _
 ·rw [List.getD_eq_getElem?_getD (i:=i+1),h5];exact Nat.le_refl _
theorem Fx.nxs_mono (h:Fx P g ops tm0 nx0 vals effs nxs ts) : ∀{i j:Nat},i≤j→j≤ops.size→nxs.getD i 0≤nxs.getD j 0:=by
 intro i j hij
 obtain⟨d,rfl⟩:=Nat.exists_eq_add_of_le hij
 clear hij
 induction d with
 | zero=>intro _;exact Nat.le_refl _
 | succ d ih=>intro hj;exact Nat.le_trans (ih (by omega)) (h.nxs_le (by omega))
theorem Fx.eff (h:Fx P g ops tm0 nx0 vals effs nxs ts) {i:Nat} {x:AH} {id:Nat} (hx:effs[i]? =some x) (hid:(x.get id).isSome =true):i<ops.size∧id<nxs.getD (i+1) 0∧(nxs.getD i 0≤id∨id∈ts.getD i []):=by
 have hi:i<ops.size:=by rw [←h.len,←h.tr.lenE];exact (List.getElem?_eq_some_iff.1 hx).1
 have ho:ops[i]? =some ops[i]:=Array.getElem?_eq_getElem hi
 refine⟨hi,?_⟩
 rcases h.step ho with ⟨out,tm,h1,h2,h3,h4,h5,h6⟩ | ⟨h3,h4,h5,h6⟩
 ·rw [hx] at h4
  cases h4
  refine⟨?_,(aop_eff h1 hid).imp_right fun h7=>?_⟩
  ·rw [List.getD_eq_getElem?_getD,h5];exact newIds_lt hid
  ·rw [get_cut] at h7
   split at h7
   ·rename_i h8;simpa using h8
   ·cases h7
 ·rw [hx] at h4
  cases h4
  cases hid
theorem Fx.apart (h:Fx P g ops tm0 nx0 vals effs nxs ts) {i j id:Nat} {y:AH} (hi:i<ops.size) (hT:id∈ts.getD i []) (hy:effs[j]? =some y) (h2:(y.get id).isSome =true) (hij:i≠j) :
 i∈(clsGo ops.toList []).getD j []∨j∈(clsGo ops.toList []).getD i []:=by
 have:=apart_ok h.ap j y id hy h2 i (by rw [h.tr.lenT,h.len];exact hi) (by omega) hT
 rwa [Nat.zero_add] at this
theorem Fx.far (h:Fx P g ops tm0 nx0 vals effs nxs ts) {i j id:Nat} (hi:i<ops.size) (hj:j<ops.size) (h1:nxs.getD i 0≤id) (h2:id<nxs.getD (i+1) 0) (h3:nxs.getD j 0≤id) (h4:id<nxs.getD (j+1) 0):i=j:=by
 rcases Nat.lt_trichotomy i j with hlt | rfl | hlt
 ·have:=h.nxs_mono (i:=i+1) (j:=j) hlt (by omega);omega
 ·rfl
 ·have:=h.nxs_mono (i:=j+1) (j:=i) hlt (by omega);omega
theorem Fx.order (h:Fx P g ops tm0 nx0 vals effs nxs ts) {i j id:Nat} {x y:AH} (hx:effs[i]? =some x) (hy:effs[j]? =some y) (h1:(x.get id).isSome =true) (h2:(y.get id).isSome =true) (hij:i≠j) :
 i∈(clsGo ops.toList []).getD j []∨j∈(clsGo ops.toList []).getD i []:=by
 obtain⟨hi,hli,hni⟩:=h.eff hx h1
 obtain⟨hj,hlj,hnj⟩:=h.eff hy h2
 rcases hni with hni | hni
 ·rcases hnj with hnj | hnj
  ·exact absurd (h.far hi hj hni hli hnj hlj) hij
  ·exact (h.apart hj hnj hx h1 (Ne.symm hij)).symm
 ·exact h.apart hi hni hy h2 hij
theorem Fx.seen (h:Fx P g ops tm0 nx0 vals effs nxs ts) {i:Nat} {o:Oper} (ho:ops[i]? =some o) (hLi:L i=false) (hcl : ∀j∈(clsGo ops.toList []).getD i [],L j=true) (hback : ∀j,L j=true→i ∉ (clsGo ops.toList []).getD j [])
 {id:Nat} {ob:Ob} (hg:(cut (ts.getD i []) (viewAt ((clsGo ops.toList []).getD i []) 0 (effs.take i) g.h0)).get id=some ob):(ovl L 0 effs g.h0).get id=some ob:=by
 rw [get_cut] at hg
 split at hg
 case isFalse=>cases hg
 case isTrue hT=>
 have hT:id∈ts.getD i []:=by simpa using hT
 rw [viewAt_ovl,ovl_take _ _ _ _ (fun j hj=>by
  rw [Nat.zero_add]
  cases hc:((clsGo ops.toList []).getD i []).contains j with
  | false=>rfl
  | true=>have:=(cl_lt h.lt i j (by simpa using hc)).1;omega)] at hg
 rw [←hg]
 refine (ovl_agree effs 0 g.h0 g.h0 rfl fun j x hx hs=>?_).symm
 simp only [Nat.zero_add]
 cases hc:((clsGo ops.toList []).getD i []).contains j with
 | true=>exact (hcl j (by simpa using hc)).symm
 | false=>
   cases hLj:L j with
   | false=>rfl
   | true=>
     exfalso
     have hnc:j ∉ (clsGo ops.toList []).getD i []:=by simpa using hc
     have hij:i≠j:=fun hh=>by subst hh;rw [hLi] at hLj;cases hLj
     rcases h.apart (Array.getElem?_eq_some_iff.1 ho).1 hT hx hs hij with h3 | h3
     ·exact hback j hLj h3
     ·exact hnc h3
end
end Ax
end Go.Proofs.YtmomiifkdfmahaaGreatDoor
