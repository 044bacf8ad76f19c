/-
  The plain walker: a state's reading; regions in the text's order; The plain walker: regions in the text's order; code; The plain walker: what the operations of a region yield, one by one; The plain walker: regions that draw their order (lists of waits, effects laid over one another); A region that draws its order, the second form: what the world is may depend on which operations have been carried out ('S L w', L: which ones), and the operations behind number n are forced by their edges, direct or not.
  Conditions: the tables of types and of functions are as the program has them; none; the closed check regCkL of the region's own edges.
-/
import Derived.Test.YtjjonmhpgkahoaaGreatDoorE07
import Derived.Test.YtjjonmhpgkahoaaGreatDoorE02
set_option linter.unusedSimpArgs false
set_option linter.unusedVariables false
namespace Go.Proofs.YtjjonmhpgkahoaaGreatDoor
namespace Ax
open Go.RowKit
structure Root where
 m:Nat→Prop
 n:Nat
 e:Env
 d:List Deferred
instance:CoeFun Root fun _=>Nat→Prop:=⟨Root.m⟩
structure FzS (w0 w:World) (fz:Nat→Prop) (e:Env):Prop where
 sub : ∀b,fz b→e.fz b
 sup : ∀b,e.fz b→fz b∨w0.heap.size≤b∧b<w.heap.size
 nf : ∀k b,e.lv k→e.blk k b→¬e.fz b
structure FzB (w0:World) (fz M:Nat→Prop):Prop where
 lt : ∀b,fz b→b<w0.heap.size∧¬M b
 gl:GOk w0 fz
theorem FzS.lt {w0 w:World} {fz M:Nat→Prop} {e:Env} (h:FzS w0 w fz e) (hz:FzB w0 fz M) (hs:w0.heap.size≤w.heap.size) {b:Nat} (hb:e.fz b):b<w.heap.size:=by
 rcases h.sup b hb with h | h
 ·exact Nat.lt_of_lt_of_le (hz.lt b h).1 hs
 ·exact h.2
theorem FzS.fw {w0 w:World} {fz M:Nat→Prop} {e:Env} (h:FzS w0 w fz e) (hz:FzB w0 fz M) (hc:Chg M w0 w):FzW w e.fz:=⟨fun _ hb=>h.lt hz hc.size hb,(hz.gl.chg hc hz.lt).mono h.sub⟩
theorem FzS.same {w0 w w':World} {fz:Nat→Prop} {e e':Env} {nx:Nat} {out:Out} {u:Value} (h:FzS w0 w fz e) (hl : ∀b,e.fz b→b<w.heap.size) (hp:Post w w' e e' nx out u):Same e.fz w w':=fun b hb=>
 hp.chg.block b (hl b hb) fun ⟨k,hk,_,hkb⟩=>h.nf k b hk hkb hb
theorem FzS.post {w0 w w':World} {fz:Nat→Prop} {e e':Env} {nx:Nat} {out:Out} {u:Value} (h:FzS w0 w fz e) (hl : ∀b,e.fz b→b<w.heap.size) (hs:w0.heap.size≤w.heap.size) (hlo : ∀k,e.lv k→e.on k) (hbd : ∀k b,e.lv k→e.blk k b→b<w.heap.size) (hp:Post w w' e e' nx out u):FzS w0 w' fz e':=by
 refine⟨fun b hb=>hp.le.fz b (h.sub b hb),fun b hb=>?_,fun k b hk hb hf=>?_⟩
 ·rcases hp.fz.fz b hb with h1 | h1
  ·exact (h.sup b h1).imp id fun q=>⟨q.1,Nat.lt_of_lt_of_le q.2 hp.chg.size⟩
  ·exact .inr ⟨Nat.le_trans hs h1.1,h1.2⟩
 ·by_cases hk0:e.lv k
  ·obtain⟨x,hx,hxb⟩:=hb
   have hb0:e.blk k b:=⟨x,by rw [←hp.le.adr k (hlo k hk0)];exact hx,hxb⟩
   rcases hp.fz.fz b hf with h1 | h1
   ·exact h.nf k b hk0 hb0 h1
   ·exact absurd (hbd k b hk0 hb0) (Nat.not_lt.2 h1.1)
  ·have h1:=hp.fz.nf k b hk hk0 hb hf
   obtain⟨-, -,h2⟩:=(hp.nlv k hk).resolve_left hk0
   rcases (h2 b hb).2 with h3 | ⟨j,h3, -,h4⟩
   ·exact absurd (hl b h1) (Nat.not_lt.2 h3)
   ·exact h.nf j b h3 h4 h1
structure SR (w0:World) (fz:Nat→Prop) (M:Root) (st:AS) (a:Act) (w:World) (e:Env):Prop where
 size:a.tmps.size=st.tm.length
 tm : ∀(t:Nat) (p:PV),st.tm[t]? =some p→R w e p (a.tmps.getD t undef)
 ob : ∀id o,st.h.get id=some o→OR w e id o∧e.on id∧(o.gn=false→e.lv id)
 lo : ∀k,e.lv k→e.on k
 lt : ∀id,e.on id→id<st.nx
 dis : ∀k k' b,e.lv k→e.lv k'→e.blk k b→e.blk k' b→k=k'
 bd : ∀k b,e.lv k→e.blk k b→(w0.heap.size≤b∨M b)∧b<w.heap.size
 ez:FzS w0 w fz e
 fzb:FzB w0 fz M
 low:Chg M w0 w
 root : ∀k,k<M.n→M.e.on k→e.on k∧e.adr k=M.e.adr k∧e.cap k=M.e.cap k∧e.len k=M.e.len k
 defers:a.defers=M.d
section
variable {P:Program} {c:Cx} {nx:Nat} {w0 w w':World} {fz:Nat→Prop} {M:Root} {st:AS} {a:Act} {e e':Env} {o:Oper} {out:Out} {u:Value}
theorem SR.sees (h:SR w0 fz M st a w e):Sees w e st.h:=⟨h.ob,h.ez.fw h.fzb h.low,h.dis⟩
theorem root_le {e1 e2:Env} (h : ∀k,k<M.n→M.e.on k→e1.on k∧e1.adr k=M.e.adr k∧e1.cap k=M.e.cap k∧e1.len k=M.e.len k) (hle:e1.Le e2) : ∀k,k<M.n→M.e.on k→e2.on k∧e2.adr k=M.e.adr k∧e2.cap k=M.e.cap k∧e2.len k=M.e.len k:=fun k hk ho=>by
 obtain⟨h1,h2,h3,h4⟩:=h k hk ho
 exact⟨hle.on k h1,(hle.adr k h1).trans h2,(hle.cap k h1).trans h3,(hle.len k h1).trans h4⟩
theorem Post.lo (hp:Post w w' e e' nx out u) (hlo : ∀k,e.lv k→e.on k) : ∀k,e'.lv k→e'.on k:=fun k hk=>by
 rcases hp.nlv k hk with h1 | ⟨-,h1, -⟩
 ·exact hp.le.on k (hlo k h1)
 ·exact h1
theorem Post.old (hp:Post w w' e e' nx out u) {k b:Nat} (hk:e.on k) (hb:e'.blk k b):e.blk k b:=by
 obtain⟨x,hx,hb⟩:=hb
 exact⟨x,by rw [←hp.le.adr k hk];exact hx,hb⟩
theorem Post.keep (hp:Post w w' e e' nx out u) {X:Nat→Prop} (hX : ∀b,w.heap.size≤b→X b) (hlo : ∀k,e.lv k→e.on k) (hdis : ∀k k' b,e.lv k→e.lv k'→e.blk k b→e.blk k' b→k=k') (hbd : ∀k b,e.lv k→e.blk k b→X b∧b<w.heap.size) :
 (∀k k' b,e'.lv k→e'.lv k'→e'.blk k b→e'.blk k' b→k=k')∧∀k b,e'.lv k→e'.blk k b→X b∧b<w'.heap.size:=by
 have hmix : ∀k k' b,e.lv k→e'.lv k→e'.lv k'→¬e.lv k'→e'.blk k b→e'.blk k' b→False:=fun k k' b h1 h2 h3 h4 hb hb'=>by
  have hb:=hp.old (hlo k h1) hb
  obtain⟨-, -,h5⟩:=(hp.nlv k' h3).resolve_left h4
  rcases (h5 b hb').2 with h6 | ⟨j,h6,h7,h8⟩
  ·have:=(hbd k b h1 hb).2
   omega
  ·have:=hdis k j b h1 h6 hb h8
   subst this
   exact h7 h2
 refine⟨fun k k' b hk hk' hb hb'=>?_,fun k b hk hb=>?_⟩
 ·by_cases h1:e.lv k<;>by_cases h2:e.lv k'
  ·exact hdis k k' b h1 h2 (hp.old (hlo k h1) hb) (hp.old (hlo k' h2) hb')
  ·exact (hmix k k' b h1 hk hk' h2 hb hb').elim
  ·exact (hmix k' k b h2 hk' hk h1 hb' hb).elim
  ·exact hp.dis k k' b hk h1 hk' h2 hb hb'
 ·by_cases h1:e.lv k
  ·obtain⟨q1,q2⟩:=hbd k b h1 (hp.old (hlo k h1) hb)
   exact⟨q1,Nat.lt_of_lt_of_le q2 hp.chg.size⟩
  ·obtain⟨-, -,h5⟩:=(hp.nlv k hk).resolve_left h1
   obtain⟨h6,h7⟩:=h5 b hb
   refine⟨?_,h6⟩
   rcases h7 with h7 | ⟨j,h7, -,h8⟩
   ·exact hX b h7
   ·exact (hbd j b h7 h8).1
theorem Post.ob (hp:Post w w' e e' nx out u) (hsame:Same e.fz w w') (hdis : ∀k k' b,e.lv k→e.lv k'→e.blk k b→e.blk k' b→k=k') {id:Nat} {o:Ob} (hx:out.eff.get id=none) (h:OR w e id o∧e.on id∧(o.gn=false→e.lv id)):OR w' e' id o∧e'.on id∧(o.gn=false→e'.lv id):=by
 obtain⟨h1,h2,h3⟩:=h
 refine⟨?_,hp.le.on id h2,fun hg=>(hp.klv id (h3 hg)).resolve_right fun h=>by rw [hx] at h;cases h⟩
 cases hg:o.gn with
 | true=>cases o with
   | gone=>trivial
   | _=>cases hg
 | false=>
   refine OR_mono hsame hp.le h2 (fun b hb=>⟨fun q=>(hp.fz.fz b q).resolve_right fun q=>absurd (OR_row hg h1 b hb) (Nat.not_lt.2 q.1),hp.chg.block b (OR_row hg h1 b hb) fun ⟨k,hk,hks,hkb⟩=>?_⟩) h1
   have:=hdis id k b (h3 hg) hk hb hkb
   subst this
   rw [hx] at hks
   cases hks
theorem newIds_le : ∀(r:AH) (nx:Nat),nx≤newIds nx r
 | [],nx=>Nat.le_refl _
 | (k,_)::r,nx=>by
   unfold newIds
   exact Nat.le_trans (by split<;>omega) (newIds_le r _)
theorem newIds_lt : ∀{r:AH} {nx k:Nat},(r.get k).isSome =true→k<newIds nx r
 | [],nx,k,h=>by simp [AH.get] at h
 | (j,_)::r,nx,k,h=>by
   unfold newIds
   unfold AH.get at h
   by_cases hk:j=k
   ·subst hk
    exact Nat.lt_of_lt_of_le (by split<;>omega) (newIds_le r _)
   ·rw [if_neg (by simpa using hk)] at h
    exact newIds_lt h
theorem get_app : ∀(x y:AH) (id:Nat),AH.get (x++y) id=match x.get id with | some o=>some o | none=>y.get id
 | [],y,id=>rfl
 | (k,o)::x,y,id=>by
   have e1:AH.get ((k,o)::(x++y)) id=if k==id then some o else AH.get (x++y) id:=rfl
   have e2:AH.get ((k,o)::x) id=if k==id then some o else AH.get x id:=rfl
   rw [List.cons_append,e1,e2]
   split
   ·rfl
   ·exact get_app x y id
theorem put_len (tm:List PV) (d:Option Nat) (v:PV):(put tm d v).length =tm.length:=by cases d<;>simp [put]
theorem tm_put {tm:List PV} {ts:Array Value} {w:World} {e:Env} (hs:ts.size=tm.length) (h : ∀(t:Nat) (p:PV),tm[t]? =some p→R w e p (ts.getD t undef)) {d:Option Nat} {v:PV} {u:Value} (hv:R w e v u) :
 ∀(t:Nat) (p:PV),(put tm d v)[t]? =some p→R w e p ((({ tmps:=ts,defers:=[] } : Act).put d u).tmps.getD t undef):=by
 intro t p hp
 cases d with
 | none=>exact h t p hp
 | some d=>
   obtain⟨d,rfl⟩ : ∃n:Nat,n=d:=⟨d,rfl⟩
   simp only [put,List.getElem?_set] at hp
   simp only [Act.put,Array.getD_eq_getD_getElem?,Array.getElem?_setIfInBounds]
   by_cases hd:d=t
   ·subst hd
    rw [if_pos rfl] at hp ⊢
    split at hp
    ·rename_i hlt
     cases hp
     rw [if_pos (by omega)]
     exact hv
    ·cases hp
   ·rw [if_neg hd] at hp ⊢
    have:=h t p hp
    rwa [Array.getD_eq_getD_getElem?] at this
theorem SR.step (h:SR w0 fz M st a w e) {h':AH} (hp:Post w w' e e' st.nx out u) (hget : ∀id o,h'.get id=some o→out.eff.get id=some o∨out.eff.get id=none∧st.h.get id=some o) {d:Option Nat} :
 SR w0 fz M ⟨put st.tm d out.v,h',newIds st.nx out.eff⟩ (a.put d u) w' e':=by
 have hlowblk : ∀b,b<w0.heap.size→¬M b→w'.heap[b]? =w.heap[b]? :=fun b hb hM=>hp.chg.block b (Nat.lt_of_lt_of_le hb h.low.size) fun ⟨k,hk,_,hkb⟩=>by
  rcases (h.bd k b hk hkb).1 with h1 | h1
  ·omega
  ·exact hM h1
 have hsame:Same e.fz w w':=h.ez.same (fun b hb=>h.ez.lt h.fzb h.low.size hb) hp
 obtain⟨hd',hb'⟩:=hp.keep (X:=fun b=>w0.heap.size≤b∨M b) (fun b hb=>.inl (Nat.le_trans h.low.size hb)) h.lo h.dis h.bd
 refine⟨?_,?_,?_,hp.lo h.lo,?_,hd',hb',h.ez.post (fun b hb=>h.ez.lt h.fzb h.low.size hb) h.low.size h.lo (fun k b q r=>(h.bd k b q r).2) hp,h.fzb,⟨hp.chg.os.trans h.low.os,hp.chg.tape.trans h.low.tape,hp.chg.output.trans h.low.output,Nat.le_trans h.low.size hp.chg.size,fun b hb hM=>(hlowblk b hb hM).trans (h.low.block b hb hM)⟩,root_le h.root hp.le,?_⟩
 ·show (a.put d u).tmps.size =(put st.tm d out.v).length
  rw [put_len,←h.size]
  cases d<;>simp [Act.put]
 ·intro t p hp'
  have:=tm_put h.size (fun t p hh=>R_mono hsame hp.le p _ (h.tm t p hh)) (d:=d) hp.val t p hp'
  cases d<;>exact this
 ·intro id o hid
  rcases hget id o hid with h1 | ⟨h1,h2⟩
  ·exact hp.eff id o h1
  ·exact hp.ob hsame h.dis h1 (h.ob id o h2)
 ·intro id hid
  show id<newIds st.nx out.eff
  rcases hp.new id hid with h1 | ⟨-,h2⟩
  ·exact Nat.lt_of_lt_of_le (h.lt id h1) (newIds_le _ _)
  ·exact newIds_lt h2
 ·have:=h.defers
  cases d<;>exact this
theorem conj_split : ∀{ps:List Prop} {r:Prop},conj ps r→(∀p∈ps,p)∧r
 | [],_,h=>⟨fun p hp=>absurd hp (by simp),h⟩
 | q::ps,r,h=>by
   obtain⟨h1,h2⟩:=h
   obtain⟨h3,h4⟩:=conj_split h2
   refine⟨fun p hp=>?_,h4⟩
   rcases List.mem_cons.1 hp with rfl | hp
   ·exact h1
   ·exact h3 p hp
theorem ev_R {tm:List PV} {a:Act} {w:World} {e:Env} (h : ∀(t:Nat) (p:PV),tm[t]? =some p→R w e p (a.tmps.getD t undef)) (x:Operand):R w e (ev tm x) (a.eval x):=by
 cases x with
 | tmp t=>
   show R w e (tm.getD t .dead) (a.tmps.getD t undef)
   rw [List.getD_eq_getElem?_getD]
   cases ht:tm[t]? with
   | none=>simp only [Option.getD_none];unfold R;trivial
   | some p=>exact h t p ht
 | const v=>exact R_const v
 | global g=>unfold ev R;trivial
 | func f=>unfold ev R;exact⟨#[],rfl,by unfold Rs;rfl⟩
def Nv:Exit→Act→World→Prop:=fun _ _ _=>False
theorem wp_never {K:Act→World→Prop} {Q:Exit→Act→World→Prop} (h:o.wp P a w K Nv):o.wp P a w K Q:=by
 unfold Oper.wp at *
 generalize (execOp a.eval o).run P w=r at *
 cases r with
 | ok n w'=>
   cases n<;>simp only [Oper.upon] at h ⊢
   case value u=>exact h
   case skip=>exact h
   case defer d=>exact h
   case enter f args=>
    refine Calls.mono h fun e w'' he=>?_
    cases e with
    | returned u=>exact he
    | panicked c=>exact he.elim
    | outgrown=>obtain⟨_,_,hh⟩:=he;exact hh.elim
   case row row args=>exact h
 | halt x w'=>
   cases x<;>simp only [Oper.upon] at h
   case panic u=>exact h.elim
theorem SR.aop (hc:CxOk P c) (h:SR w0 fz M st a w e) (hs:Ax.aop c o.op (ev st.tm) st.h st.nx=some out) (hp : ∀p∈out.pre,p) :
 o.wp P a w (fun a' w'=>∃e',SR w0 fz M ⟨put st.tm o.dst out.v,out.eff++st.h,newIds st.nx out.eff⟩ a' w' e') Nv:=by
 have:=aop_ok hc hs hp (fun x _=>ev_R h.tm x) h.sees (fun k hk _ hon=>by have:=h.lt k hon;omega)
 refine Oper.wp_mono ?_ this
 intro a' w' hK
 obtain⟨u,e',rfl,hpost⟩:=hK
 refine⟨e',h.step hpost fun id o hid=>?_⟩
 rw [get_app] at hid
 split at hid
 ·rename_i h1;exact .inl (by rw [h1];exact hid)
 ·rename_i h1;exact .inr ⟨h1,hid⟩
theorem SR.ncall {n:NOut} (hc:CxOk P c) (h:SR w0 fz M st a w e) (hs:Ax.ncall c o.op (ev st.tm) st.h st.nx=some n) (hp : ∀p∈n.pre,p) :
 o.wp P a w (fun a' w'=>∃x,n.Q x∧∃e',SR w0 fz M ⟨put st.tm o.dst (n.v x),n.eff x++st.h,newIds st.nx (n.eff x)⟩ a' w' e') Nv:=by
 have:=ncall_ok hc hs hp (fun x _=>ev_R h.tm x) h.sees (fun k hk hon=>by have:=h.lt k hon;omega)
 refine Oper.wp_mono ?_ this
 intro a' w' hK
 obtain⟨x,hx,u,e',rfl,hpost⟩:=hK
 refine⟨x,hx,e',h.step hpost fun id o hid=>?_⟩
 rw [get_app] at hid
 split at hid
 ·rename_i h1;exact .inl (by rw [h1];exact hid)
 ·rename_i h1;exact .inr ⟨h1,hid⟩
theorem SR.skip (h:SR w0 fz M st a w e) (d:Option Nat):SR w0 fz M ⟨put st.tm d (.tup []),st.h,st.nx⟩ (a.put d undef) w e:=by
 refine⟨?_,?_,h.ob,h.lo,h.lt,h.dis,h.bd,h.ez,h.fzb,h.low,h.root,?_⟩
 ·show (a.put d undef).tmps.size =(put st.tm d _).length
  rw [put_len,←h.size]
  cases d<;>simp [Act.put]
 ·intro t p hp'
  have:=tm_put h.size h.tm (d:=d) (u:=undef) (v:=.tup []) (by unfold R;exact⟨#[],rfl,by unfold Rs;rfl⟩) t p hp'
  cases d<;>exact this
 ·have:=h.defers
  cases d<;>exact this
theorem SR.refine_ (h:SR w0 fz M st a w e) {t:Nat} {p q:PV} (ht:st.tm.getD t .dead =p) (hq : ∀u,R w e p u→R w e q u):SR w0 fz M ⟨st.tm.set t q,st.h,st.nx⟩ a w e:=by
 refine⟨by show a.tmps.size=(st.tm.set t q).length;rw [List.length_set];exact h.size,?_,h.ob,h.lo,h.lt,h.dis,h.bd,h.ez,h.fzb,h.low,h.root,h.defers⟩
 intro s r hr
 simp only [List.getElem?_set] at hr
 by_cases hts:t=s
 ·subst hts
  rw [if_pos rfl] at hr
  split at hr
  ·rename_i hlt
   cases hr
   refine hq _ (h.tm t p ?_)
   rw [←ht,List.getD_eq_getElem?_getD,List.getElem?_eq_getElem hlt]
   rfl
  ·cases hr
 ·rw [if_neg hts] at hr
  exact h.tm s r hr
end
end Ax
namespace Ax
open Go.RowKit
section
variable {P:Program} {w0 w:World} {fz:Nat→Prop} {M:Root} {a:Act} {e:Env}
theorem yield_at {ops:Array Oper} {dsts:List (Option Nat)} (hdst:dsts=ops.toList.map (·.dst)) {j t:Nat} (hj:dsts.getD j none=some t) : ∀tmps:Array Value,yielded ops tmps j=match tmps[t]? with | some (.bool b)=>some b | _=>none:=by
 intro tmps
 have h1:(ops[j]?).bind (·.dst)=some t:=by
  rw [hdst,List.getD_eq_getElem?_getD,List.getElem?_map,Array.getElem?_toList] at hj
  cases ho:ops[j]? with
  | none=>rw [ho] at hj;cases hj
  | some o=>rw [ho] at hj;exact hj
 unfold yielded
 rw [h1]
 rfl
theorem tm_at {tm:List PV} (hs:a.tmps.size=tm.length) (h : ∀(t:Nat) (p:PV),tm[t]? =some p→R w e p (a.tmps.getD t undef)) {t:Nat} {p:PV} (hp:tm.getD t .dead =p) (hd:p≠.dead) : ∃u,a.tmps[t]? =some u∧R w e p u:=by
 rw [List.getD_eq_getElem?_getD] at hp
 cases ht:tm[t]? with
 | none=>rw [ht] at hp;exact absurd hp.symm hd
 | some q=>
   rw [ht] at hp
   simp only [Option.getD_some] at hp
   subst hp
   have hlt:t<a.tmps.size:=by rw [hs];exact (List.getElem?_eq_some_iff.1 ht).1
   refine⟨a.tmps[t],Array.getElem?_eq_getElem hlt,?_⟩
   have:=h t q ht
   rwa [Array.getD_eq_getD_getElem?,Array.getElem?_eq_getElem hlt] at this
theorem yield_b {ops:Array Oper} {dsts:List (Option Nat)} (hdst:dsts=ops.toList.map (·.dst)) {tm:List PV} (hs:a.tmps.size=tm.length) (h : ∀(t:Nat) (p:PV),tm[t]? =some p→R w e p (a.tmps.getD t undef)) {j t:Nat} {p:PV} {x:Bool} (hj:dsts.getD j none=some t) (hp:tm.getD t .dead =p) (hx:isB p=some x) :
 yielded ops a.tmps j=some x:=by
 obtain⟨u,h1,h2⟩:=tm_at hs h hp (fun hh=>by subst hh;cases hx)
 rw [isB_ok hx] at h2
 subst h2
 rw [yield_at hdst hj,h1]
theorem yield_n {ops:Array Oper} {dsts:List (Option Nat)} (hdst:dsts=ops.toList.map (·.dst)) {tm:List PV} (hs:a.tmps.size=tm.length) (h : ∀(t:Nat) (p:PV),tm[t]? =some p→R w e p (a.tmps.getD t undef)) {j t:Nat} (hj:dsts.getD j none=some t) (hp:tm.getD t .dead =.tup []) :
 yielded ops a.tmps j=none:=by
 obtain⟨u,h1,h2⟩:=tm_at hs h hp (fun hh=>by cases hh)
 unfold R at h2
 obtain⟨vs,rfl, -⟩:=h2
 rw [yield_at hdst hj,h1]
theorem isB_lit (x:Bool):isB (litB x)=some x:=by cases x<;>rfl
theorem R_lit {p:PV} {x:Bool} (hx:isB p=some x) : ∀u,R w e p u→R w e (litB x) u:=fun u h=>(isB_ok (isB_lit x)).2 ((isB_ok hx).1 h)
theorem regW_seq {g:Rg} (hc:CxOk P g.c) (hd:g.draw=false) {ops:Array Oper} (hdst:g.dsts=ops.toList.map (·.dst)) {Q:AS→Prop} {Q':Exit→Act→World→Prop} (hQ : ∀st a w e,Q st→SR w0 fz M st a w e→Q' .normal a w) :
 ∀(l:List Oper) (i:Nat) (ps ts:List (List Nat)) (effs:List AH) (tm:List PV) (nx:Nat) (a:Act) (w:World) (e:Env),regW g Q l i ps ts effs tm nx→SR w0 fz M ⟨tm,effs.foldl (fun h e=>e++h) g.h0,nx⟩ a w e→wpList P ops Q' l a w:=by
 intro l
 induction l with
 | nil=>
   intro i ps ts effs tm nx a w e h hs
   unfold regW hold at h
   rw [hd] at h
   exact hQ _ a w e (h ()) hs
 | cons o r ih=>
   intro i ps ts effs tm nx a w e h hs
   unfold regW at h
   rw [hd] at h
   simp only [Bool.false_eq_true,if_false] at h
   have hskip : ∀tm':List PV,SR w0 fz M ⟨tm',effs.foldl (fun h e=>e++h) g.h0,nx⟩ a w e→Region.wanted o (yielded ops a.tmps)=false→regW g Q r (i+1) (ps++[[]]) (ts++[[]]) (effs++[[]]) (put tm' o.dst (.tup [])) nx→wpList P ops Q' (o::r) a w:=fun tm' hs' hw h'=>by
    unfold wpList
    rw [if_neg (by rw [hw];exact Bool.false_ne_true)]
    refine ih _ _ _ _ _ _ _ _ e h' ?_
    rw [List.foldl_append]
    exact hs'.skip o.dst
   have hrun : ∀tm':List PV,SR w0 fz M ⟨tm',effs.foldl (fun h e=>e++h) g.h0,nx⟩ a w e→Region.wanted o (yielded ops a.tmps)=true→(match Ax.ncall g.c o.op (ev tm') (effs.foldl (fun h e=>e++h) g.h0) nx with
    | some n=>conj n.pre (∀x:Nd n.α,n.Q x.x→regW g Q r (i+1) (ps++[[]]) (ts++[[]]) (effs++[n.eff x.x]) (put tm' o.dst (n.v x.x)) (newIds nx (n.eff x.x)))
    | none=>match Ax.aop g.c o.op (ev tm') (effs.foldl (fun h e=>e++h) g.h0) nx with
    | some out=>conj out.pre (regW g Q r (i+1) (ps++[[]]) (ts++[[]]) (effs++[out.eff]) (put tm' o.dst out.v) (newIds nx out.eff))
    | none=>False)→wpList P ops Q' (o::r) a w:=fun tm' hs' hw h'=>by
    unfold wpList
    rw [if_pos hw]
    split at h'
    ·rename_i n hn
     obtain⟨h1,h2⟩:=conj_split h'
     refine .inl (wp_never (Oper.wp_mono ?_ (hs'.ncall hc hn h1)))
     rintro a' w' ⟨x,hx,e',h3⟩
     refine ih _ _ _ _ _ _ _ _ e' (h2 ⟨x⟩ hx) ?_
     rw [List.foldl_append]
     exact h3
    split at h'
    ·rename_i out ho
     obtain⟨h1,h2⟩:=conj_split h'
     refine .inl (wp_never (Oper.wp_mono ?_ (hs'.aop hc ho h1)))
     rintro a' w' ⟨e',h3⟩
     refine ih _ _ _ _ _ _ _ _ e' h2 ?_
     rw [List.foldl_append]
     exact h3
    ·exact h'.elim
   have href : ∀(t:Nat) (p:PV) (x:Bool),tm.getD t .dead =p→isB p=some x→SR w0 fz M ⟨tm.set t (litB x),effs.foldl (fun h e=>e++h) g.h0,nx⟩ a w e:=fun t p x hp hx=>hs.refine_ hp (R_lit hx)
   split at h
   ·rename_i hg
    have hw:Region.wanted o (yielded ops a.tmps)=true:=by unfold Region.wanted;rw [hg]
    split at h
    ·rename_i t _ _ hop
     split at h
     ·rename_i x hx
      cases hxx:x
      ·exact hrun _ (by have:=href t _ x hx rfl;rwa [hxx] at this) hw (h.2 hxx)
      ·exact hrun _ (by have:=href t _ x hx rfl;rwa [hxx] at this) hw (h.1 hxx)
     ·rename_i x hx
      cases hxx:x
      ·exact hrun _ (by have:=href t _ (!x) hx rfl;rwa [hxx] at this) hw (h.1 hxx)
      ·exact hrun _ (by have:=href t _ (!x) hx rfl;rwa [hxx] at this) hw (h.2 hxx)
     ·exact hrun _ hs hw h
    ·exact hrun _ hs hw h
   ·rename_i j want hg
    have hwb : ∀(t:Nat) (p:PV) (x:Bool),g.dsts.getD j none=some t→tm.getD t .dead =p→isB p=some x→Region.wanted o (yielded ops a.tmps)=(x==want):=fun t p x hj hp hx=>by
     unfold Region.wanted
     rw [hg]
     simp only [yield_b hdst hs.size hs.tm hj hp hx]
     cases x<;>cases want<;>rfl
    split at h
    ·rename_i t hj
     split at h
     ·rename_i x hx
      by_cases hxw:x=want
      ·exact hrun _ (by have:=href t _ x hx rfl;rwa [hxw] at this) (by rw [hwb t _ x hj hx rfl,hxw];cases want<;>rfl) (h.1 hxw)
      ·have hxw:x=!want:=by cases x<;>cases want<;>simp_all
       exact hskip _ (by have:=href t _ x hx rfl;rwa [hxw] at this) (by rw [hwb t _ x hj hx rfl,hxw];cases want<;>rfl) (h.2 hxw)
     ·rename_i x hx
      by_cases hxw:x=want
      ·exact hskip _ (by have:=href t _ (!x) hx rfl;rwa [hxw] at this) (by rw [hwb t _ (!x) hj hx rfl,hxw];cases want<;>rfl) (h.2 hxw)
      ·have hxw:x=!want:=by cases x<;>cases want<;>simp_all
       exact hrun _ (by have:=href t _ (!x) hx rfl;rw [hxw,Bool.not_not] at this;exact this) (by rw [hwb t _ (!x) hj hx rfl,hxw];cases want<;>rfl) (h.1 hxw)
     ·rename_i hx
      have hw:=hwb t _ true hj hx rfl
      split at h
      ·rename_i hww;exact hrun _ hs (by rw [hw,hww];rfl) h
      ·rename_i hww;exact hskip _ hs (by rw [hw];cases want<;>simp_all) h
     ·rename_i hx
      have hw:=hwb t _ false hj hx rfl
      split at h
      ·rename_i hww;exact hskip _ hs (by rw [hw,hww];rfl) h
      ·rename_i hww;exact hrun _ hs (by rw [hw];cases want<;>simp_all) h
     ·rename_i hx
      exact hskip _ hs (by unfold Region.wanted;rw [hg];simp only [yield_n hdst hs.size hs.tm hj hx];rfl) h
     ·exact h.elim
    ·exact h.elim
end
end Ax
namespace Ax
open Go.RowKit
def eqv (p q:PV):Prop:=p=q∨∃x,isB p=some x∧isB q=some x
def Eqv (l m:List PV):Prop:=l.length=m.length∧∀(t:Nat) (p q:PV),l[t]? =some p→m[t]? =some q→eqv p q
theorem eqv.refl (p:PV):eqv p p:=.inl rfl
theorem eqv.R {p q:PV} (h:eqv p q) {w:World} {e:Env} {u:Value} : R w e p u↔R w e q u:=by
 rcases h with rfl | ⟨x,h1,h2⟩
 ·exact Iff.rfl
 ·exact (isB_ok h1).trans (isB_ok h2).symm
theorem eqv.isB {p q:PV} (h:eqv p q) {x:Bool} (hp:Ax.isB p=some x):Ax.isB q=some x:=by
 rcases h with rfl | ⟨y,h1,h2⟩
 ·exact hp
 ·rw [h1] at hp;cases hp;exact h2
theorem Eqv.getD {l m:List PV} (h:Eqv l m) (t:Nat):eqv (l.getD t .dead) (m.getD t .dead):=by
 rw [List.getD_eq_getElem?_getD,List.getD_eq_getElem?_getD]
 by_cases ht:t<l.length
 ·have hm:t<m.length:=by rw [←h.1];exact ht
  exact h.2 t _ _ (by rw [List.getElem?_eq_getElem ht];rfl) (by rw [List.getElem?_eq_getElem hm];rfl)
 ·rw [List.getElem?_eq_none (by omega),List.getElem?_eq_none (by rw [←h.1];omega)]
  exact .refl _
theorem Eqv.put {l m:List PV} (h:Eqv l m) (d:Option Nat) (v:PV):Eqv (put l d v) (Ax.put m d v):=by
 cases d with
 | none=>exact h
 | some d=>
   refine⟨by simp [Ax.put,h.1],fun t p q hp hq=>?_⟩
   simp only [Ax.put,List.getElem?_set] at hp hq
   split at hp
   ·rename_i hd
    rw [if_pos hd] at hq
    split at hp
    ·split at hq
     ·cases hp;cases hq;exact .refl _
     ·cases hq
    ·cases hp
   ·rename_i hd
    rw [if_neg hd] at hq
    exact h.2 t p q hp hq
theorem Eqv.set {l m:List PV} (h:Eqv l m) {t:Nat} {p:PV} {x:Bool} (hp:l.getD t .dead =p) (hx:isB p=some x):Eqv (l.set t (litB x)) m:=by
 refine⟨by simp [h.1],fun s r q hr hq=>?_⟩
 rw [List.getElem?_set] at hr
 split at hr
 ·rename_i hts
  subst hts
  split at hr
  ·cases hr
   refine .inr ⟨x,isB_lit x,?_⟩
   have:=(h.getD t).isB (x:=x) (by rw [hp];exact hx)
   rwa [List.getD_eq_getElem?_getD,hq] at this
  ·cases hr
 ·exact h.2 s r q hr hq
def TV (dsts:List (Option Nat)) (tm0:List PV) (vals:List PV):List PV:=(dsts.zip vals).foldl (fun tm x=>put tm x.1 x.2) tm0
theorem TV_snoc {dsts:List (Option Nat)} {tm0 vals:List PV} {d:Option Nat} (h:dsts[vals.length]? =some d) (v:PV):TV dsts tm0 (vals++[v])=put (TV dsts tm0 vals) d v:=by
 unfold TV
 have : ∀(ds:List (Option Nat)) (vs:List PV),ds[vs.length]? =some d→ds.zip (vs++[v])=ds.zip vs++[(d,v)]:=by
  intro ds
  induction ds with
  | nil=>intro vs h;simp at h
  | cons x ds ih=>
    intro vs h
    cases vs with
    | nil=>simp at h;subst h;simp
    | cons y vs=>simp at h;simp [ih vs h]
 rw [this dsts vals h,List.foldl_append]
 rfl
def clsGo:List Oper→List (List Nat)→List (List Nat)
 | [],ps=>ps
 | o::r,ps=>clsGo r (ps++[closure ps o])
def GuardIs (dsts:List (Option Nat)) (o:Oper) (tm:List PV) (b:Bool):Prop:=
 match o.guard with
 | none=>b=true
 | some (k,want)=>∃t,dsts.getD k none=some t∧((∃x,isB (tm.getD t .dead)=some x∧(x==want)=b)∨(tm.getD t .dead =.tup []∧b=false))
def StepOk (g:Rg) (tm0:List PV) (cl:List (List Nat)) (vals:List PV) (effs:List AH) (nxs:List Nat) (ts:List (List Nat)) (j:Nat) (o:Oper):Prop:=
 (∃out tm,aop g.c o.op (ev tm) (cut (ts.getD j []) (viewAt (cl.getD j []) 0 (effs.take j) g.h0)) (nxs.getD j 0)=some out∧(∀p∈out.pre,p)∧vals[j]? =some out.v∧effs[j]? =some out.eff∧
   nxs[j+1]? =some (newIds (nxs.getD j 0) out.eff)∧Eqv tm (TV g.dsts tm0 (vals.take j))∧GuardIs g.dsts o (TV g.dsts tm0 (vals.take j)) true)∨
 (vals[j]? =some (.tup [])∧effs[j]? =some []∧nxs[j+1]? =some (nxs.getD j 0)∧GuardIs g.dsts o (TV g.dsts tm0 (vals.take j)) false)
structure Tr (g:Rg) (ops:List Oper) (tm0:List PV) (n0:Nat) (cl:List (List Nat)) (vals:List PV) (effs:List AH) (nxs:List Nat) (ts:List (List Nat)):Prop where
 st:nxs.getD 0 0=n0
 lenE:effs.length=vals.length
 lenN:nxs.length=vals.length+1
 lenT:ts.length=vals.length
 step : ∀j o,j<vals.length→ops[j]? =some o→StepOk g tm0 cl vals effs nxs ts j o
theorem StepOk.app {g:Rg} {tm0:List PV} {cl:List (List Nat)} {vals:List PV} {effs:List AH} {nxs:List Nat} {ts:List (List Nat)} {j:Nat} {o:Oper} (h:StepOk g tm0 cl vals effs nxs ts j o) (hj:j<vals.length) (hE:effs.length=vals.length) (hN:nxs.length=vals.length+1) (hT:ts.length=vals.length) (v:PV) (x:AH) (n:Nat) (T:List Nat) :
 StepOk g tm0 cl (vals++[v]) (effs++[x]) (nxs++[n]) (ts++[T]) j o:=by
 have e1:(vals++[v]).take j=vals.take j:=List.take_append_of_le_length (by omega)
 have e2:(effs++[x]).take j=effs.take j:=List.take_append_of_le_length (by omega)
 have e3:(nxs++[n]).getD j 0=nxs.getD j 0:=by rw [List.getD_eq_getElem?_getD,List.getD_eq_getElem?_getD,List.getElem?_append_left (by omega)]
 have e4:(vals++[v])[j]? =vals[j]? :=List.getElem?_append_left hj
 have e5:(effs++[x])[j]? =effs[j]? :=List.getElem?_append_left (by omega)
 have e6:(nxs++[n])[j+1]? =nxs[j+1]? :=List.getElem?_append_left (by omega)
 have e7:(ts++[T]).getD j []=ts.getD j []:=by rw [List.getD_eq_getElem?_getD,List.getD_eq_getElem?_getD,List.getElem?_append_left (by omega)]
 unfold StepOk at *
 rw [e1,e2,e3,e4,e5,e6,e7]
 exact h
set_option maxHeartbeats 4000000 in
theorem regW_trace {g:Rg} (hd:g.draw=true) {Q:AS→Prop} {ops:List Oper} (hdst:g.dsts=ops.map (·.dst)) {tm0:List PV} {n0:Nat} {cl:List (List Nat)} :
 ∀(l:List Oper) (ps ts:List (List Nat)) (vals:List PV) (effs:List AH) (nxs:List Nat) (tm:List PV) (nx:Nat),(∃pre,ops=pre++l∧pre.length=vals.length)→cl=clsGo l ps→ps.length=vals.length→Tr g ops tm0 n0 cl vals effs nxs ts→nxs.getD vals.length 0=nx→Eqv tm (TV g.dsts tm0 vals)→
  regW g Q l vals.length ps ts effs tm nx→∃vals' effs' nxs' ts' tm',vals'.length=ops.length∧Tr g ops tm0 n0 cl vals' effs' nxs' ts'∧apart ts' cl effs' 0=true∧Eqv tm' (TV g.dsts tm0 vals')∧Q ⟨tm',effs'.foldl (fun h e=>e++h) g.h0,nxs'.getD ops.length 0⟩:=by
 intro l
 induction l with
 | nil=>
   rintro ps ts vals effs nxs tm nx ⟨pre,h1,h2⟩ hcl _ htr hnx he h
   unfold regW hold at h
   rw [hd] at h
   have : vals.length=ops.length:=by rw [h1,List.append_nil,h2]
   split at h
   ·rename_i hap
    refine⟨vals,effs,nxs,ts,tm,this,htr,?_,he,by rw [←this,hnx];exact h ()⟩
    rw [hcl,clsGo]
    simpa using hap
   ·exact h.elim
 | cons o r ih=>
   rintro ps ts vals effs nxs tm nx ⟨pre,h1,h2⟩ hcl hps htr hnx he h
   unfold regW at h
   rw [hd] at h
   simp only [if_true] at h
   have hoj:ops[vals.length]? =some o:=by rw [h1,←h2,List.getElem?_append_right (Nat.le_refl _),Nat.sub_self];rfl
   have hdj:g.dsts[vals.length]? =some o.dst:=by rw [hdst,List.getElem?_map,hoj];rfl
   have hclj:cl.getD vals.length []=closure ps o:=by
    have : ∀(l:List Oper) (qs:List (List Nat)) (k:Nat),k<qs.length→(clsGo l qs).getD k []=qs.getD k []:=by
     intro l
     induction l with
     | nil=>intro qs k _;rfl
     | cons x l ihl=>
       intro qs k hk
       rw [clsGo,ihl _ k (by simp;omega),List.getD_eq_getElem?_getD,List.getD_eq_getElem?_getD,List.getElem?_append_left hk]
    rw [hcl,clsGo,this _ _ _ (by simp [hps]),List.getD_eq_getElem?_getD,List.getElem?_append_right (by omega),hps,Nat.sub_self]
    rfl
   have next : ∀(tm':List PV) (v:PV) (x:AH) (n:Nat) (T:List Nat),Eqv tm' (TV g.dsts tm0 vals)→StepOk g tm0 cl (vals++[v]) (effs++[x]) (nxs++[n]) (ts++[T]) vals.length o→
    regW g Q r (vals.length+1) (ps++[closure ps o]) (ts++[T]) (effs++[x]) (put tm' o.dst v) n→∃vals' effs' nxs' ts' tm',vals'.length=ops.length∧Tr g ops tm0 n0 cl vals' effs' nxs' ts'∧apart ts' cl effs' 0=true∧Eqv tm' (TV g.dsts tm0 vals')∧Q ⟨tm',effs'.foldl (fun h e=>e++h) g.h0,nxs'.getD ops.length 0⟩:=by
    intro tm' v x n T heq hst hr
    refine ih (ps++[closure ps o]) (ts++[T]) (vals++[v]) (effs++[x]) (nxs++[n]) (put tm' o.dst v) n ⟨pre++[o],by rw [h1];simp,by simp [h2]⟩ (by rw [hcl];rfl) (by simp [hps]) ⟨by rw [←htr.st,List.getD_eq_getElem?_getD,List.getD_eq_getElem?_getD,List.getElem?_append_left (by rw [htr.lenN];omega)],by simp [htr.lenE],by simp [htr.lenN],by simp [htr.lenT],fun j oj hj hoj'=>?_⟩ ?_ ?_ (by rw [List.length_append];exact hr)
    ·by_cases hjl:j<vals.length
     ·exact (htr.step j oj hjl hoj').app hjl htr.lenE htr.lenN htr.lenT v x n T
     ·have : j=vals.length:=by simp at hj;omega
      subst this
      rw [hoj] at hoj'
      cases hoj'
      exact hst
    ·rw [List.length_append,List.getD_eq_getElem?_getD,List.getElem?_append_right (by rw [htr.lenN];exact Nat.le_refl _),htr.lenN]
     simp
    ·rw [TV_snoc hdj]
     exact heq.put _ _
   have t1 : ∀v:PV,(vals++[v]).take vals.length=vals:=fun v=>List.take_left
   have t2 : ∀x:AH,(effs++[x]).take vals.length=effs:=fun x=>by rw [←htr.lenE];exact List.take_left
   have t3 : ∀n:Nat,(nxs++[n]).getD vals.length 0=nx:=fun n=>by rw [List.getD_eq_getElem?_getD,List.getElem?_append_left (by rw [htr.lenN];omega),←List.getD_eq_getElem?_getD];exact hnx
   have t4 : ∀v:PV,(vals++[v])[vals.length]? =some v:=fun v=>by simp
   have t5 : ∀x:AH,(effs++[x])[vals.length]? =some x:=fun x=>by rw [←htr.lenE];simp
   have t6 : ∀n:Nat,(nxs++[n])[vals.length+1]? =some n:=fun n=>by rw [←htr.lenN];simp
   have t7 : ∀T:List Nat,(ts++[T]).getD vals.length []=T:=fun T=>by rw [List.getD_eq_getElem?_getD,←htr.lenT];simp
   have hrun : ∀tm':List PV,Eqv tm' (TV g.dsts tm0 vals)→GuardIs g.dsts o (TV g.dsts tm0 vals) true→(match Ax.aop g.c o.op (ev tm') (cut (touch o.op (ev tm') (viewAt (closure ps o) 0 effs g.h0)) (viewAt (closure ps o) 0 effs g.h0)) nx with
    | some out=>conj out.pre (regW g Q r (vals.length+1) (ps++[closure ps o]) (ts++[touch o.op (ev tm') (viewAt (closure ps o) 0 effs g.h0)]) (effs++[out.eff]) (put tm' o.dst out.v) (newIds nx out.eff))
    | none=>False)→∃vals' effs' nxs' ts' tm',vals'.length=ops.length∧Tr g ops tm0 n0 cl vals' effs' nxs' ts'∧apart ts' cl effs' 0=true∧Eqv tm' (TV g.dsts tm0 vals')∧Q ⟨tm',effs'.foldl (fun h e=>e++h) g.h0,nxs'.getD ops.length 0⟩:=by
    intro tm' heq hgd h'
    split at h'
    ·rename_i out ho
     obtain⟨h3,h4⟩:=conj_split h'
     refine next tm' out.v out.eff _ _ heq (.inl ⟨out,tm',?_,h3,t4 _,t5 _,?_,?_,?_⟩) h4
     ·rw [hclj,t2,t3,t7];exact ho
     ·rw [t6,t3]
     ·rw [t1];exact heq
     ·rw [t1];exact hgd
    ·exact h'.elim
   have hskip : ∀tm':List PV,Eqv tm' (TV g.dsts tm0 vals)→GuardIs g.dsts o (TV g.dsts tm0 vals) false→regW g Q r (vals.length+1) (ps++[closure ps o]) (ts++[[]]) (effs++[[]]) (put tm' o.dst (.tup [])) nx→
    ∃vals' effs' nxs' ts' tm',vals'.length=ops.length∧Tr g ops tm0 n0 cl vals' effs' nxs' ts'∧apart ts' cl effs' 0=true∧Eqv tm' (TV g.dsts tm0 vals')∧Q ⟨tm',effs'.foldl (fun h e=>e++h) g.h0,nxs'.getD ops.length 0⟩:=by
    intro tm' heq hgd h'
    refine next tm' (.tup []) [] _ [] heq (.inr ⟨t4 _,t5 _,?_,?_⟩) h'
    ·rw [t6,t3]
    ·rw [t1];exact hgd
   have href : ∀(t:Nat) (p:PV) (x:Bool),tm.getD t .dead =p→isB p=some x→Eqv (tm.set t (litB x)) (TV g.dsts tm0 vals):=fun t p x hp hx=>he.set hp hx
   split at h
   ·rename_i hg
    have hw:GuardIs g.dsts o (TV g.dsts tm0 vals) true:=by unfold GuardIs;rw [hg]
    split at h
    ·rename_i t _ _ hop
     split at h
     ·rename_i x hx
      cases hxx:x
      ·exact hrun _ (by have:=href t _ x hx rfl;rwa [hxx] at this) hw (h.2 hxx)
      ·exact hrun _ (by have:=href t _ x hx rfl;rwa [hxx] at this) hw (h.1 hxx)
     ·rename_i x hx
      cases hxx:x
      ·exact hrun _ (by have:=href t _ (!x) hx rfl;rwa [hxx] at this) hw (h.1 hxx)
      ·exact hrun _ (by have:=href t _ (!x) hx rfl;rwa [hxx] at this) hw (h.2 hxx)
     ·exact hrun _ he hw h
    ·exact hrun _ he hw h
   ·rename_i j want hg
    have hwb : ∀(t:Nat) (p:PV) (x b:Bool),g.dsts.getD j none=some t→tm.getD t .dead =p→isB p=some x→(x==want)=b→GuardIs g.dsts o (TV g.dsts tm0 vals) b:=fun t p x b hj hp hx hb=>by
     unfold GuardIs
     rw [hg]
     exact⟨t,hj,.inl ⟨x,(he.getD t).isB (by rw [hp];exact hx),hb⟩⟩
    split at h
    ·rename_i t hj
     split at h
     ·rename_i x hx
      by_cases hxw:x=want
      ·exact hrun _ (by have:=href t _ x hx rfl;rwa [hxw] at this) (hwb t _ x _ hj hx rfl (by rw [hxw];cases want<;>rfl)) (h.1 hxw)
      ·have hxw:x=!want:=by cases x<;>cases want<;>simp_all
       exact hskip _ (by have:=href t _ x hx rfl;rwa [hxw] at this) (hwb t _ x _ hj hx rfl (by rw [hxw];cases want<;>rfl)) (h.2 hxw)
     ·rename_i x hx
      by_cases hxw:x=want
      ·exact hskip _ (by have:=href t _ (!x) hx rfl;rwa [hxw] at this) (hwb t _ (!x) _ hj hx rfl (by rw [hxw];cases want<;>rfl)) (h.2 hxw)
      ·have hxw:x=!want:=by cases x<;>cases want<;>simp_all
       exact hrun _ (by have:=href t _ (!x) hx rfl;rw [hxw,Bool.not_not] at this;exact this) (hwb t _ (!x) _ hj hx rfl (by rw [hxw];cases want<;>rfl)) (h.1 hxw)
     ·rename_i hx
      split at h
      ·rename_i hww;exact hrun _ he (hwb t _ true _ hj hx rfl (by rw [hww];rfl)) h
      ·rename_i hww;exact hskip _ he (hwb t _ true _ hj hx rfl (by cases want<;>simp_all)) h
     ·rename_i hx
      split at h
      ·rename_i hww;exact hskip _ he (hwb t _ false _ hj hx rfl (by rw [hww];rfl)) h
      ·rename_i hww;exact hrun _ he (hwb t _ false _ hj hx rfl (by cases want<;>simp_all)) h
     ·rename_i hx
      refine hskip _ he ?_ h
      unfold GuardIs
      rw [hg]
      refine⟨t,hj,.inr ⟨?_,rfl⟩⟩
      rcases he.getD t with h3 | ⟨y,h3, -⟩
      ·rw [←h3];exact hx
      ·rw [hx] at h3;cases h3
     ·exact h.elim
    ·exact h.elim
end Ax
namespace Ax
open Go.RowKit RegP
def ovl (L:Nat→Bool):Nat→List AH→AH→AH
 | _,[],h=>h
 | i,x::r,h=>ovl L (i+1) r (if L i then x++h else h)
theorem viewAt_ovl (p:List Nat) : ∀(i:Nat) (effs:List AH) (h:AH),viewAt p i effs h=ovl (p.contains ·) i effs h
 | _,[],_=>rfl
 | i,[]::r,h=>by unfold viewAt ovl;rw [viewAt_ovl p (i+1) r _];congr 1;split<;>rfl
 | i,(q::e)::r,h=>by unfold viewAt ovl;exact viewAt_ovl p (i+1) r _
theorem ovl_take {L:Nat→Bool} : ∀(effs:List AH) (i k:Nat) (h:AH),(∀j,k≤j→L (i+j)=false)→ovl L i (effs.take k) h=ovl L i effs h
 | [],i,k,h,_=>by simp
 | x::r,i,0,h,hL=>by
   have h1 : ∀(r:List AH) (i:Nat) (h:AH),(∀j,L (i+j)=false)→ovl L i r h=h:=by
    intro r
    induction r with
    | nil=>intro i h _;rfl
    | cons y r ih=>
      intro i h hh
      unfold ovl
      rw [if_neg (by have:=hh 0;simpa using this)]
      exact ih (i+1) h fun j=>by have:=hh (j+1);rwa [show i+(j+1)=i+1+j from by omega] at this
   rw [h1 (x::r) i h fun j=>hL j (Nat.zero_le _)]
   rfl
 | x::r,i,k+1,h,hL=>by
   rw [List.take_succ_cons]
   unfold ovl
   exact ovl_take r (i+1) k _ fun j hj=>by have:=hL (j+1) (by omega);rwa [show i+(j+1)=i+1+j from by omega] at this
theorem ovl_agree {L M:Nat→Bool} {id:Nat} : ∀(effs:List AH) (i:Nat) (h h':AH),h.get id=h'.get id→(∀j x,effs[j]? =some x→(x.get id).isSome =true→L (i+j)=M (i+j))→(ovl L i effs h).get id=(ovl M i effs h').get id
 | [],i,h,h',hh,_=>hh
 | x::r,i,h,h',hh,hL=>by
   unfold ovl
   refine ovl_agree r (i+1) _ _ ?_ fun j y hj hy=>by have:=hL (j+1) y (by simpa using hj) hy;rwa [show i+(j+1)=i+1+j from by omega] at this
   have e1 : ∀(b:Bool) (z:AH),AH.get (if b then x++z else z) id=if b then (match x.get id with | some o=>some o | none=>z.get id) else z.get id:=fun b z=>by
    cases b
    ·rfl
    ·exact get_app x z id
   rw [e1,e1]
   cases hx:x.get id with
   | none=>simp [hh]
   | some o=>
     have:=hL 0 x rfl (by rw [hx];rfl)
     rw [Nat.add_zero] at this
     rw [this]
     cases M i<;>simp [hh]
theorem ovl_last {L:Nat→Bool} {id:Nat} {o:Ob} : ∀(effs:List AH) (i k:Nat) (h:AH) (x:AH),effs[k]? =some x→x.get id=some o→L (i+k)=true→(∀j y,k<j→effs[j]? =some y→L (i+j)=true→y.get id=none)→(ovl L i effs h).get id=some o
 | [],i,k,h,x,hk,_,_,_=>by simp at hk
 | y::r,i,0,h,x,hk,hx,hL,hn=>by
   simp at hk
   subst hk
   unfold ovl
   rw [Nat.add_zero] at hL
   rw [if_pos hL]
   have h1 : ∀(r:List AH) (i:Nat) (h:AH),(∀j y,r[j]? =some y→L (i+j)=true→y.get id=none)→(ovl L i r h).get id=h.get id:=by
    intro r
    induction r with
    | nil=>intro i h _;rfl
    | cons z r ih=>
      intro i h hh
      unfold ovl
      rw [ih (i+1) _ fun j y hj hy=>hh (j+1) y (by simpa using hj) (by rw [show i+(j+1)=i+1+j from by omega];exact hy)]
      split
      ·rename_i hLi
       rw [get_app,hh 0 z rfl (by rw [Nat.add_zero];exact hLi)]
      ·rfl
   rw [h1 r (i+1) _ fun j z hj hz=>hn (j+1) z (by omega) (by simpa using hj) (by rw [show i+(j+1)=i+1+j from by omega];exact hz),get_app,hx]
 | y::r,i,k+1,h,x,hk,hx,hL,hn=>by
   unfold ovl
   exact ovl_last r (i+1) k _ x (by simpa using hk) hx (by rw [show i+1+k=i+(k+1) from by omega];exact hL) fun j z hj hz hLz=>hn (j+1) z (by omega) (by simpa using hz) (by rw [show i+(j+1)=i+1+j from by omega];exact hLz)
theorem foldl_ovl : ∀(effs:List AH) (i:Nat) (h:AH),effs.foldl (fun h e=>e++h) h=ovl (fun _=>true) i effs h
 | [],_,_=>rfl
 | x::r,i,h=>by unfold ovl;exact foldl_ovl r (i+1) _
theorem ok_eff {v:PV} {out:Out} (h:ok v=some out):out.eff=[]:=by cases h;rfl
theorem okp_eff {q:List Prop} {v:PV} {out:Out} (h:okp q v=some out):out.eff=[]:=by cases h;rfl
theorem bok_eff {x:Option PV} {out:Out} (h:x.bind ok=some out):out.eff=[]:=by
 obtain⟨v, -,h⟩:=Option.bind_eq_some_iff.1 h
 exact ok_eff h
theorem bin_eff {p:Pr} {op:BinOp} {x y:PV} {out:Out} (h:bin p op x y=some out):out.eff=[]:=by
 unfold bin at h
 split at h
 ·split at h
  ·unfold binI at h
   split at h<;>first | exact ok_eff h | exact okp_eff h | cases h
  ·cases h
 ·unfold binS at h
  split at h<;>first | exact ok_eff h | exact okp_eff h | cases h
 ·cases h
theorem binB_eff {p:Pr} {op:BinOp} {x y:PV} {out:Out} (h:binB p op x y=some out):out.eff=[]:=by
 unfold binB at h
 split at h
 ·exact bok_eff h
 ·obtain⟨v, -,h⟩:=Option.bind_eq_some_iff.1 h
  exact bok_eff h
 ·cases h
theorem aop0_eff {c:Cx} {o:Op} {ρ:Operand→PV} {h:AH} {nx:Nat} {out:Out} (hs:aop0 c o ρ h nx=some out) {id:Nat} (hid:(out.eff.get id).isSome =true):nx≤id∨(h.get id).isSome =true:=by
 have hone : ∀{k:Nat} {x:Ob},(AH.get [(k,x)] id).isSome =true→id=k:=fun {k x} hh=>by
  unfold AH.get at hh
  split at hh
  ·rename_i hk;exact (by simpa using hk:k=id).symm
  ·cases hh
 have hsh : ∀{x:AH},((rnH (mv [] nx) x).get id).isSome =true→nx≤id:=fun {x} hh=>by
  obtain⟨o,ho⟩:=Option.isSome_iff_exists.1 hh
  obtain⟨k',_,rfl,_⟩:=rnH_get ho
  rw [mv_ge (Nat.zero_le _)]
  omega
 unfold aop0 at hs
 split at hs
 case h_4=>split at hs<;>first | (cases hs;done) | (cases hs;exact .inl (Nat.le_of_eq (hone hid).symm))
 case h_5=>split at hs<;>first | (cases hs;done) | (cases hs;exact .inl (Nat.le_of_eq (hone hid).symm))
 case h_7=>
  repeat' (split at hs)
  all_goals first | (cases hs;done) | (cases hs;exact .inl (Nat.le_of_eq (hone hid).symm))
 case h_9 t a x=>
  split at hs
  ·split at hs
   ·rename_i l ty hg
    split at hs
    ·split at hs
     ·cases hs
      have:=hone hid
      subst this
      exact .inr (by rw [hg];rfl)
     ·cases hs
    ·cases hs
   ·cases hs
  ·split at hs
   ·rename_i sh L ty hg
    split at hs
    ·split at hs
     ·split at hs
      ·cases hs
       have:=hone hid
       subst this
       exact .inr (by rw [hg];rfl)
      ·cases hs
     ·cases hs
    ·cases hs
   ·cases hs
  ·cases hs
 case h_20 k=>
  unfold acall at hs
  split at hs
  case h_1=>
   have hno:out.eff=[]:=by
    repeat' (split at hs)
    all_goals first | exact ok_eff hs | cases hs
   rw [hno] at hid
   cases hid
  case h_2 x y t t'=>
   split at hs
   ·split at hs
    ·split at hs
     ·split at hs
      ·cases hs;exact .inl (Nat.le_of_eq (hone hid).symm)
      ·cases hs
     ·split at hs
      ·rename_i sh L ty hg
       split at hs
       ·split at hs
        ·cases hs
         unfold AH.get at hid
         split at hid
         ·rename_i hk
          exact .inl (Nat.le_of_eq (by simpa using hk))
         ·have:=hone hid
          subst this
          exact .inr (by rw [hg];rfl)
        ·cases hs
       ·cases hs
      ·cases hs
     ·cases hs
    ·cases hs
   ·cases hs
  case h_3 f args ts=>
   split at hs
   ·split at hs
    ·rename_i S hS
     simp only at hs
     split at hs
     ·rename_i hcl
      split at hs
      ·cases hs
       generalize reach h 60 (idsL (trims c ts.toList (args.toList.map ρ++_))) []=r at hid hcl
       obtain⟨x,ho⟩:=Option.isSome_iff_exists.1 hid
       obtain⟨k',_,rfl,_⟩:=rnH_get ho
       by_cases hk:k'<r.length
       ·right
        rw [mv_lt hk]
        unfold closed at hcl
        simp only [Bool.and_eq_true,List.all_eq_true] at hcl
        have hm:look r k'∈r:=by
         unfold look
         rw [List.getD_eq_getElem?_getD,List.getElem?_eq_getElem hk]
         exact List.getElem_mem hk
        have:=(hcl.2.1 _ hm).2
        split at this
        ·rename_i hx;rw [hx];rfl
        ·cases this
       ·exact .inl (by rw [mv_ge (Nat.le_of_not_lt hk)];omega)
      ·cases hs
     ·cases hs
    ·split at hs
     ·simp only at hs
      split at hs
      ·split at hs
       ·split at hs
        ·cases hs
        ·split at hs
         ·split at hs
          ·split at hs
           ·cases hs;simp [AH.get] at hid
           ·cases hs
          ·cases hs
         ·cases hs;exact .inl (hsh hid)
       ·cases hs
      ·split at hs
       ·cases hs;exact .inl (hsh hid)
       ·cases hs
     ·cases hs
   ·cases hs
  case h_4=>cases hs
 case h_21=>cases hs
 all_goals
  have hno:out.eff=[]:=by
   repeat' (split at hs)
   all_goals first | exact ok_eff hs | exact okp_eff hs | exact bok_eff hs | exact bin_eff hs | exact binB_eff hs | cases hs
  rw [hno] at hid
  cases hid
theorem aopX_eff {c:Cx} {o:Op} {ρ:Operand→PV} {h:AH} {nx:Nat} {out:Out} (hs:aopX c o ρ h nx=some out) {id:Nat} (hid:(out.eff.get id).isSome =true):nx≤id∨(h.get id).isSome =true:=by
 have hone : ∀{k:Nat} {x:Ob},(AH.get [(k,x)] id).isSome =true→id=k:=fun {k x} hh=>by
  unfold AH.get at hh
  split at hh
  ·rename_i hk;exact (by simpa using hk:k=id).symm
  ·cases hh
 unfold aopX at hs
 split at hs
 case h_6 t a x=>
  repeat' (split at hs)
  all_goals first
   | (cases hs;done)
   | (cases hs
      have:=hone hid
      subst this
      right
      rename_i hg _ _ _ _
      first | (rw [hg];rfl) | simp_all)
 all_goals
  repeat' (split at hs)
  all_goals first
   | (cases hs;done)
   | (cases hs;exact .inl (Nat.le_of_eq (hone hid).symm))
   | (have hno:out.eff=[]:=by first | exact ok_eff hs | exact okp_eff hs
      rw [hno] at hid
      cases hid)
theorem aopY_eff {c:Cx} {o:Op} {ρ:Operand→PV} {h:AH} {nx:Nat} {out:Out} (hs:aopY c o ρ h nx=some out) {id:Nat} (hid:(out.eff.get id).isSome =true):nx≤id∨(h.get id).isSome =true:=by
 have hone : ∀{k:Nat} {x:Ob},(AH.get [(k,x)] id).isSome =true→id=k:=fun {k x} hh=>by
  unfold AH.get at hh
  split at hh
  ·rename_i hk;exact (by simpa using hk:k=id).symm
  ·cases hh
 unfold aopY at hs
 split at hs
 case h_2 x=>
  split at hs
  ·split at hs
   ·rename_i hg
    cases hs
    have:=hone hid
    subst this
    exact .inr (by rw [hg];rfl)
   ·cases hs
  ·cases hs
 case h_8 x args ts=>
  repeat' (split at hs)
  all_goals first
   | (cases hs;done)
   | (cases hs
      obtain⟨x,ho⟩:=Option.isSome_iff_exists.1 hid
      obtain⟨k',_,rfl,_⟩:=rnH_get ho
      exact .inl (by rw [mv_ge (Nat.zero_le _)];omega))
 case h_9 x m args ts=>
  repeat' (split at hs)
  all_goals first
   | (cases hs;done)
   | (cases hs
      obtain⟨x,ho⟩:=Option.isSome_iff_exists.1 hid
      obtain⟨k',_,rfl,_⟩:=rnH_get ho
      exact .inl (by rw [mv_ge (Nat.zero_le _)];omega))
 case h_10 x y t t'=>
  repeat' (split at hs)
  all_goals first
   | (cases hs;done)
   | (cases hs;exact .inl (Nat.le_of_eq (hone hid).symm))
   | (rename_i hg _ _ _ _
      cases hs
      unfold AH.get at hid
      split at hid
      ·rename_i hk
       exact .inl (Nat.le_of_eq (by simpa using hk))
      ·have:=hone hid
       subst this
       exact .inr (by rw [hg];rfl))
 all_goals
  repeat' (split at hs)
  all_goals first
   | (cases hs;done)
   | (cases hs;exact .inl (Nat.le_of_eq (hone hid).symm))
   | (have hno:out.eff=[]:=by first | exact ok_eff hs | exact okp_eff hs
      rw [hno] at hid
      cases hid)
theorem cpyTo_eff {c:Cx} {h:AH} {te k:Nat} {q:Int} {l:List UInt8} {out:Out} (hs:cpyTo c h te k q l=some out) {id:Nat} (hid:(out.eff.get id).isSome =true):(h.get id).isSome =true:=by
 unfold cpyTo at hs
 split at hs
 ·rename_i hg
  split at hs
  ·split at hs
   ·cases hs
    unfold AH.get at hid
    split at hid
    ·rename_i hk
     rw [←(by simpa using hk:k=id),hg];rfl
    ·cases hid
   ·cases hs
  ·cases hs
 ·cases hs
theorem aopZ_eff {c:Cx} {o:Op} {ρ:Operand→PV} {h:AH} {nx:Nat} {out:Out} (hs:aopZ c o ρ h=some out) {id:Nat} (hid:(out.eff.get id).isSome =true):nx≤id∨(h.get id).isSome =true:=by
 have hno : ∀{v:PV} {p:List Prop},some (⟨p,v,[]⟩:Out)=some out→False:=fun hh=>by cases hh;cases hid
 unfold aopZ at hs
 split at hs
 ·split at hs
  ·exact (hno hs).elim
  ·cases hs
 ·repeat' (split at hs)
  all_goals first
   | (cases hs;done)
   | exact (hno hs).elim
 ·repeat' (split at hs)
  all_goals first
   | (cases hs;done)
   | exact .inr (cpyTo_eff hs hid)
 ·split at hs
  ·exact (hno hs).elim
  ·cases hs
 ·cases hs
theorem aopV_eff {c:Cx} {o:Op} {ρ:Operand→PV} {h:AH} {nx:Nat} {out:Out} (hs:aopV c o ρ h nx=some out) {id:Nat} (hid:(out.eff.get id).isSome =true):nx≤id∨(h.get id).isSome =true:=by
 have hno : ∀{v:PV} {p:List Prop},some (⟨p,v,[]⟩:Out)=some out→False:=fun hh=>by cases hh;cases hid
 unfold aopV at hs
 split at hs
 ·repeat' (split at hs)
  all_goals first
   | (cases hs;done)
   | exact (hno hs).elim
 ·split at hs
  ·split at hs
   ·exact (hno hs).elim
   ·cases hs
  ·split at hs
   ·rename_i hg
    cases hs
    unfold AH.get at hid
    split at hid
    ·rename_i hk
     exact .inl (by rw [←(by simpa using hk:nx=id)];exact Nat.le_refl _)
    ·unfold AH.get at hid
     split at hid
     ·rename_i hk
      rw [←(by simpa using hk:_=id),hg]
      exact .inr rfl
     ·cases hid
   ·cases hs
  ·cases hs
 ·split at hs
  ·split at hs
   ·rename_i hg
    split at hs
    ·split at hs
     ·split at hs
      ·cases hs
       unfold AH.get at hid
       split at hid
       ·rename_i hk
        rw [←(by simpa using hk:_=id),hg]
        exact .inr rfl
       ·cases hid
      ·cases hs
     ·cases hs
    ·cases hs
   ·cases hs
  ·cases hs
 ·cases hs
theorem aopU_eff {c:Cx} {o:Op} {ρ:Operand→PV} {out:Out} (hs:aopU c o ρ=some out):out.eff=[]:=by
 unfold aopU binU at hs
 repeat' (split at hs)
 all_goals first | exact okp_eff hs | cases hs
theorem aop_eff {c:Cx} {o:Op} {ρ:Operand→PV} {h:AH} {nx:Nat} {out:Out} (hs:aop c o ρ h nx=some out) {id:Nat} (hid:(out.eff.get id).isSome =true):nx≤id∨(h.get id).isSome =true:=by
 unfold aop at hs
 split at hs
 ·rename_i h1
  cases hs
  rw [aopU_eff h1] at hid
  cases hid
 split at hs
 ·rename_i h1
  cases hs
  exact aopX_eff h1 hid
 ·split at hs
  ·rename_i h1
   cases hs
   exact aopY_eff h1 hid
  ·split at hs
   ·rename_i h1
    cases hs
    exact aop0_eff h1 hid
   ·split at hs
    ·rename_i h1
     cases hs
     exact aopZ_eff h1 hid
    ·exact aopV_eff hs hid
end Ax
namespace RegL
open RegP
section
variable {P:Program} {ops:Array Oper} {Q:Exit→Act→World→Prop} {S:(Nat→Bool)→World→Prop}
def upd (L:Nat→Bool) (i:Nat):Nat→Bool:=fun j=>decide (j=i)||L j
theorem upd_same (L:Nat→Bool) (i:Nat):upd L i i=true:=by simp [upd]
theorem upd_ne (L:Nat→Bool) {i j:Nat} (h:j≠i):upd L i j=L j:=by simp [upd,h]
inductive Anc (ops:Array Oper):Nat→Nat→Prop
 | one {j k:Nat} {o:Oper} : ops[k]? =some o→j∈bindsOn o→Anc ops j k
 | more {j m k:Nat} {o:Oper} : ops[k]? =some o→m∈bindsOn o→Anc ops j m→Anc ops j k
end
section
variable {a b c i:Nat} {W W1 W2 w:World} {L:Nat→Bool}
end
end RegL
end Go.Proofs.YtjjonmhpgkahoaaGreatDoor
