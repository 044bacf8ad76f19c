/-
  The plain walker: a state's reading.
  Conditions: the tables of types and of functions are as the program has them; none.
-/
import Derived.Test.YtjjonmhpgkahoaaGreatDoorH06
set_option linter.unusedSimpArgs false
set_option linter.unusedVariables false
namespace Go.Proofs.YtjjonmhpgkahoaaGreatDoor
namespace Ax
open Go.RowKit
structure ij where
 m:Nat→Prop
 n:Nat
 e:Env
 d:List Deferred
instance:CoeFun ij fun _=>Nat→Prop:=⟨ij.m⟩
structure FzS (w0 w:World) (fz:Nat→Prop) (e:Env):Prop where
 sub : ∀b,fz b→e.fz b
 sup : ∀b,e.fz b→fz b∨w0.heap.size≤b∧b<w.heap.size
 nf : ∀k b,e.lv k→e.blk k b→¬e.fz b
structure FzB (w0:World) (fz M:Nat→Prop):Prop where
 lt : ∀b,fz b→b<w0.heap.size∧¬M b
 gl:GOk w0 fz
theorem FzS.lt {w0 w:World} {fz M:Nat→Prop} {e:Env} (h:FzS w0 w fz e) (hz:FzB w0 fz M) (hs:w0.heap.size≤w.heap.size) {b:Nat} (hb:e.fz b):b<w.heap.size:=by
 rcases h.sup b hb with h | h
 ·exact Nat.lt_of_lt_of_le (hz.lt b h).1 hs
 ·exact h.2
theorem FzS.fw {w0 w:World} {fz M:Nat→Prop} {e:Env} (h:FzS w0 w fz e) (hz:FzB w0 fz M) (hc:Chg M w0 w):FzW w e.fz:=⟨fun _ hb=>h.lt hz hc.size hb,(hz.gl.chg hc hz.lt).mono h.sub⟩
theorem FzS.same {w0 w w':World} {fz:Nat→Prop} {e e':Env} {nx:Nat} {out:Out} {u:Value} (h:FzS w0 w fz e) (hl : ∀b,e.fz b→b<w.heap.size) (hp:fW w w' e e' nx out u):Same e.fz w w':=fun b hb=>
 hp.chg.block b (hl b hb) fun ⟨k,hk,_,hkb⟩=>h.nf k b hk hkb hb
theorem FzS.post {w0 w w':World} {fz:Nat→Prop} {e e':Env} {nx:Nat} {out:Out} {u:Value} (h:FzS w0 w fz e) (hl : ∀b,e.fz b→b<w.heap.size) (hs:w0.heap.size≤w.heap.size) (hlo : ∀k,e.lv k→e.on k) (hbd : ∀k b,e.lv k→e.blk k b→b<w.heap.size) (hp:fW w w' e e' nx out u):FzS w0 w' fz e':=by
 refine⟨fun b hb=>hp.le.fz b (h.sub b hb),fun b hb=>?_,fun k b hk hb hf=>?_⟩
 ·rcases hp.fz.fz b hb with h1 | h1
  ·exact (h.sup b h1).imp id fun q=>⟨q.1,Nat.lt_of_lt_of_le q.2 hp.chg.size⟩
  ·exact .inr ⟨Nat.le_trans hs h1.1,h1.2⟩
 ·by_cases hk0:e.lv k
  ·obtain⟨x,hx,hxb⟩:=hb
   have hb0:e.blk k b:=⟨x,by rw [←hp.le.adr k (hlo k hk0)];exact hx,hxb⟩
   rcases hp.fz.fz b hf with h1 | h1
   ·exact h.nf k b hk0 hb0 h1
   ·exact absurd (hbd k b hk0 hb0) (Nat.not_lt.2 h1.1)
  ·have h1:=hp.fz.nf k b hk hk0 hb hf
   obtain⟨-, -,h2⟩:=(hp.nlv k hk).resolve_left hk0
   rcases (h2 b hb).2 with h3 | ⟨j,h3, -,h4⟩
   ·exact absurd (hl b h1) (Nat.not_lt.2 h3)
   ·exact h.nf j b h3 h4 h1
structure SR (w0:World) (fz:Nat→Prop) (M:ij) (st:AS) (a:Act) (w:World) (e:Env):Prop where
 size:a.tmps.size=st.tm.length
 tm : ∀(t:Nat) (p:PV),st.tm[t]? =some p→R w e p (a.tmps.getD t undef)
 ob : ∀id o,st.h.get id=some o→OR w e id o∧e.on id∧(o.gn=false→e.lv id)
 lo : ∀k,e.lv k→e.on k
 lt : ∀id,e.on id→id<st.nx
 dis : ∀k k' b,e.lv k→e.lv k'→e.blk k b→e.blk k' b→k=k'
 bd : ∀k b,e.lv k→e.blk k b→(w0.heap.size≤b∨M b)∧b<w.heap.size
 ez:FzS w0 w fz e
 fzb:FzB w0 fz M
 low:Chg M w0 w
 root : ∀k,k<M.n→M.e.on k→e.on k∧e.adr k=M.e.adr k∧e.cap k=M.e.cap k∧e.len k=M.e.len k
 defers:a.defers=M.d
section
variable {P:Program} {c:Cx} {nx:Nat} {w0 w w':World} {fz:Nat→Prop} {M:ij} {st:AS} {a:Act} {e e':Env} {o:Oper} {out:Out} {u:Value}
theorem SR.sees (h:SR w0 fz M st a w e):lO w e st.h:=⟨h.ob,h.ez.fw h.fzb h.low,h.dis⟩
theorem we {e1 e2:Env} (h : ∀k,k<M.n→M.e.on k→e1.on k∧e1.adr k=M.e.adr k∧e1.cap k=M.e.cap k∧e1.len k=M.e.len k) (hle:e1.Le e2) : ∀k,k<M.n→M.e.on k→e2.on k∧e2.adr k=M.e.adr k∧e2.cap k=M.e.cap k∧e2.len k=M.e.len k:=fun k hk ho=>by
 obtain⟨h1,h2,h3,h4⟩:=h k hk ho
 exact⟨hle.on k h1,(hle.adr k h1).trans h2,(hle.cap k h1).trans h3,(hle.len k h1).trans h4⟩
theorem fW.lo (hp:fW w w' e e' nx out u) (hlo : ∀k,e.lv k→e.on k) : ∀k,e'.lv k→e'.on k:=fun k hk=>by
 rcases hp.nlv k hk with h1 | ⟨-,h1, -⟩
 ·exact hp.le.on k (hlo k h1)
 ·exact h1
theorem fW.old (hp:fW w w' e e' nx out u) {k b:Nat} (hk:e.on k) (hb:e'.blk k b):e.blk k b:=by
 obtain⟨x,hx,hb⟩:=hb
 exact⟨x,by rw [←hp.le.adr k hk];exact hx,hb⟩
theorem fW.keep (hp:fW w w' e e' nx out u) {X:Nat→Prop} (hX : ∀b,w.heap.size≤b→X b) (hlo : ∀k,e.lv k→e.on k) (hdis : ∀k k' b,e.lv k→e.lv k'→e.blk k b→e.blk k' b→k=k') (hbd : ∀k b,e.lv k→e.blk k b→X b∧b<w.heap.size) :
 (∀k k' b,e'.lv k→e'.lv k'→e'.blk k b→e'.blk k' b→k=k')∧∀k b,e'.lv k→e'.blk k b→X b∧b<w'.heap.size:=by
 have hmix : ∀k k' b,e.lv k→e'.lv k→e'.lv k'→¬e.lv k'→e'.blk k b→e'.blk k' b→False:=fun k k' b h1 h2 h3 h4 hb hb'=>by
  have hb:=hp.old (hlo k h1) hb
  obtain⟨-, -,h5⟩:=(hp.nlv k' h3).resolve_left h4
  rcases (h5 b hb').2 with h6 | ⟨j,h6,h7,h8⟩
  ·have:=(hbd k b h1 hb).2
   omega
  ·have:=hdis k j b h1 h6 hb h8
   subst this
   exact h7 h2
 refine⟨fun k k' b hk hk' hb hb'=>?_,fun k b hk hb=>?_⟩
 ·by_cases h1:e.lv k<;>by_cases h2:e.lv k'
  ·exact hdis k k' b h1 h2 (hp.old (hlo k h1) hb) (hp.old (hlo k' h2) hb')
  ·exact (hmix k k' b h1 hk hk' h2 hb hb').elim
  ·exact (hmix k' k b h2 hk' hk h1 hb' hb).elim
  ·exact hp.dis k k' b hk h1 hk' h2 hb hb'
 ·by_cases h1:e.lv k
  ·obtain⟨q1,q2⟩:=hbd k b h1 (hp.old (hlo k h1) hb)
   exact⟨q1,Nat.lt_of_lt_of_le q2 hp.chg.size⟩
  ·obtain⟨-, -,h5⟩:=(hp.nlv k hk).resolve_left h1
   obtain⟨h6,h7⟩:=h5 b hb
   refine⟨?_,h6⟩
   rcases h7 with h7 | ⟨j,h7, -,h8⟩
   ·exact hX b h7
   ·exact (hbd j b h7 h8).1
theorem fW.ob (hp:fW w w' e e' nx out u) (hsame:Same e.fz w w') (hdis : ∀k k' b,e.lv k→e.lv k'→e.blk k b→e.blk k' b→k=k') {id:Nat} {o:Ob} (hx:out.eff.get id=none) (h:OR w e id o∧e.on id∧(o.gn=false→e.lv id)):OR w' e' id o∧e'.on id∧(o.gn=false→e'.lv id):=by
 obtain⟨h1,h2,h3⟩:=h
 refine⟨?_,hp.le.on id h2,fun hg=>(hp.klv id (h3 hg)).resolve_right fun h=>by rw [hx] at h;cases h⟩
 cases hg:o.gn with
 | true=>cases o with
   | gone=>trivial
   | _=>cases hg
 | false=>
   refine rV hsame hp.le h2 (fun b hb=>⟨fun q=>(hp.fz.fz b q).resolve_right fun q=>absurd (rA hg h1 b hb) (Nat.not_lt.2 q.1),hp.chg.block b (rA hg h1 b hb) fun ⟨k,hk,hks,hkb⟩=>?_⟩) h1
   have:=hdis id k b (h3 hg) hk hb hkb
   subst this
   rw [hx] at hks
   cases hks
theorem pS : ∀(r:AH) (nx:Nat),nx≤fO nx r
 | [],nx=>Nat.le_refl _
 | (k,_)::r,nx=>by
   unfold fO
   exact Nat.le_trans (by split<;>omega) (pS r _)
theorem mQ : ∀{r:AH} {nx k:Nat},(r.get k).isSome =true→k<fO nx r
 | [],nx,k,h=>by simp [AH.get] at h
 | (j,_)::r,nx,k,h=>by
   unfold fO
   unfold AH.get at h
   by_cases hk:j=k
   ·subst hk
    exact Nat.lt_of_lt_of_le (by split<;>omega) (pS r _)
   ·rw [if_neg (by simpa using hk)] at h
    exact mQ h
theorem p8 : ∀(x y:AH) (id:Nat),AH.get (x++y) id=match x.get id with | some o=>some o | none=>y.get id
 | [],y,id=>rfl
 | (k,o)::x,y,id=>by
   have e1:AH.get ((k,o)::(x++y)) id=if k==id then some o else AH.get (x++y) id:=rfl
   have e2:AH.get ((k,o)::x) id=if k==id then some o else AH.get x id:=rfl
   rw [List.cons_append,e1,e2]
   split
   ·rfl
   ·exact p8 x y id
theorem Bg (tm:List PV) (d:Option Nat) (v:PV):(put tm d v).length =tm.length:=by cases d<;>simp [put]
theorem Jg {tm:List PV} {ts:Array Value} {w:World} {e:Env} (hs:ts.size=tm.length) (h : ∀(t:Nat) (p:PV),tm[t]? =some p→R w e p (ts.getD t undef)) {d:Option Nat} {v:PV} {u:Value} (hv:R w e v u) :
 ∀(t:Nat) (p:PV),(put tm d v)[t]? =some p→R w e p ((({ tmps:=ts,defers:=[] } : Act).put d u).tmps.getD t undef):=by
 intro t p hp
 cases d with
 | none=>exact h t p hp
 | some d=>
   obtain⟨d,rfl⟩ : ∃n:Nat,n=d:=⟨d,rfl⟩
   simp only [put,List.getElem?_set] at hp
   simp only [Act.put,Array.getD_eq_getD_getElem?,Array.getElem?_setIfInBounds]
   by_cases hd:d=t
   ·subst hd
    rw [if_pos rfl] at hp ⊢
    split at hp
    ·rename_i hlt
     cases hp
     rw [if_pos (by omega)]
     exact hv
    ·cases hp
   ·rw [if_neg hd] at hp ⊢
    have:=h t p hp
    rwa [Array.getD_eq_getD_getElem?] at this
theorem SR.step (h:SR w0 fz M st a w e) {h':AH} (hp:fW w w' e e' st.nx out u) (hget : ∀id o,h'.get id=some o→out.eff.get id=some o∨out.eff.get id=none∧st.h.get id=some o) {d:Option Nat} :
 SR w0 fz M ⟨put st.tm d out.v,h',fO st.nx out.eff⟩ (a.put d u) w' e':=by
 have hlowblk : ∀b,b<w0.heap.size→¬M b→w'.heap[b]? =w.heap[b]? :=fun b hb hM=>hp.chg.block b (Nat.lt_of_lt_of_le hb h.low.size) fun ⟨k,hk,_,hkb⟩=>by
  rcases (h.bd k b hk hkb).1 with h1 | h1
  ·omega
  ·exact hM h1
 have hsame:Same e.fz w w':=h.ez.same (fun b hb=>h.ez.lt h.fzb h.low.size hb) hp
 obtain⟨hd',hb'⟩:=hp.keep (X:=fun b=>w0.heap.size≤b∨M b) (fun b hb=>.inl (Nat.le_trans h.low.size hb)) h.lo h.dis h.bd
 refine⟨?_,?_,?_,hp.lo h.lo,?_,hd',hb',h.ez.post (fun b hb=>h.ez.lt h.fzb h.low.size hb) h.low.size h.lo (fun k b q r=>(h.bd k b q r).2) hp,h.fzb,⟨hp.chg.os.trans h.low.os,hp.chg.tape.trans h.low.tape,hp.chg.output.trans h.low.output,Nat.le_trans h.low.size hp.chg.size,fun b hb hM=>(hlowblk b hb hM).trans (h.low.block b hb hM)⟩,we h.root hp.le,?_⟩
 ·show (a.put d u).tmps.size =(put st.tm d out.v).length
  rw [Bg,←h.size]
  cases d<;>simp [Act.put]
 ·intro t p hp'
  have:=Jg h.size (fun t p hh=>jt hsame hp.le p _ (h.tm t p hh)) (d:=d) hp.val t p hp'
  cases d<;>exact this
 ·intro id o hid
  rcases hget id o hid with h1 | ⟨h1,h2⟩
  ·exact hp.eff id o h1
  ·exact hp.ob hsame h.dis h1 (h.ob id o h2)
 ·intro id hid
  show id<fO st.nx out.eff
  rcases hp.new id hid with h1 | ⟨-,h2⟩
  ·exact Nat.lt_of_lt_of_le (h.lt id h1) (pS _ _)
  ·exact mQ h2
 ·have:=h.defers
  cases d<;>exact this
theorem ns : ∀{ps:List Prop} {r:Prop},E4 ps r→(∀p∈ps,p)∧r
 | [],_,h=>⟨fun p hp=>absurd hp (by simp),h⟩
 | q::ps,r,h=>by
   obtain⟨h1,h2⟩:=h
   obtain⟨h3,h4⟩:=ns h2
   refine⟨fun p hp=>?_,h4⟩
   rcases List.mem_cons.1 hp with rfl | hp
   ·exact h1
   ·exact h3 p hp
theorem CU {tm:List PV} {a:Act} {w:World} {e:Env} (h : ∀(t:Nat) (p:PV),tm[t]? =some p→R w e p (a.tmps.getD t undef)) (x:Operand):R w e (ev tm x) (a.eval x):=by
 cases x with
 | tmp t=>
   show R w e (tm.getD t .dead) (a.tmps.getD t undef)
   rw [List.getD_eq_getElem?_getD]
   cases ht:tm[t]? with
   | none=>simp only [Option.getD_none];unfold R;trivial
   | some p=>exact h t p ht
 | const v=>exact GK v
 | global g=>unfold ev R;trivial
 | func f=>unfold ev R;exact⟨#[],rfl,by unfold Rs;rfl⟩
def Nv:Exit→Act→World→Prop:=fun _ _ _=>False
theorem sB {K:Act→World→Prop} {Q:Exit→Act→World→Prop} (h:o.wp P a w K Nv):o.wp P a w K Q:=by
 unfold Oper.wp at *
 generalize (execOp a.eval o).run P w=r at *
 cases r with
 | ok n w'=>
   cases n<;>simp only [Oper.upon] at h ⊢
   case value u=>exact h
   case skip=>exact h
   case defer d=>exact h
   case enter f args=>
    refine Calls.mono h fun e w'' he=>?_
    cases e with
    | returned u=>exact he
    | panicked c=>exact he.elim
    | outgrown=>obtain⟨_,_,hh⟩:=he;exact hh.elim
   case row row args=>exact h
 | halt x w'=>
   cases x<;>simp only [Oper.upon] at h
   case panic u=>exact h.elim
theorem SR.aop (hc:dD P c) (h:SR w0 fz M st a w e) (hs:Ax.aop c o.op (ev st.tm) st.h st.nx=some out) (hp : ∀p∈out.pre,p) :
 o.wp P a w (fun a' w'=>∃e',SR w0 fz M ⟨put st.tm o.dst out.v,out.eff++st.h,fO st.nx out.eff⟩ a' w' e') Nv:=by
 have:=KW hc hs hp (fun x _=>CU h.tm x) h.sees (fun k hk _ hon=>by have:=h.lt k hon;omega)
 refine Oper.wp_mono ?_ this
 intro a' w' hK
 obtain⟨u,e',rfl,hpost⟩:=hK
 refine⟨e',h.step hpost fun id o hid=>?_⟩
 rw [p8] at hid
 split at hid
 ·rename_i h1;exact .inl (by rw [h1];exact hid)
 ·rename_i h1;exact .inr ⟨h1,hid⟩
theorem SR.ncall {n:H8} (hc:dD P c) (h:SR w0 fz M st a w e) (hs:Ax.ncall c o.op (ev st.tm) st.h st.nx=some n) (hp : ∀p∈n.pre,p) :
 o.wp P a w (fun a' w'=>∃x,n.Q x∧∃e',SR w0 fz M ⟨put st.tm o.dst (n.v x),n.eff x++st.h,fO st.nx (n.eff x)⟩ a' w' e') Nv:=by
 have:=K5 hc hs hp (fun x _=>CU h.tm x) h.sees (fun k hk hon=>by have:=h.lt k hon;omega)
 refine Oper.wp_mono ?_ this
 intro a' w' hK
 obtain⟨x,hx,u,e',rfl,hpost⟩:=hK
 refine⟨x,hx,e',h.step hpost fun id o hid=>?_⟩
 rw [p8] at hid
 split at hid
 ·rename_i h1;exact .inl (by rw [h1];exact hid)
 ·rename_i h1;exact .inr ⟨h1,hid⟩
theorem SR.skip (h:SR w0 fz M st a w e) (d:Option Nat):SR w0 fz M ⟨put st.tm d (.tup []),st.h,st.nx⟩ (a.put d undef) w e:=by
 refine⟨?_,?_,h.ob,h.lo,h.lt,h.dis,h.bd,h.ez,h.fzb,h.low,h.root,?_⟩
 ·show (a.put d undef).tmps.size =(put st.tm d _).length
  rw [Bg,←h.size]
  cases d<;>simp [Act.put]
 ·intro t p hp'
  have:=Jg h.size h.tm (d:=d) (u:=undef) (v:=.tup []) (by unfold R;exact⟨#[],rfl,by unfold Rs;rfl⟩) t p hp'
  cases d<;>exact this
 ·have:=h.defers
  cases d<;>exact this
theorem SR.refine_ (h:SR w0 fz M st a w e) {t:Nat} {p q:PV} (ht:st.tm.getD t .dead =p) (hq : ∀u,R w e p u→R w e q u):SR w0 fz M ⟨st.tm.set t q,st.h,st.nx⟩ a w e:=by
 refine⟨by show a.tmps.size=(st.tm.set t q).length;rw [List.length_set];exact h.size,?_,h.ob,h.lo,h.lt,h.dis,h.bd,h.ez,h.fzb,h.low,h.root,h.defers⟩
 intro s r hr
 simp only [List.getElem?_set] at hr
 by_cases hts:t=s
 ·subst hts
  rw [if_pos rfl] at hr
  split at hr
  ·rename_i hlt
   cases hr
   refine hq _ (h.tm t p ?_)
   rw [←ht,List.getD_eq_getElem?_getD,List.getElem?_eq_getElem hlt]
   rfl
  ·cases hr
 ·rw [if_neg hts] at hr
  exact h.tm s r hr
end
open Go.RowKit
section
variable {P:Program} {w0 w:World} {fz:Nat→Prop} {M:ij} {a:Act} {e:Env}
theorem wB {ops:Array Oper} {dsts:List (Option Nat)} (hdst:dsts=ops.toList.map (·.dst)) {j t:Nat} (hj:dsts.getD j none=some t) : ∀tmps:Array Value,yielded ops tmps j=match tmps[t]? with | some (.bool b)=>some b | _=>none:=by
 intro tmps
 have h1:(ops[j]?).bind (·.dst)=some t:=by
  rw [hdst,List.getD_eq_getElem?_getD,List.getElem?_map,Array.getElem?_toList] at hj
  cases ho:ops[j]? with
  | none=>rw [ho] at hj;cases hj
  | some o=>rw [ho] at hj;exact hj
 unfold yielded
 rw [h1]
 rfl
theorem OT {tm:List PV} (hs:a.tmps.size=tm.length) (h : ∀(t:Nat) (p:PV),tm[t]? =some p→R w e p (a.tmps.getD t undef)) {t:Nat} {p:PV} (hp:tm.getD t .dead =p) (hd:p≠.dead) : ∃u,a.tmps[t]? =some u∧R w e p u:=by
 rw [List.getD_eq_getElem?_getD] at hp
 cases ht:tm[t]? with
 | none=>rw [ht] at hp;exact absurd hp.symm hd
 | some q=>
   rw [ht] at hp
   simp only [Option.getD_some] at hp
   subst hp
   have hlt:t<a.tmps.size:=by rw [hs];exact (List.getElem?_eq_some_iff.1 ht).1
   refine⟨a.tmps[t],Array.getElem?_eq_getElem hlt,?_⟩
   have:=h t q ht
   rwa [Array.getD_eq_getD_getElem?,Array.getElem?_eq_getElem hlt] at this
theorem Nl {ops:Array Oper} {dsts:List (Option Nat)} (hdst:dsts=ops.toList.map (·.dst)) {tm:List PV} (hs:a.tmps.size=tm.length) (h : ∀(t:Nat) (p:PV),tm[t]? =some p→R w e p (a.tmps.getD t undef)) {j t:Nat} {p:PV} {x:Bool} (hj:dsts.getD j none=some t) (hp:tm.getD t .dead =p) (hx:isB p=some x) :
 yielded ops a.tmps j=some x:=by
 obtain⟨u,h1,h2⟩:=OT hs h hp (fun hh=>by subst hh;cases hx)
 rw [ka hx] at h2
 subst h2
 rw [wB hdst hj,h1]
theorem Oo {ops:Array Oper} {dsts:List (Option Nat)} (hdst:dsts=ops.toList.map (·.dst)) {tm:List PV} (hs:a.tmps.size=tm.length) (h : ∀(t:Nat) (p:PV),tm[t]? =some p→R w e p (a.tmps.getD t undef)) {j t:Nat} (hj:dsts.getD j none=some t) (hp:tm.getD t .dead =.tup []) :
 yielded ops a.tmps j=none:=by
 obtain⟨u,h1,h2⟩:=OT hs h hp (fun hh=>by cases hh)
 unfold R at h2
 obtain⟨vs,rfl, -⟩:=h2
 rw [wB hdst hj,h1]
theorem F5 (x:Bool):isB (Ay x)=some x:=by cases x<;>rfl
theorem DS {p:PV} {x:Bool} (hx:isB p=some x) : ∀u,R w e p u→R w e (Ay x) u:=fun u h=>(ka (F5 x)).2 ((ka hx).1 h)
theorem Lh {g:Rg} (hc:dD P g.c) (hd:g.draw=false) {ops:Array Oper} (hdst:g.dsts=ops.toList.map (·.dst)) {Q:AS→Prop} {Q':Exit→Act→World→Prop} (hQ : ∀st a w e,Q st→SR w0 fz M st a w e→Q' .normal a w) :
 ∀(l:List Oper) (i:Nat) (ps ts:List (List Nat)) (effs:List AH) (tm:List PV) (nx:Nat) (a:Act) (w:World) (e:Env),o3 g Q l i ps ts effs tm nx→SR w0 fz M ⟨tm,effs.foldl (fun h e=>e++h) g.h0,nx⟩ a w e→wpList P ops Q' l a w:=by
 intro l
 induction l with
 | nil=>
   intro i ps ts effs tm nx a w e h hs
   unfold o3 hold at h
   rw [hd] at h
   exact hQ _ a w e (h ()) hs
 | cons o r ih=>
   intro i ps ts effs tm nx a w e h hs
   unfold o3 at h
   rw [hd] at h
   simp only [Bool.false_eq_true,if_false] at h
   have hskip : ∀tm':List PV,SR w0 fz M ⟨tm',effs.foldl (fun h e=>e++h) g.h0,nx⟩ a w e→Region.wanted o (yielded ops a.tmps)=false→o3 g Q r (i+1) (ps++[[]]) (ts++[[]]) (effs++[[]]) (put tm' o.dst (.tup [])) nx→wpList P ops Q' (o::r) a w:=fun tm' hs' hw h'=>by
    unfold wpList
    rw [if_neg (by rw [hw];exact Bool.false_ne_true)]
    refine ih _ _ _ _ _ _ _ _ e h' ?_
    rw [List.foldl_append]
    exact hs'.skip o.dst
   have hrun : ∀tm':List PV,SR w0 fz M ⟨tm',effs.foldl (fun h e=>e++h) g.h0,nx⟩ a w e→Region.wanted o (yielded ops a.tmps)=true→(match Ax.ncall g.c o.op (ev tm') (effs.foldl (fun h e=>e++h) g.h0) nx with
    | some n=>E4 n.pre (∀x:Nd n.α,n.Q x.x→o3 g Q r (i+1) (ps++[[]]) (ts++[[]]) (effs++[n.eff x.x]) (put tm' o.dst (n.v x.x)) (fO nx (n.eff x.x)))
    | none=>match Ax.aop g.c o.op (ev tm') (effs.foldl (fun h e=>e++h) g.h0) nx with
    | some out=>E4 out.pre (o3 g Q r (i+1) (ps++[[]]) (ts++[[]]) (effs++[out.eff]) (put tm' o.dst out.v) (fO nx out.eff))
    | none=>False)→wpList P ops Q' (o::r) a w:=fun tm' hs' hw h'=>by
    unfold wpList
    rw [if_pos hw]
    split at h'
    ·rename_i n hn
     obtain⟨h1,h2⟩:=ns h'
     refine .inl (sB (Oper.wp_mono ?_ (hs'.ncall hc hn h1)))
     rintro a' w' ⟨x,hx,e',h3⟩
     refine ih _ _ _ _ _ _ _ _ e' (h2 ⟨x⟩ hx) ?_
     rw [List.foldl_append]
     exact h3
    split at h'
    ·rename_i out ho
     obtain⟨h1,h2⟩:=ns h'
     refine .inl (sB (Oper.wp_mono ?_ (hs'.aop hc ho h1)))
     rintro a' w' ⟨e',h3⟩
     refine ih _ _ _ _ _ _ _ _ e' h2 ?_
     rw [List.foldl_append]
     exact h3
    ·exact h'.elim
   have href : ∀(t:Nat) (p:PV) (x:Bool),tm.getD t .dead =p→isB p=some x→SR w0 fz M ⟨tm.set t (Ay x),effs.foldl (fun h e=>e++h) g.h0,nx⟩ a w e:=fun t p x hp hx=>hs.refine_ hp (DS hx)
   split at h
   ·rename_i hg
    have hw:Region.wanted o (yielded ops a.tmps)=true:=by unfold Region.wanted;rw [hg]
    split at h
    ·rename_i t _ _ hop
     split at h
     ·rename_i x hx
      cases hxx:x
      ·exact hrun _ (by have:=href t _ x hx rfl;rwa [hxx] at this) hw (h.2 hxx)
      ·exact hrun _ (by have:=href t _ x hx rfl;rwa [hxx] at this) hw (h.1 hxx)
     ·rename_i x hx
      cases hxx:x
      ·exact hrun _ (by have:=href t _ (!x) hx rfl;rwa [hxx] at this) hw (h.1 hxx)
      ·exact hrun _ (by have:=href t _ (!x) hx rfl;rwa [hxx] at this) hw (h.2 hxx)
     ·exact hrun _ hs hw h
    ·exact hrun _ hs hw h
   ·rename_i j want hg
    have hwb : ∀(t:Nat) (p:PV) (x:Bool),g.dsts.getD j none=some t→tm.getD t .dead =p→isB p=some x→Region.wanted o (yielded ops a.tmps)=(x==want):=fun t p x hj hp hx=>by
     unfold Region.wanted
     rw [hg]
     simp only [Nl hdst hs.size hs.tm hj hp hx]
     cases x<;>cases want<;>rfl
    split at h
    ·rename_i t hj
     split at h
     ·rename_i x hx
      by_cases hxw:x=want
      ·exact hrun _ (by have:=href t _ x hx rfl;rwa [hxw] at this) (by rw [hwb t _ x hj hx rfl,hxw];cases want<;>rfl) (h.1 hxw)
      ·have hxw:x=!want:=by cases x<;>cases want<;>simp_all
       exact hskip _ (by have:=href t _ x hx rfl;rwa [hxw] at this) (by rw [hwb t _ x hj hx rfl,hxw];cases want<;>rfl) (h.2 hxw)
     ·rename_i x hx
      by_cases hxw:x=want
      ·exact hskip _ (by have:=href t _ (!x) hx rfl;rwa [hxw] at this) (by rw [hwb t _ (!x) hj hx rfl,hxw];cases want<;>rfl) (h.2 hxw)
      ·have hxw:x=!want:=by cases x<;>cases want<;>simp_all
       exact hrun _ (by have:=href t _ (!x) hx rfl;rw [hxw,Bool.not_not] at this;exact this) (by rw [hwb t _ (!x) hj hx rfl,hxw];cases want<;>rfl) (h.1 hxw)
     ·rename_i hx
      have hw:=hwb t _ true hj hx rfl
      split at h
      ·rename_i hww;exact hrun _ hs (by rw [hw,hww];rfl) h
      ·rename_i hww;exact hskip _ hs (by rw [hw];cases want<;>simp_all) h
     ·rename_i hx
      have hw:=hwb t _ false hj hx rfl
      split at h
      ·rename_i hww;exact hskip _ hs (by rw [hw,hww];rfl) h
      ·rename_i hww;exact hrun _ hs (by rw [hw];cases want<;>simp_all) h
     ·rename_i hx
      exact hskip _ hs (by unfold Region.wanted;rw [hg];simp only [Oo hdst hs.size hs.tm hj hx];rfl) h
     ·exact h.elim
    ·exact h.elim
end
open Go.RowKit
def eqv (p q:PV):Prop:=p=q∨∃x,isB p=some x∧isB q=some x
def Eqv (l m:List PV):Prop:=l.length=m.length∧∀(t:Nat) (p q:PV),l[t]? =some p→m[t]? =some q→eqv p q
theorem eqv.refl (p:PV):eqv p p:=.inl rfl
theorem eqv.R {p q:PV} (h:eqv p q) {w:World} {e:Env} {u:Value} : R w e p u↔R w e q u:=by
 rcases h with rfl | ⟨x,h1,h2⟩
 ·exact Iff.rfl
 ·exact (ka h1).trans (ka h2).symm
theorem eqv.isB {p q:PV} (h:eqv p q) {x:Bool} (hp:Ax.isB p=some x):Ax.isB q=some x:=by
 rcases h with rfl | ⟨y,h1,h2⟩
 ·exact hp
 ·rw [h1] at hp;cases hp;exact h2
theorem Eqv.getD {l m:List PV} (h:Eqv l m) (t:Nat):eqv (l.getD t .dead) (m.getD t .dead):=by
 rw [List.getD_eq_getElem?_getD,List.getD_eq_getElem?_getD]
 by_cases ht:t<l.length
 ·have hm:t<m.length:=by rw [←h.1];exact ht
  exact h.2 t _ _ (by rw [List.getElem?_eq_getElem ht];rfl) (by rw [List.getElem?_eq_getElem hm];rfl)
 ·rw [List.getElem?_eq_none (by omega),List.getElem?_eq_none (by rw [←h.1];omega)]
  exact .refl _
theorem Eqv.put {l m:List PV} (h:Eqv l m) (d:Option Nat) (v:PV):Eqv (put l d v) (Ax.put m d v):=by
 cases d with
 | none=>exact h
 | some d=>
   refine⟨by simp [Ax.put,h.1],fun t p q hp hq=>?_⟩
   simp only [Ax.put,List.getElem?_set] at hp hq
   split at hp
   ·rename_i hd
    rw [if_pos hd] at hq
    split at hp
    ·split at hq
     ·cases hp;cases hq;exact .refl _
     ·cases hq
    ·cases hp
   ·rename_i hd
    rw [if_neg hd] at hq
    exact h.2 t p q hp hq
theorem Eqv.set {l m:List PV} (h:Eqv l m) {t:Nat} {p:PV} {x:Bool} (hp:l.getD t .dead =p) (hx:isB p=some x):Eqv (l.set t (Ay x)) m:=by
 refine⟨by simp [h.1],fun s r q hr hq=>?_⟩
 rw [List.getElem?_set] at hr
 split at hr
 ·rename_i hts
  subst hts
  split at hr
  ·cases hr
   refine .inr ⟨x,F5 x,?_⟩
   have:=(h.getD t).isB (x:=x) (by rw [hp];exact hx)
   rwa [List.getD_eq_getElem?_getD,hq] at this
  ·cases hr
 ·exact h.2 s r q hr hq
def TV (dsts:List (Option Nat)) (tm0:List PV) (vals:List PV):List PV:=(dsts.zip vals).foldl (fun tm x=>put tm x.1 x.2) tm0
theorem L3 {dsts:List (Option Nat)} {tm0 vals:List PV} {d:Option Nat} (h:dsts[vals.length]? =some d) (v:PV):TV dsts tm0 (vals++[v])=put (TV dsts tm0 vals) d v:=by
 unfold TV
 have : ∀(ds:List (Option Nat)) (vs:List PV),ds[vs.length]? =some d→ds.zip (vs++[v])=ds.zip vs++[(d,v)]:=by
  intro ds
  induction ds with
  | nil=>intro vs h;simp at h
  | cons x ds ih=>
    intro vs h
    cases vs with
    | nil=>simp at h;subst h;simp
    | cons y vs=>simp at h;simp [ih vs h]
 rw [this dsts vals h,List.foldl_append]
 rfl
def ci:List Oper→List (List Nat)→List (List Nat)
 | [],ps=>ps
 | o::r,ps=>ci r (ps++[closure ps o])
def iE (dsts:List (Option Nat)) (o:Oper) (tm:List PV) (b:Bool):Prop:=
 match o.guard with
 | none=>b=true
 | some (k,want)=>∃t,dsts.getD k none=some t∧((∃x,isB (tm.getD t .dead)=some x∧(x==want)=b)∨(tm.getD t .dead =.tup []∧b=false))
def rJ (g:Rg) (tm0:List PV) (cl:List (List Nat)) (vals:List PV) (effs:List AH) (nxs:List Nat) (ts:List (List Nat)) (j:Nat) (o:Oper):Prop:=
 (∃out tm,aop g.c o.op (ev tm) (cut (ts.getD j []) (viewAt (cl.getD j []) 0 (effs.take j) g.h0)) (nxs.getD j 0)=some out∧(∀p∈out.pre,p)∧vals[j]? =some out.v∧effs[j]? =some out.eff∧
   nxs[j+1]? =some (fO (nxs.getD j 0) out.eff)∧Eqv tm (TV g.dsts tm0 (vals.take j))∧iE g.dsts o (TV g.dsts tm0 (vals.take j)) true)∨
 (vals[j]? =some (.tup [])∧effs[j]? =some []∧nxs[j+1]? =some (nxs.getD j 0)∧iE g.dsts o (TV g.dsts tm0 (vals.take j)) false)
structure Tr (g:Rg) (ops:List Oper) (tm0:List PV) (n0:Nat) (cl:List (List Nat)) (vals:List PV) (effs:List AH) (nxs:List Nat) (ts:List (List Nat)):Prop where
 st:nxs.getD 0 0=n0
 lenE:effs.length=vals.length
 lenN:nxs.length=vals.length+1
 lenT:ts.length=vals.length
 step : ∀j o,j<vals.length→ops[j]? =some o→rJ g tm0 cl vals effs nxs ts j o
theorem rJ.app {g:Rg} {tm0:List PV} {cl:List (List Nat)} {vals:List PV} {effs:List AH} {nxs:List Nat} {ts:List (List Nat)} {j:Nat} {o:Oper} (h:rJ g tm0 cl vals effs nxs ts j o) (hj:j<vals.length) (hE:effs.length=vals.length) (hN:nxs.length=vals.length+1) (hT:ts.length=vals.length) (v:PV) (x:AH) (n:Nat) (T:List Nat) :
 rJ g tm0 cl (vals++[v]) (effs++[x]) (nxs++[n]) (ts++[T]) j o:=by
 have e1:(vals++[v]).take j=vals.take j:=List.take_append_of_le_length (by omega)
 have e2:(effs++[x]).take j=effs.take j:=List.take_append_of_le_length (by omega)
 have e3:(nxs++[n]).getD j 0=nxs.getD j 0:=by rw [List.getD_eq_getElem?_getD,List.getD_eq_getElem?_getD,List.getElem?_append_left (by omega)]
 have e4:(vals++[v])[j]? =vals[j]? :=List.getElem?_append_left hj
 have e5:(effs++[x])[j]? =effs[j]? :=List.getElem?_append_left (by omega)
 have e6:(nxs++[n])[j+1]? =nxs[j+1]? :=List.getElem?_append_left (by omega)
 have e7:(ts++[T]).getD j []=ts.getD j []:=by rw [List.getD_eq_getElem?_getD,List.getD_eq_getElem?_getD,List.getElem?_append_left (by omega)]
 unfold rJ at *
 rw [e1,e2,e3,e4,e5,e6,e7]
 exact h
set_option maxHeartbeats 4000000 in
theorem E8 {g:Rg} (hd:g.draw=true) {Q:AS→Prop} {ops:List Oper} (hdst:g.dsts=ops.map (·.dst)) {tm0:List PV} {n0:Nat} {cl:List (List Nat)} :
 ∀(l:List Oper) (ps ts:List (List Nat)) (vals:List PV) (effs:List AH) (nxs:List Nat) (tm:List PV) (nx:Nat),(∃pre,ops=pre++l∧pre.length=vals.length)→cl=ci l ps→ps.length=vals.length→Tr g ops tm0 n0 cl vals effs nxs ts→nxs.getD vals.length 0=nx→Eqv tm (TV g.dsts tm0 vals)→
  o3 g Q l vals.length ps ts effs tm nx→∃vals' effs' nxs' ts' tm',vals'.length=ops.length∧Tr g ops tm0 n0 cl vals' effs' nxs' ts'∧apart ts' cl effs' 0=true∧Eqv tm' (TV g.dsts tm0 vals')∧Q ⟨tm',effs'.foldl (fun h e=>e++h) g.h0,nxs'.getD ops.length 0⟩:=by
 intro l
 induction l with
 | nil=>
   rintro ps ts vals effs nxs tm nx ⟨pre,h1,h2⟩ hcl _ htr hnx he h
   unfold o3 hold at h
   rw [hd] at h
   have : vals.length=ops.length:=by rw [h1,List.append_nil,h2]
   split at h
   ·rename_i hap
    refine⟨vals,effs,nxs,ts,tm,this,htr,?_,he,by rw [←this,hnx];exact h ()⟩
    rw [hcl,ci]
    simpa using hap
   ·exact h.elim
 | cons o r ih=>
   rintro ps ts vals effs nxs tm nx ⟨pre,h1,h2⟩ hcl hps htr hnx he h
   unfold o3 at h
   rw [hd] at h
   simp only [if_true] at h
   have hoj:ops[vals.length]? =some o:=by rw [h1,←h2,List.getElem?_append_right (Nat.le_refl _),Nat.sub_self];rfl
   have hdj:g.dsts[vals.length]? =some o.dst:=by rw [hdst,List.getElem?_map,hoj];rfl
   have hclj:cl.getD vals.length []=closure ps o:=by
    have : ∀(l:List Oper) (qs:List (List Nat)) (k:Nat),k<qs.length→(ci l qs).getD k []=qs.getD k []:=by
     intro l
     induction l with
     | nil=>intro qs k _;rfl
     | cons x l ihl=>
       intro qs k hk
       rw [ci,ihl _ k (by simp;omega),List.getD_eq_getElem?_getD,List.getD_eq_getElem?_getD,List.getElem?_append_left hk]
    rw [hcl,ci,this _ _ _ (by simp [hps]),List.getD_eq_getElem?_getD,List.getElem?_append_right (by omega),hps,Nat.sub_self]
    rfl
   have next : ∀(tm':List PV) (v:PV) (x:AH) (n:Nat) (T:List Nat),Eqv tm' (TV g.dsts tm0 vals)→rJ g tm0 cl (vals++[v]) (effs++[x]) (nxs++[n]) (ts++[T]) vals.length o→
    o3 g Q r (vals.length+1) (ps++[closure ps o]) (ts++[T]) (effs++[x]) (put tm' o.dst v) n→∃vals' effs' nxs' ts' tm',vals'.length=ops.length∧Tr g ops tm0 n0 cl vals' effs' nxs' ts'∧apart ts' cl effs' 0=true∧Eqv tm' (TV g.dsts tm0 vals')∧Q ⟨tm',effs'.foldl (fun h e=>e++h) g.h0,nxs'.getD ops.length 0⟩:=by
    intro tm' v x n T heq hst hr
    refine ih (ps++[closure ps o]) (ts++[T]) (vals++[v]) (effs++[x]) (nxs++[n]) (put tm' o.dst v) n ⟨pre++[o],by rw [h1];simp,by simp [h2]⟩ (by rw [hcl];rfl) (by simp [hps]) ⟨by rw [←htr.st,List.getD_eq_getElem?_getD,List.getD_eq_getElem?_getD,List.getElem?_append_left (by rw [htr.lenN];omega)],by simp [htr.lenE],by simp [htr.lenN],by simp [htr.lenT],fun j oj hj hoj'=>?_⟩ ?_ ?_ (by rw [List.length_append];exact hr)
    ·by_cases hjl:j<vals.length
     ·exact (htr.step j oj hjl hoj').app hjl htr.lenE htr.lenN htr.lenT v x n T
     ·have : j=vals.length:=by simp at hj;omega
      subst this
      rw [hoj] at hoj'
      cases hoj'
      exact hst
    ·rw [List.length_append,List.getD_eq_getElem?_getD,List.getElem?_append_right (by rw [htr.lenN];exact Nat.le_refl _),htr.lenN]
     simp
    ·rw [L3 hdj]
     exact heq.put _ _
   have t1 : ∀v:PV,(vals++[v]).take vals.length=vals:=fun v=>List.take_left
   have t2 : ∀x:AH,(effs++[x]).take vals.length=effs:=fun x=>by rw [←htr.lenE];exact List.take_left
   have t3 : ∀n:Nat,(nxs++[n]).getD vals.length 0=nx:=fun n=>by rw [List.getD_eq_getElem?_getD,List.getElem?_append_left (by rw [htr.lenN];omega),←List.getD_eq_getElem?_getD];exact hnx
   have t4 : ∀v:PV,(vals++[v])[vals.length]? =some v:=fun v=>by simp
   have t5 : ∀x:AH,(effs++[x])[vals.length]? =some x:=fun x=>by rw [←htr.lenE];simp
   have t6 : ∀n:Nat,(nxs++[n])[vals.length+1]? =some n:=fun n=>by rw [←htr.lenN];simp
   have t7 : ∀T:List Nat,(ts++[T]).getD vals.length []=T:=fun T=>by rw [List.getD_eq_getElem?_getD,←htr.lenT];simp
   have hrun : ∀tm':List PV,Eqv tm' (TV g.dsts tm0 vals)→iE g.dsts o (TV g.dsts tm0 vals) true→(match Ax.aop g.c o.op (ev tm') (cut (Kz o.op (ev tm') (viewAt (closure ps o) 0 effs g.h0)) (viewAt (closure ps o) 0 effs g.h0)) nx with
    | some out=>E4 out.pre (o3 g Q r (vals.length+1) (ps++[closure ps o]) (ts++[Kz o.op (ev tm') (viewAt (closure ps o) 0 effs g.h0)]) (effs++[out.eff]) (put tm' o.dst out.v) (fO nx out.eff))
    | none=>False)→∃vals' effs' nxs' ts' tm',vals'.length=ops.length∧Tr g ops tm0 n0 cl vals' effs' nxs' ts'∧apart ts' cl effs' 0=true∧Eqv tm' (TV g.dsts tm0 vals')∧Q ⟨tm',effs'.foldl (fun h e=>e++h) g.h0,nxs'.getD ops.length 0⟩:=by
    intro tm' heq hgd h'
    split at h'
    ·rename_i out ho
     obtain⟨h3,h4⟩:=ns h'
     refine next tm' out.v out.eff _ _ heq (.inl ⟨out,tm',?_,h3,t4 _,t5 _,?_,?_,?_⟩) h4
     ·rw [hclj,t2,t3,t7];exact ho
     ·rw [t6,t3]
     ·rw [t1];exact heq
     ·rw [t1];exact hgd
    ·exact h'.elim
   have hskip : ∀tm':List PV,Eqv tm' (TV g.dsts tm0 vals)→iE g.dsts o (TV g.dsts tm0 vals) false→o3 g Q r (vals.length+1) (ps++[closure ps o]) (ts++[[]]) (effs++[[]]) (put tm' o.dst (.tup [])) nx→
    ∃vals' effs' nxs' ts' tm',vals'.length=ops.length∧Tr g ops tm0 n0 cl vals' effs' nxs' ts'∧apart ts' cl effs' 0=true∧Eqv tm' (TV g.dsts tm0 vals')∧Q ⟨tm',effs'.foldl (fun h e=>e++h) g.h0,nxs'.getD ops.length 0⟩:=by
    intro tm' heq hgd h'
    refine next tm' (.tup []) [] _ [] heq (.inr ⟨t4 _,t5 _,?_,?_⟩) h'
    ·rw [t6,t3]
    ·rw [t1];exact hgd
   have href : ∀(t:Nat) (p:PV) (x:Bool),tm.getD t .dead =p→isB p=some x→Eqv (tm.set t (Ay x)) (TV g.dsts tm0 vals):=fun t p x hp hx=>he.set hp hx
   split at h
   ·rename_i hg
    have hw:iE g.dsts o (TV g.dsts tm0 vals) true:=by unfold iE;rw [hg]
    split at h
    ·rename_i t _ _ hop
     split at h
     ·rename_i x hx
      cases hxx:x
      ·exact hrun _ (by have:=href t _ x hx rfl;rwa [hxx] at this) hw (h.2 hxx)
      ·exact hrun _ (by have:=href t _ x hx rfl;rwa [hxx] at this) hw (h.1 hxx)
     ·rename_i x hx
      cases hxx:x
      ·exact hrun _ (by have:=href t _ (!x) hx rfl;rwa [hxx] at this) hw (h.1 hxx)
      ·exact hrun _ (by have:=href t _ (!x) hx rfl;rwa [hxx] at this) hw (h.2 hxx)
     ·exact hrun _ he hw h
    ·exact hrun _ he hw h
   ·rename_i j want hg
    have hwb : ∀(t:Nat) (p:PV) (x b:Bool),g.dsts.getD j none=some t→tm.getD t .dead =p→isB p=some x→(x==want)=b→iE g.dsts o (TV g.dsts tm0 vals) b:=fun t p x b hj hp hx hb=>by
     unfold iE
     rw [hg]
     exact⟨t,hj,.inl ⟨x,(he.getD t).isB (by rw [hp];exact hx),hb⟩⟩
    split at h
    ·rename_i t hj
     split at h
     ·rename_i x hx
      by_cases hxw:x=want
      ·exact hrun _ (by have:=href t _ x hx rfl;rwa [hxw] at this) (hwb t _ x _ hj hx rfl (by rw [hxw];cases want<;>rfl)) (h.1 hxw)
      ·have hxw:x=!want:=by cases x<;>cases want<;>simp_all
       exact hskip _ (by have:=href t _ x hx rfl;rwa [hxw] at this) (hwb t _ x _ hj hx rfl (by rw [hxw];cases want<;>rfl)) (h.2 hxw)
     ·rename_i x hx
      by_cases hxw:x=want
      ·exact hskip _ (by have:=href t _ (!x) hx rfl;rwa [hxw] at this) (hwb t _ (!x) _ hj hx rfl (by rw [hxw];cases want<;>rfl)) (h.2 hxw)
      ·have hxw:x=!want:=by cases x<;>cases want<;>simp_all
       exact hrun _ (by have:=href t _ (!x) hx rfl;rw [hxw,Bool.not_not] at this;exact this) (hwb t _ (!x) _ hj hx rfl (by rw [hxw];cases want<;>rfl)) (h.1 hxw)
     ·rename_i hx
      split at h
      ·rename_i hww;exact hrun _ he (hwb t _ true _ hj hx rfl (by rw [hww];rfl)) h
      ·rename_i hww;exact hskip _ he (hwb t _ true _ hj hx rfl (by cases want<;>simp_all)) h
     ·rename_i hx
      split at h
      ·rename_i hww;exact hskip _ he (hwb t _ false _ hj hx rfl (by rw [hww];rfl)) h
      ·rename_i hww;exact hrun _ he (hwb t _ false _ hj hx rfl (by cases want<;>simp_all)) h
     ·rename_i hx
      refine hskip _ he ?_ h
      unfold iE
      rw [hg]
      refine⟨t,hj,.inr ⟨?_,rfl⟩⟩
      rcases he.getD t with h3 | ⟨y,h3, -⟩
      ·rw [←h3];exact hx
      ·rw [hx] at h3;cases h3
     ·exact h.elim
    ·exact h.elim
end Ax
end Go.Proofs.YtjjonmhpgkahoaaGreatDoor
